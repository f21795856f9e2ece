/- Part 1 of the texts that lead to this claim: the walks of the functions and the plain law, in order. -/
import Derived.Test.YtgfpjjppeldhbaaGreatDoorProg
import Derived.WalkKit
import Derived.WalkSpells
import Derived.WalkLawsBesides
import Derived.BigQuiet
import Derived.Deep.QuietTactic
import Derived.Lib.Hide
import Derived.Lib.ConvBytes
import Derived.Deep.DeepCutAuto
import Derived.Laws.AppendOwn
import Derived.Laws.OwnMore
import Derived.Stop.BytesEq
import Derived.Deep.Quiet
import Derived.StillTail
import Derived.DeepKeys5
import Derived.StringKeys
import Derived.Maps.OwnOps
import Derived.Maps.Range

/- Small facts that all walks of this seat use. -/
namespace Go.Proofs.YtgfpjjppeldhbaaGreatDoor
open Go.RowKit

theorem below_drewN {B : Nat} {a w : World} (h : Below B a w) (n : Nat) : Below B a (w.drewN n) := ⟨h.os, h.tape, h.output, h.size, h.block⟩
theorem quiet_eq {P : Program} {f : FuncId} {args : Array Value} {w : World} {n : Nat} {v : Value}
    (h : Calls P f args (w.drewN n) fun e w' => e = .returned v ∧ w.drewN n = w') : Calls P f args (w.drewN n) fun e w'' => e = .returned v ∧ ∃ m, w'' = w.drewN m :=
  h.mono fun _ _ ⟨he, hm⟩ => ⟨he, n, hm.symm⟩

theorem ret_int {k : IntKind} {a b : Int} (h : a = b) : Ending.returned (.int k a) = .returned (.int k b) := by rw [h]

/-- Byte k of a string, as a number; 0 behind its end. -/
def bt (s : ByteArray) (k : Nat) : Int := if h : k < s.size then ((s[k]'h).toNat : Int) else 0
theorem bt_get {s : ByteArray} {k : Nat} (h : k < s.size) : ((s[k]'h).toNat : Int) = bt s k := by unfold bt; rw [dif_pos h]
theorem bt_nonneg (s : ByteArray) (k : Nat) : 0 ≤ bt s k := by unfold bt; split <;> omega
theorem bt_le (s : ByteArray) (k : Nat) : bt s k ≤ 255 := by
  unfold bt; split
  · have := (s[k]).toNat_lt; omega
  · omega

theorem ret_bool {a b : Bool} (h : a = b) : Ending.returned (.bool a) = .returned (.bool b) := by rw [h]

theorem ret_str {a b : ByteArray} (h : a = b) : Ending.returned (.string a) = .returned (.string b) := by rw [h]


theorem toList_inj {a b : ByteArray} : a.toList = b.toList ↔ a = b := by
  rw [ByteArray.toList_eq, ByteArray.toList_eq]
  exact ⟨fun h => ByteArray.ext (Array.toList_inj.mp h), fun h => by rw [h]⟩
theorem bel2 {w w1 w2 : World} (h : Below w.heap.size w w1) (k : Below w1.heap.size w1 w2) : Below w.heap.size w w2 := h.trans (k.mono h.size)

end Go.Proofs.YtgfpjjppeldhbaaGreatDoor

/- Memory: what a call keeps; rows of cells read and written whole; slices that read as lists; ids. No program is named here. -/
namespace Go.Proofs.YtgfpjjppeldhbaaGreatDoor
open Go.RowKit

/-! ### What a call keeps: every old block but those of S -/
structure Keep (S : List Nat) (w w' : World) : Prop where
  os : w'.os = w.os
  tape : w'.tape = w.tape
  output : w'.output = w.output
  size : w.heap.size ≤ w'.heap.size
  block : ∀ k, k < w.heap.size → k ∉ S → w'.heap[k]? = w.heap[k]?

theorem Keep.refl (S : List Nat) (w : World) : Keep S w w := ⟨rfl, rfl, rfl, Nat.le_refl _, fun _ _ _ => rfl⟩
theorem Keep.trans {S S' : List Nat} {a b c : World} (h : Keep S a b) (k : Keep S' b c) (hs : ∀ x ∈ S', x ∈ S ∨ a.heap.size ≤ x) : Keep S a c :=
  ⟨k.os.trans h.os, k.tape.trans h.tape, k.output.trans h.output, Nat.le_trans h.size k.size, fun i hi hn =>
    (k.block i (Nat.lt_of_lt_of_le hi h.size) (fun hm => (hs i hm).elim hn (by omega))).trans (h.block i hi hn)⟩
theorem Keep.mono {S S' : List Nat} {a b : World} (h : Keep S a b) (hs : ∀ x ∈ S, x ∈ S' ∨ a.heap.size ≤ x) : Keep S' a b :=
  ⟨h.os, h.tape, h.output, h.size, fun i hi hn => h.block i hi (fun hm => (hs i hm).elim hn (by omega))⟩
theorem Keep.alloc (w : World) (o : Obj) : Keep [] w (w.alloc o) := ⟨rfl, rfl, rfl, by simp, fun k hk _ => Below.heap_alloc _ _ _ hk⟩
theorem Keep.drew (w : World) : Keep [] w w.drew := ⟨rfl, rfl, rfl, Nat.le_refl _, fun _ _ _ => rfl⟩
theorem Keep.drewN (w : World) (n : Nat) : Keep [] w (w.drewN n) := ⟨rfl, rfl, rfl, Nat.le_refl _, fun _ _ _ => rfl⟩
theorem Keep.setCell (w : World) (p : Addr) (u : Value) : Keep [p.block] w (w.setCell p u) :=
  ⟨rfl, rfl, rfl, by simp [World.setCell], fun k _ hn => Below.heap_setCell _ _ _ _ (by simpa using hn)⟩
theorem Keep.below {B : Nat} {S : List Nat} {w w' : World} (h : Keep S w w') (hB : B ≤ w.heap.size) (hs : ∀ x ∈ S, B ≤ x) : Below B w w' :=
  ⟨h.os, h.tape, h.output, h.size, fun k hk => h.block k (by omega) (fun hm => by have := hs k hm; omega)⟩
theorem Keep.of_below {w w' : World} (h : Below w.heap.size w w') : Keep [] w w' := ⟨h.os, h.tape, h.output, h.size, fun k hk _ => h.block k hk⟩
theorem Keep.grown {w w' : World} {row : Option Nat} (h : w.grownBy w' row) : Keep row.toList w w' :=
  ⟨h.os, h.tape, h.output, h.size, fun k hk hn => h.block k hk (fun e => hn (by rw [← e]; simp))⟩
theorem Keep.cell {S : List Nat} {w w' : World} (h : Keep S w w') {p : Addr} (hp : p.block < w.heap.size) (hn : p.block ∉ S) : w'.cell? p = w.cell? p := World.cell?_of_block (w := w) (h.block p.block hp hn)
theorem Keep.frozen {S : List Nat} {w w' : World} (h : Keep S w w') {p : Addr} (hp : p.block < w.heap.size) (hn : p.block ∉ S) : w'.frozen? p = w.frozen? p := World.frozen?_of_block (w := w) (h.block p.block hp hn)
/-- A block that is none of S's stays none. -/
theorem not_later {S S' : List Nat} {w : World} {q : Nat} (h : q ∉ S) (hq : q < w.heap.size) (hs : ∀ x ∈ S', x ∈ S ∨ w.heap.size ≤ x) : q ∉ S' :=
  fun hm => (hs q hm).elim h (by omega)

/-! ### Rows of cells, read and written whole -/
def rowAt (w : World) (g o k : Nat) : Option (Array Value) :=
  match w.heap[g]? with
  | some (.cells c _ _) => if o + k ≤ c.size then some (c.extract o (o + k)) else none
  | _ => none
/-- The load of a struct or an array, behind a name that the walk does not open. -/
def ldS (t : TypeId) (a : Addr) : Sem Value := loadVar t a
def bdS (t : TypeId) (parts : Array (Nat × Value)) : Sem Value := Instr.build t parts
def stS (t : TypeId) (a : Addr) (v : Value) : Sem Unit := storeVar t a v

theorem rowAt_of_block {w w' : World} {g : Nat} (h : w'.heap[g]? = w.heap[g]?) (o k : Nat) : rowAt w' g o k = rowAt w g o k := by unfold rowAt; rw [h]
theorem Keep.row {S : List Nat} {w w' : World} (h : Keep S w w') {g : Nat} (hg : g < w.heap.size) (hn : g ∉ S) (o k : Nat) : rowAt w' g o k = rowAt w g o k := rowAt_of_block (h.block g hg hn) o k
theorem rowAt_lt {w : World} {g o k : Nat} {cs : Array Value} (h : rowAt w g o k = some cs) : g < w.heap.size := by
  rcases Nat.lt_or_ge g w.heap.size with hl | hl
  · exact hl
  · unfold rowAt at h; rw [Array.getElem?_eq_none hl] at h; cases h
theorem rowAt_size {w : World} {g o k : Nat} {cs : Array Value} (h : rowAt w g o k = some cs) : cs.size = k := by
  unfold rowAt at h
  split at h
  · split at h
    · injection h with h; subst h; simp; omega
    · cases h
  · cases h
theorem rowAt_cell {w : World} {g o k : Nat} {cs : Array Value} (h : rowAt w g o k = some cs) {j : Nat} (hj : j < k) : w.cell? ⟨g, o + j, none⟩ = cs[j]? := by
  unfold rowAt at h
  split at h
  · rename_i c t f hg
    split at h
    · injection h with h; subst h
      simp only [World.cell?, hg, Option.isSome_none, Bool.false_eq_true, if_false, Array.getElem?_extract]
      rw [if_pos (by omega)]
    · cases h
  · cases h
theorem rowAt_sub {w : World} {g o k : Nat} {cs : Array Value} (h : rowAt w g o k = some cs) {j m : Nat} (hj : j + m ≤ k) : rowAt w g (o + j) m = some (cs.extract j (j + m)) := by
  unfold rowAt at h ⊢
  split at h
  · rename_i c t f hg
    split at h
    · rename_i hle
      injection h with h; subst h
      rw [if_pos (by omega)]
      congr 1
      rw [Array.extract_extract]
      congr 1 <;> omega
    · cases h
  · cases h
@[simp, go_sem] theorem rowAt_drew (w : World) (g o k : Nat) : rowAt (w.drew) g o k = rowAt w g o k := rfl
@[simp, go_sem] theorem rowAt_drewN (w : World) (n g o k : Nat) : rowAt (w.drewN n) g o k = rowAt w g o k := rfl
@[go_sem] theorem rowAt_alloc (w : World) (c : Array Value) (e : TypeId) (fr : Nat × Nat) (g o k : Nat) :
    rowAt (w.alloc (.cells c e fr)) g o k = if g = w.heap.size then (if o + k ≤ c.size then some (c.extract o (o + k)) else none) else rowAt w g o k := by
  by_cases h : g = w.heap.size
  · subst h
    unfold rowAt
    rw [heap_alloc_new]; simp
  · rw [if_neg h]
    refine rowAt_of_block ?_ o k
    show (w.heap.push _)[g]? = _
    rw [Array.getElem?_push, if_neg h]
@[go_sem] theorem rowAt_alloc_map (w : World) (es : Array MapEntry) (c : Nat) (g o k : Nat) :
    rowAt (w.alloc (.map es c)) g o k = if g = w.heap.size then none else rowAt w g o k := by
  by_cases h : g = w.heap.size
  · subst h
    unfold rowAt
    rw [heap_alloc_new]; simp
  · rw [if_neg h]
    refine rowAt_of_block ?_ o k
    show (w.heap.push _)[g]? = _
    rw [Array.getElem?_push, if_neg h]
theorem rowAt_setCell_other (w : World) (p : Addr) (u : Value) (g o k : Nat) (h : g ≠ p.block) : rowAt (w.setCell p u) g o k = rowAt w g o k :=
  rowAt_of_block (Below.heap_setCell w p u g h) o k

section
variable {P : Program}
theorem run_ldS {t : TypeId} {d : TypeDesc} {k : Nat} (hu : P.underlying t = some d) (hd : (match d with | .struct _ | .array _ _ => true | _ => false) = true) (hi : (P.info? t).map (·.size) = some k) (w : World) (g o : Nat) :
    (ldS t ⟨g, o, none⟩).run P w = match rowAt w g o k with | some cs => .ok (.agg cs) w | none => (loadVar t ⟨g, o, none⟩).run P w := by
  cases h : rowAt w g o k with
  | none => rfl
  | some cs =>
    have hsz := rowAt_size h
    have hl : (loadCells ⟨g, o, none⟩ cs.toList.length).run P w = .ok cs.toList.toArray w :=
      run_loadCells_list (P := P) w ⟨g, o, none⟩ cs.toList (fun j v hv => by
        have hadd : (⟨g, o, none⟩ : Addr).add j = ⟨g, o + j, none⟩ := by unfold Addr.add; split <;> simp_all
        have hj : j < k := by
          have := (List.getElem?_eq_some_iff.1 hv).1
          simp at this; omega
        rw [hadd, rowAt_cell h hj]
        simpa using hv)
    simp only [Array.length_toList, hsz] at hl
    have hagg : (isAgg t).run P w = .ok true w := by
      cases d <;> simp_all [isAgg, run_underlying hu]
    unfold ldS loadVar
    simp only [Sem.run_bind, hagg, Result.andThen_ok]
    cases hinfo : P.info? t with
    | none => rw [hinfo] at hi; cases hi
    | some i =>
      rw [hinfo] at hi
      have hk : i.size = k := by simpa using hi
      simp [sizeOf, typeInfo, hinfo, hk, hl]

theorem setRow_alloc (w : World) (z c : Array Value) (e : TypeId) (fr : Nat × Nat) : (w.alloc (.cells z e fr)).setRow w.heap.size c = w.alloc (.cells c e fr) := by
  show ({ w with heap := (w.heap.push (.cells z e fr)).modify w.heap.size _ } : World) = { w with heap := w.heap.push (.cells c e fr) }
  congr 1
  apply Array.ext
  · simp
  · intro i h1 h2
    simp only [Array.getElem_modify, Array.getElem_push]
    by_cases h : w.heap.size = i
    · subst h; simp
    · have hi : i < w.heap.size := by simp at h1; omega
      simp [h, hi]
/-- A store into the newest block, whole. -/
theorem run_stS_new {t e : TypeId} {k : Nat} (hi : (P.info? t).map (·.size) = some k) (w : World) (z cs : Array Value) (hz : z.size = k) (hc : cs.size = k) (h1 : ∀ u ∈ cs.toList, u.oneCell' = true) :
    (stS t ⟨w.heap.size, 0, none⟩ (.agg cs)).run P (w.alloc (.cells z e)) = .ok () (w.alloc (.cells cs e)) := by
  unfold stS storeVar
  cases hinfo : P.info? t with
  | none => rw [hinfo] at hi; cases hi
  | some i =>
    rw [hinfo] at hi
    have hk : i.size = k := by simpa using hi
    have hst := run_storeCells_at P w.heap.size 0 e cs.toList 0 z (w.alloc (.cells z e)) (heap_alloc_new w _) (by simp; omega) h1
    have hE : (z.toList.take (0 + 0) ++ cs.toList ++ z.toList.drop (0 + 0 + cs.toList.length)).toArray = cs := by
      rw [List.drop_of_length_le (by simp; omega)]
      simp
    rw [hE, setRow_alloc] at hst
    simp [Value.cells, sizeOf, typeInfo, hinfo, hk, hc]
    exact hst
end

/-! ### Structs built out of parts -/
theorem arr_mid (A B C : Array Value) (i j : Nat) (hi : A.size = i) (hj : i + B.size = j) : (A ++ B ++ C).extract i j = B := by
  subst hi; subst hj
  rw [Array.append_assoc]
  apply Array.ext'
  simp
theorem arr_at (A C : Array Value) (v : Value) (i : Nat) (hi : A.size = i) : (A ++ #[v] ++ C)[i]? = some v := by
  subst hi
  rw [Array.getElem?_append_left (by simp), Array.getElem?_append_right (by omega)]
  simp
theorem fold_seg (v : List Value) : ∀ (A B C : List Value) (n : Nat), B.length = v.length →
    (v.zipIdx n).foldl (fun (cs : Array Value) (p : Value × Nat) => cs.setIfInBounds (A.length - n + p.2) p.1) (A ++ B ++ C).toArray = (A ++ v ++ C).toArray ∨ A.length < n := by
  induction v with
  | nil => intro A B C n h; left; have : B = [] := List.eq_nil_of_length_eq_zero h; subst this; rfl
  | cons u v ih =>
    intro A B C n h
    match B, h with
    | b :: B, h =>
      by_cases hn : A.length < n
      · exact .inr hn
      · left
        have h1 := ih (A ++ [u]) B C (n + 1) (by simpa using h)
        rcases h1 with h1 | h1
        · simp only [List.zipIdx_cons, List.foldl_cons]
          have e : (A ++ b :: B ++ C).toArray.setIfInBounds (A.length - n + n) u = (A ++ [u] ++ B ++ C).toArray := by
            rw [Nat.sub_add_cancel (by omega)]
            simp
          rw [e]
          have e2 : (A ++ [u]).length - (n + 1) = A.length - n := by simp
          rw [e2] at h1
          rw [h1]; simp
        · simp at h1; omega
theorem fill_step {place : Nat → Option (Nat × Nat)} {A B C : Array Value} {i off size : Nat} {v : Value} {rest : List (Nat × Value)} (hp : place i = some (off, size)) (hA : A.size = off) (hB : B.size = size) (hv : v.cells.size = size) :
    Instr.fill place (A ++ B ++ C) ((i, v) :: rest) = Instr.fill place (A ++ v.cells ++ C) rest := by
  have hd : v.cells.zipIdx.foldl (fun (cs : Array Value) (p : Value × Nat) => cs.setIfInBounds (off + p.2) p.1) (A ++ B ++ C) = A ++ v.cells ++ C := by
    have := fold_seg v.cells.toList A.toList B.toList C.toList 0 (by simp; omega)
    rcases this with h | h
    · simp only [Array.length_toList, Nat.sub_zero, hA] at h
      have eA : (A.toList ++ B.toList ++ C.toList).toArray = A ++ B ++ C := by apply Array.ext'; simp
      have eB : (A.toList ++ v.cells.toList ++ C.toList).toArray = A ++ v.cells ++ C := by apply Array.ext'; simp
      rw [eA, eB] at h
      rw [← Array.foldl_toList, Array.toList_zipIdx]
      exact h
    · omega
  simp only [Instr.fill, hp]
  rw [if_neg (by simp [hv, hB, hA])]
  exact congrArg (fun cs => Instr.fill place cs rest) hd
theorem run_build {P : Program} {t : TypeId} (w : World) (hu : P.underlying t = some (.struct (P.fieldsOf t))) (z : Array Value) (hz : (zeroValue t).run P w = .ok (.agg z) w) (pl : Array (Nat × Nat))
    (hpl : ((P.fieldsOf t).mapM fun (f : Field) => do pure (f.offset, ← sizeOf f.type)).run P w = .ok pl w) (parts : List (Nat × Value)) (cs : Array Value) (hf : Instr.fill (pl[·]?) z parts = some cs) :
    (Instr.build t parts.toArray).run P w = .ok (.agg cs) w := by
  unfold Instr.build
  simp only [Sem.run_bind, hz, Result.andThen_ok, run_underlying hu, hpl, Value.cells, hf, Sem.run_pure]

end Go.Proofs.YtgfpjjppeldhbaaGreatDoor

/- Ids: 32 bytes: as cells, compared, loaded and stored whole. -/
namespace Go.Proofs.YtgfpjjppeldhbaaGreatDoor
open Go.RowKit

structure Id32 where
  l : List UInt8
  h : l.length = 32

def byteC (c : UInt8) : Value := .int .u8 c.toNat
def idC (x : Id32) : Array Value := (x.l.map byteC).toArray
theorem Id32.ext' {a b : Id32} (h : a.l = b.l) : a = b := by cases a; cases b; simp_all
instance : DecidableEq Id32 := fun a b => if h : a.l = b.l then isTrue (Id32.ext' h) else isFalse (fun e => h (by rw [e]))
@[simp] theorem idC_size (x : Id32) : (idC x).size = 32 := by simp [idC, x.h]
theorem idC_inj {a b : Id32} (h : idC a = idC b) : a = b := by
  apply Id32.ext'
  have h2 : a.l.map byteC = b.l.map byteC := by simpa [idC] using h
  have inj : ∀ x y : UInt8, byteC x = byteC y → x = y := fun x y e => by
    unfold byteC at e; injection e with _ e; exact UInt8.toNat_inj.1 (by omega)
  exact (List.map_inj_right inj).1 h2
def idB (x : Id32) (i : Nat) : Int := ((x.l.getD i 0).toNat : Int)
theorem idB_bd (x : Id32) (i : Nat) : 0 ≤ idB x i ∧ idB x i ≤ 255 := by
  have := (x.l.getD i 0).toNat_lt; unfold idB; omega
@[go_sem] theorem idC_get (x : Id32) (i : Nat) : (idC x)[i]? = if i < 32 then some (.int .u8 (idB x i)) else none := by
  by_cases h : i < 32
  · rw [if_pos h]
    have hl : i < x.l.length := by rw [x.h]; exact h
    simp [idC, idB, byteC, List.getD, hl]
  · rw [if_neg h]
    exact Array.getElem?_eq_none (by rw [idC_size]; omega)
@[go_sem] theorem idC_getElem (x : Id32) (i : Nat) (h : i < (idC x).size) : (idC x)[i]'h = .int .u8 (idB x i) := by
  have h1 : i < 32 := by rw [idC_size] at h; exact h
  have h2 := idC_get x i
  rw [if_pos h1, Array.getElem?_eq_getElem h] at h2
  exact Option.some.inj h2
@[go_sem] theorem idC_all (x : Id32) : (idC x).extract 0 32 = idC x := by
  have := Array.extract_size (xs := idC x); rwa [idC_size] at this
theorem idC_one (x : Id32) : ∀ u ∈ (idC x).toList, u.oneCell' = true := by
  intro u hu
  simp [idC] at hu
  obtain ⟨c, _, rfl⟩ := hu
  rfl
def id0 : Id32 := ⟨List.replicate 32 0, by simp⟩

section
theorem infoId : (Tryz.prog.info? 39).map (·.size) = some 32 := by kernel_rfl
theorem zeroId_run (w : World) : (zeroValue 39).run Tryz.prog w = .ok (.agg (idC id0)) w := by
  have h : (Tryz.prog.info? 39).bind (·.zero) = some (.agg (idC id0)) := by kernel_rfl
  cases hi : Tryz.prog.info? 39 with
  | none => rw [hi] at h; cases h
  | some i =>
    rw [hi] at h
    have hz : i.zero = some (.agg (idC id0)) := h
    simp [zeroValue, typeInfo, hi, hz]
attribute [go_sem ↓] zeroId_run
@[go_sem ↓] theorem loadId_rw (a : Addr) : loadVar 39 a = ldS 39 a := rfl
@[go_sem ↓] theorem storeId_rw (a : Addr) (v : Value) : storeVar 39 a v = stS 39 a v := rfl
@[go_sem] theorem loadId_run (w : World) (g o : Nat) : (ldS 39 ⟨g, o, none⟩).run Tryz.prog w = match rowAt w g o 32 with | some cs => .ok (.agg cs) w | none => (loadVar 39 ⟨g, o, none⟩).run Tryz.prog w :=
  run_ldS Tryz.underlying39 rfl infoId w g o
@[go_sem] theorem storeId_run (w : World) (g : Nat) (hg : g = w.heap.size) (z : Array Value) (hz : z.size = 32) (x : Id32) (e : TypeId) : (stS 39 ⟨g, 0, none⟩ (.agg (idC x))).run Tryz.prog (w.alloc (.cells z e)) = .ok () (w.alloc (.cells (idC x) e)) :=
  hg ▸ run_stS_new infoId w z (idC x) hz (idC_size x) (idC_one x)
theorem sizeByte (w : World) : (sizeOf 5).run Tryz.prog w = .ok 1 w := by
  have h : (Tryz.prog.info? 5).map (·.size) = some 1 := by kernel_rfl
  cases hi : Tryz.prog.info? 5 with
  | none => rw [hi] at h; cases h
  | some i =>
    rw [hi] at h
    have hk : i.size = 1 := by simpa using h
    simp [sizeOf, typeInfo, hi, hk]
theorem eqId_in (d : Nat) (x y : Id32) (w : World) : (Op.equalIn (d + 2) 39 (.agg (idC x)) (.agg (idC y))).run Tryz.prog w = .ok (x == y) w := by
  have e : ∀ z : Id32, idC z = (z.l.map Extern.Stop.cell).toArray := fun _ => rfl
  have hb : (x.l == y.l) = (x == y) := by
    rw [Bool.eq_iff_iff]
    simp only [beq_iff_eq]
    exact ⟨Id32.ext', fun h => by rw [h]⟩
  rw [e x, e y, run_equalIn_bytes (P := Tryz.prog) w d 39 5 32 Tryz.underlying39 Tryz.underlying5 sizeByte x.l y.l x.h y.h, hb]
@[go_sem ↓] theorem eqId_run (x y : Id32) (w : World) : (Op.equalIn 10000 39 (.agg (idC x)) (.agg (idC y))).run Tryz.prog w = .ok (x == y) w := eqId_in 9998 x y w
end

end Go.Proofs.YtgfpjjppeldhbaaGreatDoor

/- Regions that draw their order, their calls and stores in one forced chain: the walk in the order of the text serves every order. Every other operation yields one value in every world of a class that the chain keeps. No program is named here. -/
namespace Go.Proofs.YtgfpjjppeldhbaaGreatDoor
open Go.RowKit

/-- Which operations make or turn memory, or call. -/
def chainOp (cv : Bool) (o : Oper) : Bool :=
  match o.op with
  | .call c => (match c.callee with | .builtin .len => false | .builtin .cap => false | _ => true)
  | .alloc _ | .box _ _ | .buildSlice _ _ _ | .store _ _ _ | .insert _ _ _ _ | .mapUpdate _ _ _ _ | .mapEntry _ _ _ | .entryStore _ _ _ _ | .makeMap _ _ | .makeChan _ _ | .makeSlice _ _ _ | .range _ _ | .next _ _ => true
  | .convert _ _ _ => cv
  | _ => false
def chainAt (cv : Bool) (ops : Array Oper) (i : Nat) : Bool := ((ops[i]?).map (chainOp cv)).getD false
def waitsB (md : Region.Mode) (ops : Array Oper) (j p : Nat) : Bool :=
  match ops[j]? with
  | some oj => oj.after.any fun e => Region.binds md e && e.on == p
  | none => false
def chainB (md : Region.Mode) (cv : Bool) (ops : Array Oper) : Bool :=
  (List.range ops.size).all fun j => !chainAt cv ops j || (match (List.range j).reverse.find? (chainAt cv ops) with | some p => waitsB md ops j p | none => true)

section
variable {P : Program} {ops : Array Oper} {md : Region.Mode} {S : World → Prop} {cv fb : Bool}

/-- What a plain operation yields: a value, the world as it was. -/
def looseRes (w : World) (v : Value) : Result Next → Prop
  | .ok (.value u) w' => w' = w ∧ u = v
  | .ok .skip w' => w' = w ∧ v = undef
  | _ => False
theorem looseRes_uniq {w : World} {v u : Value} {r : Result Next} (h : looseRes w v r) (k : looseRes w u r) : v = u := by
  cases r with
  | ok n w' => cases n <;> simp only [looseRes] at h k <;> first | exact h.2.symm.trans k.2 | exact h.2.trans k.2.symm | exact h.elim
  | halt x w' => exact h.elim
/-- What an operation of the chain yields. -/
def chainRes (P : Program) (S : World → Prop) (K : Value → World → Prop) : Result Next → Prop
  | .ok (.value u) w' => S w' ∧ K u w'
  | .ok .skip w' => S w' ∧ K undef w'
  | .ok (.enter f args) w' => Calls P f args w' (fun e w'' => ∃ v, e = .returned v ∧ S w'' ∧ K v w'')
  | _ => False
theorem chainRes_mono {K K' : Value → World → Prop} {r : Result Next} (hk : ∀ v w, S w → K v w → K' v w) (h : chainRes P S K r) : chainRes P S K' r := by
  cases r with
  | ok n w' =>
    cases n <;> simp only [chainRes] at h ⊢
    case value u => exact ⟨h.1, hk _ _ h.1 h.2⟩
    case skip => exact ⟨h.1, hk _ _ h.1 h.2⟩
    case enter f args => exact h.mono fun e w'' ⟨v, he, hs, h2⟩ => ⟨v, he, hs, hk _ _ hs h2⟩
  | halt x w' => exact h.elim
theorem chainRes_weaken {S' : World → Prop} {K K' : Value → World → Prop} {r : Result Next} (hs : ∀ w, S w → S' w) (hk : ∀ v w, S w → K v w → K' v w) (h : chainRes P S K r) : chainRes P S' K' r := by
  cases r with
  | ok n w' =>
    cases n <;> simp only [chainRes] at h ⊢
    case value u => exact ⟨hs _ h.1, hk _ _ h.1 h.2⟩
    case skip => exact ⟨hs _ h.1, hk _ _ h.1 h.2⟩
    case enter f args => exact h.mono fun e w'' ⟨v, he, hs', h2⟩ => ⟨v, he, hs _ hs', hk _ _ hs' h2⟩
  | halt x w' => exact h.elim
theorem chainRes_some {K : Value → World → Prop} {r : Result Next} (h : chainRes P S K r) : ∃ v w, S w ∧ K v w := by
  cases r with
  | ok n w' =>
    cases n <;> simp only [chainRes] at h
    case value u => exact ⟨_, _, h.1, h.2⟩
    case skip => exact ⟨_, _, h.1, h.2⟩
    case enter f args =>
      obtain ⟨e, w'', fr, ⟨v, _, hs, hk⟩, _⟩ := h []
      exact ⟨v, w'', hs, hk⟩
  | halt x w' => exact h.elim

/-- The class behind operation i: that of all, unless i is the region's end and 'fb' lets the end be free. -/
def cls (ops : Array Oper) (S : World → Prop) (fb : Bool) (i : Nat) : World → Prop := fun w => S w ∨ (fb = true ∧ i + 1 = ops.size)
/-- The region's end waits for all else. -/
def endB (md : Region.Mode) (ops : Array Oper) : Bool := decide (0 < ops.size) && Region.sinkB md ops (ops.size - 1)

/-- Operation number 'i' comes up. -/
def lxOp (P : Program) (ops : Array Oper) (S : World → Prop) (cv fb : Bool) (i : Nat) (K : Act → World → Prop) (a : Act) (w : World) : Prop :=
  match ops[i]? with
  | none => K a w
  | some o =>
    if Region.wanted o (yielded ops a.tmps) then
      (if chainOp cv o then chainRes P (cls ops S fb i) (fun v w' => K (a.put o.dst v) w') ((execOp a.eval o).run P w)
       else ∃ v, (∀ w', S w' → looseRes w' v ((execOp a.eval o).run P w')) ∧ K (a.put o.dst v) w)
    else K (a.put o.dst undef) w

theorem lxOp_mono {i : Nat} {a : Act} {w : World} {K K' : Act → World → Prop} (hS : S w) (h : ∀ a w, cls ops S fb i w → K a w → K' a w) (hh : lxOp P ops S cv fb i K a w) : lxOp P ops S cv fb i K' a w := by
  have hSi : cls ops S fb i w := .inl hS
  unfold lxOp at *
  split
  · exact h _ _ hSi (by simpa [*] using hh)
  · rename_i o ho
    simp only [ho] at hh
    split
    · rename_i hw
      rw [if_pos hw] at hh
      split
      · rename_i hc; rw [if_pos hc] at hh; exact chainRes_mono (fun v w hs hk => h _ _ hs hk) hh
      · rename_i hc; rw [if_neg hc] at hh; obtain ⟨v, h1, h2⟩ := hh; exact ⟨v, h1, h _ _ hSi h2⟩
    · rename_i hw; rw [if_neg hw] at hh; exact h _ _ hSi hh

def wpAnyX (P : Program) (md : Region.Mode) (ops : Array Oper) (S : World → Prop) (cv fb : Bool) (Q : Act → World → Prop) : Nat → Array Bool → Act → World → Prop
  | 0, listed, a, w => Region.ready md ops listed = [] ∧ Q a w
  | fuel + 1, listed, a, w =>
    (Region.ready md ops listed = [] → Q a w) ∧
    ∀ i ∈ Region.ready md ops listed, lxOp P ops S cv fb i (wpAnyX P md ops S cv fb Q fuel (listed.setIfInBounds i true)) a w

theorem wpOp_of_lxOp {Q' : Exit → Act → World → Prop} {i : Nat} {a : Act} {w : World} {K K' : Act → World → Prop} (hS : S w) (h : ∀ a w, cls ops S fb i w → K a w → K' a w) (hh : lxOp P ops S cv fb i K a w) : wpOp P ops Q' i K' a w := by
  have hSi : cls ops S fb i w := .inl hS
  unfold lxOp at hh
  unfold wpOp
  split
  · rename_i ho; simp only [ho] at hh; exact h _ _ hSi hh
  · rename_i o ho
    simp only [ho] at hh
    split
    · rename_i hw
      rw [if_pos hw] at hh
      refine .inl ?_
      unfold Oper.wp
      split at hh
      · generalize (execOp a.eval o).run P w = r at *
        cases r with
        | ok n w' =>
          cases n <;> simp only [chainRes] at hh <;> simp only [Oper.upon]
          case value u => exact h _ _ hh.1 hh.2
          case skip => exact h _ _ hh.1 hh.2
          case enter f args => exact hh.mono fun e w'' ⟨v, he, hs, hk⟩ => by subst he; exact h _ _ hs hk
        | halt x w' => exact hh.elim
      · obtain ⟨v, h1, h2⟩ := hh
        have h3 := h1 w hS
        generalize (execOp a.eval o).run P w = r at *
        cases r with
        | ok n w' =>
          cases n <;> simp only [looseRes] at h3 <;> simp only [Oper.upon]
          case value u => obtain ⟨e1, e2⟩ := h3; rw [e1, e2]; exact h _ _ hSi h2
          case skip => obtain ⟨e1, e2⟩ := h3; rw [e1, ← e2]; exact h _ _ hSi h2
        | halt x w' => exact h3.elim
    · rename_i hw; rw [if_neg hw] at hh; exact h _ _ hSi hh

/-- Where the end comes up, all else is listed. -/
structure EndInv (md : Region.Mode) (ops : Array Oper) (fb : Bool) (listed : Array Bool) : Prop where
  inv : fb = true → endB md ops = true ∧ (HeadInv md ops (ops.size - 1) listed ∨ Region.ready md ops listed = [])
theorem EndInv.end_ {listed : Array Bool} (h : EndInv md ops fb listed) (hfb : fb = true) {i : Nat} (hi : i ∈ Region.ready md ops listed) (he : i + 1 = ops.size) : ∀ j ∈ Region.ready md ops listed, j = i := by
  obtain ⟨hB, h1⟩ := h.inv hfb
  rcases h1 with h1 | h1
  · intro j hj
    simp only [endB, Bool.and_eq_true, decide_eq_true_eq] at hB
    obtain ⟨hjun, oj, hoj, _⟩ := mem_ready.1 hj
    have hjs : j < ops.size := (Array.getElem?_eq_some_iff.1 hoj).1
    rcases Nat.lt_or_ge j i with hlt | hge
    · exfalso
      have hch : Region.chainB md ops (ops.size - 1) = true := by
        unfold Region.chainB
        rw [List.all_eq_true]
        intro t ht
        have := List.mem_range.1 ht
        simp; left; omega
      exact tail_waits hB.2 hch (by omega) h1 (ops.size - 1 - j) j rfl (by omega) hjun i (by omega) hi
    · omega
  · rw [h1] at hi; cases hi
theorem EndInv.set {listed : Array Bool} (h : EndInv md ops fb listed) {i : Nat} (hi : i ∈ Region.ready md ops listed) : EndInv md ops fb (listed.setIfInBounds i true) := by
  refine ⟨fun hfb => ?_⟩
  obtain ⟨hB, h1⟩ := h.inv hfb
  refine ⟨hB, ?_⟩
  rcases h1 with h1 | h1
  · by_cases he : i + 1 = ops.size
    · right
      have hall := h.end_ hfb hi he
      apply List.eq_nil_iff_forall_not_mem.2
      intro j hj
      obtain ⟨hjun, oj, hoj, hallj⟩ := mem_ready.1 hj
      have hjs : j < ops.size := (Array.getElem?_eq_some_iff.1 hoj).1
      have hji : j ≠ i := by
        rintro rfl
        have hsz : j < listed.size := by rw [h1.size]; exact hjs
        simp [hsz] at hjun
      simp only [endB, Bool.and_eq_true, decide_eq_true_eq] at hB
      have hch : Region.chainB md ops (ops.size - 1) = true := by
        unfold Region.chainB
        rw [List.all_eq_true]
        intro t ht
        have := List.mem_range.1 ht
        simp; left; omega
      rw [getD_set_ne true (Ne.symm hji)] at hjun
      exact tail_waits hB.2 hch (by omega) h1 (ops.size - 1 - j) j rfl (by omega) hjun i (by omega) hi
    · left
      obtain ⟨_, oi, hoi, _⟩ := mem_ready.1 hi
      have his : i < ops.size := (Array.getElem?_eq_some_iff.1 hoi).1
      exact h1.set hi (by omega)
  · rw [h1] at hi; cases hi
theorem EndInv.cls {listed : Array Bool} {w : World} (h : EndInv md ops fb listed) {i j : Nat} (hi : i ∈ Region.ready md ops listed) (hj : j ∈ Region.ready md ops listed) (hji : j ≠ i) (hc : cls ops S fb j w) : S w := by
  rcases hc with hc | ⟨hfb, he⟩
  · exact hc
  · exact absurd (h.end_ hfb hj he i hi).symm hji

theorem wpAny_of_X {Q : Act → World → Prop} {Q' : Exit → Act → World → Prop} (hQ : ∀ a w, (S w ∨ fb = true) → Q a w → Q' .normal a w) : ∀ (fuel : Nat) (listed : Array Bool) (a : Act) (w : World), EndInv md ops fb listed → (S w ∨ (fb = true ∧ Region.ready md ops listed = [])) →
    wpAnyX P md ops S cv fb Q fuel listed a w → wpAny P md ops Q' fuel listed a w
  | 0, _, _, _, _, hS, h => ⟨h.1, hQ _ _ (hS.imp id (·.1)) h.2⟩
  | fuel + 1, listed, _, _, hI, hS, h => ⟨fun h0 => hQ _ _ (hS.imp id (·.1)) (h.1 h0), fun i hi => by
      rcases hS with hS | ⟨_, h0⟩
      · refine wpOp_of_lxOp hS (fun a' w' hS' => wpAny_of_X hQ fuel _ a' w' (hI.set hi) ?_) (h.2 i hi)
        rcases hS' with hS' | ⟨hfb, he⟩
        · exact .inl hS'
        · right
          refine ⟨hfb, ?_⟩
          rcases ((hI.set hi).inv hfb).2 with h1 | h1
          · exfalso
            have := h1.tail i (by omega) (by omega)
            have hsz : i < (listed.setIfInBounds i true).size := by rw [h1.size]; omega
            have hsz' : i < listed.size := by simpa using hsz
            simp [hsz'] at this
          · exact h1
      · rw [h0] at hi; cases hi⟩

/-- In state 'a', in every world of the class, the plain operation 'o' leaves 'v'. -/
def YieldsX (P : Program) (ops : Array Oper) (S : World → Prop) (cv : Bool) (o : Oper) (v : Value) (a : Act) : Prop :=
  (Region.wanted o (yielded ops a.tmps) = true ∧ chainOp cv o = false ∧ ∀ w, S w → looseRes w v ((execOp a.eval o).run P w)) ∨
  (Region.wanted o (yielded ops a.tmps) = false ∧ v = undef)

theorem YieldsX.lxOp {i : Nat} {o : Oper} {v : Value} {a : Act} {w : World} (hi : ops[i]? = some o) (hy : YieldsX P ops S cv o v a) {K : Act → World → Prop} (h : K (a.put o.dst v) w) : lxOp P ops S cv fb i K a w := by
  unfold Proofs.YtgfpjjppeldhbaaGreatDoor.lxOp
  simp only [hi]
  rcases hy with ⟨hw, hc, hv⟩ | ⟨hw, rfl⟩
  · rw [if_pos hw, hc]; exact ⟨v, hv, h⟩
  · rw [if_neg (by rw [hw]; simp)]; exact h
theorem YieldsX.of_same {o : Oper} {v : Value} {a a' : Act} (hy : YieldsX P ops S cv o v a) (he : execOp a'.eval o = execOp a.eval o)
    (hw : Region.wanted o (yielded ops a'.tmps) = Region.wanted o (yielded ops a.tmps)) : YieldsX P ops S cv o v a' := by
  unfold YieldsX at *
  rw [he, hw]; exact hy
theorem YieldsX.uniq {o : Oper} {v u : Value} {a : Act} {w : World} (hS : S w) (h : YieldsX P ops S cv o v a) (k : YieldsX P ops S cv o u a) : v = u := by
  rcases h with ⟨h1, _, h2⟩ | ⟨h1, h2⟩ <;> rcases k with ⟨k1, _, k2⟩ | ⟨k1, k2⟩
  · exact looseRes_uniq (h2 w hS) (k2 w hS)
  · rw [h1] at k1; cases k1
  · rw [h1] at k1; cases k1
  · rw [h2, k2]

/-- Operation j, apart from i: i's value may be laid behind it. -/
theorem lxOp_put {j : Nat} {oi oj : Oper} {v : Value} (hj : ops[j]? = some oj) (hap : oi.apart ops oj = true)
    (hsi : ∀ cs b, oi.op ≠ .select cs b) (hsj : ∀ cs b, oj.op ≠ .select cs b) {K : Act → World → Prop} {a : Act} {w : World}
    (hy : YieldsX P ops S cv oi v a) (h : lxOp P ops S cv fb j K (a.put oi.dst v) w) :
    lxOp P ops S cv fb j (fun a' w' => YieldsX P ops S cv oi v a' ∧ K (a'.put oi.dst v) w') a w := by
  obtain ⟨h1, h2, h3⟩ := Oper.apart_spec hap
  have keep : ∀ (a : Act), YieldsX P ops S cv oi v a → ∀ u, YieldsX P ops S cv oi v (a.put oj.dst u) := fun a hy u =>
    hy.of_same (execOp_put oi hsi a oj.dst u h3) (wanted_put oi a oj.dst u h3)
  unfold lxOp at *
  simp only [hj] at *
  rw [wanted_put oj a oi.dst v h1, execOp_put oj hsj a oi.dst v h1] at h
  split
  · rename_i hw
    rw [if_pos hw] at h
    split
    · rename_i hc
      rw [if_pos hc] at h
      exact chainRes_mono (fun u w' _ hk => ⟨keep a hy u, by rw [← Act.put_comm a v u h2]; exact hk⟩) h
    · rename_i hc
      rw [if_neg hc] at h
      obtain ⟨u, hu, hk⟩ := h
      exact ⟨u, hu, keep a hy u, by rw [← Act.put_comm a v u h2]; exact hk⟩
  · rename_i hw
    rw [if_neg hw] at h
    exact ⟨keep a hy _, by rw [← Act.put_comm a v undef h2]; exact h⟩

theorem X_first_loose {Q : Act → World → Prop} {i : Nat} {oi : Oper} {v : Value} (hi : ops[i]? = some oi) (hsel : ∀ (j : Nat) (o : Oper) cs b, ops[j]? = some o → o.op ≠ .select cs b) :
    ∀ (fuel : Nat) (listed : Array Bool) (a : Act) (w : World), EndInv md ops fb listed → S w →
      (∀ j oj, ops[j]? = some oj → j ≠ i → listed.getD j true = false → (∀ e ∈ oj.after, Region.binds md e = true → e.on ≠ i) → oi.apart ops oj = true) →
      i ∈ Region.ready md ops listed → YieldsX P ops S cv oi v a →
      wpAnyX P md ops S cv fb Q fuel (listed.setIfInBounds i true) (a.put oi.dst v) w → wpAnyX P md ops S cv fb Q (fuel + 1) listed a w := by
  intro fuel
  induction fuel with
  | zero =>
    intro listed a w _ _ _ hr hy H
    refine ⟨fun h => (by rw [h] at hr; cases hr), fun j hj => ?_⟩
    by_cases hji : j = i
    · subst hji; exact hy.lxOp hi H
    · have := ready_mono hj hji
      rw [H.1] at this
      cases this
  | succ fuel ih =>
    intro listed a w hI hS hfree hr hy H
    refine ⟨fun h => (by rw [h] at hr; cases hr), fun j hj => ?_⟩
    by_cases hji : j = i
    · subst hji; exact hy.lxOp hi H
    · have h1 := H.2 j (ready_mono hj hji)
      obtain ⟨hjun, oj, hoj, hall⟩ := mem_ready.1 hj
      have hnot : ∀ e ∈ oj.after, Region.binds md e = true → e.on ≠ i := fun e he hb heq => by
        have h1 := hall e he hb
        have h0 := (mem_ready.1 hr).1
        rw [heq] at h1
        rcases Nat.lt_or_ge i listed.size with h' | h'
        · simp [h'] at h0 h1; rw [h0] at h1; cases h1
        · simp [Array.getElem?_eq_none h'] at h1
      have h2 := lxOp_put hoj (hfree j oj hoj hji hjun hnot) (fun cs b => hsel i oi cs b hi) (fun cs b => hsel j oj cs b hoj) hy h1
      have hfree' : ∀ k ok, ops[k]? = some ok → k ≠ i → (listed.setIfInBounds j true).getD k true = false →
          (∀ e ∈ ok.after, Region.binds md e = true → e.on ≠ i) → oi.apart ops ok = true := fun k ok hk hki hun hno => by
        refine hfree k ok hk hki ?_ hno
        by_cases hjk : j = k
        · subst hjk; exact hjun
        · rw [getD_set_ne true hjk] at hun; exact hun
      refine lxOp_mono hS (fun a' w' hS' h3 => ih (listed.setIfInBounds j true) a' w' (hI.set hj) (hI.cls hr hj hji hS') hfree' (ready_mono hr (Ne.symm hji)) h3.1 ?_) h2
      rw [Array.setIfInBounds_comm _ _ hji]
      exact h3.2

theorem X_first_chain {Q : Act → World → Prop} {i : Nat} {oi : Oper} (hi : ops[i]? = some oi) (hc : chainOp cv oi = true) (hsel : ∀ (j : Nat) (o : Oper) cs b, ops[j]? = some o → o.op ≠ .select cs b)
    (hch : chainB md cv ops = true) :
    ∀ (fuel : Nat) (listed : Array Bool) (a : Act) (w : World), EndInv md ops fb listed → S w →
      (∀ j oj, ops[j]? = some oj → j ≠ i → listed.getD j true = false → (∀ e ∈ oj.after, Region.binds md e = true → e.on ≠ i) → oi.apart ops oj = true) →
      (∀ j, chainAt cv ops j = true → (j < i → listed.getD j true = true) ∧ (i ≤ j → listed.getD j false = false)) →
      i ∈ Region.ready md ops listed → Region.wanted oi (yielded ops a.tmps) = true →
      chainRes P (cls ops S fb i) (fun v w' => wpAnyX P md ops S cv fb Q fuel (listed.setIfInBounds i true) (a.put oi.dst v) w') ((execOp a.eval oi).run P w) → wpAnyX P md ops S cv fb Q (fuel + 1) listed a w := by
  -- whoever else is ready is no operation of the chain
  have key : ∀ (listed : Array Bool), (∀ j, chainAt cv ops j = true → (j < i → listed.getD j true = true) ∧ (i ≤ j → listed.getD j false = false)) →
      ∀ j ∈ Region.ready md ops listed, j ≠ i → ∀ oj, ops[j]? = some oj → chainOp cv oj = false := by
    intro listed hinv j hj hji oj hoj
    cases hcj : chainOp cv oj with
    | false => rfl
    | true =>
      exfalso
      have hcat : chainAt cv ops j = true := by unfold chainAt; rw [hoj]; exact hcj
      have hciat : chainAt cv ops i = true := by unfold chainAt; rw [hi]; exact hc
      obtain ⟨hjun, o', ho', hall⟩ := mem_ready.1 hj
      obtain ⟨i1, i2⟩ := hinv j hcat
      rcases Nat.lt_or_ge j i with hlt | hge
      · rw [i1 hlt] at hjun; cases hjun
      · have hgt : i < j := by omega
        have hjs : j < ops.size := (Array.getElem?_eq_some_iff.1 hoj).1
        have h1 := List.all_eq_true.1 hch j (List.mem_range.2 hjs)
        rw [hcat] at h1
        simp only [Bool.not_true, Bool.false_or] at h1
        cases hf : (List.range j).reverse.find? (chainAt cv ops) with
        | none =>
          have := List.find?_eq_none.1 hf i (by simp; omega)
          exact this hciat
        | some p =>
          rw [hf] at h1
          have hp1 : chainAt cv ops p = true := List.find?_some hf
          have hpi : i ≤ p := by
            -- p is the last one ahead of j
            rcases Nat.lt_or_ge p i with hlt | hge'
            · exfalso
              have hrev : (List.range j).reverse = ((List.range j).reverse.take (j - 1 - i)) ++ (i :: (List.range j).reverse.drop (j - i)) := by
                apply List.ext_getElem?
                intro n
                have hle : ((List.range j).reverse.take (j - 1 - i)).length = j - 1 - i := by simp; omega
                by_cases h1n : n < j - 1 - i
                · rw [List.getElem?_append_left (by omega), List.getElem?_take, if_pos h1n]
                · rw [List.getElem?_append_right (by omega), hle]
                  by_cases h2n : n = j - 1 - i
                  · subst h2n
                    rw [Nat.sub_self, List.getElem?_cons_zero, List.getElem?_reverse (by simp; omega)]
                    simp only [List.length_range]
                    rw [List.getElem?_range (by omega)]
                    congr 1; omega
                  · have : n - (j - 1 - i) = (n - (j - i)) + 1 := by omega
                    rw [this, List.getElem?_cons_succ, List.getElem?_drop]
                    congr 1; omega
              rw [hrev, List.find?_append] at hf
              cases ht : ((List.range j).reverse.take (j - 1 - i)).find? (chainAt cv ops) with
              | some q =>
                rw [ht] at hf
                have e : q = p := by simpa using hf
                subst e
                have hm := List.mem_of_find?_eq_some ht
                obtain ⟨n, hn, hq⟩ := List.mem_iff_getElem.1 hm
                simp only [List.getElem_take, List.getElem_reverse, List.getElem_range, List.length_range] at hq
                simp at hn
                omega
              | none =>
                rw [ht] at hf
                simp only [Option.none_or, List.find?_cons, hciat] at hf
                have e : i = p := by simpa using hf
                omega
            · exact hge'
          unfold waitsB at h1
          rw [hoj] at h1
          obtain ⟨e, he, hb⟩ := Array.any_eq_true'.1 h1
          simp only [Bool.and_eq_true, beq_iff_eq] at hb
          have e2 : o' = oj := Option.some.inj (ho'.symm.trans hoj)
          subst e2
          have h3 := hall e he hb.1
          rw [hb.2, (hinv p hp1).2 hpi] at h3
          cases h3
  intro fuel
  induction fuel with
  | zero =>
    intro listed a w hI hS hfree hinv hr hw H
    refine ⟨fun h => (by rw [h] at hr; cases hr), fun j hj => ?_⟩
    by_cases hji : j = i
    · subst hji; unfold lxOp; simp only [hi]; rw [if_pos hw, if_pos hc]; exact H
    · obtain ⟨v, w', _, hK⟩ := chainRes_some H
      have := ready_mono hj hji
      rw [hK.1] at this
      cases this
  | succ fuel ih =>
    intro listed a w hI hS hfree hinv hr hw H
    refine ⟨fun h => (by rw [h] at hr; cases hr), fun j hj => ?_⟩
    by_cases hji : j = i
    · subst hji; unfold lxOp; simp only [hi]; rw [if_pos hw, if_pos hc]; exact H
    · obtain ⟨hjun, oj, hoj, hall⟩ := mem_ready.1 hj
      have hcj := key listed hinv j hj hji oj hoj
      have hnot : ∀ e ∈ oj.after, Region.binds md e = true → e.on ≠ i := fun e he hb heq => by
        have h1 := hall e he hb
        have h0 := (mem_ready.1 hr).1
        rw [heq] at h1
        rcases Nat.lt_or_ge i listed.size with h' | h'
        · simp [h'] at h0 h1; rw [h0] at h1; cases h1
        · simp [Array.getElem?_eq_none h'] at h1
      have hap := hfree j oj hoj hji hjun hnot
      obtain ⟨h1, h2, h3⟩ := Oper.apart_spec hap
      have hsi := fun cs b => hsel i oi cs b hi
      have hsj := fun cs b => hsel j oj cs b hoj
      -- what j yields, and what goes on behind both
      have both : ∀ u w', True → wpAnyX P md ops S cv fb Q (fuel + 1) (listed.setIfInBounds i true) (a.put oi.dst u) w' →
          ∃ v, YieldsX P ops S cv oj v a ∧ wpAnyX P md ops S cv fb Q fuel ((listed.setIfInBounds i true).setIfInBounds j true) ((a.put oi.dst u).put oj.dst v) w' := by
        intro u w' _ hK
        have hx := hK.2 j (ready_mono hj hji)
        unfold lxOp at hx
        simp only [hoj] at hx
        rw [wanted_put oj a oi.dst u h1, execOp_put oj hsj a oi.dst u h1, hcj] at hx
        by_cases hwj : Region.wanted oj (yielded ops a.tmps) = true
        · rw [if_pos hwj] at hx
          obtain ⟨v, hv, hk⟩ := hx
          exact ⟨v, .inl ⟨hwj, hcj, hv⟩, hk⟩
        · rw [if_neg hwj] at hx
          exact ⟨undef, .inr ⟨by simpa using hwj, rfl⟩, hx⟩
      obtain ⟨u0, w0, hS0, hK0⟩ := chainRes_some H
      obtain ⟨v, hy, _⟩ := both u0 w0 trivial hK0
      refine hy.lxOp hoj ?_
      have hfree' : ∀ k ok, ops[k]? = some ok → k ≠ i → (listed.setIfInBounds j true).getD k true = false →
          (∀ e ∈ ok.after, Region.binds md e = true → e.on ≠ i) → oi.apart ops ok = true := fun k ok hk hki hun hno => by
        refine hfree k ok hk hki ?_ hno
        by_cases hjk : j = k
        · subst hjk; exact hjun
        · rw [getD_set_ne true hjk] at hun; exact hun
      have hinv' : ∀ k, chainAt cv ops k = true → (k < i → (listed.setIfInBounds j true).getD k true = true) ∧ (i ≤ k → (listed.setIfInBounds j true).getD k false = false) := fun k hk => by
        have hjk : j ≠ k := by
          rintro rfl
          have : chainAt cv ops j = chainOp cv oj := by unfold chainAt; rw [hoj]; rfl
          rw [this, hcj] at hk; cases hk
        rw [getD_set_ne true hjk, getD_set_ne false hjk]
        exact hinv k hk
      refine ih (listed.setIfInBounds j true) _ w (hI.set hj) hS hfree' hinv' (ready_mono hr (Ne.symm hji)) ?_ ?_
      · rw [wanted_put oi a oj.dst v h3]; exact hw
      · rw [execOp_put oi hsi a oj.dst v h3]
        refine chainRes_mono (fun u w' hs hk => ?_) H
        obtain ⟨v', hy', hk'⟩ := both u w' trivial hk
        obtain rfl := YieldsX.uniq hS hy hy'
        rw [Array.setIfInBounds_comm _ _ hji, ← Act.put_comm a u v h2]
        exact hk'

/-- THE WALK IN THE ORDER OF THE TEXT. -/
def wpL0 (P : Program) (ops : Array Oper) (S : World → Prop) (cv fb : Bool) (Q : Act → World → Prop) : List Oper → Act → World → Prop
  | [], a, w => Q a w
  | o :: rest, a, w =>
    if Region.wanted o (yielded ops a.tmps) then
      (if chainOp cv o then S w → chainRes P (fun w' => S w' ∨ (fb = true ∧ rest = [])) (fun v w' => wpL0 P ops S cv fb Q rest (a.put o.dst v) w') ((execOp a.eval o).run P w)
       else ∃ v, (∀ w', S w' → looseRes w' v ((execOp a.eval o).run P w')) ∧ wpL0 P ops S cv fb Q rest (a.put o.dst v) w)
    else wpL0 P ops S cv fb Q rest (a.put o.dst undef) w

theorem wpAnyX_lex {Q : Act → World → Prop} (hs : Region.noSelect ops = true) (hch : chainB md cv ops = true) : ∀ (l : List Oper) (k : Nat) (listed : Array Bool) (a : Act) (w : World), EndInv md ops fb listed → S w → (∀ j, l[j]? = ops[k + j]?) →
    (∀ j, j < ops.size → listed[j]? = some (decide (j < k))) →
    Region.lexFrom md ops l.length k listed = true → wpL0 P ops S cv fb Q l a w → wpAnyX P md ops S cv fb Q l.length listed a w
  | [], _, _, _, _, _, _, _, _, hB, h => ⟨by simpa [Region.lexFrom] using hB, h⟩
  | o :: l, k, listed, a, w, hI, hS, hl, hlst, hB, h => by
    have h0 : ops[k]? = some o := by simpa using (hl 0).symm
    have hk : k < ops.size := (Array.getElem?_eq_some_iff.1 h0).1
    simp only [List.length_cons, Region.lexFrom, Bool.and_eq_true] at hB
    obtain ⟨⟨hr, hf⟩, hB'⟩ := hB
    have hr' : k ∈ Region.ready md ops listed := by simpa using hr
    have hl' : ∀ j, l[j]? = ops[k + 1 + j]? := fun j => by have := hl (j + 1); simpa [Nat.add_assoc, Nat.add_comm 1 j] using this
    have hlst' : ∀ j, j < ops.size → (listed.setIfInBounds k true)[j]? = some (decide (j < k + 1)) := by
      intro j hj
      by_cases e : k = j
      · subst e
        have hsz : k < listed.size := by
          rcases Nat.lt_or_ge k listed.size with h' | h'
          · exact h'
          · have := hlst k hk; rw [Array.getElem?_eq_none h'] at this; cases this
        rw [Array.getElem?_setIfInBounds_self_of_lt hsz]; simp
      · rw [Array.getElem?_setIfInBounds_ne e, hlst j hj]
        have : decide (j < k) = decide (j < k + 1) := by
          rw [Bool.eq_iff_iff]; simp only [decide_eq_true_eq]; omega
        rw [this]
    have hinv : ∀ j, chainAt cv ops j = true → (j < k → listed.getD j true = true) ∧ (k ≤ j → listed.getD j false = false) := by
      intro j hj
      have hjs : j < ops.size := by
        rcases Nat.lt_or_ge j ops.size with h' | h'
        · exact h'
        · unfold chainAt at hj; rw [Array.getElem?_eq_none h'] at hj; cases hj
      have e := hlst j hjs
      have ed : ∀ d, listed.getD j d = decide (j < k) := fun d => by
        simp [e]
      refine ⟨fun hlt => by rw [ed]; simpa using hlt, fun hge => by rw [ed]; simpa using hge⟩
    unfold wpL0 at h
    have hfr := Region.free_spec h0 hf
    by_cases hw : Region.wanted o (yielded ops a.tmps) = true
    · rw [if_pos hw] at h
      cases hc : chainOp cv o with
      | true =>
        rw [hc, if_pos rfl] at h
        refine X_first_chain h0 hc (Region.noSelect_spec hs) hch l.length listed a w hI hS hfr hinv hr' hw
          (chainRes_weaken (fun w' hw' => ?_) (fun v w' hs' hk' => ?_) (h hS))
        · rcases hw' with hw' | ⟨e1, e2⟩
          · exact .inl hw'
          · right
            subst e2
            have := hl 1
            simp at this
            exact ⟨e1, by have := this; omega⟩
        · rcases hs' with hs' | ⟨e1, e2⟩
          · exact wpAnyX_lex hs hch l (k + 1) _ _ w' (hI.set hr') hs' hl' hlst' hB' hk'
          · subst e2
            exact ⟨by simpa [Region.lexFrom] using hB', hk'⟩
      | false =>
        rw [hc] at h
        obtain ⟨v, hv, hK⟩ := h
        exact X_first_loose h0 (Region.noSelect_spec hs) l.length listed a w hI hS hfr hr' (.inl ⟨hw, hc, hv⟩)
          (wpAnyX_lex hs hch l (k + 1) _ _ w (hI.set hr') hS hl' hlst' hB' hK)
    · rw [if_neg hw] at h
      exact X_first_loose h0 (Region.noSelect_spec hs) l.length listed a w hI hS hfr hr' (.inr ⟨by simpa using hw, rfl⟩)
        (wpAnyX_lex hs hch l (k + 1) _ _ w (hI.set hr') hS hl' hlst' hB' h)

/-- The same behind a wall: nothing unfolds it by itself. -/
structure wpLx (P : Program) (ops : Array Oper) (S : World → Prop) (cv fb : Bool) (Q : Act → World → Prop) (l : List Oper) (a : Act) (w : World) : Prop where
  out : wpL0 P ops S cv fb Q l a w

/-- A region that asks the tape. -/
theorem wp_region_lex {id : Nat} {Q : Exit → Act → World → Prop} {a : Act} {w : World} {l : List Oper} (S : World → Prop) (cv : Bool) (hm : P.follows .mixedOrders = true) (hB : Region.lexB .any l.toArray = true) (hC : chainB .any cv l.toArray = true) (hS : S w.drew)
    (h : wpLx P l.toArray S cv false (fun a' w' => S w' → Q .normal a' w') l a w.drew) : (Code.region id l.toArray true).wp P Q a w := by
  simp only [Region.lexB, Bool.and_eq_true] at hB
  have hI : EndInv .any l.toArray false (Array.replicate l.toArray.size false) := ⟨by simp⟩
  refine wp_region_any hm (wpAny_of_X (S := S) (cv := cv) (fb := false) (Q := fun a' w' => S w' → Q .normal a' w') (fun _ w' hw' h => h (hw'.elim (fun h => h) (by simp))) _ _ _ _ hI (.inl hS) ?_)
  have := wpAnyX_lex (S := S) (md := .any) hB.1 hC l 0 (Array.replicate l.toArray.size false) a w.drew hI hS (by simp) (by intro j hj; simp at hj; simp [hj]) (by simpa using hB.2) h.out
  simpa using this
/-- The same where the end waits for all else and may leave the class. -/
theorem wp_region_lexf {id : Nat} {Q : Exit → Act → World → Prop} {a : Act} {w : World} {l : List Oper} (S : World → Prop) (cv : Bool) (hm : P.follows .mixedOrders = true) (hB : Region.lexB .any l.toArray = true) (hC : chainB .any cv l.toArray = true) (hE : endB .any l.toArray = true) (hS : S w.drew)
    (h : wpLx P l.toArray S cv true (fun a' w' => Q .normal a' w') l a w.drew) : (Code.region id l.toArray true).wp P Q a w := by
  simp only [Region.lexB, Bool.and_eq_true] at hB
  have hI : EndInv .any l.toArray true (Array.replicate l.toArray.size false) := ⟨fun _ => ⟨hE, .inl ⟨by simp, fun j oj _ hj => (by rw [getD_replicate_false] at hj; cases hj), fun t ht hts => by simp at hts; simp [hts]⟩⟩⟩
  refine wp_region_any hm (wpAny_of_X (S := S) (cv := cv) (fb := true) (Q := fun a' w' => Q .normal a' w') (fun _ w' _ h => h) _ _ _ _ hI (.inl hS) ?_)
  have := wpAnyX_lex (S := S) (md := .any) hB.1 hC l 0 (Array.replicate l.toArray.size false) a w.drew hI hS (by simp) (by intro j hj; simp at hj; simp [hj]) (by simpa using hB.2) h.out
  simpa using this

theorem wpLx_nil {Q : Act → World → Prop} {a : Act} {w : World} (h : Q a w) : wpLx P ops S cv fb Q [] a w := ⟨h⟩
/-- A plain operation. -/
theorem wpLx_loose {Q : Act → World → Prop} {a : Act} {w : World} {o : Oper} {rest : List Oper} (hc : chainOp cv o = false)
    (h : ∀ K : Act → Prop, (∀ a, wpLx P ops S cv fb Q rest a w → K a) → if Region.wanted o (yielded ops a.tmps) then (∃ v, (∀ x : Subtype S, looseRes x.1 v ((execOp a.eval o).run P x.1)) ∧ K (a.put o.dst v)) else K (a.put o.dst undef)) : wpLx P ops S cv fb Q (o :: rest) a w := by
  have := h _ (fun _ h => h)
  refine ⟨?_⟩
  unfold wpL0
  rw [hc]
  split
  · rename_i hw
    rw [if_pos hw] at this
    obtain ⟨v, hv, hk⟩ := this
    exact ⟨v, fun w' hs => hv ⟨w', hs⟩, hk.out⟩
  · rename_i hw; rw [if_neg hw] at this; exact this.out
/-- An operation of the chain. -/
theorem wpLx_chain {Q : Act → World → Prop} {a : Act} {w : World} {o : Oper} {rest : List Oper} (hS : S w) (hc : chainOp cv o = true)
    (h : ∀ K : Act → World → Prop, (∀ a w, wpLx P ops S cv fb Q rest a w → K a w) → if Region.wanted o (yielded ops a.tmps) then chainRes P S (fun v w' => K (a.put o.dst v) w') ((execOp a.eval o).run P w) else K (a.put o.dst undef) w) : wpLx P ops S cv fb Q (o :: rest) a w := by
  have := h _ (fun _ _ h => h)
  refine ⟨?_⟩
  unfold wpL0
  rw [hc]
  split
  · rename_i hw; rw [if_pos hw] at this; exact fun _ => chainRes_weaken (fun _ h => .inl h) (fun _ _ _ h => h.out) this
  · rename_i hw; rw [if_neg hw] at this; exact this.out
/-- The region's end, where it may leave the class. -/
theorem wpLx_end {Q : Act → World → Prop} {a : Act} {w : World} {o : Oper} (hc : chainOp cv o = true)
    (h : ∀ K : Act → World → Prop, (∀ a w, Q a w → K a w) → if Region.wanted o (yielded ops a.tmps) then chainRes P (fun _ => True) (fun v w' => K (a.put o.dst v) w') ((execOp a.eval o).run P w) else K (a.put o.dst undef) w) : wpLx P ops S cv true Q [o] a w := by
  have := h _ (fun _ _ h => h)
  refine ⟨?_⟩
  unfold wpL0
  rw [hc]
  split
  · rename_i hw; rw [if_pos hw] at this; exact fun _ => chainRes_weaken (fun _ _ => .inr ⟨rfl, rfl⟩) (fun _ _ _ h => h) this
  · rename_i hw; rw [if_neg hw] at this; exact this
end

section
variable (P : Program) (S : World → Prop) (w w' : World) (v u : Value) (K : Value → World → Prop) (f : FuncId) (args : Array Value)
@[go_sem] theorem looseRes_value : looseRes w v (.ok (.value u) w') = (w' = w ∧ u = v) := rfl
@[go_sem] theorem looseRes_skip : looseRes w v (.ok .skip w') = (w' = w ∧ v = undef) := rfl
@[go_sem] theorem chainRes_value : chainRes P S K (.ok (.value u) w') = (S w' ∧ K u w') := rfl
@[go_sem] theorem chainRes_skip : chainRes P S K (.ok .skip w') = (S w' ∧ K undef w') := rfl
@[go_sem] theorem chainRes_enter : chainRes P S K (.ok (.enter f args) w') = Calls P f args w' (fun e w'' => ∃ v, e = .returned v ∧ S w'' ∧ K v w'') := rfl
end
/-- The class of the worlds below whose start nothing has turned. -/
abbrev Bel (W : World) : World → Prop := fun w' => Below W.heap.size W w'
theorem bel_some (W : World) : Nonempty (Subtype (Bel W)) := ⟨⟨W, Below.refl _ _⟩⟩
theorem bel_drew (W : World) : Bel W W.drew := (Below.refl _ _).drew
theorem sub_cell {W : World} {p : Addr} {v : Value} (h : W.cell? p = some v) : ∀ x : Subtype (Bel W), x.1.cell? p = some v :=
  fun x => (x.2.cell (World.block_lt_of_cell? W p h)).trans h
theorem sub_row {W : World} {g o k : Nat} {cs : Array Value} (h : rowAt W g o k = some cs) : ∀ x : Subtype (Bel W), rowAt x.1 g o k = some cs :=
  fun x => (rowAt_of_block (x.2.block g (rowAt_lt h)) o k).trans h
theorem sub_frozen {W : World} {p : Addr} {v : Value} (hc : W.cell? p = some v) (h : W.frozen? p = false) : ∀ x : Subtype (Bel W), x.1.frozen? p = false :=
  fun x => (x.2.frozen (World.block_lt_of_cell? W p hc)).trans h
theorem bel_alloc {W w : World} (h : Bel W w) (o : Obj) : Bel W (w.alloc o) := h.alloc h.size o
theorem step_keep {A B : Prop} (h : A) (k : A → B) : A ∧ B := ⟨h, k h⟩
theorem bel_next {W w w' : World} (h : Bel W w) (k : Below w.heap.size w w') : Bel W w' := h.trans (k.mono h.size)

/-- The class of the worlds in which, of what was there, only the blocks of S may have turned. -/
abbrev Kp (S : List Nat) (W : World) : World → Prop := fun w' => Keep S W w'
theorem kp_some (S : List Nat) (W : World) : Nonempty (Subtype (Kp S W)) := ⟨⟨W, Keep.refl _ _⟩⟩
theorem kp_drew (S : List Nat) (W : World) : Kp S W W.drew := (Keep.drew W).mono (by simp)
theorem ksub_cell {S : List Nat} {W : World} {p : Addr} {v : Value} (h : W.cell? p = some v) (hn : p.block ∉ S) : ∀ x : Subtype (Kp S W), x.1.cell? p = some v :=
  fun x => (x.2.cell (World.block_lt_of_cell? W p h) hn).trans h
theorem ksub_row {S : List Nat} {W : World} {g o k : Nat} {cs : Array Value} (h : rowAt W g o k = some cs) (hn : g ∉ S) : ∀ x : Subtype (Kp S W), rowAt x.1 g o k = some cs :=
  fun x => (x.2.row (rowAt_lt h) hn o k).trans h
theorem kp_alloc {S : List Nat} {W w : World} (h : Kp S W w) (o : Obj) : Kp S W (w.alloc o) := Keep.trans h (Keep.alloc w o) (by simp)
theorem kp_next {S S' : List Nat} {W w w' : World} (h : Kp S W w) (k : Keep S' w w') (hs : ∀ x ∈ S', x ∈ S ∨ W.heap.size ≤ x) : Kp S W w' := Keep.trans h k hs
theorem kp_below {S : List Nat} {W w w' : World} (h : Kp S W w) (k : Below w.heap.size w w') : Kp S W w' := Keep.trans h (Keep.of_below k) (by simp)

end Go.Proofs.YtgfpjjppeldhbaaGreatDoor

/- Package view: one that nobody made. -/
namespace Go.Proofs.YtgfpjjppeldhbaaGreatDoor
open Go.RowKit

theorem vnone_nil (w : World) : Calls Tryz.prog 56 #[.pointer none] w fun e w' => e = .returned (.bool true) ∧ w = w' := by
  go_enter Tryz.func56, Tryz.ntmps56
  go_wp2_with fail
  go_ret
  exact ⟨rfl, rfl⟩
theorem vnone_zero (w : World) (g : Nat) (h : w.cell? ⟨g, 1, none⟩ = some (.map none)) : Calls Tryz.prog 56 #[.pointer (some ⟨g, 0, none⟩)] w fun e w' => e = .returned (.bool true) ∧ w = w' := by
  have hn := fun r => run_eql_map_nil (P := Tryz.prog) w 75 39 4 r Tryz.underlying75
  go_enter Tryz.func56, Tryz.ntmps56
  go_wp2_with fail
  go_ret
  exact ⟨rfl, rfl⟩
theorem vids_nil (w : World) : Calls Tryz.prog 33 #[.pointer none] w fun e w' => e = .returned (.slice none 0 0) ∧ w = w' := by
  go_enter Tryz.func33, Tryz.ntmps33
  go_wp2_with fail
  refine (vnone_nil _).mono ?_; rintro e w' ⟨rfl, rfl⟩
  go_wp2_with fail
  go_ret
  exact ⟨rfl, rfl⟩
theorem vids_zero (w : World) (g : Nat) (h : w.cell? ⟨g, 1, none⟩ = some (.map none)) : Calls Tryz.prog 33 #[.pointer (some ⟨g, 0, none⟩)] w fun e w' => e = .returned (.slice none 0 0) ∧ w = w' := by
  go_enter Tryz.func33, Tryz.ntmps33
  go_wp2_with fail
  refine (vnone_zero _ _ h).mono ?_; rintro e w' ⟨rfl, rfl⟩
  go_wp2_with fail
  go_ret
  exact ⟨rfl, rfl⟩
theorem vtop_nil (w : World) : Calls Tryz.prog 37 #[.pointer none] w fun e w' => e = .returned (.string ⟨#[]⟩) ∧ w = w' := by
  go_enter Tryz.func37, Tryz.ntmps37
  go_wp2_with fail
  refine (vnone_nil _).mono ?_; rintro e w' ⟨rfl, rfl⟩
  go_wp2_with fail
  go_ret
  exact ⟨rfl, rfl⟩
theorem vtop_zero (w : World) (g : Nat) (h : w.cell? ⟨g, 1, none⟩ = some (.map none)) : Calls Tryz.prog 37 #[.pointer (some ⟨g, 0, none⟩)] w fun e w' => e = .returned (.string ⟨#[]⟩) ∧ w = w' := by
  go_enter Tryz.func37, Tryz.ntmps37
  go_wp2_with fail
  refine (vnone_zero _ _ h).mono ?_; rintro e w' ⟨rfl, rfl⟩
  go_wp2_with fail
  go_ret
  exact ⟨rfl, rfl⟩
theorem vput_nil (w : World) : Calls Tryz.prog 34 #[.pointer none] w fun e w' => e = .returned (.string ⟨#[]⟩) ∧ w = w' := by
  go_enter Tryz.func34, Tryz.ntmps34
  go_wp2_with fail
  refine (vnone_nil _).mono ?_; rintro e w' ⟨rfl, rfl⟩
  go_wp2_with fail
  go_ret
  exact ⟨rfl, rfl⟩
theorem vput_zero (w : World) (g : Nat) (h : w.cell? ⟨g, 1, none⟩ = some (.map none)) : Calls Tryz.prog 34 #[.pointer (some ⟨g, 0, none⟩)] w fun e w' => e = .returned (.string ⟨#[]⟩) ∧ w = w' := by
  go_enter Tryz.func34, Tryz.ntmps34
  go_wp2_with fail
  refine (vnone_zero _ _ h).mono ?_; rintro e w' ⟨rfl, rfl⟩
  go_wp2_with fail
  go_ret
  exact ⟨rfl, rfl⟩

theorem vhas_nil (d : Id32) (w : World) : Calls Tryz.prog 25 #[.pointer none, .agg (idC d)] w fun e w' => e = .returned (.bool false) ∧ Below w.heap.size w w' := by
  have hB : Below w.heap.size w (w.alloc (.cells (idC d) 39)) := (Below.refl _ _).alloc (Nat.le_refl _) _
  go_enter Tryz.func25, Tryz.ntmps25
  go_upto_region 1 with fail
  generalize w.alloc (.cells (idC d) 39) = W at *
  refine wp_region_lex (Bel W) false (by kernel_rfl) (by kernel_rfl) (by kernel_rfl) (bel_drew W) ?_
  have hne := bel_some W
  have hS := bel_drew W
  repeat (refine wpLx_loose ?_ ?_; (focus (simp only [chainOp]; done)); intro K hK; go_simp; refine hK _ ?_; clear hK K)
  refine wpLx_chain ?_ ?_ ?_
  focus (exact hS)
  focus (simp only [chainOp]; done)
  intro K hK
  go_simp
  refine (vnone_nil _).mono ?_
  rintro e w' ⟨rfl, rfl⟩
  refine ⟨_, rfl, hS, hK _ _ ?_⟩
  clear hK K
  repeat (refine wpLx_loose ?_ ?_; (focus (simp only [chainOp]; done)); intro K hK; go_simp; refine hK _ ?_; clear hK K)
  refine wpLx_nil ?_
  intro hS
  go_wp2_with fail
  go_ret
  exact ⟨rfl, bel2 hB hS⟩
theorem vhas_zero (d : Id32) (w : World) (g : Nat) (h : w.cell? ⟨g, 1, none⟩ = some (.map none)) : Calls Tryz.prog 25 #[.pointer (some ⟨g, 0, none⟩), .agg (idC d)] w fun e w' => e = .returned (.bool false) ∧ Below w.heap.size w w' := by
  have hB : Below w.heap.size w (w.alloc (.cells (idC d) 39)) := (Below.refl _ _).alloc (Nat.le_refl _) _
  have hc : (w.alloc (.cells (idC d) 39)).cell? ⟨g, 1, none⟩ = some (.map none) := (World.cell?_alloc_lt w _ _ (World.block_lt_of_cell? w _ h)).trans h
  go_enter Tryz.func25, Tryz.ntmps25
  go_upto_region 1 with fail
  generalize w.alloc (.cells (idC d) 39) = W at *
  refine wp_region_lex (Bel W) false (by kernel_rfl) (by kernel_rfl) (by kernel_rfl) (bel_drew W) ?_
  have hne := bel_some W
  have hS := bel_drew W
  repeat (refine wpLx_loose ?_ ?_; (focus (simp only [chainOp]; done)); intro K hK; go_simp; refine hK _ ?_; clear hK K)
  refine wpLx_chain ?_ ?_ ?_
  focus (exact hS)
  focus (simp only [chainOp]; done)
  intro K hK
  go_simp
  refine (vnone_zero W.drew g hc).mono ?_
  rintro e w' ⟨rfl, rfl⟩
  refine ⟨_, rfl, hS, hK _ _ ?_⟩
  clear hK K
  repeat (refine wpLx_loose ?_ ?_; (focus (simp only [chainOp]; done)); intro K hK; go_simp; refine hK _ ?_; clear hK K)
  refine wpLx_nil ?_
  intro hS
  go_wp2_with fail
  go_ret
  exact ⟨rfl, bel2 hB hS⟩

end Go.Proofs.YtgfpjjppeldhbaaGreatDoor

/- Maps: what a look-up, an update, a deletion, a range do, said of a plain list of keys and values. No program is named here. -/
namespace Go.Proofs.YtgfpjjppeldhbaaGreatDoor
open Go.RowKit

theorem nodup_inj {α : Type} : ∀ {l : List α}, l.Nodup → ∀ {i j : Nat} {a : α}, l[i]? = some a → l[j]? = some a → i = j
  | [], _, _, _, _, h, _ => by simp at h
  | x :: l, hn, i, j, a, hi, hj => by
    rw [List.nodup_cons] at hn
    match i, j, hi, hj with
    | 0, 0, _, _ => rfl
    | 0, j + 1, hi, hj => simp at hi hj; subst hi; exact absurd (List.mem_of_getElem? hj) hn.1
    | i + 1, 0, hi, hj => simp at hi hj; subst hj; exact absurd (List.mem_of_getElem? hi) hn.1
    | i + 1, j + 1, hi, hj =>
      have := nodup_inj hn.2 (i := i) (j := j) (a := a) (by simpa using hi) (by simpa using hj)
      omega

section
variable {P : Program} {K : TypeId} {κ ν : Type}

/-- Keys as values. -/
structure KeyEnc (P : Program) (K : TypeId) {κ : Type} (kv : κ → Value) (ok : κ → Prop) : Prop where
  law : WideMaps.KeyLaw P K
  key : ∀ k, ok k → ∃ l, keyOf P K (kv k) = some l
  inj : ∀ a b, kv a = kv b → a = b

/-- Block b is a map that holds M. -/
structure MapAt (w : World) (b : Nat) (kv : κ → Value) (vv : ν → Value) (ok : κ → Prop) (M : List (κ × ν)) (es : Array MapEntry) (clk : Nat) : Prop where
  heap : w.heap[b]? = some (.map es clk)
  keys : es.toList.map (·.key) = M.map (fun p => kv p.1)
  vals : es.toList.map (·.val) = M.map (fun p => vv p.2)
  nodup : (M.map (·.1)).Nodup
  okk : ∀ p ∈ M, ok p.1
  born : (es.toList.map (·.born)).Nodup
  clock : ∀ e ∈ es.toList, e.born < clk

/-- A new value under a key. -/
def putL [DecidableEq κ] (M : List (κ × ν)) (k : κ) (v : ν) : List (κ × ν) := if k ∈ M.map (·.1) then M.map (fun p => if p.1 = k then (k, v) else p) else M ++ [(k, v)]

variable {kv : κ → Value} {vv : ν → Value} {ok : κ → Prop} {w : World} {b : Nat} {M : List (κ × ν)} {es : Array MapEntry} {clk : Nat}

theorem MapAt.length (h : MapAt w b kv vv ok M es clk) : es.size = M.length := by
  have := congrArg List.length h.keys
  simpa using this
theorem MapAt.at_ (h : MapAt w b kv vv ok M es clk) {j : Nat} {p : κ × ν} (hp : M[j]? = some p) : ∃ e, es.toList[j]? = some e ∧ e.key = kv p.1 ∧ e.val = vv p.2 := by
  have hk := congrArg (fun l => l[j]?) h.keys
  have hv := congrArg (fun l => l[j]?) h.vals
  simp only [List.getElem?_map, hp, Option.map_some] at hk hv
  cases he : es.toList[j]? with
  | none => rw [he] at hk; cases hk
  | some e =>
    rw [he] at hk hv
    exact ⟨e, rfl, by simpa using hk, by simpa using hv⟩
theorem MapAt.at_key (h : MapAt w b kv vv ok M es clk) {j : Nat} {e : MapEntry} (he : es.toList[j]? = some e) : ∃ p, M[j]? = some p ∧ e.key = kv p.1 ∧ e.val = vv p.2 := by
  have hk := congrArg (fun l => l[j]?) h.keys
  have hv := congrArg (fun l => l[j]?) h.vals
  simp only [List.getElem?_map, he, Option.map_some] at hk hv
  cases hp : M[j]? with
  | none => rw [hp] at hk; cases hk
  | some p =>
    rw [hp] at hk hv
    exact ⟨p, rfl, by simpa using hk, by simpa using hv⟩
theorem MapAt.kept {S : List Nat} {w' : World} (h : MapAt w b kv vv ok M es clk) (hk : Keep S w w') (hb : b ∉ S) : MapAt w' b kv vv ok M es clk :=
  ⟨(hk.block b (by
      rcases Nat.lt_or_ge b w.heap.size with hl | hl
      · exact hl
      · have := h.heap; rw [Array.getElem?_eq_none hl] at this; cases this) hb).trans h.heap, h.keys, h.vals, h.nodup, h.okk, h.born, h.clock⟩
theorem MapAt.lt (h : MapAt w b kv vv ok M es clk) : b < w.heap.size := by
  rcases Nat.lt_or_ge b w.heap.size with hl | hl
  · exact hl
  · have := h.heap; rw [Array.getElem?_eq_none hl] at this; cases this

theorem MapAt.find (h : MapAt w b kv vv ok M es clk) (E : KeyEnc P K kv ok) {k : κ} (hk : ok k) :
    ((Instr.findKey K (kv k) es.toList).run P w = .ok none w ∧ k ∉ M.map (·.1)) ∨
    ∃ j p, (Instr.findKey K (kv k) es.toList).run P w = .ok (some (j, vv p.2)) w ∧ M[j]? = some p ∧ p.1 = k := by
  obtain ⟨l, hl⟩ := E.key k hk
  have hall : ∀ e ∈ es.toList, ∃ l, keyOf P K e.key = some l := by
    intro e he
    obtain ⟨j, hj, rfl⟩ := List.mem_iff_getElem.1 he
    obtain ⟨p, hp, hkey, _⟩ := h.at_key (List.getElem?_eq_getElem hj)
    rw [hkey]
    exact E.key _ (h.okk p (List.mem_of_getElem? hp))
  rcases E.law.find w hl es.toList hall with ⟨hrun, hno⟩ | ⟨j, e, hrun, hj, hkey⟩
  · refine .inl ⟨hrun, fun hm => ?_⟩
    obtain ⟨p, hp, rfl⟩ := List.mem_map.1 hm
    obtain ⟨j, hj, hpj⟩ := List.mem_iff_getElem.1 hp
    obtain ⟨e, he, hek, _⟩ := h.at_ (j := j) (p := p) (by rw [List.getElem?_eq_getElem hj, hpj])
    exact hno e (List.mem_of_getElem? he) hek
  · obtain ⟨p, hp, hk1, hv1⟩ := h.at_key hj
    exact .inr ⟨j, p, by rw [hrun, hv1], hp, E.inj _ _ (hk1.symm.trans hkey)⟩

theorem run_getObj_map (h : w.heap[b]? = some (.map es clk)) : (getObj b).run P w = .ok (.map es clk) w := by
  simp [getObj, Sem.run, h]

/-- A key that is there. -/
theorem MapAt.hit {T E' : TypeId} (h : MapAt w b kv vv ok M es clk) (E : KeyEnc P K kv ok) (ht : P.underlying T = some (.map K E')) {k : κ} {v : ν} (hk : ok k) (hm : (k, v) ∈ M) (comma : Bool) :
    (Instr.lookup T (.map (some b)) (kv k) comma).run P w = .ok (if comma then .tuple #[vv v, .bool true] else vv v) w := by
  obtain ⟨l, hl⟩ := E.key k hk
  rcases h.find E hk with ⟨_, hno⟩ | ⟨j, p, hrun, hp, hpk⟩
  · exact absurd (List.mem_map.2 ⟨_, hm, rfl⟩) hno
  · have hpe : p = (k, v) := by
      obtain ⟨i, hi, hpi⟩ := List.mem_iff_getElem.1 hm
      obtain ⟨hj, hpj⟩ := List.getElem?_eq_some_iff.1 hp
      have hnd := h.nodup
      have e1 : (M.map (·.1))[i]? = some k := by rw [List.getElem?_map, List.getElem?_eq_getElem hi, hpi]; rfl
      have e2 : (M.map (·.1))[j]? = some k := by rw [List.getElem?_map, hp]; simp [hpk]
      have : i = j := nodup_inj hnd e1 e2
      subst this
      rw [← hpj, hpi]
    subst hpe
    simp only [Instr.lookup, Sem.run_bind, run_underlying ht, Result.andThen_ok, run_getObj_map h.heap, E.law.check w es.isEmpty hl, hrun, Sem.run_pure]
/-- A key that is not there. -/
theorem MapAt.miss {T E' : TypeId} (h : MapAt w b kv vv ok M es clk) (E : KeyEnc P K kv ok) (ht : P.underlying T = some (.map K E')) {z : Value} (hz : (zeroValue E').run P w = .ok z w) {k : κ} (hk : ok k) (hm : k ∉ M.map (·.1)) (comma : Bool) :
    (Instr.lookup T (.map (some b)) (kv k) comma).run P w = .ok (if comma then .tuple #[z, .bool false] else z) w := by
  obtain ⟨l, hl⟩ := E.key k hk
  rcases h.find E hk with ⟨hrun, _⟩ | ⟨j, p, hrun, hp, hpk⟩
  · simp only [Instr.lookup, Sem.run_bind, run_underlying ht, Result.andThen_ok, run_getObj_map h.heap, E.law.check w es.isEmpty hl, hrun, Sem.run_pure, hz]
  · exact absurd (List.mem_map.2 ⟨p, List.mem_of_getElem? hp, hpk⟩) hm

theorem keep_setObj (w : World) (b : Nat) (o : Obj) : Keep [b] w { w with heap := w.heap.setIfInBounds b o } :=
  ⟨rfl, rfl, rfl, by simp, fun k _ hn => by
    show (w.heap.setIfInBounds b o)[k]? = _
    rw [Array.getElem?_setIfInBounds_ne (by simpa using fun e => hn (by simp [e]))]⟩
theorem run_setObj' {w : World} {b : Nat} {es : Array MapEntry} {clk : Nat} (h : w.heap[b]? = some (.map es clk)) (o : Obj) : (setObj b o).run P w = .ok () { w with heap := w.heap.setIfInBounds b o } := by
  simp [setObj, Sem.run, h]
theorem heap_setObj {w : World} {b : Nat} (o : Obj) (hb : b < w.heap.size) : ({ w with heap := w.heap.setIfInBounds b o } : World).heap[b]? = some o := by
  show (w.heap.setIfInBounds b o)[b]? = _
  rw [Array.getElem?_setIfInBounds_self_of_lt hb]

/-- An update. -/
theorem MapAt.update [DecidableEq κ] {T E' : TypeId} (h : MapAt w b kv vv ok M es clk) (E : KeyEnc P K kv ok) (ht : P.underlying T = some (.map K E')) {k : κ} {v : ν} (hk : ok k) :
    ∃ w' es' clk', (Instr.mapUpdate T (.map (some b)) (kv k) (vv v)).run P w = .ok () w' ∧ MapAt w' b kv vv ok (putL M k v) es' clk' ∧ Keep [b] w w' := by
  obtain ⟨l, hl⟩ := E.key k hk
  rcases h.find E hk with ⟨hrun, hno⟩ | ⟨j, p, hrun, hp, hpk⟩
  · refine ⟨_, es.push { key := kv k, val := vv v, born := clk }, clk + 1, ?_, ⟨heap_setObj _ h.lt, ?_, ?_, ?_, ?_, ?_, ?_⟩, keep_setObj w b _⟩
    · simp only [Instr.mapUpdate, Sem.run_bind, run_underlying ht, Result.andThen_ok, run_getObj_map h.heap, E.law.check w false hl, hrun, run_setObj' h.heap]
    · unfold putL; rw [if_neg hno]; simp [h.keys]
    · unfold putL; rw [if_neg hno]; simp [h.vals]
    · unfold putL; rw [if_neg hno, List.map_append, List.nodup_append]
      refine ⟨h.nodup, by simp, ?_⟩
      intro a ha c hc e
      simp at hc
      subst hc; subst e
      exact hno ha
    · unfold putL; rw [if_neg hno]
      intro q hq
      rcases List.mem_append.1 hq with hq | hq
      · exact h.okk q hq
      · simp at hq; subst hq; exact hk
    · simp only [Array.toList_push, List.map_append, List.map_cons, List.map_nil, List.nodup_append]
      refine ⟨h.born, by simp, ?_⟩
      intro a ha c hc e
      simp at hc
      subst hc; subst e
      obtain ⟨e', he', hb'⟩ := List.mem_map.1 ha
      have := h.clock e' he'
      omega
    · intro e he
      simp only [Array.toList_push, List.mem_append, List.mem_singleton] at he
      rcases he with he | he
      · have := h.clock e he; omega
      · subst he; show clk < clk + 1; omega
  · have hmem : k ∈ M.map (·.1) := List.mem_map.2 ⟨p, List.mem_of_getElem? hp, hpk⟩
    obtain ⟨e0, he0, hek, hev⟩ := h.at_ hp
    have hold : ((es[j]?).map (·.key)).getD (kv k) = kv k := by
      have : es[j]? = some e0 := by simpa using he0
      rw [this]
      simp [hek, hpk]
    have hput : putL M k v = M.modify j (fun _ => (k, v)) := by
      unfold putL; rw [if_pos hmem]
      apply List.ext_getElem?
      intro n
      rw [List.getElem?_map, List.getElem?_modify]
      by_cases hn : j = n
      · subst hn; simp [hp, hpk]
      · cases hq : M[n]? with
        | none => simp [hn]
        | some q =>
          have hne : q.1 ≠ k := by
            intro e
            have e1 : (M.map (·.1))[j]? = some k := by rw [List.getElem?_map, hp]; simp [hpk]
            have e2 : (M.map (·.1))[n]? = some k := by rw [List.getElem?_map, hq]; simp [e]
            exact hn (nodup_inj h.nodup e1 e2)
          simp [hn, hne]
    refine ⟨_, es.modify j fun e => { e with key := kv k, val := vv v }, clk, ?_, ⟨heap_setObj _ h.lt, ?_, ?_, ?_, ?_, ?_, ?_⟩, keep_setObj w b _⟩
    · simp only [Instr.mapUpdate, Sem.run_bind, run_underlying ht, Result.andThen_ok, run_getObj_map h.heap, E.law.check w false hl, hrun, hold, E.law.stays w hl, run_setObj' h.heap]
    all_goals (try rw [hput])
    · rw [Array.toList_modify]
      apply List.ext_getElem?
      intro n
      have hkn := congrArg (fun l => l[n]?) h.keys
      simp only [List.getElem?_map] at hkn
      simp only [List.getElem?_map, List.getElem?_modify]
      by_cases hn : j = n
      · subst hn; simp [hp, he0]
      · simpa [hn] using hkn
    · rw [Array.toList_modify]
      apply List.ext_getElem?
      intro n
      have hkn := congrArg (fun l => l[n]?) h.vals
      simp only [List.getElem?_map] at hkn
      simp only [List.getElem?_map, List.getElem?_modify]
      by_cases hn : j = n
      · subst hn; simp [hp, he0]
      · simpa [hn] using hkn
    · have : (M.modify j fun _ => (k, v)).map (·.1) = M.map (·.1) := by
        apply List.ext_getElem?
        intro n
        simp only [List.getElem?_map, List.getElem?_modify]
        by_cases hn : j = n
        · subst hn; simp [hp, hpk]
        · simp [hn]
      rw [this]; exact h.nodup
    · intro q hq
      obtain ⟨n, hn, hqn⟩ := List.mem_iff_getElem.1 hq
      have hq' : (M.modify j fun _ => (k, v))[n]? = some q := by rw [List.getElem?_eq_getElem hn, hqn]
      rw [List.getElem?_modify] at hq'
      by_cases e : j = n
      · subst e; rw [hp] at hq'; simp at hq'; subst hq'; exact hk
      · simp [e] at hq'
        exact h.okk q (List.mem_of_getElem? hq')
    · have : ((es.modify j fun e => { e with key := kv k, val := vv v }).toList.map (·.born)) = es.toList.map (·.born) := by
        rw [Array.toList_modify]
        apply List.ext_getElem?
        intro n
        simp only [List.getElem?_map, List.getElem?_modify]
        by_cases hn : j = n
        · subst hn; simp [he0]
        · simp [hn]
      rw [this]; exact h.born
    · intro e he
      rw [Array.toList_modify] at he
      obtain ⟨n, hn, hen⟩ := List.mem_iff_getElem.1 he
      have he' : (es.toList.modify j fun e => { e with key := kv k, val := vv v })[n]? = some e := by rw [List.getElem?_eq_getElem hn, hen]
      rw [List.getElem?_modify] at he'
      by_cases hj : j = n
      · subst hj; rw [he0] at he'; simp at he'; subst he'; exact h.clock e0 (List.mem_of_getElem? he0)
      · simp [hj] at he'
        exact h.clock e (List.mem_of_getElem? (by simpa using he'))
theorem MapAt.new (w : World) (b : Nat) (hb : b = w.heap.size) : MapAt (w.alloc (.map #[] 0)) b kv vv ok [] #[] 0 := by
  subst hb
  exact ⟨heap_alloc_new w _, rfl, rfl, by simp, by simp, by simp, by simp⟩
theorem MapAt.len {T E' : TypeId} {ats : Array TypeId} {ty : TypeId} (h : MapAt w b kv vv ok M es clk) (ht : P.underlying T = some (.map K E')) (hats : ats[0]? = some T) : (Builtin.len_ ats ty #[.map (some b)]).run P w = .ok (.int .i64 M.length) w := by
  simp [Builtin.len_, hats, run_underlying ht, run_getObj_map h.heap, goInt, h.length]
end

end Go.Proofs.YtgfpjjppeldhbaaGreatDoor

/- A range loop over a map, said of a plain list of keys and values; a deletion. No program is named here. -/
namespace Go.Proofs.YtgfpjjppeldhbaaGreatDoor
open Go.RowKit
open Go.ChangeMaps (setBlock)

section
variable {P : Program} {K : TypeId} {κ ν : Type} {kv : κ → Value} {vv : ν → Value} {ok : κ → Prop} {w : World} {b r : Nat} {M S : List (κ × ν)} {es : Array MapEntry} {clk : Nat}

theorem MapAt.nodupP (h : MapAt w b kv vv ok M es clk) : M.Nodup := by
  have := h.nodup
  exact List.Pairwise.of_map (·.1) (fun a b h e => h (by rw [e])) this

/-- A range loop over the map in block b, its iterator in block r: the entries S have come. -/
def RangeAt (w : World) (b r : Nat) (kv : κ → Value) (vv : ν → Value) (ok : κ → Prop) (M S : List (κ × ν)) : Prop :=
  ∃ es clk since seen c0, MapAt w b kv vv ok M es clk ∧ w.heap[r]? = some (.mapIter (some b) since seen c0) ∧ (∀ x ∈ es.toList, x.born < since) ∧ since ≤ c0 ∧ since ≤ clk ∧
    S.Nodup ∧ (∀ p ∈ S, p ∈ M) ∧ (∀ (j : Nat) (e : MapEntry) (p : κ × ν), es.toList[j]? = some e → M[j]? = some p → (p ∈ S ↔ seen.contains e.born = true))

theorem RangeAt.ne (h : RangeAt w b r kv vv ok M S) : r ≠ b := by
  obtain ⟨es, clk, since, seen, c0, hm, hr, _⟩ := h
  rintro rfl
  have := hm.heap
  rw [hr] at this; cases this
theorem RangeAt.lt (h : RangeAt w b r kv vv ok M S) : r < w.heap.size ∧ b < w.heap.size := by
  obtain ⟨es, clk, since, seen, c0, hm, hr, _⟩ := h
  exact ⟨(Array.getElem?_eq_some_iff.1 hr).1, hm.lt⟩
theorem RangeAt.kept {T : List Nat} {w' : World} (h : RangeAt w b r kv vv ok M S) (hk : Keep T w w') (hb : b ∉ T) (hr : r ∉ T) : RangeAt w' b r kv vv ok M S := by
  have hl := h.lt
  obtain ⟨es, clk, since, seen, c0, hm, hi, rest⟩ := h
  exact ⟨es, clk, since, seen, c0, hm.kept hk hb, (hk.block r hl.1 hr).trans hi, rest⟩
theorem rangeLeft_kept {T : List Nat} {w w' : World} {b r : Nat} (hk : Keep T w w') (hb : b ∉ T) (hr : r ∉ T) (hbl : b < w.heap.size) (hrl : r < w.heap.size) : w'.rangeLeft b r = w.rangeLeft b r := by
  unfold World.rangeLeft
  rw [hk.block b hbl hb, hk.block r hrl hr]
theorem RangeAt.sub (h : RangeAt w b r kv vv ok M S) : ∀ p ∈ S, p ∈ M := by
  obtain ⟨es, clk, since, seen, c0, hm, hr, _, _, _, _, hs, _⟩ := h; exact hs
theorem RangeAt.nodup (h : RangeAt w b r kv vv ok M S) : S.Nodup := by
  obtain ⟨es, clk, since, seen, c0, hm, hr, _, _, _, hs, _, _⟩ := h; exact hs
theorem nodup_len {α : Type} : ∀ {S M : List α}, S.Nodup → (∀ x ∈ S, x ∈ M) → S.length ≤ M.length
  | [], _, _, _ => Nat.zero_le _
  | x :: S, M, hn, hs => by
    rw [List.nodup_cons] at hn
    obtain ⟨A, B, rfl⟩ := List.append_of_mem (hs x (by simp))
    have := nodup_len (M := A ++ B) hn.2 (fun y hy => by
      have h1 := hs y (by simp [hy])
      rcases List.mem_append.1 h1 with h | h
      · exact List.mem_append.2 (.inl h)
      · rcases List.mem_cons.1 h with h | h
        · subst h; exact absurd hy hn.1
        · exact List.mem_append.2 (.inr h))
    simp at this ⊢; omega
theorem RangeAt.length (h : RangeAt w b r kv vv ok M S) : S.length ≤ M.length := nodup_len h.nodup h.sub

/-- 'range m'. -/
theorem MapAt.range {T E' : TypeId} (h : MapAt w b kv vv ok M es clk) (ht : P.underlying T = some (.map K E')) :
    ∃ w', (Instr.range T (.map (some b))).run P w = .ok (.pointer (some ⟨w.heap.size, 0, none⟩)) w' ∧ RangeAt w' b w.heap.size kv vv ok M [] ∧ Below w.heap.size w w' ∧ w'.heap.size = w.heap.size + 1 := by
  refine ⟨_, run_range_map w T K E' b es clk ht h.heap, ⟨es, clk, clk, #[], clk, h.kept (Keep.alloc _ _) (by simp), heap_alloc_new w _, h.clock, Nat.le_refl _, Nat.le_refl _, List.nodup_nil, by simp, ?_⟩, (Below.refl _ _).alloc (Nat.le_refl _) _, by simp⟩
  intro j e p _ _
  simp

/-- The step. -/
theorem RangeAt.next (h : RangeAt w b r kv vv ok M S) (ty : TypeId) :
    (S.Perm M ∧ (Instr.next (.pointer (some ⟨r, 0, none⟩)) false ty).run P w = .ok (.tuple #[.bool false]) w) ∨
    ∃ p w', p ∈ M ∧ p ∉ S ∧ (Instr.next (.pointer (some ⟨r, 0, none⟩)) false ty).run P w = .ok (.tuple #[.bool true, kv p.1, vv p.2]) w' ∧ RangeAt w' b r kv vv ok M (S ++ [p]) ∧ Keep [r] w w' ∧ w'.heap.size = w.heap.size ∧
      w'.rangeLeft b r < w.rangeLeft b r ∧ (Instr.entry (.pointer (some ⟨r, 0, none⟩))).run P w' = .ok (.tuple #[kv p.1, vv p.2]) w' := by
  have hne := h.ne
  obtain ⟨es, clk, since, seen, c0, hm, hr, hold, hsc, hsk, hnd, hsub, hiff⟩ := h
  rcases run_next_at (P := P) w ty r b since c0 seen es clk hr hm.heap hold hsc with ⟨h0, hrun⟩ | ⟨e, he, w1, hal, hrun⟩
  · refine .inl ⟨?_, hrun⟩
    refine (List.perm_ext_iff_of_nodup hnd hm.nodupP).2 fun p => ⟨hsub p, fun hp => ?_⟩
    obtain ⟨j, hj, rfl⟩ := List.mem_iff_getElem.1 hp
    obtain ⟨e, he, _, _⟩ := hm.at_ (List.getElem?_eq_getElem hj)
    exact (hiff j e _ he (List.getElem?_eq_getElem hj)).2 (all_seen es seen h0 e (List.mem_of_getElem? he))
  · obtain ⟨hem, hes⟩ := mem_left he
    obtain ⟨j, hj, rfl⟩ := List.mem_iff_getElem.1 hem
    have hje : es.toList[j]? = some es.toList[j] := List.getElem?_eq_getElem hj
    obtain ⟨p, hp, hk, hv⟩ := hm.at_key hje
    have hr1 : w1.heap[r]? = some (.mapIter (some b) since seen c0) := by rcases hal with rfl | rfl <;> exact hr
    have hb1 : w1.heap[b]? = some (.map es clk) := by rcases hal with rfl | rfl <;> exact hm.heap
    have hset := MapKept.heap_set (o' := .mapIter (some b) since (seen.push es.toList[j].born) clk) hr1
    have hkeep : Keep [r] w (setBlock w1 r (.mapIter (some b) since (seen.push es.toList[j].born) clk)) := by
      rcases hal with rfl | rfl
      · exact ⟨rfl, rfl, rfl, by simp [setBlock], fun k _ hn => hset.2 k (by simpa using hn)⟩
      · exact ⟨rfl, rfl, rfl, by simp [setBlock], fun k _ hn => hset.2 k (by simpa using hn)⟩
    have hm' : MapAt (setBlock w1 r (.mapIter (some b) since (seen.push es.toList[j].born) clk)) b kv vv ok M es clk := hm.kept hkeep (by simpa using fun e => hne e.symm)
    have hpS : p ∉ S := fun hm => by rw [(hiff j _ p hje hp).1 hm] at hes; cases hes
    refine .inr ⟨p, _, List.mem_of_getElem? hp, hpS, by rw [hrun, hk, hv], ⟨es, clk, since, seen.push es.toList[j].born, clk, hm', hset.1, hold, hsk, hsk, ?_, ?_, ?_⟩, hkeep, ?_, ?_, ?_⟩
    · rw [List.nodup_append]
      refine ⟨hnd, by simp, fun a ha c hc e => ?_⟩
      simp at hc
      subst hc; subst e
      exact hpS ha
    · intro q hq
      rcases List.mem_append.1 hq with hq | hq
      · exact hsub q hq
      · simp at hq; subst hq; exact List.mem_of_getElem? hp
    · intro j' e' p' he' hp'
      rw [contains_push, List.mem_append, Bool.or_eq_true, hiff j' e' p' he' hp']
      refine or_congr Iff.rfl ?_
      simp only [List.mem_singleton, beq_iff_eq]
      constructor
      · intro e1
        subst e1
        have : j' = j := nodup_inj hm.nodupP hp' hp
        subst this
        rw [hje] at he'; injection he' with he'
        rw [he']
      · intro e1
        have e2 : (es.toList.map (·.born))[j']? = some e'.born := by rw [List.getElem?_map, he']; rfl
        have e3 : (es.toList.map (·.born))[j]? = some e'.born := by rw [List.getElem?_map, hje, e1]; rfl
        have : j' = j := nodup_inj hm.born e2 e3
        subst this
        rw [hp] at hp'; injection hp' with hp'
        exact hp'.symm
    · rcases hal with rfl | rfl <;> simp [setBlock]
    · unfold World.rangeLeft
      have q1 : (setBlock w1 r (.mapIter (some b) since (seen.push es.toList[j].born) clk)).heap[b]? = some (.map es clk) := (hset.2 b (fun e => hne e.symm)).trans hb1
      have q2 : (setBlock w1 r (.mapIter (some b) since (seen.push es.toList[j].born) clk)).heap[r]? = some (.mapIter (some b) since (seen.push es.toList[j].born) clk) := hset.1
      rw [q1, q2, hm.heap, hr]
      exact left_shrinks es seen _ he
    · have := run_entry_at (P := P) (setBlock w1 r (.mapIter (some b) since (seen.push es.toList[j].born) clk)) r b since seen es clk es.toList[j] hset.1 (hset.2 b (fun e => hne e.symm) |>.trans hb1) hem hm.born
      rw [hk, hv] at this
      exact this

/-- A deletion. -/
def delL [DecidableEq κ] (M : List (κ × ν)) (k : κ) : List (κ × ν) := M.filter (fun p => decide (p.1 ≠ k))
theorem filter_erase [DecidableEq κ] : ∀ {M : List (κ × ν)}, (M.map (·.1)).Nodup → ∀ {j : Nat} {p : κ × ν}, M[j]? = some p → M.eraseIdx j = delL M p.1
  | [], _, j, p, h => by simp at h
  | x :: l, hn, j, p, h => by
    rw [List.map_cons, List.nodup_cons] at hn
    unfold delL
    cases j with
    | zero =>
      simp at h; subst h
      rw [List.eraseIdx_cons_zero, List.filter_cons, if_neg (by simp)]
      refine (List.filter_eq_self.2 fun y hy => ?_).symm
      simp only [decide_eq_true_eq]
      intro e
      exact hn.1 (List.mem_map.2 ⟨y, hy, e⟩)
    | succ j =>
      simp at h
      rw [List.eraseIdx_cons_succ, List.filter_cons, if_pos, filter_erase hn.2 h]
      · rfl
      · simp only [decide_eq_true_eq]
        intro e
        exact hn.1 (List.mem_map.2 ⟨p, List.mem_of_getElem? h, e.symm⟩)
theorem delL_none [DecidableEq κ] {M : List (κ × ν)} {k : κ} (h : k ∉ M.map (·.1)) : delL M k = M :=
  List.filter_eq_self.2 fun p hp => by
    simp only [decide_eq_true_eq]
    intro e
    exact h (List.mem_map.2 ⟨p, hp, e⟩)
theorem mem_delL [DecidableEq κ] {M : List (κ × ν)} {k : κ} {p : κ × ν} : p ∈ delL M k ↔ p ∈ M ∧ p.1 ≠ k := by simp [delL]
theorem map_eraseIdx' {α β : Type} (f : α → β) (l : List α) (j : Nat) : (l.eraseIdx j).map f = (l.map f).eraseIdx j := by
  induction l generalizing j with
  | nil => rfl
  | cons x l ih => cases j <;> simp [ih]

theorem MapAt.delete [DecidableEq κ] {T E' ty : TypeId} (h : MapAt w b kv vv ok M es clk) (E : KeyEnc P K kv ok) (ht : P.underlying T = some (.map K E')) {k : κ} (hk : ok k) :
    ∃ w' es', (Builtin.delete_ #[T, K] ty #[.map (some b), kv k]).run P w = .ok (.tuple #[]) w' ∧ MapAt w' b kv vv ok (delL M k) es' clk ∧ Keep [b] w w' := by
  obtain ⟨l, hl⟩ := E.key k hk
  rcases h.find E hk with ⟨hrun, hno⟩ | ⟨j, p, hrun, hp, hpk⟩
  · refine ⟨_, es, ?_, ⟨heap_setObj _ h.lt, ?_, ?_, ?_, ?_, h.born, h.clock⟩, keep_setObj w b _⟩
    · simp only [Builtin.delete_, List.getElem?_toArray, List.getElem?_cons_zero, List.getElem?_cons_succ, Sem.run_bind, run_underlying ht, Result.andThen_ok, run_getObj_map h.heap, E.law.check w es.isEmpty hl, hrun, run_setObj' h.heap, Sem.run_pure]
    all_goals rw [delL_none hno]
    · exact h.keys
    · exact h.vals
    · exact h.nodup
    · exact h.okk
  · obtain ⟨e0, he0, hek, hev⟩ := h.at_ hp
    have hjs : j < es.size := by
      have := (List.getElem?_eq_some_iff.1 he0).1
      simpa using this
    have hsub : (es.eraseIdxIfInBounds j).toList = es.toList.eraseIdx j := by
      unfold Array.eraseIdxIfInBounds
      rw [dif_pos hjs]; simp
    have hd : delL M k = M.eraseIdx j := by rw [filter_erase h.nodup hp, hpk]
    refine ⟨_, es.eraseIdxIfInBounds j, ?_, ⟨heap_setObj _ h.lt, ?_, ?_, ?_, ?_, ?_, ?_⟩, keep_setObj w b _⟩
    · simp only [Builtin.delete_, List.getElem?_toArray, List.getElem?_cons_zero, List.getElem?_cons_succ, Sem.run_bind, run_underlying ht, Result.andThen_ok, run_getObj_map h.heap, E.law.check w es.isEmpty hl, hrun, run_setObj' h.heap, Sem.run_pure]
    · rw [hsub, hd, map_eraseIdx', map_eraseIdx', h.keys]
    · rw [hsub, hd, map_eraseIdx', map_eraseIdx', h.vals]
    · rw [hd, map_eraseIdx']
      exact h.nodup.sublist (List.eraseIdx_sublist _ _)
    · rw [hd]
      exact fun q hq => h.okk q ((List.eraseIdx_sublist _ _).subset hq)
    · rw [hsub, map_eraseIdx']
      exact h.born.sublist (List.eraseIdx_sublist _ _)
    · rw [hsub]
      exact fun q hq => h.clock q ((List.eraseIdx_sublist _ _).subset hq)
end

end Go.Proofs.YtgfpjjppeldhbaaGreatDoor
