/- Package bag: List. -/
import Derived.Test.YtlonihfhgfmplaaBagE
namespace Go.Proofs.Ytlonihfhgfmplaa
open Go.RowKit Go.Sort Go.Shelf

structure Pair where
  key : ByteArray
  val : ByteArray
/-- Its cells. -/
def pairC (x : Pair) : Array Value := #[.string x.key] ++ #[.string x.val]
@[simp] theorem pairC_size (x : Pair) : (pairC x).size = 2 := by simp [pairC]
@[go_sem] theorem pairC_g0 (x : Pair) : (pairC x)[0]? = some (.string x.key) := by first | (simp [pairC, Array.getElem?_append]; done) | (rw [show pairC x = ((#[] : Array Value)) ++ #[.string x.key] ++ (#[.string x.val]) from by apply Array.ext'; simp [pairC]]; exact arr_at _ _ _ _ (by simp))
@[go_sem] theorem pairC_gg0 (x : Pair) (h : 0 < (pairC x).size) : (pairC x)[0]'h = .string x.key := Option.some.inj ((Array.getElem?_eq_getElem h).symm.trans (pairC_g0 x))
@[go_sem] theorem pairC_g1 (x : Pair) : (pairC x)[1]? = some (.string x.val) := by first | (simp [pairC, Array.getElem?_append]; done) | (rw [show pairC x = (#[.string x.key]) ++ #[.string x.val] ++ ((#[] : Array Value)) from by apply Array.ext'; simp [pairC]]; exact arr_at _ _ _ _ (by simp))
@[go_sem] theorem pairC_gg1 (x : Pair) (h : 1 < (pairC x).size) : (pairC x)[1]'h = .string x.val := Option.some.inj ((Array.getElem?_eq_getElem h).symm.trans (pairC_g1 x))
@[go_sem] theorem pairC_all (x : Pair) : (pairC x).extract 0 2 = pairC x := by have := Array.extract_size (xs := pairC x); rwa [pairC_size] at this
theorem pairC_inj {x y : Pair} (h : pairC x = pairC y) : x = y := by
  have h0 := congrArg (fun a => a[0]?) h
  simp only [pairC_g0, Option.some.injEq, Value.string.injEq] at h0
  have h1 := congrArg (fun a => a[1]?) h
  simp only [pairC_g1, Option.some.injEq, Value.string.injEq] at h1
  cases x; cases y; simp_all
theorem pairC_one (x : Pair) : ∀ u ∈ (pairC x).toList, u.oneCell' = true := by
  intro u hu
  simp only [pairC, Array.toList_append, List.mem_append] at hu
  rcases hu with hu | hu
  · simp at hu; subst hu; rfl
  · simp at hu; subst hu; rfl
def pair0 : Pair := ⟨⟨#[]⟩, ⟨#[]⟩⟩
theorem Pair_ext {x y : Pair} (h : x.key = y.key ∧ x.val = y.val) : x = y := by cases x; cases y; simp_all
instance : DecidableEq Pair := fun x y => if h : x.key = y.key ∧ x.val = y.val then isTrue (Pair_ext h) else isFalse (fun e => h (by subst e; simp))
theorem infoPair : (Try.prog.info? 42).map (·.size) = some 2 := by kernel_rfl
@[go_sem ↓] theorem zeroPair_run (w : World) : (zeroValue 42).run Try.prog w = .ok (.agg (pairC pair0)) w := by
  have h : (Try.prog.info? 42).bind (·.zero) = some (.agg (pairC pair0)) := by kernel_rfl
  cases hi : Try.prog.info? 42 with
  | none => rw [hi] at h; cases h
  | some i =>
    rw [hi] at h
    have hz : i.zero = some (.agg (pairC pair0)) := h
    simp [zeroValue, typeInfo, hi, hz]
@[go_sem ↓] theorem loadPair_rw (a : Addr) : loadVar 42 a = ldS 42 a := rfl
@[go_sem ↓] theorem storePair_rw (a : Addr) (v : Value) : storeVar 42 a v = stS 42 a v := rfl
@[go_sem] theorem loadPair_run (w : World) (g o : Nat) : (ldS 42 ⟨g, o, none⟩).run Try.prog w = match rowAt w g o 2 with | some cs => .ok (.agg cs) w | none => (loadVar 42 ⟨g, o, none⟩).run Try.prog w :=
  run_ldS Try.underlying42 rfl infoPair w g o
@[go_sem] theorem storePair_run (w : World) (g : Nat) (hg : g = w.heap.size) (z : Array Value) (hz : z.size = 2) (x : Pair) (e : TypeId) : (stS 42 ⟨g, 0, none⟩ (.agg (pairC x))).run Try.prog (w.alloc (.cells z e)) = .ok () (w.alloc (.cells (pairC x) e)) :=
  hg ▸ run_stS_new infoPair w z (pairC x) hz (pairC_size x) (pairC_one x)
theorem fieldsPair : Try.prog.underlying 42 = some (.struct (Try.prog.fieldsOf 42)) := by kernel_rfl
theorem placesPair (w : World) : ((Try.prog.fieldsOf 42).mapM fun (f : Field) => do pure (f.offset, ← sizeOf f.type)).run Try.prog w = .ok #[(0, 1), (1, 1)] w := by kernel_rfl
@[go_sem ↓] theorem buildPair_rw (parts : Array (Nat × Value)) : Instr.build 42 parts = bdS 42 parts := rfl
@[go_sem] theorem buildPair (a0 : ByteArray) (a1 : ByteArray) (w : World) : (bdS 42 #[(0, .string a0), (1, .string a1)]).run Try.prog w = .ok (.agg (pairC ⟨a0, a1⟩)) w := by
  refine run_build w fieldsPair _ (zeroPair_run w) _ (placesPair w) [(0, .string a0), (1, .string a1)] _ ?_
  rw [show pairC pair0 = (#[] : Array Value) ++ #[.string ⟨#[]⟩] ++ (#[.string ⟨#[]⟩]) from by first | (simp [pairC, pair0, Array.append_assoc]; done) | (apply Array.ext'; simp [pairC, pair0])]
  rw [fill_step (off := 0) (size := 1) rfl (by simp) (by simp) (by simp [Value.cells])]
  rw [show (#[] : Array Value) ++ (Value.string a0).cells ++ (#[.string ⟨#[]⟩]) = (#[.string a0]) ++ #[.string ⟨#[]⟩] ++ (#[] : Array Value) from by first | (simp [Value.cells, Array.append_assoc]; done) | (apply Array.ext'; simp [Value.cells]; done) | (apply Array.ext'; simp only [Array.toList_append]; simp [Value.cells])]
  rw [fill_step (off := 1) (size := 1) rfl (by simp) (by simp) (by simp [Value.cells])]
  first | (simp [Instr.fill, pairC, Array.append_assoc, Value.cells]; done) | (simp only [Instr.fill, pairC]; congr 1; apply Array.ext'; simp [Value.cells]; done) | (simp only [Instr.fill, pairC]; congr 1; done) | (simp only [Instr.fill, pairC]; done)
@[go_sem] theorem buildPair_0 (a0 : ByteArray) (w : World) : (bdS 42 #[(0, .string a0)]).run Try.prog w = .ok (.agg (pairC ⟨a0, ⟨#[]⟩⟩)) w := by
  refine run_build w fieldsPair _ (zeroPair_run w) _ (placesPair w) [(0, .string a0)] _ ?_
  rw [show pairC pair0 = (#[] : Array Value) ++ #[.string ⟨#[]⟩] ++ (#[.string ⟨#[]⟩]) from by first | (simp [pairC, pair0, Array.append_assoc]; done) | (apply Array.ext'; simp [pairC, pair0])]
  rw [fill_step (off := 0) (size := 1) rfl (by simp) (by simp) (by simp [Value.cells])]
  first | (simp [Instr.fill, pairC, Array.append_assoc, Value.cells]; done) | (simp only [Instr.fill, pairC]; congr 1; apply Array.ext'; simp [Value.cells]; done) | (simp only [Instr.fill, pairC]; congr 1; done) | (simp only [Instr.fill, pairC]; done)

theorem einfoPair : ElemInfo Try.prog 38 42 2 32 :=
  .of (z := .agg (pairC pair0)) Try.underlying38 (by kernel_rfl) (by kernel_rfl) (by kernel_rfl) (pairC_size _) (by omega)
@[go_sem ↓] theorem bsPair_rw (n : Nat) (parts : Array (Nat × Value)) : Instr.buildSlice 38 n parts = bsS 38 n parts := rfl
@[go_sem] theorem bsPair_run (w : World) (x : Pair) : (bsS 38 1 #[(0, .agg (pairC x))]).run Try.prog w = .ok (.slice (some ⟨w.heap.size, 0, none⟩) 1 1) (w.alloc (.cells (pairC x) 42)) :=
  run_bsS1 einfoPair (by omega) w (pairC x) (pairC_size x)
theorem einfoStr : ElemInfo Try.prog 93 9 1 16 :=
  .of (z := .string ⟨#[]⟩) Try.underlying93 (by kernel_rfl) (by kernel_rfl) (by kernel_rfl) rfl (by omega)
def strR (s : ByteArray) : Array Value := #[.string s]
theorem strR_one (s : ByteArray) : ∀ u ∈ (strR s).toList, u.oneCell' = true := by simp [strR, Value.oneCell']

/-! ### Sorted, then compacted -/
def bl (s : ByteArray) : List UInt8 := s.data.toList
theorem bl_toList (s : ByteArray) : s.toList = bl s := ByteArray.toList_eq s
theorem encStr_bl (s : ByteArray) : encStr (bl s) = .string s := by cases s; rfl
theorem bl_inj {a b : ByteArray} (h : bl a = bl b) : a = b := ByteArray.ext (Array.toList_inj.mp h)
theorem leB_cmp (x y : List UInt8) : decide (x ≤ y) = true ↔ ¬ cmpB y x < 0 := by
  have h := bytesLess_eq y x
  rw [bytesLess_cmp] at h
  have h2 : (cmpB y x < 0) ↔ y < x := by simpa using h
  rw [decide_eq_true_eq, h2]
  exact Iff.rfl
theorem totB : TotC cmpB := ⟨cmpB_zero, cmpB_anti, cmpB_trans⟩
section
variable {α : Type} [Inhabited α] [DecidableEq α] {c : α → α → Int}
theorem compact_upTo (T : TotC c) (d : Array α) (hs : ∀ i j, i < j → j < d.size → ¬ c d[j]! d[i]! < 0) : ∀ m, m ≤ d.size →
    Ris c (Lib.compactUpTo d m) ∧ (∀ z, z ∈ Lib.compactUpTo d m ↔ ∃ j, j < m ∧ d[j]! = z) ∧ (0 < m → ∀ y ∈ Lib.compactUpTo d m, ¬ c d[m - 1]! y < 0)
  | 0, _ => ⟨by simp [Lib.compactUpTo, Ris], by simp [Lib.compactUpTo], by simp⟩
  | m + 1, hm => by
    obtain ⟨h1, h2, h3⟩ := compact_upTo T d hs m (by omega)
    rw [Lib.compactUpTo_succ]
    by_cases hk : Lib.keeps d m = true
    · rw [if_pos hk]
      have hlt : ∀ y ∈ Lib.compactUpTo d m, c y d[m]! < 0 := by
        intro y hy
        have hm0 : 0 < m := by
          rcases Nat.eq_zero_or_pos m with h | h
          · subst h; simp [Lib.compactUpTo] at hy
          · exact h
        have hne : d[m]! ≠ d[m - 1]! := by
          have : m = 0 ∨ d[m]! ≠ d[m - 1]! := by simpa [Lib.keeps] using hk
          rcases this with h | h
          · omega
          · exact h
        exact T.le_trans (h3 hm0 y hy) (T.flip (hs (m - 1) m (by omega) (by omega)) hne)
      refine ⟨?_, fun z => ?_, fun _ y hy => ?_⟩
      · refine List.pairwise_append.2 ⟨h1, by simp, fun y hy z hz => ?_⟩
        simp at hz; subst hz
        exact hlt y hy
      · rw [List.mem_append, h2, List.mem_singleton]
        constructor
        · rintro (⟨j, hj, e⟩ | e)
          · exact ⟨j, by omega, e⟩
          · exact ⟨m, by omega, e.symm⟩
        · rintro ⟨j, hj, e⟩
          by_cases hjm : j = m
          · subst hjm; exact .inr e.symm
          · exact .inl ⟨j, by omega, e⟩
      · rw [Nat.add_sub_cancel]
        rcases List.mem_append.1 hy with hy | hy
        · exact T.asym (hlt y hy)
        · simp at hy; subst hy; exact T.irr _
    · rw [if_neg hk, List.append_nil]
      have hm0 : ¬ m = 0 := fun e => hk (by simp [Lib.keeps, e])
      have heq : d[m]! = d[m - 1]! := Classical.byContradiction fun e => hk (Lib.keeps_pos e)
      refine ⟨h1, fun z => ?_, fun _ y hy => ?_⟩
      · rw [h2]
        constructor
        · rintro ⟨j, hj, e⟩; exact ⟨j, by omega, e⟩
        · rintro ⟨j, hj, e⟩
          by_cases hjm : j = m
          · subst hjm; exact ⟨j - 1, by omega, by rw [← heq]; exact e⟩
          · exact ⟨j, by omega, e⟩
      · rw [Nat.add_sub_cancel, heq]
        exact h3 (by omega) y hy
theorem compact_sorted (T : TotC c) (l : List α) (hs : l.Pairwise (fun x y => ¬ c y x < 0)) : Lib.compact l = sortC c l := by
  have h := compact_upTo T l.toArray (fun i j hij hj => by
    have hj' : j < l.length := by simpa using hj
    rw [getElem!_pos l.toArray i (by simp; omega), getElem!_pos l.toArray j hj]
    exact List.pairwise_iff_getElem.1 hs i j (by omega) hj' hij) l.length (by simp)
  refine ris_ext T h.1 (ris_sortC T l) fun z => ?_
  rw [mem_sortC T]
  refine (h.2.1 z).trans ⟨?_, ?_⟩
  · rintro ⟨j, hj, e⟩
    rw [getElem!_pos l.toArray j (by simpa using hj)] at e
    rw [← e]; exact List.getElem_mem hj
  · intro hz
    obtain ⟨j, hj, e⟩ := List.mem_iff_getElem.1 hz
    exact ⟨j, hj, by rw [getElem!_pos l.toArray j (by simpa using hj)]; simpa using e⟩
end

theorem mergeSort_le (l : List (List UInt8)) : (l.mergeSort fun x y => decide (x ≤ y)).Pairwise (fun x y => ¬ cmpB y x < 0) := by
  have htr : ∀ a b d : List UInt8, decide (a ≤ b) = true → decide (b ≤ d) = true → decide (a ≤ d) = true := fun a b d h1 h2 => by
    rw [leB_cmp] at *
    intro h3
    exact h2 (totB.le_trans (a := d) (b := a) (d := b) (totB.asym h3) (by
      by_cases e : a = b
      · subst e; exact absurd h3 h2
      · exact totB.flip h1 (fun e' => e e'.symm)))
  have htot : ∀ a b : List UInt8, (decide (a ≤ b) || decide (b ≤ a)) = true := fun a b => by
    by_cases h : cmpB b a < 0
    · have := (leB_cmp b a).2 (totB.asym h); simp only [this, Bool.or_true]
    · have := (leB_cmp a b).2 h; simp only [this, Bool.true_or]
  exact List.Pairwise.imp (fun {a b} h => (leB_cmp a b).1 h) (List.pairwise_mergeSort htr htot l)
/-- Sorted texts, each once. -/
theorem compact_texts (l : List ByteArray) : Lib.compact ((l.map bl).mergeSort fun x y => decide (x ≤ y)) = (sortC cmpS l).map bl := by
  rw [compact_sorted totB _ (mergeSort_le _)]
  have hR : Ris cmpB ((sortC cmpS l).map bl) := by
    refine List.pairwise_map.2 (List.Pairwise.imp (fun {a b} h => ?_) (ris_sortC totS l))
    have h' : cmpB a.toList b.toList < 0 := h
    rwa [bl_toList, bl_toList] at h'
  refine ris_ext totB (ris_sortC totB _) hR fun z => ?_
  rw [mem_sortC totB, (List.mergeSort_perm _ _).mem_iff]
  simp only [List.mem_map, mem_sortC totS]

/-- A value's names. -/
def listB (L : List BRow) : List ByteArray := sortC cmpS (L.map (·.val))
def pairV (s : ByteArray) : Pair := ⟨s, ⟨#[]⟩⟩
theorem listB_len (L : List BRow) : (listB L).length ≤ L.length := by have := sortC_length (c := cmpS) (L.map (·.val)); simpa [listB] using this

end Go.Proofs.Ytlonihfhgfmplaa
