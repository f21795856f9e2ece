/- What rows the bytes of a bag hold, and back: the plain law. -/
import Derived.Test.YtlonihfhgfmplaaBPut
import Derived.Test.YtlonihfhgfmplaaTx
namespace Go.Proofs.Ytlonihfhgfmplaa
open Go.RowKit

/-- Rows read, what is left, the fault. -/
structure BRds where
  rows : List BRow
  l : List UInt8
  e : Int
def oneB (l : List UInt8) (e : Int) : BRow := ⟨idOf (rawV 32 l e), txV (rawL 32 l e) (rawE 32 l e)⟩
def oneL (l : List UInt8) (e : Int) : List UInt8 := txL (rawL 32 l e) (rawE 32 l e)
def oneE (l : List UInt8) (e : Int) : Int := txE (rawL 32 l e) (rawE 32 l e)
def stepB (s : BRds) : BRds := ⟨s.rows ++ [oneB s.l s.e], oneL s.l s.e, oneE s.l s.e⟩
def loopB : Nat → BRds → BRds
  | 0, s => s
  | k + 1, s => if s.e = 0 then loopB k (stepB s) else s
def readB (l : List UInt8) (e : Int) : BRds := loopB (numV 4 l e) ⟨[], rawL 4 l e, rawE 4 l e⟩
theorem loopB_stop (k : Nat) (s : BRds) (h : s.e ≠ 0) : loopB k s = s := by
  cases k with
  | zero => rfl
  | succ k => unfold loopB; rw [if_neg h]
theorem loopB_step (k : Nat) (s : BRds) (h : s.e = 0) : loopB (k + 1) s = loopB k (stepB s) := by rw [loopB, if_pos h]
def Fits (R : List BRow) : Prop := ∀ x ∈ R, x.val.size ≤ 255
theorem fits_step {R : List BRow} (h : Fits R) (l : List UInt8) (e : Int) : Fits (R ++ [oneB l e]) := fun x hx => by
  rcases List.mem_append.1 hx with h' | h'
  · exact h x h'
  · simp at h'; subst h'; exact txV_size _ _

def longB (R : List BRow) : Bool := R.any fun x => decide (16 < x.val.size)
def risB : List BRow → Bool
  | [] => true
  | [_] => true
  | x :: y :: l => decide (cmpRow x y < 0) && risB (y :: l)
def bothB (A G : List BRow) : Bool := A.any fun x => decide (x ∈ G)
def partA (l : List UInt8) : BRds := readB l 0
def partG (l : List UInt8) : BRds := readB (partA l).l (partA l).e
/-- Why the bytes are no bag; 0: they are. -/
def loadB (l : List UInt8) : Int :=
  if (partG l).e ≠ 0 then (partG l).e
  else if longB (partA l).rows = true ∨ longB (partG l).rows = true then 3
  else if endE (partG l).l (partG l).e ≠ 0 ∨ risB (partA l).rows = false ∨ risB (partG l).rows = false then 4
  else if bothB (partA l).rows (partG l).rows = true then 4 else 0

theorem longB_false {R : List BRow} : longB R = false ↔ ∀ x ∈ R, small x := by
  unfold longB small
  rw [List.any_eq_false]
  constructor
  · intro h x hx; have := h x hx; simp at this; exact this
  · intro h x hx; have := h x hx; simpa using this
theorem risB_ok : ∀ (R : List BRow), risB R = true ↔ Ris cmpRow R
  | [] => by simp [risB, Ris]
  | [x] => by simp [risB, Ris]
  | x :: y :: R => by
    have ih := risB_ok (y :: R)
    unfold risB
    rw [Bool.and_eq_true, ih, decide_eq_true_eq, ris_cons (x := x)]
    constructor
    · rintro ⟨h1, h2⟩
      refine ⟨fun z hz => ?_, h2⟩
      rcases List.mem_cons.1 hz with e | hz
      · rw [e]; exact h1
      · exact totRow.trans _ _ _ h1 ((ris_cons.1 h2).1 z hz)
    · rintro ⟨h1, h2⟩
      exact ⟨h1 y (by simp), h2⟩
theorem bothB_false {A G : List BRow} : bothB A G = false ↔ ∀ x ∈ A, x ∉ G := by
  unfold bothB
  rw [List.any_eq_false]
  constructor
  · intro h x hx; have := h x hx; simpa using this
  · intro h x hx; have := h x hx; simpa using this

/-! ### What was read is what lay there -/
theorem one_split {l : List UInt8} {e : Int} (h : oneE l e = 0) : e = 0 ∧ rowB (oneB l e) ++ oneL l e = l := by
  obtain ⟨h1, h2⟩ := tx_split h
  obtain ⟨h3, h4, h5⟩ := raw_split h1
  refine ⟨h3, ?_⟩
  have e1 : (idOf (rawV 32 l e)).l = rawV 32 l e := by unfold idOf; rw [dif_pos h5]
  unfold rowB oneB oneL
  simp only [e1, List.append_assoc]
  rw [h2, h4]
theorem loop_split : ∀ (k : Nat) (s : BRds), (loopB k s).e = 0 → ∃ X : List BRow, X.length = k ∧ (loopB k s).rows = s.rows ++ X ∧ X.flatMap rowB ++ (loopB k s).l = s.l ∧ s.e = 0
  | 0, s, h => ⟨[], rfl, by simp [loopB], by simp [loopB], h⟩
  | k + 1, s, h => by
    by_cases he : s.e = 0
    · rw [loopB_step k s he] at h ⊢
      obtain ⟨X, h1, h2, h3, h0⟩ := loop_split k (stepB s) h
      obtain ⟨_, h5⟩ := one_split (show oneE s.l s.e = 0 from h0)
      refine ⟨oneB s.l s.e :: X, by simp [h1], by rw [h2]; simp [stepB], ?_, he⟩
      rw [List.flatMap_cons, List.append_assoc, h3]
      exact h5
    · rw [loopB_stop _ _ he] at h
      exact absurd h he
theorem read_split {l : List UInt8} {e : Int} (h : (readB l e).e = 0) : e = 0 ∧ rowsB (readB l e).rows ++ (readB l e).l = l := by
  obtain ⟨X, h1, h2, h3, h4⟩ := loop_split _ _ h
  obtain ⟨h6, h5⟩ := num_split (show rawE 4 l e = 0 from h4)
  refine ⟨h6, ?_⟩
  unfold readB
  rw [h2]
  unfold rowsB
  simp only [List.nil_append, List.append_assoc]
  rw [h1, h3, h5]
theorem load_parts {l : List UInt8} (h : loadB l = 0) : (partG l).e = 0 ∧ (∀ x ∈ (partA l).rows, small x) ∧ (∀ x ∈ (partG l).rows, small x) ∧ (partG l).l = [] ∧ Ris cmpRow (partA l).rows ∧ Ris cmpRow (partG l).rows ∧ ∀ x ∈ (partA l).rows, x ∉ (partG l).rows := by
  unfold loadB at h
  split at h
  · exact absurd h (by assumption)
  · rename_i h1
    have h1' : (partG l).e = 0 := by omega
    split at h
    · cases h
    · rename_i h2
      simp only [not_or, Bool.not_eq_true] at h2
      split at h
      · cases h
      · rename_i h3
        simp only [not_or, Bool.not_eq_false, ne_eq, Classical.not_not] at h3
        split at h
        · cases h
        · rename_i h4
          refine ⟨h1', longB_false.1 h2.1, longB_false.1 h2.2, ?_, (risB_ok _).1 h3.2.1, (risB_ok _).1 h3.2.2, bothB_false.1 (by simpa using h4)⟩
          have h5 := h3.1
          unfold endE at h5
          rw [if_pos h1'] at h5
          split at h5
          · assumption
          · cases h5
theorem load_put {l : List UInt8} (h : loadB l = 0) : putB (partA l).rows (partG l).rows = l := by
  obtain ⟨h1, _, _, h4, _⟩ := load_parts h
  obtain ⟨h2, h3⟩ := read_split (show (readB (partA l).l (partA l).e).e = 0 from h1)
  obtain ⟨_, h5⟩ := read_split (show (readB l 0).e = 0 from h2)
  have h3' : rowsB (partG l).rows ++ (partG l).l = (partA l).l := h3
  rw [h4, List.append_nil] at h3'
  unfold putB
  rw [h3']
  exact h5

/-! ### What was put reads back -/
theorem one_put {x : BRow} (h : small x) (t : List UInt8) : oneB (rowB x ++ t) 0 = x ∧ oneL (rowB x ++ t) 0 = t ∧ oneE (rowB x ++ t) 0 = 0 := by
  obtain ⟨d, v⟩ := x
  have hv : v.size ≤ 16 := h
  have e0 : rowB ⟨d, v⟩ ++ t = d.l ++ (beL 1 v.size ++ (v.data.toList ++ t)) := by simp [rowB]
  rw [e0]
  obtain ⟨a1, a2, a3⟩ := tx_put (s := v) (by omega) t
  have hd := raw_put d.l (beL 1 v.size ++ (v.data.toList ++ t))
  rw [d.h] at hd
  obtain ⟨d1, d2, d3⟩ := hd
  unfold oneB oneL oneE
  rw [d1, d2, d3, a1, a2, a3]
  refine ⟨?_, rfl, rfl⟩
  have e1 : idOf d.l = d := by unfold idOf; rw [dif_pos d.h]
  rw [e1]
theorem loop_put : ∀ (X R : List BRow) (t : List UInt8), (∀ x ∈ X, small x) → loopB X.length ⟨R, X.flatMap rowB ++ t, 0⟩ = ⟨R ++ X, t, 0⟩
  | [], R, t, _ => by simp [loopB]
  | x :: X, R, t, h => by
    rw [List.length_cons, loopB_step _ _ rfl]
    obtain ⟨h1, h2, h3⟩ := one_put (h x (by simp)) (X.flatMap rowB ++ t)
    have e : stepB ⟨R, (x :: X).flatMap rowB ++ t, 0⟩ = ⟨R ++ [x], X.flatMap rowB ++ t, 0⟩ := by
      unfold stepB
      simp only [List.flatMap_cons, List.append_assoc]
      rw [h1, h2, h3]
    rw [e, loop_put X (R ++ [x]) t (fun p hp => h p (by simp [hp]))]
    simp
theorem read_put {X : List BRow} (t : List UInt8) (h : ∀ x ∈ X, small x) (hn : X.length < 4294967296) : readB (rowsB X ++ t) 0 = ⟨X, t, 0⟩ := by
  unfold readB rowsB
  obtain ⟨h1, h2, h3⟩ := num_put (M := 4) (n := X.length) (by omega) (X.flatMap rowB ++ t)
  rw [List.append_assoc, h1, h2, h3]
  have := loop_put X [] t h
  simpa using this
theorem put_load {L G : List BRow} (hL : ∀ x ∈ L, small x) (hG : ∀ x ∈ G, small x) (rL : Ris cmpRow L) (rG : Ris cmpRow G) (ap : ∀ x ∈ L, x ∉ G) (nL : L.length < 4294967296) (nG : G.length < 4294967296) :
    loadB (putB L G) = 0 ∧ (partA (putB L G)).rows = L ∧ (partG (putB L G)).rows = G := by
  have h1 : partA (putB L G) = ⟨L, rowsB G, 0⟩ := read_put (rowsB G) hL nL
  have h2 : partG (putB L G) = ⟨G, [], 0⟩ := by
    unfold partG
    rw [h1]
    have := read_put (X := G) [] hG nG
    simpa using this
  refine ⟨?_, by rw [h1], by rw [h2]⟩
  unfold loadB
  rw [h1, h2]
  have e1 := longB_false.2 hL
  have e2 := longB_false.2 hG
  have e3 := (risB_ok L).2 rL
  have e4 := (risB_ok G).2 rG
  have e5 := bothB_false.2 ap
  simp [e1, e2, e3, e4, e5, endE]

end Go.Proofs.Ytlonihfhgfmplaa
