/- What rows of settings the bytes hold: the plain law of reading. -/
import Derived.Test.YtlonihfhgfmplaaRrI
import Derived.Test.YtlonihfhgfmplaaRef
namespace Go.Proofs.Ytlonihfhgfmplaa
open Go.RowKit

def txV (l : List UInt8) (e : Int) : ByteArray := mkB (rawV (numV 1 l e) (rawL 1 l e) (rawE 1 l e))
def txL (l : List UInt8) (e : Int) : List UInt8 := rawL (numV 1 l e) (rawL 1 l e) (rawE 1 l e)
def txE (l : List UInt8) (e : Int) : Int := rawE (numV 1 l e) (rawL 1 l e) (rawE 1 l e)
/-- Rows read, what is left, the fault. -/
structure Rds where
  rows : List Row
  l : List UInt8
  e : Int
def oneRow (l : List UInt8) (e : Int) : Row := ⟨txV l e, txV (txL l e) (txE l e), (numV 4 (txL (txL l e) (txE l e)) (txE (txL l e) (txE l e)) : Int),
  idOf (rawV 32 (rawL 4 (txL (txL l e) (txE l e)) (txE (txL l e) (txE l e))) (rawE 4 (txL (txL l e) (txE l e)) (txE (txL l e) (txE l e))))⟩
def oneL (l : List UInt8) (e : Int) : List UInt8 := rawL 32 (rawL 4 (txL (txL l e) (txE l e)) (txE (txL l e) (txE l e))) (rawE 4 (txL (txL l e) (txE l e)) (txE (txL l e) (txE l e)))
def oneE (l : List UInt8) (e : Int) : Int := rawE 32 (rawL 4 (txL (txL l e) (txE l e)) (txE (txL l e) (txE l e))) (rawE 4 (txL (txL l e) (txE l e)) (txE (txL l e) (txE l e)))
def stepRds (s : Rds) : Rds := ⟨s.rows ++ [oneRow s.l s.e], oneL s.l s.e, oneE s.l s.e⟩
def loopRds : Nat → Rds → Rds
  | 0, s => s
  | k + 1, s => if s.e = 0 then loopRds k (stepRds s) else s
def readRds (l : List UInt8) : Rds := loopRds (numV 4 l 0) ⟨[], rawL 4 l 0, rawE 4 l 0⟩
theorem loopRds_stop (k : Nat) (s : Rds) (h : s.e ≠ 0) : loopRds k s = s := by
  cases k with
  | zero => rfl
  | succ k => unfold loopRds; rw [if_neg h]
theorem loopRds_step (k : Nat) (s : Rds) (h : s.e = 0) : loopRds (k + 1) s = loopRds k (stepRds s) := by rw [loopRds, if_pos h]
theorem numV_lt (M : Nat) (l : List UInt8) (e : Int) : numV M l e < 256 ^ M := by
  unfold numV
  exact Nat.lt_of_lt_of_le (beN_lt _) (Nat.pow_le_pow_right (by omega) (rawV_length M l e))
theorem txV_size (l : List UInt8) (e : Int) : (txV l e).size ≤ 255 := by
  unfold txV
  rw [mkB_size]
  have := rawV_length (numV 1 l e) (rawL 1 l e) (rawE 1 l e)
  have := numV_lt 1 l e
  omega
def Fits (R : List Row) : Prop := ∀ x ∈ R, x.key.size ≤ 255 ∧ x.val.size ≤ 255
theorem fits_step {R : List Row} (h : Fits R) (l : List UInt8) (e : Int) : Fits (R ++ [oneRow l e]) := fun x hx => by
  rcases List.mem_append.1 hx with h' | h'
  · exact h x h'
  · simp at h'; subst h'; exact ⟨txV_size _ _, txV_size _ _⟩

/-- The first row that may not be. -/
def firstE : List Row → Int
  | [] => 0
  | x :: l => if checkE x.key (rowS x) = 0 then firstE l else checkE x.key (rowS x)
def risingB : List Row → Bool
  | [] => true
  | [_] => true
  | x :: y :: l => bltS x.key y.key && risingB (y :: l)
/-- Why the bytes are none; 0: they are. -/
def loadE (l : List UInt8) : Int :=
  if (readRds l).e ≠ 0 then (readRds l).e
  else if firstE (readRds l).rows ≠ 0 then firstE (readRds l).rows
  else if risingB (readRds l).rows = false then 4
  else if (readRds l).l = [] then 0 else 4

end Go.Proofs.Ytlonihfhgfmplaa
