/- A slice cut at a place, either way. No program is named here. -/
import Derived.Test.YtlonihfhgfmplaaMany
import Derived.Test.YtlonihfhgfmplaaTree
namespace Go.Proofs.Ytlonihfhgfmplaa
open Go.RowKit

/-- A slicing, behind a name that the walk does not open. -/
def slS (T : TypeId) (x : Value) (lo hi mx : Option Value) : Sem Value := Instr.sliceAt T x lo hi mx

section
variable {P : Program} {T E : TypeId} {k bytes : Nat}
theorem ElemInfo.sizeOf_run (I : ElemInfo P T E k bytes) (w : World) : (Go.sizeOf E).run P w = .ok k w := by
  obtain ⟨i, z, hi, hz, hsz, hby, hzs⟩ := I.info
  simp [Go.sizeOf, typeInfo, hi, hsz]
theorem run_bound (w : World) (m cap : Nat) (hm : m ≤ cap) (c : BoundsCode) : (Instr.sliceBound (.int .i64 m) cap c).run P w = .ok m w := by
  unfold Instr.sliceBound
  have h1 : (asIntOf (.int .i64 (m : Int))).run P w = .ok (.i64, (m : Int)) w := rfl
  simp only [Sem.run_bind, h1, Result.andThen_ok]
  rw [if_pos ⟨by omega, by omega⟩]
  simp
theorem run_slS (I : ElemInfo P T E k bytes) (w : World) (x : Value) (lo hi mx : Option Value) : (slS T x lo hi mx).run P w = (Instr.slice T x lo hi mx).run P w := by
  unfold slS
  simp [Instr.sliceAt, run_underlying I.und]
/-- 's[:m]'. -/
theorem run_slS_lo (I : ElemInfo P T E k bytes) (w : World) (A : Option Addr) (n cap m : Nat) (hm : m ≤ cap) :
    (slS T (.slice A n cap) none (some (.int .i64 m)) none).run P w = .ok (.slice A m cap) w := by
  rw [run_slS I]
  unfold Instr.slice Instr.sliceBounds
  simp only [Sem.run_bind, run_underlying I.und, Result.andThen_ok, Sem.run_pure, run_bound w m cap hm, I.sizeOf_run w]
  have e : (if cap = 0 then A else A.map fun a => a.add (0 * k)) = A := by
    split
    · rfl
    · cases A with
      | none => rfl
      | some a => simp [Addr.add]
  simp only [Nat.sub_zero, e]
/-- 's[m:]'. -/
theorem run_slS_hi (I : ElemInfo P T E k bytes) (w : World) (A : Option Addr) (n cap m : Nat) (hm : m ≤ n) (hc : n ≤ cap) (hA : A = none → cap = 0) (hsp : ∀ a, A = some a → a.spot = none) :
    ∃ A2 c2, (slS T (.slice A n cap) (some (.int .i64 m)) none none).run P w = .ok (.slice A2 (n - m) c2) w ∧ (∀ (w' : World) (L : List (Array Value)), SlR w' A n k L → SlR w' A2 (n - m) k (L.drop m)) ∧ (A2 = none → c2 = 0) := by
  refine ⟨if cap = m then A else A.map fun a => a.add (m * k), cap - m, ?_, ?_, ?_⟩
  · rw [run_slS I]
    unfold Instr.slice Instr.sliceBounds
    simp only [Sem.run_bind, run_underlying I.und, Result.andThen_ok, Sem.run_pure, run_bound w m n hm, I.sizeOf_run w, Option.isSome_none, Bool.false_eq_true, if_false]
  · intro w' L hL
    by_cases hcm : cap = m
    · have : n - m = 0 := by omega
      rw [this]
      exact ⟨by rw [List.length_drop, hL.1]; omega, fun h => absurd h (by omega)⟩
    · rw [if_neg hcm]
      cases A with
      | none => exact absurd (hA rfl) (by omega)
      | some a =>
        obtain ⟨g, o, sp⟩ := a
        have : sp = none := hsp _ rfl
        subst this
        have e : (⟨g, o, none⟩ : Addr).add (m * k) = ⟨g, o + m * k, none⟩ := by unfold Addr.add; split <;> simp_all
        simp only [Option.map_some, e]
        exact hL.drop_ hm
  · intro h
    by_cases hcm : cap = m
    · omega
    · rw [if_neg hcm] at h
      cases A with
      | none => have := hA rfl; omega
      | some a => cases h
theorem Own.hi (I : ElemInfo P T E k bytes) {w : World} {B : Nat} {A : Option Addr} {n cap : Nat} {L : List (Array Value)} (h : Own w B E k A n cap L) {m : Nat} (hm : m ≤ n) :
    ∃ A2 c2, (∀ w0 : World, (slS T (.slice A n cap) (some (.int .i64 m)) none none).run P w0 = .ok (.slice A2 (n - m) c2) w0) ∧ (∀ w' : World, SlR w' A n k L → SlR w' A2 (n - m) k (L.drop m)) ∧ (A2 = none → c2 = 0) := by
  have hA := h.cap_le
  have hsp : ∀ a, A = some a → a.spot = none := fun a e => by
    rcases h.addr with e' | ⟨g, e'⟩
    · rw [e'] at e; cases e
    · rw [e'] at e; injection e with e; rw [← e]
  obtain ⟨A2, c2, h1, h2, h3⟩ := run_slS_hi (P := P) I w A n cap m hm hA.1 (fun e => (hA.2 e).2) hsp
  refine ⟨A2, c2, fun w0 => ?_, fun w' hw => h2 w' L hw, h3⟩
  obtain ⟨A3, c3, k1, _, _⟩ := run_slS_hi (P := P) I w0 A n cap m hm hA.1 (fun e => (hA.2 e).2) hsp
  rw [run_slS I] at h1 k1 ⊢
  unfold Instr.slice Instr.sliceBounds at h1 k1 ⊢
  simp only [Sem.run_bind, run_underlying I.und, Result.andThen_ok, Sem.run_pure, run_bound _ m n hm, I.sizeOf_run, Option.isSome_none, Bool.false_eq_true, if_false] at h1 ⊢
  injection h1 with h1 _
  rw [h1]
end

/-- 'm = append(m, x...)' in a region that draws its order, by the text or by a tree. -/
theorem Tx_rows {P : Program} {ops : Array Oper} {S : World → Prop} {cv fb : Bool} {Q : Act → World → Prop} {a : Act} {w : World} {i : Nat} {nx : Sched} {dst : Option Tmp} {s x : Operand} {ty : TypeId} {pos : String} {after : Array Edge} {T E : TypeId} {k bytes : Nat} (I : ElemInfo P T E k bytes)
    (ho' : nthL ops.toList i = some { dst := dst, op := .call { callee := .builtin .append, args := #[s, x], argTypes := #[T, T] }, type := ty, pos := pos, after := after, guard := none })
    {B : Nat} {A : Option Addr} {n cap : Nat} {L : List (Array Value)} (hs : a.eval s = .slice A n cap) (hown : Own w B E k A n cap L)
    {A2 : Option Addr} {m c : Nat} {R : List (Array Value)} (hx : a.eval x = .slice A2 m c) (hsrc : SlR w A2 m k R) (hform : A2 = none → c = 0) (hone : ∀ r ∈ R, ∀ u ∈ r.toList, u.oneCell' = true) (hbytes : (n + m) * bytes ≤ 140737488355328) (hn : n + m ≤ 9223372036854775807) (hB : B ≤ w.heap.size)
    (h : ∀ A' cap' w', Own w' B E k A' (n + m) cap' (L ++ R) → Keep (blk A) w w' → (∀ x ∈ blk A', x ∈ blk A ∨ w.heap.size ≤ x) → S w' ∧ wpTx P ops S cv fb Q nx (a.put dst (.slice A' (n + m) cap')) w') :
    wpTx P ops S cv fb Q (.one i nx) a w := by
  obtain ⟨A', cap', w', hrun, h1, h2, h3⟩ := append_rows I hown hsrc hform hone hbytes hn hB ty
  obtain ⟨k1, k2⟩ := h A' cap' w' h1 h2 h3
  have ho := nthL_ops ho'
  refine ⟨?_⟩
  unfold wpT0 stepT
  simp only [ho]
  rw [if_pos (by rfl)]
  rw [exec_append a.eval hs hx hrun]
  exact ⟨rfl, .inl k1, k2.out⟩
theorem Tx_append {P : Program} {ops : Array Oper} {S : World → Prop} {cv fb : Bool} {Q : Act → World → Prop} {a : Act} {w : World} {i : Nat} {nx : Sched} {dst : Option Tmp} {s x : Operand} {ty : TypeId} {pos : String} {after : Array Edge} {T E : TypeId} {k bytes : Nat} (I : ElemInfo P T E k bytes)
    (ho' : nthL ops.toList i = some { dst := dst, op := .call { callee := .builtin .append, args := #[s, x], argTypes := #[T, T] }, type := ty, pos := pos, after := after, guard := none })
    {B : Nat} {A : Option Addr} {n cap : Nat} {L : List (Array Value)} (hs : a.eval s = .slice A n cap) (hown : Own w B E k A n cap L)
    {q o c : Nat} {cs : Array Value} (hx : a.eval x = .slice (some ⟨q, o, none⟩) 1 c) (hrow : rowAt w q o k = some cs) (hone : ∀ u ∈ cs.toList, u.oneCell' = true) (hbytes : (n + 1) * bytes ≤ 140737488355328) (hn : n + 1 ≤ 9223372036854775807) (hB : B ≤ w.heap.size)
    (h : ∀ A' cap' w', Own w' B E k A' (n + 1) cap' (L ++ [cs]) → Keep (blk A) w w' → (∀ x ∈ blk A', x ∈ blk A ∨ w.heap.size ≤ x) → S w' ∧ wpTx P ops S cv fb Q nx (a.put dst (.slice A' (n + 1) cap')) w') :
    wpTx P ops S cv fb Q (.one i nx) a w := by
  obtain ⟨A', cap', w', hrun, h1, h2, h3⟩ := append_one I hown (c := c) hrow hone hbytes hn hB ty
  obtain ⟨k1, k2⟩ := h A' cap' w' h1 h2 h3
  have ho := nthL_ops ho'
  refine ⟨?_⟩
  unfold wpT0 stepT
  simp only [ho]
  rw [if_pos (by rfl)]
  rw [exec_append a.eval hs hx hrun]
  exact ⟨rfl, .inl k1, k2.out⟩

end Go.Proofs.Ytlonihfhgfmplaa
