/- Slices: those that read as lists of rows of cells, and those that the call itself owns; append. No program is named here. -/
import Derived.Test.YtlonihfhgfmplaaLex
import Derived.Maps.AppendAt
namespace Go.Proofs.Ytlonihfhgfmplaa
open Go.RowKit

/-- The slice 'A, n' reads as the rows L, k cells each. -/
def SlR (w : World) (A : Option Addr) (n k : Nat) (L : List (Array Value)) : Prop :=
  L.length = n ∧ (0 < n → ∃ g o, A = some ⟨g, o, none⟩ ∧ ∀ i (h : i < L.length), rowAt w g (o + i * k) k = some L[i])
/-- The block of an address. -/
def blk (A : Option Addr) : List Nat := (A.map (·.block)).toList
/-- The slice 'A, n, cap' is the call's own from block B on, and holds the rows L. -/
structure Own (w : World) (B : Nat) (E : TypeId) (k : Nat) (A : Option Addr) (n cap : Nat) (L : List (Array Value)) : Prop where
  row : w.ownsRow B E k (.slice A n cap) n (L.flatMap Array.toList)
  len : L.length = n
  size : ∀ c ∈ L, c.size = k

section
variable {w w' : World} {A : Option Addr} {n k B cap : Nat} {E : TypeId} {L : List (Array Value)}

theorem SlR.at_ (h : SlR w A n k L) {i : Nat} (hi : i < n) : ∃ g o, A = some ⟨g, o, none⟩ ∧ rowAt w g (o + i * k) k = some (L[i]'(by rw [h.1]; exact hi)) := by
  obtain ⟨g, o, e, hc⟩ := h.2 (by omega)
  exact ⟨g, o, e, hc i (by rw [h.1]; exact hi)⟩
theorem SlR.old (h : SlR w A n k L) {g o : Nat} (e : A = some ⟨g, o, none⟩) (hn : 0 < n) : g < w.heap.size := by
  obtain ⟨g', o', e', hr⟩ := h.at_ hn
  rw [e] at e'; injection e' with e'; injection e' with e1 e2
  subst e1; exact rowAt_lt hr
theorem SlR.nil_ : SlR w none 0 k [] := ⟨rfl, fun h => absurd h (by omega)⟩
theorem SlR.kept {S : List Nat} (h : SlR w A n k L) (hk : Keep S w w') (hn : ∀ x ∈ blk A, x ∉ S) : SlR w' A n k L :=
  ⟨h.1, fun h0 => by
    obtain ⟨g, o, e, hc⟩ := h.2 h0
    refine ⟨g, o, e, fun i hi => ?_⟩
    rw [hk.row (rowAt_lt (hc i hi)) (hn g (by simp [blk, e])) _ _]
    exact hc i hi⟩
theorem SlR.below (h : SlR w A n k L) (hb : Below w.heap.size w w') : SlR w' A n k L := h.kept (Keep.of_below hb) (by simp)

theorem flat_get : ∀ (L : List (Array Value)) (k : Nat), (∀ c ∈ L, c.size = k) → ∀ (i j : Nat) (hi : i < L.length), j < k → (L.flatMap Array.toList)[i * k + j]? = (L[i])[j]?
  | c :: L, k, hs, 0, j, _, hj => by
    have hc := hs c (by simp)
    simp only [List.flatMap_cons, Nat.zero_mul, Nat.zero_add, List.getElem_cons_zero]
    rw [List.getElem?_append_left (by simp; omega)]
    simp
  | c :: L, k, hs, i + 1, j, hi, hj => by
    have hc := hs c (by simp)
    have hl : c.toList.length = k := by simp [hc]
    simp only [List.flatMap_cons, List.getElem_cons_succ]
    rw [List.getElem?_append_right (by rw [hl, Nat.add_mul]; omega), hl]
    have e : (i + 1) * k + j - k = i * k + j := by rw [Nat.add_mul]; omega
    rw [e]
    exact flat_get L k (fun c h => hs c (by simp [h])) i j (by simpa using hi) hj
theorem flat_len : ∀ (L : List (Array Value)) (k : Nat), (∀ c ∈ L, c.size = k) → (L.flatMap Array.toList).length = L.length * k
  | [], _, _ => by simp
  | c :: L, k, hs => by
    have hc := hs c (by simp)
    simp only [List.flatMap_cons, List.length_append, List.length_cons]
    rw [flat_len L k (fun c h => hs c (by simp [h])), Nat.add_mul]
    simp [hc]; omega

theorem Own.nil (w : World) (B : Nat) (E : TypeId) (k : Nat) : Own w B E k none 0 0 [] := ⟨World.ownsRow_nil w B E k, rfl, by simp⟩
theorem Own.kept {S : List Nat} (h : Own w B E k A n cap L) (hk : Keep S w w') (hn : ∀ x ∈ blk A, x ∉ S) : Own w' B E k A n cap L := by
  obtain ⟨⟨h1, h2⟩, hl, hs⟩ := h
  refine ⟨⟨h1, ?_⟩, hl, hs⟩
  rcases h2 with h2 | ⟨g, c, cur, hv, hb, hg, rest⟩
  · exact .inl h2
  · refine .inr ⟨g, c, cur, hv, hb, ?_, rest⟩
    have hA : A = some ⟨g, 0, none⟩ := by injection hv
    have hlt : g < w.heap.size := (Array.getElem?_eq_some_iff.1 hg).1
    rw [hk.block g hlt (hn g (by simp [blk, hA]))]
    exact hg
theorem Own.below (h : Own w B E k A n cap L) (hb : Below w.heap.size w w') : Own w' B E k A n cap L := h.kept (Keep.of_below hb) (by simp)
theorem Own.mono (h : Own w B E k A n cap L) {B' : Nat} (hB : B' ≤ B) : Own w B' E k A n cap L := by
  obtain ⟨⟨h1, h2⟩, hl, hs⟩ := h
  refine ⟨⟨h1, ?_⟩, hl, hs⟩
  rcases h2 with h2 | ⟨g, c, cur, hv, hb, rest⟩
  · exact .inl h2
  · exact .inr ⟨g, c, cur, hv, by omega, rest⟩
theorem Own.at_base (h : Own w B E k A n cap L) {x : Nat} (hx : x ∈ blk A) : B ≤ x ∧ x < w.heap.size := by
  obtain ⟨⟨h1, h2⟩, hl, hs⟩ := h
  rcases h2 with ⟨h2, _⟩ | ⟨g, c, cur, hv, hb, hg, rest⟩
  · have hA : A = none := by injection h2
    subst hA; simp [blk] at hx
  · have hA : A = some ⟨g, 0, none⟩ := by injection hv
    subst hA
    have : x = g := by simpa [blk] using hx
    subst this
    exact ⟨hb, (Array.getElem?_eq_some_iff.1 hg).1⟩
theorem Own.addr (h : Own w B E k A n cap L) : A = none ∨ ∃ g, A = some ⟨g, 0, none⟩ := by
  obtain ⟨⟨h1, h2⟩, hl, hs⟩ := h
  rcases h2 with ⟨h2, _⟩ | ⟨g, c, cur, hv, _⟩
  · left; injection h2
  · right; exact ⟨g, by injection hv⟩
theorem Own.slr (h : Own w B E k A n cap L) : SlR w A n k L := by
  have hlen := flat_len L k h.size
  obtain ⟨⟨h1, h2⟩, hl, hs⟩ := h
  refine ⟨hl, fun h0 => ?_⟩
  rcases h2 with ⟨_, h2⟩ | ⟨g, c, cur, hv, hb, hg, hnc, hcm, hcs, htake⟩
  · omega
  · have hA : A = some ⟨g, 0, none⟩ := by injection hv
    refine ⟨g, 0, hA, fun i hi => ?_⟩
    have hle : i * k + k ≤ n * k := by
      have : (i + 1) * k ≤ n * k := Nat.mul_le_mul_right k (by omega)
      rw [Nat.add_mul] at this; omega
    have hle2 : n * k ≤ cur.size := by rw [hcs]; exact Nat.mul_le_mul_right k hnc
    unfold rowAt
    rw [hg]
    simp only [Nat.zero_add]
    rw [if_pos (by omega)]
    congr 1
    apply Array.ext'
    rw [Array.toList_extract]
    apply List.ext_getElem?
    intro j
    by_cases hj : j < k
    · have e1 := flat_get L k hs i j hi hj
      rw [← htake, List.getElem?_take, if_pos (by omega)] at e1
      simp only [List.extract_eq_take_drop, List.getElem?_take, List.getElem?_drop]
      rw [if_pos (by omega), e1]
      simp
    · have hsz := hs L[i] (List.getElem_mem hi)
      rw [List.getElem?_eq_none (by simp; omega), List.getElem?_eq_none (by simp; omega)]
end

/-- A type's row of the table. -/
structure ElemInfo (P : Program) (T E : TypeId) (k bytes : Nat) : Prop where
  und : P.underlying T = some (.slice E)
  info : ∃ i z, P.info? E = some i ∧ i.zero = some z ∧ i.size = k ∧ i.bytes = bytes ∧ z.cells.size = k
  pos : 0 < k

theorem ElemInfo.of {P : Program} {T E : TypeId} {k bytes : Nat} {z : Value} (und : P.underlying T = some (.slice E)) (hz : (P.info? E).bind (·.zero) = some z) (hs : (P.info? E).map (·.size) = some k) (hb : (P.info? E).map (·.bytes) = some bytes) (hzs : z.cells.size = k) (pos : 0 < k) :
    ElemInfo P T E k bytes := by
  cases hi : P.info? E with
  | none => rw [hi] at hz; cases hz
  | some i =>
    rw [hi] at hz hs hb
    exact ⟨und, ⟨i, z, hi, hz, by simpa using hs, by simpa using hb, hzs⟩, pos⟩

/-- One row more. -/
theorem append_one {P : Program} {T E : TypeId} {k bytes : Nat} (I : ElemInfo P T E k bytes) {w : World} {B : Nat} {A : Option Addr} {n cap : Nat} {L : List (Array Value)} (hown : Own w B E k A n cap L)
    {q o c : Nat} {cs : Array Value} (hrow : rowAt w q o k = some cs) (hone : ∀ u ∈ cs.toList, u.oneCell' = true) (hbytes : (n + 1) * bytes ≤ 140737488355328) (hn : n + 1 ≤ 9223372036854775807) (hB : B ≤ w.heap.size) (ty : TypeId) :
    ∃ A' cap' w', (Builtin.append_ #[T, T] ty #[.slice A n cap, .slice (some ⟨q, o, none⟩) 1 c]).run P w = .ok (.slice A' (n + 1) cap') w' ∧ Own w' B E k A' (n + 1) cap' (L ++ [cs]) ∧ Keep (blk A) w w' ∧ (∀ x ∈ blk A', x ∈ blk A ∨ w.heap.size ≤ x) := by
  obtain ⟨i, z, hi, hz, hsz, hby, hzs⟩ := I.info
  have hcs := rowAt_size hrow
  obtain ⟨v', w', hrun, hown', hg, _, hblk⟩ := run_append_own_at (P := P) w B T ty E i z k bytes I.und hi hz hsz hby hzs I.pos (.slice A n cap) n _ hown.row ⟨q, o, none⟩ 1 c cs.toList (by simp [hcs])
    (fun j u hu => by
      have hj : j < k := by
        have := (List.getElem?_eq_some_iff.1 hu).1
        simp at this; omega
      have hadd : (⟨q, o, none⟩ : Addr).add j = ⟨q, o + j, none⟩ := by unfold Addr.add; split <;> simp_all
      rw [hadd, rowAt_cell hrow hj]
      simpa using hu) hone (by simp only [maxLen]; omega) hbytes hB
  have hform : ∃ A' cap', v' = .slice A' (n + 1) cap' := by
    rcases hown'.2 with ⟨_, h0⟩ | ⟨g, c', cur, hv, _⟩
    · omega
    · exact ⟨_, _, hv⟩
  obtain ⟨A', cap', rfl⟩ := hform
  have hb : (Value.slice A n cap).ownBlock = (A.map (·.block)) := by cases A <;> rfl
  have hb' : (Value.slice A' (n + 1) cap').ownBlock = (A'.map (·.block)) := by cases A' <;> rfl
  refine ⟨A', cap', w', hrun, ⟨by simpa using hown', by simp [hown.len], fun c' hc' => ?_⟩, ?_, ?_⟩
  · rcases List.mem_append.1 hc' with h | h
    · exact hown.size c' h
    · simp at h; subst h; exact hcs
  · have := Keep.grown hg
    rwa [hb] at this
  · intro x hx
    rw [hb, hb'] at hblk
    rcases hblk with e | e
    · left; unfold blk at hx ⊢; rw [e] at hx; exact hx
    · right
      unfold blk at hx; rw [e] at hx
      have : x = w.heap.size := by simpa using hx
      omega

theorem exec_append {P : Program} {w : World} (ρ : Operand → Value) {dst : Option Tmp} {s x : Operand} {ats : Array TypeId} {ty : TypeId} {pos : String} {after : Array Edge} {guard : Option (Nat × Bool)} {v u r : Value} {w' : World} (hs : ρ s = v) (hx : ρ x = u)
    (h : (Builtin.append_ ats ty #[v, u]).run P w = .ok r w') :
    (execOp ρ { dst := dst, op := .call { callee := .builtin .append, args := #[s, x], argTypes := ats }, type := ty, pos := pos, after := after, guard := guard }).run P w = .ok (.value r) w' := by
  rw [BigFrame.execOp_builtin, BigFrame.builtin_append]
  have e : (#[s, x].map ρ : Array Value) = #[v, u] := by simp [hs, hx]
  rw [e, Sem.run_bind, h]
  rfl

theorem L_of_append {P : Program} {ops : Array Oper} {Q : Exit → Act → World → Prop} {a : Act} {w : World} {rest : List Oper} {dst : Option Tmp} {s x : Operand} {ats : Array TypeId} {ty : TypeId} {pos : String} {after : Array Edge} {v u r : Value} {w' : World} (hs : a.eval s = v) (hx : a.eval x = u)
    (hr : (Builtin.append_ ats ty #[v, u]).run P w = .ok r w') (h : wpList P ops Q rest (a.put dst r) w') :
    wpList P ops Q ({ dst := dst, op := .call { callee := .builtin .append, args := #[s, x], argTypes := ats }, type := ty, pos := pos, after := after, guard := none } :: rest) a w := by
  refine wpList_plain rfl fun K hK => ?_
  unfold Oper.wp
  rw [exec_append a.eval hs hx hr]
  exact hK _ _ h
theorem wpLx_append {P : Program} {ops : Array Oper} {S : World → Prop} {cv fb : Bool} {Q : Act → World → Prop} {a : Act} {w : World} {rest : List Oper} {dst : Option Tmp} {s x : Operand} {ats : Array TypeId} {ty : TypeId} {pos : String} {after : Array Edge} {v u r : Value} {w' : World} (hs : a.eval s = v) (hx : a.eval x = u)
    (hr : (Builtin.append_ ats ty #[v, u]).run P w = .ok r w') (hS' : S w') (h : wpLx P ops S cv fb Q rest (a.put dst r) w') :
    wpLx P ops S cv fb Q ({ dst := dst, op := .call { callee := .builtin .append, args := #[s, x], argTypes := ats }, type := ty, pos := pos, after := after, guard := none } :: rest) a w := by
  refine ⟨?_⟩
  unfold wpL0
  rw [if_pos (by rfl), if_pos (by rfl)]
  intro _
  rw [exec_append a.eval hs hx hr]
  exact ⟨.inl hS', h.out⟩
/-- 'out = append(out, x)' in a plain region. -/
theorem L_append {P : Program} {ops : Array Oper} {Q : Exit → Act → World → Prop} {a : Act} {w : World} {rest : List Oper} {dst : Option Tmp} {s x : Operand} {ty : TypeId} {pos : String} {after : Array Edge} {T E : TypeId} {k bytes : Nat} (I : ElemInfo P T E k bytes)
    {B : Nat} {A : Option Addr} {n cap : Nat} {L : List (Array Value)} (hs : a.eval s = .slice A n cap) (hown : Own w B E k A n cap L)
    {q o c : Nat} {cs : Array Value} (hx : a.eval x = .slice (some ⟨q, o, none⟩) 1 c) (hrow : rowAt w q o k = some cs) (hone : ∀ u ∈ cs.toList, u.oneCell' = true) (hbytes : (n + 1) * bytes ≤ 140737488355328) (hn : n + 1 ≤ 9223372036854775807) (hB : B ≤ w.heap.size)
    (h : ∀ A' cap' w', Own w' B E k A' (n + 1) cap' (L ++ [cs]) → Keep (blk A) w w' → (∀ x ∈ blk A', x ∈ blk A ∨ w.heap.size ≤ x) → wpList P ops Q rest (a.put dst (.slice A' (n + 1) cap')) w') :
    wpList P ops Q ({ dst := dst, op := .call { callee := .builtin .append, args := #[s, x], argTypes := #[T, T] }, type := ty, pos := pos, after := after, guard := none } :: rest) a w := by
  obtain ⟨A', cap', w', hrun, h1, h2, h3⟩ := append_one I hown (c := c) hrow hone hbytes hn hB ty
  refine wpList_plain rfl fun K hK => ?_
  unfold Oper.wp
  rw [exec_append a.eval hs hx hrun]
  exact hK _ _ (h A' cap' w' h1 h2 h3)

theorem Lx_append {P : Program} {ops : Array Oper} {S : World → Prop} {cv fb : Bool} {Q : Act → World → Prop} {a : Act} {w : World} {rest : List Oper} {dst : Option Tmp} {s x : Operand} {ty : TypeId} {pos : String} {after : Array Edge} {T E : TypeId} {k bytes : Nat} (I : ElemInfo P T E k bytes)
    {B : Nat} {A : Option Addr} {n cap : Nat} {L : List (Array Value)} (hs : a.eval s = .slice A n cap) (hown : Own w B E k A n cap L)
    {q o c : Nat} {cs : Array Value} (hx : a.eval x = .slice (some ⟨q, o, none⟩) 1 c) (hrow : rowAt w q o k = some cs) (hone : ∀ u ∈ cs.toList, u.oneCell' = true) (hbytes : (n + 1) * bytes ≤ 140737488355328) (hn : n + 1 ≤ 9223372036854775807) (hB : B ≤ w.heap.size)
    (h : ∀ A' cap' w', Own w' B E k A' (n + 1) cap' (L ++ [cs]) → Keep (blk A) w w' → (∀ x ∈ blk A', x ∈ blk A ∨ w.heap.size ≤ x) → S w' ∧ wpLx P ops S cv fb Q rest (a.put dst (.slice A' (n + 1) cap')) w') :
    wpLx P ops S cv fb Q ({ dst := dst, op := .call { callee := .builtin .append, args := #[s, x], argTypes := #[T, T] }, type := ty, pos := pos, after := after, guard := none } :: rest) a w := by
  obtain ⟨A', cap', w', hrun, h1, h2, h3⟩ := append_one I hown (c := c) hrow hone hbytes hn hB ty
  obtain ⟨k1, k2⟩ := h A' cap' w' h1 h2 h3
  exact wpLx_append hs hx hrun k1 k2

/-- A slice literal of one struct or array. -/
def bsS (T : TypeId) (n : Nat) (parts : Array (Nat × Value)) : Sem Value := Instr.buildSlice T n parts
theorem run_bsS1 {P : Program} {T E : TypeId} {k bytes : Nat} (I : ElemInfo P T E k bytes) (hk : k ≤ 16777216) (w : World) (cs : Array Value) (hcs : cs.size = k) :
    (bsS T 1 #[(0, .agg cs)]).run P w = .ok (.slice (some ⟨w.heap.size, 0, none⟩) 1 1) (w.alloc (.cells cs E)) := by
  obtain ⟨i, z, hi, hz, hsz, hby, hzs⟩ := I.info
  have hpos := I.pos
  unfold bsS Instr.buildSlice
  have hf : Instr.fill (fun i => some (i * k, k)) (Array.map (fun x => z.cells[x % z.cells.size]!) (Array.range (1 * k))) [(0, Value.agg cs)] = some cs := by
    have e : Array.map (fun x => z.cells[x % z.cells.size]!) (Array.range (1 * k)) = (#[] : Array Value) ++ Array.map (fun x => z.cells[x % z.cells.size]!) (Array.range (1 * k)) ++ #[] := by simp
    rw [e, fill_step (off := 0) (size := k) (by simp) rfl (by simp) (by simp [Value.cells, hcs])]
    simp [Instr.fill, Value.cells]
  have hne : ¬ (1 * k > 16777216) := by omega
  have hn0 : ¬ (1 * k = 0) := by omega
  simp only [Sem.run_bind, run_underlying I.und, Result.andThen_ok, sizeOf, typeInfo, hi, hsz]
  simp [hi, hz, zeroValue, typeInfo, hsz, Nat.not_lt.2 (show k ≤ 16777216 from hk), Nat.pos_iff_ne_zero.1 hpos, hf, newRow]
  rw [Nat.one_mul] at hf
  rw [hf]
  rfl

end Go.Proofs.Ytlonihfhgfmplaa
