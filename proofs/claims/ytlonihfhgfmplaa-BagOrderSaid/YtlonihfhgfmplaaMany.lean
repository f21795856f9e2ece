/- Slices of the call's own: many rows appended, one row turned. No program is named here. -/
import Derived.Test.YtlonihfhgfmplaaSlice
namespace Go.Proofs.Ytlonihfhgfmplaa
open Go.RowKit

theorem flat_set : ∀ (L : List (Array Value)) (k : Nat), (∀ c ∈ L, c.size = k) → ∀ (i : Nat) (cs : Array Value), i < L.length →
    (L.set i cs).flatMap Array.toList = (L.flatMap Array.toList).take (i * k) ++ cs.toList ++ (L.flatMap Array.toList).drop (i * k + k)
  | c :: L, k, hs, 0, cs, _ => by
    have hc : c.toList.length = k := by simpa using hs c (by simp)
    simp only [List.set_cons_zero, List.flatMap_cons, Nat.zero_mul, List.take_zero, List.nil_append, Nat.zero_add]
    rw [← hc, List.drop_left]
  | c :: L, k, hs, i + 1, cs, hi => by
    have hc : c.toList.length = k := by simpa using hs c (by simp)
    have ih := flat_set L k (fun c h => hs c (by simp [h])) i cs (by simpa using hi)
    simp only [List.set_cons_succ, List.flatMap_cons]
    rw [ih]
    have e1 : (i + 1) * k = c.toList.length + i * k := by rw [hc, Nat.add_mul]; omega
    rw [e1, List.take_append, List.drop_append]
    have t1 : c.toList.take (c.toList.length + i * k) = c.toList := List.take_of_length_le (by omega)
    have t2 : c.toList.drop (c.toList.length + i * k + k) = [] := List.drop_eq_nil_of_le (by omega)
    rw [t1, t2]
    have n1 : c.toList.length + i * k - c.toList.length = i * k := by omega
    have n2 : c.toList.length + i * k + k - c.toList.length = i * k + k := by omega
    rw [n1, n2]
    simp

theorem flat_div {L : List (Array Value)} {k : Nat} (hk : 0 < k) (hs : ∀ c ∈ L, c.size = k) {j : Nat} {u : Value} (h : (L.flatMap Array.toList)[j]? = some u) :
    ∃ i r, ∃ (hi : i < L.length), r < k ∧ j = i * k + r ∧ (L[i])[r]? = some u := by
  have hlen := flat_len L k hs
  have hj : j < L.length * k := by
    have := (List.getElem?_eq_some_iff.1 h).1
    omega
  have hi : j / k < L.length := Nat.div_lt_of_lt_mul (by rw [Nat.mul_comm]; exact hj)
  have hr : j % k < k := Nat.mod_lt _ hk
  have he : j = j / k * k + j % k := by rw [Nat.mul_comm]; exact (Nat.div_add_mod j k).symm
  refine ⟨j / k, j % k, hi, hr, he, ?_⟩
  rw [← flat_get L k hs (j / k) (j % k) hi hr, ← he, h]

section
variable {P : Program} {T E : TypeId} {k bytes : Nat}

/-- Rows more. -/
theorem append_rows (I : ElemInfo P T E k bytes) {w : World} {B : Nat} {A : Option Addr} {n cap : Nat} {L : List (Array Value)} (hown : Own w B E k A n cap L)
    {A2 : Option Addr} {m c : Nat} {R : List (Array Value)} (hsrc : SlR w A2 m k R) (hform : A2 = none → c = 0) (hone : ∀ r ∈ R, ∀ u ∈ r.toList, u.oneCell' = true) (hbytes : (n + m) * bytes ≤ 140737488355328) (hn : n + m ≤ 9223372036854775807) (hB : B ≤ w.heap.size) (ty : TypeId) :
    ∃ A' cap' w', (Builtin.append_ #[T, T] ty #[.slice A n cap, .slice A2 m c]).run P w = .ok (.slice A' (n + m) cap') w' ∧ Own w' B E k A' (n + m) cap' (L ++ R) ∧ Keep (blk A) w w' ∧ (∀ x ∈ blk A', x ∈ blk A ∨ w.heap.size ≤ x) := by
  obtain ⟨i, z, hi, hz, hsz, hby, hzs⟩ := I.info
  have hsize : ∀ r ∈ R, r.size = k := by
    intro r hr
    obtain ⟨j, hj, rfl⟩ := List.mem_iff_getElem.1 hr
    obtain ⟨g, o, _, hc⟩ := hsrc.at_ (i := j) (by have := hsrc.1; omega)
    exact rowAt_size hc
  cases A2 with
  | none =>
    have hm : m = 0 := by
      rcases Nat.eq_zero_or_pos m with h | h
      · exact h
      · obtain ⟨g, o, e, _⟩ := hsrc.2 h; cases e
    subst hm
    have hR : R = [] := List.eq_nil_of_length_eq_zero hsrc.1
    subst hR
    have hc := hform rfl
    subst hc
    exact ⟨A, cap, w, run_append_owned_none (P := P) w B T ty E i k I.und hi _ _ _ hown.row, by simpa using hown, Keep.refl _ _, fun x hx => .inl hx⟩
  | some a =>
    obtain ⟨v', w', hrun, hown', hg, _, hblk⟩ := run_append_own_at (P := P) w B T ty E i z k bytes I.und hi hz hsz hby hzs I.pos (.slice A n cap) n _ hown.row a m c (R.flatMap Array.toList) (by rw [flat_len R k hsize, hsrc.1])
      (fun j u hu => by
        obtain ⟨x, r, hx, hr, rfl, hcell⟩ := flat_div I.pos hsize hu
        obtain ⟨g, o, e, hrow⟩ := hsrc.at_ (i := x) (by have := hsrc.1; omega)
        injection e with e; subst e
        have hadd : (⟨g, o, none⟩ : Addr).add (x * k + r) = ⟨g, o + (x * k + r), none⟩ := by unfold Addr.add; split <;> simp_all
        rw [hadd, ← Nat.add_assoc, rowAt_cell hrow hr]
        exact hcell)
      (fun u hu => by
        obtain ⟨r, hr, hu⟩ := List.mem_flatMap.1 hu
        exact hone r hr u hu) (by simp only [maxLen]; omega) hbytes hB
    have hform : ∃ A' cap', v' = .slice A' (n + m) cap' := by
      rcases hown'.2 with ⟨h0, h00⟩ | ⟨g, c', cur, hv, _⟩
      · exact ⟨none, 0, by rw [h0, h00]⟩
      · exact ⟨_, _, hv⟩
    obtain ⟨A', cap', rfl⟩ := hform
    have hb : (Value.slice A n cap).ownBlock = (A.map (·.block)) := by cases A <;> rfl
    have hb' : (Value.slice A' (n + m) cap').ownBlock = (A'.map (·.block)) := by cases A' <;> rfl
    refine ⟨A', cap', w', hrun, ⟨by rw [List.flatMap_append]; exact hown', by simp [hown.len, hsrc.1], fun c' hc' => ?_⟩, ?_, ?_⟩
    · rcases List.mem_append.1 hc' with h | h
      · exact hown.size c' h
      · exact hsize c' h
    · have := Keep.grown hg
      rwa [hb] at this
    · intro x hx
      rw [hb, hb'] at hblk
      rcases hblk with e | e
      · left; unfold blk at hx ⊢; rw [e] at hx; exact hx
      · right
        unfold blk at hx; rw [e] at hx
        have : x = w.heap.size := by simpa using hx
        omega

/-- One row turned. -/
theorem own_store (I : ElemInfo P T E k bytes) {w : World} {B : Nat} {g n cap : Nat} {L : List (Array Value)} (hown : Own w B E k (some ⟨g, 0, none⟩) n cap L) {i : Nat} (hi : i < n) {cs : Array Value} (hcs : cs.size = k) (hone : ∀ u ∈ cs.toList, u.oneCell' = true) :
    ∃ w', (stS E ⟨g, i * k, none⟩ (.agg cs)).run P w = .ok () w' ∧ Own w' B E k (some ⟨g, 0, none⟩) n cap (L.set i cs) ∧ Keep [g] w w' := by
  obtain ⟨inf, z, hinf, hz, hsz, hby, hzs⟩ := I.info
  have hlen := flat_len L k hown.size
  have hL := hown.len
  obtain ⟨⟨h1, h2⟩, _, hs⟩ := hown
  rcases h2 with ⟨h2, _⟩ | ⟨g', c, cur, hv, hb, hg, hnc, hcm, hcsz, htake⟩
  · cases h2
  · injection hv with hA _ hc
    injection hA with hA
    injection hA with hA
    subst hA; subst hc
    have hle : i * k + k ≤ n * k := by
      have : (i + 1) * k ≤ n * k := Nat.mul_le_mul_right k (by omega)
      rw [Nat.add_mul] at this; omega
    have hle2 : n * k ≤ cur.size := by rw [hcsz]; exact Nat.mul_le_mul_right k hnc
    have hst := run_storeCells_at P g (i * k) E cs.toList 0 cur w hg (by simp; omega) hone
    simp only [Nat.add_zero, Array.length_toList, hcs] at hst
    have hset : (w.setRow g (cur.toList.take (i * k) ++ cs.toList ++ cur.toList.drop (i * k + k)).toArray).heap[g]? = some (.cells (cur.toList.take (i * k) ++ cs.toList ++ cur.toList.drop (i * k + k)).toArray E (0, 0)) := setRow_heap w g cur _ E _ hg
    refine ⟨_, ?_, ⟨⟨?_, .inr ⟨g, cap, _, rfl, hb, hset, hnc, hcm, ?_, ?_⟩⟩, by simp [hL], ?_⟩, ⟨rfl, rfl, rfl, by simp [World.setRow], fun x _ hx => setRow_other w g x _ (by simpa using hx)⟩⟩
    · unfold stS storeVar
      simp [Value.cells, sizeOf, typeInfo, hinf, hsz, hcs]
      simpa using hst
    · rw [flat_len _ k (fun c hc => by
        rcases List.mem_or_eq_of_mem_set hc with h | h
        · exact hs c h
        · rw [h]; exact hcs), List.length_set, hL]
    · simp; omega
    · rw [flat_set L k hs i cs (by omega), ← htake]
      have hcl : cs.toList.length = k := by simpa using hcs
      have hcur : n * k ≤ cur.toList.length := by simpa using hle2
      generalize cur.toList = X at *
      generalize cs.toList = Y at *
      apply List.ext_getElem?
      intro j
      simp only [List.getElem?_take, List.getElem?_append, List.length_append, List.length_take, List.getElem?_drop]
      have m1 : min (i * k) X.length = i * k := by omega
      have m2 : min (i * k) (min (n * k) X.length) = i * k := by omega
      simp only [m1, m2, hcl]
      by_cases c1 : j < i * k
      · have c2 : j < i * k + k := by omega
        have c3 : j < n * k := by omega
        simp [c1, c2, c3]
      · by_cases c2 : j < i * k + k
        · have c3 : j < n * k := by omega
          simp [c1, c2, c3]
        · have e : i * k + k + (j - (i * k + k)) = j := by omega
          simp [c1, c2, e]
    · intro c hc
      rcases List.mem_or_eq_of_mem_set hc with h | h
      · exact hs c h
      · rw [h]; exact hcs
end

/-- An empty slice literal. -/
theorem run_bsS0 {P : Program} {T E : TypeId} {k bytes : Nat} (I : ElemInfo P T E k bytes) (w : World) : (bsS T 0 #[]).run P w = .ok (.slice (some ⟨w.heap.size, 0, none⟩) 0 0) (w.alloc (.cells #[] E)) := by
  obtain ⟨i, z, hi, hz, hsz, hby, hzs⟩ := I.info
  unfold bsS Instr.buildSlice
  simp only [Sem.run_bind, run_underlying I.und, Result.andThen_ok, sizeOf, typeInfo, hi, hsz]
  simp [hi, hz, zeroValue, typeInfo, hsz, Instr.fill, newRow]
  have e : Array.range 0 = #[] := rfl
  rw [e]; simp
theorem Own.empty (w : World) (B : Nat) (E : TypeId) (k : Nat) (hB : B ≤ w.heap.size) : Own (w.alloc (.cells #[] E)) B E k (some ⟨w.heap.size, 0, none⟩) 0 0 [] :=
  ⟨⟨by simp, .inr ⟨w.heap.size, 0, #[], rfl, hB, heap_alloc_new w _, Nat.le_refl _, Nat.zero_le _, by simp, by simp⟩⟩, rfl, by simp⟩
theorem Own.cap_le {w : World} {B : Nat} {E : TypeId} {k : Nat} {A : Option Addr} {n cap : Nat} {L : List (Array Value)} (h : Own w B E k A n cap L) : n ≤ cap ∧ (A = none → n = 0 ∧ cap = 0) := by
  rcases h.row.2 with ⟨h1, h2⟩ | ⟨g, c, cur, hv, _, _, hnc, _⟩
  · injection h1 with e1 e2 e3
    subst e1; subst e2; subst e3
    exact ⟨Nat.le_refl _, fun _ => ⟨rfl, rfl⟩⟩
  · injection hv with e1 e2 e3
    subst e1; subst e3
    exact ⟨hnc, fun e => by cases e⟩
theorem SlR.take_ {w : World} {A : Option Addr} {n k : Nat} {L : List (Array Value)} (h : SlR w A n k L) {m : Nat} (hm : m ≤ n) : SlR w A m k (L.take m) :=
  ⟨by rw [List.length_take, h.1]; omega, fun h0 => by
    obtain ⟨g, o, e, hc⟩ := h.2 (by omega)
    refine ⟨g, o, e, fun i hi => ?_⟩
    have hi' : i < L.length := by simp at hi; omega
    rw [hc i hi']; simp⟩
theorem SlR.drop_ {w : World} {g o n k : Nat} {L : List (Array Value)} (h : SlR w (some ⟨g, o, none⟩) n k L) {m : Nat} (hm : m ≤ n) : SlR w (some ⟨g, o + m * k, none⟩) (n - m) k (L.drop m) :=
  ⟨by rw [List.length_drop, h.1], fun h0 => by
    obtain ⟨g', o', e, hc⟩ := h.2 (by omega)
    injection e with e; injection e with e1 e2
    subst e1; subst e2
    refine ⟨g, o + m * k, rfl, fun i hi => ?_⟩
    have hi' : m + i < L.length := by simp at hi; omega
    have := hc (m + i) hi'
    rw [Nat.add_mul, ← Nat.add_assoc] at this
    rw [this]; simp⟩

/-- 'm = append(m, x...)' in a plain region. -/
theorem L_appends {P : Program} {ops : Array Oper} {Q : Exit → Act → World → Prop} {a : Act} {w : World} {rest : List Oper} {dst : Option Tmp} {s x : Operand} {ty : TypeId} {pos : String} {after : Array Edge} {T E : TypeId} {k bytes : Nat} (I : ElemInfo P T E k bytes)
    {B : Nat} {A : Option Addr} {n cap : Nat} {L : List (Array Value)} (hs : a.eval s = .slice A n cap) (hown : Own w B E k A n cap L)
    {A2 : Option Addr} {m c : Nat} {R : List (Array Value)} (hx : a.eval x = .slice A2 m c) (hsrc : SlR w A2 m k R) (hform : A2 = none → c = 0) (hone : ∀ r ∈ R, ∀ u ∈ r.toList, u.oneCell' = true) (hbytes : (n + m) * bytes ≤ 140737488355328) (hn : n + m ≤ 9223372036854775807) (hB : B ≤ w.heap.size)
    (h : ∀ A' cap' w', Own w' B E k A' (n + m) cap' (L ++ R) → Keep (blk A) w w' → (∀ x ∈ blk A', x ∈ blk A ∨ w.heap.size ≤ x) → wpList P ops Q rest (a.put dst (.slice A' (n + m) cap')) w') :
    wpList P ops Q ({ dst := dst, op := .call { callee := .builtin .append, args := #[s, x], argTypes := #[T, T] }, type := ty, pos := pos, after := after, guard := none } :: rest) a w := by
  obtain ⟨A', cap', w', hrun, h1, h2, h3⟩ := append_rows I hown hsrc hform hone hbytes hn hB ty
  refine wpList_plain rfl fun K hK => ?_
  unfold Oper.wp
  rw [exec_append a.eval hs hx hrun]
  exact hK _ _ (h A' cap' w' h1 h2 h3)

end Go.Proofs.Ytlonihfhgfmplaa
