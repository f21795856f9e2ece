/- Arguments that came in, opened into plain Lean: texts, numbers, ids, structs, and slices of them as rows. -/
import Derived.Test.YtlonihfhgfmplaaSlice
import Derived.Test.YtlonihfhgfmplaaIds
import Derived.Deep.Slices
import Derived.RowKit
import Derived.ProofKit
import Derived.OpenShut
namespace Go.Proofs.Ytlonihfhgfmplaa
open Go.RowKit Go.WideShapes

section
variable {P : Program} {w : World}

/-- What reads as type T is some 'a' that is 'ok', its cells 'e a'. -/
def Opens (P : Program) (w : World) (T : TypeId) {α : Type} (e : α → Array Value) (ok : α → Prop) : Prop :=
  ∀ {H : Type} (enc : TypeId × Value → H) (base : Nat) (spare : Nat → Bool) (held : Bool) (fuel : Nat) (cs : List Value) (x : DataW H × List MemPlace),
    DataW.trod enc P w base spare held fuel T cs = some x → ∃ a, cs = (e a).toList ∧ ok a

theorem opens_string {T : TypeId} (u : P.underlying T = some .string) : Opens P w T (fun s : ByteArray => #[.string s]) (fun s => s.size ≤ maxLen) := by
  intro H enc base spare held fuel cs x h
  obtain ⟨s, rfl, _, hs⟩ := DataW.trod_string u h
  exact ⟨s, rfl, hs⟩
theorem opens_int {T : TypeId} {k : IntKind} (u : P.underlying T = some (.int k)) : Opens P w T (fun n : Int => #[.int k n]) (fun n => (Lit.int k n).wf = true) := by
  intro H enc base spare held fuel cs x h
  obtain ⟨n, rfl, _, hs⟩ := DataW.trod_int u h
  exact ⟨n, rfl, hs⟩
theorem opens_bool {T : TypeId} (u : P.underlying T = some .bool) : Opens P w T (fun b : Bool => #[.bool b]) (fun _ => True) := by
  intro H enc base spare held fuel cs x h
  obtain ⟨b, rfl, _⟩ := DataW.trod_bool u h
  exact ⟨b, rfl, trivial⟩
theorem opens_field {U : TypeId} {fs : Array Field} {α : Type} {e : α → Array Value} {ok : α → Prop} {H : Type} {enc : TypeId × Value → H} {base : Nat} {spare : Nat → Bool} {held : Bool} {n : Nat} {cs : List Value} {xs : List (DataW H × List MemPlace)}
    (hlen : xs.length = fs.size) (hel : ∀ (i : Nat) (f : Field), fs[i]? = some f → DataW.trod enc P w base spare held n f.type ((cs.drop f.offset).take (P.cellsOf f.type)) = xs[i]?)
    (o : Opens P w U e ok) (i off k : Nat) (f : Field) (hf : fs[i]? = some f) (ht : f.type = U) (ho : f.offset = off) (hk : P.cellsOf U = k) : ∃ a, (cs.drop off).take k = (e a).toList ∧ ok a := by
  have h := hel i f hf
  rw [ht, ho, hk] at h
  have hi : i < xs.length := by rw [hlen]; exact (Array.getElem?_eq_some_iff.1 hf).1
  rw [List.getElem?_eq_getElem hi] at h
  exact o _ _ _ _ _ _ _ h
theorem take_seg {cs : List Value} {o k : Nat} : cs.drop o = (cs.drop o).take k ++ cs.drop (o + k) := by
  rw [← List.drop_drop, List.take_append_drop]

theorem rowAt_of_cells {g o k : Nat} {cs : List Value} {base : Nat} (h : w.cells? base ⟨g, o, none⟩ k = some cs) (hk : 0 < k) : rowAt w g o k = some cs.toArray := by
  unfold World.cells? at h
  split at h
  · have hlen : cs.length = k := by simpa using mapM_some_length h
    have hget : ∀ i, i < k → w.cell? ⟨g, o + i, none⟩ = cs[i]? := by
      intro i hi
      have := mapM_some_get h i i (by simp [hi])
      rw [← this]
      congr 1
      unfold Addr.add; split
      · rename_i e; subst e; rfl
      · rfl
    have h0 := hget (k - 1) (by omega)
    rw [List.getElem?_eq_getElem (by omega)] at h0
    unfold rowAt
    cases hb : w.heap[g]? with
    | none => simp [World.cell?, hb] at h0
    | some b =>
      cases b with
      | cells c t f =>
        have h1 : ∀ i, i < k → c[o + i]? = cs[i]? := by
          intro i hi
          have := hget i hi
          simpa [World.cell?, hb] using this
        have hle : o + k ≤ c.size := by
          have h2 := h1 (k - 1) (by omega)
          rw [List.getElem?_eq_getElem (by omega)] at h2
          have := (Array.getElem?_eq_some_iff.1 h2).1
          omega
        simp only
        rw [if_pos hle]
        congr 1
        apply Array.ext'
        apply List.ext_getElem?
        intro i
        by_cases hi : i < k
        · have := h1 i hi
          simp only [Array.toList_extract, List.extract_eq_take_drop, List.getElem?_take, List.getElem?_drop]
          rw [if_pos (by omega)]
          simpa using this
        · rw [List.getElem?_eq_none (by simp; omega), List.getElem?_eq_none (by simp; omega)]
      | _ => simp [World.cell?, hb] at h0
  · cases h

/-- A slice that came in. -/
theorem open_rows {H : Type} {enc : TypeId × Value → H} {base : Nat} {spare : Nat → Bool} {held : Bool} {T E : TypeId} {α : Type} {e : α → Array Value} {ok : α → Prop} {k b0 : Nat} {r : Reach} {v : Value} {d : DataW H} {p : List MemPlace} (u : P.underlying T = some (.slice E)) (o : Opens P w E e ok)
    (hk : P.cellsOf E = k) (hk0 : 0 < k) (hval : Value.okWide P w r b0 T v) (h : DataW.Trod enc P w base spare held T v d p) :
    ∃ (A : Option Addr) (n cap : Nat) (R : List α), v = .slice A n cap ∧ SlR w A n k (R.map e) ∧ R.length = n ∧ (∀ a ∈ R, ok a) ∧ n ≤ maxLen ∧ ((n = 0 ∧ d = .nil) ∨ ∃ el sp, d = .slice el sp ∧ el.length = n) := by
  obtain ⟨A, n, cap, rfl⟩ := okWide_slice u hval
  obtain ⟨fuel, hf⟩ := h
  rcases Go.Deep.open_slice u hf with ⟨h0, hx⟩ | ⟨a, len, cap', m, f, D, Pl, hcs, hb, hlc, hcm, hm, hx, hel⟩
  · have e0 : (Value.slice A n cap).cells.toList = [Value.slice A n cap] := rfl
    rw [e0] at h0
    injection h0 with h0 _
    injection h0 with h1 h2 h3
    subst h1; subst h2; subst h3
    exact ⟨none, 0, 0, [], rfl, ⟨rfl, fun h => absurd h (by omega)⟩, rfl, fun _ h => absurd h (by simp), Nat.zero_le _, .inl ⟨rfl, (Prod.mk.inj hx).1⟩⟩
  · have e0 : (Value.slice A n cap).cells.toList = [Value.slice A n cap] := rfl
    rw [e0] at hcs
    injection hcs with h0 _
    injection h0 with h1 h2 h3
    subst h1; subst h2; subst h3
    have hnm : n ≤ m := by rw [hm]; split <;> omega
    have hall : ∀ i, i < n → ∃ x : α, w.cells? base (a.add (i * k)) k = some (e x).toList ∧ ok x := by
      intro i hi
      obtain ⟨cs', h1, h2⟩ := hel i (by omega)
      rw [hk] at h1
      obtain ⟨x, rfl, hx⟩ := o _ _ _ _ _ _ _ h2
      exact ⟨x, h1, hx⟩
    clear hel
    by_cases hn : n = 0
    · subst hn
      exact ⟨some a, 0, cap, [], rfl, ⟨rfl, fun h => absurd h (by omega)⟩, rfl, fun _ h => absurd h (by simp), Nat.zero_le _, .inr ⟨_, _, (Prod.mk.inj hx).1, by simp⟩⟩
    · obtain ⟨x0, hx0, _⟩ := hall 0 (by omega)
      haveI : Inhabited α := ⟨x0⟩
      obtain ⟨R, hR⟩ := Go.Deep.choose_lt hall
      have hsp : a.spot = none := by
        unfold World.cells? at hx0
        split at hx0
        · have := mapM_some_get hx0 0 0 (by simp [hk0])
          have hlen : (e x0).toList.length = k := by simpa using mapM_some_length hx0
          rw [List.getElem?_eq_getElem (by omega)] at this
          have := World.cell?_spot this
          simpa [Addr.add] using this
        · cases hx0
      obtain ⟨g, o', sp⟩ := a
      simp only at hsp
      subst hsp
      refine ⟨_, n, cap, (List.range n).map R, rfl, ⟨by simp, fun _ => ⟨g, o', rfl, ?_⟩⟩, by simp, ?_, by omega, .inr ⟨_, _, (Prod.mk.inj hx).1, by simp⟩⟩
      · intro i hi
        have hi' : i < n := by simpa using hi
        have h1 := (hR i hi').1
        have e1 : (⟨g, o', none⟩ : Addr).add (i * k) = ⟨g, o' + i * k, none⟩ := by
          unfold Addr.add; split
          · rename_i e; rw [e]; rfl
          · rfl
        rw [e1] at h1
        rw [rowAt_of_cells h1 hk0]
        simp
      · intro x hx
        obtain ⟨i, hi, rfl⟩ := List.mem_map.1 hx
        exact (hR i (List.mem_range.1 hi)).2
end

/-- A struct, an array that came in. -/
theorem open_agg {P : Program} {w : World} {H : Type} {enc : TypeId × Value → H} {base : Nat} {spare : Nat → Bool} {held : Bool} {T : TypeId} {α : Type} {e : α → Array Value} {ok : α → Prop} {b0 : Nat} {r : Reach} {v : Value} {d : DataW H} {p : List MemPlace} {ds : TypeDesc} (u : P.underlying T = some ds)
    (hds : (match ds with | .struct _ | .array _ _ => true | _ => false) = true) (o : Opens P w T e ok) (hval : Value.okWide P w r b0 T v) (h : DataW.Trod enc P w base spare held T v d p) : ∃ a, v = .agg (e a) ∧ ok a := by
  have hv : ∃ cs, v = .agg cs := by
    simp only [Value.okWide, u] at hval
    cases ds <;> simp_all
    all_goals exact ⟨_, hval.choose_spec.1⟩
  obtain ⟨cs, rfl⟩ := hv
  obtain ⟨fuel, hf⟩ := h
  obtain ⟨a, ha, hok⟩ := o _ _ _ _ _ _ _ hf
  refine ⟨a, ?_, hok⟩
  congr 1
  apply Array.ext'
  exact ha

theorem trodAll_four {H : Type} {enc : TypeId × Value → H} {P : Program} {w : World} {base : Nat} {spare : Nat → Bool} {held : Bool} {t0 t1 t2 t3 : TypeId} {args : Array Value} {ds : List (DataW H)} {ps : List MemPlace} (h : DataW.TrodAll enc P w base spare held [t0, t1, t2, t3] args.toList ds ps) :
    ∃ (v0 v1 v2 v3 : Value) (d0 d1 d2 d3 : DataW H) (p0 p1 p2 p3 : List MemPlace), args = #[v0, v1, v2, v3] ∧ ds = [d0, d1, d2, d3] ∧ ps = p0 ++ (p1 ++ (p2 ++ (p3))) ∧ DataW.Trod enc P w base spare held t0 v0 d0 p0 ∧ DataW.Trod enc P w base spare held t1 v1 d1 p1 ∧ DataW.Trod enc P w base spare held t2 v2 d2 p2 ∧ DataW.Trod enc P w base spare held t3 v3 d3 p3 := by
  obtain ⟨v0, vs0, d0, ds0, p0, q0, hargs, rfl, rfl, h0, r0⟩ := Go.ChangeShapes.trodAll_cons h
  obtain ⟨v1, vs1, d1, ds1, p1, q1, rfl, rfl, rfl, h1, r1⟩ := Go.ChangeShapes.trodAll_cons r0
  obtain ⟨v2, vs2, d2, ds2, p2, q2, rfl, rfl, rfl, h2, r2⟩ := Go.ChangeShapes.trodAll_cons r1
  obtain ⟨v3, vs3, d3, ds3, p3, q3, rfl, rfl, rfl, h3, r3⟩ := Go.ChangeShapes.trodAll_cons r2
  obtain ⟨rfl, rfl, rfl⟩ := Go.ChangeShapes.trodAll_nil r3
  exact ⟨v0, v1, v2, v3, d0, d1, d2, d3, p0, p1, p2, p3, by cases args; simp_all, rfl, by simp, h0, h1, h2, h3⟩
theorem trodAll_five {H : Type} {enc : TypeId × Value → H} {P : Program} {w : World} {base : Nat} {spare : Nat → Bool} {held : Bool} {t0 t1 t2 t3 t4 : TypeId} {args : Array Value} {ds : List (DataW H)} {ps : List MemPlace} (h : DataW.TrodAll enc P w base spare held [t0, t1, t2, t3, t4] args.toList ds ps) :
    ∃ (v0 v1 v2 v3 v4 : Value) (d0 d1 d2 d3 d4 : DataW H) (p0 p1 p2 p3 p4 : List MemPlace), args = #[v0, v1, v2, v3, v4] ∧ ds = [d0, d1, d2, d3, d4] ∧ ps = p0 ++ (p1 ++ (p2 ++ (p3 ++ (p4)))) ∧ DataW.Trod enc P w base spare held t0 v0 d0 p0 ∧ DataW.Trod enc P w base spare held t1 v1 d1 p1 ∧ DataW.Trod enc P w base spare held t2 v2 d2 p2 ∧ DataW.Trod enc P w base spare held t3 v3 d3 p3 ∧ DataW.Trod enc P w base spare held t4 v4 d4 p4 := by
  obtain ⟨v0, vs0, d0, ds0, p0, q0, hargs, rfl, rfl, h0, r0⟩ := Go.ChangeShapes.trodAll_cons h
  obtain ⟨v1, vs1, d1, ds1, p1, q1, rfl, rfl, rfl, h1, r1⟩ := Go.ChangeShapes.trodAll_cons r0
  obtain ⟨v2, vs2, d2, ds2, p2, q2, rfl, rfl, rfl, h2, r2⟩ := Go.ChangeShapes.trodAll_cons r1
  obtain ⟨v3, vs3, d3, ds3, p3, q3, rfl, rfl, rfl, h3, r3⟩ := Go.ChangeShapes.trodAll_cons r2
  obtain ⟨v4, vs4, d4, ds4, p4, q4, rfl, rfl, rfl, h4, r4⟩ := Go.ChangeShapes.trodAll_cons r3
  obtain ⟨rfl, rfl, rfl⟩ := Go.ChangeShapes.trodAll_nil r4
  exact ⟨v0, v1, v2, v3, v4, d0, d1, d2, d3, d4, p0, p1, p2, p3, p4, by cases args; simp_all, rfl, by simp, h0, h1, h2, h3, h4⟩

theorem opensId {w : World} : Opens Try.prog w 24 idC (fun _ => True) := by
  intro H enc base spare held fuel cs x h
  obtain ⟨xs, m, rfl, _, hlen, hxl, hel⟩ := DataW.trod_array Try.underlying24 h
  have hc : Try.prog.cellsOf 24 = 32 := by kernel_rfl
  have hb : Try.prog.cellsOf 5 = 1 := by kernel_rfl
  rw [hc] at hlen
  have hall : ∀ i, i < 32 → ∃ n : Int, cs[i]? = some (.int .u8 n) ∧ 0 ≤ n ∧ n ≤ 255 := by
    intro i hi
    have h1 := hel i hi
    rw [List.getElem?_eq_getElem (by omega)] at h1
    obtain ⟨n, hn, _, hw⟩ := DataW.trod_int Try.underlying5 h1
    rw [hb, Nat.mul_one] at hn
    have h2 := congrArg (fun l => l[0]?) hn
    simp [List.getElem?_take, List.getElem?_drop] at h2
    have hw' : 0 ≤ n ∧ n ≤ 255 := by simpa [Lit.wf, IntKind.min, IntKind.max, IntKind.signed, IntKind.bits] using hw
    exact ⟨n, h2, hw'⟩
  obtain ⟨f, hf⟩ := Go.Deep.choose_lt hall
  refine ⟨⟨(List.range 32).map fun i => UInt8.ofNat (f i).toNat, by simp⟩, ?_, trivial⟩
  apply List.ext_getElem?
  intro i
  by_cases hi : i < 32
  · obtain ⟨h1, h2, h3⟩ := hf i hi
    rw [h1]
    simp [idC, byteC, hi]
    have : (f i).toNat % 256 = (f i).toNat := Nat.mod_eq_of_lt (by omega)
    omega
  · rw [List.getElem?_eq_none (by omega), List.getElem?_eq_none (by simp; omega)]

end Go.Proofs.Ytlonihfhgfmplaa
