/- Part 3 of the texts that lead to this claim: the walks of the functions and the plain law, in order. -/
import Derived.Test.YtgfpjjppeldhbaaGreatDoorMo2
import Derived.Deep.Slices
import Derived.RowKit
import Derived.ProofKit
import Derived.OpenShut
import Derived.Lib.AppendStr
import Derived.Laws.BytesString
import Derived.Lib.BufferRead
import Derived.Defers
import Derived.IntWalk

/- Arguments that came in, opened into plain Lean: texts, numbers, ids, structs, and slices of them as rows. -/
namespace Go.Proofs.YtgfpjjppeldhbaaGreatDoor
open Go.RowKit Go.WideShapes

section
variable {P : Program} {w : World}

/-- What reads as type T is some 'a' that is 'ok', its cells 'e a'. -/
def Opens (P : Program) (w : World) (T : TypeId) {α : Type} (e : α → Array Value) (ok : α → Prop) : Prop :=
  ∀ {H : Type} (enc : TypeId × Value → H) (base : Nat) (spare : Nat → Bool) (held : Bool) (fuel : Nat) (cs : List Value) (x : DataW H × List MemPlace),
    DataW.trod enc P w base spare held fuel T cs = some x → ∃ a, cs = (e a).toList ∧ ok a

theorem opens_string {T : TypeId} (u : P.underlying T = some .string) : Opens P w T (fun s : ByteArray => #[.string s]) (fun s => s.size ≤ maxLen) := by
  intro H enc base spare held fuel cs x h
  obtain ⟨s, rfl, _, hs⟩ := DataW.trod_string u h
  exact ⟨s, rfl, hs⟩
theorem opens_int {T : TypeId} {k : IntKind} (u : P.underlying T = some (.int k)) : Opens P w T (fun n : Int => #[.int k n]) (fun n => (Lit.int k n).wf = true) := by
  intro H enc base spare held fuel cs x h
  obtain ⟨n, rfl, _, hs⟩ := DataW.trod_int u h
  exact ⟨n, rfl, hs⟩
theorem opens_bool {T : TypeId} (u : P.underlying T = some .bool) : Opens P w T (fun b : Bool => #[.bool b]) (fun _ => True) := by
  intro H enc base spare held fuel cs x h
  obtain ⟨b, rfl, _⟩ := DataW.trod_bool u h
  exact ⟨b, rfl, trivial⟩
theorem opens_field {U : TypeId} {fs : Array Field} {α : Type} {e : α → Array Value} {ok : α → Prop} {H : Type} {enc : TypeId × Value → H} {base : Nat} {spare : Nat → Bool} {held : Bool} {n : Nat} {cs : List Value} {xs : List (DataW H × List MemPlace)}
    (hlen : xs.length = fs.size) (hel : ∀ (i : Nat) (f : Field), fs[i]? = some f → DataW.trod enc P w base spare held n f.type ((cs.drop f.offset).take (P.cellsOf f.type)) = xs[i]?)
    (o : Opens P w U e ok) (i off k : Nat) (f : Field) (hf : fs[i]? = some f) (ht : f.type = U) (ho : f.offset = off) (hk : P.cellsOf U = k) : ∃ a, (cs.drop off).take k = (e a).toList ∧ ok a := by
  have h := hel i f hf
  rw [ht, ho, hk] at h
  have hi : i < xs.length := by rw [hlen]; exact (Array.getElem?_eq_some_iff.1 hf).1
  rw [List.getElem?_eq_getElem hi] at h
  exact o _ _ _ _ _ _ _ h
theorem take_seg {cs : List Value} {o k : Nat} : cs.drop o = (cs.drop o).take k ++ cs.drop (o + k) := by
  rw [← List.drop_drop, List.take_append_drop]

theorem rowAt_of_cells {g o k : Nat} {cs : List Value} {base : Nat} (h : w.cells? base ⟨g, o, none⟩ k = some cs) (hk : 0 < k) : rowAt w g o k = some cs.toArray := by
  unfold World.cells? at h
  split at h
  · have hlen : cs.length = k := by simpa using mapM_some_length h
    have hget : ∀ i, i < k → w.cell? ⟨g, o + i, none⟩ = cs[i]? := by
      intro i hi
      have := mapM_some_get h i i (by simp [hi])
      rw [← this]
      congr 1
      unfold Addr.add; split
      · rename_i e; subst e; rfl
      · rfl
    have h0 := hget (k - 1) (by omega)
    rw [List.getElem?_eq_getElem (by omega)] at h0
    unfold rowAt
    cases hb : w.heap[g]? with
    | none => simp [World.cell?, hb] at h0
    | some b =>
      cases b with
      | cells c t f =>
        have h1 : ∀ i, i < k → c[o + i]? = cs[i]? := by
          intro i hi
          have := hget i hi
          simpa [World.cell?, hb] using this
        have hle : o + k ≤ c.size := by
          have h2 := h1 (k - 1) (by omega)
          rw [List.getElem?_eq_getElem (by omega)] at h2
          have := (Array.getElem?_eq_some_iff.1 h2).1
          omega
        simp only
        rw [if_pos hle]
        congr 1
        apply Array.ext'
        apply List.ext_getElem?
        intro i
        by_cases hi : i < k
        · have := h1 i hi
          simp only [Array.toList_extract, List.extract_eq_take_drop, List.getElem?_take, List.getElem?_drop]
          rw [if_pos (by omega)]
          simpa using this
        · rw [List.getElem?_eq_none (by simp; omega), List.getElem?_eq_none (by simp; omega)]
      | _ => simp [World.cell?, hb] at h0
  · cases h

/-- A slice that came in. -/
theorem open_rows {H : Type} {enc : TypeId × Value → H} {base : Nat} {spare : Nat → Bool} {held : Bool} {T E : TypeId} {α : Type} {e : α → Array Value} {ok : α → Prop} {k b0 : Nat} {r : Reach} {v : Value} {d : DataW H} {p : List MemPlace} (u : P.underlying T = some (.slice E)) (o : Opens P w E e ok)
    (hk : P.cellsOf E = k) (hk0 : 0 < k) (hval : Value.okWide P w r b0 T v) (h : DataW.Trod enc P w base spare held T v d p) :
    ∃ (A : Option Addr) (n cap : Nat) (R : List α), v = .slice A n cap ∧ SlR w A n k (R.map e) ∧ R.length = n ∧ (∀ a ∈ R, ok a) ∧ n ≤ maxLen ∧ ((n = 0 ∧ d = .nil) ∨ ∃ el sp, d = .slice el sp ∧ el.length = n) := by
  obtain ⟨A, n, cap, rfl⟩ := okWide_slice u hval
  obtain ⟨fuel, hf⟩ := h
  rcases Go.Deep.open_slice u hf with ⟨h0, hx⟩ | ⟨a, len, cap', m, f, D, Pl, hcs, hb, hlc, hcm, hm, hx, hel⟩
  · have e0 : (Value.slice A n cap).cells.toList = [Value.slice A n cap] := rfl
    rw [e0] at h0
    injection h0 with h0 _
    injection h0 with h1 h2 h3
    subst h1; subst h2; subst h3
    exact ⟨none, 0, 0, [], rfl, ⟨rfl, fun h => absurd h (by omega)⟩, rfl, fun _ h => absurd h (by simp), Nat.zero_le _, .inl ⟨rfl, (Prod.mk.inj hx).1⟩⟩
  · have e0 : (Value.slice A n cap).cells.toList = [Value.slice A n cap] := rfl
    rw [e0] at hcs
    injection hcs with h0 _
    injection h0 with h1 h2 h3
    subst h1; subst h2; subst h3
    have hnm : n ≤ m := by rw [hm]; split <;> omega
    have hall : ∀ i, i < n → ∃ x : α, w.cells? base (a.add (i * k)) k = some (e x).toList ∧ ok x := by
      intro i hi
      obtain ⟨cs', h1, h2⟩ := hel i (by omega)
      rw [hk] at h1
      obtain ⟨x, rfl, hx⟩ := o _ _ _ _ _ _ _ h2
      exact ⟨x, h1, hx⟩
    clear hel
    by_cases hn : n = 0
    · subst hn
      exact ⟨some a, 0, cap, [], rfl, ⟨rfl, fun h => absurd h (by omega)⟩, rfl, fun _ h => absurd h (by simp), Nat.zero_le _, .inr ⟨_, _, (Prod.mk.inj hx).1, by simp⟩⟩
    · obtain ⟨x0, hx0, _⟩ := hall 0 (by omega)
      haveI : Inhabited α := ⟨x0⟩
      obtain ⟨R, hR⟩ := Go.Deep.choose_lt hall
      have hsp : a.spot = none := by
        unfold World.cells? at hx0
        split at hx0
        · have := mapM_some_get hx0 0 0 (by simp [hk0])
          have hlen : (e x0).toList.length = k := by simpa using mapM_some_length hx0
          rw [List.getElem?_eq_getElem (by omega)] at this
          have := World.cell?_spot this
          simpa [Addr.add] using this
        · cases hx0
      obtain ⟨g, o', sp⟩ := a
      simp only at hsp
      subst hsp
      refine ⟨_, n, cap, (List.range n).map R, rfl, ⟨by simp, fun _ => ⟨g, o', rfl, ?_⟩⟩, by simp, ?_, by omega, .inr ⟨_, _, (Prod.mk.inj hx).1, by simp⟩⟩
      · intro i hi
        have hi' : i < n := by simpa using hi
        have h1 := (hR i hi').1
        have e1 : (⟨g, o', none⟩ : Addr).add (i * k) = ⟨g, o' + i * k, none⟩ := by
          unfold Addr.add; split
          · rename_i e; rw [e]; rfl
          · rfl
        rw [e1] at h1
        rw [rowAt_of_cells h1 hk0]
        simp
      · intro x hx
        obtain ⟨i, hi, rfl⟩ := List.mem_map.1 hx
        exact (hR i (List.mem_range.1 hi)).2
end

/-- A struct, an array that came in. -/
theorem open_agg {P : Program} {w : World} {H : Type} {enc : TypeId × Value → H} {base : Nat} {spare : Nat → Bool} {held : Bool} {T : TypeId} {α : Type} {e : α → Array Value} {ok : α → Prop} {b0 : Nat} {r : Reach} {v : Value} {d : DataW H} {p : List MemPlace} {ds : TypeDesc} (u : P.underlying T = some ds)
    (hds : (match ds with | .struct _ | .array _ _ => true | _ => false) = true) (o : Opens P w T e ok) (hval : Value.okWide P w r b0 T v) (h : DataW.Trod enc P w base spare held T v d p) : ∃ a, v = .agg (e a) ∧ ok a := by
  have hv : ∃ cs, v = .agg cs := by
    simp only [Value.okWide, u] at hval
    cases ds <;> simp_all
    all_goals exact ⟨_, hval.choose_spec.1⟩
  obtain ⟨cs, rfl⟩ := hv
  obtain ⟨fuel, hf⟩ := h
  obtain ⟨a, ha, hok⟩ := o _ _ _ _ _ _ _ hf
  refine ⟨a, ?_, hok⟩
  congr 1
  apply Array.ext'
  exact ha

theorem trodAll_four {H : Type} {enc : TypeId × Value → H} {P : Program} {w : World} {base : Nat} {spare : Nat → Bool} {held : Bool} {t0 t1 t2 t3 : TypeId} {args : Array Value} {ds : List (DataW H)} {ps : List MemPlace} (h : DataW.TrodAll enc P w base spare held [t0, t1, t2, t3] args.toList ds ps) :
    ∃ (v0 v1 v2 v3 : Value) (d0 d1 d2 d3 : DataW H) (p0 p1 p2 p3 : List MemPlace), args = #[v0, v1, v2, v3] ∧ ds = [d0, d1, d2, d3] ∧ ps = p0 ++ (p1 ++ (p2 ++ (p3))) ∧ DataW.Trod enc P w base spare held t0 v0 d0 p0 ∧ DataW.Trod enc P w base spare held t1 v1 d1 p1 ∧ DataW.Trod enc P w base spare held t2 v2 d2 p2 ∧ DataW.Trod enc P w base spare held t3 v3 d3 p3 := by
  obtain ⟨v0, vs0, d0, ds0, p0, q0, hargs, rfl, rfl, h0, r0⟩ := Go.ChangeShapes.trodAll_cons h
  obtain ⟨v1, vs1, d1, ds1, p1, q1, rfl, rfl, rfl, h1, r1⟩ := Go.ChangeShapes.trodAll_cons r0
  obtain ⟨v2, vs2, d2, ds2, p2, q2, rfl, rfl, rfl, h2, r2⟩ := Go.ChangeShapes.trodAll_cons r1
  obtain ⟨v3, vs3, d3, ds3, p3, q3, rfl, rfl, rfl, h3, r3⟩ := Go.ChangeShapes.trodAll_cons r2
  obtain ⟨rfl, rfl, rfl⟩ := Go.ChangeShapes.trodAll_nil r3
  exact ⟨v0, v1, v2, v3, d0, d1, d2, d3, p0, p1, p2, p3, by cases args; simp_all, rfl, by simp, h0, h1, h2, h3⟩
theorem trodAll_five {H : Type} {enc : TypeId × Value → H} {P : Program} {w : World} {base : Nat} {spare : Nat → Bool} {held : Bool} {t0 t1 t2 t3 t4 : TypeId} {args : Array Value} {ds : List (DataW H)} {ps : List MemPlace} (h : DataW.TrodAll enc P w base spare held [t0, t1, t2, t3, t4] args.toList ds ps) :
    ∃ (v0 v1 v2 v3 v4 : Value) (d0 d1 d2 d3 d4 : DataW H) (p0 p1 p2 p3 p4 : List MemPlace), args = #[v0, v1, v2, v3, v4] ∧ ds = [d0, d1, d2, d3, d4] ∧ ps = p0 ++ (p1 ++ (p2 ++ (p3 ++ (p4)))) ∧ DataW.Trod enc P w base spare held t0 v0 d0 p0 ∧ DataW.Trod enc P w base spare held t1 v1 d1 p1 ∧ DataW.Trod enc P w base spare held t2 v2 d2 p2 ∧ DataW.Trod enc P w base spare held t3 v3 d3 p3 ∧ DataW.Trod enc P w base spare held t4 v4 d4 p4 := by
  obtain ⟨v0, vs0, d0, ds0, p0, q0, hargs, rfl, rfl, h0, r0⟩ := Go.ChangeShapes.trodAll_cons h
  obtain ⟨v1, vs1, d1, ds1, p1, q1, rfl, rfl, rfl, h1, r1⟩ := Go.ChangeShapes.trodAll_cons r0
  obtain ⟨v2, vs2, d2, ds2, p2, q2, rfl, rfl, rfl, h2, r2⟩ := Go.ChangeShapes.trodAll_cons r1
  obtain ⟨v3, vs3, d3, ds3, p3, q3, rfl, rfl, rfl, h3, r3⟩ := Go.ChangeShapes.trodAll_cons r2
  obtain ⟨v4, vs4, d4, ds4, p4, q4, rfl, rfl, rfl, h4, r4⟩ := Go.ChangeShapes.trodAll_cons r3
  obtain ⟨rfl, rfl, rfl⟩ := Go.ChangeShapes.trodAll_nil r4
  exact ⟨v0, v1, v2, v3, v4, d0, d1, d2, d3, d4, p0, p1, p2, p3, p4, by cases args; simp_all, rfl, by simp, h0, h1, h2, h3, h4⟩

theorem opensId {w : World} : Opens Tryz.prog w 39 idC (fun _ => True) := by
  intro H enc base spare held fuel cs x h
  obtain ⟨xs, m, rfl, _, hlen, hxl, hel⟩ := DataW.trod_array Tryz.underlying39 h
  have hc : Tryz.prog.cellsOf 39 = 32 := by kernel_rfl
  have hb : Tryz.prog.cellsOf 5 = 1 := by kernel_rfl
  rw [hc] at hlen
  have hall : ∀ i, i < 32 → ∃ n : Int, cs[i]? = some (.int .u8 n) ∧ 0 ≤ n ∧ n ≤ 255 := by
    intro i hi
    have h1 := hel i hi
    rw [List.getElem?_eq_getElem (by omega)] at h1
    obtain ⟨n, hn, _, hw⟩ := DataW.trod_int Tryz.underlying5 h1
    rw [hb, Nat.mul_one] at hn
    have h2 := congrArg (fun l => l[0]?) hn
    simp [List.getElem?_take, List.getElem?_drop] at h2
    have hw' : 0 ≤ n ∧ n ≤ 255 := by simpa [Lit.wf, IntKind.min, IntKind.max, IntKind.signed, IntKind.bits] using hw
    exact ⟨n, h2, hw'⟩
  obtain ⟨f, hf⟩ := Go.Deep.choose_lt hall
  refine ⟨⟨(List.range 32).map fun i => UInt8.ofNat (f i).toNat, by simp⟩, ?_, trivial⟩
  apply List.ext_getElem?
  intro i
  by_cases hi : i < 32
  · obtain ⟨h1, h2, h3⟩ := hf i hi
    rw [h1]
    simp [idC, byteC, hi]
    have : (f i).toNat % 256 = (f i).toNat := Nat.mod_eq_of_lt (by omega)
    omega
  · rw [List.getElem?_eq_none (by omega), List.getElem?_eq_none (by simp; omega)]

end Go.Proofs.YtgfpjjppeldhbaaGreatDoor

/- Package view: what lies behind a pointer to a View; none, Has. -/
namespace Go.Proofs.YtgfpjjppeldhbaaGreatDoor
open Go.RowKit Go.WideShapes

structure MarkV where
  id : Id32
  h : Int
  body : ByteArray
/-- Its cells. -/
def markVC (x : MarkV) : Array Value := idC x.id ++ #[.int .i64 x.h] ++ #[.string x.body]
@[simp] theorem markVC_size (x : MarkV) : (markVC x).size = 34 := by simp [markVC]
@[go_sem] theorem markVC_e0 (x : MarkV) : (markVC x).extract 0 32 = idC x.id := by
  have h : markVC x = ((#[] : Array Value)) ++ idC x.id ++ (#[.int .i64 x.h] ++ #[.string x.body]) := by first | (simp [markVC, Array.append_assoc]; done) | (apply Array.ext'; simp [markVC]; done)
  rw [h]; exact arr_mid _ _ _ _ _ (by simp) (by simp)
@[go_sem] theorem markVC_g32 (x : MarkV) : (markVC x)[32]? = some (.int .i64 x.h) := by first | (simp [markVC, Array.getElem?_append]; done) | (rw [show markVC x = (idC x.id) ++ #[.int .i64 x.h] ++ (#[.string x.body]) from by apply Array.ext'; simp [markVC]]; exact arr_at _ _ _ _ (by simp))
@[go_sem] theorem markVC_gg32 (x : MarkV) (h : 32 < (markVC x).size) : (markVC x)[32]'h = .int .i64 x.h := Option.some.inj ((Array.getElem?_eq_getElem h).symm.trans (markVC_g32 x))
@[go_sem] theorem markVC_g33 (x : MarkV) : (markVC x)[33]? = some (.string x.body) := by first | (simp [markVC, Array.getElem?_append]; done) | (rw [show markVC x = (idC x.id ++ #[.int .i64 x.h]) ++ #[.string x.body] ++ ((#[] : Array Value)) from by apply Array.ext'; simp [markVC]]; exact arr_at _ _ _ _ (by simp))
@[go_sem] theorem markVC_gg33 (x : MarkV) (h : 33 < (markVC x).size) : (markVC x)[33]'h = .string x.body := Option.some.inj ((Array.getElem?_eq_getElem h).symm.trans (markVC_g33 x))
@[go_sem] theorem markVC_all (x : MarkV) : (markVC x).extract 0 34 = markVC x := by have := Array.extract_size (xs := markVC x); rwa [markVC_size] at this
theorem markVC_inj {x y : MarkV} (h : markVC x = markVC y) : x = y := by
  have h0 := congrArg (fun a => a.extract 0 32) h
  simp only [markVC_e0] at h0
  have h0 := idC_inj h0
  have h1 := congrArg (fun a => a[32]?) h
  simp only [markVC_g32, Option.some.injEq, Value.int.injEq, true_and] at h1
  have h2 := congrArg (fun a => a[33]?) h
  simp only [markVC_g33, Option.some.injEq, Value.string.injEq] at h2
  cases x; cases y; simp_all
theorem markVC_one (x : MarkV) : ∀ u ∈ (markVC x).toList, u.oneCell' = true := by
  intro u hu
  simp only [markVC, Array.toList_append, List.mem_append] at hu
  rcases hu with (hu | hu) | hu
  · exact idC_one _ u hu
  · simp at hu; subst hu; rfl
  · simp at hu; subst hu; rfl
def markV0 : MarkV := ⟨id0, 0, ⟨#[]⟩⟩
theorem MarkV_ext {x y : MarkV} (h : x.id = y.id ∧ x.h = y.h ∧ x.body = y.body) : x = y := by cases x; cases y; simp_all
instance : DecidableEq MarkV := fun x y => if h : x.id = y.id ∧ x.h = y.h ∧ x.body = y.body then isTrue (MarkV_ext h) else isFalse (fun e => h (by subst e; simp))
theorem infoMarkV : (Tryz.prog.info? 41).map (·.size) = some 34 := by kernel_rfl
@[go_sem ↓] theorem zeroMarkV_run (w : World) : (zeroValue 41).run Tryz.prog w = .ok (.agg (markVC markV0)) w := by
  have h : (Tryz.prog.info? 41).bind (·.zero) = some (.agg (markVC markV0)) := by kernel_rfl
  cases hi : Tryz.prog.info? 41 with
  | none => rw [hi] at h; cases h
  | some i =>
    rw [hi] at h
    have hz : i.zero = some (.agg (markVC markV0)) := h
    simp [zeroValue, typeInfo, hi, hz]
@[go_sem ↓] theorem loadMarkV_rw (a : Addr) : loadVar 41 a = ldS 41 a := rfl
@[go_sem ↓] theorem storeMarkV_rw (a : Addr) (v : Value) : storeVar 41 a v = stS 41 a v := rfl
@[go_sem] theorem loadMarkV_run (w : World) (g o : Nat) : (ldS 41 ⟨g, o, none⟩).run Tryz.prog w = match rowAt w g o 34 with | some cs => .ok (.agg cs) w | none => (loadVar 41 ⟨g, o, none⟩).run Tryz.prog w :=
  run_ldS Tryz.underlying41 rfl infoMarkV w g o
@[go_sem] theorem storeMarkV_run (w : World) (g : Nat) (hg : g = w.heap.size) (z : Array Value) (hz : z.size = 34) (x : MarkV) (e : TypeId) : (stS 41 ⟨g, 0, none⟩ (.agg (markVC x))).run Tryz.prog (w.alloc (.cells z e)) = .ok () (w.alloc (.cells (markVC x) e)) :=
  hg ▸ run_stS_new infoMarkV w z (markVC x) hz (markVC_size x) (markVC_one x)
theorem fieldsMarkV : Tryz.prog.underlying 41 = some (.struct (Tryz.prog.fieldsOf 41)) := by kernel_rfl
theorem placesMarkV (w : World) : ((Tryz.prog.fieldsOf 41).mapM fun (f : Field) => do pure (f.offset, ← sizeOf f.type)).run Tryz.prog w = .ok #[(0, 32), (32, 1), (33, 1)] w := by kernel_rfl
@[go_sem ↓] theorem buildMarkV_rw (parts : Array (Nat × Value)) : Instr.build 41 parts = bdS 41 parts := rfl
def markVOk (x : MarkV) : Prop := True ∧ (Lit.int .i64 x.h).wf = true ∧ x.body.size ≤ maxLen
theorem opensMarkV {w : World} : Opens Tryz.prog w 41 markVC markVOk := by
  intro H enc base spare held fuel cs x h
  obtain ⟨xs, n, rfl, _, hlen, hxl, hel⟩ := DataW.trod_struct Tryz.underlying41 h
  have hc : Tryz.prog.cellsOf 41 = 34 := by kernel_rfl
  rw [hc] at hlen
  obtain ⟨a0, h0, k0⟩ := opens_field hxl hel (opensId) 0 0 32 _ rfl rfl rfl (by kernel_rfl)
  have e0 : cs.drop 0 = (cs.drop 0).take 32 ++ cs.drop 32 := take_seg
  obtain ⟨a1, h1, k1⟩ := opens_field hxl hel (opens_int Tryz.underlying3) 1 32 1 _ rfl rfl rfl (by kernel_rfl)
  have e1 : cs.drop 32 = (cs.drop 32).take 1 ++ cs.drop 33 := take_seg
  obtain ⟨a2, h2, k2⟩ := opens_field hxl hel (opens_string Tryz.underlying9) 2 33 1 _ rfl rfl rfl (by kernel_rfl)
  have e2 : cs.drop 33 = (cs.drop 33).take 1 ++ cs.drop 34 := take_seg
  have en : cs.drop 34 = [] := List.drop_eq_nil_of_le (by omega)
  refine ⟨⟨a0, a1, a2⟩, e0.trans ?_, k0, k1, k2⟩
  rw [h0, e1, h1, e2, h2, en]
  simp [markVC]
@[go_sem ↓] theorem fieldMarkV_0 (x : MarkV) (w : World) : (Instr.field 41 (.agg (markVC x)) 0).run Tryz.prog w = .ok (.agg (idC x.id)) w := by
  unfold Instr.field
  simp only [Sem.run_bind, run_underlying Tryz.underlying41, Result.andThen_ok, part, asAgg, isAgg]
  simp [go_sem]
@[go_sem ↓] theorem fieldMarkV_1 (x : MarkV) (w : World) : (Instr.field 41 (.agg (markVC x)) 1).run Tryz.prog w = .ok (.int .i64 x.h) w := by
  unfold Instr.field
  simp only [Sem.run_bind, run_underlying Tryz.underlying41, Result.andThen_ok, part, asAgg, isAgg]
  simp [go_sem]
@[go_sem ↓] theorem fieldMarkV_2 (x : MarkV) (w : World) : (Instr.field 41 (.agg (markVC x)) 2).run Tryz.prog w = .ok (.string x.body) w := by
  unfold Instr.field
  simp only [Sem.run_bind, run_underlying Tryz.underlying41, Result.andThen_ok, part, asAgg, isAgg]
  simp [go_sem]
@[go_sem] theorem buildMarkV (a0 : Id32) (a1 : Int) (a2 : ByteArray) (w : World) : (bdS 41 #[(0, .agg (idC a0)), (1, .int .i64 a1), (2, .string a2)]).run Tryz.prog w = .ok (.agg (markVC ⟨a0, a1, a2⟩)) w := by
  refine run_build w fieldsMarkV _ (zeroMarkV_run w) _ (placesMarkV w) [(0, .agg (idC a0)), (1, .int .i64 a1), (2, .string a2)] _ ?_
  rw [show markVC markV0 = (#[] : Array Value) ++ idC id0 ++ (#[.int .i64 0] ++ (#[.string ⟨#[]⟩])) from by first | (simp [markVC, markV0, Array.append_assoc]; done) | (apply Array.ext'; simp [markVC, markV0])]
  rw [fill_step (off := 0) (size := 32) rfl (by simp) (by simp) (by simp [Value.cells])]
  rw [show (#[] : Array Value) ++ (Value.agg (idC a0)).cells ++ (#[.int .i64 0] ++ (#[.string ⟨#[]⟩])) = (idC a0) ++ #[.int .i64 0] ++ (#[.string ⟨#[]⟩]) from by first | (simp [Value.cells, Array.append_assoc]; done) | (apply Array.ext'; simp [Value.cells]; done) | (apply Array.ext'; simp only [Array.toList_append]; simp [Value.cells])]
  rw [fill_step (off := 32) (size := 1) rfl (by simp) (by simp) (by simp [Value.cells])]
  rw [show (idC a0) ++ (Value.int .i64 a1).cells ++ (#[.string ⟨#[]⟩]) = (idC a0 ++ (#[.int .i64 a1])) ++ #[.string ⟨#[]⟩] ++ (#[] : Array Value) from by first | (simp [Value.cells, Array.append_assoc]; done) | (apply Array.ext'; simp [Value.cells]; done) | (apply Array.ext'; simp only [Array.toList_append]; simp [Value.cells])]
  rw [fill_step (off := 33) (size := 1) rfl (by simp) (by simp) (by simp [Value.cells])]
  first | (simp [Instr.fill, markVC, Array.append_assoc, Value.cells]; done) | (simp only [Instr.fill, markVC]; congr 1; apply Array.ext'; simp [Value.cells]; done) | (simp only [Instr.fill, markVC]; congr 1; done) | (simp only [Instr.fill, markVC]; done)
structure ValV where
  k : Int
  n : Int
  l : Value
/-- Its cells. -/
def valVC (x : ValV) : Array Value := #[.int .i64 x.k] ++ #[.int .i64 x.n] ++ #[x.l]
@[simp] theorem valVC_size (x : ValV) : (valVC x).size = 3 := by simp [valVC]
@[go_sem] theorem valVC_g0 (x : ValV) : (valVC x)[0]? = some (.int .i64 x.k) := by first | (simp [valVC, Array.getElem?_append]; done) | (rw [show valVC x = ((#[] : Array Value)) ++ #[.int .i64 x.k] ++ (#[.int .i64 x.n] ++ #[x.l]) from by apply Array.ext'; simp [valVC]]; exact arr_at _ _ _ _ (by simp))
@[go_sem] theorem valVC_gg0 (x : ValV) (h : 0 < (valVC x).size) : (valVC x)[0]'h = .int .i64 x.k := Option.some.inj ((Array.getElem?_eq_getElem h).symm.trans (valVC_g0 x))
@[go_sem] theorem valVC_g1 (x : ValV) : (valVC x)[1]? = some (.int .i64 x.n) := by first | (simp [valVC, Array.getElem?_append]; done) | (rw [show valVC x = (#[.int .i64 x.k]) ++ #[.int .i64 x.n] ++ (#[x.l]) from by apply Array.ext'; simp [valVC]]; exact arr_at _ _ _ _ (by simp))
@[go_sem] theorem valVC_gg1 (x : ValV) (h : 1 < (valVC x).size) : (valVC x)[1]'h = .int .i64 x.n := Option.some.inj ((Array.getElem?_eq_getElem h).symm.trans (valVC_g1 x))
@[go_sem] theorem valVC_g2 (x : ValV) : (valVC x)[2]? = some (x.l) := by first | (simp [valVC, Array.getElem?_append]; done) | (rw [show valVC x = (#[.int .i64 x.k] ++ #[.int .i64 x.n]) ++ #[x.l] ++ ((#[] : Array Value)) from by apply Array.ext'; simp [valVC]]; exact arr_at _ _ _ _ (by simp))
@[go_sem] theorem valVC_gg2 (x : ValV) (h : 2 < (valVC x).size) : (valVC x)[2]'h = x.l := Option.some.inj ((Array.getElem?_eq_getElem h).symm.trans (valVC_g2 x))
@[go_sem] theorem valVC_all (x : ValV) : (valVC x).extract 0 3 = valVC x := by have := Array.extract_size (xs := valVC x); rwa [valVC_size] at this
theorem valVC_inj {x y : ValV} (h : valVC x = valVC y) : x = y := by
  have h0 := congrArg (fun a => a[0]?) h
  simp only [valVC_g0, Option.some.injEq, Value.int.injEq, true_and] at h0
  have h1 := congrArg (fun a => a[1]?) h
  simp only [valVC_g1, Option.some.injEq, Value.int.injEq, true_and] at h1
  have h2 := congrArg (fun a => a[2]?) h
  simp only [valVC_g2, Option.some.injEq] at h2
  cases x; cases y; simp_all
theorem valVC_one (x : ValV) (hl : x.l.oneCell' = true) : ∀ u ∈ (valVC x).toList, u.oneCell' = true := by
  intro u hu
  simp only [valVC, Array.toList_append, List.mem_append] at hu
  rcases hu with (hu | hu) | hu
  · simp at hu; subst hu; rfl
  · simp at hu; subst hu; rfl
  · simp at hu; subst hu; exact hl
def valV0 : ValV := ⟨0, 0, (.slice none 0 0)⟩
theorem infoValV : (Tryz.prog.info? 25).map (·.size) = some 3 := by kernel_rfl
@[go_sem ↓] theorem zeroValV_run (w : World) : (zeroValue 25).run Tryz.prog w = .ok (.agg (valVC valV0)) w := by
  have h : (Tryz.prog.info? 25).bind (·.zero) = some (.agg (valVC valV0)) := by kernel_rfl
  cases hi : Tryz.prog.info? 25 with
  | none => rw [hi] at h; cases h
  | some i =>
    rw [hi] at h
    have hz : i.zero = some (.agg (valVC valV0)) := h
    simp [zeroValue, typeInfo, hi, hz]
@[go_sem ↓] theorem loadValV_rw (a : Addr) : loadVar 25 a = ldS 25 a := rfl
@[go_sem ↓] theorem storeValV_rw (a : Addr) (v : Value) : storeVar 25 a v = stS 25 a v := rfl
@[go_sem] theorem loadValV_run (w : World) (g o : Nat) : (ldS 25 ⟨g, o, none⟩).run Tryz.prog w = match rowAt w g o 3 with | some cs => .ok (.agg cs) w | none => (loadVar 25 ⟨g, o, none⟩).run Tryz.prog w :=
  run_ldS Tryz.underlying25 rfl infoValV w g o
@[go_sem] theorem storeValV_run (w : World) (g : Nat) (hg : g = w.heap.size) (z : Array Value) (hz : z.size = 3) (x : ValV) (hl : x.l.oneCell' = true) (e : TypeId) : (stS 25 ⟨g, 0, none⟩ (.agg (valVC x))).run Tryz.prog (w.alloc (.cells z e)) = .ok () (w.alloc (.cells (valVC x) e)) :=
  hg ▸ run_stS_new infoValV w z (valVC x) hz (valVC_size x) (valVC_one x hl)
theorem fieldsValV : Tryz.prog.underlying 25 = some (.struct (Tryz.prog.fieldsOf 25)) := by kernel_rfl
theorem placesValV (w : World) : ((Tryz.prog.fieldsOf 25).mapM fun (f : Field) => do pure (f.offset, ← sizeOf f.type)).run Tryz.prog w = .ok #[(0, 1), (1, 1), (2, 1)] w := by kernel_rfl
@[go_sem ↓] theorem buildValV_rw (parts : Array (Nat × Value)) : Instr.build 25 parts = bdS 25 parts := rfl
@[go_sem ↓] theorem fieldValV_0 (x : ValV) (w : World) : (Instr.field 25 (.agg (valVC x)) 0).run Tryz.prog w = .ok (.int .i64 x.k) w := by
  unfold Instr.field
  simp only [Sem.run_bind, run_underlying Tryz.underlying25, Result.andThen_ok, part, asAgg, isAgg]
  simp [go_sem]
@[go_sem ↓] theorem fieldValV_1 (x : ValV) (w : World) : (Instr.field 25 (.agg (valVC x)) 1).run Tryz.prog w = .ok (.int .i64 x.n) w := by
  unfold Instr.field
  simp only [Sem.run_bind, run_underlying Tryz.underlying25, Result.andThen_ok, part, asAgg, isAgg]
  simp [go_sem]
@[go_sem ↓] theorem fieldValV_2 (x : ValV) (w : World) : (Instr.field 25 (.agg (valVC x)) 2).run Tryz.prog w = .ok (x.l) w := by
  unfold Instr.field
  simp only [Sem.run_bind, run_underlying Tryz.underlying25, Result.andThen_ok, part, asAgg, isAgg]
  simp [go_sem]
@[go_sem] theorem buildValV (a0 : Int) (a1 : Int) (a2 : Value) (k2 : (a2).cells = #[a2]) (w : World) : (bdS 25 #[(0, .int .i64 a0), (1, .int .i64 a1), (2, a2)]).run Tryz.prog w = .ok (.agg (valVC ⟨a0, a1, a2⟩)) w := by
  refine run_build w fieldsValV _ (zeroValV_run w) _ (placesValV w) [(0, .int .i64 a0), (1, .int .i64 a1), (2, a2)] _ ?_
  rw [show valVC valV0 = (#[] : Array Value) ++ #[.int .i64 0] ++ (#[.int .i64 0] ++ (#[(.slice none 0 0)])) from by first | (simp [valVC, valV0, Array.append_assoc]; done) | (apply Array.ext'; simp [valVC, valV0])]
  rw [fill_step (off := 0) (size := 1) rfl (by simp) (by simp) (by simp [Value.cells])]
  rw [show (#[] : Array Value) ++ (Value.int .i64 a0).cells ++ (#[.int .i64 0] ++ (#[(.slice none 0 0)])) = (#[.int .i64 a0]) ++ #[.int .i64 0] ++ (#[(.slice none 0 0)]) from by first | (simp [k2, Array.append_assoc]; done) | (apply Array.ext'; simp [k2]; done) | (apply Array.ext'; simp only [Array.toList_append, k2]; simp [Value.cells])]
  rw [fill_step (off := 1) (size := 1) rfl (by simp) (by simp) (by simp [Value.cells])]
  rw [show (#[.int .i64 a0]) ++ (Value.int .i64 a1).cells ++ (#[(.slice none 0 0)]) = (#[.int .i64 a0] ++ (#[.int .i64 a1])) ++ #[(.slice none 0 0)] ++ (#[] : Array Value) from by first | (simp [k2, Array.append_assoc]; done) | (apply Array.ext'; simp [k2]; done) | (apply Array.ext'; simp only [Array.toList_append, k2]; simp [Value.cells])]
  rw [fill_step (off := 2) (size := 1) rfl (by simp) (by simp) (by simp [k2])]
  first | (simp [Instr.fill, valVC, Array.append_assoc, Value.cells]; done) | (simp only [Instr.fill, valVC, k2]; congr 1; apply Array.ext'; simp [Value.cells, k2]; done) | (simp only [Instr.fill, valVC, k2]; congr 1; done) | (simp only [Instr.fill, valVC, k2]; done)
@[go_sem] theorem buildValV_e (w : World) : (bdS 25 #[]).run Tryz.prog w = .ok (.agg (valVC valV0)) w := by kernel_rfl
@[go_sem] theorem buildValV_k (k : Int) (w : World) : (bdS 25 #[(0, .int .i64 k)]).run Tryz.prog w = .ok (.agg (valVC ⟨k, 0, .slice none 0 0⟩)) w := by kernel_rfl

@[go_sem ↓] theorem asYes_t (v : Value) (w : World) : (Instr.typeAssert (.iface 100 v) 77 100 true).run Tryz.prog w = .ok (.tuple #[v, .bool true]) w := by kernel_rfl
@[go_sem ↓] theorem asYes_b (v : Value) (w : World) : (Instr.typeAssert (.iface 102 v) 77 102 true).run Tryz.prog w = .ok (.tuple #[v, .bool true]) w := by kernel_rfl
@[go_sem ↓] theorem asYes_l (v : Value) (w : World) : (Instr.typeAssert (.iface 104 v) 77 104 true).run Tryz.prog w = .ok (.tuple #[v, .bool true]) w := by kernel_rfl
@[go_sem ↓] theorem asYes_m (v : Value) (w : World) : (Instr.typeAssert (.iface 105 v) 77 105 true).run Tryz.prog w = .ok (.tuple #[v, .bool true]) w := by kernel_rfl
@[go_sem ↓] theorem asYes_s (v : Value) (w : World) : (Instr.typeAssert (.iface 106 v) 77 106 true).run Tryz.prog w = .ok (.tuple #[v, .bool true]) w := by kernel_rfl
@[go_sem ↓] theorem asNo_bt (v : Value) (w : World) : (Instr.typeAssert (.iface 102 v) 77 100 true).run Tryz.prog w = .ok (.tuple #[.pointer none, .bool false]) w := by kernel_rfl
@[go_sem ↓] theorem asNo_lt (v : Value) (w : World) : (Instr.typeAssert (.iface 104 v) 77 100 true).run Tryz.prog w = .ok (.tuple #[.pointer none, .bool false]) w := by kernel_rfl
@[go_sem ↓] theorem asNo_lb (v : Value) (w : World) : (Instr.typeAssert (.iface 104 v) 77 102 true).run Tryz.prog w = .ok (.tuple #[.pointer none, .bool false]) w := by kernel_rfl
@[go_sem ↓] theorem asNo_mt (v : Value) (w : World) : (Instr.typeAssert (.iface 105 v) 77 100 true).run Tryz.prog w = .ok (.tuple #[.pointer none, .bool false]) w := by kernel_rfl
@[go_sem ↓] theorem asNo_mb (v : Value) (w : World) : (Instr.typeAssert (.iface 105 v) 77 102 true).run Tryz.prog w = .ok (.tuple #[.pointer none, .bool false]) w := by kernel_rfl
@[go_sem ↓] theorem asNo_ml (v : Value) (w : World) : (Instr.typeAssert (.iface 105 v) 77 104 true).run Tryz.prog w = .ok (.tuple #[.pointer none, .bool false]) w := by kernel_rfl
@[go_sem ↓] theorem asNo_st (v : Value) (w : World) : (Instr.typeAssert (.iface 106 v) 77 100 true).run Tryz.prog w = .ok (.tuple #[.pointer none, .bool false]) w := by kernel_rfl
@[go_sem ↓] theorem asNo_sb (v : Value) (w : World) : (Instr.typeAssert (.iface 106 v) 77 102 true).run Tryz.prog w = .ok (.tuple #[.pointer none, .bool false]) w := by kernel_rfl
@[go_sem ↓] theorem asNo_sl (v : Value) (w : World) : (Instr.typeAssert (.iface 106 v) 77 104 true).run Tryz.prog w = .ok (.tuple #[.pointer none, .bool false]) w := by kernel_rfl
@[go_sem ↓] theorem asNo_sm (v : Value) (w : World) : (Instr.typeAssert (.iface 106 v) 77 105 true).run Tryz.prog w = .ok (.tuple #[.pointer none, .bool false]) w := by kernel_rfl

abbrev idV (x : Id32) : Value := .agg (idC x)
abbrev okId (_ : Id32) : Prop := True
abbrev IdSet (w : World) (b : Nat) (L : List Id32) : Prop := SetAt w b idV okId L
theorem zeroBoolV (w : World) : (zeroValue 4).run Tryz.prog w = .ok (.bool false) w := by kernel_rfl
section
variable {w : World} {b : Nat} {X : List Id32} {x : Id32}
theorem ihit (h : IdSet w b X) (hx : x ∈ X) : (Instr.lookup 75 (.map (some b)) (.agg (idC x)) false).run Tryz.prog w = .ok (.bool true) w := SetAt.hit (kv := idV) (ok := okId) h idKey Tryz.underlying75 trivial hx
theorem imiss (h : IdSet w b X) (hx : x ∉ X) : (Instr.lookup 75 (.map (some b)) (.agg (idC x)) false).run Tryz.prog w = .ok (.bool false) w := SetAt.miss (kv := idV) (ok := okId) h idKey Tryz.underlying75 zeroBoolV trivial hx
theorem iput (h : IdSet w b X) : ∃ w', (Instr.mapUpdate 75 (.map (some b)) (.agg (idC x)) (.bool true)).run Tryz.prog w = .ok () w' ∧ IdSet w' b (x :: X) ∧ Keep [b] w w' := SetAt.put h idKey Tryz.underlying75 trivial
theorem ilook (h : IdSet w b X) : (Instr.lookup 75 (.map (some b)) (.agg (idC x)) false).run Tryz.prog w = .ok (.bool (decide (x ∈ X))) w := by
  by_cases hx : x ∈ X
  · rw [decide_eq_true hx]; exact ihit h hx
  · rw [decide_eq_false hx]; exact imiss h hx
end

/-- What lies behind a pointer to a View: its topic, the ids that are folded, its state. -/
structure ViewAt (w : World) (g : Nat) (t : ByteArray) (b : Nat) (I : List Id32) (sv : Value) : Prop where
  blk : w.heap[g]? = some (.cells #[.string t, .map (some b), sv] 79 (0, 0))
  ids : IdSet w b I
section
variable {w w' : World} {g : Nat} {t : ByteArray} {b : Nat} {I : List Id32} {sv : Value}
theorem ViewAt.cell0 (h : ViewAt w g t b I sv) : w.cell? ⟨g, 0, none⟩ = some (.string t) := by rw [cell_of_row w g 0 _ _ _ h.blk]; rfl
theorem ViewAt.cell1 (h : ViewAt w g t b I sv) : w.cell? ⟨g, 1, none⟩ = some (.map (some b)) := by rw [cell_of_row w g 1 _ _ _ h.blk]; rfl
theorem ViewAt.cell2 (h : ViewAt w g t b I sv) : w.cell? ⟨g, 2, none⟩ = some sv := by rw [cell_of_row w g 2 _ _ _ h.blk]; rfl
theorem ViewAt.lt (h : ViewAt w g t b I sv) : g < w.heap.size := (Array.getElem?_eq_some_iff.1 h.blk).1
theorem ViewAt.ne (h : ViewAt w g t b I sv) : g ≠ b := by
  rintro rfl
  obtain ⟨M, es, clk, hm, _⟩ := h.ids
  have := h.blk.symm.trans hm.heap
  cases this
theorem ViewAt.kept {S : List Nat} (h : ViewAt w g t b I sv) (k : Keep S w w') (hg : g ∉ S) (hb : b ∉ S) : ViewAt w' g t b I sv := ⟨(k.block g h.lt hg).trans h.blk, h.ids.kept k hb⟩
theorem ViewAt.below (h : ViewAt w g t b I sv) (k : Below w.heap.size w w') : ViewAt w' g t b I sv := h.kept (Keep.of_below k) (by simp) (by simp)
end

theorem vnone_live (w : World) (g b : Nat) (h : w.cell? ⟨g, 1, none⟩ = some (.map (some b))) : Calls Tryz.prog 56 #[.pointer (some ⟨g, 0, none⟩)] w fun e w' => e = .returned (.bool false) ∧ w = w' := by
  have hn := fun r => run_eql_map_nil (P := Tryz.prog) w 75 39 4 r Tryz.underlying75
  go_enter Tryz.func56, Tryz.ntmps56
  go_wp2_with fail
  go_ret
  exact ⟨rfl, rfl⟩

theorem vhas (d : Id32) (w : World) (g : Nat) (t : ByteArray) (b : Nat) (I : List Id32) (sv : Value) (h : ViewAt w g t b I sv) :
    Calls Tryz.prog 25 #[.pointer (some ⟨g, 0, none⟩), .agg (idC d)] w fun e w' => e = .returned (.bool (decide (d ∈ I))) ∧ Below w.heap.size w w' := by
  have hB : Below w.heap.size w (w.alloc (.cells (idC d) 39)) := (Below.refl _ _).alloc (Nat.le_refl _) _
  have h1 := h.below hB
  have hr : rowAt (w.alloc (.cells (idC d) 39)) w.heap.size 0 32 = some (idC d) := by simp [go_sem]
  go_enter Tryz.func25, Tryz.ntmps25
  go_upto_region 1 with fail
  generalize w.alloc (.cells (idC d) 39) = W at *
  have hc := h1.cell1
  have hk : ∀ x : Subtype (Bel W), (Instr.lookup 75 (.map (some b)) (.agg (idC d)) false).run Tryz.prog x.1 = .ok (.bool (decide (d ∈ I))) x.1 := fun x => ilook (h1.ids.below x.2)
  obtain ⟨r, hrr⟩ : ∃ r, decide (d ∈ I) = r := ⟨_, rfl⟩
  rw [hrr] at hk
  have Hrr := Lib.hid hrr
  clear h h1 hrr
  refine wp_region_lex (Bel W) false (by kernel_rfl) (by kernel_rfl) (by kernel_rfl) (bel_drew W) ?_
  have hne := bel_some W
  have hS := bel_drew W
  have b1 := sub_cell hc; have b2 := sub_row hr
  repeat (refine wpLx_loose ?_ ?_; (focus (simp only [chainOp]; done)); intro K hK; go_simp; refine hK _ ?_; clear hK K)
  refine wpLx_chain ?_ ?_ ?_
  focus (exact hS)
  focus (simp only [chainOp]; done)
  intro K hK
  go_simp
  refine (vnone_live W.drew g b hc).mono ?_
  rintro e w' ⟨rfl, rfl⟩
  refine ⟨_, rfl, hS, hK _ _ ?_⟩
  clear hK K
  repeat (refine wpLx_loose ?_ ?_; (focus (simp only [chainOp]; done)); intro K hK; go_simp; refine hK _ ?_; clear hK K)
  refine wpLx_nil ?_
  intro hS
  go_wp2_with fail
  go_ret
  exact ⟨ret_bool (by rw [Hrr.out]), bel2 hB hS⟩

end Go.Proofs.YtgfpjjppeldhbaaGreatDoor

/- Bytes, written: package octet's Writer. -/
namespace Go.Proofs.YtgfpjjppeldhbaaGreatDoor
open Go.RowKit

/-! ### Appending a text to bytes of one's own -/
def byteR (c : UInt8) : Array Value := #[byteC c]
def bytesR (bs : List UInt8) : List (Array Value) := bs.map byteR
theorem bytesR_flat (bs : List UInt8) : (bytesR bs).flatMap Array.toList = bs.map byteC := by
  induction bs with
  | nil => rfl
  | cons b bs ih => simp only [bytesR, List.map_cons, List.flatMap_cons] at ih ⊢; rw [ih]; rfl
theorem strCells_eq (s : ByteArray) : Go.Lib.strCells s = s.data.toList.map byteC := rfl

theorem append_str {P : Program} {T U E : TypeId} {i : TypeInfo} (ht : P.underlying T = some (.slice E)) (hu : P.underlying U = some .string) (hi : P.info? E = some i) (hz : i.zero = some (.int .u8 0)) (hsize : i.size = 1) (hby : i.bytes = 1)
    {w : World} {B : Nat} {A : Option Addr} {n cap : Nat} {bs : List UInt8} (hown : Own w B E 1 A n cap (bytesR bs)) (s : ByteArray) (hbytes : n + s.size ≤ 140737488355328) (hB : B ≤ w.heap.size) (ty : TypeId) :
    ∃ A' cap' w', (Builtin.append_ #[T, U] ty #[.slice A n cap, .string s]).run P w = .ok (.slice A' (n + s.size) cap') w' ∧ Own w' B E 1 A' (n + s.size) cap' (bytesR (bs ++ s.data.toList)) ∧ Keep (blk A) w w' ∧ (∀ x ∈ blk A', x ∈ blk A ∨ w.heap.size ≤ x) := by
  have hrow := hown.row
  rw [bytesR_flat] at hrow
  have hml : n + s.size ≤ maxLen := by simp only [maxLen]; omega
  obtain ⟨v', w', hr, h2, h3, h4⟩ := Go.Lib.run_append_own_string (P := P) w B T U ty E i ht hu hi hz hsize hby _ n _ hrow s hml hbytes hB
  have hform : ∃ A' cap', v' = .slice A' (n + s.size) cap' := by
    rcases h2.2 with ⟨h0, h00⟩ | ⟨g, c', cur, hv, _⟩
    · exact ⟨none, 0, by rw [h0, h00]⟩
    · exact ⟨_, _, hv⟩
  obtain ⟨A', cap', rfl⟩ := hform
  have hb : (Value.slice A n cap).ownBlock = (A.map (·.block)) := by cases A <;> rfl
  have hk := Keep.grown h3
  rw [hb] at hk
  refine ⟨A', cap', w', hr, ⟨?_, ?_, ?_⟩, hk, ?_⟩
  · rw [bytesR_flat, List.map_append]
    rw [strCells_eq] at h2
    exact h2
  · have := hown.len
    simp only [bytesR, List.length_map, List.length_append] at this ⊢
    rw [this]; rfl
  · intro c hc
    simp only [bytesR, List.mem_map] at hc
    obtain ⟨b, _, rfl⟩ := hc
    rfl
  · rcases hrow.2 with ⟨h0, h00⟩ | ⟨g, c, cur, hv, hbg, hg, hnc, hcm, hcs, htake⟩
    · intro x hx
      right
      have hr1 : w.ownsRow w.heap.size E 1 (.slice A n cap) n (bs.map byteC) := ⟨hrow.1, .inl ⟨h0, h00⟩⟩
      obtain ⟨v2, w2, hr2, g2, _, _⟩ := Go.Lib.run_append_own_string (P := P) w w.heap.size T U ty E i ht hu hi hz hsize hby _ n _ hr1 s hml hbytes (Nat.le_refl _)
      rw [hr] at hr2
      injection hr2 with e1 e2
      subst e1; subst e2
      rcases g2.2 with ⟨k0, _⟩ | ⟨g, c', cur, hv, hbg, _⟩
      · injection k0 with k0; subst k0; simp [blk] at hx
      · injection hv with hv; subst hv
        have : x = g := by simpa [blk] using hx
        omega
    · injection hv with hA hc1 hc2
      subst hA; subst hc2
      by_cases hroom : n + s.size ≤ cap
      · have hcs' : cur.size = cap := by simpa using hcs
        have hr2 := Go.Lib.run_append_room_string (P := P) w T U ty E i ht hu hi hsize g n cap cur hg s hroom (by omega)
        rw [hr] at hr2
        injection hr2 with e1 e2
        injection e1 with e1
        subst e1
        intro x hx; exact .inl hx
      · have hxl : (bs.map byteC).length = n := by simpa using hrow.1
        have holds : ∀ j u, (bs.map byteC)[j]? = some u → w.cell? ((⟨g, 0, none⟩ : Addr).add j) = some u := hrow.cells (g := g) rfl
        have hr2 := Go.Lib.run_append_grow_string (P := P) w T U ty E i (.int .u8 0) ht hu hi hz ⟨g, 0, none⟩ n cap _ (by rw [hsize]; simpa using hxl) holds s (by omega) (by omega) (by rw [hby]; exact growslice_fits (by omega) (by omega))
        rw [hr] at hr2
        injection hr2 with e1 e2
        injection e1 with e1
        subst e1
        intro x hx
        right
        have : x = w.heap.size := by simpa [blk] using hx
        omega

theorem L_append_str {P : Program} {ops : Array Oper} {Q : Exit → Act → World → Prop} {a : Act} {w : World} {rest : List Oper} {dst : Option Tmp} {sl x : Operand} {ty : TypeId} {pos : String} {after : Array Edge} {T U E : TypeId} {i : TypeInfo} (ht : P.underlying T = some (.slice E)) (hu : P.underlying U = some .string) (hi : P.info? E = some i) (hz : i.zero = some (.int .u8 0)) (hsize : i.size = 1) (hby : i.bytes = 1)
    {B : Nat} {A : Option Addr} {n cap : Nat} {bs : List UInt8} {s : ByteArray} (hs : a.eval sl = .slice A n cap) (hown : Own w B E 1 A n cap (bytesR bs)) (hx : a.eval x = .string s) (hbytes : n + s.size ≤ 140737488355328) (hB : B ≤ w.heap.size)
    (h : ∀ A' cap' w', Own w' B E 1 A' (n + s.size) cap' (bytesR (bs ++ s.data.toList)) → Keep (blk A) w w' → (∀ x ∈ blk A', x ∈ blk A ∨ w.heap.size ≤ x) → wpList P ops Q rest (a.put dst (.slice A' (n + s.size) cap')) w') :
    wpList P ops Q ({ dst := dst, op := .call { callee := .builtin .append, args := #[sl, x], argTypes := #[T, U] }, type := ty, pos := pos, after := after, guard := none } :: rest) a w := by
  obtain ⟨A', cap', w', hr, h1, h2, h3⟩ := append_str ht hu hi hz hsize hby hown s hbytes hB ty
  exact L_of_append hs hx hr (h A' cap' w' h1 h2 h3)

structure Wr where
  b : Value
  bad : Int
  made : Bool
/-- Its cells. -/
def wrC (x : Wr) : Array Value := #[x.b] ++ #[.int .i64 x.bad] ++ #[.bool x.made]
@[simp] theorem wrC_size (x : Wr) : (wrC x).size = 3 := by simp [wrC]
@[go_sem] theorem wrC_g0 (x : Wr) : (wrC x)[0]? = some (x.b) := by first | (simp [wrC, Array.getElem?_append]; done) | (rw [show wrC x = ((#[] : Array Value)) ++ #[x.b] ++ (#[.int .i64 x.bad] ++ #[.bool x.made]) from by apply Array.ext'; simp [wrC]]; exact arr_at _ _ _ _ (by simp))
@[go_sem] theorem wrC_gg0 (x : Wr) (h : 0 < (wrC x).size) : (wrC x)[0]'h = x.b := Option.some.inj ((Array.getElem?_eq_getElem h).symm.trans (wrC_g0 x))
@[go_sem] theorem wrC_g1 (x : Wr) : (wrC x)[1]? = some (.int .i64 x.bad) := by first | (simp [wrC, Array.getElem?_append]; done) | (rw [show wrC x = (#[x.b]) ++ #[.int .i64 x.bad] ++ (#[.bool x.made]) from by apply Array.ext'; simp [wrC]]; exact arr_at _ _ _ _ (by simp))
@[go_sem] theorem wrC_gg1 (x : Wr) (h : 1 < (wrC x).size) : (wrC x)[1]'h = .int .i64 x.bad := Option.some.inj ((Array.getElem?_eq_getElem h).symm.trans (wrC_g1 x))
@[go_sem] theorem wrC_g2 (x : Wr) : (wrC x)[2]? = some (.bool x.made) := by first | (simp [wrC, Array.getElem?_append]; done) | (rw [show wrC x = (#[x.b] ++ #[.int .i64 x.bad]) ++ #[.bool x.made] ++ ((#[] : Array Value)) from by apply Array.ext'; simp [wrC]]; exact arr_at _ _ _ _ (by simp))
@[go_sem] theorem wrC_gg2 (x : Wr) (h : 2 < (wrC x).size) : (wrC x)[2]'h = .bool x.made := Option.some.inj ((Array.getElem?_eq_getElem h).symm.trans (wrC_g2 x))
@[go_sem] theorem wrC_all (x : Wr) : (wrC x).extract 0 3 = wrC x := by have := Array.extract_size (xs := wrC x); rwa [wrC_size] at this
theorem wrC_inj {x y : Wr} (h : wrC x = wrC y) : x = y := by
  have h0 := congrArg (fun a => a[0]?) h
  simp only [wrC_g0, Option.some.injEq] at h0
  have h1 := congrArg (fun a => a[1]?) h
  simp only [wrC_g1, Option.some.injEq, Value.int.injEq, true_and] at h1
  have h2 := congrArg (fun a => a[2]?) h
  simp only [wrC_g2, Option.some.injEq, Value.bool.injEq] at h2
  cases x; cases y; simp_all
theorem wrC_one (x : Wr) (hb : x.b.oneCell' = true) : ∀ u ∈ (wrC x).toList, u.oneCell' = true := by
  intro u hu
  simp only [wrC, Array.toList_append, List.mem_append] at hu
  rcases hu with (hu | hu) | hu
  · simp at hu; subst hu; exact hb
  · simp at hu; subst hu; rfl
  · simp at hu; subst hu; rfl
def wr0 : Wr := ⟨(.slice none 0 0), 0, false⟩
theorem infoWr : (Tryz.prog.info? 226).map (·.size) = some 3 := by kernel_rfl
@[go_sem ↓] theorem zeroWr_run (w : World) : (zeroValue 226).run Tryz.prog w = .ok (.agg (wrC wr0)) w := by
  have h : (Tryz.prog.info? 226).bind (·.zero) = some (.agg (wrC wr0)) := by kernel_rfl
  cases hi : Tryz.prog.info? 226 with
  | none => rw [hi] at h; cases h
  | some i =>
    rw [hi] at h
    have hz : i.zero = some (.agg (wrC wr0)) := h
    simp [zeroValue, typeInfo, hi, hz]
@[go_sem ↓] theorem loadWr_rw (a : Addr) : loadVar 226 a = ldS 226 a := rfl
@[go_sem ↓] theorem storeWr_rw (a : Addr) (v : Value) : storeVar 226 a v = stS 226 a v := rfl
@[go_sem] theorem loadWr_run (w : World) (g o : Nat) : (ldS 226 ⟨g, o, none⟩).run Tryz.prog w = match rowAt w g o 3 with | some cs => .ok (.agg cs) w | none => (loadVar 226 ⟨g, o, none⟩).run Tryz.prog w :=
  run_ldS Tryz.underlying226 rfl infoWr w g o
@[go_sem] theorem storeWr_run (w : World) (g : Nat) (hg : g = w.heap.size) (z : Array Value) (hz : z.size = 3) (x : Wr) (hb : x.b.oneCell' = true) (e : TypeId) : (stS 226 ⟨g, 0, none⟩ (.agg (wrC x))).run Tryz.prog (w.alloc (.cells z e)) = .ok () (w.alloc (.cells (wrC x) e)) :=
  hg ▸ run_stS_new infoWr w z (wrC x) hz (wrC_size x) (wrC_one x hb)
theorem fieldsWr : Tryz.prog.underlying 226 = some (.struct (Tryz.prog.fieldsOf 226)) := by kernel_rfl
theorem placesWr (w : World) : ((Tryz.prog.fieldsOf 226).mapM fun (f : Field) => do pure (f.offset, ← sizeOf f.type)).run Tryz.prog w = .ok #[(0, 1), (1, 1), (2, 1)] w := by kernel_rfl
@[go_sem ↓] theorem buildWr_rw (parts : Array (Nat × Value)) : Instr.build 226 parts = bdS 226 parts := rfl
@[go_sem] theorem buildWr (a0 : Value) (a1 : Int) (a2 : Bool) (k0 : (a0).cells = #[a0]) (w : World) : (bdS 226 #[(0, a0), (1, .int .i64 a1), (2, .bool a2)]).run Tryz.prog w = .ok (.agg (wrC ⟨a0, a1, a2⟩)) w := by
  refine run_build w fieldsWr _ (zeroWr_run w) _ (placesWr w) [(0, a0), (1, .int .i64 a1), (2, .bool a2)] _ ?_
  rw [show wrC wr0 = (#[] : Array Value) ++ #[(.slice none 0 0)] ++ (#[.int .i64 0] ++ (#[.bool false])) from by first | (simp [wrC, wr0, Array.append_assoc]; done) | (apply Array.ext'; simp [wrC, wr0])]
  rw [fill_step (off := 0) (size := 1) rfl (by simp) (by simp) (by simp [k0])]
  rw [show (#[] : Array Value) ++ (a0).cells ++ (#[.int .i64 0] ++ (#[.bool false])) = (#[a0]) ++ #[.int .i64 0] ++ (#[.bool false]) from by first | (simp [k0, Array.append_assoc]; done) | (apply Array.ext'; simp [k0]; done) | (apply Array.ext'; simp only [Array.toList_append, k0]; simp [Value.cells])]
  rw [fill_step (off := 1) (size := 1) rfl (by simp) (by simp) (by simp [Value.cells])]
  rw [show (#[a0]) ++ (Value.int .i64 a1).cells ++ (#[.bool false]) = (#[a0] ++ (#[.int .i64 a1])) ++ #[.bool false] ++ (#[] : Array Value) from by first | (simp [k0, Array.append_assoc]; done) | (apply Array.ext'; simp [k0]; done) | (apply Array.ext'; simp only [Array.toList_append, k0]; simp [Value.cells])]
  rw [fill_step (off := 2) (size := 1) rfl (by simp) (by simp) (by simp [Value.cells])]
  first | (simp [Instr.fill, wrC, Array.append_assoc, Value.cells]; done) | (simp only [Instr.fill, wrC, k0]; congr 1; apply Array.ext'; simp [Value.cells, k0]; done) | (simp only [Instr.fill, wrC, k0]; congr 1; done) | (simp only [Instr.fill, wrC, k0]; done)
@[go_sem] theorem buildWr_2 (a2 : Bool) (w : World) : (bdS 226 #[(2, .bool a2)]).run Tryz.prog w = .ok (.agg (wrC ⟨(.slice none 0 0), 0, a2⟩)) w := by
  refine run_build w fieldsWr _ (zeroWr_run w) _ (placesWr w) [(2, .bool a2)] _ ?_
  rw [show wrC wr0 = (#[(.slice none 0 0)] ++ (#[.int .i64 0])) ++ #[.bool false] ++ (#[] : Array Value) from by first | (simp [wrC, wr0, Array.append_assoc]; done) | (apply Array.ext'; simp [wrC, wr0])]
  rw [fill_step (off := 2) (size := 1) rfl (by simp) (by simp) (by simp [Value.cells])]
  first | (simp [Instr.fill, wrC, Array.append_assoc, Value.cells]; done) | (simp only [Instr.fill, wrC]; congr 1; apply Array.ext'; simp [Value.cells]; done) | (simp only [Instr.fill, wrC]; congr 1; done) | (simp only [Instr.fill, wrC]; done)

theorem einfoByte : ElemInfo Tryz.prog 37 5 1 1 :=
  .of (z := .int .u8 0) Tryz.underlying37 (by kernel_rfl) (by kernel_rfl) (by kernel_rfl) rfl (by omega)

theorem byteInfo : ∃ i, Tryz.prog.info? 5 = some i ∧ i.zero = some (.int .u8 0) ∧ i.size = 1 ∧ i.bytes = 1 := by
  have hz : (Tryz.prog.info? 5).bind (·.zero) = some (.int .u8 0) := by kernel_rfl
  have hs : (Tryz.prog.info? 5).map (·.size) = some 1 := by kernel_rfl
  have hb : (Tryz.prog.info? 5).map (·.bytes) = some 1 := by kernel_rfl
  cases hi : Tryz.prog.info? 5 with
  | none => rw [hi] at hz; cases hz
  | some i =>
    rw [hi] at hz hs hb
    exact ⟨i, rfl, hz, by simpa using hs, by simpa using hb⟩
/-- A writer that has the bytes bs, and no fault. -/
structure WrAt (w : World) (B g : Nat) (A : Option Addr) (cap : Nat) (bs : List UInt8) : Prop where
  heap : w.heap[g]? = some (.cells (wrC ⟨.slice A bs.length cap, 0, true⟩) 226 (0, 0))
  own : Own w B 5 1 A bs.length cap (bytesR bs)
  ne : g ∉ blk A
  base : B ≤ w.heap.size
theorem WrAt.lt {w : World} {B g : Nat} {A : Option Addr} {cap : Nat} {bs : List UInt8} (h : WrAt w B g A cap bs) : g < w.heap.size := (Array.getElem?_eq_some_iff.1 h.heap).1
theorem WrAt.cell {w : World} {B g : Nat} {A : Option Addr} {cap : Nat} {bs : List UInt8} (h : WrAt w B g A cap bs) :
    w.cell? ⟨g, 0, none⟩ = some (.slice A bs.length cap) ∧ w.cell? ⟨g, 1, none⟩ = some (.int .i64 0) ∧ w.cell? ⟨g, 2, none⟩ = some (.bool true) := by
  refine ⟨?_, ?_, ?_⟩ <;> rw [cell_of_row w g _ _ _ _ h.heap] <;> simp [go_sem]
theorem WrAt.kept {w w' : World} {B g : Nat} {A : Option Addr} {cap : Nat} {bs : List UInt8} {S : List Nat} (h : WrAt w B g A cap bs) (k : Keep S w w') (hg : g ∉ S) (hn : ∀ x ∈ blk A, x ∉ S) : WrAt w' B g A cap bs :=
  ⟨(k.block g h.lt hg).trans h.heap, h.own.kept k hn, h.ne, Nat.le_trans h.base k.size⟩
theorem WrAt.below {w w' : World} {B g : Nat} {A : Option Addr} {cap : Nat} {bs : List UInt8} (h : WrAt w B g A cap bs) (k : Below w.heap.size w w') : WrAt w' B g A cap bs := h.kept (Keep.of_below k) (by simp) (by simp)
/-- What a step of writing leaves. -/
def WStep (w : World) (B g : Nat) (A : Option Addr) (bs : List UInt8) (w' : World) : Prop :=
  ∃ A' cap', WrAt w' B g A' cap' bs ∧ Keep (g :: blk A) w w' ∧ ∀ x ∈ blk A', x ∈ blk A ∨ w.heap.size ≤ x

theorem wnew (w : World) : Calls Tryz.prog 79 #[] w fun e w' => e = .returned (.pointer (some ⟨w.heap.size, 0, none⟩)) ∧ WrAt w' (w.heap.size + 1) w.heap.size none 0 [] ∧ Below w.heap.size w w' := by
  go_enter Tryz.func79, Tryz.ntmps79
  go_wp2_with fail
  go_ret
  refine ⟨rfl, ⟨heap_alloc_new w _, Own.nil _ _ _ _, by simp [blk], by simp⟩, (Below.refl _ _).alloc (Nat.le_refl _) _⟩
theorem wnone (w : World) (g : Nat) (h : w.cell? ⟨g, 2, none⟩ = some (.bool true)) : Calls Tryz.prog 157 #[.pointer (some ⟨g, 0, none⟩)] w fun e w' => e = .returned (.bool false) ∧ w = w' := by
  go_enter Tryz.func157, Tryz.ntmps157
  go_wp2_with fail
  go_ret
  exact ⟨rfl, rfl⟩

theorem heap_setCell_same {w : World} {g : Nat} {c : Array Value} {T : TypeId} {fr : Nat × Nat} (h : w.heap[g]? = some (.cells c T fr)) (j : Nat) (u : Value) : (w.setCell ⟨g, j, none⟩ u).heap[g]? = some (.cells (c.setIfInBounds j u) T fr) := by
  obtain ⟨hlt, hg⟩ := Array.getElem?_eq_some_iff.1 h
  show (w.heap.modify g _)[g]? = _
  rw [Array.getElem?_modify]
  simp [h]
theorem wr_store {w w1 : World} {B g : Nat} {A A' : Option Addr} {cap cap' : Nat} {bs bs' : List UInt8} (h : WrAt w B g A cap bs) (hk : Keep (blk A) w w1) (hown : Own w1 B 5 1 A' bs'.length cap' (bytesR bs')) (hsub : ∀ x ∈ blk A', x ∈ blk A ∨ w.heap.size ≤ x) :
    WStep w B g A bs' (w1.setCell ⟨g, 0, none⟩ (.slice A' bs'.length cap')) := by
  have hg : w1.heap[g]? = some (.cells (wrC ⟨.slice A bs.length cap, 0, true⟩) 226 (0, 0)) := (hk.block g h.lt h.ne).trans h.heap
  have hne : g ∉ blk A' := not_later h.ne h.lt hsub
  have hs : Keep [g] w1 (w1.setCell ⟨g, 0, none⟩ (.slice A' bs'.length cap')) := Keep.setCell w1 ⟨g, 0, none⟩ _
  refine ⟨A', cap', ⟨?_, hown.kept hs (fun x hx e => hne (by simp at e; rw [← e]; exact hx)), hne, ?_⟩, ?_, hsub⟩
  · rw [heap_setCell_same hg]
    simp [wrC]
  · have h1 := hk.size; have h2 := hs.size; have h3 := h.base; omega
  · exact Keep.trans (hk.mono (S' := g :: blk A) (fun x hx => .inl (by simp [hx]))) hs (fun x hx => .inl (by simp at hx; simp [hx]))
theorem wr_facts {w w1 : World} {B g : Nat} {A : Option Addr} {cap : Nat} {bs : List UInt8} (h : WrAt w B g A cap bs) (hk : Keep (blk A) w w1) :
    (∀ j, w1.frozen? ⟨g, j, none⟩ = false) ∧ w1.cell? ⟨g, 0, none⟩ = some (.slice A bs.length cap) ∧ w1.cell? ⟨g, 1, none⟩ = some (.int .i64 0) := by
  have hg : w1.heap[g]? = some (.cells (wrC ⟨.slice A bs.length cap, 0, true⟩) 226 (0, 0)) := (hk.block g h.lt h.ne).trans h.heap
  refine ⟨fun j => by simp [World.frozen?, hg], ?_, ?_⟩ <;> rw [cell_of_row w1 g _ _ _ _ hg] <;> simp [go_sem]

set_option maxRecDepth 100000 in
set_option maxHeartbeats 1000000 in
theorem wraw (w : World) (B g : Nat) (A : Option Addr) (cap : Nat) (bs : List UInt8) (h : WrAt w B g A cap bs) (s : ByteArray) (hs : bs.length + s.size ≤ 1000000000) :
    Calls Tryz.prog 81 #[.pointer (some ⟨g, 0, none⟩), .string s] w fun e w' => e = .returned (.pointer (some ⟨g, 0, none⟩)) ∧ WStep w B g A (bs ++ s.data.toList) w' := by
  obtain ⟨c0, c1, c2⟩ := h.cell
  go_enter Tryz.func81, Tryz.ntmps81
  go_wp2_with fail
  refine (wnone _ _ c2).mono ?_; rintro e w' ⟨rfl, rfl⟩
  obtain ⟨i, i1, i2, i3, i4⟩ := byteInfo
  have hown := h.own
  have hb := h.base
  go_wp2_with (at_builtin; refine L_append_str Tryz.underlying37 Tryz.underlying9 i1 i2 i3 i4 rfl hown rfl (by omega) hb ?_; intro A' cap' w' hown' hk hsub; obtain ⟨f0, d0, _⟩ := wr_facts h hk; have f0 := f0 0)
  go_ret
  have e : (bs ++ s.data.toList).length = bs.length + s.size := by rw [List.length_append]; rfl
  have hw := wr_store h hk (bs' := bs ++ s.data.toList) (cap' := cap') (by rw [e]; exact hown') hsub
  rw [e] at hw
  exact ⟨rfl, hw⟩

theorem wfail_d (g e : Nat) (u : FrameMode) (w : World) (hb : w.cell? ⟨g, 1, none⟩ = some (.int .i64 0)) (he : w.cell? ⟨e, 0, none⟩ = some (.int .i64 0)) (hz : w.frozen? ⟨g, 1, none⟩ = false) :
    CallsD Tryz.prog 158 #[.pointer (some ⟨g, 0, none⟩), .pointer (some ⟨e, 0, none⟩)] u w fun en u' w' => u' = u ∧ (en = .returned (.tuple #[]) ∧ w' = w.setCell ⟨g, 1, none⟩ (.int .i64 0)) := by
  go_enter_d Tryz.func158, Tryz.ntmps158
  go_wp2
  go_end0
  exact ⟨rfl, rfl⟩

theorem obits (n : Int) (w : World) (hn : n = 1 ∨ n = 2 ∨ n = 4) : Calls Tryz.prog 159 #[.int .i64 n] w fun e w' => e = .returned (.int .i64 (8 * n)) ∧ w = w' := by
  rcases hn with rfl | rfl | rfl
  · go_enter Tryz.func159, Tryz.ntmps159
    go_wp2_with fail
    go_ret
    exact ⟨rfl, rfl⟩
  · go_enter Tryz.func159, Tryz.ntmps159
    go_wp2_with fail
    go_ret
    exact ⟨rfl, rfl⟩
  · go_enter Tryz.func159, Tryz.ntmps159
    go_wp2_with fail
    go_ret
    exact ⟨rfl, rfl⟩

/-- A number's bytes, the greatest first. -/
def beL : Nat → Nat → List UInt8
  | 0, _ => []
  | m + 1, n => UInt8.ofNat (n / 256 ^ m) :: beL m n
theorem beL_length : ∀ m n, (beL m n).length = m
  | 0, _ => rfl
  | m + 1, n => by simp [beL, beL_length m n]
theorem wstep_trans {w w1 w2 : World} {B g : Nat} {A A1 : Option Addr} {cap1 : Nat} {bs1 bs2 : List UInt8} (h1 : WrAt w1 B g A1 cap1 bs1) (hk : Keep (g :: blk A) w w1) (hsub : ∀ x ∈ blk A1, x ∈ blk A ∨ w.heap.size ≤ x) (h : WStep w1 B g A1 bs2 w2) : WStep w B g A bs2 w2 := by
  obtain ⟨A2, cap2, h2, hk2, hsub2⟩ := h
  refine ⟨A2, cap2, h2, Keep.trans hk hk2 (fun x hx => ?_), fun x hx => ?_⟩
  · rcases List.mem_cons.1 hx with rfl | hx
    · left; simp
    · rcases hsub x hx with h | h
      · left; simp [h]
      · right; exact h
  · rcases hsub2 x hx with h | h
    · exact hsub x h
    · right; have := hk.size; omega

theorem wr_bad {w : World} {B g : Nat} {A : Option Addr} {cap : Nat} {bs : List UInt8} (h : WrAt w B g A cap bs) : WStep w B g A bs (w.setCell ⟨g, 1, none⟩ (.int .i64 0)) := by
  have hs : Keep [g] w (w.setCell ⟨g, 1, none⟩ (.int .i64 0)) := Keep.setCell w ⟨g, 1, none⟩ _
  refine ⟨A, cap, ⟨?_, h.own.kept hs (fun x hx e => h.ne (by simp at e; rw [← e]; exact hx)), h.ne, Nat.le_trans h.base hs.size⟩, hs.mono (fun x hx => .inl (by simp at hx; simp [hx])), fun x hx => .inl hx⟩
  rw [heap_setCell_same h.heap]
  simp [wrC]

set_option maxRecDepth 100000 in
set_option maxHeartbeats 4000000 in
theorem wnum (w : World) (B g : Nat) (A : Option Addr) (cap : Nat) (bs : List UInt8) (h : WrAt w B g A cap bs) (n M : Nat) (hM : M = 1 ∨ M = 2 ∨ M = 4) (hn : n < 256 ^ M) (hs : bs.length + M ≤ 1000000000) :
    Calls Tryz.prog 80 #[.pointer (some ⟨g, 0, none⟩), .int .i64 n, .int .i64 M] w fun e w' => e = .returned (.pointer (some ⟨g, 0, none⟩)) ∧ WStep w B g A (bs ++ beL M n) w' := by
  obtain ⟨c0, c1, c2⟩ := h.cell
  have hp : (256 : Nat) ^ M = 2 ^ (8 * M) := by rw [show (256 : Nat) = 2 ^ 8 from rfl, ← Nat.pow_mul]
  have hsh : ((n : Int) / 2 ^ (8 * M) != 0) = false := by
    have h1 : n / 2 ^ (8 * M) = 0 := Nat.div_eq_of_lt (by rw [← hp]; exact hn)
    have h2 : ((n / 2 ^ (8 * M) : Nat) : Int) = (n : Int) / 2 ^ (8 * M) := by simp
    rw [← h2, h1]; rfl
  have hbw : Below w.heap.size w (w.alloc (.cells #[.int .i64 0] 28)) := (Below.refl _ _).alloc (Nat.le_refl _) _
  have hw1 := h.below hbw
  have hA : ∀ x ∈ blk A, x < w.heap.size := fun x hx => (h.own.at_base hx).2
  have hgl := h.lt
  have hz : (8 * (M : Int) == 0) = false := by rw [beq_eq_false_iff_ne]; omega
  go_enter_defers Tryz.func80, Tryz.ntmps80
  go_wp2_with fail
  refine (wnone _ _ c2).mono ?_; rintro e w' ⟨rfl, rfl⟩
  go_wp2_with fail
  refine (obits M _ (by omega)).mono ?_; rintro e w' ⟨rfl, rfl⟩
  go_wp2_with fail
  have he0 : (w.alloc (.cells #[.int .i64 0] 28)).cell? ⟨w.heap.size, 0, none⟩ = some (.int .i64 0) := by simp [go_sem]
  clear hsh hbw c0 c1 c2 hn
  generalize hW : w.alloc (.cells #[.int .i64 0] 28) = W at *
  go_loopw [8] (fun kv wr => ∃ (j : Nat) (pre : List UInt8), j ≤ M ∧ pre.length + j = M ∧ kv = .int .i64 (8 * (j : Int)) ∧ Hid (pre ++ beL j n = beL M n) ∧ WStep W B g A (bs ++ pre) wr) (fun kv _ => (intOf kv).toNat)
  case atStart => exact ⟨M, [], Nat.le_refl _, by simp, rfl, rfl, A, cap, by simpa using hw1, Keep.refl _ _, fun x hx => .inl hx⟩
  case round =>
    obtain ⟨j, pre, hj, hpl, rfl, hpre, A1, cap1, hwr, hk, hsub⟩ := hrel
    have Hsub := Lib.hid hsub
    by_cases hj0 : j = 0
    · subst hj0
      have he1 : wr.cell? ⟨w.heap.size, 0, none⟩ = some (.int .i64 0) := (hk.cell (p := ⟨w.heap.size, 0, none⟩) (by rw [← hW]; simp) (by
        simp only [List.mem_cons, not_or]
        exact ⟨by omega, fun hx => by have := hA _ hx; omega⟩)).trans he0
      obtain ⟨f1, _, d1⟩ := wr_facts hwr (Keep.refl _ _)
      have f1 := f1 1
      have hpe : pre = beL M n := by have := hpre.out; simpa [beL] using this
      subst hpe
      go_wp2_with fail
      refine leaves_cons (f := 158) (args := #[.pointer (some ⟨g, 0, none⟩), .pointer (some ⟨w.heap.size, 0, none⟩)]) (by simp) (by simp [go_sem]) ?_
      refine (wfail_d g w.heap.size .returning _ d1 he1 f1).mono ?_
      rintro e u' w'' ⟨rfl, rfl, rfl⟩
      refine ⟨_, results_tmp rfl _ _ _, rfl, ?_⟩
      have h0 : Keep [] w W := by rw [← hW]; exact Keep.alloc _ _
      exact wstep_trans hw1 (h0.mono (by simp)) (fun x hx => .inl hx) (wstep_trans hwr hk Hsub.out (wr_bad hwr))
    · obtain ⟨j, rfl⟩ : ∃ j', j = j' + 1 := ⟨j - 1, by omega⟩
      have e8 : 8 * ((j : Int) + 1) - 8 = ((8 * j : Nat) : Int) := by omega
      obtain ⟨c0, _, _⟩ := hwr.cell
      have hwlt := hwr.lt
      obtain ⟨c, hc⟩ : ∃ c, UInt8.ofNat (n / 256 ^ j) = c := ⟨_, rfl⟩
      have eb : IntKind.u8.wrap ((n : Int) / 2 ^ (8 * (j : Int)).toNat) = ((c.toNat : Nat) : Int) := by
        rw [← hc]
        have h1 : (8 * (j : Int)).toNat = 8 * j := by omega
        have h2 : (256 : Nat) ^ j = 2 ^ (8 * j) := by rw [show (256 : Nat) = 2 ^ 8 from rfl, ← Nat.pow_mul]
        have h3 : ((n / 2 ^ (8 * j) : Nat) : Int) = (n : Int) / 2 ^ (8 * j) := by simp
        rw [h1, ← h3, h2]
        simp [IntKind.wrap, IntKind.signed, IntKind.bits]
      go_upto_region 8 with fail

      refine wp_region_lexf (Kp (blk A1) wr) false (by kernel_rfl) (by kernel_rfl) (by kernel_rfl) (by kernel_rfl) (kp_drew (blk A1) wr) ?_
      have hne := kp_some (blk A1) wr
      have hS := kp_drew (blk A1) wr
      have b1 := ksub_cell c0 hwr.ne
      repeat (refine wpLx_loose ?_ ?_; (focus (simp only [chainOp]; done)); intro K hK; go_simp; refine hK _ ?_; clear hK K)
      refine wpLx_chain ?_ ?_ ?_
      focus (exact hS)
      focus (simp only [chainOp]; done)
      intro K hK
      go_simp
      refine step_keep (Keep.trans (Keep.trans (Keep.refl (blk A1) wr) (Keep.alloc wr _) (by simp)) (Keep.drew _) (by simp)) (fun hS2 => ?_)
      refine hK _ _ ?_
      clear hK K
      have hk0 : Keep [] wr (wr.alloc (.cells #[.int .u8 c.toNat] 5)).drew := Keep.trans (Keep.alloc wr _) (Keep.drew _) (by simp)
      have hownr := hwr.own.kept hk0 (by simp)
      have hrow2 : rowAt (wr.alloc (.cells #[.int .u8 c.toNat] 5)).drew wr.heap.size 0 1 = some (byteR c) := by simp [go_sem, byteR, byteC]
      have hlen0 : (bs ++ pre).length = bs.length + pre.length := List.length_append
      rw [hlen0] at hownr
      have hB1 := hwr.base
      refine Lx_append einfoByte rfl hownr rfl hrow2 (by simp [byteR, byteC]; rfl) (by omega) (by omega) (by simp; omega) ?_
      intro A2 cap2 w2 hown2 hk2 hsub2
      have hk3 : Keep (blk A1) wr w2 := Keep.trans (hk0.mono (S' := blk A1) (by simp)) hk2 (fun x hx => .inl hx)
      refine step_keep hk3 (fun hS3 => ?_)
      repeat (refine wpLx_loose ?_ ?_; (focus (simp only [chainOp]; done)); intro K hK; go_simp; refine hK _ ?_; clear hK K)
      obtain ⟨f0, d0, _⟩ := wr_facts hwr hk3
      have f0 := f0 0
      refine wpLx_end ?_ ?_
      focus (simp only [chainOp]; done)
      intro K hK
      go_simp
      refine hK _ _ ?_
      clear hK K
      have hl2 : (bs ++ (pre ++ [c])).length = bs.length + pre.length + 1 := by simp [Nat.add_assoc]
      have hst := wr_store hwr hk3 (bs' := bs ++ (pre ++ [c])) (A' := A2) (cap' := cap2) (by rw [hl2, ← List.append_assoc]; simpa [bytesR] using hown2) (fun x hx => by
        rcases hsub2 x hx with h | h
        · exact .inl h
        · right; simp at h; omega)
      rw [hl2] at hst
      have hst2 := wstep_trans hwr hk Hsub.out hst
      have Hst := Lib.hid hst2
      clear hst hst2 hS hS2 hS3 b1 hne f0 d0
      go_wp2_with fail
      go_roundw
      case rel => exact ⟨j, pre ++ [c], by omega, by simp; omega, by go_num, (show (pre ++ [c]) ++ beL j n = beL M n by rw [← hpre.out]; simp [beL, hc]), Hst.out⟩
      case measure => simp [intOf]; omega

theorem own_string {w : World} {B : Nat} {A : Option Addr} {n cap : Nat} {bs : List UInt8} (h : Own w B 5 1 A n cap (bytesR bs)) (hn : n = bs.length) :
    (convert 37 9 (.slice A n cap)).run Tryz.prog w = .ok (.string ⟨bs.toArray⟩) w := by
  subst hn
  rcases h.addr with rfl | ⟨g, rfl⟩
  · have h0 : bs = [] := by
      rcases h.row.2 with ⟨_, h0⟩ | ⟨g, c, cur, hv, _⟩
      · exact List.eq_nil_of_length_eq_zero h0
      · cases hv
    subst h0
    exact Go.Lib.run_convert_nil_bytes w _ _ _ _ Tryz.underlying37 Tryz.underlying5 Tryz.underlying9
  · refine run_convert_bytes_back w _ _ _ _ _ _ Tryz.underlying37 Tryz.underlying5 Tryz.underlying9 (fun j hj => ?_)
    have hrow := h.row
    rw [bytesR_flat] at hrow
    have := hrow.cells (g := g) rfl j (byteC bs[j]) (by simp [hj])
    exact this

set_option maxHeartbeats 1000000 in
theorem wdone (w : World) (B g : Nat) (A : Option Addr) (cap : Nat) (bs : List UInt8) (h : WrAt w B g A cap bs) :
    Calls Tryz.prog 82 #[.pointer (some ⟨g, 0, none⟩)] w fun e w' => e = .returned (.tuple #[.string ⟨bs.toArray⟩, .int .i64 0]) ∧ w = w' := by
  obtain ⟨c0, c1, c2⟩ := h.cell
  have hs := own_string h.own rfl
  go_enter Tryz.func82, Tryz.ntmps82
  go_wp2_with fail
  refine (wnone _ _ c2).mono ?_; rintro e w' ⟨rfl, rfl⟩
  go_wp2_with fail
  go_ret2
  exact ⟨rfl, rfl⟩

end Go.Proofs.YtgfpjjppeldhbaaGreatDoor

/- Package octet: the Reader. -/
namespace Go.Proofs.YtgfpjjppeldhbaaGreatDoor
open Go.RowKit

structure Rd where
  s : ByteArray
  p : Int
  bad : Int
  made : Bool
/-- Its cells. -/
def rdC (x : Rd) : Array Value := #[.string x.s] ++ #[.int .i64 x.p] ++ #[.int .i64 x.bad] ++ #[.bool x.made]
@[simp] theorem rdC_size (x : Rd) : (rdC x).size = 4 := by simp [rdC]
@[go_sem] theorem rdC_g0 (x : Rd) : (rdC x)[0]? = some (.string x.s) := by first | (simp [rdC, Array.getElem?_append]; done) | (rw [show rdC x = ((#[] : Array Value)) ++ #[.string x.s] ++ (#[.int .i64 x.p] ++ #[.int .i64 x.bad] ++ #[.bool x.made]) from by apply Array.ext'; simp [rdC]]; exact arr_at _ _ _ _ (by simp))
@[go_sem] theorem rdC_gg0 (x : Rd) (h : 0 < (rdC x).size) : (rdC x)[0]'h = .string x.s := Option.some.inj ((Array.getElem?_eq_getElem h).symm.trans (rdC_g0 x))
@[go_sem] theorem rdC_g1 (x : Rd) : (rdC x)[1]? = some (.int .i64 x.p) := by first | (simp [rdC, Array.getElem?_append]; done) | (rw [show rdC x = (#[.string x.s]) ++ #[.int .i64 x.p] ++ (#[.int .i64 x.bad] ++ #[.bool x.made]) from by apply Array.ext'; simp [rdC]]; exact arr_at _ _ _ _ (by simp))
@[go_sem] theorem rdC_gg1 (x : Rd) (h : 1 < (rdC x).size) : (rdC x)[1]'h = .int .i64 x.p := Option.some.inj ((Array.getElem?_eq_getElem h).symm.trans (rdC_g1 x))
@[go_sem] theorem rdC_g2 (x : Rd) : (rdC x)[2]? = some (.int .i64 x.bad) := by first | (simp [rdC, Array.getElem?_append]; done) | (rw [show rdC x = (#[.string x.s] ++ #[.int .i64 x.p]) ++ #[.int .i64 x.bad] ++ (#[.bool x.made]) from by apply Array.ext'; simp [rdC]]; exact arr_at _ _ _ _ (by simp))
@[go_sem] theorem rdC_gg2 (x : Rd) (h : 2 < (rdC x).size) : (rdC x)[2]'h = .int .i64 x.bad := Option.some.inj ((Array.getElem?_eq_getElem h).symm.trans (rdC_g2 x))
@[go_sem] theorem rdC_g3 (x : Rd) : (rdC x)[3]? = some (.bool x.made) := by first | (simp [rdC, Array.getElem?_append]; done) | (rw [show rdC x = (#[.string x.s] ++ #[.int .i64 x.p] ++ #[.int .i64 x.bad]) ++ #[.bool x.made] ++ ((#[] : Array Value)) from by apply Array.ext'; simp [rdC]]; exact arr_at _ _ _ _ (by simp))
@[go_sem] theorem rdC_gg3 (x : Rd) (h : 3 < (rdC x).size) : (rdC x)[3]'h = .bool x.made := Option.some.inj ((Array.getElem?_eq_getElem h).symm.trans (rdC_g3 x))
@[go_sem] theorem rdC_all (x : Rd) : (rdC x).extract 0 4 = rdC x := by have := Array.extract_size (xs := rdC x); rwa [rdC_size] at this
theorem rdC_inj {x y : Rd} (h : rdC x = rdC y) : x = y := by
  have h0 := congrArg (fun a => a[0]?) h
  simp only [rdC_g0, Option.some.injEq, Value.string.injEq] at h0
  have h1 := congrArg (fun a => a[1]?) h
  simp only [rdC_g1, Option.some.injEq, Value.int.injEq, true_and] at h1
  have h2 := congrArg (fun a => a[2]?) h
  simp only [rdC_g2, Option.some.injEq, Value.int.injEq, true_and] at h2
  have h3 := congrArg (fun a => a[3]?) h
  simp only [rdC_g3, Option.some.injEq, Value.bool.injEq] at h3
  cases x; cases y; simp_all
theorem rdC_one (x : Rd) : ∀ u ∈ (rdC x).toList, u.oneCell' = true := by
  intro u hu
  simp only [rdC, Array.toList_append, List.mem_append] at hu
  rcases hu with ((hu | hu) | hu) | hu
  · simp at hu; subst hu; rfl
  · simp at hu; subst hu; rfl
  · simp at hu; subst hu; rfl
  · simp at hu; subst hu; rfl
def rd0 : Rd := ⟨⟨#[]⟩, 0, 0, false⟩
theorem Rd_ext {x y : Rd} (h : x.s = y.s ∧ x.p = y.p ∧ x.bad = y.bad ∧ x.made = y.made) : x = y := by cases x; cases y; simp_all
instance : DecidableEq Rd := fun x y => if h : x.s = y.s ∧ x.p = y.p ∧ x.bad = y.bad ∧ x.made = y.made then isTrue (Rd_ext h) else isFalse (fun e => h (by subst e; simp))
theorem infoRd : (Tryz.prog.info? 234).map (·.size) = some 4 := by kernel_rfl
@[go_sem ↓] theorem zeroRd_run (w : World) : (zeroValue 234).run Tryz.prog w = .ok (.agg (rdC rd0)) w := by
  have h : (Tryz.prog.info? 234).bind (·.zero) = some (.agg (rdC rd0)) := by kernel_rfl
  cases hi : Tryz.prog.info? 234 with
  | none => rw [hi] at h; cases h
  | some i =>
    rw [hi] at h
    have hz : i.zero = some (.agg (rdC rd0)) := h
    simp [zeroValue, typeInfo, hi, hz]
@[go_sem ↓] theorem loadRd_rw (a : Addr) : loadVar 234 a = ldS 234 a := rfl
@[go_sem ↓] theorem storeRd_rw (a : Addr) (v : Value) : storeVar 234 a v = stS 234 a v := rfl
@[go_sem] theorem loadRd_run (w : World) (g o : Nat) : (ldS 234 ⟨g, o, none⟩).run Tryz.prog w = match rowAt w g o 4 with | some cs => .ok (.agg cs) w | none => (loadVar 234 ⟨g, o, none⟩).run Tryz.prog w :=
  run_ldS Tryz.underlying234 rfl infoRd w g o
@[go_sem] theorem storeRd_run (w : World) (g : Nat) (hg : g = w.heap.size) (z : Array Value) (hz : z.size = 4) (x : Rd) (e : TypeId) : (stS 234 ⟨g, 0, none⟩ (.agg (rdC x))).run Tryz.prog (w.alloc (.cells z e)) = .ok () (w.alloc (.cells (rdC x) e)) :=
  hg ▸ run_stS_new infoRd w z (rdC x) hz (rdC_size x) (rdC_one x)
theorem fieldsRd : Tryz.prog.underlying 234 = some (.struct (Tryz.prog.fieldsOf 234)) := by kernel_rfl
theorem placesRd (w : World) : ((Tryz.prog.fieldsOf 234).mapM fun (f : Field) => do pure (f.offset, ← sizeOf f.type)).run Tryz.prog w = .ok #[(0, 1), (1, 1), (2, 1), (3, 1)] w := by kernel_rfl
@[go_sem ↓] theorem buildRd_rw (parts : Array (Nat × Value)) : Instr.build 234 parts = bdS 234 parts := rfl
@[go_sem] theorem buildRd (a0 : ByteArray) (a1 : Int) (a2 : Int) (a3 : Bool) (w : World) : (bdS 234 #[(0, .string a0), (1, .int .i64 a1), (2, .int .i64 a2), (3, .bool a3)]).run Tryz.prog w = .ok (.agg (rdC ⟨a0, a1, a2, a3⟩)) w := by
  refine run_build w fieldsRd _ (zeroRd_run w) _ (placesRd w) [(0, .string a0), (1, .int .i64 a1), (2, .int .i64 a2), (3, .bool a3)] _ ?_
  rw [show rdC rd0 = (#[] : Array Value) ++ #[.string ⟨#[]⟩] ++ (#[.int .i64 0] ++ (#[.int .i64 0] ++ (#[.bool false]))) from by first | (simp [rdC, rd0, Array.append_assoc]; done) | (apply Array.ext'; simp [rdC, rd0])]
  rw [fill_step (off := 0) (size := 1) rfl (by simp) (by simp) (by simp [Value.cells])]
  rw [show (#[] : Array Value) ++ (Value.string a0).cells ++ (#[.int .i64 0] ++ (#[.int .i64 0] ++ (#[.bool false]))) = (#[.string a0]) ++ #[.int .i64 0] ++ (#[.int .i64 0] ++ (#[.bool false])) from by first | (simp [Value.cells, Array.append_assoc]; done) | (apply Array.ext'; simp [Value.cells]; done) | (apply Array.ext'; simp only [Array.toList_append]; simp [Value.cells])]
  rw [fill_step (off := 1) (size := 1) rfl (by simp) (by simp) (by simp [Value.cells])]
  rw [show (#[.string a0]) ++ (Value.int .i64 a1).cells ++ (#[.int .i64 0] ++ (#[.bool false])) = (#[.string a0] ++ (#[.int .i64 a1])) ++ #[.int .i64 0] ++ (#[.bool false]) from by first | (simp [Value.cells, Array.append_assoc]; done) | (apply Array.ext'; simp [Value.cells]; done) | (apply Array.ext'; simp only [Array.toList_append]; simp [Value.cells])]
  rw [fill_step (off := 2) (size := 1) rfl (by simp) (by simp) (by simp [Value.cells])]
  rw [show (#[.string a0] ++ (#[.int .i64 a1])) ++ (Value.int .i64 a2).cells ++ (#[.bool false]) = (#[.string a0] ++ (#[.int .i64 a1] ++ (#[.int .i64 a2]))) ++ #[.bool false] ++ (#[] : Array Value) from by first | (simp [Value.cells, Array.append_assoc]; done) | (apply Array.ext'; simp [Value.cells]; done) | (apply Array.ext'; simp only [Array.toList_append]; simp [Value.cells])]
  rw [fill_step (off := 3) (size := 1) rfl (by simp) (by simp) (by simp [Value.cells])]
  first | (simp [Instr.fill, rdC, Array.append_assoc, Value.cells]; done) | (simp only [Instr.fill, rdC]; congr 1; apply Array.ext'; simp [Value.cells]; done) | (simp only [Instr.fill, rdC]; congr 1; done) | (simp only [Instr.fill, rdC]; done)
@[go_sem] theorem buildRd_0_3 (a0 : ByteArray) (a3 : Bool) (w : World) : (bdS 234 #[(0, .string a0), (3, .bool a3)]).run Tryz.prog w = .ok (.agg (rdC ⟨a0, 0, 0, a3⟩)) w := by
  refine run_build w fieldsRd _ (zeroRd_run w) _ (placesRd w) [(0, .string a0), (3, .bool a3)] _ ?_
  rw [show rdC rd0 = (#[] : Array Value) ++ #[.string ⟨#[]⟩] ++ (#[.int .i64 0] ++ (#[.int .i64 0] ++ (#[.bool false]))) from by first | (simp [rdC, rd0, Array.append_assoc]; done) | (apply Array.ext'; simp [rdC, rd0])]
  rw [fill_step (off := 0) (size := 1) rfl (by simp) (by simp) (by simp [Value.cells])]
  rw [show (#[] : Array Value) ++ (Value.string a0).cells ++ (#[.int .i64 0] ++ (#[.int .i64 0] ++ (#[.bool false]))) = (#[.string a0] ++ (#[.int .i64 0] ++ (#[.int .i64 0]))) ++ #[.bool false] ++ (#[] : Array Value) from by first | (simp [Value.cells, Array.append_assoc]; done) | (apply Array.ext'; simp [Value.cells]; done) | (apply Array.ext'; simp only [Array.toList_append]; simp [Value.cells])]
  rw [fill_step (off := 3) (size := 1) rfl (by simp) (by simp) (by simp [Value.cells])]
  first | (simp [Instr.fill, rdC, Array.append_assoc, Value.cells]; done) | (simp only [Instr.fill, rdC]; congr 1; apply Array.ext'; simp [Value.cells]; done) | (simp only [Instr.fill, rdC]; congr 1; done) | (simp only [Instr.fill, rdC]; done)

/-! ### What is read, as lists -/
def mkB (l : List UInt8) : ByteArray := ⟨l.toArray⟩
def rawV (n : Nat) (l : List UInt8) (e : Int) : List UInt8 := if e = 0 ∧ n ≤ l.length then l.take n else []
def rawL (n : Nat) (l : List UInt8) (e : Int) : List UInt8 := if e = 0 ∧ n ≤ l.length then l.drop n else l
def rawE (n : Nat) (l : List UInt8) (e : Int) : Int := if e = 0 then (if n ≤ l.length then 0 else 2) else e
def beN (l : List UInt8) : Nat := l.foldl (fun n c => 256 * n + c.toNat) 0
def endE (l : List UInt8) (e : Int) : Int := if e = 0 then (if l = [] then 0 else 4) else e

theorem beN_snoc (l : List UInt8) (c : UInt8) : beN (l ++ [c]) = 256 * beN l + c.toNat := by simp [beN]
theorem foldl_lt : ∀ (l : List UInt8) (a : Nat), l.foldl (fun n c => 256 * n + c.toNat) a < (a + 1) * 256 ^ l.length
  | [], a => by simp
  | c :: l, a => by
    have h := foldl_lt l (256 * a + c.toNat)
    have hc := c.toNat_lt
    simp only [List.foldl_cons, List.length_cons]
    refine Nat.lt_of_lt_of_le h ?_
    rw [Nat.pow_succ, Nat.mul_comm (256 ^ l.length) 256, ← Nat.mul_assoc]
    refine Nat.mul_le_mul_right _ ?_
    omega
theorem beN_lt (l : List UInt8) : beN l < 256 ^ l.length := by have := foldl_lt l 0; simpa [beN] using this
theorem rawV_length (n : Nat) (l : List UInt8) (e : Int) : (rawV n l e).length ≤ n := by unfold rawV; split <;> simp; omega

/-- A reader that has the bytes l left, and the fault e. -/
def RdAt (w : World) (g : Nat) (l : List UInt8) (e : Int) : Prop :=
  ∃ (s : ByteArray) (a : Nat), a ≤ s.size ∧ s.size ≤ 9223372036854775807 ∧ w.heap[g]? = some (.cells (rdC ⟨s, a, e, true⟩) 234 (0, 0)) ∧ l = s.data.toList.drop a

theorem RdAt.lt {w : World} {g : Nat} {l : List UInt8} {e : Int} (h : RdAt w g l e) : g < w.heap.size := by
  obtain ⟨s, a, _, _, hg, _⟩ := h
  exact (Array.getElem?_eq_some_iff.1 hg).1
theorem RdAt.kept {w w' : World} {g : Nat} {l : List UInt8} {e : Int} {S : List Nat} (h : RdAt w g l e) (k : Keep S w w') (hg : g ∉ S) : RdAt w' g l e := by
  have hl := h.lt
  obtain ⟨s, a, h1, h2, h3, h4⟩ := h
  exact ⟨s, a, h1, h2, (k.block g hl hg).trans h3, h4⟩
theorem RdAt.below {w w' : World} {g : Nat} {l : List UInt8} {e : Int} (h : RdAt w g l e) (k : Below w.heap.size w w') : RdAt w' g l e := h.kept (Keep.of_below k) (by simp)

theorem rd_open (s : ByteArray) (w : World) (hs : s.size ≤ 9223372036854775807) : Calls Tryz.prog 90 #[.string s] w fun e w' => e = .returned (.pointer (some ⟨w.heap.size, 0, none⟩)) ∧ RdAt w' w.heap.size s.data.toList 0 ∧ Below w.heap.size w w' := by
  go_enter Tryz.func90, Tryz.ntmps90
  go_wp2_with fail
  go_ret
  exact ⟨rfl, ⟨s, 0, Nat.zero_le _, hs, heap_alloc_new w _, by simp⟩, (Below.refl _ _).alloc (Nat.le_refl _) _⟩

theorem rd_cells {w : World} {g : Nat} {s : ByteArray} {a : Nat} {e : Int} (h : w.heap[g]? = some (.cells (rdC ⟨s, a, e, true⟩) 234 (0, 0))) :
    w.cell? ⟨g, 0, none⟩ = some (.string s) ∧ w.cell? ⟨g, 1, none⟩ = some (.int .i64 a) ∧ w.cell? ⟨g, 2, none⟩ = some (.int .i64 e) ∧ w.cell? ⟨g, 3, none⟩ = some (.bool true) ∧ (∀ j, w.frozen? ⟨g, j, none⟩ = false) := by
  refine ⟨?_, ?_, ?_, ?_, fun j => by simp [World.frozen?, h]⟩ <;> rw [cell_of_row w g _ _ _ _ h] <;> simp [go_sem]

theorem rd_none (w : World) (g : Nat) (h : w.cell? ⟨g, 3, none⟩ = some (.bool true)) : Calls Tryz.prog 169 #[.pointer (some ⟨g, 0, none⟩)] w fun e w' => e = .returned (.bool false) ∧ w = w' := by
  go_enter Tryz.func169, Tryz.ntmps169
  go_wp2_with fail
  go_ret
  exact ⟨rfl, rfl⟩
theorem rd_stuck (w : World) (g : Nat) (e : Int) (h : w.cell? ⟨g, 3, none⟩ = some (.bool true)) (h2 : w.cell? ⟨g, 2, none⟩ = some (.int .i64 e)) : Calls Tryz.prog 168 #[.pointer (some ⟨g, 0, none⟩)] w fun en w' => en = .returned (.bool (!(e == 0))) ∧ w = w' := by
  go_enter Tryz.func168, Tryz.ntmps168
  go_wp2_with fail
  refine (rd_none _ _ h).mono ?_; rintro en w' ⟨rfl, rfl⟩
  go_wp2_with fail
  go_ret
  refine ⟨ret_bool ?_, rfl⟩
  first | rfl | simp
theorem rd_err (w : World) (g : Nat) (l : List UInt8) (e : Int) (h : RdAt w g l e) : Calls Tryz.prog 92 #[.pointer (some ⟨g, 0, none⟩)] w fun en w' => en = .returned (.int .i64 e) ∧ w = w' := by
  obtain ⟨s, a, _, _, hg, _⟩ := h
  obtain ⟨_, _, c2, c3, _⟩ := rd_cells hg
  go_enter Tryz.func92, Tryz.ntmps92
  go_wp2_with fail
  refine (rd_none _ _ c3).mono ?_; rintro en w' ⟨rfl, rfl⟩
  go_wp2_with fail
  go_ret
  exact ⟨rfl, rfl⟩

def RdStep (w : World) (g : Nat) (l : List UInt8) (e : Int) (w' : World) : Prop := RdAt w' g l e ∧ Keep [g] w w'
set_option maxHeartbeats 1000000 in
theorem rd_raw (w : World) (g n : Nat) (l : List UInt8) (e : Int) (h : RdAt w g l e) (hn : n ≤ 9223372036854775807) :
    Calls Tryz.prog 93 #[.pointer (some ⟨g, 0, none⟩), .int .i64 n] w fun en w' => en = .returned (.string (mkB (rawV n l e))) ∧ RdStep w g (rawL n l e) (rawE n l e) w' := by
  have h0 := h
  obtain ⟨s, a, ha, hs, hg, hl⟩ := h
  obtain ⟨c0, c1, c2, c3, hf⟩ := rd_cells hg
  have f1 := hf 1; have f2 := hf 2
  have hll : l.length = s.size - a := by rw [hl, List.length_drop]; rfl
  clear hf
  cases he : (e == 0) with
  | false =>
    have he' : e ≠ 0 := by simpa using he
    have e1 : rawV n l e = [] := by unfold rawV; rw [if_neg (fun hh => he' hh.1)]
    have e2 : rawL n l e = l := by unfold rawL; rw [if_neg (fun hh => he' hh.1)]
    have e3 : rawE n l e = e := by unfold rawE; rw [if_neg he']
    have E1 := Lib.hid e1; have E2 := Lib.hid e2; have E3 := Lib.hid e3
    have H0 := Lib.hid h0
    clear e1 e2 e3 hl hll h0 he'
    go_enter Tryz.func93, Tryz.ntmps93
    go_wp2_with fail
    refine (rd_stuck _ _ e c3 c2).mono ?_; rintro en w' ⟨rfl, rfl⟩
    go_wp2_with fail
    go_ret
    exact ⟨ret_str (by rw [E1.out]; rfl), by rw [E2.out, E3.out]; exact ⟨H0.out, Keep.refl _ _⟩⟩
  | true =>
    obtain rfl : e = 0 := by simpa using he
    clear he
    by_cases hns : n ≤ l.length
    · have e1 : rawV n l 0 = l.take n := by unfold rawV; rw [if_pos ⟨rfl, hns⟩]
      have e2 : rawL n l 0 = l.drop n := by unfold rawL; rw [if_pos ⟨rfl, hns⟩]
      have e3 : rawE n l 0 = 0 := by unfold rawE; rw [if_pos rfl, if_pos hns]
      have E1 := Lib.hid e1; have E2 := Lib.hid e2; have E3 := Lib.hid e3
      have hlt : ¬ (s.size : Int) - a < n := by omega
      have han : a + n ≤ s.size := by omega
      have Hl := Lib.hid hl
      have Hg := Lib.hid hg
      clear e1 e2 e3 hl hll h0 hns hg
      have hlt1 : decide ((s.size : Int) - a < n) = false := by simpa using hlt
      have w1 : IntKind.i64.wrap ((s.size : Int) - a) = (s.size : Int) - a := IntWalk.i64_in _ (by omega)
      have hn0 : decide ((n : Int) < 0) = false := by simp
      clear hlt
      go_enter Tryz.func93, Tryz.ntmps93
      go_wp2_with fail
      refine (rd_stuck _ _ 0 c3 c2).mono ?_; rintro en w' ⟨rfl, rfl⟩
      go_upto_region 6 with fail
      refine wp_region_lex (Bel w) false (by kernel_rfl) (by kernel_rfl) (by kernel_rfl) (bel_drew w) ?_
      have hne := bel_some w
      have hS := bel_drew w
      have b1 := sub_cell c0; have b2 := sub_cell c1
      repeat (refine wpLx_loose ?_ ?_; (focus (simp only [chainOp]; done)); intro K hK; go_simp; refine hK _ ?_; clear hK K)
      refine wpLx_nil ?_
      intro hS
      clear hne hS b1 b2 w1
      go_upto_region 10 with fail
      have d0 : (w.setCell ⟨g, 1, none⟩ (.int .i64 ((a : Int) + n))).drew.cell? ⟨g, 0, none⟩ = some (.string s) := by go_simp
      have d1 : (w.setCell ⟨g, 1, none⟩ (.int .i64 ((a : Int) + n))).drew.cell? ⟨g, 1, none⟩ = some (.int .i64 ((a : Int) + n)) := by go_simp
      have hge : (w.setCell ⟨g, 1, none⟩ (.int .i64 ((a : Int) + n))).drew.heap[g]? = some (.cells (rdC ⟨s, (a + n : Nat), 0, true⟩) 234 (0, 0)) := by
        show (w.setCell ⟨g, 1, none⟩ (.int .i64 ((a : Int) + n))).heap[g]? = _
        rw [heap_setCell_same Hg.out]; simp [rdC]
      have hke : Keep [g] w (w.setCell ⟨g, 1, none⟩ (.int .i64 ((a : Int) + n))).drew := Keep.trans (Keep.setCell w ⟨g, 1, none⟩ _) (Keep.drew _) (by simp)
      have w2 : IntKind.i64.wrap ((a : Int) + n - n) = a := by rw [show (a : Int) + n - n = a by omega]; exact IntWalk.i64_in _ (by omega)
      have w3 : IntKind.i64.wrap (a : Int) = a := IntWalk.i64_in _ (by omega)
      have hex : s.extract a (a + n) = mkB (l.take n) := by
        rw [Hl.out]
        apply ByteArray.ext
        apply Array.toList_inj.mp
        rw [ByteArray.data_extract, Array.toList_extract]
        simp [mkB, List.extract_eq_take_drop]
      have Hex := Lib.hid hex
      clear hex c0 c1 c2 c3 f1 f2
      have k1 : (0 : Int) ≤ (a : Int) + n := by omega
      have k2 : (a : Int) + n ≤ s.size := by omega
      have k3 : (a : Int) ≤ (a : Int) + n := by omega
      have k4 : ((a : Int) + n).toNat = a + n := by omega
      generalize (w.setCell ⟨g, 1, none⟩ (.int .i64 ((a : Int) + n))).drew = W at *
      refine wp_region_lex (Bel W) false (by kernel_rfl) (by kernel_rfl) (by kernel_rfl) (bel_drew W) ?_
      have hne := bel_some W
      have hS := bel_drew W
      have b1 := sub_cell d0; have b2 := sub_cell d1
      repeat (refine wpLx_loose ?_ ?_; (focus (simp only [chainOp]; done)); intro K hK; go_simp; refine hK _ ?_; clear hK K)
      refine wpLx_nil ?_
      intro hS
      clear k1 k2 k3 k4 w2 w3
      go_wp2_with fail
      go_ret
      refine ⟨ret_str (by rw [E1.out]; exact Hex.out), ?_⟩
      rw [E2.out, E3.out]
      exact ⟨⟨s, a + n, han, hs, hge, by rw [Hl.out, List.drop_drop]⟩, Keep.trans hke (Keep.drew _) (by simp)⟩
    · have e1 : rawV n l 0 = [] := by unfold rawV; rw [if_neg (fun hh => hns hh.2)]
      have e2 : rawL n l 0 = l := by unfold rawL; rw [if_neg (fun hh => hns hh.2)]
      have e3 : rawE n l 0 = 2 := by unfold rawE; rw [if_pos rfl, if_neg hns]
      have E1 := Lib.hid e1; have E2 := Lib.hid e2; have E3 := Lib.hid e3
      have hlt1 : decide ((s.size : Int) - a < n) = true := by simp; omega
      have Hl := Lib.hid hl
      have Hg := Lib.hid hg
      clear e1 e2 e3 hl hll h0 hns hg
      have w1 : IntKind.i64.wrap ((s.size : Int) - a) = (s.size : Int) - a := IntWalk.i64_in _ (by omega)
      have hn0 : decide ((n : Int) < 0) = false := by simp
      go_enter Tryz.func93, Tryz.ntmps93
      go_wp2_with fail
      refine (rd_stuck _ _ 0 c3 c2).mono ?_; rintro en w' ⟨rfl, rfl⟩
      go_upto_region 6 with fail
      refine wp_region_lex (Bel w) false (by kernel_rfl) (by kernel_rfl) (by kernel_rfl) (bel_drew w) ?_
      have hne := bel_some w
      have hS := bel_drew w
      have b1 := sub_cell c0; have b2 := sub_cell c1
      repeat (refine wpLx_loose ?_ ?_; (focus (simp only [chainOp]; done)); intro K hK; go_simp; refine hK _ ?_; clear hK K)
      refine wpLx_nil ?_
      intro hS
      clear hne hS b1 b2 w1
      go_wp2_with fail
      go_ret
      refine ⟨ret_str (by rw [E1.out]; rfl), ?_⟩
      rw [E2.out, E3.out]
      refine ⟨⟨s, a, ha, hs, ?_, Hl.out⟩, Keep.trans (Keep.setCell w ⟨g, 2, none⟩ _) (Keep.drew _) (by simp)⟩
      show (w.setCell ⟨g, 2, none⟩ _).heap[g]? = _
      rw [heap_setCell_same Hg.out]; simp [rdC]

theorem rd_end (w : World) (g : Nat) (l : List UInt8) (e : Int) (h : RdAt w g l e) : Calls Tryz.prog 135 #[.pointer (some ⟨g, 0, none⟩)] w fun en w' => en = .returned (.int .i64 (endE l e)) ∧ Below w.heap.size w w' := by
  have h0 := h
  obtain ⟨s, a, ha, hs, hg, hl⟩ := h
  obtain ⟨c0, c1, c2, c3, _⟩ := rd_cells hg
  have hll : l.length = s.size - a := by rw [hl, List.length_drop]; rfl
  cases he : (e == 0) with
  | false =>
    have he' : e ≠ 0 := by simpa using he
    have e1 : endE l e = e := by unfold endE; rw [if_neg he']
    have E1 := Lib.hid e1
    have heb : (e != 0) = true := by simpa using he'
    clear e1 hl hll he'
    go_enter Tryz.func135, Tryz.ntmps135
    go_wp2_with fail
    refine (rd_err _ _ _ _ h0).mono ?_; rintro en w' ⟨rfl, rfl⟩
    go_upto_region 2 with fail
    refine wp_region_lex (Bel w) false (by kernel_rfl) (by kernel_rfl) (by kernel_rfl) (bel_drew w) ?_
    have hne := bel_some w
    have hS := bel_drew w
    repeat (refine wpLx_loose ?_ ?_; (focus (simp only [chainOp]; done)); intro K hK; go_simp; refine hK _ ?_; clear hK K)
    refine wpLx_nil ?_
    intro hS
    go_wp2_with fail
    go_ret
    exact ⟨ret_int (by rw [E1.out]), (Below.refl _ _).drew⟩
  | true =>
    obtain rfl : e = 0 := by simpa using he
    clear he
    by_cases hz : a = s.size
    · have hl0 : l = [] := List.eq_nil_of_length_eq_zero (by omega)
      have e1 : endE l 0 = 0 := by unfold endE; rw [if_pos rfl, if_pos hl0]
      have E1 := Lib.hid e1
      have hzz : ((a : Int) == (s.size : Int)) = true := by rw [beq_iff_eq, hz]
      clear e1 hl hll hl0 hz
      go_enter Tryz.func135, Tryz.ntmps135
      go_wp2_with fail
      refine (rd_err _ _ _ _ h0).mono ?_; rintro en w' ⟨rfl, rfl⟩
      go_upto_region 2 with fail
      refine wp_region_lex (Bel w) false (by kernel_rfl) (by kernel_rfl) (by kernel_rfl) (bel_drew w) ?_
      have hne := bel_some w
      have hS := bel_drew w
      have b1 := sub_cell c0; have b2 := sub_cell c1
      repeat (refine wpLx_loose ?_ ?_; (focus (simp only [chainOp]; done)); intro K hK; go_simp; refine hK _ ?_; clear hK K)
      refine wpLx_nil ?_
      intro hS
      go_wp2_with fail
      go_ret
      exact ⟨ret_int (by rw [E1.out]), (Below.refl _ _).drew⟩
    · have hl0 : l ≠ [] := by intro hh; rw [hh] at hll; simp at hll; omega
      have e1 : endE l 0 = 4 := by unfold endE; rw [if_pos rfl, if_neg hl0]
      have E1 := Lib.hid e1
      have hzz : ((a : Int) == (s.size : Int)) = false := by rw [beq_eq_false_iff_ne]; omega
      clear e1 hl hll hl0 hz
      go_enter Tryz.func135, Tryz.ntmps135
      go_wp2_with fail
      refine (rd_err _ _ _ _ h0).mono ?_; rintro en w' ⟨rfl, rfl⟩
      go_upto_region 2 with fail
      refine wp_region_lex (Bel w) false (by kernel_rfl) (by kernel_rfl) (by kernel_rfl) (bel_drew w) ?_
      have hne := bel_some w
      have hS := bel_drew w
      have b1 := sub_cell c0; have b2 := sub_cell c1
      repeat (refine wpLx_loose ?_ ?_; (focus (simp only [chainOp]; done)); intro K hK; go_simp; refine hK _ ?_; clear hK K)
      refine wpLx_nil ?_
      intro hS
      go_wp2_with fail
      go_ret
      exact ⟨ret_int (by rw [E1.out]), (Below.refl _ _).drew⟩

end Go.Proofs.YtgfpjjppeldhbaaGreatDoor
