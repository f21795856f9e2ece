/- Maps: what a look-up, an update, a deletion, a range do, said of a plain list of keys and values. No program is named here. -/
import Derived.Test.YtlonihfhgfmplaaMem
import Derived.DeepKeys5
import Derived.StringKeys
import Derived.Maps.OwnOps
namespace Go.Proofs.Ytlonihfhgfmplaa
open Go.RowKit

theorem nodup_inj {α : Type} : ∀ {l : List α}, l.Nodup → ∀ {i j : Nat} {a : α}, l[i]? = some a → l[j]? = some a → i = j
  | [], _, _, _, _, h, _ => by simp at h
  | x :: l, hn, i, j, a, hi, hj => by
    rw [List.nodup_cons] at hn
    match i, j, hi, hj with
    | 0, 0, _, _ => rfl
    | 0, j + 1, hi, hj => simp at hi hj; subst hi; exact absurd (List.mem_of_getElem? hj) hn.1
    | i + 1, 0, hi, hj => simp at hi hj; subst hj; exact absurd (List.mem_of_getElem? hi) hn.1
    | i + 1, j + 1, hi, hj =>
      have := nodup_inj hn.2 (i := i) (j := j) (a := a) (by simpa using hi) (by simpa using hj)
      omega

section
variable {P : Program} {K : TypeId} {κ ν : Type}

/-- Keys as values. -/
structure KeyEnc (P : Program) (K : TypeId) {κ : Type} (kv : κ → Value) (ok : κ → Prop) : Prop where
  law : WideMaps.KeyLaw P K
  key : ∀ k, ok k → ∃ l, keyOf P K (kv k) = some l
  inj : ∀ a b, kv a = kv b → a = b

/-- Block b is a map that holds M. -/
structure MapAt (w : World) (b : Nat) (kv : κ → Value) (vv : ν → Value) (ok : κ → Prop) (M : List (κ × ν)) (es : Array MapEntry) (clk : Nat) : Prop where
  heap : w.heap[b]? = some (.map es clk)
  keys : es.toList.map (·.key) = M.map (fun p => kv p.1)
  vals : es.toList.map (·.val) = M.map (fun p => vv p.2)
  nodup : (M.map (·.1)).Nodup
  okk : ∀ p ∈ M, ok p.1
  born : (es.toList.map (·.born)).Nodup
  clock : ∀ e ∈ es.toList, e.born < clk

/-- A new value under a key. -/
def putL [DecidableEq κ] (M : List (κ × ν)) (k : κ) (v : ν) : List (κ × ν) := if k ∈ M.map (·.1) then M.map (fun p => if p.1 = k then (k, v) else p) else M ++ [(k, v)]

variable {kv : κ → Value} {vv : ν → Value} {ok : κ → Prop} {w : World} {b : Nat} {M : List (κ × ν)} {es : Array MapEntry} {clk : Nat}

theorem MapAt.length (h : MapAt w b kv vv ok M es clk) : es.size = M.length := by
  have := congrArg List.length h.keys
  simpa using this
theorem MapAt.at_ (h : MapAt w b kv vv ok M es clk) {j : Nat} {p : κ × ν} (hp : M[j]? = some p) : ∃ e, es.toList[j]? = some e ∧ e.key = kv p.1 ∧ e.val = vv p.2 := by
  have hk := congrArg (fun l => l[j]?) h.keys
  have hv := congrArg (fun l => l[j]?) h.vals
  simp only [List.getElem?_map, hp, Option.map_some] at hk hv
  cases he : es.toList[j]? with
  | none => rw [he] at hk; cases hk
  | some e =>
    rw [he] at hk hv
    exact ⟨e, rfl, by simpa using hk, by simpa using hv⟩
theorem MapAt.at_key (h : MapAt w b kv vv ok M es clk) {j : Nat} {e : MapEntry} (he : es.toList[j]? = some e) : ∃ p, M[j]? = some p ∧ e.key = kv p.1 ∧ e.val = vv p.2 := by
  have hk := congrArg (fun l => l[j]?) h.keys
  have hv := congrArg (fun l => l[j]?) h.vals
  simp only [List.getElem?_map, he, Option.map_some] at hk hv
  cases hp : M[j]? with
  | none => rw [hp] at hk; cases hk
  | some p =>
    rw [hp] at hk hv
    exact ⟨p, rfl, by simpa using hk, by simpa using hv⟩
theorem MapAt.kept {S : List Nat} {w' : World} (h : MapAt w b kv vv ok M es clk) (hk : Keep S w w') (hb : b ∉ S) : MapAt w' b kv vv ok M es clk :=
  ⟨(hk.block b (by
      rcases Nat.lt_or_ge b w.heap.size with hl | hl
      · exact hl
      · have := h.heap; rw [Array.getElem?_eq_none hl] at this; cases this) hb).trans h.heap, h.keys, h.vals, h.nodup, h.okk, h.born, h.clock⟩
theorem MapAt.lt (h : MapAt w b kv vv ok M es clk) : b < w.heap.size := by
  rcases Nat.lt_or_ge b w.heap.size with hl | hl
  · exact hl
  · have := h.heap; rw [Array.getElem?_eq_none hl] at this; cases this

theorem MapAt.find (h : MapAt w b kv vv ok M es clk) (E : KeyEnc P K kv ok) {k : κ} (hk : ok k) :
    ((Instr.findKey K (kv k) es.toList).run P w = .ok none w ∧ k ∉ M.map (·.1)) ∨
    ∃ j p, (Instr.findKey K (kv k) es.toList).run P w = .ok (some (j, vv p.2)) w ∧ M[j]? = some p ∧ p.1 = k := by
  obtain ⟨l, hl⟩ := E.key k hk
  have hall : ∀ e ∈ es.toList, ∃ l, keyOf P K e.key = some l := by
    intro e he
    obtain ⟨j, hj, rfl⟩ := List.mem_iff_getElem.1 he
    obtain ⟨p, hp, hkey, _⟩ := h.at_key (List.getElem?_eq_getElem hj)
    rw [hkey]
    exact E.key _ (h.okk p (List.mem_of_getElem? hp))
  rcases E.law.find w hl es.toList hall with ⟨hrun, hno⟩ | ⟨j, e, hrun, hj, hkey⟩
  · refine .inl ⟨hrun, fun hm => ?_⟩
    obtain ⟨p, hp, rfl⟩ := List.mem_map.1 hm
    obtain ⟨j, hj, hpj⟩ := List.mem_iff_getElem.1 hp
    obtain ⟨e, he, hek, _⟩ := h.at_ (j := j) (p := p) (by rw [List.getElem?_eq_getElem hj, hpj])
    exact hno e (List.mem_of_getElem? he) hek
  · obtain ⟨p, hp, hk1, hv1⟩ := h.at_key hj
    exact .inr ⟨j, p, by rw [hrun, hv1], hp, E.inj _ _ (hk1.symm.trans hkey)⟩

theorem run_getObj_map (h : w.heap[b]? = some (.map es clk)) : (getObj b).run P w = .ok (.map es clk) w := by
  simp [getObj, Sem.run, h]

/-- A key that is there. -/
theorem MapAt.hit {T E' : TypeId} (h : MapAt w b kv vv ok M es clk) (E : KeyEnc P K kv ok) (ht : P.underlying T = some (.map K E')) {k : κ} {v : ν} (hk : ok k) (hm : (k, v) ∈ M) (comma : Bool) :
    (Instr.lookup T (.map (some b)) (kv k) comma).run P w = .ok (if comma then .tuple #[vv v, .bool true] else vv v) w := by
  obtain ⟨l, hl⟩ := E.key k hk
  rcases h.find E hk with ⟨_, hno⟩ | ⟨j, p, hrun, hp, hpk⟩
  · exact absurd (List.mem_map.2 ⟨_, hm, rfl⟩) hno
  · have hpe : p = (k, v) := by
      obtain ⟨i, hi, hpi⟩ := List.mem_iff_getElem.1 hm
      obtain ⟨hj, hpj⟩ := List.getElem?_eq_some_iff.1 hp
      have hnd := h.nodup
      have e1 : (M.map (·.1))[i]? = some k := by rw [List.getElem?_map, List.getElem?_eq_getElem hi, hpi]; rfl
      have e2 : (M.map (·.1))[j]? = some k := by rw [List.getElem?_map, hp]; simp [hpk]
      have : i = j := nodup_inj hnd e1 e2
      subst this
      rw [← hpj, hpi]
    subst hpe
    simp only [Instr.lookup, Sem.run_bind, run_underlying ht, Result.andThen_ok, run_getObj_map h.heap, E.law.check w es.isEmpty hl, hrun, Sem.run_pure]
/-- A key that is not there. -/
theorem MapAt.miss {T E' : TypeId} (h : MapAt w b kv vv ok M es clk) (E : KeyEnc P K kv ok) (ht : P.underlying T = some (.map K E')) {z : Value} (hz : (zeroValue E').run P w = .ok z w) {k : κ} (hk : ok k) (hm : k ∉ M.map (·.1)) (comma : Bool) :
    (Instr.lookup T (.map (some b)) (kv k) comma).run P w = .ok (if comma then .tuple #[z, .bool false] else z) w := by
  obtain ⟨l, hl⟩ := E.key k hk
  rcases h.find E hk with ⟨hrun, _⟩ | ⟨j, p, hrun, hp, hpk⟩
  · simp only [Instr.lookup, Sem.run_bind, run_underlying ht, Result.andThen_ok, run_getObj_map h.heap, E.law.check w es.isEmpty hl, hrun, Sem.run_pure, hz]
  · exact absurd (List.mem_map.2 ⟨p, List.mem_of_getElem? hp, hpk⟩) hm

theorem keep_setObj (w : World) (b : Nat) (o : Obj) : Keep [b] w { w with heap := w.heap.setIfInBounds b o } :=
  ⟨rfl, rfl, rfl, by simp, fun k _ hn => by
    show (w.heap.setIfInBounds b o)[k]? = _
    rw [Array.getElem?_setIfInBounds_ne (by simpa using fun e => hn (by simp [e]))]⟩
theorem run_setObj' {w : World} {b : Nat} {es : Array MapEntry} {clk : Nat} (h : w.heap[b]? = some (.map es clk)) (o : Obj) : (setObj b o).run P w = .ok () { w with heap := w.heap.setIfInBounds b o } := by
  simp [setObj, Sem.run, h]
theorem heap_setObj {w : World} {b : Nat} (o : Obj) (hb : b < w.heap.size) : ({ w with heap := w.heap.setIfInBounds b o } : World).heap[b]? = some o := by
  show (w.heap.setIfInBounds b o)[b]? = _
  rw [Array.getElem?_setIfInBounds_self_of_lt hb]

/-- An update. -/
theorem MapAt.update [DecidableEq κ] {T E' : TypeId} (h : MapAt w b kv vv ok M es clk) (E : KeyEnc P K kv ok) (ht : P.underlying T = some (.map K E')) {k : κ} {v : ν} (hk : ok k) :
    ∃ w' es' clk', (Instr.mapUpdate T (.map (some b)) (kv k) (vv v)).run P w = .ok () w' ∧ MapAt w' b kv vv ok (putL M k v) es' clk' ∧ Keep [b] w w' := by
  obtain ⟨l, hl⟩ := E.key k hk
  rcases h.find E hk with ⟨hrun, hno⟩ | ⟨j, p, hrun, hp, hpk⟩
  · refine ⟨_, es.push { key := kv k, val := vv v, born := clk }, clk + 1, ?_, ⟨heap_setObj _ h.lt, ?_, ?_, ?_, ?_, ?_, ?_⟩, keep_setObj w b _⟩
    · simp only [Instr.mapUpdate, Sem.run_bind, run_underlying ht, Result.andThen_ok, run_getObj_map h.heap, E.law.check w false hl, hrun, run_setObj' h.heap]
    · unfold putL; rw [if_neg hno]; simp [h.keys]
    · unfold putL; rw [if_neg hno]; simp [h.vals]
    · unfold putL; rw [if_neg hno, List.map_append, List.nodup_append]
      refine ⟨h.nodup, by simp, ?_⟩
      intro a ha c hc e
      simp at hc
      subst hc; subst e
      exact hno ha
    · unfold putL; rw [if_neg hno]
      intro q hq
      rcases List.mem_append.1 hq with hq | hq
      · exact h.okk q hq
      · simp at hq; subst hq; exact hk
    · simp only [Array.toList_push, List.map_append, List.map_cons, List.map_nil, List.nodup_append]
      refine ⟨h.born, by simp, ?_⟩
      intro a ha c hc e
      simp at hc
      subst hc; subst e
      obtain ⟨e', he', hb'⟩ := List.mem_map.1 ha
      have := h.clock e' he'
      omega
    · intro e he
      simp only [Array.toList_push, List.mem_append, List.mem_singleton] at he
      rcases he with he | he
      · have := h.clock e he; omega
      · subst he; show clk < clk + 1; omega
  · have hmem : k ∈ M.map (·.1) := List.mem_map.2 ⟨p, List.mem_of_getElem? hp, hpk⟩
    obtain ⟨e0, he0, hek, hev⟩ := h.at_ hp
    have hold : ((es[j]?).map (·.key)).getD (kv k) = kv k := by
      have : es[j]? = some e0 := by simpa using he0
      rw [this]
      simp [hek, hpk]
    have hput : putL M k v = M.modify j (fun _ => (k, v)) := by
      unfold putL; rw [if_pos hmem]
      apply List.ext_getElem?
      intro n
      rw [List.getElem?_map, List.getElem?_modify]
      by_cases hn : j = n
      · subst hn; simp [hp, hpk]
      · cases hq : M[n]? with
        | none => simp [hn]
        | some q =>
          have hne : q.1 ≠ k := by
            intro e
            have e1 : (M.map (·.1))[j]? = some k := by rw [List.getElem?_map, hp]; simp [hpk]
            have e2 : (M.map (·.1))[n]? = some k := by rw [List.getElem?_map, hq]; simp [e]
            exact hn (nodup_inj h.nodup e1 e2)
          simp [hn, hne]
    refine ⟨_, es.modify j fun e => { e with key := kv k, val := vv v }, clk, ?_, ⟨heap_setObj _ h.lt, ?_, ?_, ?_, ?_, ?_, ?_⟩, keep_setObj w b _⟩
    · simp only [Instr.mapUpdate, Sem.run_bind, run_underlying ht, Result.andThen_ok, run_getObj_map h.heap, E.law.check w false hl, hrun, hold, E.law.stays w hl, run_setObj' h.heap]
    all_goals (try rw [hput])
    · rw [Array.toList_modify]
      apply List.ext_getElem?
      intro n
      have hkn := congrArg (fun l => l[n]?) h.keys
      simp only [List.getElem?_map] at hkn
      simp only [List.getElem?_map, List.getElem?_modify]
      by_cases hn : j = n
      · subst hn; simp [hp, he0]
      · simpa [hn] using hkn
    · rw [Array.toList_modify]
      apply List.ext_getElem?
      intro n
      have hkn := congrArg (fun l => l[n]?) h.vals
      simp only [List.getElem?_map] at hkn
      simp only [List.getElem?_map, List.getElem?_modify]
      by_cases hn : j = n
      · subst hn; simp [hp, he0]
      · simpa [hn] using hkn
    · have : (M.modify j fun _ => (k, v)).map (·.1) = M.map (·.1) := by
        apply List.ext_getElem?
        intro n
        simp only [List.getElem?_map, List.getElem?_modify]
        by_cases hn : j = n
        · subst hn; simp [hp, hpk]
        · simp [hn]
      rw [this]; exact h.nodup
    · intro q hq
      obtain ⟨n, hn, hqn⟩ := List.mem_iff_getElem.1 hq
      have hq' : (M.modify j fun _ => (k, v))[n]? = some q := by rw [List.getElem?_eq_getElem hn, hqn]
      rw [List.getElem?_modify] at hq'
      by_cases e : j = n
      · subst e; rw [hp] at hq'; simp at hq'; subst hq'; exact hk
      · simp [e] at hq'
        exact h.okk q (List.mem_of_getElem? hq')
    · have : ((es.modify j fun e => { e with key := kv k, val := vv v }).toList.map (·.born)) = es.toList.map (·.born) := by
        rw [Array.toList_modify]
        apply List.ext_getElem?
        intro n
        simp only [List.getElem?_map, List.getElem?_modify]
        by_cases hn : j = n
        · subst hn; simp [he0]
        · simp [hn]
      rw [this]; exact h.born
    · intro e he
      rw [Array.toList_modify] at he
      obtain ⟨n, hn, hen⟩ := List.mem_iff_getElem.1 he
      have he' : (es.toList.modify j fun e => { e with key := kv k, val := vv v })[n]? = some e := by rw [List.getElem?_eq_getElem hn, hen]
      rw [List.getElem?_modify] at he'
      by_cases hj : j = n
      · subst hj; rw [he0] at he'; simp at he'; subst he'; exact h.clock e0 (List.mem_of_getElem? he0)
      · simp [hj] at he'
        exact h.clock e (List.mem_of_getElem? (by simpa using he'))
theorem MapAt.new (w : World) (b : Nat) (hb : b = w.heap.size) : MapAt (w.alloc (.map #[] 0)) b kv vv ok [] #[] 0 := by
  subst hb
  exact ⟨heap_alloc_new w _, rfl, rfl, by simp, by simp, by simp, by simp⟩
theorem MapAt.len {T E' : TypeId} {ats : Array TypeId} {ty : TypeId} (h : MapAt w b kv vv ok M es clk) (ht : P.underlying T = some (.map K E')) (hats : ats[0]? = some T) : (Builtin.len_ ats ty #[.map (some b)]).run P w = .ok (.int .i64 M.length) w := by
  simp [Builtin.len_, hats, run_underlying ht, run_getObj_map h.heap, goInt, h.length]
end

end Go.Proofs.Ytlonihfhgfmplaa
