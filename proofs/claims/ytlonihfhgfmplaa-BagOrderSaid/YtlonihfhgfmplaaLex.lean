/- Regions that draw their order, their calls and stores in one forced chain: the walk in the order of the text serves every order. Every other operation yields one value in every world of a class that the chain keeps. No program is named here. -/
import Derived.Test.YtlonihfhgfmplaaMem
import Derived.Deep.Quiet
import Derived.StillTail
namespace Go.Proofs.Ytlonihfhgfmplaa
open Go.RowKit

/-- Which operations make or turn memory, or call. -/
def chainOp (cv : Bool) (o : Oper) : Bool :=
  match o.op with
  | .call c => (match c.callee with | .builtin .len => false | .builtin .cap => false | _ => true)
  | .alloc _ | .box _ _ | .buildSlice _ _ _ | .store _ _ _ | .insert _ _ _ _ | .mapUpdate _ _ _ _ | .mapEntry _ _ _ | .entryStore _ _ _ _ | .makeMap _ _ | .makeChan _ _ | .makeSlice _ _ _ | .range _ _ | .next _ _ => true
  | .convert _ _ _ => cv
  | _ => false
def chainAt (cv : Bool) (ops : Array Oper) (i : Nat) : Bool := ((ops[i]?).map (chainOp cv)).getD false
def waitsB (md : Region.Mode) (ops : Array Oper) (j p : Nat) : Bool :=
  match ops[j]? with
  | some oj => oj.after.any fun e => Region.binds md e && e.on == p
  | none => false
def chainB (md : Region.Mode) (cv : Bool) (ops : Array Oper) : Bool :=
  (List.range ops.size).all fun j => !chainAt cv ops j || (match (List.range j).reverse.find? (chainAt cv ops) with | some p => waitsB md ops j p | none => true)

section
variable {P : Program} {ops : Array Oper} {md : Region.Mode} {S : World → Prop} {cv fb : Bool}

/-- What a plain operation yields: a value, the world as it was. -/
def looseRes (w : World) (v : Value) : Result Next → Prop
  | .ok (.value u) w' => w' = w ∧ u = v
  | .ok .skip w' => w' = w ∧ v = undef
  | _ => False
theorem looseRes_uniq {w : World} {v u : Value} {r : Result Next} (h : looseRes w v r) (k : looseRes w u r) : v = u := by
  cases r with
  | ok n w' => cases n <;> simp only [looseRes] at h k <;> first | exact h.2.symm.trans k.2 | exact h.2.trans k.2.symm | exact h.elim
  | halt x w' => exact h.elim
/-- What an operation of the chain yields. -/
def chainRes (P : Program) (S : World → Prop) (K : Value → World → Prop) : Result Next → Prop
  | .ok (.value u) w' => S w' ∧ K u w'
  | .ok .skip w' => S w' ∧ K undef w'
  | .ok (.enter f args) w' => Calls P f args w' (fun e w'' => ∃ v, e = .returned v ∧ S w'' ∧ K v w'')
  | _ => False
theorem chainRes_mono {K K' : Value → World → Prop} {r : Result Next} (hk : ∀ v w, S w → K v w → K' v w) (h : chainRes P S K r) : chainRes P S K' r := by
  cases r with
  | ok n w' =>
    cases n <;> simp only [chainRes] at h ⊢
    case value u => exact ⟨h.1, hk _ _ h.1 h.2⟩
    case skip => exact ⟨h.1, hk _ _ h.1 h.2⟩
    case enter f args => exact h.mono fun e w'' ⟨v, he, hs, h2⟩ => ⟨v, he, hs, hk _ _ hs h2⟩
  | halt x w' => exact h.elim
theorem chainRes_weaken {S' : World → Prop} {K K' : Value → World → Prop} {r : Result Next} (hs : ∀ w, S w → S' w) (hk : ∀ v w, S w → K v w → K' v w) (h : chainRes P S K r) : chainRes P S' K' r := by
  cases r with
  | ok n w' =>
    cases n <;> simp only [chainRes] at h ⊢
    case value u => exact ⟨hs _ h.1, hk _ _ h.1 h.2⟩
    case skip => exact ⟨hs _ h.1, hk _ _ h.1 h.2⟩
    case enter f args => exact h.mono fun e w'' ⟨v, he, hs', h2⟩ => ⟨v, he, hs _ hs', hk _ _ hs' h2⟩
  | halt x w' => exact h.elim
theorem chainRes_some {K : Value → World → Prop} {r : Result Next} (h : chainRes P S K r) : ∃ v w, S w ∧ K v w := by
  cases r with
  | ok n w' =>
    cases n <;> simp only [chainRes] at h
    case value u => exact ⟨_, _, h.1, h.2⟩
    case skip => exact ⟨_, _, h.1, h.2⟩
    case enter f args =>
      obtain ⟨e, w'', fr, ⟨v, _, hs, hk⟩, _⟩ := h []
      exact ⟨v, w'', hs, hk⟩
  | halt x w' => exact h.elim

/-- The class behind operation i: that of all, unless i is the region's end and 'fb' lets the end be free. -/
def cls (ops : Array Oper) (S : World → Prop) (fb : Bool) (i : Nat) : World → Prop := fun w => S w ∨ (fb = true ∧ i + 1 = ops.size)
/-- The region's end waits for all else. -/
def endB (md : Region.Mode) (ops : Array Oper) : Bool := decide (0 < ops.size) && Region.sinkB md ops (ops.size - 1)

/-- Operation number 'i' comes up. -/
def lxOp (P : Program) (ops : Array Oper) (S : World → Prop) (cv fb : Bool) (i : Nat) (K : Act → World → Prop) (a : Act) (w : World) : Prop :=
  match ops[i]? with
  | none => K a w
  | some o =>
    if Region.wanted o (yielded ops a.tmps) then
      (if chainOp cv o then chainRes P (cls ops S fb i) (fun v w' => K (a.put o.dst v) w') ((execOp a.eval o).run P w)
       else ∃ v, (∀ w', S w' → looseRes w' v ((execOp a.eval o).run P w')) ∧ K (a.put o.dst v) w)
    else K (a.put o.dst undef) w

theorem lxOp_mono {i : Nat} {a : Act} {w : World} {K K' : Act → World → Prop} (hS : S w) (h : ∀ a w, cls ops S fb i w → K a w → K' a w) (hh : lxOp P ops S cv fb i K a w) : lxOp P ops S cv fb i K' a w := by
  have hSi : cls ops S fb i w := .inl hS
  unfold lxOp at *
  split
  · exact h _ _ hSi (by simpa [*] using hh)
  · rename_i o ho
    simp only [ho] at hh
    split
    · rename_i hw
      rw [if_pos hw] at hh
      split
      · rename_i hc; rw [if_pos hc] at hh; exact chainRes_mono (fun v w hs hk => h _ _ hs hk) hh
      · rename_i hc; rw [if_neg hc] at hh; obtain ⟨v, h1, h2⟩ := hh; exact ⟨v, h1, h _ _ hSi h2⟩
    · rename_i hw; rw [if_neg hw] at hh; exact h _ _ hSi hh

def wpAnyX (P : Program) (md : Region.Mode) (ops : Array Oper) (S : World → Prop) (cv fb : Bool) (Q : Act → World → Prop) : Nat → Array Bool → Act → World → Prop
  | 0, listed, a, w => Region.ready md ops listed = [] ∧ Q a w
  | fuel + 1, listed, a, w =>
    (Region.ready md ops listed = [] → Q a w) ∧
    ∀ i ∈ Region.ready md ops listed, lxOp P ops S cv fb i (wpAnyX P md ops S cv fb Q fuel (listed.setIfInBounds i true)) a w

theorem wpOp_of_lxOp {Q' : Exit → Act → World → Prop} {i : Nat} {a : Act} {w : World} {K K' : Act → World → Prop} (hS : S w) (h : ∀ a w, cls ops S fb i w → K a w → K' a w) (hh : lxOp P ops S cv fb i K a w) : wpOp P ops Q' i K' a w := by
  have hSi : cls ops S fb i w := .inl hS
  unfold lxOp at hh
  unfold wpOp
  split
  · rename_i ho; simp only [ho] at hh; exact h _ _ hSi hh
  · rename_i o ho
    simp only [ho] at hh
    split
    · rename_i hw
      rw [if_pos hw] at hh
      refine .inl ?_
      unfold Oper.wp
      split at hh
      · generalize (execOp a.eval o).run P w = r at *
        cases r with
        | ok n w' =>
          cases n <;> simp only [chainRes] at hh <;> simp only [Oper.upon]
          case value u => exact h _ _ hh.1 hh.2
          case skip => exact h _ _ hh.1 hh.2
          case enter f args => exact hh.mono fun e w'' ⟨v, he, hs, hk⟩ => by subst he; exact h _ _ hs hk
        | halt x w' => exact hh.elim
      · obtain ⟨v, h1, h2⟩ := hh
        have h3 := h1 w hS
        generalize (execOp a.eval o).run P w = r at *
        cases r with
        | ok n w' =>
          cases n <;> simp only [looseRes] at h3 <;> simp only [Oper.upon]
          case value u => obtain ⟨e1, e2⟩ := h3; rw [e1, e2]; exact h _ _ hSi h2
          case skip => obtain ⟨e1, e2⟩ := h3; rw [e1, ← e2]; exact h _ _ hSi h2
        | halt x w' => exact h3.elim
    · rename_i hw; rw [if_neg hw] at hh; exact h _ _ hSi hh

/-- Where the end comes up, all else is listed. -/
structure EndInv (md : Region.Mode) (ops : Array Oper) (fb : Bool) (listed : Array Bool) : Prop where
  inv : fb = true → endB md ops = true ∧ (HeadInv md ops (ops.size - 1) listed ∨ Region.ready md ops listed = [])
theorem EndInv.end_ {listed : Array Bool} (h : EndInv md ops fb listed) (hfb : fb = true) {i : Nat} (hi : i ∈ Region.ready md ops listed) (he : i + 1 = ops.size) : ∀ j ∈ Region.ready md ops listed, j = i := by
  obtain ⟨hB, h1⟩ := h.inv hfb
  rcases h1 with h1 | h1
  · intro j hj
    simp only [endB, Bool.and_eq_true, decide_eq_true_eq] at hB
    obtain ⟨hjun, oj, hoj, _⟩ := mem_ready.1 hj
    have hjs : j < ops.size := (Array.getElem?_eq_some_iff.1 hoj).1
    rcases Nat.lt_or_ge j i with hlt | hge
    · exfalso
      have hch : Region.chainB md ops (ops.size - 1) = true := by
        unfold Region.chainB
        rw [List.all_eq_true]
        intro t ht
        have := List.mem_range.1 ht
        simp; left; omega
      exact tail_waits hB.2 hch (by omega) h1 (ops.size - 1 - j) j rfl (by omega) hjun i (by omega) hi
    · omega
  · rw [h1] at hi; cases hi
theorem EndInv.set {listed : Array Bool} (h : EndInv md ops fb listed) {i : Nat} (hi : i ∈ Region.ready md ops listed) : EndInv md ops fb (listed.setIfInBounds i true) := by
  refine ⟨fun hfb => ?_⟩
  obtain ⟨hB, h1⟩ := h.inv hfb
  refine ⟨hB, ?_⟩
  rcases h1 with h1 | h1
  · by_cases he : i + 1 = ops.size
    · right
      have hall := h.end_ hfb hi he
      apply List.eq_nil_iff_forall_not_mem.2
      intro j hj
      obtain ⟨hjun, oj, hoj, hallj⟩ := mem_ready.1 hj
      have hjs : j < ops.size := (Array.getElem?_eq_some_iff.1 hoj).1
      have hji : j ≠ i := by
        rintro rfl
        have hsz : j < listed.size := by rw [h1.size]; exact hjs
        simp [hsz] at hjun
      simp only [endB, Bool.and_eq_true, decide_eq_true_eq] at hB
      have hch : Region.chainB md ops (ops.size - 1) = true := by
        unfold Region.chainB
        rw [List.all_eq_true]
        intro t ht
        have := List.mem_range.1 ht
        simp; left; omega
      rw [getD_set_ne true (Ne.symm hji)] at hjun
      exact tail_waits hB.2 hch (by omega) h1 (ops.size - 1 - j) j rfl (by omega) hjun i (by omega) hi
    · left
      obtain ⟨_, oi, hoi, _⟩ := mem_ready.1 hi
      have his : i < ops.size := (Array.getElem?_eq_some_iff.1 hoi).1
      exact h1.set hi (by omega)
  · rw [h1] at hi; cases hi
theorem EndInv.cls {listed : Array Bool} {w : World} (h : EndInv md ops fb listed) {i j : Nat} (hi : i ∈ Region.ready md ops listed) (hj : j ∈ Region.ready md ops listed) (hji : j ≠ i) (hc : cls ops S fb j w) : S w := by
  rcases hc with hc | ⟨hfb, he⟩
  · exact hc
  · exact absurd (h.end_ hfb hj he i hi).symm hji

theorem wpAny_of_X {Q : Act → World → Prop} {Q' : Exit → Act → World → Prop} (hQ : ∀ a w, (S w ∨ fb = true) → Q a w → Q' .normal a w) : ∀ (fuel : Nat) (listed : Array Bool) (a : Act) (w : World), EndInv md ops fb listed → (S w ∨ (fb = true ∧ Region.ready md ops listed = [])) →
    wpAnyX P md ops S cv fb Q fuel listed a w → wpAny P md ops Q' fuel listed a w
  | 0, _, _, _, _, hS, h => ⟨h.1, hQ _ _ (hS.imp id (·.1)) h.2⟩
  | fuel + 1, listed, _, _, hI, hS, h => ⟨fun h0 => hQ _ _ (hS.imp id (·.1)) (h.1 h0), fun i hi => by
      rcases hS with hS | ⟨_, h0⟩
      · refine wpOp_of_lxOp hS (fun a' w' hS' => wpAny_of_X hQ fuel _ a' w' (hI.set hi) ?_) (h.2 i hi)
        rcases hS' with hS' | ⟨hfb, he⟩
        · exact .inl hS'
        · right
          refine ⟨hfb, ?_⟩
          rcases ((hI.set hi).inv hfb).2 with h1 | h1
          · exfalso
            have := h1.tail i (by omega) (by omega)
            have hsz : i < (listed.setIfInBounds i true).size := by rw [h1.size]; omega
            have hsz' : i < listed.size := by simpa using hsz
            simp [hsz'] at this
          · exact h1
      · rw [h0] at hi; cases hi⟩

/-- In state 'a', in every world of the class, the plain operation 'o' leaves 'v'. -/
def YieldsX (P : Program) (ops : Array Oper) (S : World → Prop) (cv : Bool) (o : Oper) (v : Value) (a : Act) : Prop :=
  (Region.wanted o (yielded ops a.tmps) = true ∧ chainOp cv o = false ∧ ∀ w, S w → looseRes w v ((execOp a.eval o).run P w)) ∨
  (Region.wanted o (yielded ops a.tmps) = false ∧ v = undef)

theorem YieldsX.lxOp {i : Nat} {o : Oper} {v : Value} {a : Act} {w : World} (hi : ops[i]? = some o) (hy : YieldsX P ops S cv o v a) {K : Act → World → Prop} (h : K (a.put o.dst v) w) : lxOp P ops S cv fb i K a w := by
  unfold Proofs.Ytlonihfhgfmplaa.lxOp
  simp only [hi]
  rcases hy with ⟨hw, hc, hv⟩ | ⟨hw, rfl⟩
  · rw [if_pos hw, hc]; exact ⟨v, hv, h⟩
  · rw [if_neg (by rw [hw]; simp)]; exact h
theorem YieldsX.of_same {o : Oper} {v : Value} {a a' : Act} (hy : YieldsX P ops S cv o v a) (he : execOp a'.eval o = execOp a.eval o)
    (hw : Region.wanted o (yielded ops a'.tmps) = Region.wanted o (yielded ops a.tmps)) : YieldsX P ops S cv o v a' := by
  unfold YieldsX at *
  rw [he, hw]; exact hy
theorem YieldsX.uniq {o : Oper} {v u : Value} {a : Act} {w : World} (hS : S w) (h : YieldsX P ops S cv o v a) (k : YieldsX P ops S cv o u a) : v = u := by
  rcases h with ⟨h1, _, h2⟩ | ⟨h1, h2⟩ <;> rcases k with ⟨k1, _, k2⟩ | ⟨k1, k2⟩
  · exact looseRes_uniq (h2 w hS) (k2 w hS)
  · rw [h1] at k1; cases k1
  · rw [h1] at k1; cases k1
  · rw [h2, k2]

/-- Operation j, apart from i: i's value may be laid behind it. -/
theorem lxOp_put {j : Nat} {oi oj : Oper} {v : Value} (hj : ops[j]? = some oj) (hap : oi.apart ops oj = true)
    (hsi : ∀ cs b, oi.op ≠ .select cs b) (hsj : ∀ cs b, oj.op ≠ .select cs b) {K : Act → World → Prop} {a : Act} {w : World}
    (hy : YieldsX P ops S cv oi v a) (h : lxOp P ops S cv fb j K (a.put oi.dst v) w) :
    lxOp P ops S cv fb j (fun a' w' => YieldsX P ops S cv oi v a' ∧ K (a'.put oi.dst v) w') a w := by
  obtain ⟨h1, h2, h3⟩ := Oper.apart_spec hap
  have keep : ∀ (a : Act), YieldsX P ops S cv oi v a → ∀ u, YieldsX P ops S cv oi v (a.put oj.dst u) := fun a hy u =>
    hy.of_same (execOp_put oi hsi a oj.dst u h3) (wanted_put oi a oj.dst u h3)
  unfold lxOp at *
  simp only [hj] at *
  rw [wanted_put oj a oi.dst v h1, execOp_put oj hsj a oi.dst v h1] at h
  split
  · rename_i hw
    rw [if_pos hw] at h
    split
    · rename_i hc
      rw [if_pos hc] at h
      exact chainRes_mono (fun u w' _ hk => ⟨keep a hy u, by rw [← Act.put_comm a v u h2]; exact hk⟩) h
    · rename_i hc
      rw [if_neg hc] at h
      obtain ⟨u, hu, hk⟩ := h
      exact ⟨u, hu, keep a hy u, by rw [← Act.put_comm a v u h2]; exact hk⟩
  · rename_i hw
    rw [if_neg hw] at h
    exact ⟨keep a hy _, by rw [← Act.put_comm a v undef h2]; exact h⟩

theorem X_first_loose {Q : Act → World → Prop} {i : Nat} {oi : Oper} {v : Value} (hi : ops[i]? = some oi) (hsel : ∀ (j : Nat) (o : Oper) cs b, ops[j]? = some o → o.op ≠ .select cs b) :
    ∀ (fuel : Nat) (listed : Array Bool) (a : Act) (w : World), EndInv md ops fb listed → S w →
      (∀ j oj, ops[j]? = some oj → j ≠ i → listed.getD j true = false → (∀ e ∈ oj.after, Region.binds md e = true → e.on ≠ i) → oi.apart ops oj = true) →
      i ∈ Region.ready md ops listed → YieldsX P ops S cv oi v a →
      wpAnyX P md ops S cv fb Q fuel (listed.setIfInBounds i true) (a.put oi.dst v) w → wpAnyX P md ops S cv fb Q (fuel + 1) listed a w := by
  intro fuel
  induction fuel with
  | zero =>
    intro listed a w _ _ _ hr hy H
    refine ⟨fun h => (by rw [h] at hr; cases hr), fun j hj => ?_⟩
    by_cases hji : j = i
    · subst hji; exact hy.lxOp hi H
    · have := ready_mono hj hji
      rw [H.1] at this
      cases this
  | succ fuel ih =>
    intro listed a w hI hS hfree hr hy H
    refine ⟨fun h => (by rw [h] at hr; cases hr), fun j hj => ?_⟩
    by_cases hji : j = i
    · subst hji; exact hy.lxOp hi H
    · have h1 := H.2 j (ready_mono hj hji)
      obtain ⟨hjun, oj, hoj, hall⟩ := mem_ready.1 hj
      have hnot : ∀ e ∈ oj.after, Region.binds md e = true → e.on ≠ i := fun e he hb heq => by
        have h1 := hall e he hb
        have h0 := (mem_ready.1 hr).1
        rw [heq] at h1
        rcases Nat.lt_or_ge i listed.size with h' | h'
        · simp [h'] at h0 h1; rw [h0] at h1; cases h1
        · simp [Array.getElem?_eq_none h'] at h1
      have h2 := lxOp_put hoj (hfree j oj hoj hji hjun hnot) (fun cs b => hsel i oi cs b hi) (fun cs b => hsel j oj cs b hoj) hy h1
      have hfree' : ∀ k ok, ops[k]? = some ok → k ≠ i → (listed.setIfInBounds j true).getD k true = false →
          (∀ e ∈ ok.after, Region.binds md e = true → e.on ≠ i) → oi.apart ops ok = true := fun k ok hk hki hun hno => by
        refine hfree k ok hk hki ?_ hno
        by_cases hjk : j = k
        · subst hjk; exact hjun
        · rw [getD_set_ne true hjk] at hun; exact hun
      refine lxOp_mono hS (fun a' w' hS' h3 => ih (listed.setIfInBounds j true) a' w' (hI.set hj) (hI.cls hr hj hji hS') hfree' (ready_mono hr (Ne.symm hji)) h3.1 ?_) h2
      rw [Array.setIfInBounds_comm _ _ hji]
      exact h3.2

theorem X_first_chain {Q : Act → World → Prop} {i : Nat} {oi : Oper} (hi : ops[i]? = some oi) (hc : chainOp cv oi = true) (hsel : ∀ (j : Nat) (o : Oper) cs b, ops[j]? = some o → o.op ≠ .select cs b)
    (hch : chainB md cv ops = true) :
    ∀ (fuel : Nat) (listed : Array Bool) (a : Act) (w : World), EndInv md ops fb listed → S w →
      (∀ j oj, ops[j]? = some oj → j ≠ i → listed.getD j true = false → (∀ e ∈ oj.after, Region.binds md e = true → e.on ≠ i) → oi.apart ops oj = true) →
      (∀ j, chainAt cv ops j = true → (j < i → listed.getD j true = true) ∧ (i ≤ j → listed.getD j false = false)) →
      i ∈ Region.ready md ops listed → Region.wanted oi (yielded ops a.tmps) = true →
      chainRes P (cls ops S fb i) (fun v w' => wpAnyX P md ops S cv fb Q fuel (listed.setIfInBounds i true) (a.put oi.dst v) w') ((execOp a.eval oi).run P w) → wpAnyX P md ops S cv fb Q (fuel + 1) listed a w := by
  -- whoever else is ready is no operation of the chain
  have key : ∀ (listed : Array Bool), (∀ j, chainAt cv ops j = true → (j < i → listed.getD j true = true) ∧ (i ≤ j → listed.getD j false = false)) →
      ∀ j ∈ Region.ready md ops listed, j ≠ i → ∀ oj, ops[j]? = some oj → chainOp cv oj = false := by
    intro listed hinv j hj hji oj hoj
    cases hcj : chainOp cv oj with
    | false => rfl
    | true =>
      exfalso
      have hcat : chainAt cv ops j = true := by unfold chainAt; rw [hoj]; exact hcj
      have hciat : chainAt cv ops i = true := by unfold chainAt; rw [hi]; exact hc
      obtain ⟨hjun, o', ho', hall⟩ := mem_ready.1 hj
      obtain ⟨i1, i2⟩ := hinv j hcat
      rcases Nat.lt_or_ge j i with hlt | hge
      · rw [i1 hlt] at hjun; cases hjun
      · have hgt : i < j := by omega
        have hjs : j < ops.size := (Array.getElem?_eq_some_iff.1 hoj).1
        have h1 := List.all_eq_true.1 hch j (List.mem_range.2 hjs)
        rw [hcat] at h1
        simp only [Bool.not_true, Bool.false_or] at h1
        cases hf : (List.range j).reverse.find? (chainAt cv ops) with
        | none =>
          have := List.find?_eq_none.1 hf i (by simp; omega)
          exact this hciat
        | some p =>
          rw [hf] at h1
          have hp1 : chainAt cv ops p = true := List.find?_some hf
          have hpi : i ≤ p := by
            -- p is the last one ahead of j
            rcases Nat.lt_or_ge p i with hlt | hge'
            · exfalso
              have hrev : (List.range j).reverse = ((List.range j).reverse.take (j - 1 - i)) ++ (i :: (List.range j).reverse.drop (j - i)) := by
                apply List.ext_getElem?
                intro n
                have hle : ((List.range j).reverse.take (j - 1 - i)).length = j - 1 - i := by simp; omega
                by_cases h1n : n < j - 1 - i
                · rw [List.getElem?_append_left (by omega), List.getElem?_take, if_pos h1n]
                · rw [List.getElem?_append_right (by omega), hle]
                  by_cases h2n : n = j - 1 - i
                  · subst h2n
                    rw [Nat.sub_self, List.getElem?_cons_zero, List.getElem?_reverse (by simp; omega)]
                    simp only [List.length_range]
                    rw [List.getElem?_range (by omega)]
                    congr 1; omega
                  · have : n - (j - 1 - i) = (n - (j - i)) + 1 := by omega
                    rw [this, List.getElem?_cons_succ, List.getElem?_drop]
                    congr 1; omega
              rw [hrev, List.find?_append] at hf
              cases ht : ((List.range j).reverse.take (j - 1 - i)).find? (chainAt cv ops) with
              | some q =>
                rw [ht] at hf
                have e : q = p := by simpa using hf
                subst e
                have hm := List.mem_of_find?_eq_some ht
                obtain ⟨n, hn, hq⟩ := List.mem_iff_getElem.1 hm
                simp only [List.getElem_take, List.getElem_reverse, List.getElem_range, List.length_range] at hq
                simp at hn
                omega
              | none =>
                rw [ht] at hf
                simp only [Option.none_or, List.find?_cons, hciat] at hf
                have e : i = p := by simpa using hf
                omega
            · exact hge'
          unfold waitsB at h1
          rw [hoj] at h1
          obtain ⟨e, he, hb⟩ := Array.any_eq_true'.1 h1
          simp only [Bool.and_eq_true, beq_iff_eq] at hb
          have e2 : o' = oj := Option.some.inj (ho'.symm.trans hoj)
          subst e2
          have h3 := hall e he hb.1
          rw [hb.2, (hinv p hp1).2 hpi] at h3
          cases h3
  intro fuel
  induction fuel with
  | zero =>
    intro listed a w hI hS hfree hinv hr hw H
    refine ⟨fun h => (by rw [h] at hr; cases hr), fun j hj => ?_⟩
    by_cases hji : j = i
    · subst hji; unfold lxOp; simp only [hi]; rw [if_pos hw, if_pos hc]; exact H
    · obtain ⟨v, w', _, hK⟩ := chainRes_some H
      have := ready_mono hj hji
      rw [hK.1] at this
      cases this
  | succ fuel ih =>
    intro listed a w hI hS hfree hinv hr hw H
    refine ⟨fun h => (by rw [h] at hr; cases hr), fun j hj => ?_⟩
    by_cases hji : j = i
    · subst hji; unfold lxOp; simp only [hi]; rw [if_pos hw, if_pos hc]; exact H
    · obtain ⟨hjun, oj, hoj, hall⟩ := mem_ready.1 hj
      have hcj := key listed hinv j hj hji oj hoj
      have hnot : ∀ e ∈ oj.after, Region.binds md e = true → e.on ≠ i := fun e he hb heq => by
        have h1 := hall e he hb
        have h0 := (mem_ready.1 hr).1
        rw [heq] at h1
        rcases Nat.lt_or_ge i listed.size with h' | h'
        · simp [h'] at h0 h1; rw [h0] at h1; cases h1
        · simp [Array.getElem?_eq_none h'] at h1
      have hap := hfree j oj hoj hji hjun hnot
      obtain ⟨h1, h2, h3⟩ := Oper.apart_spec hap
      have hsi := fun cs b => hsel i oi cs b hi
      have hsj := fun cs b => hsel j oj cs b hoj
      -- what j yields, and what goes on behind both
      have both : ∀ u w', True → wpAnyX P md ops S cv fb Q (fuel + 1) (listed.setIfInBounds i true) (a.put oi.dst u) w' →
          ∃ v, YieldsX P ops S cv oj v a ∧ wpAnyX P md ops S cv fb Q fuel ((listed.setIfInBounds i true).setIfInBounds j true) ((a.put oi.dst u).put oj.dst v) w' := by
        intro u w' _ hK
        have hx := hK.2 j (ready_mono hj hji)
        unfold lxOp at hx
        simp only [hoj] at hx
        rw [wanted_put oj a oi.dst u h1, execOp_put oj hsj a oi.dst u h1, hcj] at hx
        by_cases hwj : Region.wanted oj (yielded ops a.tmps) = true
        · rw [if_pos hwj] at hx
          obtain ⟨v, hv, hk⟩ := hx
          exact ⟨v, .inl ⟨hwj, hcj, hv⟩, hk⟩
        · rw [if_neg hwj] at hx
          exact ⟨undef, .inr ⟨by simpa using hwj, rfl⟩, hx⟩
      obtain ⟨u0, w0, hS0, hK0⟩ := chainRes_some H
      obtain ⟨v, hy, _⟩ := both u0 w0 trivial hK0
      refine hy.lxOp hoj ?_
      have hfree' : ∀ k ok, ops[k]? = some ok → k ≠ i → (listed.setIfInBounds j true).getD k true = false →
          (∀ e ∈ ok.after, Region.binds md e = true → e.on ≠ i) → oi.apart ops ok = true := fun k ok hk hki hun hno => by
        refine hfree k ok hk hki ?_ hno
        by_cases hjk : j = k
        · subst hjk; exact hjun
        · rw [getD_set_ne true hjk] at hun; exact hun
      have hinv' : ∀ k, chainAt cv ops k = true → (k < i → (listed.setIfInBounds j true).getD k true = true) ∧ (i ≤ k → (listed.setIfInBounds j true).getD k false = false) := fun k hk => by
        have hjk : j ≠ k := by
          rintro rfl
          have : chainAt cv ops j = chainOp cv oj := by unfold chainAt; rw [hoj]; rfl
          rw [this, hcj] at hk; cases hk
        rw [getD_set_ne true hjk, getD_set_ne false hjk]
        exact hinv k hk
      refine ih (listed.setIfInBounds j true) _ w (hI.set hj) hS hfree' hinv' (ready_mono hr (Ne.symm hji)) ?_ ?_
      · rw [wanted_put oi a oj.dst v h3]; exact hw
      · rw [execOp_put oi hsi a oj.dst v h3]
        refine chainRes_mono (fun u w' hs hk => ?_) H
        obtain ⟨v', hy', hk'⟩ := both u w' trivial hk
        obtain rfl := YieldsX.uniq hS hy hy'
        rw [Array.setIfInBounds_comm _ _ hji, ← Act.put_comm a u v h2]
        exact hk'

/-- THE WALK IN THE ORDER OF THE TEXT. -/
def wpL0 (P : Program) (ops : Array Oper) (S : World → Prop) (cv fb : Bool) (Q : Act → World → Prop) : List Oper → Act → World → Prop
  | [], a, w => Q a w
  | o :: rest, a, w =>
    if Region.wanted o (yielded ops a.tmps) then
      (if chainOp cv o then S w → chainRes P (fun w' => S w' ∨ (fb = true ∧ rest = [])) (fun v w' => wpL0 P ops S cv fb Q rest (a.put o.dst v) w') ((execOp a.eval o).run P w)
       else ∃ v, (∀ w', S w' → looseRes w' v ((execOp a.eval o).run P w')) ∧ wpL0 P ops S cv fb Q rest (a.put o.dst v) w)
    else wpL0 P ops S cv fb Q rest (a.put o.dst undef) w

theorem wpAnyX_lex {Q : Act → World → Prop} (hs : Region.noSelect ops = true) (hch : chainB md cv ops = true) : ∀ (l : List Oper) (k : Nat) (listed : Array Bool) (a : Act) (w : World), EndInv md ops fb listed → S w → (∀ j, l[j]? = ops[k + j]?) →
    (∀ j, j < ops.size → listed[j]? = some (decide (j < k))) →
    Region.lexFrom md ops l.length k listed = true → wpL0 P ops S cv fb Q l a w → wpAnyX P md ops S cv fb Q l.length listed a w
  | [], _, _, _, _, _, _, _, _, hB, h => ⟨by simpa [Region.lexFrom] using hB, h⟩
  | o :: l, k, listed, a, w, hI, hS, hl, hlst, hB, h => by
    have h0 : ops[k]? = some o := by simpa using (hl 0).symm
    have hk : k < ops.size := (Array.getElem?_eq_some_iff.1 h0).1
    simp only [List.length_cons, Region.lexFrom, Bool.and_eq_true] at hB
    obtain ⟨⟨hr, hf⟩, hB'⟩ := hB
    have hr' : k ∈ Region.ready md ops listed := by simpa using hr
    have hl' : ∀ j, l[j]? = ops[k + 1 + j]? := fun j => by have := hl (j + 1); simpa [Nat.add_assoc, Nat.add_comm 1 j] using this
    have hlst' : ∀ j, j < ops.size → (listed.setIfInBounds k true)[j]? = some (decide (j < k + 1)) := by
      intro j hj
      by_cases e : k = j
      · subst e
        have hsz : k < listed.size := by
          rcases Nat.lt_or_ge k listed.size with h' | h'
          · exact h'
          · have := hlst k hk; rw [Array.getElem?_eq_none h'] at this; cases this
        rw [Array.getElem?_setIfInBounds_self_of_lt hsz]; simp
      · rw [Array.getElem?_setIfInBounds_ne e, hlst j hj]
        have : decide (j < k) = decide (j < k + 1) := by
          rw [Bool.eq_iff_iff]; simp only [decide_eq_true_eq]; omega
        rw [this]
    have hinv : ∀ j, chainAt cv ops j = true → (j < k → listed.getD j true = true) ∧ (k ≤ j → listed.getD j false = false) := by
      intro j hj
      have hjs : j < ops.size := by
        rcases Nat.lt_or_ge j ops.size with h' | h'
        · exact h'
        · unfold chainAt at hj; rw [Array.getElem?_eq_none h'] at hj; cases hj
      have e := hlst j hjs
      have ed : ∀ d, listed.getD j d = decide (j < k) := fun d => by
        simp [e]
      refine ⟨fun hlt => by rw [ed]; simpa using hlt, fun hge => by rw [ed]; simpa using hge⟩
    unfold wpL0 at h
    have hfr := Region.free_spec h0 hf
    by_cases hw : Region.wanted o (yielded ops a.tmps) = true
    · rw [if_pos hw] at h
      cases hc : chainOp cv o with
      | true =>
        rw [hc, if_pos rfl] at h
        refine X_first_chain h0 hc (Region.noSelect_spec hs) hch l.length listed a w hI hS hfr hinv hr' hw
          (chainRes_weaken (fun w' hw' => ?_) (fun v w' hs' hk' => ?_) (h hS))
        · rcases hw' with hw' | ⟨e1, e2⟩
          · exact .inl hw'
          · right
            subst e2
            have := hl 1
            simp at this
            exact ⟨e1, by have := this; omega⟩
        · rcases hs' with hs' | ⟨e1, e2⟩
          · exact wpAnyX_lex hs hch l (k + 1) _ _ w' (hI.set hr') hs' hl' hlst' hB' hk'
          · subst e2
            exact ⟨by simpa [Region.lexFrom] using hB', hk'⟩
      | false =>
        rw [hc] at h
        obtain ⟨v, hv, hK⟩ := h
        exact X_first_loose h0 (Region.noSelect_spec hs) l.length listed a w hI hS hfr hr' (.inl ⟨hw, hc, hv⟩)
          (wpAnyX_lex hs hch l (k + 1) _ _ w (hI.set hr') hS hl' hlst' hB' hK)
    · rw [if_neg hw] at h
      exact X_first_loose h0 (Region.noSelect_spec hs) l.length listed a w hI hS hfr hr' (.inr ⟨by simpa using hw, rfl⟩)
        (wpAnyX_lex hs hch l (k + 1) _ _ w (hI.set hr') hS hl' hlst' hB' h)

/-- The same behind a wall: nothing unfolds it by itself. -/
structure wpLx (P : Program) (ops : Array Oper) (S : World → Prop) (cv fb : Bool) (Q : Act → World → Prop) (l : List Oper) (a : Act) (w : World) : Prop where
  out : wpL0 P ops S cv fb Q l a w

/-- A region that asks the tape. -/
theorem wp_region_lex {id : Nat} {Q : Exit → Act → World → Prop} {a : Act} {w : World} {l : List Oper} (S : World → Prop) (cv : Bool) (hm : P.follows .mixedOrders = true) (hB : Region.lexB .any l.toArray = true) (hC : chainB .any cv l.toArray = true) (hS : S w.drew)
    (h : wpLx P l.toArray S cv false (fun a' w' => S w' → Q .normal a' w') l a w.drew) : (Code.region id l.toArray true).wp P Q a w := by
  simp only [Region.lexB, Bool.and_eq_true] at hB
  have hI : EndInv .any l.toArray false (Array.replicate l.toArray.size false) := ⟨by simp⟩
  refine wp_region_any hm (wpAny_of_X (S := S) (cv := cv) (fb := false) (Q := fun a' w' => S w' → Q .normal a' w') (fun _ w' hw' h => h (hw'.elim (fun h => h) (by simp))) _ _ _ _ hI (.inl hS) ?_)
  have := wpAnyX_lex (S := S) (md := .any) hB.1 hC l 0 (Array.replicate l.toArray.size false) a w.drew hI hS (by simp) (by intro j hj; simp at hj; simp [hj]) (by simpa using hB.2) h.out
  simpa using this
/-- The same where the end waits for all else and may leave the class. -/
theorem wp_region_lexf {id : Nat} {Q : Exit → Act → World → Prop} {a : Act} {w : World} {l : List Oper} (S : World → Prop) (cv : Bool) (hm : P.follows .mixedOrders = true) (hB : Region.lexB .any l.toArray = true) (hC : chainB .any cv l.toArray = true) (hE : endB .any l.toArray = true) (hS : S w.drew)
    (h : wpLx P l.toArray S cv true (fun a' w' => Q .normal a' w') l a w.drew) : (Code.region id l.toArray true).wp P Q a w := by
  simp only [Region.lexB, Bool.and_eq_true] at hB
  have hI : EndInv .any l.toArray true (Array.replicate l.toArray.size false) := ⟨fun _ => ⟨hE, .inl ⟨by simp, fun j oj _ hj => (by rw [getD_replicate_false] at hj; cases hj), fun t ht hts => by simp at hts; simp [hts]⟩⟩⟩
  refine wp_region_any hm (wpAny_of_X (S := S) (cv := cv) (fb := true) (Q := fun a' w' => Q .normal a' w') (fun _ w' _ h => h) _ _ _ _ hI (.inl hS) ?_)
  have := wpAnyX_lex (S := S) (md := .any) hB.1 hC l 0 (Array.replicate l.toArray.size false) a w.drew hI hS (by simp) (by intro j hj; simp at hj; simp [hj]) (by simpa using hB.2) h.out
  simpa using this

theorem wpLx_nil {Q : Act → World → Prop} {a : Act} {w : World} (h : Q a w) : wpLx P ops S cv fb Q [] a w := ⟨h⟩
/-- A plain operation. -/
theorem wpLx_loose {Q : Act → World → Prop} {a : Act} {w : World} {o : Oper} {rest : List Oper} (hc : chainOp cv o = false)
    (h : ∀ K : Act → Prop, (∀ a, wpLx P ops S cv fb Q rest a w → K a) → if Region.wanted o (yielded ops a.tmps) then (∃ v, (∀ x : Subtype S, looseRes x.1 v ((execOp a.eval o).run P x.1)) ∧ K (a.put o.dst v)) else K (a.put o.dst undef)) : wpLx P ops S cv fb Q (o :: rest) a w := by
  have := h _ (fun _ h => h)
  refine ⟨?_⟩
  unfold wpL0
  rw [hc]
  split
  · rename_i hw
    rw [if_pos hw] at this
    obtain ⟨v, hv, hk⟩ := this
    exact ⟨v, fun w' hs => hv ⟨w', hs⟩, hk.out⟩
  · rename_i hw; rw [if_neg hw] at this; exact this.out
/-- An operation of the chain. -/
theorem wpLx_chain {Q : Act → World → Prop} {a : Act} {w : World} {o : Oper} {rest : List Oper} (hS : S w) (hc : chainOp cv o = true)
    (h : ∀ K : Act → World → Prop, (∀ a w, wpLx P ops S cv fb Q rest a w → K a w) → if Region.wanted o (yielded ops a.tmps) then chainRes P S (fun v w' => K (a.put o.dst v) w') ((execOp a.eval o).run P w) else K (a.put o.dst undef) w) : wpLx P ops S cv fb Q (o :: rest) a w := by
  have := h _ (fun _ _ h => h)
  refine ⟨?_⟩
  unfold wpL0
  rw [hc]
  split
  · rename_i hw; rw [if_pos hw] at this; exact fun _ => chainRes_weaken (fun _ h => .inl h) (fun _ _ _ h => h.out) this
  · rename_i hw; rw [if_neg hw] at this; exact this.out
/-- The region's end, where it may leave the class. -/
theorem wpLx_end {Q : Act → World → Prop} {a : Act} {w : World} {o : Oper} (hc : chainOp cv o = true)
    (h : ∀ K : Act → World → Prop, (∀ a w, Q a w → K a w) → if Region.wanted o (yielded ops a.tmps) then chainRes P (fun _ => True) (fun v w' => K (a.put o.dst v) w') ((execOp a.eval o).run P w) else K (a.put o.dst undef) w) : wpLx P ops S cv true Q [o] a w := by
  have := h _ (fun _ _ h => h)
  refine ⟨?_⟩
  unfold wpL0
  rw [hc]
  split
  · rename_i hw; rw [if_pos hw] at this; exact fun _ => chainRes_weaken (fun _ _ => .inr ⟨rfl, rfl⟩) (fun _ _ _ h => h) this
  · rename_i hw; rw [if_neg hw] at this; exact this
end

section
variable (P : Program) (S : World → Prop) (w w' : World) (v u : Value) (K : Value → World → Prop) (f : FuncId) (args : Array Value)
@[go_sem] theorem looseRes_value : looseRes w v (.ok (.value u) w') = (w' = w ∧ u = v) := rfl
@[go_sem] theorem looseRes_skip : looseRes w v (.ok .skip w') = (w' = w ∧ v = undef) := rfl
@[go_sem] theorem chainRes_value : chainRes P S K (.ok (.value u) w') = (S w' ∧ K u w') := rfl
@[go_sem] theorem chainRes_skip : chainRes P S K (.ok .skip w') = (S w' ∧ K undef w') := rfl
@[go_sem] theorem chainRes_enter : chainRes P S K (.ok (.enter f args) w') = Calls P f args w' (fun e w'' => ∃ v, e = .returned v ∧ S w'' ∧ K v w'') := rfl
end
/-- The class of the worlds below whose start nothing has turned. -/
abbrev Bel (W : World) : World → Prop := fun w' => Below W.heap.size W w'
theorem bel_some (W : World) : Nonempty (Subtype (Bel W)) := ⟨⟨W, Below.refl _ _⟩⟩
theorem bel_drew (W : World) : Bel W W.drew := (Below.refl _ _).drew
theorem sub_cell {W : World} {p : Addr} {v : Value} (h : W.cell? p = some v) : ∀ x : Subtype (Bel W), x.1.cell? p = some v :=
  fun x => (x.2.cell (World.block_lt_of_cell? W p h)).trans h
theorem sub_row {W : World} {g o k : Nat} {cs : Array Value} (h : rowAt W g o k = some cs) : ∀ x : Subtype (Bel W), rowAt x.1 g o k = some cs :=
  fun x => (rowAt_of_block (x.2.block g (rowAt_lt h)) o k).trans h
theorem sub_frozen {W : World} {p : Addr} {v : Value} (hc : W.cell? p = some v) (h : W.frozen? p = false) : ∀ x : Subtype (Bel W), x.1.frozen? p = false :=
  fun x => (x.2.frozen (World.block_lt_of_cell? W p hc)).trans h
theorem bel_alloc {W w : World} (h : Bel W w) (o : Obj) : Bel W (w.alloc o) := h.alloc h.size o
theorem step_keep {A B : Prop} (h : A) (k : A → B) : A ∧ B := ⟨h, k h⟩
theorem bel_next {W w w' : World} (h : Bel W w) (k : Below w.heap.size w w') : Bel W w' := h.trans (k.mono h.size)

/-- The class of the worlds in which, of what was there, only the blocks of S may have turned. -/
abbrev Kp (S : List Nat) (W : World) : World → Prop := fun w' => Keep S W w'
theorem kp_some (S : List Nat) (W : World) : Nonempty (Subtype (Kp S W)) := ⟨⟨W, Keep.refl _ _⟩⟩
theorem kp_drew (S : List Nat) (W : World) : Kp S W W.drew := (Keep.drew W).mono (by simp)
theorem ksub_cell {S : List Nat} {W : World} {p : Addr} {v : Value} (h : W.cell? p = some v) (hn : p.block ∉ S) : ∀ x : Subtype (Kp S W), x.1.cell? p = some v :=
  fun x => (x.2.cell (World.block_lt_of_cell? W p h) hn).trans h
theorem ksub_row {S : List Nat} {W : World} {g o k : Nat} {cs : Array Value} (h : rowAt W g o k = some cs) (hn : g ∉ S) : ∀ x : Subtype (Kp S W), rowAt x.1 g o k = some cs :=
  fun x => (x.2.row (rowAt_lt h) hn o k).trans h
theorem kp_alloc {S : List Nat} {W w : World} (h : Kp S W w) (o : Obj) : Kp S W (w.alloc o) := Keep.trans h (Keep.alloc w o) (by simp)
theorem kp_next {S S' : List Nat} {W w w' : World} (h : Kp S W w) (k : Keep S' w w') (hs : ∀ x ∈ S', x ∈ S ∨ W.heap.size ≤ x) : Kp S W w' := Keep.trans h k hs
theorem kp_below {S : List Nat} {W w w' : World} (h : Kp S W w) (k : Below w.heap.size w w') : Kp S W w' := Keep.trans h (Keep.of_below k) (by simp)

end Go.Proofs.Ytlonihfhgfmplaa
