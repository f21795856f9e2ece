/- Regions that draw their order: plain operations as soon as they may come, the others in each order that is left: the walk by a tree of orders. No program is named here. -/
import Derived.Test.YtlonihfhgfmplaaLex
namespace Go.Proofs.Ytlonihfhgfmplaa
open Go.RowKit

/-- Operation number i of a list written out. -/
def nthL {α : Type} : List α → Nat → Option α
  | [], _ => none
  | x :: _, 0 => some x
  | _ :: l, i + 1 => nthL l i
theorem nthL_eq {α : Type} : ∀ (l : List α) (i : Nat), nthL l i = l[i]?
  | [], _ => rfl
  | _ :: _, 0 => rfl
  | _ :: l, i + 1 => by simpa [nthL] using nthL_eq l i
theorem nthL_ops {ops : Array Oper} {i : Nat} {o : Oper} (h : nthL ops.toList i = some o) : ops[i]? = some o := by
  rw [nthL_eq] at h; simpa using h

/-- A tree of orders. -/
inductive Sched where
  | done : Sched
  | loose (i : Nat) (n : Sched) : Sched
  | one (i : Nat) (n : Sched) : Sched
  | two (i : Nat) (n : Sched) (j : Nat) (m : Sched) : Sched
  | three (i : Nat) (n : Sched) (j : Nat) (m : Sched) (k : Nat) (l : Sched) : Sched
def Sched.depth : Sched → Nat
  | .done => 0
  | .loose _ n => n.depth + 1
  | .one _ n => n.depth + 1
  | .two _ n _ m => max n.depth m.depth + 1
  | .three _ n _ m _ l => max (max n.depth m.depth) l.depth + 1
def Sched.ok (md : Region.Mode) (ops : Array Oper) : Sched → Array Bool → Bool
  | .done, listed => (Region.ready md ops listed).isEmpty
  | .loose i n, listed => (Region.ready md ops listed).contains i && Region.free md ops listed i && n.ok md ops (listed.setIfInBounds i true)
  | .one i n, listed => (Region.ready md ops listed == [i]) && n.ok md ops (listed.setIfInBounds i true)
  | .two i n j m, listed => (Region.ready md ops listed == [i, j]) && n.ok md ops (listed.setIfInBounds i true) && m.ok md ops (listed.setIfInBounds j true)
  | .three i n j m k l, listed => (Region.ready md ops listed == [i, j, k]) && n.ok md ops (listed.setIfInBounds i true) && m.ok md ops (listed.setIfInBounds j true) && l.ok md ops (listed.setIfInBounds k true)
/-- The tree of a region: 'skip': operations whose guard is known to be off. -/
def mkSched (md : Region.Mode) (cv : Bool) (ops : Array Oper) (skip : List Nat) : Nat → Array Bool → Sched
  | 0, _ => .done
  | f + 1, listed =>
    match (Region.ready md ops listed).find? (fun i => (!chainAt cv ops i || skip.contains i) && Region.free md ops listed i) with
    | some i => .loose i (mkSched md cv ops skip f (listed.setIfInBounds i true))
    | none =>
      match Region.ready md ops listed with
      | [i] => .one i (mkSched md cv ops skip f (listed.setIfInBounds i true))
      | [i, j] => .two i (mkSched md cv ops skip f (listed.setIfInBounds i true)) j (mkSched md cv ops skip f (listed.setIfInBounds j true))
      | [i, j, k] => .three i (mkSched md cv ops skip f (listed.setIfInBounds i true)) j (mkSched md cv ops skip f (listed.setIfInBounds j true)) k (mkSched md cv ops skip f (listed.setIfInBounds k true))
      | _ => .done

section
variable {P : Program} {ops : Array Oper} {md : Region.Mode} {S : World → Prop} {cv fb : Bool}

def stepT (P : Program) (ops : Array Oper) (S : World → Prop) (cv fb : Bool) (i : Nat) (K : Act → World → Prop) (a : Act) (w : World) : Prop :=
  match ops[i]? with
  | none => False
  | some o => if Region.wanted o (yielded ops a.tmps) then chainOp cv o = true ∧ chainRes P (cls ops S fb i) (fun v w' => K (a.put o.dst v) w') ((execOp a.eval o).run P w) else K (a.put o.dst undef) w
def wpT0 (P : Program) (ops : Array Oper) (S : World → Prop) (cv fb : Bool) (Q : Act → World → Prop) : Sched → Act → World → Prop
  | .done, a, w => Q a w
  | .loose i n, a, w =>
    match ops[i]? with
    | none => False
    | some o => if Region.wanted o (yielded ops a.tmps) then chainOp cv o = false ∧ ∃ v, (∀ w', S w' → looseRes w' v ((execOp a.eval o).run P w')) ∧ wpT0 P ops S cv fb Q n (a.put o.dst v) w else wpT0 P ops S cv fb Q n (a.put o.dst undef) w
  | .one i n, a, w => stepT P ops S cv fb i (wpT0 P ops S cv fb Q n) a w
  | .two i n j m, a, w => stepT P ops S cv fb i (wpT0 P ops S cv fb Q n) a w ∧ stepT P ops S cv fb j (wpT0 P ops S cv fb Q m) a w
  | .three i n j m k l, a, w => stepT P ops S cv fb i (wpT0 P ops S cv fb Q n) a w ∧ stepT P ops S cv fb j (wpT0 P ops S cv fb Q m) a w ∧ stepT P ops S cv fb k (wpT0 P ops S cv fb Q l) a w

theorem Sched.done_of {T : Sched} {listed : Array Bool} (h : T.ok md ops listed = true) (h0 : Region.ready md ops listed = []) : T = .done := by
  cases T <;> simp_all [Sched.ok]

theorem stepT_lx {i : Nat} {K K' : Act → World → Prop} {a : Act} {w : World} (hS : S w) (hk : ∀ a w, cls ops S fb i w → K a w → K' a w) (h : stepT P ops S cv fb i K a w) : lxOp P ops S cv fb i K' a w := by
  unfold stepT at h
  unfold lxOp
  split at h
  · exact h.elim
  · rename_i o ho
    simp only [ho]
    split at h
    · rename_i hw
      rw [if_pos hw, if_pos h.1]
      exact chainRes_mono (fun v w' hs hk' => hk _ _ hs hk') h.2
    · rename_i hw
      rw [if_neg hw]
      exact hk _ _ (.inl hS) h

theorem wpAnyX_tree {Q : Act → World → Prop} (hs : Region.noSelect ops = true) : ∀ (T : Sched) (fuel : Nat) (listed : Array Bool) (a : Act) (w : World), EndInv md ops fb listed → (S w ∨ (fb = true ∧ Region.ready md ops listed = [])) →
    T.ok md ops listed = true → T.depth ≤ fuel → wpT0 P ops S cv fb Q T a w → wpAnyX P md ops S cv fb Q fuel listed a w := by
  have after : ∀ {i : Nat} {listed : Array Bool} {w' : World}, EndInv md ops fb listed → i ∈ Region.ready md ops listed → cls ops S fb i w' → S w' ∨ (fb = true ∧ Region.ready md ops (listed.setIfInBounds i true) = []) := by
    intro i listed w' hI hi hc
    rcases hc with hc | ⟨hfb, he⟩
    · exact .inl hc
    · right
      refine ⟨hfb, ?_⟩
      rcases ((hI.set hi).inv hfb).2 with h1 | h1
      · exfalso
        have := h1.tail i (by omega) (by omega)
        have hsz : i < (listed.setIfInBounds i true).size := by rw [h1.size]; omega
        have hsz' : i < listed.size := by simpa using hsz
        simp [hsz'] at this
      · exact h1
  have nonempty : ∀ {i : Nat} {listed : Array Bool} {w : World}, i ∈ Region.ready md ops listed → (S w ∨ (fb = true ∧ Region.ready md ops listed = [])) → S w := by
    intro i listed w hi h
    rcases h with h | ⟨_, h⟩
    · exact h
    · rw [h] at hi; cases hi
  intro T
  induction T with
  | done =>
    intro fuel listed a w _ _ hok _ h
    have h0 : Region.ready md ops listed = [] := by simpa [Sched.ok] using hok
    cases fuel with
    | zero => exact ⟨h0, h⟩
    | succ f => exact ⟨fun _ => h, fun i hi => by rw [h0] at hi; cases hi⟩
  | loose i n ih =>
    intro fuel listed a w hI hSw hok hd h
    simp only [Sched.ok, Bool.and_eq_true] at hok
    obtain ⟨⟨hr, hf⟩, hn⟩ := hok
    have hr' : i ∈ Region.ready md ops listed := by simpa using hr
    have hS := nonempty hr' hSw
    cases fuel with
    | zero => simp [Sched.depth] at hd
    | succ f =>
      have hd' : n.depth ≤ f := by simp [Sched.depth] at hd; omega
      unfold wpT0 at h
      split at h
      · exact h.elim
      · rename_i o ho
        split at h
        · rename_i hw
          obtain ⟨hc, v, hv, hk⟩ := h
          exact X_first_loose ho (Region.noSelect_spec hs) f listed a w hI hS (Region.free_spec ho hf) hr' (.inl ⟨hw, hc, hv⟩) (ih f _ _ w (hI.set hr') (.inl hS) hn hd' hk)
        · rename_i hw
          exact X_first_loose ho (Region.noSelect_spec hs) f listed a w hI hS (Region.free_spec ho hf) hr' (.inr ⟨by simpa using hw, rfl⟩) (ih f _ _ w (hI.set hr') (.inl hS) hn hd' h)
  | one i n ih =>
    intro fuel listed a w hI hSw hok hd h
    simp only [Sched.ok, Bool.and_eq_true, beq_iff_eq] at hok
    obtain ⟨hr, hn⟩ := hok
    have hr' : i ∈ Region.ready md ops listed := by rw [hr]; simp
    have hS := nonempty hr' hSw
    cases fuel with
    | zero => simp [Sched.depth] at hd
    | succ f =>
      have hd' : n.depth ≤ f := by simp [Sched.depth] at hd; omega
      refine ⟨fun h0 => (by rw [hr] at h0; cases h0), fun x hx => ?_⟩
      have hx' := hx
      rw [hr] at hx'
      obtain rfl : x = i := by simpa using hx'
      exact stepT_lx hS (fun a' w' hc hk => ih f _ a' w' (hI.set hx) (after hI hx hc) hn hd' hk) h
  | two i n j m ih1 ih2 =>
    intro fuel listed a w hI hSw hok hd h
    simp only [Sched.ok, Bool.and_eq_true, beq_iff_eq] at hok
    obtain ⟨⟨hr, hn⟩, hm⟩ := hok
    have hS := nonempty (i := i) (by rw [hr]; simp) hSw
    cases fuel with
    | zero => simp [Sched.depth] at hd
    | succ f =>
      have hd1 : n.depth ≤ f := by simp [Sched.depth] at hd; omega
      have hd2 : m.depth ≤ f := by simp [Sched.depth] at hd; omega
      refine ⟨fun h0 => (by rw [hr] at h0; cases h0), fun x hx => ?_⟩
      have hx' := hx
      rw [hr] at hx'
      rcases List.mem_cons.1 hx' with rfl | hx'
      · exact stepT_lx hS (fun a' w' hc hk => ih1 f _ a' w' (hI.set hx) (after hI hx hc) hn hd1 hk) h.1
      · obtain rfl : x = j := by simpa using hx'
        exact stepT_lx hS (fun a' w' hc hk => ih2 f _ a' w' (hI.set hx) (after hI hx hc) hm hd2 hk) h.2
  | three i n j m k l ih1 ih2 ih3 =>
    intro fuel listed a w hI hSw hok hd h
    simp only [Sched.ok, Bool.and_eq_true, beq_iff_eq] at hok
    obtain ⟨⟨⟨hr, hn⟩, hm⟩, hl⟩ := hok
    have hS := nonempty (i := i) (by rw [hr]; simp) hSw
    cases fuel with
    | zero => simp [Sched.depth] at hd
    | succ f =>
      have hd1 : n.depth ≤ f := by simp [Sched.depth] at hd; omega
      have hd2 : m.depth ≤ f := by simp [Sched.depth] at hd; omega
      have hd3 : l.depth ≤ f := by simp [Sched.depth] at hd; omega
      refine ⟨fun h0 => (by rw [hr] at h0; cases h0), fun x hx => ?_⟩
      have hx' := hx
      rw [hr] at hx'
      rcases List.mem_cons.1 hx' with rfl | hx'
      · exact stepT_lx hS (fun a' w' hc hk => ih1 f _ a' w' (hI.set hx) (after hI hx hc) hn hd1 hk) h.1
      · rcases List.mem_cons.1 hx' with rfl | hx'
        · exact stepT_lx hS (fun a' w' hc hk => ih2 f _ a' w' (hI.set hx) (after hI hx hc) hm hd2 hk) h.2.1
        · obtain rfl : x = k := by simpa using hx'
          exact stepT_lx hS (fun a' w' hc hk => ih3 f _ a' w' (hI.set hx) (after hI hx hc) hl hd3 hk) h.2.2

/-- The same behind a wall. -/
structure wpTx (P : Program) (ops : Array Oper) (S : World → Prop) (cv fb : Bool) (Q : Act → World → Prop) (T : Sched) (a : Act) (w : World) : Prop where
  out : wpT0 P ops S cv fb Q T a w

theorem wp_region_tree {id : Nat} {Q : Exit → Act → World → Prop} {a : Act} {w : World} {ops : Array Oper} (T : Sched) (S : World → Prop) (cv : Bool) (hm : P.follows .mixedOrders = true) (hs : Region.noSelect ops = true) (hT : T.ok .any ops (Array.replicate ops.size false) = true) (hd : Nat.ble T.depth ops.size = true) (hS : S w.drew)
    (h : wpTx P ops S cv false (fun a' w' => S w' → Q .normal a' w') T a w.drew) : (Code.region id ops true).wp P Q a w := by
  have hI : EndInv .any ops false (Array.replicate ops.size false) := ⟨by simp⟩
  exact wp_region_any hm (wpAny_of_X (S := S) (cv := cv) (fb := false) (Q := fun a' w' => S w' → Q .normal a' w') (fun _ w' hw' h => h (hw'.elim (fun h => h) (by simp))) _ _ _ _ hI (.inl hS)
    (wpAnyX_tree (md := .any) hs T _ _ a w.drew hI (.inl hS) hT (Nat.le_of_ble_eq_true hd) h.out))
theorem wp_region_treef {id : Nat} {Q : Exit → Act → World → Prop} {a : Act} {w : World} {ops : Array Oper} (T : Sched) (S : World → Prop) (cv : Bool) (hm : P.follows .mixedOrders = true) (hs : Region.noSelect ops = true) (hT : T.ok .any ops (Array.replicate ops.size false) = true) (hd : Nat.ble T.depth ops.size = true) (hE : endB .any ops = true) (hS : S w.drew)
    (h : wpTx P ops S cv true (fun a' w' => Q .normal a' w') T a w.drew) : (Code.region id ops true).wp P Q a w := by
  have hI : EndInv .any ops true (Array.replicate ops.size false) := ⟨fun _ => ⟨hE, .inl ⟨by simp, fun j oj _ hj => (by rw [getD_replicate_false] at hj; cases hj), fun t ht hts => by simp [hts]⟩⟩⟩
  exact wp_region_any hm (wpAny_of_X (S := S) (cv := cv) (fb := true) (Q := fun a' w' => Q .normal a' w') (fun _ w' _ h => h) _ _ _ _ hI (.inl hS)
    (wpAnyX_tree (md := .any) hs T _ _ a w.drew hI (.inl hS) hT (Nat.le_of_ble_eq_true hd) h.out))

variable {Q : Act → World → Prop} {a : Act} {w : World} {o : Oper} {i j k : Nat} {n m l : Sched}
theorem wpTx_done (h : Q a w) : wpTx P ops S cv fb Q .done a w := ⟨h⟩
theorem wpTx_loose (ho' : nthL ops.toList i = some o) (hc : chainOp cv o = false)
    (h : ∀ K : Act → Prop, (∀ a, wpTx P ops S cv fb Q n a w → K a) → if Region.wanted o (yielded ops a.tmps) then (∃ v, (∀ x : Subtype S, looseRes x.1 v ((execOp a.eval o).run P x.1)) ∧ K (a.put o.dst v)) else K (a.put o.dst undef)) : wpTx P ops S cv fb Q (.loose i n) a w   := by
  have ho := nthL_ops ho'
  have := h _ (fun _ h => h)
  refine ⟨?_⟩
  unfold wpT0
  simp only [ho]
  split
  · rename_i hw
    rw [if_pos hw] at this
    obtain ⟨v, hv, hk⟩ := this
    exact ⟨hc, v, fun w' hs => hv ⟨w', hs⟩, hk.out⟩
  · rename_i hw; rw [if_neg hw] at this; exact this.out
/-- An operation whose guard is off. -/
theorem wpTx_skip (ho' : nthL ops.toList i = some o) (h : ∀ K : Act → Prop, (∀ a, wpTx P ops S cv fb Q n a w → K a) → if Region.wanted o (yielded ops a.tmps) then False else K (a.put o.dst undef)) : wpTx P ops S cv fb Q (.loose i n) a w   := by
  have ho := nthL_ops ho'
  have := h _ (fun _ h => h)
  refine ⟨?_⟩
  unfold wpT0
  simp only [ho]
  split
  · rename_i hw; rw [if_pos hw] at this; exact this.elim
  · rename_i hw; rw [if_neg hw] at this; exact this.out
theorem wpTx_one (hS : S w) (ho' : nthL ops.toList i = some o) (hc : chainOp cv o = true)
    (h : ∀ K : Act → World → Prop, (∀ a w, wpTx P ops S cv fb Q n a w → K a w) → if Region.wanted o (yielded ops a.tmps) then chainRes P S (fun v w' => K (a.put o.dst v) w') ((execOp a.eval o).run P w) else K (a.put o.dst undef) w) : wpTx P ops S cv fb Q (.one i n) a w   := by
  have ho := nthL_ops ho'
  have := h _ (fun _ _ h => h)
  refine ⟨?_⟩
  unfold wpT0 stepT
  simp only [ho]
  split
  · rename_i hw; rw [if_pos hw] at this; exact ⟨hc, chainRes_weaken (fun _ h => .inl h) (fun _ _ _ h => h.out) this⟩
  · rename_i hw; rw [if_neg hw] at this; exact this.out
theorem wpTx_two (h1 : wpTx P ops S cv fb Q (.one i n) a w) (h2 : wpTx P ops S cv fb Q (.one j m) a w) : wpTx P ops S cv fb Q (.two i n j m) a w := ⟨⟨h1.out, h2.out⟩⟩
theorem wpTx_three (h1 : wpTx P ops S cv fb Q (.one i n) a w) (h2 : wpTx P ops S cv fb Q (.one j m) a w) (h3 : wpTx P ops S cv fb Q (.one k l) a w) : wpTx P ops S cv fb Q (.three i n j m k l) a w := ⟨⟨h1.out, h2.out, h3.out⟩⟩
/-- The region's end, where it may leave the class. -/
theorem wpTx_end (ho' : nthL ops.toList i = some o) (hc : chainOp cv o = true) (hi : (i + 1 == ops.size) = true)
    (h : ∀ K : Act → World → Prop, (∀ a w, Q a w → K a w) → if Region.wanted o (yielded ops a.tmps) then chainRes P (fun _ => True) (fun v w' => K (a.put o.dst v) w') ((execOp a.eval o).run P w) else K (a.put o.dst undef) w) : wpTx P ops S cv true Q (.one i .done) a w   := by
  have ho := nthL_ops ho'
  have := h _ (fun _ _ h => h)
  refine ⟨?_⟩
  unfold wpT0 stepT
  simp only [ho]
  split
  · rename_i hw; rw [if_pos hw] at this; exact ⟨hc, chainRes_weaken (fun _ _ => .inr ⟨rfl, beq_iff_eq.1 hi⟩) (fun _ _ _ h => h) this⟩
  · rename_i hw; rw [if_neg hw] at this; exact this
end

end Go.Proofs.Ytlonihfhgfmplaa
