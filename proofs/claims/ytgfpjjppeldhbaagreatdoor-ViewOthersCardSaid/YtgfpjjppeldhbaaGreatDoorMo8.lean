/- Part 8 of the texts that lead to this claim: the walks of the functions and the plain law, in order. -/
import Derived.Test.YtgfpjjppeldhbaaGreatDoorMo7
import Derived.Test.YtgfpjjppeldhbaaGreatDoorLayGrow
import Derived.LoopN

/- Lists as trees (package seq): the plain law of nodes and of those behind each. -/
namespace Go.Proofs.YtgfpjjppeldhbaaGreatDoor
open Go.RowKit

/-- A node. -/
structure NodeV where
  id : Id32
  h : Int
  ref : Id32
  val : ByteArray
theorem NodeV.ext' {a b : NodeV} (h1 : a.id = b.id) (h2 : a.h = b.h) (h3 : a.ref = b.ref) (h4 : a.val = b.val) : a = b := by cases a; cases b; simp_all

theorem totI : TotC cmpI where
  zero a b := by unfold cmpI; constructor <;> intro h <;> (repeat' split at *) <;> omega
  anti a b := by unfold cmpI; (repeat' split) <;> omega
  trans a b d := by unfold cmpI; (repeat' split) <;> omega
theorem TotC.rev {α : Type} {c : α → α → Int} (T : TotC c) : TotC (fun a b => c b a) where
  zero a b := by rw [T.zero]; exact ⟨Eq.symm, Eq.symm⟩
  anti a b := T.anti _ _
  trans a b d h1 h2 := T.trans _ _ _ h2 h1

/-- The order of a row: the greatest height first, then the greatest id. -/
def cmpN (a b : NodeV) : Int := orC (cmpI b.h a.h) (orC (cmpId b.id a.id) (orC (cmpId a.ref b.ref) (cmpS a.val b.val)))
theorem totN : TotC cmpN :=
  TotC.of (c := fun (x y : Int × (Id32 × (Id32 × ByteArray))) => orC (cmpI y.1 x.1) (orC (cmpId y.2.1 x.2.1) (orC (cmpId x.2.2.1 y.2.2.1) (cmpS x.2.2.2 y.2.2.2))))
    (TotC.pair (c := fun a b => cmpI b a) totI.rev (TotC.pair (c := fun a b => cmpId b a) totId.rev (TotC.pair totId totS))) (fun n => (n.h, n.id, n.ref, n.val))
    (fun x y h => by simp only [Prod.mk.injEq] at h; exact NodeV.ext' h.2.1 h.1 h.2.2.1 h.2.2.2) (fun _ _ => rfl)
/-- The order of nodes by their ids. -/
def cmpM (a b : NodeV) : Int := orC (cmpId a.id b.id) (orC (cmpI a.h b.h) (orC (cmpId a.ref b.ref) (cmpS a.val b.val)))
theorem totM : TotC cmpM :=
  TotC.of (c := fun (x y : Id32 × (Int × (Id32 × ByteArray))) => orC (cmpId x.1 y.1) (orC (cmpI x.2.1 y.2.1) (orC (cmpId x.2.2.1 y.2.2.1) (cmpS x.2.2.2 y.2.2.2))))
    (TotC.pair totId (TotC.pair totI (TotC.pair totId totS))) (fun n => (n.id, n.h, n.ref, n.val))
    (fun x y h => by simp only [Prod.mk.injEq] at h; exact NodeV.ext' h.1 h.2.1 h.2.2.1 h.2.2.2) (fun _ _ => rfl)

/-- Does the first one stand ahead: by heights, then by ids. -/
def aheadB (ah : Int) (a : Id32) (bh : Int) (b : Id32) : Bool := if ah = bh then decide (cmpId a b < 0) else decide (ah < bh)
/-- Each id is one node's. -/
def OneId (N : List NodeV) : Prop := ∀ a ∈ N, ∀ b ∈ N, a.id = b.id → a = b

theorem cmpN_ahead {a b : NodeV} (h : a.id ≠ b.id) : decide (cmpN b a < 0) = aheadB a.h a.id b.h b.id := by
  have hid : cmpId a.id b.id ≠ 0 := fun e => h ((cmpId_zero _ _).1 e)
  unfold cmpN aheadB orC cmpI
  by_cases e : a.h = b.h
  · rw [if_pos (by rw [if_neg (by omega), if_neg (by omega)]), if_neg hid, if_pos e]
  · rw [if_neg e]
    rw [if_neg (by (repeat' split) <;> omega)]
    by_cases h1 : a.h < b.h
    · rw [if_pos h1]; simp [h1]
    · rw [if_neg h1, if_pos (by omega)]; simp [h1]

/-- The nodes behind one, in order. -/
def kids (N : List NodeV) (r : Id32) : List NodeV := sortC cmpN (N.filter fun n => decide (n.ref = r))
theorem mem_kids {N : List NodeV} {r : Id32} {n : NodeV} : n ∈ kids N r ↔ n ∈ N ∧ n.ref = r := by unfold kids; rw [mem_sortC totN]; simp
theorem ris_kids (N : List NodeV) (r : Id32) : Ris cmpN (kids N r) := ris_sortC totN _
theorem kids_congr {N M : List NodeV} (h : ∀ n, n ∈ N ↔ n ∈ M) (r : Id32) : kids N r = kids M r := sortC_congr totN fun z => by simp [h]
theorem kids_cons (N : List NodeV) (n : NodeV) (r : Id32) : kids (n :: N) r = if n.ref = r then insC cmpN (kids N r) n else kids N r := by
  refine ris_ext totN (ris_kids _ _) ?_ fun z => ?_
  · split
    · exact ris_insC totN (ris_kids _ _)
    · exact ris_kids _ _
  · rw [mem_kids, List.mem_cons]
    split
    · rename_i e
      rw [mem_insC totN, mem_kids]
      constructor
      · rintro ⟨h1 | h1, h2⟩
        · exact .inl h1
        · exact .inr ⟨h1, h2⟩
      · rintro (h1 | ⟨h1, h2⟩)
        · subst h1; exact ⟨.inl rfl, e⟩
        · exact ⟨.inr h1, h2⟩
    · rename_i e
      rw [mem_kids]
      constructor
      · rintro ⟨h1 | h1, h2⟩
        · subst h1; exact absurd h2 e
        · exact ⟨h1, h2⟩
      · rintro ⟨h1, h2⟩; exact ⟨.inr h1, h2⟩
theorem kids_length (N : List NodeV) (r : Id32) : (kids N r).length ≤ N.length := by
  unfold kids
  exact Nat.le_trans (sortC_length _) (List.length_filter_le _ _)

/-- All nodes that are in order. -/
def orderN (N : List NodeV) : List NodeV := preD (kids N) NodeV.id (N.length + 1) id0
/-- Nodes of which none bears the zero id, each id once. -/
def Forest (N : List NodeV) : Prop := OneId N ∧ ∀ a ∈ N, a.id ≠ id0
theorem Forest.deep {N : List NodeV} (h : Forest N) : Deep (kids N) NodeV.id (N.length + 1) id0 :=
  deep_root (N := N) (refn := NodeV.ref) h.1 (fun _ _ hc => mem_kids.1 hc) h.2

end Go.Proofs.YtgfpjjppeldhbaaGreatDoor

/- Lists as trees: what is told of a list does not hang on how its nodes are kept. -/
namespace Go.Proofs.YtgfpjjppeldhbaaGreatDoor
open Go.RowKit

theorem kids_fun {N M : List NodeV} (h : ∀ n, n ∈ N ↔ n ∈ M) : kids N = kids M := funext fun r => kids_congr h r
theorem Forest.congr {N M : List NodeV} (h : ∀ n, n ∈ N ↔ n ∈ M) (f : Forest N) : Forest M :=
  ⟨fun a ha b hb e => f.1 a ((h a).2 ha) b ((h b).2 hb) e, fun a ha => f.2 a ((h a).2 ha)⟩
theorem orderN_congr {N M : List NodeV} (h : ∀ n, n ∈ N ↔ n ∈ M) (f : Forest N) : orderN N = orderN M := by
  unfold orderN
  have h1 := f.deep
  have h2 := (f.congr h).deep
  rw [kids_fun h] at h1 ⊢
  exact pre_any h1 h2
theorem orderN_nodup {N : List NodeV} (f : Forest N) : (orderN N).Nodup ∧ ∀ x ∈ orderN N, x ∈ N :=
  pre_nodup (refn := NodeV.ref) f.1 (fun _ _ hc => mem_kids.1 hc) f.2 (fun r => (ris_kids N r).nodup totN) f.deep
theorem orderN_length {N : List NodeV} (f : Forest N) : (orderN N).length ≤ N.length := subs_len (orderN_nodup f).1 (orderN_nodup f).2

/-- What a list shows: the nodes in order that are not gone. -/
def seen (N : List NodeV) (G : List Id32) : List ByteArray := ((orderN N).filter fun n => decide (n.id ∉ G)).map NodeV.val

/-- A node may be. -/
def nodeE (n : NodeV) : Int := if 16 < n.val.size then 3 else if n.h < 1 ∨ 1073741824 < n.h ∨ n.id = id0 then 5 else 0
/-- One more node, as the reference keeps them: by rising ids, the first of each. -/
def insN (N : List NodeV) (n : NodeV) : List NodeV := if nodeE n = 0 then (if n.id ∈ N.map NodeV.id then N else insC cmpM N n) else N
structure NodesOk (N : List NodeV) : Prop where
  ris : Ris cmpM N
  one : OneId N
  ok : ∀ n ∈ N, nodeE n = 0
theorem nodeE_id {n : NodeV} (h : nodeE n = 0) : n.id ≠ id0 ∧ n.val.size ≤ 16 ∧ 1 ≤ n.h ∧ n.h ≤ 1073741824 := by
  unfold nodeE at h
  split at h
  · cases h
  · split at h
    · cases h
    · rename_i h1 h2
      refine ⟨fun e => h2 (.inr (.inr e)), by omega, ?_, ?_⟩
      · exact Classical.byContradiction fun hh => h2 (.inl (by omega))
      · exact Classical.byContradiction fun hh => h2 (.inr (.inl (by omega)))
theorem NodesOk.forest {N : List NodeV} (h : NodesOk N) : Forest N := ⟨h.one, fun a ha => (nodeE_id (h.ok a ha)).1⟩
theorem NodesOk.nil : NodesOk [] := ⟨Ris.nil, fun a ha => by simp at ha, by simp⟩
theorem NodesOk.ins {N : List NodeV} (h : NodesOk N) (n : NodeV) : NodesOk (insN N n) := by
  unfold insN
  split
  · rename_i hE
    split
    · exact h
    · rename_i hn
      have hne : ∀ a ∈ N, a.id ≠ n.id := fun a ha e => hn (List.mem_map.2 ⟨a, ha, e⟩)
      refine ⟨ris_insC totM h.ris, fun a ha b hb e => ?_, fun a ha => ?_⟩
      · rcases (mem_insC totM).1 ha with ha1 | ha1 <;> rcases (mem_insC totM).1 hb with hb1 | hb1
        · rw [ha1, hb1]
        · rw [ha1] at e; exact absurd e.symm (hne b hb1)
        · rw [hb1] at e; exact absurd e (hne a ha1)
        · exact h.one a ha1 b hb1 e
      · rcases (mem_insC totM).1 ha with ha | ha
        · rw [ha]; exact hE
        · exact h.ok a ha
  · exact h
theorem mem_insN {N : List NodeV} {n : NodeV} (hE : nodeE n = 0) (hn : n.id ∉ N.map NodeV.id) {z : NodeV} : z ∈ insN N n ↔ z = n ∨ z ∈ N := by
  unfold insN; rw [if_pos hE, if_neg hn]; exact mem_insC totM

end Go.Proofs.YtgfpjjppeldhbaaGreatDoor

/- Regions that draw their order: plain operations as soon as they may come, the others in each order that is left: the walk by a tree of orders. No program is named here. -/
namespace Go.Proofs.YtgfpjjppeldhbaaGreatDoor
open Go.RowKit

/-- Operation number i of a list written out. -/
def nthL {α : Type} : List α → Nat → Option α
  | [], _ => none
  | x :: _, 0 => some x
  | _ :: l, i + 1 => nthL l i
theorem nthL_eq {α : Type} : ∀ (l : List α) (i : Nat), nthL l i = l[i]?
  | [], _ => rfl
  | _ :: _, 0 => rfl
  | _ :: l, i + 1 => by simpa [nthL] using nthL_eq l i
theorem nthL_ops {ops : Array Oper} {i : Nat} {o : Oper} (h : nthL ops.toList i = some o) : ops[i]? = some o := by
  rw [nthL_eq] at h; simpa using h

/-- A tree of orders. -/
inductive Sched where
  | done : Sched
  | loose (i : Nat) (n : Sched) : Sched
  | one (i : Nat) (n : Sched) : Sched
  | two (i : Nat) (n : Sched) (j : Nat) (m : Sched) : Sched
  | three (i : Nat) (n : Sched) (j : Nat) (m : Sched) (k : Nat) (l : Sched) : Sched
def Sched.depth : Sched → Nat
  | .done => 0
  | .loose _ n => n.depth + 1
  | .one _ n => n.depth + 1
  | .two _ n _ m => max n.depth m.depth + 1
  | .three _ n _ m _ l => max (max n.depth m.depth) l.depth + 1
def Sched.ok (md : Region.Mode) (ops : Array Oper) : Sched → Array Bool → Bool
  | .done, listed => (Region.ready md ops listed).isEmpty
  | .loose i n, listed => (Region.ready md ops listed).contains i && Region.free md ops listed i && n.ok md ops (listed.setIfInBounds i true)
  | .one i n, listed => (Region.ready md ops listed == [i]) && n.ok md ops (listed.setIfInBounds i true)
  | .two i n j m, listed => (Region.ready md ops listed == [i, j]) && n.ok md ops (listed.setIfInBounds i true) && m.ok md ops (listed.setIfInBounds j true)
  | .three i n j m k l, listed => (Region.ready md ops listed == [i, j, k]) && n.ok md ops (listed.setIfInBounds i true) && m.ok md ops (listed.setIfInBounds j true) && l.ok md ops (listed.setIfInBounds k true)
/-- The tree of a region: 'skip': operations whose guard is known to be off. -/
def mkSched (md : Region.Mode) (cv : Bool) (ops : Array Oper) (skip : List Nat) : Nat → Array Bool → Sched
  | 0, _ => .done
  | f + 1, listed =>
    match (Region.ready md ops listed).find? (fun i => (!chainAt cv ops i || skip.contains i) && Region.free md ops listed i) with
    | some i => .loose i (mkSched md cv ops skip f (listed.setIfInBounds i true))
    | none =>
      match Region.ready md ops listed with
      | [i] => .one i (mkSched md cv ops skip f (listed.setIfInBounds i true))
      | [i, j] => .two i (mkSched md cv ops skip f (listed.setIfInBounds i true)) j (mkSched md cv ops skip f (listed.setIfInBounds j true))
      | [i, j, k] => .three i (mkSched md cv ops skip f (listed.setIfInBounds i true)) j (mkSched md cv ops skip f (listed.setIfInBounds j true)) k (mkSched md cv ops skip f (listed.setIfInBounds k true))
      | _ => .done

section
variable {P : Program} {ops : Array Oper} {md : Region.Mode} {S : World → Prop} {cv fb : Bool}

def stepT (P : Program) (ops : Array Oper) (S : World → Prop) (cv fb : Bool) (i : Nat) (K : Act → World → Prop) (a : Act) (w : World) : Prop :=
  match ops[i]? with
  | none => False
  | some o => if Region.wanted o (yielded ops a.tmps) then chainOp cv o = true ∧ chainRes P (cls ops S fb i) (fun v w' => K (a.put o.dst v) w') ((execOp a.eval o).run P w) else K (a.put o.dst undef) w
def wpT0 (P : Program) (ops : Array Oper) (S : World → Prop) (cv fb : Bool) (Q : Act → World → Prop) : Sched → Act → World → Prop
  | .done, a, w => Q a w
  | .loose i n, a, w =>
    match ops[i]? with
    | none => False
    | some o => if Region.wanted o (yielded ops a.tmps) then chainOp cv o = false ∧ ∃ v, (∀ w', S w' → looseRes w' v ((execOp a.eval o).run P w')) ∧ wpT0 P ops S cv fb Q n (a.put o.dst v) w else wpT0 P ops S cv fb Q n (a.put o.dst undef) w
  | .one i n, a, w => stepT P ops S cv fb i (wpT0 P ops S cv fb Q n) a w
  | .two i n j m, a, w => stepT P ops S cv fb i (wpT0 P ops S cv fb Q n) a w ∧ stepT P ops S cv fb j (wpT0 P ops S cv fb Q m) a w
  | .three i n j m k l, a, w => stepT P ops S cv fb i (wpT0 P ops S cv fb Q n) a w ∧ stepT P ops S cv fb j (wpT0 P ops S cv fb Q m) a w ∧ stepT P ops S cv fb k (wpT0 P ops S cv fb Q l) a w

theorem Sched.done_of {T : Sched} {listed : Array Bool} (h : T.ok md ops listed = true) (h0 : Region.ready md ops listed = []) : T = .done := by
  cases T <;> simp_all [Sched.ok]

theorem stepT_lx {i : Nat} {K K' : Act → World → Prop} {a : Act} {w : World} (hS : S w) (hk : ∀ a w, cls ops S fb i w → K a w → K' a w) (h : stepT P ops S cv fb i K a w) : lxOp P ops S cv fb i K' a w := by
  unfold stepT at h
  unfold lxOp
  split at h
  · exact h.elim
  · rename_i o ho
    simp only [ho]
    split at h
    · rename_i hw
      rw [if_pos hw, if_pos h.1]
      exact chainRes_mono (fun v w' hs hk' => hk _ _ hs hk') h.2
    · rename_i hw
      rw [if_neg hw]
      exact hk _ _ (.inl hS) h

theorem wpAnyX_tree {Q : Act → World → Prop} (hs : Region.noSelect ops = true) : ∀ (T : Sched) (fuel : Nat) (listed : Array Bool) (a : Act) (w : World), EndInv md ops fb listed → (S w ∨ (fb = true ∧ Region.ready md ops listed = [])) →
    T.ok md ops listed = true → T.depth ≤ fuel → wpT0 P ops S cv fb Q T a w → wpAnyX P md ops S cv fb Q fuel listed a w := by
  have after : ∀ {i : Nat} {listed : Array Bool} {w' : World}, EndInv md ops fb listed → i ∈ Region.ready md ops listed → cls ops S fb i w' → S w' ∨ (fb = true ∧ Region.ready md ops (listed.setIfInBounds i true) = []) := by
    intro i listed w' hI hi hc
    rcases hc with hc | ⟨hfb, he⟩
    · exact .inl hc
    · right
      refine ⟨hfb, ?_⟩
      rcases ((hI.set hi).inv hfb).2 with h1 | h1
      · exfalso
        have := h1.tail i (by omega) (by omega)
        have hsz : i < (listed.setIfInBounds i true).size := by rw [h1.size]; omega
        have hsz' : i < listed.size := by simpa using hsz
        simp [hsz'] at this
      · exact h1
  have nonempty : ∀ {i : Nat} {listed : Array Bool} {w : World}, i ∈ Region.ready md ops listed → (S w ∨ (fb = true ∧ Region.ready md ops listed = [])) → S w := by
    intro i listed w hi h
    rcases h with h | ⟨_, h⟩
    · exact h
    · rw [h] at hi; cases hi
  intro T
  induction T with
  | done =>
    intro fuel listed a w _ _ hok _ h
    have h0 : Region.ready md ops listed = [] := by simpa [Sched.ok] using hok
    cases fuel with
    | zero => exact ⟨h0, h⟩
    | succ f => exact ⟨fun _ => h, fun i hi => by rw [h0] at hi; cases hi⟩
  | loose i n ih =>
    intro fuel listed a w hI hSw hok hd h
    simp only [Sched.ok, Bool.and_eq_true] at hok
    obtain ⟨⟨hr, hf⟩, hn⟩ := hok
    have hr' : i ∈ Region.ready md ops listed := by simpa using hr
    have hS := nonempty hr' hSw
    cases fuel with
    | zero => simp [Sched.depth] at hd
    | succ f =>
      have hd' : n.depth ≤ f := by simp [Sched.depth] at hd; omega
      unfold wpT0 at h
      split at h
      · exact h.elim
      · rename_i o ho
        split at h
        · rename_i hw
          obtain ⟨hc, v, hv, hk⟩ := h
          exact X_first_loose ho (Region.noSelect_spec hs) f listed a w hI hS (Region.free_spec ho hf) hr' (.inl ⟨hw, hc, hv⟩) (ih f _ _ w (hI.set hr') (.inl hS) hn hd' hk)
        · rename_i hw
          exact X_first_loose ho (Region.noSelect_spec hs) f listed a w hI hS (Region.free_spec ho hf) hr' (.inr ⟨by simpa using hw, rfl⟩) (ih f _ _ w (hI.set hr') (.inl hS) hn hd' h)
  | one i n ih =>
    intro fuel listed a w hI hSw hok hd h
    simp only [Sched.ok, Bool.and_eq_true, beq_iff_eq] at hok
    obtain ⟨hr, hn⟩ := hok
    have hr' : i ∈ Region.ready md ops listed := by rw [hr]; simp
    have hS := nonempty hr' hSw
    cases fuel with
    | zero => simp [Sched.depth] at hd
    | succ f =>
      have hd' : n.depth ≤ f := by simp [Sched.depth] at hd; omega
      refine ⟨fun h0 => (by rw [hr] at h0; cases h0), fun x hx => ?_⟩
      have hx' := hx
      rw [hr] at hx'
      obtain rfl : x = i := by simpa using hx'
      exact stepT_lx hS (fun a' w' hc hk => ih f _ a' w' (hI.set hx) (after hI hx hc) hn hd' hk) h
  | two i n j m ih1 ih2 =>
    intro fuel listed a w hI hSw hok hd h
    simp only [Sched.ok, Bool.and_eq_true, beq_iff_eq] at hok
    obtain ⟨⟨hr, hn⟩, hm⟩ := hok
    have hS := nonempty (i := i) (by rw [hr]; simp) hSw
    cases fuel with
    | zero => simp [Sched.depth] at hd
    | succ f =>
      have hd1 : n.depth ≤ f := by simp [Sched.depth] at hd; omega
      have hd2 : m.depth ≤ f := by simp [Sched.depth] at hd; omega
      refine ⟨fun h0 => (by rw [hr] at h0; cases h0), fun x hx => ?_⟩
      have hx' := hx
      rw [hr] at hx'
      rcases List.mem_cons.1 hx' with rfl | hx'
      · exact stepT_lx hS (fun a' w' hc hk => ih1 f _ a' w' (hI.set hx) (after hI hx hc) hn hd1 hk) h.1
      · obtain rfl : x = j := by simpa using hx'
        exact stepT_lx hS (fun a' w' hc hk => ih2 f _ a' w' (hI.set hx) (after hI hx hc) hm hd2 hk) h.2
  | three i n j m k l ih1 ih2 ih3 =>
    intro fuel listed a w hI hSw hok hd h
    simp only [Sched.ok, Bool.and_eq_true, beq_iff_eq] at hok
    obtain ⟨⟨⟨hr, hn⟩, hm⟩, hl⟩ := hok
    have hS := nonempty (i := i) (by rw [hr]; simp) hSw
    cases fuel with
    | zero => simp [Sched.depth] at hd
    | succ f =>
      have hd1 : n.depth ≤ f := by simp [Sched.depth] at hd; omega
      have hd2 : m.depth ≤ f := by simp [Sched.depth] at hd; omega
      have hd3 : l.depth ≤ f := by simp [Sched.depth] at hd; omega
      refine ⟨fun h0 => (by rw [hr] at h0; cases h0), fun x hx => ?_⟩
      have hx' := hx
      rw [hr] at hx'
      rcases List.mem_cons.1 hx' with rfl | hx'
      · exact stepT_lx hS (fun a' w' hc hk => ih1 f _ a' w' (hI.set hx) (after hI hx hc) hn hd1 hk) h.1
      · rcases List.mem_cons.1 hx' with rfl | hx'
        · exact stepT_lx hS (fun a' w' hc hk => ih2 f _ a' w' (hI.set hx) (after hI hx hc) hm hd2 hk) h.2.1
        · obtain rfl : x = k := by simpa using hx'
          exact stepT_lx hS (fun a' w' hc hk => ih3 f _ a' w' (hI.set hx) (after hI hx hc) hl hd3 hk) h.2.2

/-- The same behind a wall. -/
structure wpTx (P : Program) (ops : Array Oper) (S : World → Prop) (cv fb : Bool) (Q : Act → World → Prop) (T : Sched) (a : Act) (w : World) : Prop where
  out : wpT0 P ops S cv fb Q T a w

theorem wp_region_tree {id : Nat} {Q : Exit → Act → World → Prop} {a : Act} {w : World} {ops : Array Oper} (T : Sched) (S : World → Prop) (cv : Bool) (hm : P.follows .mixedOrders = true) (hs : Region.noSelect ops = true) (hT : T.ok .any ops (Array.replicate ops.size false) = true) (hd : Nat.ble T.depth ops.size = true) (hS : S w.drew)
    (h : wpTx P ops S cv false (fun a' w' => S w' → Q .normal a' w') T a w.drew) : (Code.region id ops true).wp P Q a w := by
  have hI : EndInv .any ops false (Array.replicate ops.size false) := ⟨by simp⟩
  exact wp_region_any hm (wpAny_of_X (S := S) (cv := cv) (fb := false) (Q := fun a' w' => S w' → Q .normal a' w') (fun _ w' hw' h => h (hw'.elim (fun h => h) (by simp))) _ _ _ _ hI (.inl hS)
    (wpAnyX_tree (md := .any) hs T _ _ a w.drew hI (.inl hS) hT (Nat.le_of_ble_eq_true hd) h.out))
theorem wp_region_treef {id : Nat} {Q : Exit → Act → World → Prop} {a : Act} {w : World} {ops : Array Oper} (T : Sched) (S : World → Prop) (cv : Bool) (hm : P.follows .mixedOrders = true) (hs : Region.noSelect ops = true) (hT : T.ok .any ops (Array.replicate ops.size false) = true) (hd : Nat.ble T.depth ops.size = true) (hE : endB .any ops = true) (hS : S w.drew)
    (h : wpTx P ops S cv true (fun a' w' => Q .normal a' w') T a w.drew) : (Code.region id ops true).wp P Q a w := by
  have hI : EndInv .any ops true (Array.replicate ops.size false) := ⟨fun _ => ⟨hE, .inl ⟨by simp, fun j oj _ hj => (by rw [getD_replicate_false] at hj; cases hj), fun t ht hts => by simp [hts]⟩⟩⟩
  exact wp_region_any hm (wpAny_of_X (S := S) (cv := cv) (fb := true) (Q := fun a' w' => Q .normal a' w') (fun _ w' _ h => h) _ _ _ _ hI (.inl hS)
    (wpAnyX_tree (md := .any) hs T _ _ a w.drew hI (.inl hS) hT (Nat.le_of_ble_eq_true hd) h.out))

variable {Q : Act → World → Prop} {a : Act} {w : World} {o : Oper} {i j k : Nat} {n m l : Sched}
theorem wpTx_done (h : Q a w) : wpTx P ops S cv fb Q .done a w := ⟨h⟩
theorem wpTx_loose (ho' : nthL ops.toList i = some o) (hc : chainOp cv o = false)
    (h : ∀ K : Act → Prop, (∀ a, wpTx P ops S cv fb Q n a w → K a) → if Region.wanted o (yielded ops a.tmps) then (∃ v, (∀ x : Subtype S, looseRes x.1 v ((execOp a.eval o).run P x.1)) ∧ K (a.put o.dst v)) else K (a.put o.dst undef)) : wpTx P ops S cv fb Q (.loose i n) a w   := by
  have ho := nthL_ops ho'
  have := h _ (fun _ h => h)
  refine ⟨?_⟩
  unfold wpT0
  simp only [ho]
  split
  · rename_i hw
    rw [if_pos hw] at this
    obtain ⟨v, hv, hk⟩ := this
    exact ⟨hc, v, fun w' hs => hv ⟨w', hs⟩, hk.out⟩
  · rename_i hw; rw [if_neg hw] at this; exact this.out
/-- An operation whose guard is off. -/
theorem wpTx_skip (ho' : nthL ops.toList i = some o) (h : ∀ K : Act → Prop, (∀ a, wpTx P ops S cv fb Q n a w → K a) → if Region.wanted o (yielded ops a.tmps) then False else K (a.put o.dst undef)) : wpTx P ops S cv fb Q (.loose i n) a w   := by
  have ho := nthL_ops ho'
  have := h _ (fun _ h => h)
  refine ⟨?_⟩
  unfold wpT0
  simp only [ho]
  split
  · rename_i hw; rw [if_pos hw] at this; exact this.elim
  · rename_i hw; rw [if_neg hw] at this; exact this.out
theorem wpTx_one (hS : S w) (ho' : nthL ops.toList i = some o) (hc : chainOp cv o = true)
    (h : ∀ K : Act → World → Prop, (∀ a w, wpTx P ops S cv fb Q n a w → K a w) → if Region.wanted o (yielded ops a.tmps) then chainRes P S (fun v w' => K (a.put o.dst v) w') ((execOp a.eval o).run P w) else K (a.put o.dst undef) w) : wpTx P ops S cv fb Q (.one i n) a w   := by
  have ho := nthL_ops ho'
  have := h _ (fun _ _ h => h)
  refine ⟨?_⟩
  unfold wpT0 stepT
  simp only [ho]
  split
  · rename_i hw; rw [if_pos hw] at this; exact ⟨hc, chainRes_weaken (fun _ h => .inl h) (fun _ _ _ h => h.out) this⟩
  · rename_i hw; rw [if_neg hw] at this; exact this.out
theorem wpTx_two (h1 : wpTx P ops S cv fb Q (.one i n) a w) (h2 : wpTx P ops S cv fb Q (.one j m) a w) : wpTx P ops S cv fb Q (.two i n j m) a w := ⟨⟨h1.out, h2.out⟩⟩
theorem wpTx_three (h1 : wpTx P ops S cv fb Q (.one i n) a w) (h2 : wpTx P ops S cv fb Q (.one j m) a w) (h3 : wpTx P ops S cv fb Q (.one k l) a w) : wpTx P ops S cv fb Q (.three i n j m k l) a w := ⟨⟨h1.out, h2.out, h3.out⟩⟩
/-- The region's end, where it may leave the class. -/
theorem wpTx_end (ho' : nthL ops.toList i = some o) (hc : chainOp cv o = true) (hi : (i + 1 == ops.size) = true)
    (h : ∀ K : Act → World → Prop, (∀ a w, Q a w → K a w) → if Region.wanted o (yielded ops a.tmps) then chainRes P (fun _ => True) (fun v w' => K (a.put o.dst v) w') ((execOp a.eval o).run P w) else K (a.put o.dst undef) w) : wpTx P ops S cv true Q (.one i .done) a w   := by
  have ho := nthL_ops ho'
  have := h _ (fun _ _ h => h)
  refine ⟨?_⟩
  unfold wpT0 stepT
  simp only [ho]
  split
  · rename_i hw; rw [if_pos hw] at this; exact ⟨hc, chainRes_weaken (fun _ _ => .inr ⟨rfl, beq_iff_eq.1 hi⟩) (fun _ _ _ h => h) this⟩
  · rename_i hw; rw [if_neg hw] at this; exact this
end

end Go.Proofs.YtgfpjjppeldhbaaGreatDoor

/- A slice cut at a place, either way. No program is named here. -/
namespace Go.Proofs.YtgfpjjppeldhbaaGreatDoor
open Go.RowKit

/-- A slicing, behind a name that the walk does not open. -/
def slS (T : TypeId) (x : Value) (lo hi mx : Option Value) : Sem Value := Instr.sliceAt T x lo hi mx

section
variable {P : Program} {T E : TypeId} {k bytes : Nat}
theorem ElemInfo.sizeOf_run (I : ElemInfo P T E k bytes) (w : World) : (Go.sizeOf E).run P w = .ok k w := by
  obtain ⟨i, z, hi, hz, hsz, hby, hzs⟩ := I.info
  simp [Go.sizeOf, typeInfo, hi, hsz]
theorem run_bound (w : World) (m cap : Nat) (hm : m ≤ cap) (c : BoundsCode) : (Instr.sliceBound (.int .i64 m) cap c).run P w = .ok m w := by
  unfold Instr.sliceBound
  have h1 : (asIntOf (.int .i64 (m : Int))).run P w = .ok (.i64, (m : Int)) w := rfl
  simp only [Sem.run_bind, h1, Result.andThen_ok]
  rw [if_pos ⟨by omega, by omega⟩]
  simp
theorem run_slS (I : ElemInfo P T E k bytes) (w : World) (x : Value) (lo hi mx : Option Value) : (slS T x lo hi mx).run P w = (Instr.slice T x lo hi mx).run P w := by
  unfold slS
  simp [Instr.sliceAt, run_underlying I.und]
/-- 's[:m]'. -/
theorem run_slS_lo (I : ElemInfo P T E k bytes) (w : World) (A : Option Addr) (n cap m : Nat) (hm : m ≤ cap) :
    (slS T (.slice A n cap) none (some (.int .i64 m)) none).run P w = .ok (.slice A m cap) w := by
  rw [run_slS I]
  unfold Instr.slice Instr.sliceBounds
  simp only [Sem.run_bind, run_underlying I.und, Result.andThen_ok, Sem.run_pure, run_bound w m cap hm, I.sizeOf_run w]
  have e : (if cap = 0 then A else A.map fun a => a.add (0 * k)) = A := by
    split
    · rfl
    · cases A with
      | none => rfl
      | some a => simp [Addr.add]
  simp only [Nat.sub_zero, e]
/-- 's[m:]'. -/
theorem run_slS_hi (I : ElemInfo P T E k bytes) (w : World) (A : Option Addr) (n cap m : Nat) (hm : m ≤ n) (hc : n ≤ cap) (hA : A = none → cap = 0) (hsp : ∀ a, A = some a → a.spot = none) :
    ∃ A2 c2, (slS T (.slice A n cap) (some (.int .i64 m)) none none).run P w = .ok (.slice A2 (n - m) c2) w ∧ (∀ (w' : World) (L : List (Array Value)), SlR w' A n k L → SlR w' A2 (n - m) k (L.drop m)) ∧ (A2 = none → c2 = 0) := by
  refine ⟨if cap = m then A else A.map fun a => a.add (m * k), cap - m, ?_, ?_, ?_⟩
  · rw [run_slS I]
    unfold Instr.slice Instr.sliceBounds
    simp only [Sem.run_bind, run_underlying I.und, Result.andThen_ok, Sem.run_pure, run_bound w m n hm, I.sizeOf_run w, Option.isSome_none, Bool.false_eq_true, if_false]
  · intro w' L hL
    by_cases hcm : cap = m
    · have : n - m = 0 := by omega
      rw [this]
      exact ⟨by rw [List.length_drop, hL.1]; omega, fun h => absurd h (by omega)⟩
    · rw [if_neg hcm]
      cases A with
      | none => exact absurd (hA rfl) (by omega)
      | some a =>
        obtain ⟨g, o, sp⟩ := a
        have : sp = none := hsp _ rfl
        subst this
        have e : (⟨g, o, none⟩ : Addr).add (m * k) = ⟨g, o + m * k, none⟩ := by unfold Addr.add; split <;> simp_all
        simp only [Option.map_some, e]
        exact hL.drop_ hm
  · intro h
    by_cases hcm : cap = m
    · omega
    · rw [if_neg hcm] at h
      cases A with
      | none => have := hA rfl; omega
      | some a => cases h
theorem Own.hi (I : ElemInfo P T E k bytes) {w : World} {B : Nat} {A : Option Addr} {n cap : Nat} {L : List (Array Value)} (h : Own w B E k A n cap L) {m : Nat} (hm : m ≤ n) :
    ∃ A2 c2, (∀ w0 : World, (slS T (.slice A n cap) (some (.int .i64 m)) none none).run P w0 = .ok (.slice A2 (n - m) c2) w0) ∧ (∀ w' : World, SlR w' A n k L → SlR w' A2 (n - m) k (L.drop m)) ∧ (A2 = none → c2 = 0) := by
  have hA := h.cap_le
  have hsp : ∀ a, A = some a → a.spot = none := fun a e => by
    rcases h.addr with e' | ⟨g, e'⟩
    · rw [e'] at e; cases e
    · rw [e'] at e; injection e with e; rw [← e]
  obtain ⟨A2, c2, h1, h2, h3⟩ := run_slS_hi (P := P) I w A n cap m hm hA.1 (fun e => (hA.2 e).2) hsp
  refine ⟨A2, c2, fun w0 => ?_, fun w' hw => h2 w' L hw, h3⟩
  obtain ⟨A3, c3, k1, _, _⟩ := run_slS_hi (P := P) I w0 A n cap m hm hA.1 (fun e => (hA.2 e).2) hsp
  rw [run_slS I] at h1 k1 ⊢
  unfold Instr.slice Instr.sliceBounds at h1 k1 ⊢
  simp only [Sem.run_bind, run_underlying I.und, Result.andThen_ok, Sem.run_pure, run_bound _ m n hm, I.sizeOf_run, Option.isSome_none, Bool.false_eq_true, if_false] at h1 ⊢
  injection h1 with h1 _
  rw [h1]
end

/-- 'm = append(m, x...)' in a region that draws its order, by the text or by a tree. -/
theorem Tx_rows {P : Program} {ops : Array Oper} {S : World → Prop} {cv fb : Bool} {Q : Act → World → Prop} {a : Act} {w : World} {i : Nat} {nx : Sched} {dst : Option Tmp} {s x : Operand} {ty : TypeId} {pos : String} {after : Array Edge} {T E : TypeId} {k bytes : Nat} (I : ElemInfo P T E k bytes)
    (ho' : nthL ops.toList i = some { dst := dst, op := .call { callee := .builtin .append, args := #[s, x], argTypes := #[T, T] }, type := ty, pos := pos, after := after, guard := none })
    {B : Nat} {A : Option Addr} {n cap : Nat} {L : List (Array Value)} (hs : a.eval s = .slice A n cap) (hown : Own w B E k A n cap L)
    {A2 : Option Addr} {m c : Nat} {R : List (Array Value)} (hx : a.eval x = .slice A2 m c) (hsrc : SlR w A2 m k R) (hform : A2 = none → c = 0) (hone : ∀ r ∈ R, ∀ u ∈ r.toList, u.oneCell' = true) (hbytes : (n + m) * bytes ≤ 140737488355328) (hn : n + m ≤ 9223372036854775807) (hB : B ≤ w.heap.size)
    (h : ∀ A' cap' w', Own w' B E k A' (n + m) cap' (L ++ R) → Keep (blk A) w w' → (∀ x ∈ blk A', x ∈ blk A ∨ w.heap.size ≤ x) → S w' ∧ wpTx P ops S cv fb Q nx (a.put dst (.slice A' (n + m) cap')) w') :
    wpTx P ops S cv fb Q (.one i nx) a w := by
  obtain ⟨A', cap', w', hrun, h1, h2, h3⟩ := append_rows I hown hsrc hform hone hbytes hn hB ty
  obtain ⟨k1, k2⟩ := h A' cap' w' h1 h2 h3
  have ho := nthL_ops ho'
  refine ⟨?_⟩
  unfold wpT0 stepT
  simp only [ho]
  rw [if_pos (by rfl)]
  rw [exec_append a.eval hs hx hrun]
  exact ⟨rfl, .inl k1, k2.out⟩
theorem Tx_append {P : Program} {ops : Array Oper} {S : World → Prop} {cv fb : Bool} {Q : Act → World → Prop} {a : Act} {w : World} {i : Nat} {nx : Sched} {dst : Option Tmp} {s x : Operand} {ty : TypeId} {pos : String} {after : Array Edge} {T E : TypeId} {k bytes : Nat} (I : ElemInfo P T E k bytes)
    (ho' : nthL ops.toList i = some { dst := dst, op := .call { callee := .builtin .append, args := #[s, x], argTypes := #[T, T] }, type := ty, pos := pos, after := after, guard := none })
    {B : Nat} {A : Option Addr} {n cap : Nat} {L : List (Array Value)} (hs : a.eval s = .slice A n cap) (hown : Own w B E k A n cap L)
    {q o c : Nat} {cs : Array Value} (hx : a.eval x = .slice (some ⟨q, o, none⟩) 1 c) (hrow : rowAt w q o k = some cs) (hone : ∀ u ∈ cs.toList, u.oneCell' = true) (hbytes : (n + 1) * bytes ≤ 140737488355328) (hn : n + 1 ≤ 9223372036854775807) (hB : B ≤ w.heap.size)
    (h : ∀ A' cap' w', Own w' B E k A' (n + 1) cap' (L ++ [cs]) → Keep (blk A) w w' → (∀ x ∈ blk A', x ∈ blk A ∨ w.heap.size ≤ x) → S w' ∧ wpTx P ops S cv fb Q nx (a.put dst (.slice A' (n + 1) cap')) w') :
    wpTx P ops S cv fb Q (.one i nx) a w := by
  obtain ⟨A', cap', w', hrun, h1, h2, h3⟩ := append_one I hown (c := c) hrow hone hbytes hn hB ty
  obtain ⟨k1, k2⟩ := h A' cap' w' h1 h2 h3
  have ho := nthL_ops ho'
  refine ⟨?_⟩
  unfold wpT0 stepT
  simp only [ho]
  rw [if_pos (by rfl)]
  rw [exec_append a.eval hs hx hrun]
  exact ⟨rfl, .inl k1, k2.out⟩

end Go.Proofs.YtgfpjjppeldhbaaGreatDoor

/- Slices that read as rows and can be cut: not the call's own. No program is named here. -/
namespace Go.Proofs.YtgfpjjppeldhbaaGreatDoor
open Go.RowKit

/-- A slice that reads as rows, well made. -/
structure SlW (w : World) (A : Option Addr) (n cap k : Nat) (L : List (Array Value)) : Prop where
  rd : SlR w A n k L
  le : n ≤ cap
  nil : A = none → cap = 0
  plain : ∀ a, A = some a → a.spot = none

section
variable {P : Program} {T E : TypeId} {k bytes : Nat} {w w' : World} {A : Option Addr} {n cap : Nat} {L : List (Array Value)}
theorem SlW.none_ : SlW w none 0 0 k [] := ⟨SlR.nil_, Nat.le_refl _, fun _ => rfl, fun a e => by cases e⟩
theorem SlW.kept {S : List Nat} (h : SlW w A n cap k L) (hk : Keep S w w') (hn : ∀ x ∈ blk A, x ∉ S) : SlW w' A n cap k L := ⟨h.rd.kept hk hn, h.le, h.nil, h.plain⟩
theorem SlW.below (h : SlW w A n cap k L) (hb : Below w.heap.size w w') : SlW w' A n cap k L := ⟨h.rd.below hb, h.le, h.nil, h.plain⟩
theorem SlW.len (h : SlW w A n cap k L) : L.length = n := h.rd.1
theorem Own.slw {B : Nat} (h : Own w B E k A n cap L) : SlW w A n cap k L := by
  have hA := h.cap_le
  refine ⟨h.slr, hA.1, fun e => (hA.2 e).2, fun a e => ?_⟩
  rcases h.addr with e' | ⟨g, e'⟩
  · rw [e'] at e; cases e
  · rw [e'] at e; injection e with e; rw [← e]
theorem SlW.lo (I : ElemInfo P T E k bytes) (h : SlW w A n cap k L) {m : Nat} (hm : m ≤ n) (w0 : World) : (slS T (.slice A n cap) none (some (.int .i64 m)) none).run P w0 = .ok (.slice A m cap) w0 :=
  run_slS_lo I w0 A n cap m (Nat.le_trans hm h.le)
theorem SlW.hi (I : ElemInfo P T E k bytes) (h : SlW w A n cap k L) {m : Nat} (hm : m ≤ n) :
    ∃ A2 c2, (∀ w0 : World, (slS T (.slice A n cap) (some (.int .i64 m)) none none).run P w0 = .ok (.slice A2 (n - m) c2) w0) ∧ (∀ w' : World, SlR w' A n k L → SlR w' A2 (n - m) k (L.drop m)) ∧ (A2 = none → c2 = 0) := by
  obtain ⟨A2, c2, h1, h2, h3⟩ := run_slS_hi (P := P) I w A n cap m hm h.le h.nil h.plain
  refine ⟨A2, c2, fun w0 => ?_, fun w' hw => h2 w' L hw, h3⟩
  obtain ⟨A3, c3, k1, _, _⟩ := run_slS_hi (P := P) I w0 A n cap m hm h.le h.nil h.plain
  rw [run_slS I] at h1 k1 ⊢
  unfold Instr.slice Instr.sliceBounds at h1 k1 ⊢
  simp only [Sem.run_bind, run_underlying I.und, Result.andThen_ok, Sem.run_pure, run_bound _ m n hm, I.sizeOf_run, Option.isSome_none, Bool.false_eq_true, if_false] at h1 ⊢
  injection h1 with h1 _
  rw [h1]
end

end Go.Proofs.YtgfpjjppeldhbaaGreatDoor

/- Package seq: what lies behind a pointer to a Seq; New, none, check, Delete; header.Ahead. -/
namespace Go.Proofs.YtgfpjjppeldhbaaGreatDoor
open Go.RowKit

structure SNode where
  h : Int
  ref : Id32
  val : ByteArray
/-- Its cells. -/
def sNodeC (x : SNode) : Array Value := #[.int .i64 x.h] ++ idC x.ref ++ #[.string x.val]
@[simp] theorem sNodeC_size (x : SNode) : (sNodeC x).size = 34 := by simp [sNodeC]
@[go_sem] theorem sNodeC_g0 (x : SNode) : (sNodeC x)[0]? = some (.int .i64 x.h) := by first | (simp [sNodeC, Array.getElem?_append]; done) | (rw [show sNodeC x = ((#[] : Array Value)) ++ #[.int .i64 x.h] ++ (idC x.ref ++ #[.string x.val]) from by apply Array.ext'; simp [sNodeC]]; exact arr_at _ _ _ _ (by simp))
@[go_sem] theorem sNodeC_gg0 (x : SNode) (h : 0 < (sNodeC x).size) : (sNodeC x)[0]'h = .int .i64 x.h := Option.some.inj ((Array.getElem?_eq_getElem h).symm.trans (sNodeC_g0 x))
@[go_sem] theorem sNodeC_e1 (x : SNode) : (sNodeC x).extract 1 33 = idC x.ref := by
  have h : sNodeC x = (#[.int .i64 x.h]) ++ idC x.ref ++ (#[.string x.val]) := by first | (simp [sNodeC, Array.append_assoc]; done) | (apply Array.ext'; simp [sNodeC]; done)
  rw [h]; exact arr_mid _ _ _ _ _ (by simp) (by simp)
@[go_sem] theorem sNodeC_g33 (x : SNode) : (sNodeC x)[33]? = some (.string x.val) := by first | (simp [sNodeC, Array.getElem?_append]; done) | (rw [show sNodeC x = (#[.int .i64 x.h] ++ idC x.ref) ++ #[.string x.val] ++ ((#[] : Array Value)) from by apply Array.ext'; simp [sNodeC]]; exact arr_at _ _ _ _ (by simp))
@[go_sem] theorem sNodeC_gg33 (x : SNode) (h : 33 < (sNodeC x).size) : (sNodeC x)[33]'h = .string x.val := Option.some.inj ((Array.getElem?_eq_getElem h).symm.trans (sNodeC_g33 x))
@[go_sem] theorem sNodeC_all (x : SNode) : (sNodeC x).extract 0 34 = sNodeC x := by have := Array.extract_size (xs := sNodeC x); rwa [sNodeC_size] at this
theorem sNodeC_inj {x y : SNode} (h : sNodeC x = sNodeC y) : x = y := by
  have h0 := congrArg (fun a => a[0]?) h
  simp only [sNodeC_g0, Option.some.injEq, Value.int.injEq, true_and] at h0
  have h1 := congrArg (fun a => a.extract 1 33) h
  simp only [sNodeC_e1] at h1
  have h1 := idC_inj h1
  have h2 := congrArg (fun a => a[33]?) h
  simp only [sNodeC_g33, Option.some.injEq, Value.string.injEq] at h2
  cases x; cases y; simp_all
theorem sNodeC_one (x : SNode) : ∀ u ∈ (sNodeC x).toList, u.oneCell' = true := by
  intro u hu
  simp only [sNodeC, Array.toList_append, List.mem_append] at hu
  rcases hu with (hu | hu) | hu
  · simp at hu; subst hu; rfl
  · exact idC_one _ u hu
  · simp at hu; subst hu; rfl
def sNode0 : SNode := ⟨0, id0, ⟨#[]⟩⟩
theorem SNode_ext {x y : SNode} (h : x.h = y.h ∧ x.ref = y.ref ∧ x.val = y.val) : x = y := by cases x; cases y; simp_all
instance : DecidableEq SNode := fun x y => if h : x.h = y.h ∧ x.ref = y.ref ∧ x.val = y.val then isTrue (SNode_ext h) else isFalse (fun e => h (by subst e; simp))
theorem infoSNode : (Tryz.prog.info? 193).map (·.size) = some 34 := by kernel_rfl
@[go_sem ↓] theorem zeroSNode_run (w : World) : (zeroValue 193).run Tryz.prog w = .ok (.agg (sNodeC sNode0)) w := by
  have h : (Tryz.prog.info? 193).bind (·.zero) = some (.agg (sNodeC sNode0)) := by kernel_rfl
  cases hi : Tryz.prog.info? 193 with
  | none => rw [hi] at h; cases h
  | some i =>
    rw [hi] at h
    have hz : i.zero = some (.agg (sNodeC sNode0)) := h
    simp [zeroValue, typeInfo, hi, hz]
@[go_sem ↓] theorem loadSNode_rw (a : Addr) : loadVar 193 a = ldS 193 a := rfl
@[go_sem ↓] theorem storeSNode_rw (a : Addr) (v : Value) : storeVar 193 a v = stS 193 a v := rfl
@[go_sem] theorem loadSNode_run (w : World) (g o : Nat) : (ldS 193 ⟨g, o, none⟩).run Tryz.prog w = match rowAt w g o 34 with | some cs => .ok (.agg cs) w | none => (loadVar 193 ⟨g, o, none⟩).run Tryz.prog w :=
  run_ldS Tryz.underlying193 rfl infoSNode w g o
@[go_sem] theorem storeSNode_run (w : World) (g : Nat) (hg : g = w.heap.size) (z : Array Value) (hz : z.size = 34) (x : SNode) (e : TypeId) : (stS 193 ⟨g, 0, none⟩ (.agg (sNodeC x))).run Tryz.prog (w.alloc (.cells z e)) = .ok () (w.alloc (.cells (sNodeC x) e)) :=
  hg ▸ run_stS_new infoSNode w z (sNodeC x) hz (sNodeC_size x) (sNodeC_one x)
theorem fieldsSNode : Tryz.prog.underlying 193 = some (.struct (Tryz.prog.fieldsOf 193)) := by kernel_rfl
theorem placesSNode (w : World) : ((Tryz.prog.fieldsOf 193).mapM fun (f : Field) => do pure (f.offset, ← sizeOf f.type)).run Tryz.prog w = .ok #[(0, 1), (1, 32), (33, 1)] w := by kernel_rfl
@[go_sem ↓] theorem buildSNode_rw (parts : Array (Nat × Value)) : Instr.build 193 parts = bdS 193 parts := rfl
@[go_sem ↓] theorem fieldSNode_0 (x : SNode) (w : World) : (Instr.field 193 (.agg (sNodeC x)) 0).run Tryz.prog w = .ok (.int .i64 x.h) w := by
  unfold Instr.field
  simp only [Sem.run_bind, run_underlying Tryz.underlying193, Result.andThen_ok, part, asAgg, isAgg]
  simp [go_sem]
@[go_sem ↓] theorem fieldSNode_1 (x : SNode) (w : World) : (Instr.field 193 (.agg (sNodeC x)) 1).run Tryz.prog w = .ok (.agg (idC x.ref)) w := by
  unfold Instr.field
  simp only [Sem.run_bind, run_underlying Tryz.underlying193, Result.andThen_ok, part, asAgg, isAgg]
  simp [go_sem]
@[go_sem ↓] theorem fieldSNode_2 (x : SNode) (w : World) : (Instr.field 193 (.agg (sNodeC x)) 2).run Tryz.prog w = .ok (.string x.val) w := by
  unfold Instr.field
  simp only [Sem.run_bind, run_underlying Tryz.underlying193, Result.andThen_ok, part, asAgg, isAgg]
  simp [go_sem]
@[go_sem] theorem buildSNode (a0 : Int) (a1 : Id32) (a2 : ByteArray) (w : World) : (bdS 193 #[(0, .int .i64 a0), (1, .agg (idC a1)), (2, .string a2)]).run Tryz.prog w = .ok (.agg (sNodeC ⟨a0, a1, a2⟩)) w := by
  refine run_build w fieldsSNode _ (zeroSNode_run w) _ (placesSNode w) [(0, .int .i64 a0), (1, .agg (idC a1)), (2, .string a2)] _ ?_
  rw [show sNodeC sNode0 = (#[] : Array Value) ++ #[.int .i64 0] ++ (idC id0 ++ (#[.string ⟨#[]⟩])) from by first | (simp [sNodeC, sNode0, Array.append_assoc]; done) | (apply Array.ext'; simp [sNodeC, sNode0])]
  rw [fill_step (off := 0) (size := 1) rfl (by simp) (by simp) (by simp [Value.cells])]
  rw [show (#[] : Array Value) ++ (Value.int .i64 a0).cells ++ (idC id0 ++ (#[.string ⟨#[]⟩])) = (#[.int .i64 a0]) ++ idC id0 ++ (#[.string ⟨#[]⟩]) from by first | (simp [Value.cells, Array.append_assoc]; done) | (apply Array.ext'; simp [Value.cells]; done) | (apply Array.ext'; simp only [Array.toList_append]; simp [Value.cells])]
  rw [fill_step (off := 1) (size := 32) rfl (by simp) (by simp) (by simp [Value.cells])]
  rw [show (#[.int .i64 a0]) ++ (Value.agg (idC a1)).cells ++ (#[.string ⟨#[]⟩]) = (#[.int .i64 a0] ++ (idC a1)) ++ #[.string ⟨#[]⟩] ++ (#[] : Array Value) from by first | (simp [Value.cells, Array.append_assoc]; done) | (apply Array.ext'; simp [Value.cells]; done) | (apply Array.ext'; simp only [Array.toList_append]; simp [Value.cells])]
  rw [fill_step (off := 33) (size := 1) rfl (by simp) (by simp) (by simp [Value.cells])]
  first | (simp [Instr.fill, sNodeC, Array.append_assoc, Value.cells]; done) | (simp only [Instr.fill, sNodeC]; congr 1; apply Array.ext'; simp [Value.cells]; done) | (simp only [Instr.fill, sNodeC]; congr 1; done) | (simp only [Instr.fill, sNodeC]; done)
@[go_sem] theorem buildSNode_0 (a0 : Int) (w : World) : (bdS 193 #[(0, .int .i64 a0)]).run Tryz.prog w = .ok (.agg (sNodeC ⟨a0, id0, ⟨#[]⟩⟩)) w := by
  refine run_build w fieldsSNode _ (zeroSNode_run w) _ (placesSNode w) [(0, .int .i64 a0)] _ ?_
  rw [show sNodeC sNode0 = (#[] : Array Value) ++ #[.int .i64 0] ++ (idC id0 ++ (#[.string ⟨#[]⟩])) from by first | (simp [sNodeC, sNode0, Array.append_assoc]; done) | (apply Array.ext'; simp [sNodeC, sNode0])]
  rw [fill_step (off := 0) (size := 1) rfl (by simp) (by simp) (by simp [Value.cells])]
  first | (simp [Instr.fill, sNodeC, Array.append_assoc, Value.cells]; done) | (simp only [Instr.fill, sNodeC]; congr 1; apply Array.ext'; simp [Value.cells]; done) | (simp only [Instr.fill, sNodeC]; congr 1; done) | (simp only [Instr.fill, sNodeC]; done)
def nodeVV (x : SNode) : Value := .agg (sNodeC x)
def snode (n : NodeV) : SNode := ⟨n.h, n.ref, n.val⟩
/-- A slice's address, length, capacity. -/
structure Sl where
  A : Option Addr
  n : Nat
  c : Nat
def slV (s : Sl) : Value := .slice s.A s.n s.c

structure SeqAt (w : World) (M : List Nat) (g bn bb bg : Nat) (N : List NodeV) (G : List Id32) : Prop where
  blk : w.heap[g]? = some (.cells #[.map (some bn), .map (some bb), .map (some bg)] 191 (0, 0))
  nodes : ∃ es clk, MapAt w bn idV nodeVV okId (N.map fun n => (n.id, snode n)) es clk
  behind : ∃ BM es clk, MapAt w bb idV slV okId BM es clk ∧ (∀ p ∈ BM, SlW w p.2.A p.2.n p.2.c 32 (((kids N p.1).map NodeV.id).map idC) ∧ ∀ x ∈ Go.Proofs.YtgfpjjppeldhbaaGreatDoor.blk p.2.A, x ∉ M ∧ x < w.heap.size) ∧ ∀ r, r ∉ BM.map (·.1) → kids N r = []
  gone : IdSet w bg G
  inM : bn ∈ M ∧ bb ∈ M ∧ bg ∈ M
  ne : bn ≠ bb ∧ bn ≠ bg ∧ bb ≠ bg
  one : OneId N
  ok : ∀ n ∈ N, nodeE n = 0

section
variable {w w' : World} {M : List Nat} {g bn bb bg : Nat} {N : List NodeV} {G : List Id32}
theorem SeqAt.cell0 (h : SeqAt w M g bn bb bg N G) : w.cell? ⟨g, 0, none⟩ = some (.map (some bn)) := by rw [cell_of_row w g 0 _ _ _ h.blk]; rfl
theorem SeqAt.cell1 (h : SeqAt w M g bn bb bg N G) : w.cell? ⟨g, 1, none⟩ = some (.map (some bb)) := by rw [cell_of_row w g 1 _ _ _ h.blk]; rfl
theorem SeqAt.cell2 (h : SeqAt w M g bn bb bg N G) : w.cell? ⟨g, 2, none⟩ = some (.map (some bg)) := by rw [cell_of_row w g 2 _ _ _ h.blk]; rfl
theorem SeqAt.ltg (h : SeqAt w M g bn bb bg N G) : g < w.heap.size := (Array.getElem?_eq_some_iff.1 h.blk).1
theorem mapAt_ne {κ ν : Type} {kv : κ → Value} {vv : ν → Value} {ok : κ → Prop} {w : World} {b g : Nat} {X : List (κ × ν)} {es : Array MapEntry} {clk : Nat} {cs : Array Value} {t : TypeId} {f : Nat × Nat} (h : MapAt w b kv vv ok X es clk) (hg : w.heap[g]? = some (.cells cs t f)) : g ≠ b := by
  rintro rfl
  rw [h.heap] at hg; cases hg
theorem SeqAt.neg (h : SeqAt w M g bn bb bg N G) : g ≠ bn ∧ g ≠ bb ∧ g ≠ bg := by
  obtain ⟨es, clk, hn⟩ := h.nodes
  obtain ⟨BM, es', clk', hb, _⟩ := h.behind
  refine ⟨mapAt_ne hn h.blk, mapAt_ne hb h.blk, ?_⟩
  rintro rfl
  obtain ⟨M', es, clk, hm, _⟩ := h.gone
  have := h.blk.symm.trans hm.heap
  cases this
theorem SeqAt.lt (h : SeqAt w M g bn bb bg N G) : bn < w.heap.size ∧ bb < w.heap.size ∧ bg < w.heap.size := by
  obtain ⟨es, clk, hn⟩ := h.nodes
  obtain ⟨BM, es', clk', hb, _⟩ := h.behind
  exact ⟨hn.lt, hb.lt, h.gone.lt⟩
theorem SeqAt.kept {S : List Nat} (h : SeqAt w M g bn bb bg N G) (k : Keep S w w') (hS : ∀ x ∈ S, x ∈ M ∨ w.heap.size ≤ x) (hg : g ∉ S) (h1 : bn ∉ S) (h2 : bb ∉ S) (h3 : bg ∉ S) : SeqAt w' M g bn bb bg N G := by
  obtain ⟨es, clk, hn⟩ := h.nodes
  obtain ⟨BM, es', clk', hb, hsl, hno⟩ := h.behind
  refine ⟨(k.block g h.ltg hg).trans h.blk, ⟨es, clk, hn.kept k h1⟩, ⟨BM, es', clk', hb.kept k h2, fun p hp => ?_, hno⟩, h.gone.kept k h3, h.inM, h.ne, h.one, h.ok⟩
  obtain ⟨s1, s2⟩ := hsl p hp
  refine ⟨?_, fun x hx => ⟨(s2 x hx).1, Nat.lt_of_lt_of_le (s2 x hx).2 k.size⟩⟩
  refine ⟨⟨s1.rd.1, fun h0 => ?_⟩, s1.le, s1.nil, s1.plain⟩
  obtain ⟨q, o, e, hc⟩ := s1.rd.2 h0
  refine ⟨q, o, e, fun i hi => ?_⟩
  have hql := rowAt_lt (hc i hi)
  rw [k.row hql (fun hm => (hS q hm).elim (s2 q (by simp [Go.Proofs.YtgfpjjppeldhbaaGreatDoor.blk, e])).1 (by omega)) _ _]
  exact hc i hi
theorem SeqAt.below (h : SeqAt w M g bn bb bg N G) (k : Below w.heap.size w w') : SeqAt w' M g bn bb bg N G := h.kept (Keep.of_below k) (by simp) (by simp) (by simp) (by simp) (by simp)
theorem SeqAt.moreM {M' : List Nat} (h : SeqAt w M g bn bb bg N G) (hM : ∀ x ∈ M, x ∈ M') (hn : ∀ x ∈ M', x ∈ M ∨ w.heap.size ≤ x) : SeqAt w M' g bn bb bg N G := by
  obtain ⟨BM, es', clk', hb, hsl, hno⟩ := h.behind
  refine ⟨h.blk, h.nodes, ⟨BM, es', clk', hb, fun p hp => ⟨(hsl p hp).1, fun x hx => ⟨fun hm => ?_, ((hsl p hp).2 x hx).2⟩⟩, hno⟩, h.gone, ⟨hM _ h.inM.1, hM _ h.inM.2.1, hM _ h.inM.2.2⟩, h.ne, h.one, h.ok⟩
  rcases hn x hm with h1 | h1
  · exact ((hsl p hp).2 x hx).1 h1
  · have := ((hsl p hp).2 x hx).2; omega
end

theorem sqnone_live (w : World) (g b : Nat) (h : w.cell? ⟨g, 0, none⟩ = some (.map (some b))) : Calls Tryz.prog 203 #[.pointer (some ⟨g, 0, none⟩)] w fun e w' => e = .returned (.bool false) ∧ w = w' := by
  have hn := fun r => run_eql_map_nil (P := Tryz.prog) w 188 39 193 r Tryz.underlying188
  go_enter Tryz.func203, Tryz.ntmps203
  go_wp2_with fail
  go_ret
  exact ⟨rfl, rfl⟩

theorem sqnew (w : World) : Calls Tryz.prog 119 #[] w fun e w' => ∃ g bn bb bg, e = .returned (.pointer (some ⟨g, 0, none⟩)) ∧ (∀ M, bn ∈ M → bb ∈ M → bg ∈ M → SeqAt w' M g bn bb bg [] []) ∧ w.heap.size ≤ g ∧ w.heap.size ≤ bn ∧ w.heap.size ≤ bb ∧ w.heap.size ≤ bg ∧ Below w.heap.size w w' := by
  have hmm := @run_makeMap Tryz.prog
  go_enter Tryz.func119, Tryz.ntmps119
  go_wp2_with fail
  go_ret
  have k1 := MapAt.new (kv := idV) (vv := nodeVV) (ok := okId) w w.heap.size rfl
  have k2 := MapAt.new (kv := idV) (vv := slV) (ok := okId) (w.alloc (.map #[] 0)) (w.heap.size + 1) (by simp)
  have k3 := SetAt.new (kv := idV) (ok := okId) ((w.alloc (.map #[] 0)).alloc (.map #[] 0)) (w.heap.size + 2) (by simp)
  refine ⟨w.heap.size + 3, w.heap.size, w.heap.size + 1, w.heap.size + 2, rfl, fun M i1 i2 i3 => ⟨?_, ⟨_, _, ((k1.kept (Keep.alloc _ _) (by simp)).kept (Keep.alloc _ _) (by simp)).kept (Keep.alloc _ _) (by simp)⟩, ⟨[], _, _, (k2.kept (Keep.alloc _ _) (by simp)).kept (Keep.alloc _ _) (by simp), by simp, fun r _ => rfl⟩, k3.kept (Keep.alloc _ _) (by simp), ⟨i1, i2, i3⟩, by omega, fun a ha => by simp at ha, by simp⟩, by omega, by omega, by omega, by omega, ((((Below.refl _ _).alloc (Nat.le_refl _) _).alloc (by simp) _).alloc (by simp; omega) _).alloc (by simp; omega) _⟩
  have := heap_alloc_new (((w.alloc (.map #[] 0)).alloc (.map #[] 0)).alloc (.map #[] 0)) (.cells #[.map (some w.heap.size), .map (some (w.heap.size + 1)), .map (some (w.heap.size + 2))] 191 (0, 0))
  simpa using this

/-- May a node be? -/
theorem sqcheck (d : Id32) (n : NodeV) (hd : d = n.id) (w : World) (hv : n.val.size ≤ 9223372036854775807) :
    Calls Tryz.prog 214 #[.agg (idC d), .agg (sNodeC (snode n))] w fun e w' => e = .returned (.int .i64 (nodeE n)) ∧ Below w.heap.size w w' := by
  subst hd
  obtain ⟨d, h, ref, val⟩ := n
  unfold snode
  have hB : Below w.heap.size w ((w.alloc (.cells (idC d) 39)).alloc (.cells (sNodeC ⟨h, ref, val⟩) 193)) := ((Below.refl _ _).alloc (Nat.le_refl _) _).alloc (by simp) _
  have hE : nodeE ⟨d, h, ref, val⟩ = if 16 < val.size then 3 else if h < 1 ∨ 1073741824 < h ∨ d = id0 then 5 else 0 := rfl
  have HE := Lib.hid hE
  clear hE
  dsimp only at *
  obtain ⟨b, hb⟩ : ∃ b, (d == id0) = b := ⟨_, rfl⟩
  have Hb := Lib.hid hb
  cases b
  all_goals
    clear hb
    go_enter Tryz.func214, Tryz.ntmps214
    go_wp2_with fail
    all_goals
      go_ret
      exact ⟨ret_int (by rw [HE.out]; have hdd := Hb.out; (repeat' split) <;> first | rfl | omega | (simp_all; done) | (simp_all; omega)), hB⟩

theorem hahead (ah : Int) (a : Id32) (bh : Int) (b : Id32) (w : World) :
    Calls Tryz.prog 113 #[.int .i64 ah, .agg (idC a), .int .i64 bh, .agg (idC b)] w fun e w' => e = .returned (.bool (aheadB ah a bh b)) ∧ Below w.heap.size w w' := by
  have hB : Below w.heap.size w ((w.alloc (.cells (idC a) 39)).alloc (.cells (idC b) 39)) := ((Below.refl _ _).alloc (Nat.le_refl _) _).alloc (by simp) _
  have hA : aheadB ah a bh b = if ah = bh then decide (cmpId a b < 0) else decide (ah < bh) := rfl
  have HA := Lib.hid hA
  clear hA
  by_cases h : ah = bh
  · subst h
    go_enter Tryz.func113, Tryz.ntmps113
    go_wp2_with fail
    refine (cmp_id a b _).mono ?_; rintro e w1 ⟨rfl, hb1⟩
    have hbb := bel2 hB hb1
    clear hB hb1
    go_wp2_with fail
    go_ret
    exact ⟨ret_bool (by rw [HA.out]; simp), hbb⟩
  · have hn : (ah != bh) = true := by simpa using h
    have hn2 : (ah == bh) = false := by simpa using h
    have Hh := Lib.hid h
    clear h
    go_enter Tryz.func113, Tryz.ntmps113
    go_wp2_with fail
    go_ret
    exact ⟨ret_bool (by rw [HA.out, if_neg Hh.out]), hB⟩

theorem sqdel (d : Id32) (w : World) (M : List Nat) (g bn bb bg : Nat) (N : List NodeV) (G : List Id32) (h : SeqAt w M g bn bb bg N G) :
    Calls Tryz.prog 143 #[.pointer (some ⟨g, 0, none⟩), .agg (idC d)] w fun e w' => e = .returned (.int .i64 0) ∧ SeqAt w' M g bn bb bg N (insC cmpId G d) ∧ Keep [bg] w w' := by
  have hB : Below w.heap.size w (w.alloc (.cells (idC d) 39)) := (Below.refl _ _).alloc (Nat.le_refl _) _
  have h1 := h.below hB
  have hr : rowAt (w.alloc (.cells (idC d) 39)) w.heap.size 0 32 = some (idC d) := by simp [go_sem]
  have hlt := h.lt
  go_enter Tryz.func143, Tryz.ntmps143
  go_upto_region 1 with fail
  obtain ⟨ga, hga⟩ : ∃ ga, w.heap.size = ga := ⟨_, rfl⟩
  have Hga := Lib.hid hga
  rw [hga] at hr hB hlt ⊢
  obtain ⟨W, hW⟩ : ∃ W, W = w.alloc (.cells (idC d) 39) := ⟨_, rfl⟩
  rw [← hW] at h1 hr hB ⊢
  clear hW hga
  go_wp2_with fail
  refine (sqnone_live W g bn h1.cell0).mono ?_; rintro e w1 ⟨rfl, rfl⟩
  go_upto_region 3 with fail
  have hc2 := h1.cell2
  obtain ⟨w2, hrun, hG2, hk2⟩ := iput (x := d) (h1.gone.kept (Keep.drew W) (by simp))
  have hgb : g ∉ [bg] := by simpa using h1.neg.2.2
  refine wp_region_lex (Kp [bg] W) false (by kernel_rfl) (by kernel_rfl) (by kernel_rfl) (kp_drew [bg] W) ?_
  have hne := kp_some [bg] W
  have hS := kp_drew [bg] W
  have b1 := ksub_cell hc2 hgb
  have b2 := ksub_row hr (S := [bg]) (by simp; omega)
  repeat (refine wpLx_loose ?_ ?_; (focus (simp only [chainOp]; done)); intro K hK; go_simp; refine hK _ ?_; clear hK K)
  refine wpLx_chain ?_ ?_ ?_
  focus (exact hS)
  focus (simp only [chainOp]; done)
  intro K hK
  go_simp
  refine step_keep (kp_next hS hk2 (by simp)) (fun hS => ?_)
  refine hK _ _ ?_
  clear hK K
  refine wpLx_nil ?_
  intro hS
  have hS' : Keep [bg] W w2 := hS
  obtain ⟨es, clk, hn⟩ := h1.nodes
  obtain ⟨BM, es', clk', hb, hsl, hno⟩ := h1.behind
  have hfin : SeqAt w2 M g bn bb bg N (insC cmpId G d) := by
    refine ⟨(hS'.block g h1.ltg hgb).trans h1.blk, ⟨es, clk, hn.kept hS' (by simpa using h1.ne.2.1)⟩, ⟨BM, es', clk', hb.kept hS' (by simpa using h1.ne.2.2), fun p hp => ?_, hno⟩, SetAt.congr hG2 (fun x => by rw [mem_insC totId, List.mem_cons]), h1.inM, h1.ne, h1.one, h1.ok⟩
    obtain ⟨s1, s2⟩ := hsl p hp
    exact ⟨s1.kept hS' (fun x hx hm => by have e : x = bg := by simpa using hm
                                          subst e; exact (s2 x hx).1 h1.inM.2.2), fun x hx => ⟨(s2 x hx).1, Nat.lt_of_lt_of_le (s2 x hx).2 hS'.size⟩⟩
  have hkf : Keep [bg] w w2 := Keep.trans ((Keep.of_below (hB.mono (by rw [Hga.out]; exact Nat.le_refl _))).mono (S' := [bg]) (by simp)) hS' (fun x hx => .inl hx)
  clear b1 b2 hne hS hk2 hrun hr hc2 h1 hB hG2 hn hb hsl hno hS'
  go_wp2_with fail
  go_ret
  exact ⟨rfl, hfin, hkf⟩

end Go.Proofs.YtgfpjjppeldhbaaGreatDoor

/- slices.Concat of three slices of ids. -/
namespace Go.Proofs.YtgfpjjppeldhbaaGreatDoor
open Go.RowKit Go.Shelf

theorem run_boundK (w : World) (k : IntKind) (m cap : Nat) (hm : m ≤ cap) (c : BoundsCode) : (Instr.sliceBound (.int .i64 m) cap c).run Tryz.prog w = .ok m w := run_bound w m cap hm c
/-- 's[:m:m]'. -/
theorem run_slS_max {P : Program} {T E : TypeId} {k bytes : Nat} (I : ElemInfo P T E k bytes) (w : World) (A : Option Addr) (n cap m : Nat) (hm : m ≤ cap) :
    (slS T (.slice A n cap) none (some (.int .i64 m)) (some (.int .i64 m))).run P w = .ok (.slice A m m) w := by
  rw [run_slS I]
  unfold Instr.slice Instr.sliceBounds
  simp only [Sem.run_bind, run_underlying I.und, Result.andThen_ok, Sem.run_pure, run_bound w m cap hm, run_bound w m m (Nat.le_refl _), I.sizeOf_run w]
  have e : (if m = 0 then A else A.map fun a => a.add (0 * k)) = A := by
    split
    · rfl
    · cases A with
      | none => rfl
      | some a => simp [Addr.add]
  simp only [Nat.sub_zero, e]

theorem grow0 (w : World) (n : Nat) (h0 : 0 < n) (hn : n ≤ 1000000) :
    Calls Tryz.prog 297 #[.slice none 0 0, .int .i64 n] w fun e w' => ∃ A cap, e = .returned (.slice A 0 cap) ∧ Own w' w.heap.size 39 32 A 0 cap [] ∧ Below w.heap.size w w' := by
  obtain ⟨i, z, hi, hz, hsz, hby, hzs⟩ := einfoId.info
  have c := Any8.slices_Grow_grow Tryz.layGrowId i z hi hz (by omega) none 0 0 n [] w (Nat.le_refl _) (by omega) (by rw [hby]; omega) (by omega) (by simp) (fun _ => rfl) (by simp)
  have e25 : Tryz.layGrowId_ren.t 25 = 39 := rfl
  have hG := grownCap_ge w (0 + n) 0 39
  have hM := grownCap_le_maxLen w (0 + n) 0 39 (by unfold maxLen; omega)
  rw [e25] at c
  obtain ⟨G, hGe⟩ : ∃ G, grownCap w (0 + n) 0 39 = G := ⟨_, rfl⟩
  rw [hGe] at c hG hM
  clear hGe e25
  refine c.mono ?_
  rintro e w' ⟨rfl, rfl⟩
  obtain ⟨cs, hcs⟩ : ∃ cs, (#[] ++ Builtin.zeroCells z.cells (0 + n - 0) ++ Builtin.zeroCells z.cells (G - (0 + n)) : Array Value) = cs := ⟨_, rfl⟩
  have hsz2 : cs.size = G * 32 := by
    rw [← hcs, Array.size_append, Array.size_append, size_zeroCells, size_zeroCells, hzs]
    simp only [List.size_toArray, List.length_nil, Nat.zero_add, Nat.sub_zero]
    rw [← Nat.add_mul, show n + (G - n) = G from by omega]
  have hcs' : (([] : List Value).toArray ++ Builtin.zeroCells z.cells (0 + n - 0) ++ Builtin.zeroCells z.cells (G - (0 + n)) : Array Value) = cs := hcs
  rw [hcs']
  refine ⟨some ⟨w.heap.size, 0, none⟩, G, rfl, ⟨⟨rfl, .inr ⟨w.heap.size, G, cs, rfl, Nat.le_refl _, heap_alloc_new w.drew _, Nat.zero_le _, hM, hsz2, rfl⟩⟩, rfl, by simp⟩, ((Below.refl _ _).drew).alloc (Nat.le_refl _) _⟩

/-- Concat of three. -/
theorem concat3 (w : World) (q c0 : Nat) (A1 A2 A3 : Option Addr) (n1 n2 n3 c1 c2 c3 : Nat) (R1 R2 R3 : List Id32) (h1 : TagsIn w A1 n1 R1) (h2 : TagsIn w A2 n2 R2) (h3 : TagsIn w A3 n3 R3) (f1 : A1 = none → c1 = 0) (f2 : A2 = none → c2 = 0) (f3 : A3 = none → c3 = 0)
    (k0 : w.cell? ⟨q, 0, none⟩ = some (.slice A1 n1 c1)) (k1 : w.cell? ⟨q, 1, none⟩ = some (.slice A2 n2 c2)) (k2 : w.cell? ⟨q, 2, none⟩ = some (.slice A3 n3 c3)) (hp : 0 < n1 + n2 + n3) (hn : n1 + n2 + n3 ≤ 1000000) :
    Calls Tryz.prog 264 #[.slice (some ⟨q, 0, none⟩) 3 c0] w fun e w' => ∃ A cap, e = .returned (.slice A (n1 + n2 + n3) cap) ∧ Own w' w.heap.size 39 32 A (n1 + n2 + n3) cap ((R1 ++ R2 ++ R3).map idC) ∧ Below w.heap.size w w' := by
  have cg := grow0 w (n1 + n2 + n3) hp hn
  rw [show ((n1 + n2 + n3 : Nat) : Int) = (n1 : Int) + (n2 : Int) + (n3 : Int) from by omega] at cg
  go_enter Tryz.func264, Tryz.ntmps264
  go_wp2_with fail
  refine wp_loop_rounds 4 ?_
  rw [rounds_succ]
  go_wp2_with fail
  rw [rounds_succ]
  go_wp2_with fail
  rw [rounds_succ]
  go_wp2_with fail
  rw [rounds_succ]
  go_wp2_with fail
  refine cg.mono ?_; rintro e w1 ⟨A, cap, rfl, hown, hb⟩
  have k0' := (hb.cell (World.block_lt_of_cell? w _ k0)).trans k0
  have k1' := (hb.cell (World.block_lt_of_cell? w _ k1)).trans k1
  have k2' := (hb.cell (World.block_lt_of_cell? w _ k2)).trans k2
  have t1 : TagsIn w1 A1 n1 R1 := SlR.below h1 hb
  have t2 : TagsIn w1 A2 n2 R2 := SlR.below h2 hb
  have t3 : TagsIn w1 A3 n3 R3 := SlR.below h3 hb
  have hq : q < w.heap.size := World.block_lt_of_cell? w _ k0
  have hone : ∀ R : List Id32, ∀ r ∈ R.map idC, ∀ u ∈ r.toList, u.oneCell' = true := fun R r hr => by
    obtain ⟨x, _, rfl⟩ := List.mem_map.1 hr; exact idC_one x
  have hsz := hb.size
  have Hone := Lib.hid hone
  clear cg hone
  go_wp2_with fail
  refine wp_loop_rounds 4 ?_
  rw [rounds_succ]
  go_wp2_with (at_builtin; refine L_appends einfoId rfl hown rfl t1 f1 (Hone.out _) (by omega) (by omega) (by omega) ?_; intro B1 d1 w2 hown2 hk2 hsub2)
  simp only [Nat.zero_add, List.nil_append] at hown2
  have hb2 : Below w.heap.size w w2 := hb.trans (hk2.below (by have := hb.size; omega) (fun x hx => (hown.at_base hx).1))
  have hsz2 := hb2.size
  have k12 := (hb2.cell (World.block_lt_of_cell? w _ k1)).trans k1
  have k22 := (hb2.cell (World.block_lt_of_cell? w _ k2)).trans k2
  have k02 := (hb2.cell (World.block_lt_of_cell? w _ k0)).trans k0
  have t22 : TagsIn w2 A2 n2 R2 := SlR.below h2 hb2
  clear hk2 hsub2 hown k0' k1' k2'
  rw [rounds_succ]
  go_wp2_with (at_builtin; refine L_appends einfoId rfl hown2 rfl t22 f2 (Hone.out _) (by omega) (by omega) (by omega) ?_; intro B3 d3 w3 hown3 hk3 hsub3)
  simp only [← List.map_append] at hown3
  have hb3 : Below w.heap.size w w3 := hb2.trans (hk3.below (by have := hb2.size; omega) (fun x hx => (hown2.at_base hx).1))
  have hsz3 := hb3.size
  have k13 := (hb3.cell (World.block_lt_of_cell? w _ k1)).trans k1
  have k23 := (hb3.cell (World.block_lt_of_cell? w _ k2)).trans k2
  have k03 := (hb3.cell (World.block_lt_of_cell? w _ k0)).trans k0
  have t33 : TagsIn w3 A3 n3 R3 := SlR.below h3 hb3
  clear hk3 hsub3 hown2 k02 k12 k22
  rw [rounds_succ]
  go_wp2_with (at_builtin; refine L_appends einfoId rfl hown3 rfl t33 f3 (Hone.out _) (by omega) (by omega) (by omega) ?_; intro B4 d4 w4 hown4 hk4 hsub4)
  have hb4 : Below w.heap.size w w4 := hb3.trans (hk4.below (by omega) (fun x hx => (hown3.at_base hx).1))
  rw [← List.map_append] at hown4
  have Hown4 := Lib.hid hown4
  have k04 := (hb4.cell (World.block_lt_of_cell? w _ k0)).trans k0
  clear hk4 hsub4 hown3 k03 k13 k23 hown4
  rw [rounds_succ]
  go_wp2_with fail
  go_ret
  exact ⟨B4, d4, rfl, Hown4.out, hb4⟩

end Go.Proofs.YtgfpjjppeldhbaaGreatDoor
