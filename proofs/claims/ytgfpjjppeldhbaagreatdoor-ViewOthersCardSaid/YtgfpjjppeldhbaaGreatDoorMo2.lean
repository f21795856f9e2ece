/- Part 2 of the texts that lead to this claim: the walks of the functions and the plain law, in order. -/
import Derived.Test.YtgfpjjppeldhbaaGreatDoorMo1
import Derived.Lib.Bytealg
import Derived.Sort.Grow
import Derived.Sort.LotA
import Derived.ProofKit
import Derived.OpenShut
import Derived.JoinedCond
import Derived.Maps.AppendAt

/- Maps to bool that serve as sets: their keys, all true. No program is named here. -/
namespace Go.Proofs.YtgfpjjppeldhbaaGreatDoor
open Go.RowKit

section
variable {P : Program} {K T E' : TypeId} {κ : Type} {kv : κ → Value} {ok : κ → Prop} {w w' : World} {b : Nat} {L L' : List κ} {x : κ}

/-- Block b is a map that has just the keys L, all true. -/
def SetAt (w : World) (b : Nat) (kv : κ → Value) (ok : κ → Prop) (L : List κ) : Prop :=
  ∃ M es clk, MapAt w b kv Value.bool ok M es clk ∧ (∀ x, x ∈ M.map (·.1) ↔ x ∈ L) ∧ ∀ p ∈ M, p.2 = true

theorem SetAt.congr (h : SetAt w b kv ok L) (hl : ∀ x, x ∈ L ↔ x ∈ L') : SetAt w b kv ok L' := by
  obtain ⟨M, es, clk, hm, hk, ht⟩ := h
  exact ⟨M, es, clk, hm, fun x => (hk x).trans (hl x), ht⟩
theorem SetAt.lt (h : SetAt w b kv ok L) : b < w.heap.size := by
  obtain ⟨M, es, clk, hm, _⟩ := h; exact hm.lt
theorem SetAt.kept {S : List Nat} (h : SetAt w b kv ok L) (k : Keep S w w') (hb : b ∉ S) : SetAt w' b kv ok L := by
  obtain ⟨M, es, clk, hm, hk⟩ := h
  exact ⟨M, es, clk, hm.kept k hb, hk⟩
theorem SetAt.below (h : SetAt w b kv ok L) (k : Below w.heap.size w w') : SetAt w' b kv ok L := h.kept (Keep.of_below k) (by simp)
theorem SetAt.new (w : World) (b : Nat) (hb : b = w.heap.size) : SetAt (w.alloc (.map #[] 0)) b kv ok [] := ⟨[], #[], 0, MapAt.new w b hb, by simp, by simp⟩
theorem SetAt.hit (h : SetAt w b kv ok L) (E : KeyEnc P K kv ok) (ht : P.underlying T = some (.map K E')) (hk : ok x) (hx : x ∈ L) :
    (Instr.lookup T (.map (some b)) (kv x) false).run P w = .ok (.bool true) w := by
  obtain ⟨M, es, clk, hm, hks, htr⟩ := h
  obtain ⟨p, hp, rfl⟩ := List.mem_map.1 ((hks x).2 hx)
  have h1 : (p.1, true) ∈ M := by
    have := htr p hp
    rwa [show (p.1, true) = p from by cases p; simp_all]
  exact hm.hit E ht hk h1 false
theorem SetAt.miss (h : SetAt w b kv ok L) (E : KeyEnc P K kv ok) (ht : P.underlying T = some (.map K E')) (hz : ∀ w, (zeroValue E').run P w = .ok (.bool false) w) (hk : ok x) (hx : x ∉ L) :
    (Instr.lookup T (.map (some b)) (kv x) false).run P w = .ok (.bool false) w := by
  obtain ⟨M, es, clk, hm, hks, htr⟩ := h
  exact hm.miss E ht (hz w) hk (fun h => hx ((hks x).1 h)) false
theorem SetAt.put [DecidableEq κ] (h : SetAt w b kv ok L) (E : KeyEnc P K kv ok) (ht : P.underlying T = some (.map K E')) (hk : ok x) :
    ∃ w', (Instr.mapUpdate T (.map (some b)) (kv x) (.bool true)).run P w = .ok () w' ∧ SetAt w' b kv ok (x :: L) ∧ Keep [b] w w' := by
  obtain ⟨M, es, clk, hm, hks, htr⟩ := h
  obtain ⟨w', es', clk', hrun, hm', hkeep⟩ := hm.update (v := true) E ht hk
  refine ⟨w', hrun, ⟨_, es', clk', hm', ?_, ?_⟩, hkeep⟩
  · intro y
    unfold putL
    split
    · rename_i hin
      have e : (M.map fun p => if p.1 = x then (x, true) else p).map (·.1) = M.map (·.1) := by
        rw [List.map_map]
        refine List.map_congr_left fun p _ => ?_
        simp only [Function.comp_apply]
        split
        · rename_i h; exact h.symm
        · rfl
      rw [e, hks, List.mem_cons]
      exact ⟨.inr, fun h => h.elim (fun h => by subst h; exact (hks _).1 hin) id⟩
    · rw [List.map_append, List.mem_append, hks, List.mem_cons]
      simp only [List.map_cons, List.map_nil, List.mem_singleton]
      exact Or.comm
  · intro p hp
    unfold putL at hp
    split at hp
    · obtain ⟨q, hq, rfl⟩ := List.mem_map.1 hp
      split
      · rfl
      · exact htr q hq
    · rcases List.mem_append.1 hp with hp | hp
      · exact htr p hp
      · simp at hp; subst hp; rfl
theorem SetAt.del [DecidableEq κ] (h : SetAt w b kv ok L) (E : KeyEnc P K kv ok) (ht : P.underlying T = some (.map K E')) (hk : ok x) (ty : TypeId) :
    ∃ w', (Builtin.delete_ #[T, K] ty #[.map (some b), kv x]).run P w = .ok (.tuple #[]) w' ∧ SetAt w' b kv ok (L.filter fun y => decide (y ≠ x)) ∧ Keep [b] w w' := by
  obtain ⟨M, es, clk, hm, hks, htr⟩ := h
  obtain ⟨w', es', hrun, hm', hkeep⟩ := hm.delete (ty := ty) E ht hk
  refine ⟨w', hrun, ⟨_, es', clk, hm', ?_, ?_⟩, hkeep⟩
  · intro y
    simp only [List.mem_map, mem_delL, List.mem_filter, decide_eq_true_eq, ← hks]
    constructor
    · rintro ⟨p, ⟨h1, h2⟩, rfl⟩; exact ⟨⟨p, h1, rfl⟩, h2⟩
    · rintro ⟨⟨p, h1, rfl⟩, h2⟩; exact ⟨p, ⟨h1, h2⟩, rfl⟩
  · intro p hp
    exact htr p (mem_delL.1 hp).1
/-- A range loop over a set: the keys come in some order, each once. -/
def SetRange (w : World) (b r : Nat) (kv : κ → Value) (ok : κ → Prop) (L S : List κ) : Prop :=
  ∃ M Z, RangeAt w b r kv Value.bool ok M Z ∧ (∀ x, x ∈ M.map (·.1) ↔ x ∈ L) ∧ (∀ p ∈ M, p.2 = true) ∧ Z.map (·.1) = S ∧ (M.map (·.1)).Nodup
theorem SetRange.ne {r : Nat} {S : List κ} (h : SetRange w b r kv ok L S) : r ≠ b := by
  obtain ⟨M, Z, h, _⟩ := h; exact h.ne
theorem SetRange.lt {r : Nat} {S : List κ} (h : SetRange w b r kv ok L S) : r < w.heap.size ∧ b < w.heap.size := by
  obtain ⟨M, Z, h, _⟩ := h; exact h.lt
theorem SetRange.kept {r : Nat} {S : List κ} {A : List Nat} (h : SetRange w b r kv ok L S) (k : Keep A w w') (hb : b ∉ A) (hr : r ∉ A) : SetRange w' b r kv ok L S := by
  obtain ⟨M, Z, h, rest⟩ := h
  exact ⟨M, Z, h.kept k hb hr, rest⟩
theorem SetAt.range (h : SetAt w b kv ok L) (ht : P.underlying T = some (.map K E')) :
    ∃ w', (Instr.range T (.map (some b))).run P w = .ok (.pointer (some ⟨w.heap.size, 0, none⟩)) w' ∧ SetRange w' b w.heap.size kv ok L [] ∧ Below w.heap.size w w' ∧ w'.heap.size = w.heap.size + 1 := by
  obtain ⟨M, es, clk, hm, hks, htr⟩ := h
  obtain ⟨w', hrun, hr, hb, hs⟩ := hm.range ht
  exact ⟨w', hrun, ⟨M, [], hr, hks, htr, rfl, hm.nodup⟩, hb, hs⟩
theorem SetRange.next {r : Nat} {S : List κ} (h : SetRange w b r kv ok L S) (ty : TypeId) :
    ((∀ x, x ∈ S ↔ x ∈ L) ∧ S.Nodup ∧ (Instr.next (.pointer (some ⟨r, 0, none⟩)) false ty).run P w = .ok (.tuple #[.bool false]) w) ∨
    ∃ x w', x ∈ L ∧ x ∉ S ∧ (Instr.next (.pointer (some ⟨r, 0, none⟩)) false ty).run P w = .ok (.tuple #[.bool true, kv x, .bool true]) w' ∧ SetRange w' b r kv ok L (S ++ [x]) ∧ Keep [r] w w' ∧ w'.heap.size = w.heap.size ∧
      w'.rangeLeft b r < w.rangeLeft b r ∧ (Instr.entry (.pointer (some ⟨r, 0, none⟩))).run P w' = .ok (.tuple #[kv x, .bool true]) w' := by
  obtain ⟨M, Z, hR, hks, htr, rfl, hnd⟩ := h
  rcases hR.next (P := P) ty with ⟨hp, hrun⟩ | ⟨p, w', hpM, hpZ, hrun, hR', hk, hs, hl, hen⟩
  · refine .inl ⟨fun x => ?_, (hp.map (·.1)).nodup_iff.2 hnd, hrun⟩
    rw [(hp.map (·.1)).mem_iff, hks]
  · have hv := htr p hpM
    rw [hv] at hrun hen
    refine .inr ⟨p.1, w', (hks _).1 (List.mem_map.2 ⟨p, hpM, rfl⟩), ?_, hrun, ⟨M, Z ++ [p], hR', hks, htr, by simp, hnd⟩, hk, hs, hl, hen⟩
    intro hm
    obtain ⟨q, hq, he⟩ := List.mem_map.1 hm
    have hqM := hR.sub q hq
    obtain ⟨i, hi, hpi⟩ := List.mem_iff_getElem.1 hpM
    obtain ⟨j, hj, hqj⟩ := List.mem_iff_getElem.1 hqM
    have e1 : (M.map (·.1))[i]? = some p.1 := by rw [List.getElem?_map, List.getElem?_eq_getElem hi, hpi]; rfl
    have e2 : (M.map (·.1))[j]? = some p.1 := by rw [List.getElem?_map, List.getElem?_eq_getElem hj, hqj]; simp [he]
    have : i = j := nodup_inj hnd e1 e2
    subst this
    rw [hpi] at hqj
    subst hqj
    exact hpZ hq
end

end Go.Proofs.YtgfpjjppeldhbaaGreatDoor

/- The order of texts and ids: no walk. -/
namespace Go.Proofs.YtgfpjjppeldhbaaGreatDoor
open Go.RowKit

/-- By bytes: -1, 0, 1. -/
abbrev cmpB := Lib.compareBytes

theorem cmpB_self : ∀ a : List UInt8, cmpB a a = 0
  | [] => rfl
  | c :: a => by
    show (if c < c then (-1 : Int) else if c < c then 1 else cmpB a a) = 0
    rw [if_neg (by simp), if_neg (by simp)]; exact cmpB_self a
theorem cmpB_eq : ∀ a b : List UInt8, cmpB a b = 0 → a = b
  | [], [], _ => rfl
  | [], _ :: _, h => by cases h
  | _ :: _, [], h => by cases h
  | c :: a, d :: b, h => by
    have h' : (if c < d then (-1 : Int) else if d < c then 1 else cmpB a b) = 0 := h
    by_cases h1 : c < d
    · rw [if_pos h1] at h'; cases h'
    · rw [if_neg h1] at h'
      by_cases h2 : d < c
      · rw [if_pos h2] at h'; cases h'
      · rw [if_neg h2] at h'
        have e : c = d := by
          simp only [UInt8.lt_iff_toNat_lt] at h1 h2
          exact UInt8.toNat_inj.1 (by omega)
        rw [e, cmpB_eq a b h']
theorem cmpB_zero (a b : List UInt8) : cmpB a b = 0 ↔ a = b := ⟨cmpB_eq a b, fun h => by rw [h]; exact cmpB_self b⟩
theorem cmpB_anti : ∀ a b : List UInt8, cmpB b a = - cmpB a b
  | [], [] => rfl
  | [], _ :: _ => rfl
  | _ :: _, [] => rfl
  | c :: a, d :: b => by
    show (if d < c then (-1 : Int) else if c < d then 1 else cmpB b a) = -(if c < d then (-1 : Int) else if d < c then 1 else cmpB a b)
    by_cases h1 : c < d
    · have h2 : ¬ d < c := by rw [UInt8.lt_iff_toNat_lt] at *; omega
      rw [if_neg h2, if_pos h1, if_pos h1]; rfl
    · by_cases h2 : d < c
      · rw [if_pos h2, if_neg h1, if_pos h2]
      · rw [if_neg h2, if_neg h1, if_neg h1, if_neg h2]; exact cmpB_anti a b
theorem cmpB_range : ∀ a b : List UInt8, cmpB a b = -1 ∨ cmpB a b = 0 ∨ cmpB a b = 1
  | [], [] => .inr (.inl rfl)
  | [], _ :: _ => .inl rfl
  | _ :: _, [] => .inr (.inr rfl)
  | c :: a, d :: b => by
    show (if c < d then (-1 : Int) else if d < c then 1 else cmpB a b) = -1 ∨ (if c < d then (-1 : Int) else if d < c then 1 else cmpB a b) = 0 ∨ (if c < d then (-1 : Int) else if d < c then 1 else cmpB a b) = 1
    by_cases h1 : c < d
    · rw [if_pos h1]; exact .inl rfl
    · by_cases h2 : d < c
      · rw [if_neg h1, if_pos h2]; exact .inr (.inr rfl)
      · rw [if_neg h1, if_neg h2]; exact cmpB_range a b
theorem cmpB_trans : ∀ a b c : List UInt8, cmpB a b < 0 → cmpB b c < 0 → cmpB a c < 0
  | [], [], _, h, _ => by cases h
  | [], _ :: _, [], _, h => by cases h
  | [], _ :: _, _ :: _, _, _ => by show (-1 : Int) < 0; omega
  | _ :: _, [], _, h, _ => by cases h
  | _ :: _, _ :: _, [], _, h => by cases h
  | x :: a, y :: b, z :: c, h1, h2 => by
    have h1' : (if x < y then (-1 : Int) else if y < x then 1 else cmpB a b) < 0 := h1
    have h2' : (if y < z then (-1 : Int) else if z < y then 1 else cmpB b c) < 0 := h2
    show (if x < z then (-1 : Int) else if z < x then 1 else cmpB a c) < 0
    simp only [UInt8.lt_iff_toNat_lt] at *
    by_cases p1 : x.toNat < y.toNat
    · by_cases q1 : y.toNat < z.toNat
      · rw [if_pos (by omega)]; omega
      · rw [if_neg q1] at h2'
        by_cases q2 : z.toNat < y.toNat
        · rw [if_pos q2] at h2'; omega
        · rw [if_pos (by omega)]; omega
    · rw [if_neg p1] at h1'
      by_cases p2 : y.toNat < x.toNat
      · rw [if_pos p2] at h1'; omega
      · rw [if_neg p2] at h1'
        by_cases q1 : y.toNat < z.toNat
        · rw [if_pos (by omega)]; omega
        · rw [if_neg q1] at h2'
          by_cases q2 : z.toNat < y.toNat
          · rw [if_pos q2] at h2'; omega
          · rw [if_neg q2] at h2'
            rw [if_neg (by omega), if_neg (by omega)]
            exact cmpB_trans a b c h1' h2'
theorem bytesLess_cmp : ∀ a b : List UInt8, Op.bytesLess a b = decide (cmpB a b < 0)
  | [], [] => rfl
  | [], _ :: _ => rfl
  | _ :: _, [] => rfl
  | c :: a, d :: b => by
    show (decide (c < d) || (c == d && Op.bytesLess a b)) = decide ((if c < d then (-1 : Int) else if d < c then 1 else cmpB a b) < 0)
    by_cases h1 : c < d
    · simp [h1]
    · by_cases h2 : d < c
      · have e : (c == d) = false := by
          rw [beq_eq_false_iff_ne]; rintro rfl; exact h1 h2
        simp [h1, h2, e]
      · have e : c = d := by
          simp only [UInt8.lt_iff_toNat_lt] at h1 h2
          exact UInt8.toNat_inj.1 (by omega)
        subst e
        simp [bytesLess_cmp a b]

/-- Texts and ids. -/
def cmpS (a b : ByteArray) : Int := cmpB a.toList b.toList
def cmpId (a b : Id32) : Int := cmpB a.l b.l
def cmpI (a b : Int) : Int := if a < b then -1 else if b < a then 1 else 0
def bltS (a b : ByteArray) : Bool := Op.bytesLess a.toList b.toList
theorem bltS_cmp (a b : ByteArray) : bltS a b = decide (cmpS a b < 0) := bytesLess_cmp _ _
theorem cmpS_zero (a b : ByteArray) : cmpS a b = 0 ↔ a = b := by unfold cmpS; rw [cmpB_zero, toList_inj]
theorem cmpS_self (a : ByteArray) : cmpS a a = 0 := cmpB_self _
theorem cmpS_anti (a b : ByteArray) : cmpS b a = - cmpS a b := cmpB_anti _ _
theorem cmpS_trans (a b c : ByteArray) : cmpS a b < 0 → cmpS b c < 0 → cmpS a c < 0 := cmpB_trans _ _ _
theorem cmpS_range (a b : ByteArray) : cmpS a b = -1 ∨ cmpS a b = 0 ∨ cmpS a b = 1 := cmpB_range _ _
theorem cmpId_zero (a b : Id32) : cmpId a b = 0 ↔ a = b := by
  unfold cmpId; rw [cmpB_zero]; exact ⟨Id32.ext', fun h => by rw [h]⟩
theorem cmpId_self (a : Id32) : cmpId a a = 0 := cmpB_self _
theorem cmpId_anti (a b : Id32) : cmpId b a = - cmpId a b := cmpB_anti _ _
theorem cmpId_trans (a b c : Id32) : cmpId a b < 0 → cmpId b c < 0 → cmpId a c < 0 := cmpB_trans _ _ _
theorem cmpId_range (a b : Id32) : cmpId a b = -1 ∨ cmpId a b = 0 ∨ cmpId a b = 1 := cmpB_range _ _
theorem cmpI_range (a b : Int) : cmpI a b = -1 ∨ cmpI a b = 0 ∨ cmpI a b = 1 := by
  unfold cmpI
  repeat' split
  all_goals simp
/-- The first that is not 0. -/
def orL : List Int → Int
  | [] => 0
  | a :: l => if a = 0 then orL l else a

end Go.Proofs.YtgfpjjppeldhbaaGreatDoor

/- Walks: cmp.Compare, cmp.Or, ident.Compare, the reference's Compare. -/
namespace Go.Proofs.YtgfpjjppeldhbaaGreatDoor
open Go.RowKit

theorem nan_int (x : Int) (w : World) : Calls Tryz.prog 187 #[.int .i64 x] w fun e w' => e = .returned (.bool false) ∧ w = w' := by
  go_enter Tryz.func187, Tryz.ntmps187
  go_wp2_with fail
  go_ret
  exact ⟨ret_bool (by simp), rfl⟩
theorem nan_str (x : ByteArray) (w : World) : Calls Tryz.prog 202 #[.string x] w fun e w' => e = .returned (.bool false) ∧ w = w' := by
  go_enter Tryz.func202, Tryz.ntmps202
  go_wp2_with fail
  go_ret
  exact ⟨ret_bool (by simp), rfl⟩

theorem cmp_int (x y : Int) (w : World) : Calls Tryz.prog 107 #[.int .i64 x, .int .i64 y] w fun e w' => e = .returned (.int .i64 (cmpI x y)) ∧ w = w' := by
  go_enter Tryz.func107, Tryz.ntmps107
  go_wp2_with (go_at_call 187; refine (nan_int _ _).mono ?_; rintro e w' ⟨rfl, rfl⟩)
  all_goals
    go_ret
    exact ⟨ret_int (by unfold cmpI; first | rw [if_pos (by omega)] | rw [if_neg (by omega), if_pos (by omega)] | rw [if_neg (by omega), if_neg (by omega)]), rfl⟩

theorem cmp_str_h (x y : ByteArray) (b1 b2 : Bool) (h1 : Op.bytesLess x.toList y.toList = b1) (h2 : (x.toList == y.toList) = b2) (w : World) :
    Calls Tryz.prog 130 #[.string x, .string y] w fun e w' => e = .returned (.int .i64 (if b1 = true then -1 else if b2 = true then 0 else 1)) ∧ w = w' := by
  go_enter Tryz.func130, Tryz.ntmps130
  go_wp2_with (go_at_call 202; refine (nan_str _ _).mono ?_; rintro e w' ⟨rfl, rfl⟩)
  all_goals
    go_ret
    exact ⟨ret_int (by simp_all), rfl⟩
theorem cmp_str (x y : ByteArray) (w : World) : Calls Tryz.prog 130 #[.string x, .string y] w fun e w' => e = .returned (.int .i64 (cmpS x y)) ∧ w = w' := by
  have hlt : Op.bytesLess x.toList y.toList = decide (cmpS x y < 0) := bytesLess_cmp _ _
  have heq : (x.toList == y.toList) = decide (cmpS x y = 0) := by
    rw [Bool.eq_iff_iff]; simp only [beq_iff_eq, decide_eq_true_eq, cmpS_zero, toList_inj]
  refine (cmp_str_h x y _ _ hlt heq w).mono ?_
  rintro e w' ⟨rfl, rfl⟩
  refine ⟨ret_int ?_, rfl⟩
  rcases cmpS_range x y with h | h | h <;> rw [h] <;> rfl

/-- cmp.Or at a row of numbers. -/
theorem or_any (g cap : Nat) (L : List Int) (hL : L.length ≤ 9223372036854775807) (w : World) (hc : ∀ j, j < L.length → w.cell? ⟨g, j, none⟩ = some (.int .i64 (L.getD j 0))) :
    Calls Tryz.prog 106 #[.slice (some ⟨g, 0, none⟩) L.length cap] w fun e w' => e = .returned (.int .i64 (orL L)) ∧ w = w' := by
  have Hc := Lib.hid hc; clear hc
  go_enter Tryz.func106, Tryz.ntmps106
  go_wp2_with fail
  go_loop [5, 8] (fun _ i => ∃ k : Nat, k ≤ L.length ∧ i = .int .i64 k ∧ Hid (orL (L.drop k) = orL L)) (fun _ i => L.length - (intOf i).toNat)
  case atStart => exact ⟨0, Nat.zero_le _, rfl, rfl⟩
  case round =>
    obtain ⟨k, hk, rfl, hd⟩ := hrel
    by_cases hlt : k < L.length
    · have hcell := Hc.out k hlt
      have hdrop : L.drop k = L.getD k 0 :: L.drop (k + 1) := by
        rw [List.drop_eq_getElem_cons hlt]; simp [List.getD, hlt]
      by_cases hz : L.getD k 0 = 0
      · have hz' : (L.getD k 0 != 0) = false := by rw [bne_eq_false_iff_eq]; exact hz
        have hn : Hid (orL (L.drop (k + 1)) = orL L) := by
          show _ = _
          rw [← hd.out, hdrop]
          show _ = if L.getD k 0 = 0 then _ else _
          rw [if_pos hz]
        clear hz hdrop
        obtain ⟨x, hx⟩ : ∃ x : Int, L.getD k 0 = x := ⟨_, rfl⟩
        rw [hx] at hcell hz'
        have Hx := Lib.hid hx; clear hx
        go_wp2_with fail
        go_round
        case rel => exact ⟨k + 1, by omega, by go_num, hn⟩
        case measure => simp [intOf]; omega
      · have hz' : (L.getD k 0 != 0) = true := by rw [bne_iff_ne]; exact hz
        have hn : Hid (L.getD k 0 = orL L) := by
          show _ = _
          rw [← hd.out, hdrop]
          show _ = if L.getD k 0 = 0 then _ else _
          rw [if_neg hz]
        clear hz hdrop
        obtain ⟨x, hx⟩ : ∃ x : Int, L.getD k 0 = x := ⟨_, rfl⟩
        rw [hx] at hcell hz' hn
        have Hx := Lib.hid hx; clear hx
        go_wp2_with fail
        go_ret
        exact ⟨ret_int hn.out, rfl⟩
    · go_wp2_with fail
      go_ret
      have e : L.drop k = [] := List.drop_eq_nil_of_le (by omega)
      have h0 := hd.out
      rw [e] at h0
      exact ⟨ret_int h0, rfl⟩

theorem loadBytes_run (w : World) : ∀ (l : List UInt8) (a : Addr) (acc : ByteArray), (∀ j u, l[j]? = some u → w.cell? (a.add j) = some (.int .u8 u.toNat)) →
    (Extern.Bytes.loadBytes a l.length acc).run Tryz.prog w = .ok ⟨acc.data ++ l.toArray⟩ w
  | [], a, acc, _ => by simp [Extern.Bytes.loadBytes]
  | x :: l, a, acc, h => by
    have h0 : w.cell? a = some (.int .u8 x.toNat) := by
      have := h 0 x rfl
      simpa [Addr.add] using this
    have ih := loadBytes_run w l (a.add 1) (acc.push x) (fun j u hu => by
      have := h (j + 1) u (by simpa using hu)
      have e : (a.add 1).add j = a.add (j + 1) := by
        unfold Addr.add
        by_cases hj : j = 0 <;> simp [hj, Nat.add_assoc, Nat.add_comm 1 j]
      rw [e]; exact this)
    have ex : ((x.toNat : Int).toNat).toUInt8 = x := by simp
    simp only [List.length_cons, Extern.Bytes.loadBytes, Sem.run_bind, run_load, h0, Result.andThen_ok, ex]
    rw [ih]
    simp [ByteArray.push]

theorem byteCmp_run (w : World) (a b : Addr) (n m ca cb : Nat) (x y : List UInt8) (hn : x.length = n) (hm : y.length = m)
    (hx : ∀ j u, x[j]? = some u → w.cell? (a.add j) = some (.int .u8 u.toNat)) (hy : ∀ j u, y[j]? = some u → w.cell? (b.add j) = some (.int .u8 u.toNat)) :
    (Extern.BytealgCompare.compare #[.slice (some a) n ca, .slice (some b) m cb]).run Tryz.prog w = .ok (.int .i64 (cmpB x y)) w := by
  subst hn; subst hm
  have e1 := loadBytes_run w x a .empty hx
  have e2 := loadBytes_run w y b .empty hy
  change Sem.run Tryz.prog (do pure (goInt (Extern.BytealgCompare.cmp (← Extern.Bytes.loadBytes a x.length .empty) (← Extern.Bytes.loadBytes b y.length .empty)))) w = _
  simp only [Sem.run_bind, e1, e2, Result.andThen_ok, Sem.run_pure, goInt, Lib.cmp_eq]
  simp

theorem bytesCmp_any (a b : Addr) (n m ca cb : Nat) (x y : List UInt8) (w : World) (hn : x.length = n) (hm : y.length = m)
    (hx : ∀ j u, x[j]? = some u → w.cell? (a.add j) = some (.int .u8 u.toNat)) (hy : ∀ j u, y[j]? = some u → w.cell? (b.add j) = some (.int .u8 u.toNat)) :
    Calls Tryz.prog 188 #[.slice (some a) n ca, .slice (some b) m cb] w fun e w' => e = .returned (.int .i64 (cmpB x y)) ∧ w = w' := by
  have hr : (callFunc 238 #[.slice (some a) n ca, .slice (some b) m cb]).run Tryz.prog w = .ok (.value (.int .i64 (cmpB x y))) w := by
    rw [run_callFunc_extern Tryz.func238 (by kernel_rfl) (by kernel_rfl) (by kernel_rfl) (e := Extern.BytealgCompare.compare) (by kernel_rfl), byteCmp_run w a b n m ca cb x y hn hm hx hy]
    rfl
  clear hx hy hn hm
  go_enter Tryz.func188, Tryz.ntmps188
  go_wp2_with fail
  go_ret
  exact ⟨rfl, rfl⟩

theorem id_cells {w : World} {g o : Nat} {x : Id32} (h : rowAt w g o 32 = some (idC x)) : ∀ j u, x.l[j]? = some u → w.cell? ((⟨g, o, none⟩ : Addr).add j) = some (.int .u8 u.toNat) := by
  intro j u hu
  have hj : j < 32 := by
    have := (List.getElem?_eq_some_iff.1 hu).1
    rw [x.h] at this; exact this
  have hadd : (⟨g, o, none⟩ : Addr).add j = ⟨g, o + j, none⟩ := by unfold Addr.add; split <;> simp_all
  rw [hadd, rowAt_cell h hj, idC_get, if_pos hj]
  unfold idB
  rw [List.getD, hu]; rfl

set_option maxHeartbeats 400000 in
theorem cmp_id (x y : Id32) (w : World) : Calls Tryz.prog 108 #[.agg (idC x), .agg (idC y)] w fun e w' => e = .returned (.int .i64 (cmpId x y)) ∧ Below w.heap.size w w' := by
  have hB : Below w.heap.size w ((w.alloc (.cells (idC x) 39)).alloc (.cells (idC y) 39)) := ((Below.refl _ _).alloc (Nat.le_refl _) _).alloc (by simp) _
  have hx : rowAt ((w.alloc (.cells (idC x) 39)).alloc (.cells (idC y) 39)) w.heap.size 0 32 = some (idC x) := by simp [go_sem]
  have hy : rowAt ((w.alloc (.cells (idC x) 39)).alloc (.cells (idC y) 39)) (w.heap.size + 1) 0 32 = some (idC y) := by simp [go_sem]
  have hx := Lib.hid (id_cells hx)
  have hy := Lib.hid (id_cells hy)
  go_enter Tryz.func108, Tryz.ntmps108
  go_wp2_with fail
  · go_ret
    have h : (x == y) = true := by assumption
    have : x = y := by simpa using h
    subst this
    exact ⟨ret_int (cmpId_self x).symm, hB⟩
  · go_quiet ((go_at_call 188; exact quiet_eq (bytesCmp_any _ _ _ _ _ _ x.l y.l _ x.h y.h hx.out hy.out)))
    go_wp2_with fail
    go_ret
    exact ⟨rfl, below_drewN hB _⟩

end Go.Proofs.YtgfpjjppeldhbaaGreatDoor

/- Worlds that some draws, and some new blocks, part. No program is named here. -/
namespace Go.Proofs.YtgfpjjppeldhbaaGreatDoor
open Go.RowKit Go.Sort

/-- Draws, and blocks laid behind. -/
def Gr (W w : World) : Prop := ∃ q os, w = grow (W.drewN q) os
theorem Gr.refl (w : World) : Gr w w := ⟨0, #[], by rw [grow_empty]; rfl⟩
theorem Gr.drew (w : World) : Gr w w.drew := ⟨1, #[], by rw [grow_empty]; rfl⟩
theorem Gr.trans {a b c : World} (h : Gr a b) (k : Gr b c) : Gr a c := by
  obtain ⟨q, os, rfl⟩ := h
  obtain ⟨q', os', rfl⟩ := k
  refine ⟨q + q', os ++ os', ?_⟩
  show grow (grow ((a.drewN q).drewN q') os) os' = _
  rw [grow_grow, World.drewN_drewN]
theorem Gr.alloc {W w : World} (h : Gr W w) (o : Obj) : Gr W (w.alloc o) := h.trans ⟨0, #[o], by rw [alloc_eq_grow]; rfl⟩
theorem Gr.below {W w : World} (h : Gr W w) : Below W.heap.size W w := by
  obtain ⟨q, os, rfl⟩ := h
  exact ⟨rfl, rfl, rfl, by rw [size_grow]; exact Nat.le_add_right _ _, fun k hk => heap_grow_old _ _ hk⟩
theorem Gr.drewN {W w : World} (h : Gr W w) (n : Nat) : Gr W (w.drewN n) := h.trans ⟨n, #[], by rw [grow_empty]⟩
theorem gr_some (W : World) : Nonempty (Subtype (Gr W)) := ⟨⟨W, Gr.refl _⟩⟩
theorem gsub_cell {W : World} {p : Addr} {v : Value} (h : W.cell? p = some v) : ∀ x : Subtype (Gr W), x.1.cell? p = some v :=
  fun x => (x.2.below.cell (World.block_lt_of_cell? W _ h)).trans h
theorem gsub_row {W : World} {g o k : Nat} {cs : Array Value} (h : rowAt W g o k = some cs) : ∀ x : Subtype (Gr W), rowAt x.1 g o k = some cs :=
  fun x => (rowAt_of_block (x.2.below.block g (rowAt_lt h)) o k).trans h

end Go.Proofs.YtgfpjjppeldhbaaGreatDoor

/- Rows sorted by a total order, each once: plain law; no walk. -/
namespace Go.Proofs.YtgfpjjppeldhbaaGreatDoor
open Go.RowKit Go.Sort

/-- A total order, as a number: below, equal, above. -/
structure TotC {α : Type} (c : α → α → Int) : Prop where
  zero : ∀ a b, c a b = 0 ↔ a = b
  anti : ∀ a b, c b a = - c a b
  trans : ∀ a b d, c a b < 0 → c b d < 0 → c a d < 0

theorem totS : TotC cmpS := ⟨cmpS_zero, cmpS_anti, cmpS_trans⟩
theorem totId : TotC cmpId := ⟨cmpId_zero, cmpId_anti, cmpId_trans⟩

section
variable {α : Type} {c : α → α → Int}

theorem TotC.irr (T : TotC c) (a : α) : ¬ c a a < 0 := by rw [(T.zero a a).2 rfl]; omega
theorem TotC.self (T : TotC c) (a : α) : c a a = 0 := (T.zero a a).2 rfl
theorem TotC.asym (T : TotC c) {a b : α} (h : c a b < 0) : ¬ c b a < 0 := by have := T.anti a b; omega
theorem TotC.ne (T : TotC c) {a b : α} (h : c a b < 0) : a ≠ b := fun e => by subst e; exact T.irr a h
theorem TotC.flip (T : TotC c) {a b : α} (h1 : ¬ c a b < 0) (h2 : a ≠ b) : c b a < 0 := by
  have h3 : c a b ≠ 0 := fun e => h2 ((T.zero a b).1 e)
  have := T.anti a b
  omega
theorem TotC.le_trans (T : TotC c) {a b d : α} (h1 : ¬ c b a < 0) (h2 : c b d < 0) : c a d < 0 := by
  by_cases e : a = b
  · subst e; exact h2
  · exact T.trans a b d (T.flip h1 (fun e' => e e'.symm)) h2

/-- Two orders in turn: the second where the first says equal. -/
def orC (a b : Int) : Int := if a = 0 then b else a
theorem TotC.pair {β : Type} {d : β → β → Int} (T : TotC c) (U : TotC d) : TotC (fun x y : α × β => orC (c x.1 y.1) (d x.2 y.2)) where
  zero a b := by
    unfold orC
    constructor
    · intro h
      split at h
      · rename_i h1; exact Prod.ext ((T.zero _ _).1 h1) ((U.zero _ _).1 h)
      · contradiction
    · intro h; subst h; rw [if_pos (T.self _)]; exact U.self _
  anti a b := by
    unfold orC
    have h1 := T.anti a.1 b.1
    have h2 := U.anti a.2 b.2
    split <;> split <;> omega
  trans a b e := by
    unfold orC
    intro h1 h2
    by_cases e1 : c a.1 b.1 = 0
    · rw [if_pos e1] at h1
      have q := (T.zero _ _).1 e1
      rw [q]
      by_cases e2 : c b.1 e.1 = 0
      · rw [if_pos e2] at h2 ⊢; exact U.trans _ _ _ h1 h2
      · rw [if_neg e2] at h2 ⊢; exact h2
    · rw [if_neg e1] at h1
      by_cases e2 : c b.1 e.1 = 0
      · have q := (T.zero _ _).1 e2
        rw [← q, if_neg e1]; exact h1
      · rw [if_neg e2] at h2
        have := T.trans _ _ _ h1 h2
        rw [if_neg (by omega)]; exact this
/-- An order of what is told by a one-to-one reading. -/
theorem TotC.of {β : Type} {d : β → β → Int} (T : TotC c) (f : β → α) (hf : ∀ x y, f x = f y → x = y) (hd : ∀ x y, d x y = c (f x) (f y)) : TotC d where
  zero a b := by rw [hd, T.zero]; exact ⟨hf a b, fun h => by rw [h]⟩
  anti a b := by rw [hd, hd]; exact T.anti _ _
  trans a b e := by rw [hd, hd, hd]; exact T.trans _ _ _

/-- Rising. -/
def Ris (c : α → α → Int) (l : List α) : Prop := l.Pairwise (fun x y => c x y < 0)
theorem Ris.nil : Ris c [] := List.Pairwise.nil
theorem ris_cons {x : α} {l : List α} : Ris c (x :: l) ↔ (∀ y ∈ l, c x y < 0) ∧ Ris c l := List.pairwise_cons
theorem Ris.filter {l : List α} (h : Ris c l) (p : α → Bool) : Ris c (l.filter p) := List.Pairwise.sublist List.filter_sublist h
theorem Ris.sub {l m : List α} (h : Ris c l) (hs : m.Sublist l) : Ris c m := List.Pairwise.sublist hs h
theorem Ris.nodup (T : TotC c) {l : List α} (h : Ris c l) : l.Nodup := List.Pairwise.imp (S := fun a b => a ≠ b) (fun {a b} h => T.ne h) h

/-- One more, each once. -/
def insC (c : α → α → Int) : List α → α → List α
  | [], x => [x]
  | y :: l, x => if c y x < 0 then y :: insC c l x else if c y x = 0 then y :: l else x :: y :: l
def sortC (c : α → α → Int) (l : List α) : List α := l.foldl (insC c) []

theorem mem_insC (T : TotC c) : ∀ {l : List α} {x z : α}, z ∈ insC c l x ↔ z = x ∨ z ∈ l
  | [], x, z => by simp [insC]
  | y :: l, x, z => by
    unfold insC
    split
    · rw [List.mem_cons, mem_insC T, List.mem_cons]
      constructor
      · rintro (h | h | h)
        · exact .inr (.inl h)
        · exact .inl h
        · exact .inr (.inr h)
      · rintro (h | h | h)
        · exact .inr (.inl h)
        · exact .inl h
        · exact .inr (.inr h)
    · split
      · rename_i h0
        have e : y = x := (T.zero y x).1 h0
        subst e
        simp only [List.mem_cons]
        constructor
        · rintro (h | h)
          · exact .inl h
          · exact .inr (.inr h)
        · rintro (h | h | h)
          · exact .inl h
          · exact .inl h
          · exact .inr h
      · simp only [List.mem_cons]
theorem ris_insC (T : TotC c) : ∀ {l : List α} {x : α}, Ris c l → Ris c (insC c l x)
  | [], x, _ => by simp [insC, Ris]
  | y :: l, x, h => by
    obtain ⟨h1, h2⟩ := ris_cons.1 h
    unfold insC
    split
    · rename_i hlt
      refine ris_cons.2 ⟨fun z hz => ?_, ris_insC T h2⟩
      rcases (mem_insC T).1 hz with e | hz
      · rw [e]; exact hlt
      · exact h1 z hz
    · rename_i hlt
      split
      · exact h
      · rename_i h0
        have hxy : c x y < 0 := by have := T.anti y x; omega
        refine ris_cons.2 ⟨fun z hz => ?_, h⟩
        rcases List.mem_cons.1 hz with e | hz
        · rw [e]; exact hxy
        · exact T.trans _ _ _ hxy (h1 z hz)
theorem foldl_insC (T : TotC c) : ∀ (l a : List α), Ris c a → Ris c (l.foldl (insC c) a) ∧ ∀ z, z ∈ l.foldl (insC c) a ↔ z ∈ a ∨ z ∈ l
  | [], a, h => ⟨h, fun z => by simp⟩
  | x :: l, a, h => by
    obtain ⟨h1, h2⟩ := foldl_insC T l (insC c a x) (ris_insC T h)
    refine ⟨h1, fun z => ?_⟩
    rw [List.foldl_cons, h2, mem_insC T, List.mem_cons]
    constructor
    · rintro ((h | h) | h)
      · exact .inr (.inl h)
      · exact .inl h
      · exact .inr (.inr h)
    · rintro (h | h | h)
      · exact .inl (.inr h)
      · exact .inl (.inl h)
      · exact .inr h
theorem ris_sortC (T : TotC c) (l : List α) : Ris c (sortC c l) := (foldl_insC T l [] Ris.nil).1
theorem mem_sortC (T : TotC c) {l : List α} {z : α} : z ∈ sortC c l ↔ z ∈ l := by
  have := (foldl_insC T l [] Ris.nil).2 z
  simpa [sortC] using this
theorem sortC_snoc (l : List α) (x : α) : sortC c (l ++ [x]) = insC c (sortC c l) x := by simp [sortC]
theorem insC_length (l : List α) (x : α) : (insC c l x).length ≤ l.length + 1 := by
  induction l with
  | nil => simp [insC]
  | cons y l ih =>
    unfold insC
    repeat' split
    all_goals simp; try omega
theorem sortC_length (l : List α) : (sortC c l).length ≤ l.length := by
  have h : ∀ (l a : List α), (l.foldl (insC c) a).length ≤ a.length + l.length := by
    intro l
    induction l with
    | nil => intro a; simp
    | cons x l ih =>
      intro a
      have h1 := ih (insC c a x)
      have h2 := insC_length (c := c) a x
      simp only [List.foldl_cons, List.length_cons]; omega
  simpa [sortC] using h l []

/-- Two rising lists of the same are one. -/
theorem ris_ext (T : TotC c) : ∀ {l m : List α}, Ris c l → Ris c m → (∀ z, z ∈ l ↔ z ∈ m) → l = m
  | [], [], _, _, _ => rfl
  | [], y :: m, _, _, h => absurd ((h y).2 (by simp)) (by simp)
  | x :: l, [], _, _, h => absurd ((h x).1 (by simp)) (by simp)
  | x :: l, y :: m, hl, hm, h => by
    obtain ⟨h1, h2⟩ := ris_cons.1 hl
    obtain ⟨k1, k2⟩ := ris_cons.1 hm
    have e : x = y := by
      rcases List.mem_cons.1 ((h x).1 (by simp)) with e | hx
      · exact e
      · rcases List.mem_cons.1 ((h y).2 (by simp)) with e | hy
        · exact e.symm
        · exact absurd (k1 x hx) (T.asym (h1 y hy))
    subst e
    congr 1
    refine ris_ext T h2 k2 fun z => ?_
    have hz := h z
    simp only [List.mem_cons] at hz
    constructor
    · intro hzl
      rcases hz.1 (.inr hzl) with e | e
      · subst e; exact absurd (h1 z hzl) (T.irr z)
      · exact e
    · intro hzm
      rcases hz.2 (.inr hzm) with e | e
      · subst e; exact absurd (k1 z hzm) (T.irr z)
      · exact e
theorem insC_old (T : TotC c) {l : List α} {x : α} (h : Ris c l) (hx : x ∈ l) : insC c l x = l :=
  ris_ext T (ris_insC T h) h fun z => by rw [mem_insC T]; exact ⟨fun h => h.elim (fun e => by rw [e]; exact hx) id, .inr⟩
theorem sortC_ris (T : TotC c) {l : List α} (h : Ris c l) : sortC c l = l := ris_ext T (ris_sortC T l) h fun _ => mem_sortC T
theorem sortC_congr (T : TotC c) {l m : List α} (h : ∀ z, z ∈ l ↔ z ∈ m) : sortC c l = sortC c m := ris_ext T (ris_sortC T l) (ris_sortC T m) fun z => by rw [mem_sortC T, mem_sortC T, h]
/-- Where a new one goes. -/
theorem insC_at : ∀ (l : List α) (x : α) (k : Nat), k ≤ l.length → (∀ j (hj : j < l.length), j < k → c l[j] x < 0) → (∀ hk : k < l.length, 0 < c l[k] x) → insC c l x = l.take k ++ x :: l.drop k
  | [], x, k, hk, _, _ => by
    have : k = 0 := by simpa using hk
    subst this; rfl
  | y :: l, x, 0, _, _, h2 => by
    have h := h2 (by simp)
    simp only [List.getElem_cons_zero] at h
    unfold insC
    rw [if_neg (by omega), if_neg (by omega)]; rfl
  | y :: l, x, k + 1, hk, h1, h2 => by
    have h := h1 0 (by simp) (by omega)
    simp only [List.getElem_cons_zero] at h
    unfold insC
    rw [if_pos h, insC_at l x k (by simpa using hk) (fun j hj hjk => by have := h1 (j + 1) (by simpa using hj) (by omega); simpa using this) (fun hk' => by have := h2 (by simpa using hk'); simpa using this)]
    rfl
/-- What is rising is so step by step. -/
theorem ris_step (T : TotC c) {l : List α} (h : ∀ i (hi : i + 1 < l.length), c l[i] l[i + 1] < 0) : Ris c l := by
  induction l with
  | nil => exact Ris.nil
  | cons x l ih =>
    have ih' := ih (fun i hi => by have := h (i + 1) (by simpa using hi); simpa using this)
    refine ris_cons.2 ⟨fun y hy => ?_, ih'⟩
    cases l with
    | nil => simp at hy
    | cons z l =>
      have h0 := h 0 (by simp)
      simp only [List.getElem_cons_zero, List.getElem_cons_succ] at h0
      rcases List.mem_cons.1 hy with e | hy
      · rw [e]; exact h0
      · exact T.trans _ _ _ h0 ((ris_cons.1 ih').1 y hy)
theorem ris_get {l : List α} (h : Ris c l) {i j : Nat} (hij : i < j) (hj : j < l.length) : c (l[i]'(by omega)) l[j] < 0 := List.pairwise_iff_getElem.1 h i j (by omega) hj hij

/-- core's sort of whatever order. -/
theorem mergeSort_ris (T : TotC c) {l m : List α} (h : Ris c l) (hp : m.Perm l) : m.mergeSort (fun x y => !decide (c y x < 0)) = l := by
  have htot : ∀ a b : α, ((!decide (c b a < 0)) || !decide (c a b < 0)) = true := fun a b => by
    by_cases h1 : c b a < 0
    · have := T.asym h1; simp [this]
    · simp [h1]
  have htr : ∀ a b d : α, (!decide (c b a < 0)) = true → (!decide (c d b < 0)) = true → (!decide (c d a < 0)) = true := fun a b d h1 h2 => by
    simp only [Bool.not_eq_true', decide_eq_false_iff_not] at h1 h2 ⊢
    intro h3
    exact h2 (T.le_trans (a := d) (b := a) (d := b) (T.asym h3) (by
      by_cases e : a = b
      · subst e; exact absurd h3 h2
      · exact T.flip h1 (fun e' => e e'.symm)))
  refine List.Perm.eq_of_pairwise (le := fun x y => (!decide (c y x < 0)) = true) ?_ (List.pairwise_mergeSort htr htot m) ?_ ((List.mergeSort_perm _ _).trans hp)
  · intro a b _ _ h1 h2
    simp only [Bool.not_eq_true', decide_eq_false_iff_not] at h1 h2
    exact Classical.byContradiction fun e => h1 (T.flip h2 e)
  · exact List.Pairwise.imp (fun h => by simpa using T.asym h) h
theorem swo_of (T : TotC c) : SWO (fun x y => decide (c x y < 0)) where
  irrefl x := by simpa using T.irr x
  trans x y z h1 h2 := by simp only [decide_eq_true_eq] at *; exact T.trans _ _ _ h1 h2
  ntrans x y z h1 h2 := by
    simp only [decide_eq_false_iff_not] at *
    intro h3
    exact h2 (T.le_trans (a := y) (b := x) (d := z) h1 h3)
end

end Go.Proofs.YtgfpjjppeldhbaaGreatDoor

/- The end of every law's row: it answered true, and wrote nothing that was there before. -/
namespace Go.Proofs.YtgfpjjppeldhbaaGreatDoor
open Go.ChangeShapes Go.WideShapes Go.ChangeAt Go.RowKit

theorem Tryz.own : ownKnob Tryz.prog.godebug = none := by kernel_rfl
theorem Tryz.laidOut : laidOutB Tryz.prog = true := by kernel_rfl

theorem trodAll_below {H : Type} {enc : TypeId × Value → H} {P : Program} {W W' : World} (hl : laidOutB P = true) (hb : Below W.heap.size W W') :
    ∀ (ts : List TypeId) (vs : List Value) (ds : List (DataW H)) (ps : List MemPlace), (∀ t ∈ ts, P.readableRec t = true ∧ t < P.types.size) →
      DataW.TrodAll enc P W 0 (fun _ => true) true ts vs ds ps → (∀ x ∈ ps, x.block < W.heap.size) →
      DataW.TrodAll enc P W' 0 (fun b => decide (b < W.heap.size)) true ts vs ds ps
  | [], [], [], _, _, h, _ => h
  | t :: ts, v :: vs, d :: ds, ps, hr, h, hlt => by
    obtain ⟨p, q, h1, h2, rfl⟩ := h
    have hrt := hr t (by simp)
    exact ⟨p, q, Below.trod hl hrt.1 hrt.2 h1 hb (fun x hx => hlt x (List.mem_append.2 (.inl hx))),
      trodAll_below hl hb ts vs ds q (fun t' ht => hr t' (List.mem_cons.2 (.inr ht))) h2 (fun x hx => hlt x (List.mem_append.2 (.inr hx))), rfl⟩
  | [], _ :: _, _, _, _, h, _ => h.elim
  | [], [], _ :: _, _, _, h, _ => h.elim
  | _ :: _, [], _, _, _, h, _ => h.elim
  | _ :: _, _ :: _, [], _, _, h, _ => h.elim

/-- A law: true; the input reads as it did. -/
theorem law_post {H : Type} {enc : TypeId × Value → H} {P : Program} {f : Func} {s : ChangeSpec} {apart fresh handsOn : Bool} {W W' : World} {args : Array Value} {ds : List (DataW H)} {before : List MemPlace} {tb : TypeId}
    (hl : laidOutB P = true) (hr : f.resultTypes = #[tb]) (htb : P.underlying tb = some .bool) (hv : s.vars = [])
    (hfn : s.fn H (ds ++ []) = { results := [.lit (.bool true)], args := ds }) (hrec : f.params.toList.all (fun t => P.readableRec t && decide (t < P.types.size)) = true)
    (hW : DataW.Whole enc P f.params.toList s.vars apart W args.toList ds [] before) (hb : Below W.heap.size W W') :
    s.post enc P f apart fresh handsOn false W args (.bool true) W' := by
  have hlt := fun p hp => hW.lt p hp
  have hW' := hW
  obtain ⟨p, q, hA, hV, rfl, _, _⟩ := hW
  have hq : q = [] := by rw [hv] at hV; exact hV
  subst hq
  have hrec' : ∀ t ∈ f.params.toList, P.readableRec t = true ∧ t < P.types.size := by
    intro t ht
    have := List.all_eq_true.1 hrec t ht
    simpa using this
  refine ⟨ds, [], p ++ [], [], p, [], hW', ?_, ?_, ?_, ?_, fun h => nomatch h⟩
  · rw [hr, hfn]
    have e : (Value.bool true).resultList (#[tb] : Array TypeId).size = [.bool true] := rfl
    rw [e]
    exact trodAll_mk1 (shut_bool htb true)
  · rw [hfn]
    exact trodAll_below hl hb _ _ _ _ hrec' hA (fun x hx => hlt x (List.mem_append.2 (.inl hx)))
  · rw [hfn, hv]; rfl
  · exact hb.frame _

end Go.Proofs.YtgfpjjppeldhbaaGreatDoor

/- Package bag: rows, their order; rows and ids as keys of a map. -/
namespace Go.Proofs.YtgfpjjppeldhbaaGreatDoor
open Go.RowKit

structure BRow where
  tag : Id32
  val : ByteArray
/-- Its cells. -/
def bRowC (x : BRow) : Array Value := idC x.tag ++ #[.string x.val]
@[simp] theorem bRowC_size (x : BRow) : (bRowC x).size = 33 := by simp [bRowC]
@[go_sem] theorem bRowC_e0 (x : BRow) : (bRowC x).extract 0 32 = idC x.tag := by
  have h : bRowC x = ((#[] : Array Value)) ++ idC x.tag ++ (#[.string x.val]) := by first | (simp [bRowC, Array.append_assoc]; done) | (apply Array.ext'; simp [bRowC]; done)
  rw [h]; exact arr_mid _ _ _ _ _ (by simp) (by simp)
@[go_sem] theorem bRowC_g32 (x : BRow) : (bRowC x)[32]? = some (.string x.val) := by first | (simp [bRowC, Array.getElem?_append]; done) | (rw [show bRowC x = (idC x.tag) ++ #[.string x.val] ++ ((#[] : Array Value)) from by apply Array.ext'; simp [bRowC]]; exact arr_at _ _ _ _ (by simp))
@[go_sem] theorem bRowC_gg32 (x : BRow) (h : 32 < (bRowC x).size) : (bRowC x)[32]'h = .string x.val := Option.some.inj ((Array.getElem?_eq_getElem h).symm.trans (bRowC_g32 x))
@[go_sem] theorem bRowC_pop (x : BRow) : (bRowC x).pop = idC x.tag := by apply Array.ext'; simp [bRowC]
@[go_sem] theorem bRowC_all (x : BRow) : (bRowC x).extract 0 33 = bRowC x := by have := Array.extract_size (xs := bRowC x); rwa [bRowC_size] at this
theorem bRowC_inj {x y : BRow} (h : bRowC x = bRowC y) : x = y := by
  have h0 := congrArg (fun a => a.extract 0 32) h
  simp only [bRowC_e0] at h0
  have h0 := idC_inj h0
  have h1 := congrArg (fun a => a[32]?) h
  simp only [bRowC_g32, Option.some.injEq, Value.string.injEq] at h1
  cases x; cases y; simp_all
theorem bRowC_one (x : BRow) : ∀ u ∈ (bRowC x).toList, u.oneCell' = true := by
  intro u hu
  simp only [bRowC, Array.toList_append, List.mem_append] at hu
  rcases hu with hu | hu
  · exact idC_one _ u hu
  · simp at hu; subst hu; rfl
def bRow0 : BRow := ⟨id0, ⟨#[]⟩⟩
theorem BRow_ext {x y : BRow} (h : x.tag = y.tag ∧ x.val = y.val) : x = y := by cases x; cases y; simp_all
instance : DecidableEq BRow := fun x y => if h : x.tag = y.tag ∧ x.val = y.val then isTrue (BRow_ext h) else isFalse (fun e => h (by subst e; simp))
theorem infoBRow : (Tryz.prog.info? 171).map (·.size) = some 33 := by kernel_rfl
@[go_sem ↓] theorem zeroBRow_run (w : World) : (zeroValue 171).run Tryz.prog w = .ok (.agg (bRowC bRow0)) w := by
  have h : (Tryz.prog.info? 171).bind (·.zero) = some (.agg (bRowC bRow0)) := by kernel_rfl
  cases hi : Tryz.prog.info? 171 with
  | none => rw [hi] at h; cases h
  | some i =>
    rw [hi] at h
    have hz : i.zero = some (.agg (bRowC bRow0)) := h
    simp [zeroValue, typeInfo, hi, hz]
@[go_sem ↓] theorem loadBRow_rw (a : Addr) : loadVar 171 a = ldS 171 a := rfl
@[go_sem ↓] theorem storeBRow_rw (a : Addr) (v : Value) : storeVar 171 a v = stS 171 a v := rfl
@[go_sem] theorem loadBRow_run (w : World) (g o : Nat) : (ldS 171 ⟨g, o, none⟩).run Tryz.prog w = match rowAt w g o 33 with | some cs => .ok (.agg cs) w | none => (loadVar 171 ⟨g, o, none⟩).run Tryz.prog w :=
  run_ldS Tryz.underlying171 rfl infoBRow w g o
@[go_sem] theorem storeBRow_run (w : World) (g : Nat) (hg : g = w.heap.size) (z : Array Value) (hz : z.size = 33) (x : BRow) (e : TypeId) : (stS 171 ⟨g, 0, none⟩ (.agg (bRowC x))).run Tryz.prog (w.alloc (.cells z e)) = .ok () (w.alloc (.cells (bRowC x) e)) :=
  hg ▸ run_stS_new infoBRow w z (bRowC x) hz (bRowC_size x) (bRowC_one x)
theorem fieldsBRow : Tryz.prog.underlying 171 = some (.struct (Tryz.prog.fieldsOf 171)) := by kernel_rfl
theorem placesBRow (w : World) : ((Tryz.prog.fieldsOf 171).mapM fun (f : Field) => do pure (f.offset, ← sizeOf f.type)).run Tryz.prog w = .ok #[(0, 32), (32, 1)] w := by kernel_rfl
@[go_sem ↓] theorem buildBRow_rw (parts : Array (Nat × Value)) : Instr.build 171 parts = bdS 171 parts := rfl
@[go_sem ↓] theorem fieldBRow_0 (x : BRow) (w : World) : (Instr.field 171 (.agg (bRowC x)) 0).run Tryz.prog w = .ok (.agg (idC x.tag)) w := by
  unfold Instr.field
  simp only [Sem.run_bind, run_underlying Tryz.underlying171, Result.andThen_ok, part, asAgg, isAgg]
  simp [go_sem]
@[go_sem ↓] theorem fieldBRow_1 (x : BRow) (w : World) : (Instr.field 171 (.agg (bRowC x)) 1).run Tryz.prog w = .ok (.string x.val) w := by
  unfold Instr.field
  simp only [Sem.run_bind, run_underlying Tryz.underlying171, Result.andThen_ok, part, asAgg, isAgg]
  simp [go_sem]
@[go_sem] theorem buildBRow (a0 : Id32) (a1 : ByteArray) (w : World) : (bdS 171 #[(0, .agg (idC a0)), (1, .string a1)]).run Tryz.prog w = .ok (.agg (bRowC ⟨a0, a1⟩)) w := by
  refine run_build w fieldsBRow _ (zeroBRow_run w) _ (placesBRow w) [(0, .agg (idC a0)), (1, .string a1)] _ ?_
  rw [show bRowC bRow0 = (#[] : Array Value) ++ idC id0 ++ (#[.string ⟨#[]⟩]) from by first | (simp [bRowC, bRow0, Array.append_assoc]; done) | (apply Array.ext'; simp [bRowC, bRow0])]
  rw [fill_step (off := 0) (size := 32) rfl (by simp) (by simp) (by simp [Value.cells])]
  rw [show (#[] : Array Value) ++ (Value.agg (idC a0)).cells ++ (#[.string ⟨#[]⟩]) = (idC a0) ++ #[.string ⟨#[]⟩] ++ (#[] : Array Value) from by first | (simp [Value.cells, Array.append_assoc]; done) | (apply Array.ext'; simp [Value.cells]; done) | (apply Array.ext'; simp only [Array.toList_append]; simp [Value.cells])]
  rw [fill_step (off := 32) (size := 1) rfl (by simp) (by simp) (by simp [Value.cells])]
  first | (simp [Instr.fill, bRowC, Array.append_assoc, Value.cells]; done) | (simp only [Instr.fill, bRowC]; congr 1; apply Array.ext'; simp [Value.cells]; done) | (simp only [Instr.fill, bRowC]; congr 1; done) | (simp only [Instr.fill, bRowC]; done)

def cmpRow (x y : BRow) : Int := orL [cmpId x.tag y.tag, cmpS x.val y.val]
theorem orL2 (a b : Int) : orL [a, b] = orC a b := by
  unfold orC orL orL orL
  split
  · split <;> simp_all
  · rfl
theorem totRow : TotC cmpRow := (totId.pair totS).of (fun x : BRow => (x.tag, x.val)) (fun x y h => by
  cases x; cases y
  simp only [Prod.mk.injEq] at h
  obtain ⟨h1, h2⟩ := h
  subst h1; subst h2; rfl) (fun x y => orL2 _ _)

theorem cmp_id_gr (x y : Id32) (w : World) : Calls Tryz.prog 108 #[.agg (idC x), .agg (idC y)] w fun e w' => e = .returned (.int .i64 (cmpId x y)) ∧ Gr w w' := by
  have hB : Gr w ((w.alloc (.cells (idC x) 39)).alloc (.cells (idC y) 39)) := ((Gr.refl _).alloc _).alloc _
  have hx : rowAt ((w.alloc (.cells (idC x) 39)).alloc (.cells (idC y) 39)) w.heap.size 0 32 = some (idC x) := by simp [go_sem]
  have hy : rowAt ((w.alloc (.cells (idC x) 39)).alloc (.cells (idC y) 39)) (w.heap.size + 1) 0 32 = some (idC y) := by simp [go_sem]
  have hx := Lib.hid (id_cells hx)
  have hy := Lib.hid (id_cells hy)
  go_enter Tryz.func108, Tryz.ntmps108
  go_wp2_with fail
  · go_ret
    have h : (x == y) = true := by assumption
    have : x = y := by simpa using h
    subst this
    exact ⟨ret_int (cmpId_self x).symm, hB⟩
  · go_quiet ((go_at_call 188; exact quiet_eq (bytesCmp_any _ _ _ _ _ _ x.l y.l _ x.h y.h hx.out hy.out)))
    go_wp2_with fail
    go_ret
    exact ⟨rfl, hB.drewN _⟩

theorem or2_cells (w : World) (a b : Int) : ∀ j, j < [a, b].length → (w.alloc (.cells #[.int .i64 a, .int .i64 b] 3)).cell? ⟨w.heap.size, j, none⟩ = some (.int .i64 ([a, b].getD j 0)) := by
  intro j hj
  have : j = 0 ∨ j = 1 := by simp at hj; omega
  rcases this with rfl | rfl <;> simp

set_option maxHeartbeats 1000000 in
theorem rorder (x y : BRow) (w : World) : Calls Tryz.prog 275 #[.agg (bRowC x), .agg (bRowC y)] w fun e w' => e = .returned (.int .i64 (cmpRow x y)) ∧ Gr w w' := by
  go_enter Tryz.func275, Tryz.ntmps275
  go_upto_region 1 with fail
  obtain ⟨W, hW⟩ : ∃ W, W = (w.alloc (.cells (bRowC x) 171)).alloc (.cells (bRowC y) 171) := ⟨_, rfl⟩
  have hB : Gr w W := by rw [hW]; exact ((Gr.refl _).alloc _).alloc _
  have a3 : rowAt W w.heap.size 0 32 = some (idC x.tag) := by rw [hW]; simp [go_sem]
  have a4 : rowAt W (w.heap.size + 1) 0 32 = some (idC y.tag) := by rw [hW]; simp [go_sem]
  have a5 : W.cell? ⟨w.heap.size, 32, none⟩ = some (.string x.val) := by rw [hW]; simp [go_sem]
  have a6 : W.cell? ⟨w.heap.size + 1, 32, none⟩ = some (.string y.val) := by rw [hW]; simp [go_sem]
  rw [← hW]
  clear hW
  refine wp_region_lex (Gr W) false (by kernel_rfl) (by kernel_rfl) (by kernel_rfl) (Gr.drew W) ?_
  have hne := gr_some W
  have hS := Gr.drew W
  have b3 := gsub_row a3; have b4 := gsub_row a4; have b5 := gsub_cell a5; have b6 := gsub_cell a6
  repeat (refine wpLx_loose ?_ ?_; (focus (simp only [chainOp]; done)); intro K hK; go_simp; refine hK _ ?_; clear hK K)
  refine wpLx_chain ?_ ?_ ?_
  focus (exact hS)
  focus (simp only [chainOp]; done)
  intro K hK
  go_simp
  refine (cmp_id_gr _ _ _).mono ?_
  rintro e w' ⟨rfl, hb⟩
  replace hS := Gr.trans hS hb
  refine ⟨_, rfl, hS, hK _ _ ?_⟩
  clear hK K hb
  repeat (refine wpLx_loose ?_ ?_; (focus (simp only [chainOp]; done)); intro K hK; go_simp; refine hK _ ?_; clear hK K)
  refine wpLx_chain ?_ ?_ ?_
  focus (exact hS)
  focus (simp only [chainOp]; done)
  intro K hK
  go_simp
  refine (cmp_str _ _ _).mono ?_
  rintro e w' ⟨rfl, rfl⟩
  refine ⟨_, rfl, hS, hK _ _ ?_⟩
  clear hK K
  refine wpLx_chain ?_ ?_ ?_
  focus (exact hS)
  focus (simp only [chainOp]; done)
  intro K hK
  go_simp
  refine step_keep (Gr.alloc hS _) (fun hS => ?_)
  refine hK _ _ ?_
  clear hK K
  refine wpLx_chain ?_ ?_ ?_
  focus (exact hS)
  focus (simp only [chainOp]; done)
  intro K hK
  go_simp
  refine (or_any _ _ [cmpId x.tag y.tag, cmpS x.val y.val] (by simp) _ (or2_cells _ _ _)).mono ?_
  rintro e w' ⟨rfl, rfl⟩
  refine ⟨_, rfl, hS, hK _ _ ?_⟩
  clear hK K
  repeat (refine wpLx_loose ?_ ?_; (focus (simp only [chainOp]; done)); intro K hK; go_simp; refine hK _ ?_; clear hK K)
  refine wpLx_nil ?_
  intro hS
  go_wp2_with fail
  go_ret
  exact ⟨rfl, hB.trans hS⟩

/-- Keys. -/
theorem mapM_some_all {α β : Type} {f : α → Option β} : ∀ {L : List α}, (∀ x ∈ L, ∃ y, f x = some y) → ∃ ys, L.mapM f = some ys
  | [], _ => ⟨[], rfl⟩
  | x :: L, h => by
    obtain ⟨y, hy⟩ := h x (by simp)
    obtain ⟨ys, hys⟩ := mapM_some_all (L := L) (fun z hz => h z (by simp [hz]))
    exact ⟨y :: ys, by simp [List.mapM_cons, hy, hys]⟩
theorem size3 : 3 ≤ Tryz.prog.types.size := of_decide_eq_true (by kernel_rfl)
theorem cellsId : Tryz.prog.cellsOf 39 = 32 := by kernel_rfl
theorem cellsByte : Tryz.prog.cellsOf 5 = 1 := by kernel_rfl
theorem keyLits_str (d : Nat) {s : ByteArray} (h : s.size ≤ maxLen) : ∃ l, Tryz.prog.keyLits (d + 1) 9 [.string s] = some l := by
  refine Option.isSome_iff_exists.1 ?_
  unfold Program.keyLits
  simp only [Tryz.underlying9]
  rw [if_pos h]
  rfl
theorem keyLits_id (d : Nat) (x : Id32) : ∃ l, Tryz.prog.keyLits (d + 2) 39 (idC x).toList = some l := by
  have hall : ∀ i ∈ List.range 32, ∃ y, Tryz.prog.keyLits (d + 1) 5 (((idC x).toList.drop (i * Tryz.prog.cellsOf 5)).take (Tryz.prog.cellsOf 5)) = some y := by
    intro i hi
    have hi' : i < 32 := List.mem_range.1 hi
    rw [cellsByte, Nat.mul_one]
    have e : ((idC x).toList.drop i).take 1 = [.int .u8 (idB x i)] := by
      have := idC_get x i
      rw [if_pos hi'] at this
      have h2 : (idC x).toList[i]? = some (.int .u8 (idB x i)) := by simpa using this
      rw [List.take_one, List.head?_drop, h2]; rfl
    rw [e]
    refine Option.isSome_iff_exists.1 ?_
    unfold Program.keyLits
    simp only [Tryz.underlying5]
    rw [if_pos ⟨trivial, by have := idB_bd x i; simp [Lit.wf, IntKind.min, IntKind.max, IntKind.signed, IntKind.bits]; omega⟩]
    rfl
  obtain ⟨ys, hys⟩ := mapM_some_all hall
  refine Option.isSome_iff_exists.1 ?_
  unfold Program.keyLits
  simp only [Tryz.underlying39]
  rw [if_pos (by rw [cellsId]; simp), hys]
  rfl
theorem rowId : 39 < Tryz.prog.types.size := of_decide_eq_true (by kernel_rfl)
theorem idKey : KeyEnc Tryz.prog 39 (fun x : Id32 => .agg (idC x)) (fun _ => True) where
  law := deep_law_laid Tryz.laidOut (m := 2) (by omega) rowId (by kernel_rfl) (by rw [Tryz.underlying39])
  key := fun x _ => by
    obtain ⟨d, hd⟩ : ∃ d, Tryz.prog.types.size + 1 = d + 2 := ⟨Tryz.prog.types.size - 1, by have := size3; omega⟩
    obtain ⟨l, hl⟩ := keyLits_id d x
    refine ⟨.string (keyBytes l), ?_⟩
    unfold keyOf
    simp only [Tryz.underlying39]
    have hkt : Tryz.prog.keyType 39 = true := by kernel_rfl
    have hf : (Value.agg (idC x)).formed Tryz.prog 39 = true := by simp [Value.formed, Tryz.underlying39, cellsId]
    rw [hkt, hf, hd]
    simp only [Bool.and_self, if_true]
    have : (Value.agg (idC x)).cells.toList = (idC x).toList := rfl
    rw [this, hl]; rfl
  inj := fun a b h => by injection h with h; exact idC_inj h
theorem cellsRow : Tryz.prog.cellsOf 171 = 33 := by kernel_rfl
theorem rowRow : 171 < Tryz.prog.types.size := of_decide_eq_true (by kernel_rfl)
theorem cellsStr : Tryz.prog.cellsOf 9 = 1 := by kernel_rfl
theorem keyLits_row (d : Nat) {x : BRow} (h : x.val.size ≤ maxLen) : ∃ l, Tryz.prog.keyLits (d + 3) 171 (bRowC x).toList = some l := by
  obtain ⟨l1, h1⟩ := keyLits_id d x.tag
  obtain ⟨l2, h2⟩ := keyLits_str (d + 1) h
  have e1 : ((bRowC x).toList.drop 0).take 32 = (idC x.tag).toList := by simp [bRowC]
  have e2 : ((bRowC x).toList.drop 32).take 1 = [.string x.val] := by simp [bRowC]
  refine Option.isSome_iff_exists.1 ?_
  unfold Program.keyLits
  simp only [Tryz.underlying171]
  rw [if_pos ⟨by rw [cellsRow]; simp, by kernel_rfl⟩]
  simp only [List.mapM_cons, List.mapM_nil, cellsId, cellsStr, e1, e2, h1, h2]
  rfl
def rowV (x : BRow) : Value := .agg (bRowC x)
theorem rowKey : KeyEnc Tryz.prog 171 rowV (fun x => x.val.size ≤ maxLen) where
  law := deep_law_laid Tryz.laidOut (m := 3) (by omega) rowRow (by kernel_rfl) (by rw [Tryz.underlying171])
  key := fun x hx => by
    obtain ⟨d, hd⟩ : ∃ d, Tryz.prog.types.size + 1 = d + 3 := ⟨Tryz.prog.types.size - 2, by have := size3; omega⟩
    obtain ⟨l, hl⟩ := keyLits_row d hx
    refine ⟨.string (keyBytes l), ?_⟩
    unfold keyOf
    simp only [Tryz.underlying171]
    have hkt : Tryz.prog.keyType 171 = true := by kernel_rfl
    have hf : (rowV x).formed Tryz.prog 171 = true := by simp [rowV, Value.formed, Tryz.underlying171, cellsRow]
    rw [hkt, hf, hd]
    simp only [Bool.and_self, if_true]
    have : (rowV x).cells.toList = (bRowC x).toList := rfl
    rw [this, hl]; rfl
  inj := fun a b h => by unfold rowV at h; injection h with h; exact bRowC_inj h

end Go.Proofs.YtgfpjjppeldhbaaGreatDoor

/- Walks of package topic and of its reference: what each function answers. No condition but the sizes that a string has. -/
namespace Go.Proofs.YtgfpjjppeldhbaaGreatDoor
open Go.RowKit

def smallC (c : Int) : Bool := (decide (97 ≤ c) && decide (c ≤ 122)) || (decide (48 ≤ c) && decide (c ≤ 57)) || decide (c = 45)
theorem smallC_of {c : Int} {b : Bool} (h : b = smallC c) : Ending.returned (.bool b) = .returned (.bool (smallC c)) := by rw [h]

set_option maxHeartbeats 400000 in
theorem small_any (c : Int) (w : World) :
    Calls Tryz.prog 180 #[.int .i32 c] w fun e w' => e = .returned (.bool (smallC c)) ∧ w = w' := by
  go_enter Tryz.func180, Tryz.ntmps180
  go_wp2
  all_goals
    go_ret
    exact ⟨smallC_of (by simp [smallC] at *; omega), rfl⟩

def letterC (k : Int) : Int := if k = 1 then 99 else if k = 2 then 115 else if k = 3 then 108 else if k = 4 then 109 else if k = 5 then 114 else 0
set_option maxHeartbeats 400000 in
theorem letter_any (k : Int) (w : World) :
    Calls Tryz.prog 102 #[.int .i64 k] w fun e w' => e = .returned (.int .u8 (letterC k)) ∧ w = w' := by
  go_enter Tryz.func102, Tryz.ntmps102
  go_wp2
  all_goals
    go_ret
    exact ⟨ret_int (by simp [letterC] at *; omega), rfl⟩

def tailB (s : ByteArray) (i : Nat) : Bool := (List.range (s.size - i)).all fun j => smallC (bt s (i + j))
theorem tailB_iff (s : ByteArray) (i : Nat) : tailB s i = true ↔ ∀ j, i ≤ j → j < s.size → smallC (bt s j) = true := by
  simp only [tailB, List.all_eq_true, List.mem_range]
  constructor
  · intro h j h1 h2
    have := h (j - i) (by omega)
    rwa [show i + (j - i) = j by omega] at this
  · intro h j hj
    exact h _ (by omega) (by omega)
theorem tailB_end (s : ByteArray) (i : Nat) (h : s.size ≤ i) : tailB s i = true := (tailB_iff s i).2 fun j h1 h2 => by omega
theorem tailB_no (s : ByteArray) (i : Nat) (h : i < s.size) (h1 : smallC (bt s i) = false) : tailB s i = false := by
  cases e : tailB s i with
  | false => rfl
  | true => rw [(tailB_iff s i).1 e i (Nat.le_refl _) h] at h1; cases h1
theorem tailB_yes (s : ByteArray) (i : Nat) (h1 : smallC (bt s i) = true) : tailB s (i + 1) = tailB s i := by
  rw [Bool.eq_iff_iff, tailB_iff, tailB_iff]
  constructor
  · intro h j a b
    by_cases e : j = i
    · subst e; exact h1
    · exact h j (by omega) b
  · intro h j a b; exact h j (by omega) b

def formedB (s : ByteArray) : Bool := decide (2 ≤ s.size) && decide (s.size ≤ 12) && (bt s (s.size - 1) != 45) && tailB s 1

theorem smallC_high {c : Int} (h : 128 ≤ c) : smallC c = false := by unfold smallC; simp; omega
theorem get_extract1 (s : ByteArray) (i : Nat) (h : i < (s.extract 1 s.size).size) : (((s.extract 1 s.size)[i]'h).toNat : Int) = bt s (i + 1) := by
  have hs : i + 1 < s.size := by simp at h; omega
  rw [← bt_get hs]
  congr 2
  rw [ByteArray.getElem_extract]
  congr 1; omega
theorem decode_small (s : ByteArray) (i : Nat) (h : i < (s.extract 1 s.size).size) (hh : smallC (bt s (i + 1)) = true) :
    Utf8.decode (s.extract 1 s.size) i = ((bt s (i + 1)).toNat, 1) := by
  have e := get_extract1 s i h
  have hlt : (((s.extract 1 s.size)[i]'h).toNat) < 128 := by
    rcases Nat.lt_or_ge ((s.extract 1 s.size)[i]'h).toNat 128 with g | g
    · exact g
    · rw [smallC_high (by omega)] at hh; cases hh
  rw [decode_ascii _ i h hlt, ← e]; simp
theorem decode_notsmall (s : ByteArray) (i : Nat) (h : i < (s.extract 1 s.size).size) (hh : smallC (bt s (i + 1)) = false) :
    smallC ((Utf8.decode (s.extract 1 s.size) i).1 : Int) = false := by
  have e := get_extract1 s i h
  rcases Nat.lt_or_ge ((s.extract 1 s.size)[i]'h).toNat 128 with g | g
  · rw [decode_ascii _ i h g]; rw [← e] at hh; exact hh
  · have := (decode_high _ i h g).1
    exact smallC_high (by omega)

theorem formedB_short (s : ByteArray) (h : ¬ (2 ≤ s.size ∧ s.size ≤ 12)) : formedB s = false := by
  unfold formedB
  by_cases h1 : 2 ≤ s.size <;> by_cases h2 : s.size ≤ 12 <;> simp [h1, h2]; omega
theorem formedB_last (s : ByteArray) (h : bt s (s.size - 1) = 45) : formedB s = false := by
  unfold formedB; simp [h]
theorem formedB_tail (s : ByteArray) (h1 : 2 ≤ s.size) (h2 : s.size ≤ 12) (h : bt s (s.size - 1) ≠ 45) : formedB s = tailB s 1 := by
  unfold formedB; simp [h1, h2, h]
set_option maxHeartbeats 400000 in
theorem formed_long (s : ByteArray) (w : World) (h : 2 ≤ s.size) (h1 : s.size ≤ 12) (h2 : bt s (s.size - 1) ≠ 45) :
    Calls Tryz.prog 101 #[.string s] w fun e w' => e = .returned (.bool (formedB s)) ∧ Below w.heap.size w w' := by
  have h3 : (((s[s.size - 1]'(by omega)).toNat : Int) == 45) = false := by
    rw [beq_eq_false_iff_ne]; intro g; rw [bt_get (by omega)] at g; exact h2 g
  have hfin := formedB_tail s h h1 h2
  have H2 := Lib.hid hfin; clear h2 hfin
  have hI : ∀ (p : Nat), Below w.heap.size w (w.iter (s.extract 1 s.size) p) := fun p => (Below.refl _ _).alloc (Nat.le_refl _) _
  have HI := Lib.hid hI; clear hI
  go_enter Tryz.func101, Tryz.ntmps101
  go_wp2_with fail
  go_loopw [] (fun wr => ∃ i : Nat, i + 1 ≤ s.size ∧ wr = w.iter (s.extract 1 s.size) i ∧ Hid (tailB s (i + 1) = tailB s 1)) (fun wr => s.size - wr.iterPos w.heap.size)
  case atStart => exact ⟨0, by omega, rfl, rfl⟩
  case round =>
    obtain ⟨i, hi, rfl, hc⟩ := hrel
    have hsz : (s.extract 1 s.size).size = s.size - 1 := by simp
    by_cases hp : i < (s.extract 1 s.size).size
    · have hnx : ∀ ty, (Instr.next (.pointer (some ⟨w.heap.size, 0, none⟩)) true ty).run Tryz.prog (w.iter (s.extract 1 s.size) i) = _ := fun ty => run_next_any w (s.extract 1 s.size) i ty hp
      cases hb : smallC (bt s (i + 1)) with
      | true =>
        rw [decode_small s i hp hb] at hnx
        have e1 : (((bt s (i + 1)).toNat : Nat) : Int) = bt s (i + 1) := by have := bt_nonneg s (i + 1); omega
        simp only [e1] at hnx
        have Hb := Lib.hid hb
        go_wp2_with (go_at_call 180; refine (small_any _ _).mono ?_; rintro e w' ⟨rfl, rfl⟩)
        go_roundw
        case rel => exact ⟨i + 1, by omega, rfl, (tailB_yes s _ Hb.out).trans hc.out⟩
        case measure => simp; omega
      | false =>
        have hd := decode_notsmall s i hp hb
        go_wp2_with (go_at_call 180; refine (small_any _ _).mono ?_; rintro e w' ⟨rfl, rfl⟩)
        go_ret
        exact ⟨ret_bool (by rw [H2.out, ← hc.out, tailB_no s _ (by omega) hb]), HI.out _⟩
    · have hnx : ∀ ty, (Instr.next (.pointer (some ⟨w.heap.size, 0, none⟩)) true ty).run Tryz.prog (w.iter (s.extract 1 s.size) i) = _ := fun ty => run_next_end w (s.extract 1 s.size) i ty hp
      go_wp2_with fail
      go_ret
      exact ⟨ret_bool (by rw [H2.out, ← hc.out, tailB_end s _ (by omega)]), HI.out _⟩

set_option maxHeartbeats 400000 in
theorem formed_short (s : ByteArray) (w : World) (hs : s.size ≤ 9223372036854775807) (h : ¬ (2 ≤ s.size ∧ s.size ≤ 12)) :
    Calls Tryz.prog 101 #[.string s] w fun e w' => e = .returned (.bool (formedB s)) ∧ Below w.heap.size w w' := by
  have H2 := Lib.hid (formedB_short s h)
  by_cases h1 : 2 ≤ s.size
  · have h4 : 12 < s.size := by omega
    clear h
    go_enter Tryz.func101, Tryz.ntmps101
    go_wp2_with fail
    all_goals
      go_ret
      exact ⟨ret_bool H2.out.symm, Below.refl _ _⟩
  · clear h
    go_enter Tryz.func101, Tryz.ntmps101
    go_wp2_with fail
    all_goals
      go_ret
      exact ⟨ret_bool H2.out.symm, Below.refl _ _⟩

set_option maxHeartbeats 400000 in
theorem formed_last (s : ByteArray) (w : World) (h : 2 ≤ s.size) (h1 : s.size ≤ 12) (h2 : bt s (s.size - 1) = 45) :
    Calls Tryz.prog 101 #[.string s] w fun e w' => e = .returned (.bool (formedB s)) ∧ Below w.heap.size w w' := by
  have h3 : (((s[s.size - 1]'(by omega)).toNat : Int) == 45) = true := by
    rw [beq_iff_eq]; rw [bt_get (by omega)]; exact h2
  have H2 := Lib.hid (formedB_last s h2); clear h2
  go_enter Tryz.func101, Tryz.ntmps101
  go_wp2_with fail
  go_ret
  exact ⟨ret_bool H2.out.symm, Below.refl _ _⟩

theorem formed_any (s : ByteArray) (w : World) (hs : s.size ≤ 9223372036854775807) :
    Calls Tryz.prog 101 #[.string s] w fun e w' => e = .returned (.bool (formedB s)) ∧ Below w.heap.size w w' := by
  by_cases h : 2 ≤ s.size ∧ s.size ≤ 12
  · by_cases h2 : bt s (s.size - 1) = 45
    · exact formed_last s w h.1 h.2 h2
    · exact formed_long s w h.1 h.2 h2
  · exact formed_short s w hs h

/-- The kind of a letter. -/
def kindC (c : Int) : Int := if c = 99 then 1 else if c = 115 then 2 else if c = 108 then 3 else if c = 109 then 4 else if c = 114 then 5 else 0
/-- The kind of a name. -/
def kindB (s : ByteArray) : Int := if formedB s = true then kindC (bt s 0) else 0

theorem formedB_size {s : ByteArray} (h : formedB s = true) : 2 ≤ s.size ∧ s.size ≤ 12 := by
  unfold formedB at h; simp at h; omega
theorem kindC_hit {c k : Int} (h1 : 1 ≤ k) (h2 : k < 6) (h : letterC k = c) : kindC c = k := by
  subst h
  have : k = 1 ∨ k = 2 ∨ k = 3 ∨ k = 4 ∨ k = 5 := by omega
  rcases this with rfl | rfl | rfl | rfl | rfl <;> decide
theorem kindC_miss {c : Int} (h : ∀ j : Int, 1 ≤ j → j < 6 → letterC j ≠ c) : kindC c = 0 := by
  have a := h 1 (by omega) (by omega); have b := h 2 (by omega) (by omega); have d := h 3 (by omega) (by omega)
  have e := h 4 (by omega) (by omega); have f := h 5 (by omega) (by omega)
  simp [letterC] at a b d e f
  unfold kindC
  rw [if_neg (by omega), if_neg (by omega), if_neg (by omega), if_neg (by omega), if_neg (by omega)]

set_option maxHeartbeats 400000 in
theorem kind_no (s : ByteArray) (w : World) (hs : s.size ≤ 9223372036854775807) (h : formedB s = false) :
    Calls Tryz.prog 43 #[.string s] w fun e w' => e = .returned (.int .i64 (kindB s)) ∧ Below w.heap.size w w' := by
  have H : Hid (kindB s = 0) := by show kindB s = 0; unfold kindB; rw [h]; rfl
  go_enter Tryz.func43, Tryz.ntmps43
  go_wp2_with fail
  refine (formed_any _ _ hs).mono ?_; rintro e w1 ⟨rfl, hb⟩
  go_wp2_with fail
  go_ret
  exact ⟨ret_int H.out.symm, hb⟩

set_option maxHeartbeats 400000 in
theorem kind_yes (s : ByteArray) (w : World) (hs : s.size ≤ 9223372036854775807) (h : formedB s = true) :
    Calls Tryz.prog 43 #[.string s] w fun e w' => e = .returned (.int .i64 (kindB s)) ∧ Below w.heap.size w w' := by
  have H : Hid (kindB s = kindC (bt s 0)) := by show kindB s = kindC (bt s 0); unfold kindB; rw [h]; rfl
  have hsz := formedB_size h
  have h0 : (0 : Int) < s.size := by omega
  have hg : ((s[0]'(by omega)).toNat : Int) = bt s 0 := bt_get (by omega)
  go_enter Tryz.func43, Tryz.ntmps43
  go_wp2_with fail
  refine (formed_any _ _ hs).mono ?_; rintro e w1 ⟨rfl, hb⟩
  go_wp2_with fail
  go_loopw [3] (fun kv wr => ∃ k : Int, 1 ≤ k ∧ k ≤ 6 ∧ kv = .int .i64 k ∧ Below w.heap.size w wr ∧ Hid (∀ j : Int, 1 ≤ j → j < k → letterC j ≠ bt s 0)) (fun kv _ => (6 - intOf kv).toNat)
  case atStart => exact ⟨1, by omega, by omega, rfl, hb, fun j h1 h2 => by omega⟩
  case round =>
    obtain ⟨k, hk1, hk2, rfl, hb1, hj⟩ := hrel
    by_cases hk : k < 6
    · by_cases hl : letterC k = bt s 0
      · have hl' : (letterC k == bt s 0) = true := by rw [beq_iff_eq]; exact hl
        have Hl := Lib.hid hl; clear hl
        go_wp2_with fail
        go_quiet ((go_at_call 102; exact quiet_eq (letter_any _ _)))
        go_wp2_with fail
        go_ret
        exact ⟨ret_int (by rw [H.out, kindC_hit hk1 hk Hl.out]), below_drewN hb1 _⟩
      · have hl' : (letterC k == bt s 0) = false := by rw [beq_eq_false_iff_ne]; exact hl
        have Hl := Lib.hid hl; clear hl
        go_wp2_with fail
        go_quiet ((go_at_call 102; exact quiet_eq (letter_any _ _)))
        go_wp2_with fail
        go_roundw
        case rel => 
          refine ⟨k + 1, by omega, by omega, rfl, below_drewN hb1 _, fun j h1 h2 => ?_⟩
          by_cases e : j = k
          · subst e; exact Hl.out
          · exact hj.out j h1 (by omega)
        case measure => simp [intOf]; omega
    · go_wp2_with fail
      go_ret
      exact ⟨ret_int (by rw [H.out, kindC_miss (fun j h1 h2 => hj.out j h1 (by omega))]), hb1⟩

theorem kind_any (s : ByteArray) (w : World) (hs : s.size ≤ 9223372036854775807) :
    Calls Tryz.prog 43 #[.string s] w fun e w' => e = .returned (.int .i64 (kindB s)) ∧ Below w.heap.size w w' := by
  cases h : formedB s with
  | true => exact kind_yes s w hs h
  | false => exact kind_no s w hs h

/-- May it be a name? -/
def checkB (s : ByteArray) : Int := if kindB s = 0 then 9 else 0

set_option maxHeartbeats 400000 in
theorem check_any (s : ByteArray) (w : World) (hs : s.size ≤ 9223372036854775807) :
    Calls Tryz.prog 42 #[.string s] w fun e w' => e = .returned (.int .i64 (checkB s)) ∧ Below w.heap.size w w' := by
  by_cases h : kindB s = 0
  · have h' : (kindB s == 0) = true := by rw [beq_iff_eq]; exact h
    have H : Hid (checkB s = 9) := by show checkB s = 9; unfold checkB; rw [if_pos h]
    clear h
    go_enter Tryz.func42, Tryz.ntmps42
    go_wp2_with fail
    refine (kind_any _ _ hs).mono ?_; rintro e w1 ⟨rfl, hb⟩
    go_wp2_with fail
    go_ret
    exact ⟨ret_int H.out.symm, hb⟩
  · have h' : (kindB s == 0) = false := by rw [beq_eq_false_iff_ne]; exact h
    have H : Hid (checkB s = 0) := by show checkB s = 0; unfold checkB; rw [if_neg h]
    clear h
    go_enter Tryz.func42, Tryz.ntmps42
    go_wp2_with fail
    refine (kind_any _ _ hs).mono ?_; rintro e w1 ⟨rfl, hb⟩
    go_wp2_with fail
    go_ret
    exact ⟨ret_int H.out.symm, hb⟩

end Go.Proofs.YtgfpjjppeldhbaaGreatDoor

/- Slices: those that read as lists of rows of cells, and those that the call itself owns; append. No program is named here. -/
namespace Go.Proofs.YtgfpjjppeldhbaaGreatDoor
open Go.RowKit

/-- The slice 'A, n' reads as the rows L, k cells each. -/
def SlR (w : World) (A : Option Addr) (n k : Nat) (L : List (Array Value)) : Prop :=
  L.length = n ∧ (0 < n → ∃ g o, A = some ⟨g, o, none⟩ ∧ ∀ i (h : i < L.length), rowAt w g (o + i * k) k = some L[i])
/-- The block of an address. -/
def blk (A : Option Addr) : List Nat := (A.map (·.block)).toList
/-- The slice 'A, n, cap' is the call's own from block B on, and holds the rows L. -/
structure Own (w : World) (B : Nat) (E : TypeId) (k : Nat) (A : Option Addr) (n cap : Nat) (L : List (Array Value)) : Prop where
  row : w.ownsRow B E k (.slice A n cap) n (L.flatMap Array.toList)
  len : L.length = n
  size : ∀ c ∈ L, c.size = k

section
variable {w w' : World} {A : Option Addr} {n k B cap : Nat} {E : TypeId} {L : List (Array Value)}

theorem SlR.at_ (h : SlR w A n k L) {i : Nat} (hi : i < n) : ∃ g o, A = some ⟨g, o, none⟩ ∧ rowAt w g (o + i * k) k = some (L[i]'(by rw [h.1]; exact hi)) := by
  obtain ⟨g, o, e, hc⟩ := h.2 (by omega)
  exact ⟨g, o, e, hc i (by rw [h.1]; exact hi)⟩
theorem SlR.old (h : SlR w A n k L) {g o : Nat} (e : A = some ⟨g, o, none⟩) (hn : 0 < n) : g < w.heap.size := by
  obtain ⟨g', o', e', hr⟩ := h.at_ hn
  rw [e] at e'; injection e' with e'; injection e' with e1 e2
  subst e1; exact rowAt_lt hr
theorem SlR.nil_ : SlR w none 0 k [] := ⟨rfl, fun h => absurd h (by omega)⟩
theorem SlR.kept {S : List Nat} (h : SlR w A n k L) (hk : Keep S w w') (hn : ∀ x ∈ blk A, x ∉ S) : SlR w' A n k L :=
  ⟨h.1, fun h0 => by
    obtain ⟨g, o, e, hc⟩ := h.2 h0
    refine ⟨g, o, e, fun i hi => ?_⟩
    rw [hk.row (rowAt_lt (hc i hi)) (hn g (by simp [blk, e])) _ _]
    exact hc i hi⟩
theorem SlR.below (h : SlR w A n k L) (hb : Below w.heap.size w w') : SlR w' A n k L := h.kept (Keep.of_below hb) (by simp)

theorem flat_get : ∀ (L : List (Array Value)) (k : Nat), (∀ c ∈ L, c.size = k) → ∀ (i j : Nat) (hi : i < L.length), j < k → (L.flatMap Array.toList)[i * k + j]? = (L[i])[j]?
  | c :: L, k, hs, 0, j, _, hj => by
    have hc := hs c (by simp)
    simp only [List.flatMap_cons, Nat.zero_mul, Nat.zero_add, List.getElem_cons_zero]
    rw [List.getElem?_append_left (by simp; omega)]
    simp
  | c :: L, k, hs, i + 1, j, hi, hj => by
    have hc := hs c (by simp)
    have hl : c.toList.length = k := by simp [hc]
    simp only [List.flatMap_cons, List.getElem_cons_succ]
    rw [List.getElem?_append_right (by rw [hl, Nat.add_mul]; omega), hl]
    have e : (i + 1) * k + j - k = i * k + j := by rw [Nat.add_mul]; omega
    rw [e]
    exact flat_get L k (fun c h => hs c (by simp [h])) i j (by simpa using hi) hj
theorem flat_len : ∀ (L : List (Array Value)) (k : Nat), (∀ c ∈ L, c.size = k) → (L.flatMap Array.toList).length = L.length * k
  | [], _, _ => by simp
  | c :: L, k, hs => by
    have hc := hs c (by simp)
    simp only [List.flatMap_cons, List.length_append, List.length_cons]
    rw [flat_len L k (fun c h => hs c (by simp [h])), Nat.add_mul]
    simp [hc]; omega

theorem Own.nil (w : World) (B : Nat) (E : TypeId) (k : Nat) : Own w B E k none 0 0 [] := ⟨World.ownsRow_nil w B E k, rfl, by simp⟩
theorem Own.kept {S : List Nat} (h : Own w B E k A n cap L) (hk : Keep S w w') (hn : ∀ x ∈ blk A, x ∉ S) : Own w' B E k A n cap L := by
  obtain ⟨⟨h1, h2⟩, hl, hs⟩ := h
  refine ⟨⟨h1, ?_⟩, hl, hs⟩
  rcases h2 with h2 | ⟨g, c, cur, hv, hb, hg, rest⟩
  · exact .inl h2
  · refine .inr ⟨g, c, cur, hv, hb, ?_, rest⟩
    have hA : A = some ⟨g, 0, none⟩ := by injection hv
    have hlt : g < w.heap.size := (Array.getElem?_eq_some_iff.1 hg).1
    rw [hk.block g hlt (hn g (by simp [blk, hA]))]
    exact hg
theorem Own.below (h : Own w B E k A n cap L) (hb : Below w.heap.size w w') : Own w' B E k A n cap L := h.kept (Keep.of_below hb) (by simp)
theorem Own.mono (h : Own w B E k A n cap L) {B' : Nat} (hB : B' ≤ B) : Own w B' E k A n cap L := by
  obtain ⟨⟨h1, h2⟩, hl, hs⟩ := h
  refine ⟨⟨h1, ?_⟩, hl, hs⟩
  rcases h2 with h2 | ⟨g, c, cur, hv, hb, rest⟩
  · exact .inl h2
  · exact .inr ⟨g, c, cur, hv, by omega, rest⟩
theorem Own.at_base (h : Own w B E k A n cap L) {x : Nat} (hx : x ∈ blk A) : B ≤ x ∧ x < w.heap.size := by
  obtain ⟨⟨h1, h2⟩, hl, hs⟩ := h
  rcases h2 with ⟨h2, _⟩ | ⟨g, c, cur, hv, hb, hg, rest⟩
  · have hA : A = none := by injection h2
    subst hA; simp [blk] at hx
  · have hA : A = some ⟨g, 0, none⟩ := by injection hv
    subst hA
    have : x = g := by simpa [blk] using hx
    subst this
    exact ⟨hb, (Array.getElem?_eq_some_iff.1 hg).1⟩
theorem Own.addr (h : Own w B E k A n cap L) : A = none ∨ ∃ g, A = some ⟨g, 0, none⟩ := by
  obtain ⟨⟨h1, h2⟩, hl, hs⟩ := h
  rcases h2 with ⟨h2, _⟩ | ⟨g, c, cur, hv, _⟩
  · left; injection h2
  · right; exact ⟨g, by injection hv⟩
theorem Own.slr (h : Own w B E k A n cap L) : SlR w A n k L := by
  have hlen := flat_len L k h.size
  obtain ⟨⟨h1, h2⟩, hl, hs⟩ := h
  refine ⟨hl, fun h0 => ?_⟩
  rcases h2 with ⟨_, h2⟩ | ⟨g, c, cur, hv, hb, hg, hnc, hcm, hcs, htake⟩
  · omega
  · have hA : A = some ⟨g, 0, none⟩ := by injection hv
    refine ⟨g, 0, hA, fun i hi => ?_⟩
    have hle : i * k + k ≤ n * k := by
      have : (i + 1) * k ≤ n * k := Nat.mul_le_mul_right k (by omega)
      rw [Nat.add_mul] at this; omega
    have hle2 : n * k ≤ cur.size := by rw [hcs]; exact Nat.mul_le_mul_right k hnc
    unfold rowAt
    rw [hg]
    simp only [Nat.zero_add]
    rw [if_pos (by omega)]
    congr 1
    apply Array.ext'
    rw [Array.toList_extract]
    apply List.ext_getElem?
    intro j
    by_cases hj : j < k
    · have e1 := flat_get L k hs i j hi hj
      rw [← htake, List.getElem?_take, if_pos (by omega)] at e1
      simp only [List.extract_eq_take_drop, List.getElem?_take, List.getElem?_drop]
      rw [if_pos (by omega), e1]
      simp
    · have hsz := hs L[i] (List.getElem_mem hi)
      rw [List.getElem?_eq_none (by simp; omega), List.getElem?_eq_none (by simp; omega)]
end

/-- A type's row of the table. -/
structure ElemInfo (P : Program) (T E : TypeId) (k bytes : Nat) : Prop where
  und : P.underlying T = some (.slice E)
  info : ∃ i z, P.info? E = some i ∧ i.zero = some z ∧ i.size = k ∧ i.bytes = bytes ∧ z.cells.size = k
  pos : 0 < k

theorem ElemInfo.of {P : Program} {T E : TypeId} {k bytes : Nat} {z : Value} (und : P.underlying T = some (.slice E)) (hz : (P.info? E).bind (·.zero) = some z) (hs : (P.info? E).map (·.size) = some k) (hb : (P.info? E).map (·.bytes) = some bytes) (hzs : z.cells.size = k) (pos : 0 < k) :
    ElemInfo P T E k bytes := by
  cases hi : P.info? E with
  | none => rw [hi] at hz; cases hz
  | some i =>
    rw [hi] at hz hs hb
    exact ⟨und, ⟨i, z, hi, hz, by simpa using hs, by simpa using hb, hzs⟩, pos⟩

/-- One row more. -/
theorem append_one {P : Program} {T E : TypeId} {k bytes : Nat} (I : ElemInfo P T E k bytes) {w : World} {B : Nat} {A : Option Addr} {n cap : Nat} {L : List (Array Value)} (hown : Own w B E k A n cap L)
    {q o c : Nat} {cs : Array Value} (hrow : rowAt w q o k = some cs) (hone : ∀ u ∈ cs.toList, u.oneCell' = true) (hbytes : (n + 1) * bytes ≤ 140737488355328) (hn : n + 1 ≤ 9223372036854775807) (hB : B ≤ w.heap.size) (ty : TypeId) :
    ∃ A' cap' w', (Builtin.append_ #[T, T] ty #[.slice A n cap, .slice (some ⟨q, o, none⟩) 1 c]).run P w = .ok (.slice A' (n + 1) cap') w' ∧ Own w' B E k A' (n + 1) cap' (L ++ [cs]) ∧ Keep (blk A) w w' ∧ (∀ x ∈ blk A', x ∈ blk A ∨ w.heap.size ≤ x) := by
  obtain ⟨i, z, hi, hz, hsz, hby, hzs⟩ := I.info
  have hcs := rowAt_size hrow
  obtain ⟨v', w', hrun, hown', hg, _, hblk⟩ := run_append_own_at (P := P) w B T ty E i z k bytes I.und hi hz hsz hby hzs I.pos (.slice A n cap) n _ hown.row ⟨q, o, none⟩ 1 c cs.toList (by simp [hcs])
    (fun j u hu => by
      have hj : j < k := by
        have := (List.getElem?_eq_some_iff.1 hu).1
        simp at this; omega
      have hadd : (⟨q, o, none⟩ : Addr).add j = ⟨q, o + j, none⟩ := by unfold Addr.add; split <;> simp_all
      rw [hadd, rowAt_cell hrow hj]
      simpa using hu) hone (by simp only [maxLen]; omega) hbytes hB
  have hform : ∃ A' cap', v' = .slice A' (n + 1) cap' := by
    rcases hown'.2 with ⟨_, h0⟩ | ⟨g, c', cur, hv, _⟩
    · omega
    · exact ⟨_, _, hv⟩
  obtain ⟨A', cap', rfl⟩ := hform
  have hb : (Value.slice A n cap).ownBlock = (A.map (·.block)) := by cases A <;> rfl
  have hb' : (Value.slice A' (n + 1) cap').ownBlock = (A'.map (·.block)) := by cases A' <;> rfl
  refine ⟨A', cap', w', hrun, ⟨by simpa using hown', by simp [hown.len], fun c' hc' => ?_⟩, ?_, ?_⟩
  · rcases List.mem_append.1 hc' with h | h
    · exact hown.size c' h
    · simp at h; subst h; exact hcs
  · have := Keep.grown hg
    rwa [hb] at this
  · intro x hx
    rw [hb, hb'] at hblk
    rcases hblk with e | e
    · left; unfold blk at hx ⊢; rw [e] at hx; exact hx
    · right
      unfold blk at hx; rw [e] at hx
      have : x = w.heap.size := by simpa using hx
      omega

theorem exec_append {P : Program} {w : World} (ρ : Operand → Value) {dst : Option Tmp} {s x : Operand} {ats : Array TypeId} {ty : TypeId} {pos : String} {after : Array Edge} {guard : Option (Nat × Bool)} {v u r : Value} {w' : World} (hs : ρ s = v) (hx : ρ x = u)
    (h : (Builtin.append_ ats ty #[v, u]).run P w = .ok r w') :
    (execOp ρ { dst := dst, op := .call { callee := .builtin .append, args := #[s, x], argTypes := ats }, type := ty, pos := pos, after := after, guard := guard }).run P w = .ok (.value r) w' := by
  rw [BigFrame.execOp_builtin, BigFrame.builtin_append]
  have e : (#[s, x].map ρ : Array Value) = #[v, u] := by simp [hs, hx]
  rw [e, Sem.run_bind, h]
  rfl

theorem L_of_append {P : Program} {ops : Array Oper} {Q : Exit → Act → World → Prop} {a : Act} {w : World} {rest : List Oper} {dst : Option Tmp} {s x : Operand} {ats : Array TypeId} {ty : TypeId} {pos : String} {after : Array Edge} {v u r : Value} {w' : World} (hs : a.eval s = v) (hx : a.eval x = u)
    (hr : (Builtin.append_ ats ty #[v, u]).run P w = .ok r w') (h : wpList P ops Q rest (a.put dst r) w') :
    wpList P ops Q ({ dst := dst, op := .call { callee := .builtin .append, args := #[s, x], argTypes := ats }, type := ty, pos := pos, after := after, guard := none } :: rest) a w := by
  refine wpList_plain rfl fun K hK => ?_
  unfold Oper.wp
  rw [exec_append a.eval hs hx hr]
  exact hK _ _ h
theorem wpLx_append {P : Program} {ops : Array Oper} {S : World → Prop} {cv fb : Bool} {Q : Act → World → Prop} {a : Act} {w : World} {rest : List Oper} {dst : Option Tmp} {s x : Operand} {ats : Array TypeId} {ty : TypeId} {pos : String} {after : Array Edge} {v u r : Value} {w' : World} (hs : a.eval s = v) (hx : a.eval x = u)
    (hr : (Builtin.append_ ats ty #[v, u]).run P w = .ok r w') (hS' : S w') (h : wpLx P ops S cv fb Q rest (a.put dst r) w') :
    wpLx P ops S cv fb Q ({ dst := dst, op := .call { callee := .builtin .append, args := #[s, x], argTypes := ats }, type := ty, pos := pos, after := after, guard := none } :: rest) a w := by
  refine ⟨?_⟩
  unfold wpL0
  rw [if_pos (by rfl), if_pos (by rfl)]
  intro _
  rw [exec_append a.eval hs hx hr]
  exact ⟨.inl hS', h.out⟩
/-- 'out = append(out, x)' in a plain region. -/
theorem L_append {P : Program} {ops : Array Oper} {Q : Exit → Act → World → Prop} {a : Act} {w : World} {rest : List Oper} {dst : Option Tmp} {s x : Operand} {ty : TypeId} {pos : String} {after : Array Edge} {T E : TypeId} {k bytes : Nat} (I : ElemInfo P T E k bytes)
    {B : Nat} {A : Option Addr} {n cap : Nat} {L : List (Array Value)} (hs : a.eval s = .slice A n cap) (hown : Own w B E k A n cap L)
    {q o c : Nat} {cs : Array Value} (hx : a.eval x = .slice (some ⟨q, o, none⟩) 1 c) (hrow : rowAt w q o k = some cs) (hone : ∀ u ∈ cs.toList, u.oneCell' = true) (hbytes : (n + 1) * bytes ≤ 140737488355328) (hn : n + 1 ≤ 9223372036854775807) (hB : B ≤ w.heap.size)
    (h : ∀ A' cap' w', Own w' B E k A' (n + 1) cap' (L ++ [cs]) → Keep (blk A) w w' → (∀ x ∈ blk A', x ∈ blk A ∨ w.heap.size ≤ x) → wpList P ops Q rest (a.put dst (.slice A' (n + 1) cap')) w') :
    wpList P ops Q ({ dst := dst, op := .call { callee := .builtin .append, args := #[s, x], argTypes := #[T, T] }, type := ty, pos := pos, after := after, guard := none } :: rest) a w := by
  obtain ⟨A', cap', w', hrun, h1, h2, h3⟩ := append_one I hown (c := c) hrow hone hbytes hn hB ty
  refine wpList_plain rfl fun K hK => ?_
  unfold Oper.wp
  rw [exec_append a.eval hs hx hrun]
  exact hK _ _ (h A' cap' w' h1 h2 h3)

theorem Lx_append {P : Program} {ops : Array Oper} {S : World → Prop} {cv fb : Bool} {Q : Act → World → Prop} {a : Act} {w : World} {rest : List Oper} {dst : Option Tmp} {s x : Operand} {ty : TypeId} {pos : String} {after : Array Edge} {T E : TypeId} {k bytes : Nat} (I : ElemInfo P T E k bytes)
    {B : Nat} {A : Option Addr} {n cap : Nat} {L : List (Array Value)} (hs : a.eval s = .slice A n cap) (hown : Own w B E k A n cap L)
    {q o c : Nat} {cs : Array Value} (hx : a.eval x = .slice (some ⟨q, o, none⟩) 1 c) (hrow : rowAt w q o k = some cs) (hone : ∀ u ∈ cs.toList, u.oneCell' = true) (hbytes : (n + 1) * bytes ≤ 140737488355328) (hn : n + 1 ≤ 9223372036854775807) (hB : B ≤ w.heap.size)
    (h : ∀ A' cap' w', Own w' B E k A' (n + 1) cap' (L ++ [cs]) → Keep (blk A) w w' → (∀ x ∈ blk A', x ∈ blk A ∨ w.heap.size ≤ x) → S w' ∧ wpLx P ops S cv fb Q rest (a.put dst (.slice A' (n + 1) cap')) w') :
    wpLx P ops S cv fb Q ({ dst := dst, op := .call { callee := .builtin .append, args := #[s, x], argTypes := #[T, T] }, type := ty, pos := pos, after := after, guard := none } :: rest) a w := by
  obtain ⟨A', cap', w', hrun, h1, h2, h3⟩ := append_one I hown (c := c) hrow hone hbytes hn hB ty
  obtain ⟨k1, k2⟩ := h A' cap' w' h1 h2 h3
  exact wpLx_append hs hx hrun k1 k2

/-- A slice literal of one struct or array. -/
def bsS (T : TypeId) (n : Nat) (parts : Array (Nat × Value)) : Sem Value := Instr.buildSlice T n parts
theorem run_bsS1 {P : Program} {T E : TypeId} {k bytes : Nat} (I : ElemInfo P T E k bytes) (hk : k ≤ 16777216) (w : World) (cs : Array Value) (hcs : cs.size = k) :
    (bsS T 1 #[(0, .agg cs)]).run P w = .ok (.slice (some ⟨w.heap.size, 0, none⟩) 1 1) (w.alloc (.cells cs E)) := by
  obtain ⟨i, z, hi, hz, hsz, hby, hzs⟩ := I.info
  have hpos := I.pos
  unfold bsS Instr.buildSlice
  have hf : Instr.fill (fun i => some (i * k, k)) (Array.map (fun x => z.cells[x % z.cells.size]!) (Array.range (1 * k))) [(0, Value.agg cs)] = some cs := by
    have e : Array.map (fun x => z.cells[x % z.cells.size]!) (Array.range (1 * k)) = (#[] : Array Value) ++ Array.map (fun x => z.cells[x % z.cells.size]!) (Array.range (1 * k)) ++ #[] := by simp
    rw [e, fill_step (off := 0) (size := k) (by simp) rfl (by simp) (by simp [Value.cells, hcs])]
    simp [Instr.fill, Value.cells]
  have hne : ¬ (1 * k > 16777216) := by omega
  have hn0 : ¬ (1 * k = 0) := by omega
  simp only [Sem.run_bind, run_underlying I.und, Result.andThen_ok, sizeOf, typeInfo, hi, hsz]
  simp [hi, hz, zeroValue, typeInfo, hsz, Nat.not_lt.2 (show k ≤ 16777216 from hk), Nat.pos_iff_ne_zero.1 hpos, hf, newRow]
  rw [Nat.one_mul] at hf
  rw [hf]
  rfl

end Go.Proofs.YtgfpjjppeldhbaaGreatDoor
