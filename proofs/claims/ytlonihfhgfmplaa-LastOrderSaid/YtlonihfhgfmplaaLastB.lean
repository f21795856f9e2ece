/- Package last: New, Set, Get. -/
import Derived.Test.YtlonihfhgfmplaaLastP
namespace Go.Proofs.Ytlonihfhgfmplaa
open Go.RowKit

set_option maxHeartbeats 400000 in
theorem check_any (k : ByteArray) (x : Setting) (w : World) (hk : k.size ≤ 9223372036854775807) (hv : x.val.size ≤ 9223372036854775807) :
    Calls Try.prog 45 #[.string k, .agg (settingC x)] w fun e w' => e = .returned (.int .i64 (checkE k x)) ∧ Below w.heap.size w w' := by
  obtain ⟨xv, xn, xi⟩ := x
  dsimp only at hv
  go_enter Try.func45, Try.ntmps45
  go_wp2_with fail
  all_goals
    go_ret
    refine ⟨ret_int ?_, (Below.refl _ _).alloc (Nat.le_refl _) _⟩
    unfold checkE
    first
      | rw [if_pos (by simp only; omega)]
      | rw [if_neg (by simp only; omega), if_pos (by simp only; omega)]
      | rw [if_neg (by simp only; omega), if_neg (by simp only; omega)]

theorem strKey : KeyEnc Try.prog 9 Value.string (fun k : ByteArray => k.size ≤ maxLen) where
  law := WideMaps.string_law Try.underlying9
  key := fun k hk => by
    refine ⟨.string k.data.toList, ?_⟩
    simp [keyOf, mapKey, Try.underlying9, hk]
  inj := fun a b h => by injection h
def setV (x : Setting) : Value := .agg (settingC x)

/-- What lies behind a pointer to a Map: rows, rising. -/
structure LastAt (w : World) (g b : Nat) (L : List LRow) : Prop where
  blk : w.heap[g]? = some (.cells #[.map (some b)] 49 (0, 0))
  map : ∃ M es clk, MapAt w b Value.string setV (fun k => k.size ≤ maxLen) M es clk ∧ M.Perm L
  rows : RowsOk L
theorem LastAt.cell {w : World} {g b : Nat} {L : List LRow} (h : LastAt w g b L) : w.cell? ⟨g, 0, none⟩ = some (.map (some b)) := by
  rw [cell_of_row w g 0 _ _ _ h.blk]; rfl
theorem LastAt.ne {w : World} {g b : Nat} {L : List LRow} (h : LastAt w g b L) : g ≠ b := by
  rintro rfl
  obtain ⟨M, es, clk, hm, _⟩ := h.map
  have := h.blk
  rw [hm.heap] at this; cases this
theorem LastAt.lt {w : World} {g b : Nat} {L : List LRow} (h : LastAt w g b L) : g < w.heap.size ∧ b < w.heap.size := by
  obtain ⟨M, es, clk, hm, _⟩ := h.map
  exact ⟨World.block_lt_of_cell? w _ h.cell, hm.lt⟩
theorem LastAt.kept {w w' : World} {g b : Nat} {L : List LRow} {S : List Nat} (h : LastAt w g b L) (k : Keep S w w') (hg : g ∉ S) (hb : b ∉ S) : LastAt w' g b L := by
  obtain ⟨M, es, clk, hm, hp⟩ := h.map
  exact ⟨(k.block g h.lt.1 hg).trans h.blk, ⟨M, es, clk, hm.kept k hb, hp⟩, h.rows⟩
theorem LastAt.below {w w' : World} {g b : Nat} {L : List LRow} (h : LastAt w g b L) (k : Below w.heap.size w w') : LastAt w' g b L :=
  h.kept (Keep.of_below k) (by simp) (by simp)

theorem lnone_nil (w : World) : Calls Try.prog 44 #[.pointer none] w fun e w' => e = .returned (.bool true) ∧ w = w' := by
  go_enter Try.func44, Try.ntmps44
  go_wp2_with fail
  go_ret
  exact ⟨rfl, rfl⟩
theorem lnone_zero (w : World) (g : Nat) (h : w.cell? ⟨g, 0, none⟩ = some (.map none)) : Calls Try.prog 44 #[.pointer (some ⟨g, 0, none⟩)] w fun e w' => e = .returned (.bool true) ∧ w = w' := by
  have hn := fun r => run_eql_map_nil (P := Try.prog) w 47 9 88 r Try.underlying47
  go_enter Try.func44, Try.ntmps44
  go_wp2_with fail
  go_ret
  exact ⟨rfl, rfl⟩
theorem lnone_live (w : World) (g b : Nat) (h : w.cell? ⟨g, 0, none⟩ = some (.map (some b))) : Calls Try.prog 44 #[.pointer (some ⟨g, 0, none⟩)] w fun e w' => e = .returned (.bool false) ∧ w = w' := by
  have hn := fun r => run_eql_map_nil (P := Try.prog) w 47 9 88 r Try.underlying47
  go_enter Try.func44, Try.ntmps44
  go_wp2_with fail
  go_ret
  exact ⟨rfl, rfl⟩

theorem lnew (w : World) : Calls Try.prog 15 #[] w fun e w' => ∃ g b, e = .returned (.pointer (some ⟨g, 0, none⟩)) ∧ LastAt w' g b [] ∧ w.heap.size ≤ g ∧ w.heap.size ≤ b ∧ Below w.heap.size w w' := by
  have hmm := @run_makeMap Try.prog
  go_enter Try.func15, Try.ntmps15
  go_wp2_with fail
  go_ret
  refine ⟨w.heap.size + 1, w.heap.size, rfl, ⟨?_, ⟨[], #[], 0, ?_, List.Perm.refl _⟩, ⟨trivial, by simp⟩⟩, by omega, by omega, ((Below.refl _ _).alloc (Nat.le_refl _) _).alloc (by simp) _⟩
  · exact heap_alloc2_new w _ _
  · exact (MapAt.new w w.heap.size rfl).kept (Keep.alloc _ _) (by simp)

/-- Get: of a nil pointer, of one that nobody made: nothing. -/
theorem lget_nil (k : ByteArray) (w : World) : Calls Try.prog 17 #[.pointer none, .string k] w fun e w' => e = .returned (.tuple #[.string ⟨#[]⟩, .bool false]) ∧ Below w.heap.size w w' := by
  go_enter Try.func17, Try.ntmps17
  go_wp2_with fail
  refine (lnone_nil _).mono ?_; rintro e w' ⟨rfl, rfl⟩
  go_wp2_with fail
  go_ret2
  exact ⟨rfl, Below.refl _ _⟩
theorem lget_zero (k : ByteArray) (w : World) (g : Nat) (h : w.cell? ⟨g, 0, none⟩ = some (.map none)) : Calls Try.prog 17 #[.pointer (some ⟨g, 0, none⟩), .string k] w fun e w' => e = .returned (.tuple #[.string ⟨#[]⟩, .bool false]) ∧ Below w.heap.size w w' := by
  go_enter Try.func17, Try.ntmps17
  go_wp2_with fail
  refine (lnone_zero _ _ h).mono ?_; rintro e w' ⟨rfl, rfl⟩
  go_wp2_with fail
  go_ret2
  exact ⟨rfl, Below.refl _ _⟩

theorem getL_mem {l : List LRow} {k : ByteArray} {x : Setting} (h : getL l k = some x) : (k, x) ∈ l := by
  unfold getL at h
  cases hf : l.find? (fun p => decide (p.1 = k)) with
  | none => rw [hf] at h; cases h
  | some p =>
    rw [hf] at h
    have h1 := List.mem_of_find?_eq_some hf
    have h2 := List.find?_some hf
    have h3 : p.1 = k := by simpa using h2
    have h4 : p.2 = x := by simpa using h
    rw [← h3, ← h4]; exact h1
theorem getL_none {l : List LRow} {k : ByteArray} (h : getL l k = none) : k ∉ l.map (·.1) := by
  unfold getL at h
  intro hm
  obtain ⟨p, hp, e⟩ := List.mem_map.1 hm
  cases hf : l.find? (fun p => decide (p.1 = k)) with
  | none => have := List.find?_eq_none.1 hf p hp; simp [e] at this
  | some q => rw [hf] at h; cases h
/-- A look-up in the table. -/
theorem LastAt.look {w : World} {g b : Nat} {L : List LRow} (h : LastAt w g b L) {k : ByteArray} (hk : k.size ≤ maxLen) :
    (Instr.lookup 47 (.map (some b)) (.string k) true).run Try.prog w = .ok (.tuple #[.agg (settingC ((getL L k).getD setting0)), .bool (getL L k).isSome]) w := by
  obtain ⟨M, es, clk, hm, hp⟩ := h.map
  cases hg : getL L k with
  | none =>
    have hno : k ∉ M.map (·.1) := fun hx => getL_none hg ((hp.map (·.1)).mem_iff.1 hx)
    exact hm.miss strKey Try.underlying47 (zeroSetting_run w) hk hno true
  | some x =>
    have hin : (k, x) ∈ M := hp.mem_iff.2 (getL_mem hg)
    exact hm.hit strKey Try.underlying47 hk hin true

def getS (L : List LRow) (k : ByteArray) : ByteArray := ((getL L k).getD setting0).val
theorem lget (k : ByteArray) (w : World) (g b : Nat) (L : List LRow) (h : LastAt w g b L) (hk : k.size ≤ maxLen) :
    Calls Try.prog 17 #[.pointer (some ⟨g, 0, none⟩), .string k] w fun e w' => e = .returned (.tuple #[.string (getS L k), .bool (getL L k).isSome]) ∧ Below w.heap.size w w' := by
  have hc := h.cell
  have hl := h.look hk
  obtain ⟨x, hx⟩ : ∃ x, (getL L k).getD setting0 = x := ⟨_, rfl⟩
  obtain ⟨o, ho⟩ : ∃ o, (getL L k).isSome = o := ⟨_, rfl⟩
  have hgs : Hid (getS L k = x.val) := by show _ = _; unfold getS; rw [hx]
  rw [hx, ho] at hl
  have Ho := Lib.hid ho
  clear hx ho
  go_enter Try.func17, Try.ntmps17
  go_wp2_with fail
  refine (lnone_live _ _ _ hc).mono ?_; rintro e w' ⟨rfl, rfl⟩
  go_wp2_with fail
  go_ret2
  exact ⟨by rw [hgs.out, Ho.out]; rfl, (Below.refl _ _).alloc (Nat.le_refl _) _⟩

end Go.Proofs.Ytlonihfhgfmplaa
