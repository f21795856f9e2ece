/- Package last: List. -/
import Derived.Test.YtlonihfhgfmplaaLastK
import Derived.Test.YtlonihfhgfmplaaSlice
namespace Go.Proofs.Ytlonihfhgfmplaa
open Go.RowKit

structure Pair where
  key : ByteArray
  val : ByteArray
/-- Its cells. -/
def pairC (x : Pair) : Array Value := #[.string x.key] ++ #[.string x.val]
@[simp] theorem pairC_size (x : Pair) : (pairC x).size = 2 := by simp [pairC]
@[go_sem] theorem pairC_g0 (x : Pair) : (pairC x)[0]? = some (.string x.key) := by simp [pairC, Array.getElem?_append]
@[go_sem] theorem pairC_gg0 (x : Pair) (h : 0 < (pairC x).size) : (pairC x)[0]'h = .string x.key := Option.some.inj ((Array.getElem?_eq_getElem h).symm.trans (pairC_g0 x))
@[go_sem] theorem pairC_g1 (x : Pair) : (pairC x)[1]? = some (.string x.val) := by simp [pairC, Array.getElem?_append]
@[go_sem] theorem pairC_gg1 (x : Pair) (h : 1 < (pairC x).size) : (pairC x)[1]'h = .string x.val := Option.some.inj ((Array.getElem?_eq_getElem h).symm.trans (pairC_g1 x))
@[go_sem] theorem pairC_all (x : Pair) : (pairC x).extract 0 2 = pairC x := by have := Array.extract_size (xs := pairC x); rwa [pairC_size] at this
theorem pairC_inj {x y : Pair} (h : pairC x = pairC y) : x = y := by
  have h0 := congrArg (fun a => a[0]?) h
  simp only [pairC_g0, Option.some.injEq, Value.string.injEq] at h0
  have h1 := congrArg (fun a => a[1]?) h
  simp only [pairC_g1, Option.some.injEq, Value.string.injEq] at h1
  cases x; cases y; simp_all
theorem pairC_one (x : Pair) : ∀ u ∈ (pairC x).toList, u.oneCell' = true := by
  intro u hu
  simp only [pairC, Array.toList_append, List.mem_append] at hu
  rcases hu with hu | hu
  · simp at hu; subst hu; rfl
  · simp at hu; subst hu; rfl
def pair0 : Pair := ⟨⟨#[]⟩, ⟨#[]⟩⟩
theorem Pair_ext {x y : Pair} (h : x.key = y.key ∧ x.val = y.val) : x = y := by cases x; cases y; simp_all
instance : DecidableEq Pair := fun x y => if h : x.key = y.key ∧ x.val = y.val then isTrue (Pair_ext h) else isFalse (fun e => h (by subst e; simp))
theorem infoPair : (Try.prog.info? 42).map (·.size) = some 2 := by kernel_rfl
@[go_sem ↓] theorem zeroPair_run (w : World) : (zeroValue 42).run Try.prog w = .ok (.agg (pairC pair0)) w := by
  have h : (Try.prog.info? 42).bind (·.zero) = some (.agg (pairC pair0)) := by kernel_rfl
  cases hi : Try.prog.info? 42 with
  | none => rw [hi] at h; cases h
  | some i =>
    rw [hi] at h
    have hz : i.zero = some (.agg (pairC pair0)) := h
    simp [zeroValue, typeInfo, hi, hz]
@[go_sem ↓] theorem loadPair_rw (a : Addr) : loadVar 42 a = ldS 42 a := rfl
@[go_sem ↓] theorem storePair_rw (a : Addr) (v : Value) : storeVar 42 a v = stS 42 a v := rfl
@[go_sem] theorem loadPair_run (w : World) (g o : Nat) : (ldS 42 ⟨g, o, none⟩).run Try.prog w = match rowAt w g o 2 with | some cs => .ok (.agg cs) w | none => (loadVar 42 ⟨g, o, none⟩).run Try.prog w :=
  run_ldS Try.underlying42 rfl infoPair w g o
@[go_sem] theorem storePair_run (w : World) (g : Nat) (hg : g = w.heap.size) (z : Array Value) (hz : z.size = 2) (x : Pair) (e : TypeId) : (stS 42 ⟨g, 0, none⟩ (.agg (pairC x))).run Try.prog (w.alloc (.cells z e)) = .ok () (w.alloc (.cells (pairC x) e)) :=
  hg ▸ run_stS_new infoPair w z (pairC x) hz (pairC_size x) (pairC_one x)
theorem fieldsPair : Try.prog.underlying 42 = some (.struct (Try.prog.fieldsOf 42)) := by kernel_rfl
theorem placesPair (w : World) : ((Try.prog.fieldsOf 42).mapM fun (f : Field) => do pure (f.offset, ← sizeOf f.type)).run Try.prog w = .ok #[(0, 1), (1, 1)] w := by kernel_rfl
@[go_sem ↓] theorem buildPair_rw (parts : Array (Nat × Value)) : Instr.build 42 parts = bdS 42 parts := rfl
@[go_sem] theorem buildPair (a0 : ByteArray) (a1 : ByteArray) (w : World) : (bdS 42 #[(0, .string a0), (1, .string a1)]).run Try.prog w = .ok (.agg (pairC ⟨a0, a1⟩)) w := by
  refine run_build w fieldsPair _ (zeroPair_run w) _ (placesPair w) [(0, .string a0), (1, .string a1)] _ ?_
  rw [show pairC pair0 = (#[] : Array Value) ++ #[.string ⟨#[]⟩] ++ (#[.string ⟨#[]⟩]) from by first | (simp [pairC, pair0, Array.append_assoc]; done) | (apply Array.ext'; simp [pairC, pair0])]
  rw [fill_step (off := 0) (size := 1) rfl (by simp) (by simp) (by simp [Value.cells])]
  rw [show (#[] : Array Value) ++ (Value.string a0).cells ++ (#[.string ⟨#[]⟩]) = (#[.string a0]) ++ #[.string ⟨#[]⟩] ++ (#[] : Array Value) from by first | (simp [Value.cells, Array.append_assoc]; done) | (apply Array.ext'; simp [Value.cells]; done) | (apply Array.ext'; simp only [Array.toList_append]; simp [Value.cells])]
  rw [fill_step (off := 1) (size := 1) rfl (by simp) (by simp) (by simp [Value.cells])]
  first | (simp [Instr.fill, pairC, Array.append_assoc, Value.cells]; done) | (simp only [Instr.fill, pairC]; congr 1; apply Array.ext'; simp [Value.cells])

theorem einfoPair : ElemInfo Try.prog 38 42 2 32 :=
  .of (z := .agg (pairC pair0)) Try.underlying38 (by kernel_rfl) (by kernel_rfl) (by kernel_rfl) (pairC_size _) (by omega)
@[go_sem ↓] theorem bsPair_rw (n : Nat) (parts : Array (Nat × Value)) : Instr.buildSlice 38 n parts = bsS 38 n parts := rfl
@[go_sem] theorem bsPair_run (w : World) (x : Pair) : (bsS 38 1 #[(0, .agg (pairC x))]).run Try.prog w = .ok (.slice (some ⟨w.heap.size, 0, none⟩) 1 1) (w.alloc (.cells (pairC x) 42)) :=
  run_bsS1 einfoPair (by omega) w (pairC x) (pairC_size x)

theorem LastAt.look1 {w : World} {g b : Nat} {L : List LRow} (h : LastAt w g b L) {p : LRow} (hp : p ∈ L) :
    (Instr.lookup 47 (.map (some b)) (.string p.1) false).run Try.prog w = .ok (.agg (settingC p.2)) w := by
  obtain ⟨M, es, clk, hm, hperm⟩ := h.map
  have hk := (checkE_bd (h.rows.2 p hp)).1
  exact hm.hit strKey Try.underlying47 (by simp only [maxLen]; omega) (hperm.mem_iff.2 hp) false

def pairOf (p : LRow) : Pair := ⟨p.1, p.2.val⟩
def listC (L : List LRow) : List (Array Value) := L.map fun p => pairC (pairOf p)

theorem llist_nil (w : World) : Calls Try.prog 20 #[.pointer none] w fun e w' => e = .returned (.slice none 0 0) ∧ w = w' := by
  go_enter Try.func20, Try.ntmps20
  go_wp2_with fail
  refine (lnone_nil _).mono ?_; rintro e w' ⟨rfl, rfl⟩
  go_wp2_with fail
  go_ret
  exact ⟨rfl, rfl⟩
theorem llist_zero (w : World) (g : Nat) (h : w.cell? ⟨g, 0, none⟩ = some (.map none)) : Calls Try.prog 20 #[.pointer (some ⟨g, 0, none⟩)] w fun e w' => e = .returned (.slice none 0 0) ∧ w = w' := by
  go_enter Try.func20, Try.ntmps20
  go_wp2_with fail
  refine (lnone_zero _ _ h).mono ?_; rintro e w' ⟨rfl, rfl⟩
  go_wp2_with fail
  go_ret
  exact ⟨rfl, rfl⟩

theorem row_keys {w : World} {B : Nat} {v : Value} {n : Nat} {L : List LRow} (h : w.ownsRow B 9 1 v n (L.map fun p => .string p.1)) (hn : n = L.length) :
    ∃ A cap, v = .slice A n cap ∧ ((A = none ∧ n = 0) ∨ ∃ g, A = some ⟨g, 0, none⟩ ∧ B ≤ g ∧ g < w.heap.size ∧ ∀ i (hi : i < L.length), w.cell? ⟨g, i, none⟩ = some (.string (L[i]).1)) := by
  obtain ⟨h1, h2⟩ := h
  rcases h2 with ⟨rfl, h0⟩ | ⟨g, c, cur, rfl, hb, hg, hnc, hcm, hcs, htake⟩
  · exact ⟨none, 0, by rw [h0], .inl ⟨rfl, h0⟩⟩
  · refine ⟨some ⟨g, 0, none⟩, c, rfl, .inr ⟨g, rfl, hb, (Array.getElem?_eq_some_iff.1 hg).1, ?_⟩⟩
    intro i hi
    rw [cell_of_row w g i _ _ _ hg]
    have e1 := congrArg (fun l => l[i]?) htake
    simp only [List.getElem?_take, List.getElem?_map] at e1
    rw [if_pos (by omega), List.getElem?_eq_getElem hi] at e1
    simpa using e1

set_option maxRecDepth 100000 in
set_option maxHeartbeats 1000000 in
theorem llist (w : World) (g b : Nat) (L : List LRow) (h : LastAt w g b L) (hn : L.length ≤ 1000000) :
    Calls Try.prog 20 #[.pointer (some ⟨g, 0, none⟩)] w fun e w' => ∃ A cap, e = .returned (.slice A L.length cap) ∧ Own w' w.heap.size 42 2 A L.length cap (listC L) ∧ Below w.heap.size w w' := by
  have hc := h.cell
  go_enter Try.func20, Try.ntmps20
  go_wp2_with fail
  refine (lnone_live _ _ _ hc).mono ?_; rintro e w' ⟨rfl, rfl⟩
  go_wp2_with fail
  refine (lkeys _ _ _ _ h hn).mono ?_; rintro e w1 ⟨v, rfl, hrow, hb⟩
  obtain ⟨KA, kc, rfl, hkeys⟩ := row_keys hrow rfl
  have h1 := h.below hb
  have Hk := Lib.hid hkeys
  clear hkeys hrow hc
  go_wp2_with fail
  go_loopw [3, 14] (fun out i wr => ∃ k A cap, k ≤ L.length ∧ i = .int .i64 (k : Nat) ∧ out = .slice A k cap ∧ Own wr w1.heap.size 42 2 A k cap (listC (L.take k)) ∧ Below w1.heap.size w1 wr) (fun _ i _ => L.length - (intOf i).toNat)
  case atStart => exact ⟨0, none, 0, Nat.zero_le _, rfl, rfl, Own.nil _ _ _ _, Below.refl _ _⟩
  case round =>
    obtain ⟨k, A, cap, hk, rfl, rfl, hown, hbr⟩ := hrel
    by_cases hlt : k < L.length
    · obtain ⟨q, rfl, hq, hqw, hkeys⟩ : ∃ q, KA = some ⟨q, 0, none⟩ ∧ w.heap.size ≤ q ∧ q < w1.heap.size ∧ Hid (∀ i (hi : i < L.length), w1.cell? ⟨q, i, none⟩ = some (.string (L[i]).1)) := by
        rcases Hk.out with ⟨_, h0⟩ | h
        · omega
        · exact h
      have hcell := (hbr.cell (p := ⟨q, k, none⟩) hqw).trans (hkeys.out k hlt)
      have hr := h1.below hbr
      have hcr := hr.cell
      have hl := hr.look1 (List.getElem_mem hlt)
      have htk : listC (L.take (k + 1)) = listC (L.take k) ++ [pairC (pairOf L[k])] := by rw [List.take_add_one, List.getElem?_eq_getElem hlt]; exact List.map_append
      have Htk := Lib.hid htk
      clear htk hr hkeys Hk
      obtain ⟨⟨pk, ps⟩, hp⟩ : ∃ p, L[k] = p := ⟨_, rfl⟩
      have Hp := Lib.hid hp
      rw [hp] at hcell hl Htk
      clear hp
      have hbx : Below wr.heap.size wr (wr.alloc (.cells (pairC ⟨pk, ps.val⟩) 42)) := (Below.refl _ _).alloc (Nat.le_refl _) _
      have hown2 := hown.below hbx
      have hrow2 : rowAt (wr.alloc (.cells (pairC ⟨pk, ps.val⟩) 42)) wr.heap.size 0 2 = some (pairC ⟨pk, ps.val⟩) := by simp [go_sem]
      have hsz := hbr.size
      go_wp2_with (at_builtin; refine L_append einfoPair rfl hown2 rfl hrow2 (pairC_one _) (by omega) (by omega) (by simp; omega) ?_; intro A' cap' w2 hownA hkA hsubA)
      have hbA : Below w1.heap.size w1 w2 := hbr.trans ((hbx.mono hsz).trans (hkA.below (B := w1.heap.size) (by simp; omega) fun x hx => (hown.at_base hx).1))
      go_wp2_with fail
      go_roundw
      case rel => exact ⟨k + 1, A', cap', by omega, by go_num, rfl, by rw [Htk.out]; exact hownA, hbA⟩
      case measure => simp [intOf]; omega
    · go_wp2_with fail
      go_ret
      have e : k = L.length := by omega
      subst e
      rw [List.take_length] at hown
      exact ⟨A, cap, rfl, hown.mono hb.size, bel2 hb hbr⟩

end Go.Proofs.Ytlonihfhgfmplaa
