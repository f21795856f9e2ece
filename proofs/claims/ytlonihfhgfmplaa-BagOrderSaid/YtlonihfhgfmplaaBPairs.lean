/- The reference Pairs (petrelref22): are two lists one? -/
import Derived.Test.YtlonihfhgfmplaaBagF
import Derived.Laws.StructEq
namespace Go.Proofs.Ytlonihfhgfmplaa
open Go.RowKit

def pairEqB (x y : Pair) : Bool := (x.key.toList == y.key.toList) && (x.val.toList == y.val.toList)
theorem pairEqB_eq (x y : Pair) : pairEqB x y = true ↔ x = y := by
  unfold pairEqB
  simp only [Bool.and_eq_true, beq_iff_eq, toList_inj]
  exact ⟨fun h => Pair_ext h, fun h => by subst h; exact ⟨rfl, rfl⟩⟩
theorem eqPair_in (x y : Pair) (w : World) : (Op.equalIn 10000 42 (.agg (pairC x)) (.agg (pairC y))).run Try.prog w = .ok (pairEqB x y) w := by
  rw [show (10000 : Nat) = 9999 + 1 from rfl, run_equalIn_agg w 9999 42 _ _ fieldsPair (by kernel_rfl)]
  unfold pairEqB
  have e1 := run_equalIn_string (P := Try.prog) w 9998 9 x.key y.key Try.underlying9
  have e2 := run_equalIn_string (P := Try.prog) w 9998 9 x.val y.val Try.underlying9
  simp only [Program.fieldsOf, Try.underlying42]
  simp [Op.eqFields, part, asAgg, isAgg, go_sem, Try.underlying9, e1, e2]
  by_cases h1 : x.key.toList = y.key.toList <;> by_cases h2 : x.val.toList = y.val.toList <;> simp [h1, h2]
@[go_sem ↓] theorem neqPair_run (x y : Pair) (w : World) : (binOp .neq 42 (.agg (pairC x)) (.agg (pairC y))).run Try.prog w = .ok (.bool (!(pairEqB x y))) w := by
  rw [run_neq_struct, eqPair_in]; rfl

def PairsIn (w : World) (A : Option Addr) (n : Nat) (L : List Pair) : Prop := SlR w A n 2 (L.map pairC)
theorem PairsIn.get {w : World} {A : Option Addr} {n : Nat} {R : List Pair} (h : PairsIn w A n R) {i : Nat} (hi : i < n) (hR : i < R.length) :
    ∃ g o, A = some ⟨g, o, none⟩ ∧ rowAt w g (o + i * 2) 2 = some (pairC R[i]) ∧ w.cell? ⟨g, o + i * 2, none⟩ = some (.string (R[i]).key) ∧ w.cell? ⟨g, o + i * 2 + 1, none⟩ = some (.string (R[i]).val) := by
  obtain ⟨g, o, e, hr⟩ := SlR.at_ h hi
  rw [List.getElem_map] at hr
  refine ⟨g, o, e, hr, ?_, ?_⟩
  · have := rowAt_cell hr (j := 0) (by omega)
    rwa [pairC_g0] at this
  · have := rowAt_cell hr (j := 1) (by omega)
    rwa [pairC_g1] at this
theorem PairsIn.len {w : World} {A : Option Addr} {n : Nat} {R : List Pair} (h : PairsIn w A n R) : R.length = n := by simpa using h.1

set_option maxHeartbeats 1000000 in
theorem rpairs (w : World) (A B : Option Addr) (n m cap cap' : Nat) (X Y : List Pair) (hx : PairsIn w A n X) (hy : PairsIn w B m Y) (hn : n ≤ 1000000) (hm : m ≤ 1000000) :
    Calls Try.prog 19 #[.slice A n cap, .slice B m cap'] w fun e w' => e = .returned (.bool (decide (X = Y))) ∧ Below w.heap.size w w' := by
  have hlx := hx.len
  have hly := hy.len
  have Hlx := Lib.hid hlx; have Hly := Lib.hid hly
  by_cases hnm : n = m
  · subst hnm
    clear hlx hly
    go_enter Try.func19, Try.ntmps19
    go_wp2_with fail
    go_loopw [5] (fun i wr => ∃ k : Nat, k ≤ n ∧ i = .int .i64 k ∧ Hid (X.take k = Y.take k) ∧ Below w.heap.size w wr) (fun i _ => n - (intOf i).toNat)
    case atStart => exact ⟨0, Nat.zero_le _, rfl, rfl, Below.refl _ _⟩
    case round =>
      obtain ⟨k, hk, rfl, heq, hb⟩ := hrel
      by_cases hlt : k < n
      · obtain ⟨q, o, rfl, hr, _, _⟩ := PairsIn.get (SlR.below hx hb) hlt (by rw [Hlx.out]; exact hlt)
        obtain ⟨q2, o2, rfl, hr2, _, _⟩ := PairsIn.get (SlR.below hy hb) hlt (by rw [Hly.out]; exact hlt)
        have hX : X.take (k + 1) = X.take k ++ [X[k]'(by rw [Hlx.out]; exact hlt)] := by rw [List.take_add_one, List.getElem?_eq_getElem (by rw [Hlx.out]; exact hlt)]; rfl
        have hY : Y.take (k + 1) = Y.take k ++ [Y[k]'(by rw [Hly.out]; exact hlt)] := by rw [List.take_add_one, List.getElem?_eq_getElem (by rw [Hly.out]; exact hlt)]; rfl
        obtain ⟨x, hx'⟩ : ∃ x, X[k]'(by rw [Hlx.out]; exact hlt) = x := ⟨_, rfl⟩
        obtain ⟨y, hy'⟩ : ∃ y, Y[k]'(by rw [Hly.out]; exact hlt) = y := ⟨_, rfl⟩
        rw [hx'] at hr hX
        rw [hy'] at hr2 hY
        have HX := Lib.hid hX; have HY := Lib.hid hY
        clear hX hY
        have HX' := Lib.hid hx'; have HY' := Lib.hid hy'
        clear hx' hy'
        go_upto_region 6 with fail
        refine wp_region_lex (Bel wr) false (by kernel_rfl) (by kernel_rfl) (by kernel_rfl) (bel_drew wr) ?_
        have hne := bel_some wr
        have hS := bel_drew wr
        have b1 := sub_row hr; have b2 := sub_row hr2
        repeat (refine wpLx_loose ?_ ?_; (focus (simp only [chainOp]; done)); intro K hK; go_simp; refine hK _ ?_; clear hK K)
        refine wpLx_nil ?_
        intro hS
        clear hne hS b1 b2 hr hr2
        have hb' : Below w.heap.size w wr.drew := hb.drew
        cases hpe : pairEqB x y with
        | true =>
          have e := (pairEqB_eq x y).1 hpe
          have E := Lib.hid e
          clear e
          go_wp2_with fail
          go_roundw
          case rel => exact ⟨k + 1, by omega, by go_num, (show X.take (k + 1) = Y.take (k + 1) by rw [HX.out, HY.out, heq.out, E.out]), hb'⟩
          case measure => simp [intOf]; omega
        | false =>
          have hne : X ≠ Y := by
            intro e
            subst e
            have : x = y := HX'.out.symm.trans HY'.out
            rw [(pairEqB_eq x y).2 this] at hpe
            cases hpe
          have hd := Lib.hid (decide_eq_false hne)
          clear hne
          go_wp2_with fail
          go_ret
          exact ⟨ret_bool (by rw [hd.out]), hb'⟩
      · have hkn : k = n := by omega
        have e : X = Y := by
          have := heq.out
          rwa [List.take_of_length_le (by rw [Hlx.out]; omega), List.take_of_length_le (by rw [Hly.out]; omega)] at this
        have E := Lib.hid (decide_eq_true e)
        clear e hkn
        go_wp2_with fail
        go_ret
        exact ⟨ret_bool (by rw [E.out]), hb⟩
  · have hne : X ≠ Y := by intro e; subst e; exact hnm (hlx.symm.trans hly)
    have hd := Lib.hid (decide_eq_false hne)
    have hnm2 : (n == m) = false := by simpa using hnm
    have hnm3 : ((n : Int) == (m : Int)) = false := by rw [beq_eq_false_iff_ne]; omega
    clear hlx hly hne
    go_enter Try.func19, Try.ntmps19
    go_wp2_with fail
    go_ret
    exact ⟨ret_bool (by rw [hd.out]), Below.refl _ _⟩

end Go.Proofs.Ytlonihfhgfmplaa
