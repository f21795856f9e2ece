/- LastWins: a greater number wins. -/
import Derived.Test.YtlonihfhgfmplaaRow
namespace Go.Proofs.Ytlonihfhgfmplaa
open Go.RowKit

/-! ### The plain law -/
theorem getL_cons (a : LRow) (l : List LRow) (k : ByteArray) : getL (a :: l) k = if a.1 = k then some a.2 else getL l k := by
  unfold getL
  rw [List.find?_cons]
  by_cases h : a.1 = k <;> simp [h]
theorem getL_ins_other : ∀ (l : List LRow) (k k' : ByteArray) (x : Setting), k ≠ k' → getL (insL l k x) k' = getL l k'
  | [], k, k', x, h => by simp [insL, getL, h]
  | a :: l, k, k', x, h => by
    unfold insL
    split
    · rw [getL_cons, getL_cons, getL_ins_other l k k' x h]
    · split
      · rename_i he
        split
        · rw [getL_cons, getL_cons]
          simp only
          rw [if_neg h, if_neg (fun e => h (he.symm.trans e))]
        · rfl
      · rw [getL_cons]
        simp only
        rw [if_neg h]
theorem getL_lt {l : List LRow} {k : ByteArray} (h : ∀ y ∈ l, cmpS k y.1 < 0) : getL l k = none := by
  unfold getL
  rw [Option.map_eq_none_iff, List.find?_eq_none]
  intro y hy e
  have := h y hy
  have e' : y.1 = k := by simpa using e
  rw [e'] at this; exact cmpS_irr this
theorem getL_ins_same : ∀ (l : List LRow) (k : ByteArray) (x : Setting), Rising l → getL (insL l k x) k = some (match getL l k with | none => x | some was => if 0 < cmpSet x was then x else was)
  | [], k, x, _ => by simp [insL, getL]
  | a :: l, k, x, hr => by
    unfold insL
    split
    · rename_i hlt
      have hne : a.1 ≠ k := fun e => by rw [e] at hlt; exact cmpS_irr hlt
      rw [getL_cons, getL_cons, if_neg hne, if_neg hne]
      exact getL_ins_same l k x hr.2
    · rename_i hnl
      split
      · rename_i he
        rw [getL_cons a l, if_pos he]
        split
        · rename_i h0; rw [getL_cons]; simp [h0]
        · rename_i h0; rw [getL_cons, if_pos he]; simp [h0]
      · rename_i he
        rw [getL_cons]
        simp only [if_true]
        rw [getL_cons, if_neg he, getL_lt]
        intro y hy
        exact cmpS_trans _ _ _ (cmpS_ne hnl he) (hr.1 y hy)
theorem cmpSet_more {x y : Setting} (h : y.n < x.n) : 0 < cmpSet x y := by
  have h1 : cmpI x.n y.n = 1 := by unfold cmpI; rw [if_neg (by omega), if_pos h]
  simp [cmpSet, orL, h1]
theorem wins {l : List LRow} {k : ByteArray} {x : Setting} (hr : Rising l) (h : ∀ p ∈ l, p.2.n < x.n) : getL (insL l k x) k = some x := by
  rw [getL_ins_same l k x hr]
  cases hg : getL l k with
  | none => rfl
  | some was => simp [cmpSet_more (h _ (getL_mem hg))]
/-- All numbers are at most m. -/
def Most (l : List LRow) (m : Int) : Prop := 0 ≤ m ∧ m < 2147483648 ∧ ∀ p ∈ l, p.2.n ≤ m
theorem Most.set {l : List LRow} {m : Int} (h : Most l m) (k : ByteArray) (x : Setting) : Most (setL l k x) (if checkE k x = 0 then max m x.n else m) := by
  obtain ⟨h0, h1, h2⟩ := h
  unfold setL
  split
  · rename_i hc
    have := checkE_bd hc
    refine ⟨by omega, by omega, fun p hp => ?_⟩
    rcases insL_mem l k x p hp with rfl | hp
    · simp only; omega
    · have := h2 p hp; omega
  · exact ⟨h0, h1, h2⟩

set_option maxRecDepth 100000 in
set_option maxHeartbeats 4000000 in
theorem lastWins_any (w : World) (A : Option Addr) (n cap : Nat) (R : List Row) (key val other : ByteArray) (d : Id32) (h : RowsIn w A n R) (hn : n ≤ 9223372036854775807) (hs : ∀ x ∈ R, x.key.size ≤ 9223372036854775807 ∧ x.val.size ≤ 9223372036854775807)
    (hk : key.size ≤ 9223372036854775807) (hv : val.size ≤ 9223372036854775807) (ho : other.size ≤ 9223372036854775807) :
    Calls Try.prog 3 #[.slice A n cap, .string key, .string val, .string other, .agg (idC d)] w fun e w' => e = .returned (.bool true) ∧ Below w.heap.size w w' := by
  have hlen := RowsIn.len h
  have hb0 : Below w.heap.size w (w.alloc (.cells (idC d) 24)) := (Below.refl _ _).alloc (Nat.le_refl _) _
  have c0 := much_any (w.alloc (.cells (idC d) 24)) A n cap R (SlR.below h hb0) hn hs
  go_enter Try.func3, Try.ntmps3
  go_wp2_with fail
  refine c0.mono ?_; rintro e w1 ⟨b, rfl, hsm, hb1⟩
  have hw1 := bel2 hb0 hb1
  have hbox1 : rowAt w1 w.heap.size 0 32 = some (idC d) := by
    rw [rowAt_of_block (hb1.block w.heap.size (by simp)) 0 32]; simp [go_sem]
  have hsz1 : w.heap.size < w1.heap.size := by have := hb1.size; simp at this; omega
  clear hb0 hb1 c0
  cases hbig : (b || decide (16 < key.size) || decide (16 < val.size) || decide (16 < other.size)) with
  | true =>
    have fin : ∀ w2, Below w1.heap.size w1 w2 → Below w.heap.size w w2 := fun w2 h => bel2 hw1 h
    have Fin := Lib.hid fin
    clear fin hsm hs h hbox1
    cases b with
    | true =>
      clear hbig
      go_wp2_with fail
      refine (awake_any _).mono ?_; rintro e w8 ⟨rfl, hb8⟩
      go_wp2_with fail
      go_ret
      exact ⟨rfl, Fin.out _ hb8⟩
    | false =>
      have hb3 : 16 < key.size ∨ 16 < val.size ∨ 16 < other.size := by simpa [or_assoc] using hbig
      clear hbig
      by_cases k1 : 16 < key.size
      · clear hb3
        go_wp2_with fail
        refine (awake_any _).mono ?_; rintro e w8 ⟨rfl, hb8⟩
        go_wp2_with fail
        go_ret
        exact ⟨rfl, Fin.out _ hb8⟩
      · by_cases k2 : 16 < val.size
        · clear hb3
          go_wp2_with fail
          refine (awake_any _).mono ?_; rintro e w8 ⟨rfl, hb8⟩
          go_wp2_with fail
          go_ret
          exact ⟨rfl, Fin.out _ hb8⟩
        · have k3 : 16 < other.size := by omega
          clear hb3
          go_wp2_with fail
          refine (awake_any _).mono ?_; rintro e w8 ⟨rfl, hb8⟩
          go_wp2_with fail
          go_ret
          exact ⟨rfl, Fin.out _ hb8⟩
  | false =>
    simp only [Bool.or_eq_false_iff, decide_eq_false_iff_not] at hbig
    obtain ⟨⟨⟨rfl, hk16⟩, hv16⟩, ho16⟩ := hbig
    have Hsm := Lib.hid (hsm rfl)
    clear hsm
    go_wp2_with fail
    refine (lnew _).mono ?_; rintro e w2 ⟨g, b, rfl, h2, hg, hb, hw2⟩
    have hw2' := bel2 hw1 hw2
    have hbox2 := (rowAt_of_block (hw2.block w.heap.size hsz1) 0 32).trans hbox1
    have hbw : w.heap.size < b := by omega
    clear hw2 hbox1 hw1
    go_wp2_with fail
    go_loopw [12, 13] (fun m i wr => ∃ (k : Nat) (m' : Int) (L : List LRow), k ≤ n ∧ i = .int .i64 k ∧ m = .int .i64 m' ∧ LastAt wr g b L ∧ Most L m' ∧ Below w.heap.size w wr ∧ rowAt wr w.heap.size 0 32 = some (idC d)) (fun _ i _ => n - (intOf i).toNat)
    case atStart => exact ⟨0, 0, [], Nat.zero_le _, rfl, rfl, h2, ⟨by omega, by omega, by simp⟩, hw2', hbox2⟩
    case round =>
      clear hw2' hbox2 h2
      obtain ⟨k, m', L, hkn, rfl, rfl, hL, hM, hw3, hbox⟩ := hrel
      have hm0 := hM.1
      have hm1 := hM.2.1
      by_cases hlt : k < n
      · obtain ⟨q, o, rfl, hr, hkey, hval, hnn, hid⟩ := RowsIn.get (SlR.below h hw3) hlt (by omega)
        have hsk := hs R[k] (List.getElem_mem (by omega))
        obtain ⟨x, hx⟩ : ∃ x, R[k]'(by omega) = x := ⟨_, rfl⟩
        have Hx := Lib.hid hx
        rw [hx] at hkey hval hsk hnn hid
        clear hx hr
        have hq : q < w.heap.size := SlR.old h rfl (by omega)
        have hqb : q ∉ [b] := by simp; omega
        have hMs := hM.set x.key ⟨x.val, x.n, x.id⟩
        go_upto_region 8 with fail
        have c8 := lset x.key x.val x.n x.id wr.drew g b L (hL.kept (Keep.drew wr) (by simp) (by simp)) hsk.1 hsk.2
        refine wp_region_lex (Kp [b] wr) false (by kernel_rfl) (by kernel_rfl) (by kernel_rfl) (kp_drew [b] wr) ?_
        have hne := kp_some [b] wr
        have hS := kp_drew [b] wr
        have b1 := ksub_cell hkey hqb
        have b2 := ksub_cell hval hqb
        have b3 := ksub_cell hnn hqb
        have b4 := ksub_row hid hqb
        repeat (refine wpLx_loose ?_ ?_; (focus (simp only [chainOp]; done)); intro K hK; go_simp; refine hK _ ?_; clear hK K)
        refine wpLx_chain ?_ ?_ ?_
        focus (exact hS)
        focus (simp only [chainOp]; done)
        intro K hK
        go_simp
        refine c8.mono ?_
        rintro e w4 ⟨rfl, hL4, hk4⟩
        replace hS := kp_next hS hk4 (by simp)
        refine ⟨_, rfl, hS, hK _ _ ?_⟩
        clear hK K c8
        repeat (refine wpLx_loose ?_ ?_; (focus (simp only [chainOp]; done)); intro K hK; go_simp; refine hK _ ?_; clear hK K)
        refine wpLx_nil ?_
        intro hS
        have hS' : Keep [b] wr w4 := hS
        have hw5 : Below w.heap.size w w4 := hw3.trans (hS'.below (by have := hw3.size; omega) (by simp; omega))
        have hbox5 : rowAt w4 w.heap.size 0 32 = some (idC d) := (hS'.row (rowAt_lt hbox) (by simp; omega) 0 32).trans hbox
        have hnn5 := (hS'.cell (p := ⟨q, o + k * 35 + 2, none⟩) (World.block_lt_of_cell? wr _ hnn) hqb).trans hnn
        clear b1 b2 b3 b4 hne hS hS' hk4 hkey hval hid hnn hbox hw3 hL hM
        cases hcb : (checkE x.key ⟨x.val, x.n, x.id⟩ == 0) with
        | true =>
          rw [beq_iff_eq] at hcb
          rw [if_pos hcb] at hMs
          simp only at hMs
          rw [hcb]
          clear hcb
          obtain ⟨m2, hm2⟩ : ∃ m2, max m' x.n = m2 := ⟨_, rfl⟩
          have Hm2 := Lib.hid hm2
          rw [hm2] at hMs
          go_wp2_with fail
          go_roundw
          case rel => exact ⟨k + 1, m2, _, by omega, by go_num, by first | (rw [← Hm2.out]; done) | (rw [← Hm2.out]; congr 1; omega), hL4, hMs, hw5, hbox5⟩
          case measure => simp [intOf]; omega
        | false =>
          have hcn : checkE x.key ⟨x.val, x.n, x.id⟩ ≠ 0 := by intro e; rw [e] at hcb; cases hcb
          rw [if_neg hcn] at hMs
          clear hcn
          go_wp2_with fail
          go_roundw
          case rel => exact ⟨k + 1, m', _, by omega, by go_num, rfl, hL4, hMs, hw5, hbox5⟩
          case measure => simp [intOf]; omega
      · have hlast : ∀ p ∈ L, p.2.n < m' + 1 := fun p hp => by have := hM.2.2 p hp; omega
        have Hlast := Lib.hid hlast
        clear hlast hM
        by_cases hmm : 2147483647 ≤ m'
        · have e5 : checkE key ⟨val, m' + 1, d⟩ = 5 := by unfold checkE; rw [if_neg (by simp only; omega), if_pos (by simp only; omega)]
          go_wp2_with fail
          refine (lset key val (m' + 1) d _ g b L hL hk hv).mono ?_; rintro e w4 ⟨rfl, hL4, hk4⟩
          rw [e5]
          have hw4 : Below w.heap.size w w4 := hw3.trans (hk4.below (by have := hw3.size; omega) (by simp; omega))
          go_wp2_with fail
          refine (awake_any _).mono ?_; rintro e w5 ⟨rfl, hb5⟩
          go_wp2_with fail
          go_ret
          exact ⟨rfl, bel2 hw4 hb5⟩
        · have e0 : checkE key ⟨val, m' + 1, d⟩ = 0 := by unfold checkE; rw [if_neg (by simp only; omega), if_neg (by simp only; omega)]
          have e1 : getL (setL L key ⟨val, m' + 1, d⟩) key = some ⟨val, m' + 1, d⟩ := by unfold setL; rw [if_pos e0]; exact wins hL.rows.1 Hlast.out
          have E1 := Lib.hid e1
          clear e1
          go_wp2_with fail
          refine (lset key val (m' + 1) d _ g b L hL hk hv).mono ?_; rintro e w4 ⟨rfl, hL4, hk4⟩
          rw [e0]
          have hw4 : Below w.heap.size w w4 := hw3.trans (hk4.below (by have := hw3.size; omega) (by simp; omega))
          have hbox4 : rowAt w4 w.heap.size 0 32 = some (idC d) := (hk4.row (rowAt_lt hbox) (by simp; omega) 0 32).trans hbox
          clear hk4 hbox hw3
          go_wp2_with fail
          refine (lget key _ g b _ hL4 (by simp only [maxLen]; omega)).mono ?_; rintro e w5 ⟨rfl, hb5⟩
          have hs5 : getS (setL L key ⟨val, m' + 1, d⟩) key = val := by unfold getS; rw [E1.out]; rfl
          have hi5 : (getL (setL L key ⟨val, m' + 1, d⟩) key).isSome = true := by rw [E1.out]; rfl
          rw [hs5, hi5]
          have hL5 := hL4.below hb5
          have hw5 := bel2 hw4 hb5
          have hbox5 : rowAt w5 w.heap.size 0 32 = some (idC d) := (rowAt_of_block (hb5.block w.heap.size (rowAt_lt hbox4)) 0 32).trans hbox4
          clear hs5 hi5 hL4 hw4 hbox4 hb5
          have e2 : checkE other ⟨⟨#[120]⟩, 2147483647, d⟩ = 0 := by unfold checkE; rw [if_neg (by simp only; have : (⟨#[120]⟩ : ByteArray).size = 1 := rfl; omega), if_neg (by simp only; omega)]
          go_wp2_with fail
          refine (lset other ⟨#[120]⟩ 2147483647 d _ g b _ hL5 ho (by decide)).mono ?_; rintro e w6 ⟨rfl, hL6, hk6⟩
          rw [e2]
          have hw6 : Below w.heap.size w w6 := hw5.trans (hk6.below (by have := hw5.size; omega) (by simp; omega))
          have e3 : setL (setL L key ⟨val, m' + 1, d⟩) other ⟨⟨#[120]⟩, 2147483647, d⟩ = insL (setL L key ⟨val, m' + 1, d⟩) other ⟨⟨#[120]⟩, 2147483647, d⟩ := if_pos e2
          rw [e3] at hL6
          go_wp2_with fail
          refine (lget key _ g b _ hL6 (by simp only [maxLen]; omega)).mono ?_; rintro e w7 ⟨rfl, hb7⟩
          have hw7 := bel2 hw6 hb7
          clear e2 e3 e0 hw6 hb7 hk6 hL6 hw5 hbox5
          by_cases hok : other = key
          · subst hok
            have hi : (getL (insL (setL L other ⟨val, m' + 1, d⟩) other ⟨⟨#[120]⟩, 2147483647, d⟩) other).isSome = true := by rw [getL_ins_same _ _ _ hL5.rows.1]; rfl
            rw [hi]
            obtain ⟨v', hv'⟩ : ∃ v', getS (insL (setL L other ⟨val, m' + 1, d⟩) other ⟨⟨#[120]⟩, 2147483647, d⟩) other = v' := ⟨_, rfl⟩
            rw [hv']
            clear hi hv' hL5 E1
            cases hvv : (v'.toList == val.toList) with
            | true =>
              go_wp2_with fail
              refine (awake_any _).mono ?_; rintro e w8 ⟨rfl, hb8⟩
              go_wp2_with fail
              go_ret
              exact ⟨rfl, bel2 hw7 hb8⟩
            | false =>
              go_wp2_with fail
              refine (awake_any _).mono ?_; rintro e w8 ⟨rfl, hb8⟩
              go_wp2_with fail
              go_ret
              exact ⟨rfl, bel2 hw7 hb8⟩
          · have hg : getL (insL (setL L key ⟨val, m' + 1, d⟩) other ⟨⟨#[120]⟩, 2147483647, d⟩) key = some ⟨val, m' + 1, d⟩ := (getL_ins_other _ _ _ _ hok).trans E1.out
            have hi : (getL (insL (setL L key ⟨val, m' + 1, d⟩) other ⟨⟨#[120]⟩, 2147483647, d⟩) key).isSome = true := by rw [hg]; rfl
            have hs : getS (insL (setL L key ⟨val, m' + 1, d⟩) other ⟨⟨#[120]⟩, 2147483647, d⟩) key = val := by unfold getS; rw [hg]; rfl
            rw [hi, hs]
            clear hi hs hg hL5 E1 hok
            go_wp2_with fail
            refine (awake_any _).mono ?_; rintro e w8 ⟨rfl, hb8⟩
            go_wp2_with fail
            go_ret
            exact ⟨rfl, bel2 hw7 hb8⟩

end Go.Proofs.Ytlonihfhgfmplaa
