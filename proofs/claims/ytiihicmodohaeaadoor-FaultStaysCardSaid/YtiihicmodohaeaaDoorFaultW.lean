/- FaultOwn: the walk. -/
import Derived.Test.YtiihicmodohaeaaDoorFaultN
namespace Go.Proofs.YtiihicmodohaeaaDoor
open Go.RowKit Go.Extern.Stop Go.Stop Go.Extern

/-- The value v is the error t, all its blocks from B on. -/
def ErrFrom (B : Nat) (w : World) : ErrT → Value → Prop
  | .num e, v => e ≠ 0 ∧ v = .iface 42 (.int .i64 e)
  | .rep ids, v => ∃ g A n cap, v = .iface 53 (.pointer (some ⟨g, 0, none⟩)) ∧ w.heap[g]? = some (.cells #[.slice A n cap] 56 (0, 0)) ∧ SlR w A n 32 (ids.map idC) ∧ 0 < n ∧ B ≤ g ∧ ∀ x ∈ blk A, B ≤ x
  | .wrap op t, v => ∃ g u, v = .iface 57 (.pointer (some ⟨g, 0, none⟩)) ∧ w.heap[g]? = some (.cells #[.string op, u] 59 (0, 0)) ∧ ErrFrom B w t u ∧ B ≤ g
  | .both a b, v => ∃ g x y, v = .iface 71 (.pointer (some ⟨g, 0, none⟩)) ∧ w.heap[g]? = some (.cells #[x, y] 73 (0, 0)) ∧ ErrFrom B w a x ∧ ErrFrom B w b y ∧ B ≤ g
theorem ErrFrom.at_ {B : Nat} {w : World} : ∀ {t : ErrT} {v : Value}, ErrFrom B w t v → ErrAt w t v
  | .num _, _, h => h
  | .rep _, _, ⟨g, A, n, cap, e, hg, hs, hn, _⟩ => ⟨g, A, n, cap, e, hg, hs, hn⟩
  | .wrap _ _, _, ⟨g, u, e, hg, ht, _⟩ => ⟨g, u, e, hg, ht.at_⟩
  | .both _ _, _, ⟨g, x, y, e, hg, hx, hy, _⟩ => ⟨g, x, y, e, hg, hx.at_, hy.at_⟩
theorem ErrFrom.kept {B : Nat} {S : List Nat} {w w' : World} (hk : Keep S w w') (hS : ∀ x ∈ S, x < B) : ∀ {t : ErrT} {v : Value}, ErrFrom B w t v → ErrFrom B w' t v
  | .num _, _, h => h
  | .rep _, _, ⟨g, A, n, cap, e, hg, hs, hn, h1, h2⟩ => ⟨g, A, n, cap, e, (hk.block g (heap_lt hg) (fun h => by have := hS g h; omega)).trans hg, hs.kept hk (fun x hx h => by have := hS x h; have := h2 x hx; omega), hn, h1, h2⟩
  | .wrap _ _, _, ⟨g, u, e, hg, ht, h1⟩ => ⟨g, u, e, (hk.block g (heap_lt hg) (fun h => by have := hS g h; omega)).trans hg, ht.kept hk hS, h1⟩
  | .both _ _, _, ⟨g, x, y, e, hg, hx, hy, h1⟩ => ⟨g, x, y, e, (hk.block g (heap_lt hg) (fun h => by have := hS g h; omega)).trans hg, hx.kept hk hS, hy.kept hk hS, h1⟩
def ErrResF (B : Nat) (w : World) (t : ErrT) (e : Ending) (w' : World) : Prop := ∃ v, e = .returned v ∧ ErrFrom B w' t v ∧ Below w.heap.size w w'
theorem fmissing_new (w : World) (A : Option Addr) (n cap : Nat) (R : List Id32) (h : IdsIn w A n R) (hn : 0 < n) (hb : n ≤ 1000000000000) :
    Calls Tryd.prog 7 #[.slice A n cap] w (ErrResF w.heap.size w (.rep R)) := by
  have c0 := clone_ids w A n cap R h hn hb
  have hn0 : ((n : Int) == 0) = false := by simp; omega
  clear h
  go_enter Tryd.func7, Tryd.ntmps7
  go_wp2_with fail
  refine c0.mono ?_; rintro e w1 ⟨A', cap', rfl, hown, hb1⟩
  have hs := hown.slr
  have hA := fun x hx => (hown.at_base (x := x) hx).1
  have hb2 : Below w1.heap.size w1 (w1.alloc (.cells #[.slice A' n cap'] 56)) := (Below.refl _ _).alloc (Nat.le_refl _) _
  have HA := Lib.hid hA
  clear hown c0 hA
  go_wp2_with fail
  go_ret
  exact ⟨_, rfl, ⟨w1.heap.size, A', n, cap', rfl, heap_alloc_new w1 _, SlR.below hs hb2, hn, hb1.size, HA.out⟩, bel2 hb1 hb2⟩
theorem fwrap_new (B : Nat) (op : ByteArray) (t : ErrT) (v : Value) (w : World) (h : ErrFrom B w t v) (hB : B ≤ w.heap.size) : Calls Tryd.prog 9 #[.string op, v] w (ErrResF B w (.wrap op t)) := by
  obtain ⟨d, x, rfl⟩ := h.at_.iface
  have hb : Below w.heap.size w (w.alloc (.cells #[.string op, .iface d x] 59)) := (Below.refl _ _).alloc (Nat.le_refl _) _
  have H := Lib.hid h
  clear h
  go_enter Tryd.func9, Tryd.ntmps9
  go_wp2_with fail
  go_ret
  exact ⟨_, rfl, ⟨w.heap.size, _, rfl, heap_alloc_new w _, H.out.kept (S := []) (Keep.of_below hb) (by simp), hB⟩, hb⟩

theorem idsIn_get {w : World} {A : Option Addr} {n : Nat} {R : List Id32} (h : IdsIn w A n R) {i : Nat} (hi : i < n) (hR : i < R.length) :
    ∃ g o, A = some ⟨g, o, none⟩ ∧ rowAt w g (o + i * 32) 32 = some (idC R[i]) := by
  obtain ⟨g, o, e, hr⟩ := h.at_ hi
  rw [List.getElem_map] at hr
  exact ⟨g, o, e, hr⟩
@[go_sem ↓] theorem neqId_run (x y : Id32) (w : World) : (binOp .neq 24 (.agg (idC x)) (.agg (idC y))).run Tryd.prog w = .ok (.bool (!(x == y))) w := by
  simp only [binOp]
  simp [Op.equal, Op.maxDepth, eqId_run]

set_option maxHeartbeats 1000000 in
theorem rsame (w : World) (A B : Option Addr) (n m cap cap' : Nat) (X Y : List Id32) (hx : IdsIn w A n X) (hy : IdsIn w B m Y) (hn : n ≤ 1000000) (hm : m ≤ 1000000) :
    Calls Tryd.prog 11 #[.slice A n cap, .slice B m cap'] w fun e w' => e = .returned (.bool (decide (X = Y))) ∧ Below w.heap.size w w' := by
  have hlx : X.length = n := by simpa using hx.1
  have hly : Y.length = m := by simpa using hy.1
  have Hlx := Lib.hid hlx; have Hly := Lib.hid hly
  by_cases hnm : n = m
  · subst hnm
    clear hlx hly
    go_enter Tryd.func11, Tryd.ntmps11
    go_wp2_with fail
    go_loopw [5] (fun i wr => ∃ k : Nat, k ≤ n ∧ i = .int .i64 k ∧ Hid (X.take k = Y.take k) ∧ Below w.heap.size w wr) (fun i _ => n - (intOf i).toNat)
    case atStart => exact ⟨0, Nat.zero_le _, rfl, rfl, Below.refl _ _⟩
    case round =>
      obtain ⟨k, hk, rfl, heq, hb⟩ := hrel
      by_cases hlt : k < n
      · obtain ⟨q, o, rfl, hr⟩ := idsIn_get (SlR.below hx hb) hlt (by rw [Hlx.out]; exact hlt)
        obtain ⟨q2, o2, rfl, hr2⟩ := idsIn_get (SlR.below hy hb) hlt (by rw [Hly.out]; exact hlt)
        have hX : X.take (k + 1) = X.take k ++ [X[k]'(by rw [Hlx.out]; exact hlt)] := by rw [List.take_add_one, List.getElem?_eq_getElem (by rw [Hlx.out]; exact hlt)]; rfl
        have hY : Y.take (k + 1) = Y.take k ++ [Y[k]'(by rw [Hly.out]; exact hlt)] := by rw [List.take_add_one, List.getElem?_eq_getElem (by rw [Hly.out]; exact hlt)]; rfl
        obtain ⟨x, hx'⟩ : ∃ x, X[k]'(by rw [Hlx.out]; exact hlt) = x := ⟨_, rfl⟩
        obtain ⟨y, hy'⟩ : ∃ y, Y[k]'(by rw [Hly.out]; exact hlt) = y := ⟨_, rfl⟩
        rw [hx'] at hr hX
        rw [hy'] at hr2 hY
        have HX := Lib.hid hX; have HY := Lib.hid hY
        clear hX hY
        have HX' := Lib.hid hx'; have HY' := Lib.hid hy'
        clear hx' hy'
        go_upto_region 6 with fail
        refine wp_region_lex (Bel wr) false (by kernel_rfl) (by kernel_rfl) (by kernel_rfl) (bel_drew wr) ?_
        have hne := bel_some wr
        have hS := bel_drew wr
        have b1 := sub_row hr; have b2 := sub_row hr2
        repeat (refine wpLx_loose ?_ ?_; (focus (simp only [chainOp]; done)); intro K hK; go_simp; refine hK _ ?_; clear hK K)
        refine wpLx_nil ?_
        intro hS
        clear hne hS b1 b2 hr hr2
        have hb' : Below w.heap.size w wr.drew := hb.drew
        cases hpe : (x == y) with
        | true =>
          have e : x = y := by simpa using hpe
          have E := Lib.hid e
          clear e
          go_wp2_with fail
          go_roundw
          case rel => exact ⟨k + 1, by omega, by go_num, (show X.take (k + 1) = Y.take (k + 1) by rw [HX.out, HY.out, heq.out, E.out]), hb'⟩
          case measure => simp [intOf]; omega
        | false =>
          have hne : X ≠ Y := by
            intro e
            subst e
            have : x = y := HX'.out.symm.trans HY'.out
            rw [this] at hpe
            simp at hpe
          have hd := Lib.hid (decide_eq_false hne)
          clear hne
          go_wp2_with fail
          go_ret
          exact ⟨ret_bool (by rw [hd.out]), hb'⟩
      · have hXY : X = Y := by
          have h1 := heq.out
          rw [List.take_of_length_le (by rw [Hlx.out]; omega), List.take_of_length_le (by rw [Hly.out]; omega)] at h1
          exact h1
        have hd := Lib.hid (decide_eq_true hXY)
        clear hXY heq
        go_wp2_with fail
        go_ret
        exact ⟨ret_bool (by rw [hd.out]), hb⟩
  · have hne : X ≠ Y := fun e => by rw [e] at hlx; omega
    have hd := Lib.hid (decide_eq_false hne)
    have hb : ((n : Int) != (m : Int)) = true := by simp; omega
    clear hne hlx hly
    go_enter Tryd.func11, Tryd.ntmps11
    go_wp2_with fail
    go_ret
    exact ⟨ret_bool (by rw [hd.out]), Below.refl _ _⟩

def kOne : ByteArray := ⟨#[97]⟩
set_option maxRecDepth 100000 in
set_option maxHeartbeats 4000000 in
theorem faultOwn_any (w : World) (A : Option Addr) (n cap : Nat) (R : List Id32) (d : Id32) (h : IdsIn w A n R) (hn : n ≤ 9223372036854775807) (hg : ErrVar w) :
    Calls Tryd.prog 3 #[.slice A n cap, .agg (idC d)] w fun e w' => e = .returned (.bool true) ∧ Below w.heap.size w w' := by
  have hRl : R.length = n := by simpa using h.1
  have hb0 : Below w.heap.size w (w.alloc (.cells (idC d) 24)) := (Below.refl _ _).alloc (Nat.le_refl _) _
  have hg0 := Lib.hid (hg.below hb0)
  have hbox0 : rowAt (w.alloc (.cells (idC d) 24)) w.heap.size 0 32 = some (idC d) := by simp [go_sem]
  have h0 := SlR.below h hb0
  clear hg
  by_cases hbad : n = 0 ∨ 50 < n
  · clear h0 hbox0
    by_cases hz : n = 0
    · subst hz
      go_enter Tryd.func3, Tryd.ntmps3
      go_wp2_with fail
      refine (fmissing_nil _ _ _).mono ?_; rintro e w1 ⟨rfl, rfl⟩
      go_wp2_with fail
      refine (awake_any _ hg0.out).mono ?_; rintro e w4 ⟨rfl, hb4⟩
      go_wp2_with fail
      go_ret
      exact ⟨rfl, bel2 hb0 hb4⟩
    · have hz1 : ((n : Int) == 0) = false := by simp; omega
      have hz2 : 50 < n := by omega
      go_enter Tryd.func3, Tryd.ntmps3
      go_wp2_with fail
      refine (fmissing_nil _ _ _).mono ?_; rintro e w1 ⟨rfl, rfl⟩
      go_wp2_with fail
      refine (awake_any _ hg0.out).mono ?_; rintro e w4 ⟨rfl, hb4⟩
      go_wp2_with fail
      go_ret
      exact ⟨rfl, bel2 hb0 hb4⟩
  · have hn0 : 0 < n := by omega
    have hn50 : n ≤ 50 := by omega
    have hz1 : ((n : Int) == 0) = false := by simp; omega
    have hz2 : ¬ 50 < n := by omega
    have hsz0 : (w.alloc (.cells (idC d) 24)).heap.size = w.heap.size + 1 := by simp
    clear hbad
    obtain ⟨q0, o0, rfl, _⟩ := h.2 hn0
    have hR1 : 1 ≤ R.length := by omega
    have Hrl := Lib.hid hRl
    clear hRl
    go_enter Tryd.func3, Tryd.ntmps3
    go_upto_region 3 with fail
    obtain ⟨bx, hbx⟩ : ∃ bx, w.heap.size = bx := ⟨_, rfl⟩
    have Hbx := Lib.hid hbx
    rw [hbx] at hbox0 hsz0
    generalize hW0 : w.alloc (.cells (idC d) 24) = W0 at *
    rw [hbx]
    have hsz1 : bx < W0.heap.size := by omega
    clear hW0 hbx hsz0
    have hbe : Below W0.heap.size W0 (W0.alloc (.cells #[] 24)) := (Below.refl _ _).alloc (Nat.le_refl _) _
    have hown0 := Own.empty W0 W0.heap.size 24 32 (Nat.le_refl _)
    have hs0 := SlR.below h0 hbe
    go_wp2_with (at_builtin; refine L_appends einfoId rfl hown0 rfl hs0 (by simp) ids_one (by omega) (by omega) (by simp) ?_; intro A1 cap1 w1 hown1 hk1 hsub1)
    rw [Nat.zero_add, List.nil_append] at hown1
    have hb1 : Below W0.heap.size W0 w1 := hbe.trans (hk1.below (by simp) (fun x hx => (hown0.at_base hx).1))
    obtain ⟨gm, rfl⟩ : ∃ gm, A1 = some ⟨gm, 0, none⟩ := by
      rcases hown1.addr with e | e
      · have := (hown1.cap_le.2 e).1; omega
      · exact e
    have hgm := hown1.at_base (x := gm) (by simp [blk])
    have hg1 := Lib.hid (hg0.out.below hb1)
    have hbox1 := (rowAt_of_block (hb1.block bx (by omega)) 0 32).trans hbox0
    clear hown0 hs0 hk1 hsub1 hbe h0 hbox0 hg0
    go_wp2_with fail
    refine (fmissing_new w1 _ n cap1 R hown1.slr hn0 (by omega)).mono ?_; rintro e w2 ⟨v2, rfl, ht2, hb2⟩
    obtain ⟨BB, hBB⟩ : ∃ BB, w1.heap.size = BB := ⟨_, rfl⟩
    have hBB2 : BB ≤ w2.heap.size := by have := hb2.size; omega
    rw [hBB] at ht2
    go_wp2_with fail
    refine (fwrap_new BB kOne _ _ _ ht2 hBB2).mono ?_; rintro e w3 ⟨v3, rfl, ht3, hb3⟩
    have hb13 := bel2 hb2 hb3
    have hown3 := hown1.below hb13
    have hg3 := Lib.hid (hg1.out.below hb13)
    have hbox3 := (rowAt_of_block (hb13.block bx (by omega)) 0 32).trans hbox1
    have hb03 := bel2 hb1 hb13
    have hgB : gm < BB := by omega
    have hgbx : gm ≠ bx := by omega
    have hgW : W0.heap.size ≤ gm := hgm.1
    clear hown1 hb1 hb2 hb3 hb13 ht2 hg1 hbox1 hBB hBB2 hgm
    obtain ⟨dx, xx, rfl⟩ := ht3.at_.iface
    go_wp2_with fail
    go_loopw [7] (fun i wr => ∃ (k : Nat) (L : List (Array Value)), k ≤ n ∧ i = .int .i64 k ∧ Own wr W0.heap.size 24 32 (some ⟨gm, 0, none⟩) n cap1 L ∧ Hid (ErrFrom BB wr (.wrap kOne (.rep R)) (.iface dx xx)) ∧ rowAt wr bx 0 32 = some (idC d) ∧ Hid (ErrVar wr) ∧ Below W0.heap.size W0 wr) (fun i _ => n - (intOf i).toNat)
    case atStart => exact ⟨0, _, Nat.zero_le _, rfl, hown3, ht3, hbox3, hg3, hb03⟩
    case round =>
      clear hown3 ht3 hbox3 hg3 hb03
      obtain ⟨k, L, hkn, rfl, hown, ht, hbox, hgv, hb⟩ := hrel
      by_cases hlt : k < n
      · obtain ⟨w4, hst, hown4, hk4⟩ := own_store einfoId hown hlt (idC_size d) (idC_one d)
        have ht4 := Lib.hid (ht.out.kept hk4 (by simpa using hgB))
        have hbox4 := (hk4.row (rowAt_lt hbox) (by simp; omega) 0 32).trans hbox
        have hg4 := Lib.hid (hgv.out.kept hk4 (by simp; omega))
        have hb4 : Below W0.heap.size W0 w4 := hb.trans (hk4.below hb.size (by simpa using hgW))
        clear ht hgv hb
        go_wp2_with fail
        go_roundw
        case rel => exact ⟨k + 1, _, by omega, by go_num, hown4, ht4, hbox4, hg4, hb4⟩
        case measure => simp [intOf]; omega
      · clear hown hkn hgB hgbx hgW
        have hRb : ∀ R', repOf (.wrap kOne (.rep R)) = some R' → R'.length ≤ 1000000000000 := fun R' h => by injection h with h; subst h; have := Hrl.out; omega
        have HRb := Lib.hid hRb
        clear hRb
        go_wp2_with fail
        refine (freport _ _ _ ht.out.at_ hgv.out HRb.out).mono ?_; rintro e w4 ⟨hb4, A4, n4, cap4, rfl, hown4, hn4⟩
        have hl4 : R.length = n4 := by simpa using hown4.len
        have hnn : n4 = n := by rw [← hl4]; exact Hrl.out
        subst hnn
        have hbW4 := bel2 hb hb4
        have hbw4 : Below w.heap.size w w4 := bel2 hb0 hbW4
        have hR4 := SlR.below h hbw4
        have hwt := Lib.hid (ht.out.at_)
        obtain ⟨gt, rfl⟩ : ∃ gt, A4 = some ⟨gt, 0, none⟩ := by
          rcases hown4.addr with e | e
          · have := (hown4.cap_le.2 e).1; omega
          · exact e
        clear hl4 hlt
        go_wp2_with fail
        refine (rsame w4 _ _ _ _ _ _ R R hown4.slr hR4 (by omega) (by omega)).mono ?_; rintro e w5 ⟨rfl, hb5⟩
        have hdt : decide (R = R) = true := decide_eq_true rfl
        rw [hdt]
        have hq5 := bel2 hb4 hb5
        have hown5 := hown4.below hb5
        have hgt := (hown4.at_base (x := gt) (by simp [blk])).1
        clear hdt hb4 hb5 hown4 hbW4 hbw4 hR4
        obtain ⟨wq, rfl⟩ : ∃ wq : World, wq = wr := ⟨_, rfl⟩
        have hbxq := rowAt_lt hbox
        go_wp2_with fail
        go_loopw [10] (fun i wr => ∃ (k : Nat) (L : List (Array Value)), k ≤ n4 ∧ i = .int .i64 k ∧ Own wr wq.heap.size 24 32 (some ⟨gt, 0, none⟩) n4 cap4 L ∧ rowAt wr bx 0 32 = some (idC d) ∧ Below wq.heap.size wq wr) (fun i _ => n4 - (intOf i).toNat)
        case atStart => exact ⟨0, _, Nat.zero_le _, rfl, hown5, (rowAt_of_block (hq5.block bx hbxq) 0 32).trans hbox, hq5⟩
        case round =>
          clear hown5 hq5
          obtain ⟨k, L, hkn, rfl, hown, hbox6, hb6⟩ := hrel
          by_cases hlt : k < n4
          · obtain ⟨w7, hst, hown7, hk7⟩ := own_store einfoId hown hlt (idC_size d) (idC_one d)
            have hbox7 := (hk7.row (rowAt_lt hbox6) (by simp; omega) 0 32).trans hbox6
            have hb7 : Below wq.heap.size wq w7 := hb6.trans (hk7.below hb6.size (by simpa using hgt))
            clear hb6 hown hbox
            go_wp2_with fail
            go_roundw
            case rel => exact ⟨k + 1, _, by omega, by go_num, hown7, hbox7, hb7⟩
            case measure => simp [intOf]; omega
          · clear hown hbox6 hbox hkn
            have hg6 := Lib.hid (hgv.out.below hb6)
            have ht6 := Lib.hid (hwt.out.below hb6)
            have hbw6 : Below w.heap.size w wr := bel2 hb0 (bel2 hb hb6)
            clear hb hb6 hb0
            go_wp2_with fail
            refine (freport _ _ _ ht6.out hg6.out HRb.out).mono ?_; rintro e w7 ⟨hb7, A7, n7, cap7, rfl, hown7, hn7⟩
            have hl7 : R.length = n7 := by simpa using hown7.len
            have hnn : n7 = n4 := by rw [← hl7]; exact Hrl.out
            subst hnn
            have hbw7 := bel2 hbw6 hb7
            have hR7 := SlR.below h hbw7
            have hg7 := Lib.hid (hg6.out.below hb7)
            clear hl7
            go_wp2_with fail
            refine (rsame w7 _ _ _ _ _ _ R R hown7.slr hR7 (by omega) (by omega)).mono ?_; rintro e w8 ⟨rfl, hb8⟩
            have hdt : decide (R = R) = true := decide_eq_true rfl
            rw [hdt]
            have hbw8 := bel2 hbw7 hb8
            have hg8 := Lib.hid (hg7.out.below hb8)
            clear hdt hown7 hR7
            go_wp2_with fail
            refine (awake_any _ hg8.out).mono ?_; rintro e w9 ⟨rfl, hb9⟩
            go_wp2_with fail
            go_ret
            exact ⟨rfl, bel2 hbw8 hb9⟩

end Go.Proofs.YtiihicmodohaeaaDoor
