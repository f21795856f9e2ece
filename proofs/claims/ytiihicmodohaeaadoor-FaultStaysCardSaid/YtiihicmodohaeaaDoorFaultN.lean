/- The statements of layer 4: awake, FaultNone: the walks. -/
import Derived.Test.YtiihicmodohaeaaDoorFaultO
namespace Go.Proofs.YtiihicmodohaeaaDoor
open Go.RowKit Go.Extern.Stop Go.Stop Go.Extern

def id1 : Id32 := ⟨1 :: List.replicate 31 0, by simp⟩
@[go_sem ↓] theorem buildId1_run (w : World) : (Instr.build 24 #[(0, .int .u8 1)]).run Tryd.prog w = .ok (.agg (idC id1)) w := by kernel_rfl
@[go_sem] theorem id1_set : (idC id0).setIfInBounds 0 (.int .u8 1) = idC id1 := by apply Array.ext'; rfl
def kQ : ByteArray := ⟨#[113, 117, 101, 114, 121]⟩

set_option maxRecDepth 100000 in
set_option maxHeartbeats 1000000 in
theorem awake_any (w : World) (hg : ErrVar w) : Calls Tryd.prog 8 #[] w fun e w' => e = .returned (.bool true) ∧ Below w.heap.size w w' := by
  have hb0 : Below w.heap.size w (w.alloc (.cells (idC id1) 24)) := (Below.refl _ _).alloc (Nat.le_refl _) _
  have hs0 : IdsIn (w.alloc (.cells (idC id1) 24)) (some ⟨w.heap.size, 0, none⟩) 1 [id1] :=
    ⟨rfl, fun _ => ⟨w.heap.size, 0, rfl, fun i hi => by
      have : i = 0 := by simp at hi; exact hi
      subst this
      simp [go_sem]⟩⟩
  have c0 := fmissing_some _ _ 1 1 [id1] hs0 (by omega) (by omega)
  have hg0 := hg.below hb0
  have Hg := Lib.hid hg0
  clear hs0 hg hg0
  go_enter Tryd.func8, Tryd.ntmps8
  go_wp2_with fail
  refine c0.mono ?_; rintro e w1 ⟨v1, rfl, ht1, hb1⟩
  have Hg1 := Lib.hid (Hg.out.below hb1)
  have hw1 := bel2 hb0 hb1
  clear c0 Hg hb0 hb1
  go_wp2_with fail
  refine (fwrap_some kQ _ _ _ ht1).mono ?_; rintro e w2 ⟨v2, rfl, ht2, hb2⟩
  have Hg2 := Lib.hid (Hg1.out.below hb2)
  have hw2 := bel2 hw1 hb2
  clear Hg1 hw1 hb2 ht1
  go_wp2_with fail
  refine (freport _ _ _ ht2 Hg2.out (fun R h => by injection h with h; subst h; simp)).mono ?_; rintro e w3 ⟨hb3, A3, n3, cap3, rfl, hown3, _⟩
  have hn3 : 1 = n3 := hown3.len
  subst hn3
  have Hg3 := Lib.hid (Hg2.out.below hb3)
  have ht3 := ht2.below hb3
  have hw3 := bel2 hw2 hb3
  clear Hg2 hw2 hb3 ht2 hown3
  go_wp2_with fail
  refine (fcode _ _ _ ht3 Hg3.out).mono ?_; rintro e w4 ⟨rfl, hb4⟩
  have ht4 := ht3.below hb4
  have hw4 := bel2 hw3 hb4
  have hcd : codeOf (.wrap kQ (.rep [id1])) = 16 := rfl
  rw [hcd]
  clear hcd Hg3 ht3 hw3 hb4
  go_wp2_with fail
  refine (fops _ _ _ ht4 (by decide)).mono ?_; rintro e w5 ⟨A5, cap5, rfl, _, hb5⟩
  have hlen : (opsOf (.wrap kQ (.rep [id1]))).length = 1 := rfl
  rw [hlen]
  have hw5 := bel2 hw4 hb5
  clear hlen hw4 hb5
  go_wp2_with fail
  go_ret
  exact ⟨rfl, hw5⟩

theorem fis_nil0 (w : World) : Calls Tryd.prog 16 #[.nilIface, .int .i64 0] w fun e w' => e = .returned (.bool true) ∧ w = w' := by
  go_enter Tryd.func16, Tryd.ntmps16
  go_wp2_with fail
  go_ret
  exact ⟨rfl, rfl⟩
theorem eIs_nil (v : Value) (w : World) : Calls Tryd.prog 26 #[.nilIface, .iface 42 v] w fun e w' => e = .returned (.bool false) ∧ w = w' := by
  have hn := run_eql_iface_nil_left (P := Tryd.prog) w 42 v Tryd.underlying26
  go_enter Tryd.func26, Tryd.ntmps26
  go_wp2_with fail
  go_ret
  exact ⟨rfl, rfl⟩
theorem fis_nil (n : Int) (hn : n ≠ 0) (w : World) : Calls Tryd.prog 16 #[.nilIface, .int .i64 n] w fun e w' => e = .returned (.bool false) ∧ w = w' := by
  have h : (n == 0) = false := by simpa using hn
  go_enter Tryd.func16, Tryd.ntmps16
  go_wp2_with fail
  refine (eIs_nil _ _).mono ?_; rintro e w' ⟨rfl, rfl⟩
  go_wp2_with fail
  go_ret
  exact ⟨rfl, rfl⟩

set_option maxRecDepth 100000 in
set_option maxHeartbeats 1000000 in
theorem faultNone_any (op : ByteArray) (n : Int) (w : World) (hg : ErrVar w) : Calls Tryd.prog 6 #[.string op, .int .i64 n] w fun e w' => e = .returned (.bool true) ∧ Below w.heap.size w w' := by
  have Hg := Lib.hid hg
  clear hg
  cases hz : (n == 0) with
  | true =>
    obtain rfl : n = 0 := by simpa using hz
    go_enter Tryd.func6, Tryd.ntmps6
    go_wp2_with fail
    refine (fwrap_nil _ _).mono ?_; rintro e w1 ⟨rfl, rfl⟩
    go_wp2_with fail
    refine (fjoin_nil _ _).mono ?_; rintro e w1 ⟨rfl, rfl⟩
    go_wp2_with fail
    refine (fnew_zero _).mono ?_; rintro e w1 ⟨rfl, rfl⟩
    go_wp2_with fail
    refine (freport_nil _).mono ?_; rintro e w1 ⟨rfl, hb1⟩
    go_wp2_with fail
    refine (fcode_nil _).mono ?_; rintro e w2 ⟨rfl, hb2⟩
    go_wp2_with fail
    refine (fops_nil _).mono ?_; rintro e w3 ⟨rfl, rfl⟩
    go_wp2_with fail
    refine (fnew_zero _).mono ?_; rintro e w3 ⟨rfl, rfl⟩
    go_wp2_with fail
    refine (fjoin_nil _ _).mono ?_; rintro e w3 ⟨rfl, rfl⟩
    go_wp2_with fail
    refine (fcode_nil _).mono ?_; rintro e w3 ⟨rfl, hb3⟩
    go_wp2_with fail
    refine (fis_nil0 _).mono ?_; rintro e w4 ⟨rfl, rfl⟩
    have hw3 := bel2 (bel2 hb1 hb2) hb3
    have Hg3 := Lib.hid (Hg.out.below hw3)
    go_wp2_with fail
    refine (awake_any _ Hg3.out).mono ?_; rintro e w4 ⟨rfl, hb4⟩
    go_wp2_with fail
    go_ret
    exact ⟨rfl, bel2 hw3 hb4⟩
  | false =>
    have hn : n ≠ 0 := by simpa using hz
    have Hn := Lib.hid hn
    clear hn
    go_enter Tryd.func6, Tryd.ntmps6
    go_wp2_with fail
    refine (fwrap_nil _ _).mono ?_; rintro e w1 ⟨rfl, rfl⟩
    go_wp2_with fail
    refine (fjoin_nil _ _).mono ?_; rintro e w1 ⟨rfl, rfl⟩
    go_wp2_with fail
    refine (fnew_zero _).mono ?_; rintro e w1 ⟨rfl, rfl⟩
    go_wp2_with fail
    refine (freport_nil _).mono ?_; rintro e w1 ⟨rfl, hb1⟩
    go_wp2_with fail
    refine (fcode_nil _).mono ?_; rintro e w2 ⟨rfl, hb2⟩
    go_wp2_with fail
    refine (fops_nil _).mono ?_; rintro e w3 ⟨rfl, rfl⟩
    go_wp2_with fail
    refine (fnew_some n Hn.out _).mono ?_; rintro e w3 ⟨rfl, rfl⟩
    go_wp2_with fail
    refine (fjoin_nil _ _).mono ?_; rintro e w3 ⟨rfl, rfl⟩
    have hw2 := bel2 hb1 hb2
    have Hg2 := Lib.hid (Hg.out.below hw2)
    clear hb1 hb2
    go_wp2_with fail
    refine (fcode (.num n) _ _ ⟨Hn.out, rfl⟩ Hg2.out).mono ?_; rintro e w3 ⟨rfl, hb3⟩
    have hcd : codeOf (.num n) = n := rfl
    rw [hcd]
    clear hcd
    go_wp2_with fail
    refine (fis_nil n Hn.out _).mono ?_; rintro e w4 ⟨rfl, rfl⟩
    have hw3 := bel2 hw2 hb3
    have Hg3 := Lib.hid (Hg.out.below hw3)
    go_wp2_with fail
    refine (awake_any _ Hg3.out).mono ?_; rintro e w4 ⟨rfl, hb4⟩
    go_wp2_with fail
    go_ret
    exact ⟨rfl, bel2 hw3 hb4⟩

end Go.Proofs.YtiihicmodohaeaaDoor
