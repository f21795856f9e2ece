/- A call, as the document has it. -/
import Derived.Test.YtlonihfhgfmplaaBRL
namespace Go.Proofs.Ytlonihfhgfmplaa
open Go.RowKit

set_option maxRecDepth 100000 in
set_option maxHeartbeats 1000000 in
theorem btold (a : Act) (w : World) (g : Nat) (X G : List BRow) (h : RefAt w g X G) (hT : TagsIn w a.A a.n a.T) (hv : a.val.size ≤ 9223372036854775807) (hn : a.n ≤ 100000) (hX : X.length ≤ 100000) (hG : G.length ≤ 100000) :
    Calls Try.prog 36 #[.pointer (some ⟨g, 0, none⟩), .agg (actC a)] w fun e w' => e = .returned (.int .i64 (longE a.val)) ∧ RefAt w' g (X ++ addsOf [a]) (G ++ gonesOf [a]) ∧ Keep [g] w w' := by
  obtain ⟨k, tag, val, A, n, cap, T⟩ := a
  dsimp only at h hT hv hn ⊢
  have hb1 : Below w.heap.size w (w.alloc (.cells (actC ⟨k, tag, val, A, n, cap, T⟩) 65)) := (Below.refl _ _).alloc (Nat.le_refl _) _
  have h1 := h.below hb1
  have hT1 := SlR.below hT hb1
  have ea : addsOf [⟨k, tag, val, A, n, cap, T⟩] = if isAdd ⟨k, tag, val, A, n, cap, T⟩ then (if 16 < val.size then [] else [⟨tag, val⟩]) else [] := by unfold addsOf; simp only [List.flatMap_cons, List.flatMap_nil, List.append_nil]
  have eg : gonesOf [⟨k, tag, val, A, n, cap, T⟩] = if isAdd ⟨k, tag, val, A, n, cap, T⟩ then [] else (if 16 < val.size then [] else T.map fun t => ⟨t, val⟩) := by unfold gonesOf; simp only [List.flatMap_cons, List.flatMap_nil, List.append_nil]
  rw [ea, eg]
  unfold isAdd
  unfold actC at hb1 h1 hT1 ⊢
  dsimp only at hb1 h1 hT1 ⊢
  by_cases hk : k = 0 ∨ k = 1
  · have hadd := radd tag val _ g X G h1 hv hX
    have e1 : (if 16 < val.size then X else X ++ [⟨tag, val⟩]) = X ++ (if 16 < val.size then [] else [(⟨tag, val⟩ : BRow)]) := by split <;> simp
    rw [e1] at hadd
    rw [decide_eq_true hk, if_pos rfl, if_pos rfl, List.append_nil]
    generalize X ++ (if 16 < val.size then [] else [(⟨tag, val⟩ : BRow)]) = X2 at hadd ⊢
    clear e1 ea eg
    rcases hk with hk | hk
    all_goals
      subst hk
      go_enter Try.func36, Try.ntmps36
      go_wp2_with fail
      refine hadd.mono ?_; rintro e w1 ⟨rfl, h2, hk2⟩
      go_wp2_with fail
      go_ret
      exact ⟨rfl, h2, Keep.trans ((Keep.of_below hb1).mono (S' := [g]) (by simp)) hk2 (by simp)⟩
  · have hrem := rrem val A n cap T _ g X G h1 hT1 hv hG hn
    have e1 : (if 16 < val.size then G else G ++ T.map fun t => (⟨t, val⟩ : BRow)) = G ++ (if 16 < val.size then [] else T.map fun t => (⟨t, val⟩ : BRow)) := by split <;> simp
    rw [e1] at hrem
    rw [decide_eq_false hk, if_neg (by simp), if_neg (by simp), List.append_nil]
    generalize G ++ (if 16 < val.size then [] else T.map fun t => (⟨t, val⟩ : BRow)) = G2 at hrem ⊢
    have hk0 : (k == 0) = false := by rw [beq_eq_false_iff_ne]; exact fun e => hk (.inl e)
    have hk1 : (k == 1) = false := by rw [beq_eq_false_iff_ne]; exact fun e => hk (.inr e)
    clear e1 hk ea eg
    go_enter Try.func36, Try.ntmps36
    go_wp2_with fail
    refine hrem.mono ?_; rintro e w1 ⟨rfl, h2, hk2⟩
    go_wp2_with fail
    go_ret
    exact ⟨rfl, h2, Keep.trans ((Keep.of_below hb1).mono (S' := [g]) (by simp)) hk2 (by simp)⟩

end Go.Proofs.Ytlonihfhgfmplaa
