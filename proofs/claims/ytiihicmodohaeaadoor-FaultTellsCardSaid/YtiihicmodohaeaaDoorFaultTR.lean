/- FaultTells holds: an error of any making tells the operations, the number and the report that the reference reads of it. No condition but the card's own on the one listed variable. -/
import Derived.Test.YtiihicmodohaeaaDoorFaultT
import Derived.Test.YtiihicmodohaeaaDoorFaultS
import Derived.Test.YtiihicmodohaeaaDoorFaultF
import Derived.Test.YtiihicmodohaeaaDoorTie
import Derived.Test.YtiihicmodohaeaaDoorCards
import Derived.SevenTiedAt
namespace Go.Proofs.YtiihicmodohaeaaDoor
open Go.ChangeShapes Go.WideShapes Go.ChangeAt Go.RowKit Go.WideMaps Go.WideElems

theorem maxLenT : maxLen ≤ 9223372036854775807 := by decide

set_option maxRecDepth 100000 in
theorem faultTells_lifted (os : Os) (started : os.Started) (H : Type) (enc : TypeId × Value → H) :
    ReturnsInHanded {} Tryd.checked os 5 .any (fun w args => (Rows.faultTellsSpec.pre enc Tryd.prog Tryd.f5 Rows.faultTellsRow.domain false w args ∧ laidMetH Tryd.prog [("errors.errorType", Rows.laid_errors_errorType)] w) ∧ sizedMet enc Tryd.prog Tryd.f5 (OpenSpec.ofChange Rows.faultTellsSpec) false w args) (Rows.faultTellsSpec.post enc Tryd.prog Tryd.f5 false true false false) := by
  refine returnsInHanded_of_change_and (C := Tryd.checked) (X := fun w _ => laidMetH Tryd.prog [("errors.errorType", Rows.laid_errors_errorType)] w) (fun _ _ _ hh h => h.of_heap hh) Tryd.own started (by kernel_rfl) Tryd.func5
    (ChangeSpec.witness_at (enc := enc) (C := Tryd.checked) (os := os) (X := fun w _ => laidMetH Tryd.prog [("errors.errorType", Rows.laid_errors_errorType)] w) false (laidWorld Tryd.prog (.iface 90 (.agg #[.pointer (some ⟨1, 26, none⟩)])) os) #[.slice none 0 0, .int .i64 0] 8 rfl (by kernel_rfl) (by kernel_rfl) (by kernel_rfl) (by kernel_rfl) (by kernel_rfl) (laidWorld_met os _)) ?_
  intro W base args ds gs before hval0 hW hcnd hsz0 hL _
  have hval : ∀ (j : Nat) t v, Tryd.f5.params[j]? = some t → args[j]? = some v → Value.okWide Tryd.prog W .any base t v := hval0
  have hW' := hW
  have hg := handle_of_laid hL
  obtain ⟨p, q, hA0, hV, rfl, hfz, hnd⟩ := hW
  have hA : DataW.TrodAll enc Tryd.prog W 0 (fun _ => true) true Tryd.f5.params.toList args.toList ds p := hA0
  rw [Tryd.params5] at hA hval
  obtain ⟨v0, v1, d0, d1, p0, p1, rfl, rfl, rfl, h0, h1⟩ := trodAll_two hA
  obtain ⟨rfl, rfl⟩ := trodVars_nil hV
  obtain ⟨A, n, cap, Q, rfl, hQ, hQl, hok, hn, _⟩ := open_rows (k := 4) Tryd.underlying34 opensStep (by kernel_rfl) (by omega) (hval 0 34 v0 rfl rfl) h0
  obtain ⟨k, rfl, _, _, _⟩ := open_int Tryd.underlying3 (hval 1 3 v1 rfl rfl) h1
  clear hA0 hval0 hsz0
  have hml := maxLenT
  refine (faultTells_any W A n cap Q k hQ hok (by omega) hg).mono fun e W' ⟨he, hb⟩ => ?_
  subst he
  exact ⟨_, rfl, law_post (tb := 4) Tryd.laidOut (by kernel_rfl) Tryd.underlying4 rfl rfl (by kernel_rfl) hW' hb⟩

theorem faultTells_holds : Rows.FaultTellsSaid :=
  OpenClaim.holds_of_wide 5 Tryd.f5 rfl rfl rfl rfl rfl rfl rfl ⟨rfl, rfl, rfl, rfl, rfl⟩ rfl rfl rfl rfl rfl (by kernel_rfl) Tryd.func5 (by kernel_rfl)
    (of_decide_eq_true (by kernel_rfl)) (by unfold Func.isWrapper; first | (rw [if_pos (by decide +kernel)]; kernel_rfl) | (rw [if_neg (by decide +kernel)]; exact ⟨rfl, rfl⟩))
    (fun os started H enc _ => faultTells_lifted os started H enc)
theorem faultTellsCard_holds : Rows.FaultTellsCardSaid :=
  Claim7.holds_tied_plain_at .later [] [.handle] true (true, "e02dc8bc73a33cd3a7e708c9e03e3b4b49222b84b69e73221b36b9d904c3e5af") true
    faultTells_holds (fun _ h => by cases h) (by kernel_rfl) (fun _ h => by cases h) faultTells_row_tie rfl ⟨rfl, rfl⟩ (by kernel_rfl) rfl
    (fun f fn hf hfn => by
      obtain rfl : f = 5 := Option.some.inj ((show Tryd.prog.funcNamed "petrel/petrellaw04.FaultTells" = some 5 by kernel_rfl).symm.trans hf) |>.symm
      obtain rfl : fn = Tryd.f5 := (Option.some.inj (Tryd.func5.symm.trans hfn)).symm
      exact ⟨by kernel_rfl, fun j t ht => by
        rw [Tryd.params5] at ht
        rcases j with _ | _ | j
        · have h3 : t = 34 := by simpa using ht.symm
          subst h3
          exact (show Tryd.prog.wantsStandIn 34 = false by kernel_rfl)
        · have h3 : t = 3 := by simpa using ht.symm
          subst h3
          exact (show Tryd.prog.wantsStandIn 3 = false by kernel_rfl)
        · simp at ht⟩)
    (by kernel_rfl)

end Go.Proofs.YtiihicmodohaeaaDoor
