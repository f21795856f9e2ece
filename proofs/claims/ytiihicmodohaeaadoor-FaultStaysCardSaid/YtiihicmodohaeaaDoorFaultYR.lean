/- FaultStays holds: wrapping an error changes neither its number nor its report, and its operations are those wrapped round it. No condition but the card's own on the one listed variable. -/
import Derived.Test.YtiihicmodohaeaaDoorFaultY
import Derived.Test.YtiihicmodohaeaaDoorFaultS
import Derived.Test.YtiihicmodohaeaaDoorFaultF
import Derived.Test.YtiihicmodohaeaaDoorTie
import Derived.Test.YtiihicmodohaeaaDoorCards
import Derived.SevenTiedAt
namespace Go.Proofs.YtiihicmodohaeaaDoor
open Go.ChangeShapes Go.WideShapes Go.ChangeAt Go.RowKit Go.WideMaps Go.WideElems

theorem maxLenY : maxLen ≤ 9223372036854775807 := by decide

set_option maxRecDepth 100000 in
theorem faultStays_lifted (os : Os) (started : os.Started) (H : Type) (enc : TypeId × Value → H) :
    ReturnsInHanded {} Tryd.checked os 4 .any (fun w args => (Rows.faultStaysSpec.pre enc Tryd.prog Tryd.f4 Rows.faultStaysRow.domain false w args ∧ laidMetH Tryd.prog [("errors.errorType", Rows.laid_errors_errorType)] w) ∧ sizedMet enc Tryd.prog Tryd.f4 (OpenSpec.ofChange Rows.faultStaysSpec) false w args) (Rows.faultStaysSpec.post enc Tryd.prog Tryd.f4 false true false false) := by
  refine returnsInHanded_of_change_and (C := Tryd.checked) (X := fun w _ => laidMetH Tryd.prog [("errors.errorType", Rows.laid_errors_errorType)] w) (fun _ _ _ hh h => h.of_heap hh) Tryd.own started (by kernel_rfl) Tryd.func4
    (ChangeSpec.witness_at (enc := enc) (C := Tryd.checked) (os := os) (X := fun w _ => laidMetH Tryd.prog [("errors.errorType", Rows.laid_errors_errorType)] w) false (laidWorld Tryd.prog (.iface 90 (.agg #[.pointer (some ⟨1, 26, none⟩)])) os) #[.slice none 0 0, .slice none 0 0] 8 rfl (by kernel_rfl) (by kernel_rfl) (by kernel_rfl) (by kernel_rfl) (by kernel_rfl) (laidWorld_met os _)) ?_
  intro W base args ds gs before hval0 hW hcnd hsz0 hL _
  have hval : ∀ (j : Nat) t v, Tryd.f4.params[j]? = some t → args[j]? = some v → Value.okWide Tryd.prog W .any base t v := hval0
  have hW' := hW
  have hg := handle_of_laid hL
  obtain ⟨p, q, hA0, hV, rfl, hfz, hnd⟩ := hW
  have hA : DataW.TrodAll enc Tryd.prog W 0 (fun _ => true) true Tryd.f4.params.toList args.toList ds p := hA0
  rw [Tryd.params4] at hA hval
  obtain ⟨v0, v1, d0, d1, p0, p1, rfl, rfl, rfl, h0, h1⟩ := trodAll_two hA
  obtain ⟨rfl, rfl⟩ := trodVars_nil hV
  obtain ⟨A, n, cap, Q, rfl, hQ, hQl, hok, hn, _⟩ := open_rows (k := 4) Tryd.underlying34 opensStep (by kernel_rfl) (by omega) (hval 0 34 v0 rfl rfl) h0
  obtain ⟨C, m, c2, Z, rfl, hZ, hZl, _, hm, _⟩ := open_rows (k := 1) Tryd.underlying35 (opens_string Tryd.underlying9) (by kernel_rfl) (by omega) (hval 1 35 v1 rfl rfl) h1
  clear hA0 hval0 hsz0
  have hml := maxLenY
  refine (faultStays_any W A n cap Q C m c2 Z hQ hok (by omega) hZ (by omega) hg).mono fun e W' ⟨he, hb⟩ => ?_
  subst he
  exact ⟨_, rfl, law_post (tb := 4) Tryd.laidOut (by kernel_rfl) Tryd.underlying4 rfl rfl (by kernel_rfl) hW' hb⟩

theorem faultStays_holds : Rows.FaultStaysSaid :=
  OpenClaim.holds_of_wide 4 Tryd.f4 rfl rfl rfl rfl rfl rfl rfl ⟨rfl, rfl, rfl, rfl, rfl⟩ rfl rfl rfl rfl rfl (by kernel_rfl) Tryd.func4 (by kernel_rfl)
    (of_decide_eq_true (by kernel_rfl)) (by unfold Func.isWrapper; first | (rw [if_pos (by decide +kernel)]; kernel_rfl) | (rw [if_neg (by decide +kernel)]; exact ⟨rfl, rfl⟩))
    (fun os started H enc _ => faultStays_lifted os started H enc)
theorem faultStaysCard_holds : Rows.FaultStaysCardSaid :=
  Claim7.holds_tied_plain_at .later [] [.handle] true (true, "e02dc8bc73a33cd3a7e708c9e03e3b4b49222b84b69e73221b36b9d904c3e5af") true
    faultStays_holds (fun _ h => by cases h) (by kernel_rfl) (fun _ h => by cases h) faultStays_row_tie rfl ⟨rfl, rfl⟩ (by kernel_rfl) rfl
    (fun f fn hf hfn => by
      obtain rfl : f = 4 := Option.some.inj ((show Tryd.prog.funcNamed "petrel/petrellaw04.FaultStays" = some 4 by kernel_rfl).symm.trans hf) |>.symm
      obtain rfl : fn = Tryd.f4 := (Option.some.inj (Tryd.func4.symm.trans hfn)).symm
      exact ⟨by kernel_rfl, fun j t ht => by
        rw [Tryd.params4] at ht
        rcases j with _ | _ | j
        · have h3 : t = 34 := by simpa using ht.symm
          subst h3
          exact (show Tryd.prog.wantsStandIn 34 = false by kernel_rfl)
        · have h3 : t = 35 := by simpa using ht.symm
          subst h3
          exact (show Tryd.prog.wantsStandIn 35 = false by kernel_rfl)
        · simp at ht⟩)
    (by kernel_rfl)

end Go.Proofs.YtiihicmodohaeaaDoor
