/- ViewZero holds: a view that nobody made has nothing and refuses all. No conditions beside the table of operations as the program lays it. -/
import Derived.Test.YtgfpjjppeldhbaaGreatDoorMz8
import Derived.Test.YtgfpjjppeldhbaaGreatDoorTie
import Derived.Test.YtgfpjjppeldhbaaGreatDoorCards
import Derived.SevenTiedAt
namespace Go.Proofs.YtgfpjjppeldhbaaGreatDoor
open Go.ChangeShapes Go.WideShapes Go.ChangeAt Go.RowKit Go.WideMaps Go.WideElems
open Go.ChangeMaps (setBlock shut_map_nil open_string shut_string)

set_option maxRecDepth 100000 in
theorem viewZero_lifted (os : Os) (started : os.Started) (H : Type) (enc : TypeId × Value → H) :
    ReturnsInHanded {} Tryz.checked os 8 .any (fun w args => (Rows.viewZeroSpec.pre enc Tryz.prog Tryz.f8 Rows.viewZeroRow.domain false w args ∧ laidMetH Tryz.prog [("petrel/op.parts", Rows.laid_petrel_op_parts)] w) ∧ sizedMet enc Tryz.prog Tryz.f8 (OpenSpec.ofChange Rows.viewZeroSpec) false w args) (Rows.viewZeroSpec.post enc Tryz.prog Tryz.f8 false true false false) := by
  refine returnsInHanded_of_change_and (C := Tryz.checked) (X := fun w _ => laidMetH Tryz.prog [("petrel/op.parts", Rows.laid_petrel_op_parts)] w) (fun _ _ _ hh h => h.of_heap hh) Tryz.own started (by kernel_rfl) Tryz.func8
    (ChangeSpec.witness_at (enc := enc) (C := Tryz.checked) (os := os) (X := fun w _ => laidMetH Tryz.prog [("petrel/op.parts", Rows.laid_petrel_op_parts)] w) false (laidWorld Tryz.prog os) #[.agg (markVC markV0)] 8 rfl (by kernel_rfl) (by kernel_rfl) (by kernel_rfl) (by kernel_rfl) (by kernel_rfl) (laidWorld_met os _)) ?_
  intro W base args ds gs before hval0 hW hcnd hsz0 hL _
  have hval : ∀ (j : Nat) t v, Tryz.f8.params[j]? = some t → args[j]? = some v → Value.okWide Tryz.prog W .any base t v := hval0
  have hW' := hW
  have hg := parts_of_laid hL
  obtain ⟨p, q, hA0, hV, rfl, hfz, hnd⟩ := hW
  have hA : DataW.TrodAll enc Tryz.prog W 0 (fun _ => true) true Tryz.f8.params.toList args.toList ds p := hA0
  rw [Tryz.params8] at hA hval
  obtain ⟨v0, d0, rfl, rfl, h0⟩ := trodAll_one hA
  obtain ⟨rfl, rfl⟩ := trodVars_nil hV
  obtain ⟨m, rfl, _⟩ := open_agg Tryz.underlying41 rfl opensMarkV (hval 0 41 v0 rfl rfl) h0
  clear hA0 hval0
  refine (viewZero_any m W hg).mono fun e W' ⟨he, hb⟩ => ?_
  subst he
  exact ⟨_, rfl, law_post (tb := 4) Tryz.laidOut (by kernel_rfl) Tryz.underlying4 rfl rfl (by kernel_rfl) hW' hb⟩

theorem viewZero_facts : joinedFacts Tryz.pinned.checked.prog 8 Tryz.f8 Rows.viewZeroSpec Rows.viewZeroRow = true := by kernel_rfl
theorem viewZero_named : Tryz.pinned.checked.prog.funcNamed Rows.viewZeroRow.func = some 8 := by kernel_rfl
theorem viewZero_inst : Tryz.f8.isInstance Tryz.pinned.checked.prog Rows.viewZeroRow.origin Rows.viewZeroRow.targs := of_decide_eq_true (by kernel_rfl)
theorem viewZero_wrap : Tryz.f8.isWrapper Tryz.pinned.checked.prog Rows.viewZeroRow.wrapper Rows.viewZeroRow.mainSum := by unfold Func.isWrapper; first | (rw [if_pos (by decide +kernel)]; kernel_rfl) | (rw [if_neg (by decide +kernel)]; exact ⟨rfl, rfl⟩)
theorem viewZero_holds : Rows.ViewZeroSaid :=
  OpenClaim.holds_of_wide 8 Tryz.f8 rfl rfl rfl rfl rfl rfl rfl ⟨rfl, rfl, rfl, rfl, rfl⟩ rfl rfl rfl rfl rfl viewZero_named Tryz.func8 viewZero_facts viewZero_inst viewZero_wrap
    (fun os started H enc _ => viewZero_lifted os started H enc)

theorem viewZeroCard_holds : Rows.ViewZeroCardSaid :=
  Claim7.holds_tied_plain_at .later [] [.data] true (true, "f245672c1a817d2508774d6a3a2bceb9efc48028e5509a509eb3e4f8d9835711") true
    viewZero_holds (fun _ h => by cases h) (by kernel_rfl) (fun _ h => by cases h) viewZero_row_tie rfl ⟨rfl, rfl⟩ (by kernel_rfl) rfl
    (fun f fn hf hfn => by
      obtain rfl : f = 8 := Option.some.inj ((show Tryz.prog.funcNamed "petrel/petrellaw26.ViewZero" = some 8 by kernel_rfl).symm.trans hf) |>.symm
      obtain rfl : fn = Tryz.f8 := (Option.some.inj (Tryz.func8.symm.trans hfn)).symm
      exact ⟨by kernel_rfl, fun j t ht => by
        rw [Tryz.params8] at ht
        rcases j with _ | j
        · have h3 : t = 41 := by simpa using ht.symm
          subst h3
          exact (show Tryz.prog.wantsStandIn 41 = false by kernel_rfl)
        · simp at ht⟩)
    (by kernel_rfl)

end Go.Proofs.YtgfpjjppeldhbaaGreatDoor
