/- ViewOthers holds: what does not belong to a topic turns nothing of its value. No conditions beside the table of operations as the program lays it. -/
import Derived.Test.YtgfpjjppeldhbaaGreatDoorMo14
import Derived.Test.YtgfpjjppeldhbaaGreatDoorTie
import Derived.Test.YtgfpjjppeldhbaaGreatDoorCards
import Derived.SevenTiedAt
namespace Go.Proofs.YtgfpjjppeldhbaaGreatDoor
open Go.ChangeShapes Go.WideShapes Go.ChangeAt Go.RowKit Go.WideMaps Go.WideElems
open Go.ChangeMaps (setBlock shut_map_nil open_string shut_string)

theorem maxLen_leV : maxLen ≤ 9223372036854775807 := by decide

set_option maxRecDepth 100000 in
theorem viewOthers_lifted (os : Os) (started : os.Started) (H : Type) (enc : TypeId × Value → H) :
    ReturnsInHanded {} Tryz.checked os 5 .any (fun w args => (Rows.viewOthersSpec.pre enc Tryz.prog Tryz.f5 Rows.viewOthersRow.domain false w args ∧ laidMetH Tryz.prog [("petrel/op.parts", Rows.laid_petrel_op_parts)] w) ∧ sizedMet enc Tryz.prog Tryz.f5 (OpenSpec.ofChange Rows.viewOthersSpec) false w args) (Rows.viewOthersSpec.post enc Tryz.prog Tryz.f5 false true false false) := by
  refine returnsInHanded_of_change_and (C := Tryz.checked) (X := fun w _ => laidMetH Tryz.prog [("petrel/op.parts", Rows.laid_petrel_op_parts)] w) (fun _ _ _ hh h => h.of_heap hh) Tryz.own started (by kernel_rfl) Tryz.func5
    (ChangeSpec.witness_at (enc := enc) (C := Tryz.checked) (os := os) (X := fun w _ => laidMetH Tryz.prog [("petrel/op.parts", Rows.laid_petrel_op_parts)] w) false (laidWorld Tryz.prog os) #[.string ⟨#[]⟩, .slice none 0 0] 8 rfl (by kernel_rfl) (by kernel_rfl) (by kernel_rfl) (by kernel_rfl) (by kernel_rfl) (laidWorld_met os _)) ?_
  intro W base args ds gs before hval0 hW hcnd hsz0 hL _
  have hval : ∀ (j : Nat) t v, Tryz.f5.params[j]? = some t → args[j]? = some v → Value.okWide Tryz.prog W .any base t v := hval0
  have hW' := hW
  have hg := parts_of_laid hL
  obtain ⟨p, q, hA0, hV, rfl, hfz, hnd⟩ := hW
  have hA : DataW.TrodAll enc Tryz.prog W 0 (fun _ => true) true Tryz.f5.params.toList args.toList ds p := hA0
  rw [Tryz.params5] at hA hval
  obtain ⟨v0, v1, d0, d1, p0, p1, rfl, rfl, rfl, h0, h1⟩ := trodAll_two hA
  obtain ⟨rfl, rfl⟩ := trodVars_nil hV
  obtain ⟨t, rfl, _, _, ht⟩ := open_string Tryz.underlying9 (hval 0 9 v0 rfl rfl) h0
  obtain ⟨A, n, cap, R, rfl, hR, hRl, hok, hn, _⟩ := open_rows (k := 34) Tryz.underlying22 opensMarkV (by kernel_rfl) (by omega) (hval 1 22 v1 rfl rfl) h1
  clear hA0 hval0
  have hml := maxLen_leV
  refine (viewOthers_any t A n cap R W hg (by omega) ⟨hR, by omega, fun a ha => by have := (hok a ha).2; omega⟩).mono fun e W' ⟨he, hb⟩ => ?_
  subst he
  exact ⟨_, rfl, law_post (tb := 4) Tryz.laidOut (by kernel_rfl) Tryz.underlying4 rfl rfl (by kernel_rfl) hW' hb⟩

theorem viewOthers_facts : joinedFacts Tryz.pinned.checked.prog 5 Tryz.f5 Rows.viewOthersSpec Rows.viewOthersRow = true := by kernel_rfl
theorem viewOthers_named : Tryz.pinned.checked.prog.funcNamed Rows.viewOthersRow.func = some 5 := by kernel_rfl
theorem viewOthers_inst : Tryz.f5.isInstance Tryz.pinned.checked.prog Rows.viewOthersRow.origin Rows.viewOthersRow.targs := of_decide_eq_true (by kernel_rfl)
theorem viewOthers_wrap : Tryz.f5.isWrapper Tryz.pinned.checked.prog Rows.viewOthersRow.wrapper Rows.viewOthersRow.mainSum := by unfold Func.isWrapper; first | (rw [if_pos (by decide +kernel)]; kernel_rfl) | (rw [if_neg (by decide +kernel)]; exact ⟨rfl, rfl⟩)
theorem viewOthers_holds : Rows.ViewOthersSaid :=
  OpenClaim.holds_of_wide 5 Tryz.f5 rfl rfl rfl rfl rfl rfl rfl ⟨rfl, rfl, rfl, rfl, rfl⟩ rfl rfl rfl rfl rfl viewOthers_named Tryz.func5 viewOthers_facts viewOthers_inst viewOthers_wrap
    (fun os started H enc _ => viewOthers_lifted os started H enc)

theorem viewOthersCard_holds : Rows.ViewOthersCardSaid :=
  Claim7.holds_tied_plain_at .later [] [.data] true (true, "f245672c1a817d2508774d6a3a2bceb9efc48028e5509a509eb3e4f8d9835711") true
    viewOthers_holds (fun _ h => by cases h) (by kernel_rfl) (fun _ h => by cases h) viewOthers_row_tie rfl ⟨rfl, rfl⟩ (by kernel_rfl) rfl
    (fun f fn hf hfn => by
      obtain rfl : f = 5 := Option.some.inj ((show Tryz.prog.funcNamed "petrel/petrellaw26.ViewOthers" = some 5 by kernel_rfl).symm.trans hf) |>.symm
      obtain rfl : fn = Tryz.f5 := (Option.some.inj (Tryz.func5.symm.trans hfn)).symm
      exact ⟨by kernel_rfl, fun j t ht => by
        rw [Tryz.params5] at ht
        rcases j with _ | _ | j
        · have h3 : t = 9 := by simpa using ht.symm
          subst h3
          exact (show Tryz.prog.wantsStandIn 9 = false by kernel_rfl)
        · have h3 : t = 22 := by simpa using ht.symm
          subst h3
          exact (show Tryz.prog.wantsStandIn 22 = false by kernel_rfl)
        · simp at ht⟩)
    (by kernel_rfl)

end Go.Proofs.YtgfpjjppeldhbaaGreatDoor
