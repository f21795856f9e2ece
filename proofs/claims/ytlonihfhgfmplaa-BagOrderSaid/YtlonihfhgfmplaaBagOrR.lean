/- BagOrder holds: the same additions and removals from the last to the first, some of them twice, put and loaded in between, put the same bytes and list the same texts. No conditions. -/
import Derived.Test.YtlonihfhgfmplaaBagOr
import Derived.Test.YtlonihfhgfmplaaFrame
import Derived.SizedLaws
namespace Go.Proofs.Ytlonihfhgfmplaa
open Go.ChangeShapes Go.WideShapes Go.ChangeAt Go.RowKit Go.WideMaps Go.WideElems
open Go.ChangeMaps (setBlock shut_map_nil open_string shut_string)

theorem maxLen_le : maxLen ≤ 9223372036854775807 := by decide
theorem u8_bd {k : Int} (h : (Lit.int .u8 k).wf = true) : 0 ≤ k ∧ k ≤ 255 := by
  simpa [Lit.wf, IntKind.min, IntKind.max, IntKind.signed, IntKind.bits] using h

set_option maxRecDepth 100000 in
theorem bagOrder_lifted (os : Os) (started : os.Started) (H : Type) (enc : TypeId × Value → H) :
    ReturnsInHanded {} Try.checked os 12 .any (Rows.bagOrderSpec.pre6 enc Try.prog Try.f12 Rows.bagOrderRow.domain false) (Rows.bagOrderSpec.post enc Try.prog Try.f12 false true false false) := by
  refine returnsInHanded_of_change_sized (C := Try.checked) Try.own started (by kernel_rfl) Try.func12
    (ChangeSpec.witness6 (enc := enc) (C := Try.checked) false ⟨#[], #[.slice none 0 0, .slice none 0 0, .int .u8 0], []⟩ 8 (by kernel_rfl) (by kernel_rfl) (by kernel_rfl) (by kernel_rfl)) ?_
  intro W base args ds gs before hval0 hW hcnd hsz0 _
  have hval : ∀ (j : Nat) t v, Try.f12.params[j]? = some t → args[j]? = some v → Value.okWide Try.prog W .any base t v := hval0
  have hW' := hW
  obtain ⟨p, q, hA0, hV, rfl, hfz, hnd⟩ := hW
  have hA : DataW.TrodAll enc Try.prog W 0 (fun _ => true) true Try.f12.params.toList args.toList ds p := hA0
  have hsz : (DataW.weightsEach Try.prog (Try.f12.params.toList ++ Rows.bagOrderSpec.plain.varTypes Try.prog) (ds ++ gs)).all (· ≤ reachBytes) = true := hsz0
  rw [Try.params12] at hA hval hsz
  obtain ⟨v0, v1, v2, d0, d1, d2, p0, p1, p2, rfl, rfl, rfl, h0, h1, h2⟩ := trodAll_three hA
  obtain ⟨rfl, rfl⟩ := trodVars_none hV
  obtain ⟨A, n, cap, R, rfl, hR, hRl, hok, hn, _⟩ := open_rows (k := 35) Try.underlying58 opensAct (by kernel_rfl) (by omega) (hval 0 58 v0 rfl rfl) h0
  obtain ⟨A2, n2, cap2, T, rfl, hT, hTl, _, hn2, _⟩ := open_rows (k := 1) Try.underlying56 (opens_bool Try.underlying4) (by kernel_rfl) (by omega) (hval 1 56 v1 rfl rfl) h1
  obtain ⟨k, rfl, _, _, wk⟩ := open_int Try.underlying5 (hval 2 5 v2 rfl rfl) h2
  clear hA0 hval0 hsz0
  have hml := maxLen_le
  refine (bagOrder_any W A n cap R A2 n2 cap2 T k ⟨hR, by omega, fun a ha => ⟨(hok a ha).1, by have := (hok a ha).2.1; omega, by have := (hok a ha).2.2; omega⟩⟩ hT (by omega) (u8_bd wk)).mono fun e W' ⟨he, hb⟩ => ?_
  subst he
  exact ⟨_, rfl, law_post (tb := 4) Try.laidOut (by kernel_rfl) Try.underlying4 rfl rfl (by kernel_rfl) hW' hb⟩

theorem bagOrder_holds : Rows.BagOrderSaid :=
  OpenClaim.holds_of_wide 12 Try.f12 rfl rfl rfl rfl rfl rfl rfl ⟨rfl, rfl, rfl, rfl, rfl⟩ rfl rfl rfl rfl rfl (by kernel_rfl) Try.func12 (by kernel_rfl)
    (of_decide_eq_true (by kernel_rfl)) (by unfold Func.isWrapper; first | (rw [if_pos (by decide +kernel)]; kernel_rfl) | (rw [if_neg (by decide +kernel)]; exact ⟨rfl, rfl⟩))
    (fun os started H enc _ => bagOrder_lifted os started H enc)

end Go.Proofs.Ytlonihfhgfmplaa
