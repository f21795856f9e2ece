/- The row of LastWins. -/
import Derived.Test.YtlonihfhgfmplaaLastV
import Derived.Test.YtlonihfhgfmplaaFrame
import Derived.SizedLaws
namespace Go.Proofs.Ytlonihfhgfmplaa
open Go.ChangeShapes Go.WideShapes Go.ChangeAt Go.RowKit Go.WideMaps Go.WideElems
open Go.ChangeMaps (setBlock shut_map_nil open_string shut_string)

theorem maxLen_le : maxLen ≤ 9223372036854775807 := by decide

set_option maxRecDepth 100000 in
theorem lastWins_lifted (os : Os) (started : os.Started) (H : Type) (enc : TypeId × Value → H) :
    ReturnsInHanded {} Try.checked os 3 .any (Rows.lastWinsSpec.pre6 enc Try.prog Try.f3 Rows.lastWinsRow.domain false) (Rows.lastWinsSpec.post enc Try.prog Try.f3 false true false false) := by
  refine returnsInHanded_of_change_sized (C := Try.checked) Try.own started (by kernel_rfl) Try.func3
    (ChangeSpec.witness6 (enc := enc) (C := Try.checked) false ⟨#[], #[.slice none 0 0, .string ⟨#[]⟩, .string ⟨#[]⟩, .string ⟨#[]⟩, .agg (idC id0)], []⟩ 8 (by kernel_rfl) (by kernel_rfl) (by kernel_rfl) (by kernel_rfl)) ?_
  intro W base args ds gs before hval0 hW hcnd hsz0 _
  have hval : ∀ (j : Nat) t v, Try.f3.params[j]? = some t → args[j]? = some v → Value.okWide Try.prog W .any base t v := hval0
  have hW' := hW
  obtain ⟨p, q, hA0, hV, rfl, hfz, hnd⟩ := hW
  have hA : DataW.TrodAll enc Try.prog W 0 (fun _ => true) true Try.f3.params.toList args.toList ds p := hA0
  have hsz : (DataW.weightsEach Try.prog (Try.f3.params.toList ++ Rows.lastWinsSpec.plain.varTypes Try.prog) (ds ++ gs)).all (· ≤ reachBytes) = true := hsz0
  rw [Try.params3] at hA hval hsz
  obtain ⟨v0, v1, v2, v3, v4, d0, d1, d2, d3, d4, p0, p1, p2, p3, p4, rfl, rfl, rfl, h0, h1, h2, h3, h4⟩ := trodAll_five hA
  obtain ⟨rfl, rfl⟩ := trodVars_none hV
  obtain ⟨A, n, cap, R, rfl, hR, hRl, hok, hn, _⟩ := open_rows (k := 35) Try.underlying22 opensRow (by kernel_rfl) (by omega) (hval 0 22 v0 rfl rfl) h0
  obtain ⟨key, rfl, _, _, hk⟩ := open_string Try.underlying9 (hval 1 9 v1 rfl rfl) h1
  obtain ⟨val, rfl, _, _, hv⟩ := open_string Try.underlying9 (hval 2 9 v2 rfl rfl) h2
  obtain ⟨other, rfl, _, _, ho⟩ := open_string Try.underlying9 (hval 3 9 v3 rfl rfl) h3
  obtain ⟨d, rfl, _⟩ := open_agg Try.underlying24 rfl opensId (hval 4 24 v4 rfl rfl) h4
  clear hA0 hval0 hsz0
  have hml := maxLen_le
  refine (lastWins_any W A n cap R key val other d hR (by omega) (fun x hx => by have := hok x hx; simp only [rowOk] at this; exact ⟨by have := this.1; omega, by have := this.2.1; omega⟩) (by omega) (by omega) (by omega)).mono fun e W' ⟨he, hb⟩ => ?_
  subst he
  exact ⟨_, rfl, law_post (tb := 4) Try.laidOut (by kernel_rfl) Try.underlying4 rfl rfl (by kernel_rfl) hW' hb⟩

theorem lastWins_holds : Rows.LastWinsSaid :=
  OpenClaim.holds_of_wide 3 Try.f3 rfl rfl rfl rfl rfl rfl rfl ⟨rfl, rfl, rfl, rfl, rfl⟩ rfl rfl rfl rfl rfl (by kernel_rfl) Try.func3 (by kernel_rfl)
    (of_decide_eq_true (by kernel_rfl)) (by unfold Func.isWrapper; first | (rw [if_pos (by decide +kernel)]; kernel_rfl) | (rw [if_neg (by decide +kernel)]; exact ⟨rfl, rfl⟩))
    (fun os started H enc _ => lastWins_lifted os started H enc)

end Go.Proofs.Ytlonihfhgfmplaa
