/-
  TariffVersions: the row, proved for every input. No condition.
-/
import Derived.Test.YtdnnnajohdohaaaT9K
import Derived.ChangeMaps5
import Derived.SizedLaws
set_option maxRecDepth 100000
set_option linter.unusedVariables false
set_option linter.unusedSimpArgs false
namespace Go.Proofs.Ytdnnnajohdohaaa
open Go.ChangeShapes Go.WideShapes Go.ChangeAt Go.RowKit
namespace TariffVersionsRow
theorem own : ownKnob Try.prog.godebug = none := by kernel_rfl
theorem laidOut : laidOutB Try.prog = true := by kernel_rfl
theorem ts_ok : ∀ t ∈ Try.f7.params.toList, Try.prog.readableRec t = true ∧ t < Try.prog.types.size := by
  have h : (Try.f7.params.toList.all fun t => Try.prog.readableRec t && decide (t < Try.prog.types.size)) = true := by kernel_rfl
  intro t ht
  have := List.all_eq_true.1 h t ht
  simpa using this

theorem lifted (os : Os) (started : os.Started) (H : Type) (enc : TypeId × Value → H) :
    ReturnsInHanded {} Try.checked os 7 .any (Rows.tariffVersionsSpec.pre6 enc Try.prog Try.f7 Rows.tariffVersionsRow.domain false) (Rows.tariffVersionsSpec.post enc Try.prog Try.f7 false true false false) := by
  refine returnsInHanded_of_change_sized (C := Try.checked) own started (by kernel_rfl) Try.func7
    (ChangeSpec.witness6 (enc := enc) (C := Try.checked) false ⟨#[], #[.slice none 0 0, .agg #[.string ⟨#[]⟩, .int .i64 0, .bool false, .slice none 0 0, .slice none 0 0, .slice none 0 0, .slice none 0 0], .agg #[.string ⟨#[]⟩, .int .i64 0]], []⟩ 8 (by kernel_rfl) (by kernel_rfl) (by kernel_rfl) (by kernel_rfl)) ?_
  intro W base args ds gs before hval0 hW hcnd hsz _
  have hval : ∀ (j : Nat) t v, Try.f7.params[j]? = some t → args[j]? = some v → Value.okWide Try.prog W .any base t v := hval0
  have hW' := hW
  obtain ⟨p, q, hA0, hV, rfl, hfz, hnd⟩ := hW
  have hA : DataW.TrodAll enc Try.prog W 0 (fun _ => true) true Try.f7.params.toList args.toList ds p := hA0
  rw [Try.params7] at hA hval
  obtain ⟨v0, vs0, d0, ds0, p0, q0, hargs, rfl, rfl, h0, r0⟩ := trodAll_cons hA
  obtain ⟨v1, vs1, d1, ds1, p1, q1, rfl, rfl, rfl, h1, r1⟩ := trodAll_cons r0
  obtain ⟨v2, vs2, d2, ds2, p2, q2, rfl, rfl, rfl, h2, r2⟩ := trodAll_cons r1
  obtain ⟨rfl, rfl, rfl⟩ := trodAll_nil r2
  obtain rfl : args = #[v0, v1, v2] := by cases args; simp_all
  obtain ⟨rfl, rfl⟩ := trodVars_none hV
  obtain ⟨A0, n0, c0, T0, rfl, hl0, hf0⟩ := Cv.open_tarsV (hval 0 22 v0 rfl rfl) h0 (Fit.of hsz (j := 0) rfl rfl)
  obtain ⟨t1, D1, rfl, hd1, hg1⟩ := Cv.open_tarD (hval 1 32 v1 rfl rfl) h1 (Fit.of hsz (j := 1) rfl rfl)
  obtain ⟨s2, t2, rfl, w2⟩ := Cv.open_ask (hval 2 47 v2 rfl rfl) h2
  clear hA0 hval0
  refine (Cv.law_versions A0 n0 c0 T0 t1 D1 s2 t2 W hl0 hf0 hd1 hg1).mono fun e W' ⟨he, hb⟩ => ?_
  exact ⟨_, he, post_true laidOut Try.underlying4 (by kernel_rfl) ts_ok rfl hW' rfl rfl rfl hb⟩

end TariffVersionsRow
theorem TariffVersions_holds : Rows.TariffVersionsSaid :=
  OpenClaim.holds_of_wide 7 Try.f7 rfl rfl rfl rfl rfl rfl rfl ⟨rfl, rfl, rfl, rfl, rfl⟩ rfl rfl rfl rfl rfl (by kernel_rfl) Try.func7 (by kernel_rfl)
    (of_decide_eq_true (by kernel_rfl)) (by unfold Func.isWrapper; first | (rw [if_pos (by decide +kernel)]; kernel_rfl) | (rw [if_neg (by decide +kernel)]; exact ⟨rfl, rfl⟩))
    (fun os started H enc _ => TariffVersionsRow.lifted os started H enc)
#print axioms TariffVersions_holds
end Go.Proofs.Ytdnnnajohdohaaa
