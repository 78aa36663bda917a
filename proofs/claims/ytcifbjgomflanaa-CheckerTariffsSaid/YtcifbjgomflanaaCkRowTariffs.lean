/-
  CheckerTariffs: the row, proved for every input. No condition.
-/
import Derived.Test.YtcifbjgomflanaaCkX
import Derived.ChangeMaps5
set_option maxRecDepth 100000
set_option linter.unusedVariables false
set_option linter.unusedSimpArgs false
namespace Go.Proofs.Ytcifbjgomflanaa
open Go.ChangeShapes Go.WideShapes Go.ChangeAt Go.RowKit
namespace CheckerTariffsRow
theorem own : ownKnob Try.prog.godebug = none := by kernel_rfl
theorem laidOut : laidOutB Try.prog = true := by kernel_rfl
theorem ts_ok : ∀ t ∈ Try.f7.params.toList, Try.prog.readableRec t = true ∧ t < Try.prog.types.size := by
  have h : (Try.f7.params.toList.all fun t => Try.prog.readableRec t && decide (t < Try.prog.types.size)) = true := by kernel_rfl
  intro t ht
  have := List.all_eq_true.1 h t ht
  simpa using this

theorem lifted (os : Os) (started : os.Started) (H : Type) (enc : TypeId × Value → H) :
    ReturnsInHanded {} Try.checked os 7 .any (Rows.checkerTariffsSpec.pre6 enc Try.prog Try.f7 Rows.checkerTariffsRow.domain false) (Rows.checkerTariffsSpec.post enc Try.prog Try.f7 false true false false) := by
  refine returnsInHanded_of_change (C := Try.checked) own started (by kernel_rfl) Try.func7
    (ChangeSpec.witness6 (enc := enc) (C := Try.checked) false ⟨#[], #[.agg #[.string ⟨#[]⟩, .int .i64 0, .bool false, .slice none 0 0, .slice none 0 0, .slice none 0 0, .slice none 0 0]], []⟩ 8 (by kernel_rfl) (by kernel_rfl) (by kernel_rfl) (by kernel_rfl)) ?_
  intro W base args ds gs before hval0 hW hcnd _
  have hval : ∀ (j : Nat) t v, Try.f7.params[j]? = some t → args[j]? = some v → Value.okWide Try.prog W .any base t v := hval0
  have hW' := hW
  obtain ⟨p, q, hA0, hV, rfl, hfz, hnd⟩ := hW
  have hA : DataW.TrodAll enc Try.prog W 0 (fun _ => true) true Try.f7.params.toList args.toList ds p := hA0
  rw [Try.params7] at hA hval
  obtain ⟨v0, vs0, d0, ds0, p0, q0, hargs, rfl, rfl, h0, r0⟩ := trodAll_cons hA
  obtain ⟨rfl, rfl, rfl⟩ := trodAll_nil r0
  obtain rfl : args = #[v0] := by cases args; simp_all
  obtain ⟨rfl, rfl⟩ := trodVars_none hV
  obtain ⟨nm0, fr0, sp0, Az0, nz0, cz0, Ab0, nb0, cb0, Ar0, nr0, cr0, Ad0, nd0, cd0, PZ0, SB0, SR0, E0, zs0, bs0, rs0, ds0, rfl, hT0⟩ := Cv.open_tar (hval 0 39 v0 rfl rfl) h0
  clear hA0 hval0
  refine (Cv.law_tariffs nm0 fr0 sp0 Az0 nz0 cz0 Ab0 nb0 cb0 Ar0 nr0 cr0 Ad0 nd0 cd0 PZ0 SB0 SR0 E0 zs0 bs0 rs0 ds0 W hT0).mono fun e W' ⟨he, hb⟩ => ?_
  exact ⟨_, he, post_true laidOut Try.underlying4 (by kernel_rfl) ts_ok rfl hW' rfl rfl rfl hb⟩

end CheckerTariffsRow
theorem CheckerTariffs_holds : Rows.CheckerTariffsSaid :=
  OpenClaim.holds_of_wide 7 Try.f7 rfl rfl rfl rfl rfl rfl rfl ⟨rfl, rfl, rfl, rfl, rfl⟩ rfl rfl rfl rfl rfl (by kernel_rfl) Try.func7 (by kernel_rfl)
    (of_decide_eq_true (by kernel_rfl)) (by unfold Func.isWrapper; first | (rw [if_pos (by decide +kernel)]; kernel_rfl) | (rw [if_neg (by decide +kernel)]; exact ⟨rfl, rfl⟩))
    (fun os started H enc _ => CheckerTariffsRow.lifted os started H enc)
#print axioms CheckerTariffs_holds
end Go.Proofs.Ytcifbjgomflanaa
