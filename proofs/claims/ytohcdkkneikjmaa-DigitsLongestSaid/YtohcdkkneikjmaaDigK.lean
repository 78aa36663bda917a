/-
  Digits: the examples of the chapter (awake). No condition.
-/
import Derived.Test.YtohcdkkneikjmaaDigN
import Derived.Test.YtohcdkkneikjmaaDigF
import Derived.Test.YtohcdkkneikjmaaDigG
import Derived.Test.YtohcdkkneikjmaaDigM
import Derived.Test.YtohcdkkneikjmaaDigD
import Derived.Test.YtohcdkkneikjmaaRow
import Derived.BigQuiet
import Derived.StillTailTactics
import Derived.Lib.Overlaps
import Derived.Deep.DeepCutAuto
set_option maxRecDepth 100000
set_option linter.unusedVariables false
set_option linter.unusedSimpArgs false
namespace Go.Proofs.Ytohcdkkneikjmaa
open Go.RowKit

namespace Dg

theorem aw1 : nrmV ⟨#[48, 49, 55, 49, 53, 53, 53]⟩ ⟨#[52, 57]⟩ = .tuple #[.string ⟨#[52, 57, 49, 55, 49, 53, 53, 53]⟩, .int .i64 0] := by kernel_rfl
theorem aw2 : valid (⟨#[49, 50, 51]⟩ : ByteArray).data.toList = true ∧ packL (⟨#[49, 50, 51]⟩ : ByteArray).data.toList = [18, 63] := by decide
theorem aw3 : unpV [31, 35] = .tuple #[.string ⟨#[]⟩, .int .i64 12] := by kernel_rfl
theorem aw4 : longK [52, 57, 49, 53] (Lt ([⟨#[52]⟩, ⟨#[52, 57]⟩, ⟨#[52, 57, 49]⟩, ⟨#[52, 57]⟩] : List ByteArray)) 4 = 2 := by decide
theorem aw5 : bs (maskL [52, 57, 49, 53] 2) = ⟨#[52, 57, 120, 120]⟩ := by kernel_rfl

set_option maxHeartbeats 1000000 in
theorem awake_any (w : World) : Calls Try.prog 10 #[] w fun e w' => e = .returned (.bool true) ∧ Below w.heap.size w w' := by
  go_enter Try.func10, Try.ntmps10
  go_wp2_with fail
  refine (normal_any ⟨#[48, 49, 55, 49, 53, 53, 53]⟩ ⟨#[52, 57]⟩ _ (by decide) (by decide)).mono ?_
  rw [aw1]
  rintro e w' ⟨rfl, rfl⟩
  go_wp2_with fail
  refine (pack_any ⟨#[49, 50, 51]⟩ _ (by decide)).mono ?_
  intro e w1 hP
  obtain ⟨v, he, ho, hb1⟩ := hP
  rw [aw2.1] at he
  rw [aw2.1, if_pos rfl, aw2.2] at ho
  subst he
  obtain ⟨A1, c1, hv1, hs1⟩ := ho.sl
  have hv1' : v = .slice A1 2 c1 := hv1
  have hs1' : Sl w1 A1 2 c1 ([18, 63] : List UInt8) := hs1
  clear hv1 hs1 ho
  subst hv1'
  have HS1 := Lib.hid hs1'
  clear hs1'
  go_wp2_with fail
  refine (unpack_any (some ⟨w1.heap.size, 0, none⟩) 2 2 [31, 35] _ (Sl.new w1 #[.int .u8 31, .int .u8 35] 5 w1.heap.size rfl [31, 35] 2 rfl (by unfold maxLen; decide) rfl) (by decide)).mono ?_
  rw [aw3]
  rintro e w2 ⟨rfl, hb2⟩
  have hb12 : Below w1.heap.size w1 w2 := ((Below.refl _ _).alloc (Nat.le_refl _) _).trans (hb2.mono (by simp))
  have hz1 := hb1.size
  have hbb := hb1.trans (hb12.mono hz1)
  have hcv := conv_str (HS1.out.below hb12)
  have hbs : bs [18, 63] = ⟨#[18, 63]⟩ := rfl
  rw [hbs] at hcv
  clear hbs
  go_wp2_with fail
  refine (longest_any ⟨#[52, 57, 49, 53]⟩ (some ⟨w2.heap.size, 0, none⟩) 4 4 ([⟨#[52]⟩, ⟨#[52, 57]⟩, ⟨#[52, 57, 49]⟩, ⟨#[52, 57]⟩] : List ByteArray) _ (Sl.new w2 #[.string ⟨#[52]⟩, .string ⟨#[52, 57]⟩, .string ⟨#[52, 57, 49]⟩, .string ⟨#[52, 57]⟩] 9 w2.heap.size rfl ([⟨#[52]⟩, ⟨#[52, 57]⟩, ⟨#[52, 57, 49]⟩, ⟨#[52, 57]⟩] : List ByteArray) 4 rfl (by unfold maxLen; decide) rfl)).mono ?_
  have h4 : longK (⟨#[52, 57, 49, 53]⟩ : ByteArray).data.toList (Lt ([⟨#[52]⟩, ⟨#[52, 57]⟩, ⟨#[52, 57, 49]⟩, ⟨#[52, 57]⟩] : List ByteArray)) 4 = 2 := aw4
  rw [h4]
  clear h4
  rintro e w' ⟨rfl, rfl⟩
  have hz2 := hbb.size
  go_wp2_with fail
  refine (mask_any ⟨#[52, 57, 49, 53]⟩ 2 _ (by decide) (by decide)).mono ?_
  have h5 : bs (maskL (⟨#[52, 57, 49, 53]⟩ : ByteArray).data.toList 2) = ⟨#[52, 57, 120, 120]⟩ := aw5
  rw [h5]
  clear h5
  rintro e w3 ⟨rfl, hb3⟩
  have hbe : Below w.heap.size w w3 := (hbb.alloc hz2 _).trans (hb3.mono (by simp; omega))
  go_wp2_with fail
  go_ret
  exact ⟨rfl, hbe⟩

end Dg
end Go.Proofs.Ytohcdkkneikjmaa
