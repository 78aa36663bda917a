/-
  Digits: Mask and the reference's. No condition.
-/
import Derived.Test.YtohcdkkneikjmaaDigD
import Derived.Test.YtohcdkkneikjmaaDigRep
import Derived.Test.YtohcdkkneikjmaaComB
import Derived.BigQuiet
import Derived.StillTailTactics
import Derived.Lib.Overlaps
import Derived.Deep.DeepCutAuto
set_option maxRecDepth 100000
set_option linter.unusedVariables false
set_option linter.unusedSimpArgs false
namespace Go.Proofs.Ytohcdkkneikjmaa
open Go.RowKit

namespace Dg

theorem rep_x (k : Nat) : (⟨(Lib.repeatL [120] k).toArray⟩ : ByteArray).data.toList = List.replicate k 120 := by
  have : Lib.repeatL [120] k = List.replicate k (120 : UInt8) := by
    induction k with
    | zero => rfl
    | succ k ih => simp [Lib.repeatL, List.replicate_succ] at ih ⊢; exact ih
  rw [this]
set_option maxHeartbeats 1000000 in
theorem mask_any (s : ByteArray) (keep : Int) (w : World) (hs : s.size ≤ 1000) (hk : (Lit.int .i64 keep).wf = true) :
    Calls Try.prog 21 #[.string s, .int .i64 keep] w fun e w' => e = .returned (.string (bs (maskL s.data.toList keep))) ∧ Below w.heap.size w w' := by
  obtain ⟨m, hm, hkm, hm2⟩ : ∃ m : Nat, m ≤ s.size ∧ min (max keep 0) (s.size : Int) = (m : Int) ∧ maskL s.data.toList keep = s.data.toList.take m ++ List.replicate (s.size - m) 120 := by
    refine ⟨min keep.toNat s.size, by omega, by omega, ?_⟩
    unfold maskL
    rw [size_list]
    by_cases h : keep.toNat ≤ s.size
    · rw [Nat.min_eq_left h]
    · rw [Nat.min_eq_right (by omega), List.take_of_length_le (by rw [size_list]; omega), List.take_of_length_le (by rw [size_list]; omega), show s.size - keep.toNat = 0 by omega, show s.size - s.size = 0 by omega]
  have HF : Hid (bs (maskL s.data.toList keep) = s.extract 0 m ++ (⟨(Lib.repeatL [120] (s.size - m)).toArray⟩ : ByteArray)) := by
    refine Lib.hid (ba_ext ?_)
    rw [bs_list, hm2, ByteArray.data_append, Array.toList_append, rep_x, Lib.extract_data, List.drop_zero, Nat.sub_zero]
  have hrs : (⟨(Lib.repeatL [120] (s.size - m)).toArray⟩ : ByteArray).size = s.size - m := by rw [← size_list, rep_x, List.length_replicate]
  have hsm : (s.size : Int) - (m : Int) = ((s.size - m : Nat) : Int) := by omega
  have hex : (s.extract 0 m).size = m := by rw [ByteArray.size_extract]; omega
  clear hm2
  go_enter Try.func21, Try.ntmps21
  go_wp2_with fail
  have hwr : IntKind.i64.wrap ((s.size - m : Nat) : Int) = ((s.size - m : Nat) : Int) := IntWalk.i64_in _ (by omega)
  ((with_reducible refine wp_region_class (Below w.heap.size w) ?_ ?_ ?_ ?_); kernel_rfl; kernel_rfl; (exact (Below.refl _ _).drew); (intro hnonemp); skip; (repeat (any_goals (first | go_big_quiet_step (((go_at_call 29; (refine (Try.strings_Repeat _ (s.size - m) _ (by omega) (by have : (⟨#[120]⟩ : ByteArray).size = 1 := rfl; rw [this]; omega)).mono ?_); rintro e w' ⟨rfl, hb⟩; exact ⟨rfl, ⟨w', Wd.on _ (Nat.le_refl _) hb⟩, rfl⟩))) | (refine wpQuiet_step (fun K hK => ?_); go_simp; (first | (refine hK _ ?_; clear hK K) | (split <;> rename_i hg <;> (refine hK _ ?_; clear hK K) <;> (try simp only [Bool.not_eq_true] at hg) <;> (first | simp only [Int.not_lt.2 hg, decide_false] | simp only [Int.not_le.1 hg, decide_true] | simp only [hg, decide_true, decide_false] | skip)))))));  all_goals (refine wpQuiet_nil ?_; intro wq hgq))
  go_wp2_with fail
  go_ret
  exact ⟨congrArg (fun x => Ending.returned (Value.string x)) HF.out.symm, hgq⟩

set_option maxHeartbeats 1000000 in
theorem refmask_any (s : ByteArray) (keep : Int) (w : World) (hs : s.size ≤ 1000) :
    Calls Try.prog 22 #[.string s, .int .i64 keep] w fun e w' => e = .returned (.string (bs (maskL s.data.toList keep))) ∧ w = w' := by
  go_enter Try.func22, Try.ntmps22
  go_wp2_with fail
  go_loop [5, 6] (fun v i => ∃ (k : Nat) (t : ByteArray), k ≤ s.size ∧ i = .int .i64 k ∧ v = .string t ∧ Hid (t.data.toList = maskK s.data.toList keep k) ∧ t.size ≤ k) (fun _ i => s.size - (intOf i).toNat)
  case atStart => exact ⟨0, _, by omega, rfl, rfl, Lib.hid (by simp [maskK]), by decide⟩
  case round =>
    obtain ⟨k, t, hk, rfl, rfl, HT, hts⟩ := hrel
    by_cases hlt : k < s.size
    · have hsc := maskK_succ (s := s.data.toList) (keep := keep) (k := k) (by rw [size_list]; exact hlt)
      have hsl : (s.extract k (k + 1)).data.toList = [s.data.toList[k]'(by rw [size_list]; exact hlt)] := by
        rw [Lib.extract_data, show k + 1 - k = 1 by omega, List.drop_eq_getElem_cons (by rw [size_list]; exact hlt)]
        rfl
      have hsz : (s.extract k (k + 1)).size = 1 := by rw [← size_list, hsl]; rfl
      by_cases hkk : (k : Int) < keep
      · have HS : Hid ((t ++ s.extract k (k + 1)).data.toList = maskK s.data.toList keep (k + 1)) := by
          rw [hsc, if_pos hkk, ByteArray.data_append, Array.toList_append, hsl, HT.out]; exact Lib.hid rfl
        clear hsc hsl
        go_wp2_with fail
        go_round
        case rel => exact ⟨k + 1, _, by omega, by go_num, rfl, HS, by simp; omega⟩
        case measure => simp [intOf]; omega
      · have HS : Hid ((t ++ (⟨#[120]⟩ : ByteArray)).data.toList = maskK s.data.toList keep (k + 1)) := by
          rw [hsc, if_neg hkk, ByteArray.data_append, Array.toList_append, HT.out]; exact Lib.hid rfl
        clear hsc hsl
        go_wp2_with fail
        go_round
        case rel => exact ⟨k + 1, _, by omega, by go_num, rfl, HS, by rw [ByteArray.size_append]; have : (⟨#[120]⟩ : ByteArray).size = 1 := rfl; omega⟩
        case measure => simp [intOf]; omega
    · obtain rfl : s.size = k := by omega
      have HF : Hid (bs (maskL s.data.toList keep) = t) := by
        refine Lib.hid (ba_ext ?_)
        rw [bs_list, HT.out, ← size_list, maskK_all]
      go_wp2_with fail
      go_ret
      exact ⟨congrArg (fun x => Ending.returned (Value.string x)) HF.out.symm, rfl⟩

end Dg
end Go.Proofs.Ytohcdkkneikjmaa
