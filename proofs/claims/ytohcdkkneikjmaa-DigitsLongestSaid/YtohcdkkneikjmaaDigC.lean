/-
  Digits: Compare and the reference's. No condition.
-/
import Derived.Test.YtohcdkkneikjmaaRows
import Derived.Test.YtohcdkkneikjmaaCom
import Derived.Test.YtohcdkkneikjmaaDigP
import Derived.BigQuiet
import Derived.StillTailTactics
import Derived.Lib.Overlaps
import Derived.Deep.DeepCutAuto
import Derived.Deep.RegionHeld3
import Derived.ChangeKeysEq
set_option maxRecDepth 100000
set_option linter.unusedVariables false
set_option linter.unusedSimpArgs false
namespace Go.Proofs.Ytohcdkkneikjmaa
open Go.RowKit

namespace Dg

theorem nanI_any (x : Int) (w : World) : Calls Try.prog 39 #[.int .i64 x] w fun e w' => e = .returned (.bool false) ∧ w = w' := by
  go_enter Try.func39, Try.ntmps39
  go_wp2
  go_ret
  exact ⟨by simp, rfl⟩
theorem nanS_any (x : ByteArray) (w : World) : Calls Try.prog 40 #[.string x] w fun e w' => e = .returned (.bool false) ∧ w = w' := by
  go_enter Try.func40, Try.ntmps40
  go_wp2
  go_ret
  exact ⟨by simp, rfl⟩
def cmpI (x y : Int) : Int := if x < y then -1 else if y < x then 1 else 0
def cmpS (x y : List UInt8) : Int := if Go.Op.bytesLess x y = true then -1 else if Go.Op.bytesLess y x = true then 1 else 0
theorem cmpI_any (x y : Int) (w : World) : Calls Try.prog 31 #[.int .i64 x, .int .i64 y] w fun e w' => e = .returned (.int .i64 (cmpI x y)) ∧ w = w' := by
  go_enter Try.func31, Try.ntmps31
  go_wp2_with (go_at_call 39; refine (nanI_any _ _).mono ?_; rintro e w' ⟨rfl, rfl⟩)
  all_goals (go_ret; refine ⟨ret_int ?_, rfl⟩; unfold cmpI; (repeat' split) <;> omega)
theorem cmpS_any (x y : ByteArray) (w : World) : Calls Try.prog 32 #[.string x, .string y] w fun e w' => e = .returned (.int .i64 (cmpS x.data.toList y.data.toList)) ∧ w = w' := by
  have hx := Lib.toList_data x
  have hy := Lib.toList_data y
  rw [← hx, ← hy]
  clear hx hy
  generalize hr : cmpS x.toList y.toList = r
  have HR := Lib.hid hr
  clear hr
  cases h1 : Go.Op.bytesLess x.toList y.toList
  · cases h2 : (x.toList == y.toList)
    · have h3 : x.toList ≠ y.toList := by simpa using h2
      have h4 : Go.Op.bytesLess y.toList x.toList = true := by
        cases h4 : Go.Op.bytesLess y.toList x.toList
        · exact absurd (less_total _ _ h1 h4) h3
        · rfl
      have H := Lib.hid (show r = 1 by rw [← HR.out]; simp [cmpS, h1, h4])
      clear h4
      go_enter Try.func32, Try.ntmps32
      go_wp2_with (go_at_call 40; refine (nanS_any _ _).mono ?_; rintro e w' ⟨rfl, rfl⟩)
      all_goals (go_ret; exact ⟨ret_int H.out.symm, rfl⟩)
    · have h3 : x.toList = y.toList := by simpa using h2
      have H := Lib.hid (show r = 0 by rw [← HR.out, h3]; simp [cmpS, less_irrefl])
      clear h3
      go_enter Try.func32, Try.ntmps32
      go_wp2_with (go_at_call 40; refine (nanS_any _ _).mono ?_; rintro e w' ⟨rfl, rfl⟩)
      all_goals (go_ret; exact ⟨ret_int H.out.symm, rfl⟩)
  · have H := Lib.hid (show r = -1 by rw [← HR.out]; simp [cmpS, h1])
    go_enter Try.func32, Try.ntmps32
    go_wp2_with (go_at_call 40; refine (nanS_any _ _).mono ?_; rintro e w' ⟨rfl, rfl⟩)
    all_goals (go_ret; exact ⟨ret_int H.out.symm, rfl⟩)

def orI (x y : Int) : Int := if x = 0 then y else x
theorem or_any (g : Nat) (x y : Int) (w : World) (h0 : w.cell? ⟨g, 0, none⟩ = some (.int .i64 x)) (h1 : w.cell? ⟨g, 1, none⟩ = some (.int .i64 y)) :
    Calls Try.prog 30 #[.slice (some ⟨g, 0, none⟩) 2 2] w fun e w' => e = .returned (.int .i64 (orI x y)) ∧ w = w' := by
  go_enter Try.func30, Try.ntmps30
  go_wp2_with fail
  go_loop [8] (fun i => ∃ k : Nat, k ≤ 2 ∧ i = .int .i64 k ∧ (0 < k → x = 0) ∧ (1 < k → y = 0)) (fun i => 2 - (intOf i).toNat)
  case atStart => exact ⟨0, Nat.zero_le _, rfl, fun h => absurd h (by omega), fun h => absurd h (by omega)⟩
  case round =>
    obtain ⟨k, hk, rfl, hx, hy⟩ := hrel
    have HX := Lib.hid hx
    have HY := Lib.hid hy
    clear hx hy
    by_cases hk0 : k = 0
    · subst hk0
      by_cases hz : x = 0
      · subst hz
        go_wp2_with fail
        go_round
        case rel => exact ⟨1, by omega, by go_num, by simp, fun h => absurd h (by omega)⟩
        case measure => simp [intOf]
      · have hz1 : (x != 0) = true := by simpa using hz
        have H := Lib.hid (show orI x y = x from if_neg hz)
        clear hz
        go_wp2_with fail
        go_ret
        exact ⟨ret_int H.out.symm, rfl⟩
    · by_cases hk1 : k = 1
      · subst hk1
        obtain rfl : x = 0 := HX.out (by omega)
        by_cases hz : y = 0
        · subst hz
          go_wp2_with fail
          go_round
          case rel => exact ⟨2, by omega, by go_num, by simp, by simp⟩
          case measure => simp [intOf]
        · have hz1 : (y != 0) = true := by simpa using hz
          have H := Lib.hid (show orI 0 y = y from if_pos rfl)
          clear hz
          go_wp2_with fail
          go_ret
          exact ⟨ret_int H.out.symm, rfl⟩
      · obtain rfl : k = 2 := by omega
        obtain rfl : x = 0 := HX.out (by omega)
        obtain rfl : y = 0 := HY.out (by omega)
        go_wp2_with fail
        go_ret
        exact ⟨ret_int rfl, rfl⟩

end Dg
end Go.Proofs.Ytohcdkkneikjmaa
