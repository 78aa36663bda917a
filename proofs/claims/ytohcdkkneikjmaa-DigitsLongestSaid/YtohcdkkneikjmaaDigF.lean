/-
  Digits: Pack and the reference's. No condition.
-/
import Derived.Test.YtohcdkkneikjmaaDigD
import Derived.Test.YtohcdkkneikjmaaDigQ
import Derived.BigQuiet
import Derived.StillTailTactics
import Derived.Lib.Overlaps
import Derived.Deep.DeepCutAuto
set_option maxRecDepth 100000
set_option linter.unusedVariables false
set_option linter.unusedSimpArgs false
namespace Go.Proofs.Ytohcdkkneikjmaa
open Go.RowKit

namespace Dg

theorem ret_tup {a b : Value} {x y : Int} (h : x = y) : Ending.returned (.tuple #[a, .int .i64 x]) = .returned (.tuple #[a, .int .i64 y]) := by rw [h]
def errE (b : Bool) : Int := if b = true then 0 else 12
def PackPost (w : World) (s : ByteArray) (e : Ending) (w' : World) : Prop :=
  ∃ v, e = .returned (.tuple #[v, .int .i64 (errE (valid s.data.toList))]) ∧ Ow w' w.heap.size 5 v (if valid s.data.toList = true then packL s.data.toList else []) ∧ Below w.heap.size w w'
theorem PackPost.no {w : World} {s : ByteArray} (h : valid s.data.toList = false) : PackPost w s (.returned (.tuple #[.slice none 0 0, .int .i64 12])) w :=
  ⟨.slice none 0 0, by rw [errE, h]; rfl, by rw [h]; exact Ow.nil_ _ _ _, Below.refl _ _⟩
theorem PackPost.yes {w w' : World} {s : ByteArray} {v : Value} (h : valid s.data.toList = true) (ho : Ow w' w.heap.size 5 v (packL s.data.toList)) (hb : Below w.heap.size w w') : PackPost w s (.returned (.tuple #[v, .int .i64 0])) w' :=
  ⟨v, by rw [errE, h]; rfl, by rw [h]; exact ho, hb⟩
theorem bits_or (x y : Int) (h1 : 0 ≤ x) (h2 : x ≤ 9) (h3 : 0 ≤ y) (h4 : y ≤ 15) : bits BinOp.or IntKind.u8 (x * 16) y = x * 16 + y := by
  have key : ∀ a : Fin 10, ∀ b : Fin 16, bits BinOp.or IntKind.u8 ((a.1 : Int) * 16) (b.1 : Int) = (a.1 : Int) * 16 + (b.1 : Int) := by decide
  have := key ⟨x.toNat, by omega⟩ ⟨y.toNat, by omega⟩
  simpa [Int.toNat_of_nonneg h1, Int.toNat_of_nonneg h3] using this
theorem Ow.empty {α : Type} [Flat α] (w : World) (e : TypeId) : Ow (w.alloc (.cells #[] e)) w.heap.size e (.slice (some ⟨w.heap.size, 0, none⟩) 0 0) ([] : List α) :=
  ⟨flat_len _, .inr ⟨w.heap.size, 0, #[], rfl, Nat.le_refl _, heap_alloc_new w _, Nat.le_refl _, Nat.zero_le _, by simp, by simp⟩⟩
theorem getD_at (s : ByteArray) (j : Nat) (h : j < s.size) : s.data.toList.getD j 0 = s[j] := by
  simp [List.getD, List.getElem?_eq_getElem (show j < s.data.toList.length by rw [size_list]; exact h)]; rfl

set_option maxHeartbeats 1000000 in
theorem pack_any (s : ByteArray) (w : World) (hs : s.size ≤ 1000) :
    Calls Try.prog 17 #[.string s] w (PackPost w s) := by
  have HM := Lib.hid (show s.size ≤ maxLen by unfold maxLen; omega)
  cases hv : valid s.data.toList
  · have HN := Lib.hid (PackPost.no (w := w) hv)
    go_enter Try.func17, Try.ntmps17
    go_wp2_with (go_at_call 16; refine (valid_any _ _ HM.out).mono ?_; rintro e w' ⟨rfl, rfl⟩)
    go_ret2
    exact HN.out
  · have HV := Lib.hid hv
    go_enter Try.func17, Try.ntmps17
    go_wp2_with (go_at_call 16; refine (valid_any _ _ HM.out).mono ?_; rintro e w' ⟨rfl, rfl⟩)
    clear hv
    go_loopw [4, 5] (fun v i wr => ∃ k j : Nat, j ≤ s.size + 1 ∧ Hid (j = 2 * k) ∧ i = .int .i64 j ∧ Ow wr w.heap.size 5 v (packK s.data.toList k) ∧ Below w.heap.size w wr) (fun _ i _ => s.size + 1 - (intOf i).toNat)
    case atStart => exact ⟨0, 0, by omega, Lib.hid rfl, rfl, Ow.nil_ _ _ _, Below.refl _ _⟩
    case round =>
      obtain ⟨k, j, hj, HJ, rfl, hown, hb⟩ := hrel
      have hzs := hb.size
      by_cases hlt : j < s.size
      · have hd := dig_at HV.out (k := j) (by rw [size_list]; exact hlt)
        rw [getD_at s j hlt] at hd
        obtain ⟨d1, d2⟩ := hd
        have i1 : (48 : Int) ≤ (s[j].toNat : Int) := by omega
        have i2 : (s[j].toNat : Int) ≤ 57 := by omega
        have hkl : k ≤ 1000 := by have := HJ.out; omega
        have hsl := Lib.hid (packK_len s.data.toList k)
        have HPN := Lib.hid (packAt_nat HV.out (k := k) (by rw [size_list]; have := HJ.out; omega))
        by_cases hlt2 : j + 1 < s.size
        · have he := dig_at HV.out (k := j + 1) (by rw [size_list]; exact hlt2)
          rw [getD_at s (j + 1) hlt2] at he
          obtain ⟨e1, e2⟩ := he
          have i3 : (48 : Int) ≤ (s[j + 1].toNat : Int) := by omega
          have i4 : (s[j + 1].toNat : Int) ≤ 57 := by omega
          have hX : bits BinOp.or IntKind.u8 (((s[j].toNat : Int) - 48) * 16) ((s[j + 1].toNat : Int) - 48) = ((packAt s.data.toList k).toNat : Int) := by
            have h1 := HPN.out
            rw [← HJ.out, size_list, if_pos hlt2, getD_at s j hlt, getD_at s (j + 1) hlt2] at h1
            rw [h1, bits_or _ _ (by omega) (by omega) (by omega) (by omega)]
            omega
          go_wp2_with (at_builtin; go_must (
                   refine wpl_append1 _ rfl (.tmp 26) (.tmp 34) 31 rfl w.heap.size 5 _ 1 Try.underlying31 info_u8 rfl u4 (packK s.data.toList k) rfl (hown.alloc _) _ (packAt s.data.toList k) rfl (fun j u hu => cells_new _ _ _ _ _ (by simp) u hu) (by rw [hsl.out]; omega) (by omega) (by (try simp) <;> omega) ?_
                   intro v1 w1 hown1 hu1
                   have hg1 := hu1.grew
                   clear hu1
                   have hz1 := hg1.size
                   simp at hz1
                   have hb1 := grown_below hown hg1 (w0 := w) (by (repeat (first | exact hb | exact Below.refl _ _ | (refine Below.alloc ?_ (by (try simp) <;> omega) _) | (refine Below.setCell ?_ (by (try simp) <;> omega) _) | refine Below.drew ?_ | refine below_drewN ?_ _))) (by (try simp) <;> omega)
                   clear hg1))
          go_roundw
          case rel => exact ⟨k + 1, j + 2, by omega, Lib.hid (by have := HJ.out; omega), by go_num, by rw [packK_succ]; exact hown1, hb1⟩
          case measure => simp [intOf]; omega

        · have hX : bits BinOp.or IntKind.u8 (((s[j].toNat : Int) - 48) * 16) 15 = ((packAt s.data.toList k).toNat : Int) := by
            have h1 := HPN.out
            rw [← HJ.out, size_list, if_neg hlt2, getD_at s j hlt] at h1
            rw [h1, bits_or _ _ (by omega) (by omega) (by omega) (by omega)]
            omega
          go_wp2_with (at_builtin; go_must (
                   refine wpl_append1 _ rfl (.tmp 26) (.tmp 34) 31 rfl w.heap.size 5 _ 1 Try.underlying31 info_u8 rfl u4 (packK s.data.toList k) rfl (hown.alloc _) _ (packAt s.data.toList k) rfl (fun j u hu => cells_new _ _ _ _ _ (by simp) u hu) (by rw [hsl.out]; omega) (by omega) (by (try simp) <;> omega) ?_
                   intro v1 w1 hown1 hu1
                   have hg1 := hu1.grew
                   clear hu1
                   have hz1 := hg1.size
                   simp at hz1
                   have hb1 := grown_below hown hg1 (w0 := w) (by (repeat (first | exact hb | exact Below.refl _ _ | (refine Below.alloc ?_ (by (try simp) <;> omega) _) | (refine Below.setCell ?_ (by (try simp) <;> omega) _) | refine Below.drew ?_ | refine below_drewN ?_ _))) (by (try simp) <;> omega)
                   clear hg1))
          go_roundw
          case rel => exact ⟨k + 1, j + 2, by omega, Lib.hid (by have := HJ.out; omega), by go_num, by rw [packK_succ]; exact hown1, hb1⟩
          case measure => simp [intOf]; omega

      · have hkk : k = (s.data.toList.length + 1) / 2 := by rw [size_list]; have := HJ.out; omega
        have HF := Lib.hid (PackPost.yes (v := u4) HV.out (by unfold packL; rw [← hkk]; exact hown) hb)
        clear hkk
        go_wp2_with fail
        go_ret2
        exact HF.out

set_option maxHeartbeats 1000000 in
theorem refpack_any (s : ByteArray) (w : World) (hs : s.size ≤ 1000) :
    Calls Try.prog 18 #[.string s] w (PackPost w s) := by
  have HM := Lib.hid (show s.size ≤ maxLen by unfold maxLen; omega)
  cases hv : valid s.data.toList
  · have HN := Lib.hid (PackPost.no (w := w) hv)
    go_enter Try.func18, Try.ntmps18
    go_wp2_with (go_at_call 23; refine (refvalid_any _ _ HM.out).mono ?_; rintro e w' ⟨rfl, rfl⟩)
    go_ret2
    exact HN.out
  · have HV := Lib.hid hv
    go_enter Try.func18, Try.ntmps18
    go_wp2_with (go_at_call 23; refine (refvalid_any _ _ HM.out).mono ?_; rintro e w' ⟨rfl, rfl⟩)
    clear hv
    go_loopw [4, 5] (fun v i wr => ∃ k j : Nat, j ≤ s.size + 1 ∧ Hid (j = 2 * k) ∧ i = .int .i64 j ∧ Ow wr w.heap.size 5 v (packK s.data.toList k) ∧ Below w.heap.size w wr) (fun _ i _ => s.size + 1 - (intOf i).toNat)
    case atStart => exact ⟨0, 0, by omega, Lib.hid rfl, rfl, Ow.empty _ _, (Below.refl _ _).alloc (Nat.le_refl _) _⟩
    case round =>
      obtain ⟨k, j, hj, HJ, rfl, hown, hb⟩ := hrel
      have hzs := hb.size
      by_cases hlt : j < s.size
      · have hd := dig_at HV.out (k := j) (by rw [size_list]; exact hlt)
        rw [getD_at s j hlt] at hd
        obtain ⟨d1, d2⟩ := hd
        have i1 : (48 : Int) ≤ (s[j].toNat : Int) := by omega
        have i2 : (s[j].toNat : Int) ≤ 57 := by omega
        have hkl : k ≤ 1000 := by have := HJ.out; omega
        have hsl := Lib.hid (packK_len s.data.toList k)
        have HPN := Lib.hid (packAt_nat HV.out (k := k) (by rw [size_list]; have := HJ.out; omega))
        by_cases hlt2 : j + 1 < s.size
        · have he := dig_at HV.out (k := j + 1) (by rw [size_list]; exact hlt2)
          rw [getD_at s (j + 1) hlt2] at he
          obtain ⟨e1, e2⟩ := he
          have i3 : (48 : Int) ≤ (s[j + 1].toNat : Int) := by omega
          have i4 : (s[j + 1].toNat : Int) ≤ 57 := by omega
          have hX : bits BinOp.or IntKind.u8 (((s[j].toNat : Int) - 48) * 16) ((s[j + 1].toNat : Int) - 48) = ((packAt s.data.toList k).toNat : Int) := by
            have h1 := HPN.out
            rw [← HJ.out, size_list, if_pos hlt2, getD_at s j hlt, getD_at s (j + 1) hlt2] at h1
            rw [h1, bits_or _ _ (by omega) (by omega) (by omega) (by omega)]
            omega
          go_wp2_with (at_builtin; go_must (
                   refine wpl_append1 _ rfl (.tmp 27) (.tmp 35) 31 rfl w.heap.size 5 _ 1 Try.underlying31 info_u8 rfl u4 (packK s.data.toList k) rfl (hown.alloc _) _ (packAt s.data.toList k) rfl (fun j u hu => cells_new _ _ _ _ _ (by simp) u hu) (by rw [hsl.out]; omega) (by omega) (by (try simp) <;> omega) ?_
                   intro v1 w1 hown1 hu1
                   have hg1 := hu1.grew
                   clear hu1
                   have hz1 := hg1.size
                   simp at hz1
                   have hb1 := grown_below hown hg1 (w0 := w) (by (repeat (first | exact hb | exact Below.refl _ _ | (refine Below.alloc ?_ (by (try simp) <;> omega) _) | (refine Below.setCell ?_ (by (try simp) <;> omega) _) | refine Below.drew ?_ | refine below_drewN ?_ _))) (by (try simp) <;> omega)
                   clear hg1))
          go_roundw
          case rel => exact ⟨k + 1, j + 2, by omega, Lib.hid (by have := HJ.out; omega), by go_num, by rw [packK_succ]; exact hown1, hb1⟩
          case measure => simp [intOf]; omega

        · have hX : bits BinOp.or IntKind.u8 (((s[j].toNat : Int) - 48) * 16) 15 = ((packAt s.data.toList k).toNat : Int) := by
            have h1 := HPN.out
            rw [← HJ.out, size_list, if_neg hlt2, getD_at s j hlt] at h1
            rw [h1, bits_or _ _ (by omega) (by omega) (by omega) (by omega)]
            omega
          go_wp2_with (at_builtin; go_must (
                   refine wpl_append1 _ rfl (.tmp 27) (.tmp 35) 31 rfl w.heap.size 5 _ 1 Try.underlying31 info_u8 rfl u4 (packK s.data.toList k) rfl (hown.alloc _) _ (packAt s.data.toList k) rfl (fun j u hu => cells_new _ _ _ _ _ (by simp) u hu) (by rw [hsl.out]; omega) (by omega) (by (try simp) <;> omega) ?_
                   intro v1 w1 hown1 hu1
                   have hg1 := hu1.grew
                   clear hu1
                   have hz1 := hg1.size
                   simp at hz1
                   have hb1 := grown_below hown hg1 (w0 := w) (by (repeat (first | exact hb | exact Below.refl _ _ | (refine Below.alloc ?_ (by (try simp) <;> omega) _) | (refine Below.setCell ?_ (by (try simp) <;> omega) _) | refine Below.drew ?_ | refine below_drewN ?_ _))) (by (try simp) <;> omega)
                   clear hg1))
          go_roundw
          case rel => exact ⟨k + 1, j + 2, by omega, Lib.hid (by have := HJ.out; omega), by go_num, by rw [packK_succ]; exact hown1, hb1⟩
          case measure => simp [intOf]; omega

      · have hkk : k = (s.data.toList.length + 1) / 2 := by rw [size_list]; have := HJ.out; omega
        have HF := Lib.hid (PackPost.yes (v := u4) HV.out (by unfold packL; rw [← hkk]; exact hown) hb)
        clear hkk
        go_wp2_with fail
        go_ret2
        exact HF.out

end Dg
end Go.Proofs.Ytohcdkkneikjmaa
