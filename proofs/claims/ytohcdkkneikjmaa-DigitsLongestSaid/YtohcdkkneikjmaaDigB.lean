/-
  Digits: Compare and the reference's. No condition.
-/
import Derived.Test.YtohcdkkneikjmaaRows
import Derived.Test.YtohcdkkneikjmaaDigC
import Derived.Test.YtohcdkkneikjmaaDigA
import Derived.BigQuiet
import Derived.StillTailTactics
import Derived.Lib.Overlaps
import Derived.Deep.DeepCutAuto
import Derived.ChangeKeysEq
set_option maxRecDepth 100000
set_option linter.unusedVariables false
set_option linter.unusedSimpArgs false
namespace Go.Proofs.Ytohcdkkneikjmaa
open Go.RowKit

namespace Dg

theorem flip {f : FuncId} {args : Array Value} {w : World} {v : Value} (h : Calls Try.prog f args w fun e w' => e = .returned v ∧ w = w') : Calls Try.prog f args w fun e w' => e = .returned v ∧ w' = w :=
  h.mono fun _ _ ⟨h1, h2⟩ => ⟨h1, h2.symm⟩
theorem eql_key (n m : Int) (a b : ByteArray) (w : World) :
    (binOp .eql 43 (.agg #[.int .i64 n, .string a]) (.agg #[.int .i64 m, .string b])).run Try.prog w = .ok (.bool (decide (n = m) && (a.toList == b.toList))) w := by
  have u3 := Try.underlying3
  have ia := Try.isAgg3
  have z3 := Try.sizeOf3
  have u4 := Try.underlying9
  have ib := Try.isAgg9
  have z4 := Try.sizeOf9
  have hS : Try.prog.underlying 43 = some (.struct (Try.prog.fieldsOf 43)) := by kernel_rfl
  have hp : Try.prog.stoodInHeld 43 = false := by kernel_rfl
  simp only [binOp, Op.equal, Op.maxDepth, Sem.run_bind]
  rw [show (10000 : Nat) = 9999 + 1 from rfl, run_equalIn_struct w 9999 43 _ _ hS hp]
  simp only [Program.fieldsOf, Try.underlying43]
  go_simp
  by_cases h1 : n = m <;> by_cases h2 : a.toList = b.toList <;> simp [h1, h2]

theorem cmp_or (a b : ByteArray) (h : a ≠ b) : orI (cmpI a.size b.size) (cmpS a.data.toList b.data.toList) = cmpL a.data.toList b.data.toList := by
  unfold orI cmpI cmpS cmpL
  rw [size_list, size_list]
  by_cases h1 : a.size < b.size
  · rw [if_pos h1]; simp [h1]
  · by_cases h2 : b.size < a.size
    · rw [if_neg h1, if_pos h2]; simp [h1, h2]
    · rw [if_neg h1, if_neg h2]
      have e1 : ¬ ((a.size : Int) < b.size) := by omega
      have e2 : ¬ ((b.size : Int) < a.size) := by omega
      simp [e1, e2]

set_option maxHeartbeats 1000000 in
theorem compare_any (a b : ByteArray) (w : World) (ha : a.size ≤ maxLen) (hb : b.size ≤ maxLen) :
    Calls Try.prog 25 #[.string a, .string b] w fun e w' => e = .returned (.int .i64 (cmpL a.data.toList b.data.toList)) ∧ Below w.heap.size w w' := by
  unfold maxLen at ha hb
  by_cases he : a = b
  · subst he
    have H := Lib.hid ((cmp_zero a.data.toList a.data.toList).2 rfl)
    have hq : ∀ w, (binOp .eql 43 (.agg #[.int .i64 (a.size : Int), .string a]) (.agg #[.int .i64 (a.size : Int), .string a])).run Try.prog w = .ok (.bool true) w := fun w => by rw [eql_key]; simp
    go_enter Try.func25, Try.ntmps25
    go_wp2_with fail
    go_ret
    exact ⟨ret_int H.out.symm, by (repeat (first | exact Below.refl _ _ | exact Below.refl _ _ | (refine Below.alloc ?_ (by (try simp) <;> omega) _) | (refine Below.setCell ?_ (by (try simp) <;> omega) _) | refine Below.drew ?_ | refine below_drewN ?_ _))⟩
  · have H := Lib.hid (cmp_or a b he)
    have hq : ∀ w, (binOp .eql 43 (.agg #[.int .i64 (a.size : Int), .string a]) (.agg #[.int .i64 (b.size : Int), .string b])).run Try.prog w = .ok (.bool false) w := fun w => by
      rw [eql_key]
      have : (a.toList == b.toList) = false := by
        rw [beq_eq_false_iff_ne, Lib.toList_data, Lib.toList_data]
        exact fun e => he (ba_ext e)
      rw [this]; simp
    clear he
    go_enter Try.func25, Try.ntmps25
    go_wp2_with fail
    have hbl : Below w.heap.size w ((w.alloc (.cells #[.int .i64 (a.size : Int), .string a] 43)).alloc (.cells #[.int .i64 (b.size : Int), .string b] 43)) := ((Below.refl _ _).alloc (Nat.le_refl _) _).alloc (by simp) _
    have hb2 : Below (w.heap.size + 1) (w.alloc (.cells #[.int .i64 (a.size : Int), .string a] 43)) ((w.alloc (.cells #[.int .i64 (a.size : Int), .string a] 43)).alloc (.cells #[.int .i64 (b.size : Int), .string b] 43)) := (Below.refl _ _).alloc (by simp) _
    have q0 : ((w.alloc (.cells #[.int .i64 (a.size : Int), .string a] 43)).alloc (.cells #[.int .i64 (b.size : Int), .string b] 43)).cell? ⟨w.heap.size, 0, none⟩ = some (.int .i64 (a.size : Int)) := (hb2.cell (p := ⟨_, _, none⟩) (by simp)).trans (cells_new _ _ _ _ 0 rfl _ rfl)
    have q1 : ((w.alloc (.cells #[.int .i64 (a.size : Int), .string a] 43)).alloc (.cells #[.int .i64 (b.size : Int), .string b] 43)).cell? ⟨w.heap.size, 1, none⟩ = some (.string a) := (hb2.cell (p := ⟨_, _, none⟩) (by simp)).trans (cells_new _ _ _ _ 1 rfl _ rfl)
    have q2 : ((w.alloc (.cells #[.int .i64 (a.size : Int), .string a] 43)).alloc (.cells #[.int .i64 (b.size : Int), .string b] 43)).cell? ⟨w.heap.size + 1, 0, none⟩ = some (.int .i64 (b.size : Int)) := cells_new _ _ _ _ 0 (by simp) _ rfl
    have q3 : ((w.alloc (.cells #[.int .i64 (a.size : Int), .string a] 43)).alloc (.cells #[.int .i64 (b.size : Int), .string b] 43)).cell? ⟨w.heap.size + 1, 1, none⟩ = some (.string b) := cells_new _ _ _ _ 1 (by simp) _ rfl
    clear hb2
    generalize ((w.alloc (.cells #[.int .i64 (a.size : Int), .string a] 43)).alloc (.cells #[.int .i64 (b.size : Int), .string b] 43)) = w1 at *
    refine wp_region_still_tail 10 (by kernel_rfl) (by kernel_rfl) ?_
    simp only [List.take_succ_cons, List.take_zero, List.drop_succ_cons, List.drop_zero]
    change wpStill _ _ w1.drew _ _ _
    repeat still_step
    still_call (flip (cmpI_any _ _ _))
    repeat still_step
    still_call (flip (cmpS_any _ _ _))
    refine wpStill_nil ?_
    generalize cmpI a.size b.size = x at *
    generalize cmpS a.data.toList b.data.toList = y at *
    go_wp2_with fail
    refine (or_any w1.heap.size x y _ ?_ ?_).mono ?_
    · exact cells_new w1 #[.int .i64 x, .int .i64 y] 3 _ 0 rfl _ rfl
    · exact cells_new w1 #[.int .i64 x, .int .i64 y] 3 _ 1 rfl _ rfl
    rintro e w' ⟨rfl, rfl⟩
    have hz := hbl.size
    go_wp2_with fail
    go_ret
    exact ⟨ret_int H.out, by (repeat (first | exact hbl | exact Below.refl _ _ | (refine Below.alloc ?_ (by (try simp) <;> omega) _) | (refine Below.setCell ?_ (by (try simp) <;> omega) _) | refine Below.drew ?_ | refine below_drewN ?_ _))⟩

set_option maxHeartbeats 400000 in
theorem refcompare_any (a b : ByteArray) (w : World) (ha : a.size ≤ maxLen) (hb : b.size ≤ maxLen) :
    Calls Try.prog 26 #[.string a, .string b] w fun e w' => e = .returned (.int .i64 (cmpL a.data.toList b.data.toList)) ∧ w = w' := by
  unfold maxLen at ha hb
  have hla := size_list a
  have hlb := size_list b
  by_cases h1 : a.size < b.size
  · have H := Lib.hid (show cmpL a.data.toList b.data.toList = -1 by unfold cmpL; rw [hla, hlb, if_pos h1])
    clear hla hlb
    go_enter Try.func26, Try.ntmps26
    go_wp2_with fail
    go_ret
    exact ⟨ret_int H.out.symm, rfl⟩
  · by_cases h2 : b.size < a.size
    · have H := Lib.hid (show cmpL a.data.toList b.data.toList = 1 by unfold cmpL; rw [hla, hlb, if_neg h1, if_pos h2])
      clear hla hlb
      go_enter Try.func26, Try.ntmps26
      go_wp2_with fail
      go_ret
      exact ⟨ret_int H.out.symm, rfl⟩
    · generalize hr : cmpL a.data.toList b.data.toList = r
      have HR : Hid (r = if Go.Op.bytesLess a.toList b.toList = true then -1 else if Go.Op.bytesLess b.toList a.toList = true then 1 else 0) := by
        rw [← hr, Lib.toList_data, Lib.toList_data]; unfold cmpL; rw [hla, hlb, if_neg h1, if_neg h2]; exact Lib.hid rfl
      clear hr hla hlb
      cases h3 : Go.Op.bytesLess a.toList b.toList
      · cases h4 : (a.toList == b.toList)
        · have h5 : a.toList ≠ b.toList := by simpa using h4
          have h6 : Go.Op.bytesLess b.toList a.toList = true := by
            cases h6 : Go.Op.bytesLess b.toList a.toList
            · exact absurd (less_total _ _ h3 h6) h5
            · rfl
          have H := Lib.hid (show r = 1 by rw [HR.out]; simp [h3, h6])
          clear h6
          go_enter Try.func26, Try.ntmps26
          go_wp2_with fail
          all_goals (go_ret; exact ⟨ret_int H.out.symm, rfl⟩)
        · have h5 : a.toList = b.toList := by simpa using h4
          have H := Lib.hid (show r = 0 by rw [HR.out, h5]; simp [less_irrefl])
          clear h5
          go_enter Try.func26, Try.ntmps26
          go_wp2_with fail
          all_goals (go_ret; exact ⟨ret_int H.out.symm, rfl⟩)
      · have H := Lib.hid (show r = -1 by rw [HR.out]; simp [h3])
        go_enter Try.func26, Try.ntmps26
        go_wp2_with fail
        all_goals (go_ret; exact ⟨ret_int H.out.symm, rfl⟩)

end Dg
end Go.Proofs.Ytohcdkkneikjmaa
