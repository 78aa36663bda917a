/-
  Dedup, the reference's Check. No condition.
-/
import Derived.Test.YtdcekckghlpamaaRows
import Derived.Test.YtdcekckghlpamaaDedA
import Derived.BigQuiet

namespace Go.Proofs.Ytdcekckghlpamaa
open Go.RowKit
namespace Dd

set_option maxHeartbeats 1000000 in
set_option linter.unusedSimpArgs false in


theorem refcheck_any (A : Option Addr) (n c : Nat) (xs : List Rng) (w : World) (h : Sl w A n c xs) :
    Calls Try.prog 20 #[.slice A n c] w fun e w' => e = .returned (.bool (canon xs)) ∧ Below w.heap.size w w' := by
  have hn := h.nmax
  have hlen := Lib.hid h.len
  go_enter Try.func20, Try.ntmps20
  go_wp2_with fail
  go_loopw [3] (fun i wr => ∃ k : Nat, k ≤ n ∧ i = .int .i64 k ∧ Below w.heap.size w wr ∧ ∀ j, j < k → okAt xs j = true) (fun i _ => n - (intOf i).toNat)
  case atStart => exact ⟨0, Nat.zero_le _, rfl, Below.refl _ _, fun _ h => absurd h (by omega)⟩
  case round =>
    obtain ⟨k, hk, rfl, hb, hok⟩ := hrel
    have HOK := Lib.hid hok
    clear hok
    have hs := hb.size
    by_cases hlt : k < n
    · obtain ⟨b, off, rfl, hbw, hc⟩ := (h.below hb).base (by omega)
      obtain ⟨r, hr⟩ := h.get hlt
      have c0 : wr.cell? ⟨b, off + k * 3, none⟩ = some (.int .i64 r.src) := Sl.at_ hc hr 0 rfl
      have c1 : wr.cell? ⟨b, off + k * 3 + 1, none⟩ = some (.int .i64 r.lo) := Sl.at_ hc hr 1 rfl
      have c2 : wr.cell? ⟨b, off + k * 3 + 2, none⟩ = some (.int .i64 r.hi) := Sl.at_ hc hr 2 rfl
      by_cases h0 : 0 < k
      · obtain ⟨p, hp⟩ := h.get (k := k - 1) (by omega)
        have d0 : wr.cell? ⟨b, off + (k - 1) * 3, none⟩ = some (.int .i64 p.src) := Sl.at_ hc hp 0 rfl
        have d1 : wr.cell? ⟨b, off + (k - 1) * 3 + 1, none⟩ = some (.int .i64 p.lo) := Sl.at_ hc hp 1 rfl
        have d2 : wr.cell? ⟨b, off + (k - 1) * 3 + 2, none⟩ = some (.int .i64 p.hi) := Sl.at_ hc hp 2 rfl
        have hph : p.hi ≤ 999999999 ∧ 1 ≤ p.hi := by
          have := HOK.out (k - 1) (by omega)
          rw [okAt_some hp] at this
          exact okR_hi this
        obtain ⟨hp1, hp2⟩ := hph
        have hat : okAt xs k = okR (some p) r := by rw [okAt_some hr, if_neg (by omega), hp]
        have HAT := Lib.hid hat
        clear hat hp hr hc
        go_wp2_with (first | (go_at_call 29; refine (refidentity_any _ _ _).mono ?_; rintro e w' ⟨rfl, rfl⟩) | ((with_reducible refine wp_region_quiet_lit ?_ ?_ ?_); kernel_rfl; kernel_rfl; (repeat (any_goals (first | go_big_quiet_step (fail) | (refine wpQuiet_step (fun K hK => ?_); go_simp; (first | (refine hK _ ?_; clear hK K) | (split <;> rename_i hg <;> (refine hK _ ?_; clear hK K) <;> (try simp only [Bool.not_eq_true] at hg) <;> (first | simp only [Int.not_lt.2 hg, decide_false] | simp only [Int.not_le.1 hg, decide_true] | simp only [hg, decide_true, decide_false] | skip))))))); all_goals (refine wpQuiet_nil ?_; intro _ hw'; obtain ⟨nq, hw''⟩ := hw'; subst hw'')))
        all_goals first
          | (go_ret
             refine ⟨ret_bool (allB_false (k := k) (by rw [hlen.out]; exact hlt) ?_).symm, ?_⟩
             · rw [HAT.out, Bool.eq_false_iff]; intro hh; have hh := okR_iff.1 hh; clear HAT HOK; simp_all; try omega
             · (repeat (first | exact hb | exact Below.refl _ _ | (refine Below.alloc ?_ (by (try simp) <;> omega) _) | (refine Below.setCell ?_ (by (try simp) <;> omega) _) | refine Below.drew ?_ | refine below_drewN ?_ _)))
          | (go_roundw
             case rel =>
               refine ⟨k + 1, by omega, by go_num, ?_, fun j hj => ?_⟩
               · (repeat (first | exact hb | exact Below.refl _ _ | (refine Below.alloc ?_ (by (try simp) <;> omega) _) | (refine Below.setCell ?_ (by (try simp) <;> omega) _) | refine Below.drew ?_ | refine below_drewN ?_ _))
               · by_cases hjk : j < k
                 · exact HOK.out j hjk
                 · obtain rfl : j = k := by omega
                   rw [HAT.out]; exact okR_iff.2 ⟨by assumption, by assumption, by assumption, by omega, by omega⟩
             case measure => simp [intOf]; omega)
      · have hk0 : k ≤ 0 := by omega
        clear h0
        have hd0 : decide (0 < k) = false := decide_eq_false (by omega)
        have hat : okAt xs k = okR none r := by rw [okAt_some hr, if_pos (by omega)]
        have HAT := Lib.hid hat
        clear hat hr hc
        go_wp2_with (first | (go_at_call 29; refine (refidentity_any _ _ _).mono ?_; rintro e w' ⟨rfl, rfl⟩) | ((with_reducible refine wp_region_quiet_lit ?_ ?_ ?_); kernel_rfl; kernel_rfl; (repeat (any_goals (first | go_big_quiet_step (fail) | (refine wpQuiet_step (fun K hK => ?_); go_simp; (first | (refine hK _ ?_; clear hK K) | (split <;> rename_i hg <;> (refine hK _ ?_; clear hK K) <;> (try simp only [Bool.not_eq_true] at hg) <;> (first | simp only [Int.not_lt.2 hg, decide_false] | simp only [Int.not_le.1 hg, decide_true] | simp only [hg, decide_true, decide_false] | skip))))))); all_goals (refine wpQuiet_nil ?_; intro _ hw'; obtain ⟨nq, hw''⟩ := hw'; subst hw'')))
        all_goals first
          | (go_ret
             refine ⟨ret_bool (allB_false (k := k) (by rw [hlen.out]; exact hlt) ?_).symm, ?_⟩
             · rw [HAT.out, Bool.eq_false_iff]; intro hh; have hh := okR_iff0.1 hh; clear HAT HOK; simp_all; try omega
             · (repeat (first | exact hb | exact Below.refl _ _ | (refine Below.alloc ?_ (by (try simp) <;> omega) _) | (refine Below.setCell ?_ (by (try simp) <;> omega) _) | refine Below.drew ?_ | refine below_drewN ?_ _)))
          | (go_roundw
             case rel =>
               refine ⟨k + 1, by omega, by go_num, ?_, fun j hj => ?_⟩
               · (repeat (first | exact hb | exact Below.refl _ _ | (refine Below.alloc ?_ (by (try simp) <;> omega) _) | (refine Below.setCell ?_ (by (try simp) <;> omega) _) | refine Below.drew ?_ | refine below_drewN ?_ _))
               · obtain rfl : j = k := by omega
                 rw [HAT.out]; exact okR_iff0.2 ⟨by assumption, by assumption, by assumption⟩
             case measure => simp [intOf]; omega)
    · obtain rfl : n = k := by omega
      go_wp2_with fail
      go_ret
      exact ⟨ret_bool (allB_true (by rw [hlen.out]; exact HOK.out)).symm, hb⟩


end Dd
end Go.Proofs.Ytdcekckghlpamaa
