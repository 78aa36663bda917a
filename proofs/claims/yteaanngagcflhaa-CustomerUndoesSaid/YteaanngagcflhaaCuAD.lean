/-
  Customers: the reference's ofAccount, ofSub, Fault. No condition.
-/
import Derived.Test.YteaanngagcflhaaCuAC
import Derived.Test.YteaanngagcflhaaCuG
import Derived.BigQuiet
import Derived.StillTailTactics
import Derived.Lib.Overlaps
import Derived.Deep.DeepCutAuto
import Derived.Deep.RegionWith
import Derived.Laws.RangeAny
import Derived.Deep.RegionHeld
import Derived.Deep.RegionHeldLaw
set_option maxRecDepth 100000
set_option linter.unusedVariables false
set_option linter.unusedSimpArgs false
namespace Go.Proofs.Yteaanngagcflhaa
open Go.RowKit

namespace Cu
set_option maxHeartbeats 16000000 in
theorem rofAcc_any (Aa : Option Addr) (na ca : Nat) (As : Option Addr) (ns cs : Nat) (Ae : Option Addr) (ne ce : Nat) (b : Bk) (at_ K acc sub val : Int) (num name : ByteArray) (w : World) (h : BR w Aa na ca As ns cs Ae ne ce b) :
    Calls Try.prog 104 #[.agg #[.slice Aa na ca, .slice As ns cs, .slice Ae ne ce], .agg #[.int .i64 at_, .int .i64 K, .int .i64 acc, .int .i64 sub, .string num, .string name, .int .i64 val]] w fun r w' => r = .returned (.int .i64 (ofAcc b ⟨at_, K, acc, sub, num, name, val⟩)) ∧ Below w.heap.size w w' := by
  have HB := Lib.hid h
  have hnm := h.a.nmax
  have hnms := h.s.2.choose_spec.1.nmax
  clear h
  go_enter Try.func104, Try.ntmps104
  go_upto_region 1 with (fail)
  (obtain ⟨V, hWV, hbV, hzV, f1V, f2V, qfa, qfb⟩ := box2 w #[.slice Aa na ca, .slice As ns cs, .slice Ae ne ce] 99 #[.int .i64 at_, .int .i64 K, .int .i64 acc, .int .i64 sub, .string num, .string name, .int .i64 val] 36; rw [← hWV]; have qa0 : V.cell? ⟨w.heap.size, 0, none⟩ = some (.slice Aa na ca) := f1V 0 _ rfl; have qa1 : V.cell? ⟨w.heap.size, 1, none⟩ = some (.slice As ns cs) := f1V 1 _ rfl; have qa2 : V.cell? ⟨w.heap.size, 2, none⟩ = some (.slice Ae ne ce) := f1V 2 _ rfl; have qb0 : V.cell? ⟨w.heap.size + 1, 0, none⟩ = some (.int .i64 at_) := f2V 0 _ rfl; have qb1 : V.cell? ⟨w.heap.size + 1, 1, none⟩ = some (.int .i64 K) := f2V 1 _ rfl; have qb2 : V.cell? ⟨w.heap.size + 1, 2, none⟩ = some (.int .i64 acc) := f2V 2 _ rfl; have qb3 : V.cell? ⟨w.heap.size + 1, 3, none⟩ = some (.int .i64 sub) := f2V 3 _ rfl; have qb4 : V.cell? ⟨w.heap.size + 1, 4, none⟩ = some (.string num) := f2V 4 _ rfl; have qb5 : V.cell? ⟨w.heap.size + 1, 5, none⟩ = some (.string name) := f2V 5 _ rfl; have qb6 : V.cell? ⟨w.heap.size + 1, 6, none⟩ = some (.int .i64 val) := f2V 6 _ rfl; clear hWV f1V f2V)
  have HBV := Lib.hid (HB.out.on hbV)
  have hg0 : w.heap.size < V.heap.size := by omega
  have hg1 : w.heap.size + 1 < V.heap.size := hzV
  clear hzV qfa qfb
  rcases idxL_cases Ac.id b.accs acc with ⟨hi, hf⟩ | ⟨k, ac, hi, hk, hx, hf, hid, _⟩
  · have HI := Lib.hid hi
    have HF := Lib.hid (show findA b acc = none from hf)
    clear hi hf
    by_cases hK1 : K = 1
    · subst hK1
      have HQ := Lib.hid (show ofAcc b ⟨at_, 1, acc, sub, num, name, val⟩ = 0 by unfold ofAcc; simp [HF.out])
      go_wp2_with (go_at_call 79; go_must (refine (raccount_any _ _ _ _ _ _ _ _ _ b acc _ HBV.out).mono ?_; rintro r w5 ⟨rfl, hk5⟩; rw [HI.out]; replace qa0 := (hk5.cell (p := ⟨_, _, none⟩) (by (try dsimp only) <;> omega)).trans qa0; replace qa1 := (hk5.cell (p := ⟨_, _, none⟩) (by (try dsimp only) <;> omega)).trans qa1; replace qa2 := (hk5.cell (p := ⟨_, _, none⟩) (by (try dsimp only) <;> omega)).trans qa2; replace qb0 := (hk5.cell (p := ⟨_, _, none⟩) (by (try dsimp only) <;> omega)).trans qb0; replace qb1 := (hk5.cell (p := ⟨_, _, none⟩) (by (try dsimp only) <;> omega)).trans qb1; replace qb2 := (hk5.cell (p := ⟨_, _, none⟩) (by (try dsimp only) <;> omega)).trans qb2; replace qb3 := (hk5.cell (p := ⟨_, _, none⟩) (by (try dsimp only) <;> omega)).trans qb3; replace qb4 := (hk5.cell (p := ⟨_, _, none⟩) (by (try dsimp only) <;> omega)).trans qb4; replace qb5 := (hk5.cell (p := ⟨_, _, none⟩) (by (try dsimp only) <;> omega)).trans qb5; replace qb6 := (hk5.cell (p := ⟨_, _, none⟩) (by (try dsimp only) <;> omega)).trans qb6; have hbw5 := hbV.trans (hk5.mono hbV.size); have HBw5 := Lib.hid (HBV.out.on hk5); replace hg0 := Nat.lt_of_lt_of_le hg0 hk5.size; replace hg1 := Nat.lt_of_lt_of_le hg1 hk5.size; clear hk5))
      go_ret
      exact ⟨by rw [HQ.out]; rfl, hbw5⟩
    · have HQ := Lib.hid (show ofAcc b ⟨at_, K, acc, sub, num, name, val⟩ = 11 by unfold ofAcc; simp [HF.out, hK1])
      go_wp2_with (go_at_call 79; go_must (refine (raccount_any _ _ _ _ _ _ _ _ _ b acc _ HBV.out).mono ?_; rintro r w5 ⟨rfl, hk5⟩; rw [HI.out]; replace qa0 := (hk5.cell (p := ⟨_, _, none⟩) (by (try dsimp only) <;> omega)).trans qa0; replace qa1 := (hk5.cell (p := ⟨_, _, none⟩) (by (try dsimp only) <;> omega)).trans qa1; replace qa2 := (hk5.cell (p := ⟨_, _, none⟩) (by (try dsimp only) <;> omega)).trans qa2; replace qb0 := (hk5.cell (p := ⟨_, _, none⟩) (by (try dsimp only) <;> omega)).trans qb0; replace qb1 := (hk5.cell (p := ⟨_, _, none⟩) (by (try dsimp only) <;> omega)).trans qb1; replace qb2 := (hk5.cell (p := ⟨_, _, none⟩) (by (try dsimp only) <;> omega)).trans qb2; replace qb3 := (hk5.cell (p := ⟨_, _, none⟩) (by (try dsimp only) <;> omega)).trans qb3; replace qb4 := (hk5.cell (p := ⟨_, _, none⟩) (by (try dsimp only) <;> omega)).trans qb4; replace qb5 := (hk5.cell (p := ⟨_, _, none⟩) (by (try dsimp only) <;> omega)).trans qb5; replace qb6 := (hk5.cell (p := ⟨_, _, none⟩) (by (try dsimp only) <;> omega)).trans qb6; have hbw5 := hbV.trans (hk5.mono hbV.size); have HBw5 := Lib.hid (HBV.out.on hk5); replace hg0 := Nat.lt_of_lt_of_le hg0 hk5.size; replace hg1 := Nat.lt_of_lt_of_le hg1 hk5.size; clear hk5))
      go_ret
      exact ⟨by rw [HQ.out]; rfl, hbw5⟩
  · have HI := Lib.hid hi
    have HF := Lib.hid (show findA b acc = some ac from hf)
    have HX := Lib.hid hx
    have hkn : k < na := by have := HB.out.a.len; omega
    clear hi hf hid hx hk
    by_cases hK1 : K = 1
    · subst hK1
      have HQ := Lib.hid (show ofAcc b ⟨at_, 1, acc, sub, num, name, val⟩ = 10 by unfold ofAcc; simp [HF.out])
      have hk0 : (0 : Int) ≤ (k : Int) := by omega
      go_wp2_with (go_at_call 79; go_must (refine (raccount_any _ _ _ _ _ _ _ _ _ b acc _ HBV.out).mono ?_; rintro r w5 ⟨rfl, hk5⟩; rw [HI.out]; replace qa0 := (hk5.cell (p := ⟨_, _, none⟩) (by (try dsimp only) <;> omega)).trans qa0; replace qa1 := (hk5.cell (p := ⟨_, _, none⟩) (by (try dsimp only) <;> omega)).trans qa1; replace qa2 := (hk5.cell (p := ⟨_, _, none⟩) (by (try dsimp only) <;> omega)).trans qa2; replace qb0 := (hk5.cell (p := ⟨_, _, none⟩) (by (try dsimp only) <;> omega)).trans qb0; replace qb1 := (hk5.cell (p := ⟨_, _, none⟩) (by (try dsimp only) <;> omega)).trans qb1; replace qb2 := (hk5.cell (p := ⟨_, _, none⟩) (by (try dsimp only) <;> omega)).trans qb2; replace qb3 := (hk5.cell (p := ⟨_, _, none⟩) (by (try dsimp only) <;> omega)).trans qb3; replace qb4 := (hk5.cell (p := ⟨_, _, none⟩) (by (try dsimp only) <;> omega)).trans qb4; replace qb5 := (hk5.cell (p := ⟨_, _, none⟩) (by (try dsimp only) <;> omega)).trans qb5; replace qb6 := (hk5.cell (p := ⟨_, _, none⟩) (by (try dsimp only) <;> omega)).trans qb6; have hbw5 := hbV.trans (hk5.mono hbV.size); have HBw5 := Lib.hid (HBV.out.on hk5); replace hg0 := Nat.lt_of_lt_of_le hg0 hk5.size; replace hg1 := Nat.lt_of_lt_of_le hg1 hk5.size; clear hk5))
      go_ret
      exact ⟨by rw [HQ.out]; rfl, hbw5⟩
    · have hk0 : ¬ ((k : Int) < 0) := by omega
      go_upto_region 8 with (go_at_call 79; go_must (refine (raccount_any _ _ _ _ _ _ _ _ _ b acc _ HBV.out).mono ?_; rintro r w5 ⟨rfl, hk5⟩; rw [HI.out]; replace qa0 := (hk5.cell (p := ⟨_, _, none⟩) (by (try dsimp only) <;> omega)).trans qa0; replace qa1 := (hk5.cell (p := ⟨_, _, none⟩) (by (try dsimp only) <;> omega)).trans qa1; replace qa2 := (hk5.cell (p := ⟨_, _, none⟩) (by (try dsimp only) <;> omega)).trans qa2; replace qb0 := (hk5.cell (p := ⟨_, _, none⟩) (by (try dsimp only) <;> omega)).trans qb0; replace qb1 := (hk5.cell (p := ⟨_, _, none⟩) (by (try dsimp only) <;> omega)).trans qb1; replace qb2 := (hk5.cell (p := ⟨_, _, none⟩) (by (try dsimp only) <;> omega)).trans qb2; replace qb3 := (hk5.cell (p := ⟨_, _, none⟩) (by (try dsimp only) <;> omega)).trans qb3; replace qb4 := (hk5.cell (p := ⟨_, _, none⟩) (by (try dsimp only) <;> omega)).trans qb4; replace qb5 := (hk5.cell (p := ⟨_, _, none⟩) (by (try dsimp only) <;> omega)).trans qb5; replace qb6 := (hk5.cell (p := ⟨_, _, none⟩) (by (try dsimp only) <;> omega)).trans qb6; have hbw5 := hbV.trans (hk5.mono hbV.size); have HBw5 := Lib.hid (HBV.out.on hk5); replace hg0 := Nat.lt_of_lt_of_le hg0 hk5.size; replace hg1 := Nat.lt_of_lt_of_le hg1 hk5.size; clear hk5))
      obtain ⟨b0, off, hAe, hbl, hcells⟩ := HBw5.out.a.base (by omega)
      have e3 : w5.cell? ⟨b0, off + k * 6 + 3, none⟩ = some (.bool ac.prepaid) := Sl.at_ hcells HX.out 3 rfl
      have e4 : w5.cell? ⟨b0, off + k * 6 + 4, none⟩ = some (.bool ac.closed) := Sl.at_ hcells HX.out 4 rfl
      subst hAe
      clear hcells
      cases hcl : ac.closed
      · rw [hcl] at e4
        go_upto_region 10 with (fail)
        by_cases hK3 : K = 3
        · subst hK3
          rcases idxL_cases Sb.id b.subs sub with ⟨hi, hf⟩ | ⟨k2, sb, hi, hk2, hx2, hf, hid, _⟩
          · have HJ := Lib.hid hi
            have HQ := Lib.hid (show ofAcc b ⟨at_, 3, acc, sub, num, name, val⟩ = 0 by unfold ofAcc; simp [HF.out, hcl, show findS b sub = none from hf])
            clear hi hf hK1
            go_wp2_with (go_at_call 77; go_must (refine (rsub_any _ _ _ _ _ _ _ _ _ b sub _ HBw5.out).mono ?_; rintro r w6 ⟨rfl, hk5⟩; rw [HJ.out]; replace qa0 := (hk5.cell (p := ⟨_, _, none⟩) (by (try dsimp only) <;> omega)).trans qa0; replace qa1 := (hk5.cell (p := ⟨_, _, none⟩) (by (try dsimp only) <;> omega)).trans qa1; replace qa2 := (hk5.cell (p := ⟨_, _, none⟩) (by (try dsimp only) <;> omega)).trans qa2; replace qb0 := (hk5.cell (p := ⟨_, _, none⟩) (by (try dsimp only) <;> omega)).trans qb0; replace qb1 := (hk5.cell (p := ⟨_, _, none⟩) (by (try dsimp only) <;> omega)).trans qb1; replace qb2 := (hk5.cell (p := ⟨_, _, none⟩) (by (try dsimp only) <;> omega)).trans qb2; replace qb3 := (hk5.cell (p := ⟨_, _, none⟩) (by (try dsimp only) <;> omega)).trans qb3; replace qb4 := (hk5.cell (p := ⟨_, _, none⟩) (by (try dsimp only) <;> omega)).trans qb4; replace qb5 := (hk5.cell (p := ⟨_, _, none⟩) (by (try dsimp only) <;> omega)).trans qb5; replace qb6 := (hk5.cell (p := ⟨_, _, none⟩) (by (try dsimp only) <;> omega)).trans qb6; have hbw6 := hbw5.trans (hk5.mono hbw5.size); have HBw6 := Lib.hid (HBw5.out.on hk5); replace hg0 := Nat.lt_of_lt_of_le hg0 hk5.size; replace hg1 := Nat.lt_of_lt_of_le hg1 hk5.size; clear hk5))
            go_ret
            exact ⟨by rw [HQ.out]; rfl, hbw6⟩
          · have HJ := Lib.hid hi
            have HQ := Lib.hid (show ofAcc b ⟨at_, 3, acc, sub, num, name, val⟩ = 10 by unfold ofAcc; simp [HF.out, hcl, show findS b sub = some sb from hf])
            have hk20 : (0 : Int) ≤ (k2 : Int) := by omega
            clear hi hf hid hx2 hK1
            go_wp2_with (go_at_call 77; go_must (refine (rsub_any _ _ _ _ _ _ _ _ _ b sub _ HBw5.out).mono ?_; rintro r w6 ⟨rfl, hk5⟩; rw [HJ.out]; replace qa0 := (hk5.cell (p := ⟨_, _, none⟩) (by (try dsimp only) <;> omega)).trans qa0; replace qa1 := (hk5.cell (p := ⟨_, _, none⟩) (by (try dsimp only) <;> omega)).trans qa1; replace qa2 := (hk5.cell (p := ⟨_, _, none⟩) (by (try dsimp only) <;> omega)).trans qa2; replace qb0 := (hk5.cell (p := ⟨_, _, none⟩) (by (try dsimp only) <;> omega)).trans qb0; replace qb1 := (hk5.cell (p := ⟨_, _, none⟩) (by (try dsimp only) <;> omega)).trans qb1; replace qb2 := (hk5.cell (p := ⟨_, _, none⟩) (by (try dsimp only) <;> omega)).trans qb2; replace qb3 := (hk5.cell (p := ⟨_, _, none⟩) (by (try dsimp only) <;> omega)).trans qb3; replace qb4 := (hk5.cell (p := ⟨_, _, none⟩) (by (try dsimp only) <;> omega)).trans qb4; replace qb5 := (hk5.cell (p := ⟨_, _, none⟩) (by (try dsimp only) <;> omega)).trans qb5; replace qb6 := (hk5.cell (p := ⟨_, _, none⟩) (by (try dsimp only) <;> omega)).trans qb6; have hbw6 := hbw5.trans (hk5.mono hbw5.size); have HBw6 := Lib.hid (HBw5.out.on hk5); replace hg0 := Nat.lt_of_lt_of_le hg0 hk5.size; replace hg1 := Nat.lt_of_lt_of_le hg1 hk5.size; clear hk5))
            go_ret
            exact ⟨by rw [HQ.out]; rfl, hbw6⟩
        · by_cases hK2 : K = 2
          · subst hK2
            cases hbz : busyB b acc
            · have HJ := Lib.hid hbz
              have HQ := Lib.hid (show ofAcc b ⟨at_, 2, acc, sub, num, name, val⟩ = 0 by unfold ofAcc; simp [HF.out, hcl, hbz])
              clear hbz hK1 hK3
              go_wp2_with (go_at_call 122; go_must (refine (rbusy_any _ _ _ _ _ _ _ _ _ b acc _ HBw5.out).mono ?_; rintro r w6 ⟨rfl, hk5⟩; rw [HJ.out]; replace qa0 := (hk5.cell (p := ⟨_, _, none⟩) (by (try dsimp only) <;> omega)).trans qa0; replace qa1 := (hk5.cell (p := ⟨_, _, none⟩) (by (try dsimp only) <;> omega)).trans qa1; replace qa2 := (hk5.cell (p := ⟨_, _, none⟩) (by (try dsimp only) <;> omega)).trans qa2; replace qb0 := (hk5.cell (p := ⟨_, _, none⟩) (by (try dsimp only) <;> omega)).trans qb0; replace qb1 := (hk5.cell (p := ⟨_, _, none⟩) (by (try dsimp only) <;> omega)).trans qb1; replace qb2 := (hk5.cell (p := ⟨_, _, none⟩) (by (try dsimp only) <;> omega)).trans qb2; replace qb3 := (hk5.cell (p := ⟨_, _, none⟩) (by (try dsimp only) <;> omega)).trans qb3; replace qb4 := (hk5.cell (p := ⟨_, _, none⟩) (by (try dsimp only) <;> omega)).trans qb4; replace qb5 := (hk5.cell (p := ⟨_, _, none⟩) (by (try dsimp only) <;> omega)).trans qb5; replace qb6 := (hk5.cell (p := ⟨_, _, none⟩) (by (try dsimp only) <;> omega)).trans qb6; have hbw6 := hbw5.trans (hk5.mono hbw5.size); have HBw6 := Lib.hid (HBw5.out.on hk5); replace hg0 := Nat.lt_of_lt_of_le hg0 hk5.size; replace hg1 := Nat.lt_of_lt_of_le hg1 hk5.size; clear hk5))
              go_ret
              exact ⟨by rw [HQ.out]; rfl, hbw6⟩
            · have HJ := Lib.hid hbz
              have HQ := Lib.hid (show ofAcc b ⟨at_, 2, acc, sub, num, name, val⟩ = 22 by unfold ofAcc; simp [HF.out, hcl, hbz])
              clear hbz hK1 hK3
              go_wp2_with (go_at_call 122; go_must (refine (rbusy_any _ _ _ _ _ _ _ _ _ b acc _ HBw5.out).mono ?_; rintro r w6 ⟨rfl, hk5⟩; rw [HJ.out]; replace qa0 := (hk5.cell (p := ⟨_, _, none⟩) (by (try dsimp only) <;> omega)).trans qa0; replace qa1 := (hk5.cell (p := ⟨_, _, none⟩) (by (try dsimp only) <;> omega)).trans qa1; replace qa2 := (hk5.cell (p := ⟨_, _, none⟩) (by (try dsimp only) <;> omega)).trans qa2; replace qb0 := (hk5.cell (p := ⟨_, _, none⟩) (by (try dsimp only) <;> omega)).trans qb0; replace qb1 := (hk5.cell (p := ⟨_, _, none⟩) (by (try dsimp only) <;> omega)).trans qb1; replace qb2 := (hk5.cell (p := ⟨_, _, none⟩) (by (try dsimp only) <;> omega)).trans qb2; replace qb3 := (hk5.cell (p := ⟨_, _, none⟩) (by (try dsimp only) <;> omega)).trans qb3; replace qb4 := (hk5.cell (p := ⟨_, _, none⟩) (by (try dsimp only) <;> omega)).trans qb4; replace qb5 := (hk5.cell (p := ⟨_, _, none⟩) (by (try dsimp only) <;> omega)).trans qb5; replace qb6 := (hk5.cell (p := ⟨_, _, none⟩) (by (try dsimp only) <;> omega)).trans qb6; have hbw6 := hbw5.trans (hk5.mono hbw5.size); have HBw6 := Lib.hid (HBw5.out.on hk5); replace hg0 := Nat.lt_of_lt_of_le hg0 hk5.size; replace hg1 := Nat.lt_of_lt_of_le hg1 hk5.size; clear hk5))
              go_ret
              exact ⟨by rw [HQ.out]; rfl, hbw6⟩
          · by_cases hK13 : 13 < K
            · have hbl2 : b0 < w5.heap.size := hbl
              cases hpr : ac.prepaid
              · rw [hpr] at e3
                have HQ := Lib.hid (show ofAcc b ⟨at_, K, acc, sub, num, name, val⟩ = 22 by unfold ofAcc; simp [HF.out, hcl, hpr, hK1, hK2, hK3, hK13])
                go_wp2_with fail
                go_ret
                exact ⟨by rw [HQ.out]; rfl, hbw5⟩
              · rw [hpr] at e3
                have HQ := Lib.hid (show ofAcc b ⟨at_, K, acc, sub, num, name, val⟩ = 0 by unfold ofAcc; simp [HF.out, hcl, hpr, hK1, hK2, hK3, hK13])
                go_wp2_with fail
                go_ret
                exact ⟨by rw [HQ.out]; rfl, hbw5⟩
            · have HQ := Lib.hid (show ofAcc b ⟨at_, K, acc, sub, num, name, val⟩ = 0 by unfold ofAcc; simp [HF.out, hcl, hK1, hK2, hK3, hK13])
              go_wp2_with fail
              go_ret
              exact ⟨by rw [HQ.out]; rfl, hbw5⟩
      · rw [hcl] at e4
        have HQ := Lib.hid (show ofAcc b ⟨at_, K, acc, sub, num, name, val⟩ = 17 by unfold ofAcc; simp [HF.out, hcl, hK1])
        go_wp2_with fail
        go_ret
        exact ⟨by rw [HQ.out]; rfl, hbw5⟩
set_option maxHeartbeats 16000000 in
theorem rofSub_any (Aa : Option Addr) (na ca : Nat) (As : Option Addr) (ns cs : Nat) (Ae : Option Addr) (ne ce : Nat) (b : Bk) (at_ K acc sub val : Int) (num name : ByteArray) (w : World) (h : BR w Aa na ca As ns cs Ae ne ce b) :
    Calls Try.prog 105 #[.agg #[.slice Aa na ca, .slice As ns cs, .slice Ae ne ce], .agg #[.int .i64 at_, .int .i64 K, .int .i64 acc, .int .i64 sub, .string num, .string name, .int .i64 val]] w fun r w' => r = .returned (.int .i64 (ofSub b ⟨at_, K, acc, sub, num, name, val⟩)) ∧ Below w.heap.size w w' := by
  have HB := Lib.hid h
  have hnm := h.a.nmax
  have hnms := h.s.2.choose_spec.1.nmax
  clear h
  go_enter Try.func105, Try.ntmps105
  go_upto_region 1 with (fail)
  (obtain ⟨V, hWV, hbV, hzV, f1V, f2V, qfa, qfb⟩ := box2 w #[.slice Aa na ca, .slice As ns cs, .slice Ae ne ce] 99 #[.int .i64 at_, .int .i64 K, .int .i64 acc, .int .i64 sub, .string num, .string name, .int .i64 val] 36; rw [← hWV]; have qa0 : V.cell? ⟨w.heap.size, 0, none⟩ = some (.slice Aa na ca) := f1V 0 _ rfl; have qa1 : V.cell? ⟨w.heap.size, 1, none⟩ = some (.slice As ns cs) := f1V 1 _ rfl; have qa2 : V.cell? ⟨w.heap.size, 2, none⟩ = some (.slice Ae ne ce) := f1V 2 _ rfl; have qb0 : V.cell? ⟨w.heap.size + 1, 0, none⟩ = some (.int .i64 at_) := f2V 0 _ rfl; have qb1 : V.cell? ⟨w.heap.size + 1, 1, none⟩ = some (.int .i64 K) := f2V 1 _ rfl; have qb2 : V.cell? ⟨w.heap.size + 1, 2, none⟩ = some (.int .i64 acc) := f2V 2 _ rfl; have qb3 : V.cell? ⟨w.heap.size + 1, 3, none⟩ = some (.int .i64 sub) := f2V 3 _ rfl; have qb4 : V.cell? ⟨w.heap.size + 1, 4, none⟩ = some (.string num) := f2V 4 _ rfl; have qb5 : V.cell? ⟨w.heap.size + 1, 5, none⟩ = some (.string name) := f2V 5 _ rfl; have qb6 : V.cell? ⟨w.heap.size + 1, 6, none⟩ = some (.int .i64 val) := f2V 6 _ rfl; clear hWV f1V f2V)
  have HBV := Lib.hid (HB.out.on hbV)
  have hg0 : w.heap.size < V.heap.size := by omega
  have hg1 : w.heap.size + 1 < V.heap.size := hzV
  clear hzV qfa qfb
  rcases idxL_cases Sb.id b.subs sub with ⟨hi, hf⟩ | ⟨k, sb, hi, hk, hx, hf, hid, _⟩
  · have HI := Lib.hid hi
    have HQ := Lib.hid (show ofSub b ⟨at_, K, acc, sub, num, name, val⟩ = 11 by unfold ofSub; rw [show findS b sub = none from hf])
    clear hi hf
    go_wp2_with (go_at_call 77; go_must (refine (rsub_any _ _ _ _ _ _ _ _ _ b sub _ HBV.out).mono ?_; rintro r w5 ⟨rfl, hk5⟩; rw [HI.out]; replace qa0 := (hk5.cell (p := ⟨_, _, none⟩) (by (try dsimp only) <;> omega)).trans qa0; replace qa1 := (hk5.cell (p := ⟨_, _, none⟩) (by (try dsimp only) <;> omega)).trans qa1; replace qa2 := (hk5.cell (p := ⟨_, _, none⟩) (by (try dsimp only) <;> omega)).trans qa2; replace qb0 := (hk5.cell (p := ⟨_, _, none⟩) (by (try dsimp only) <;> omega)).trans qb0; replace qb1 := (hk5.cell (p := ⟨_, _, none⟩) (by (try dsimp only) <;> omega)).trans qb1; replace qb2 := (hk5.cell (p := ⟨_, _, none⟩) (by (try dsimp only) <;> omega)).trans qb2; replace qb3 := (hk5.cell (p := ⟨_, _, none⟩) (by (try dsimp only) <;> omega)).trans qb3; replace qb4 := (hk5.cell (p := ⟨_, _, none⟩) (by (try dsimp only) <;> omega)).trans qb4; replace qb5 := (hk5.cell (p := ⟨_, _, none⟩) (by (try dsimp only) <;> omega)).trans qb5; replace qb6 := (hk5.cell (p := ⟨_, _, none⟩) (by (try dsimp only) <;> omega)).trans qb6; have hbw5 := hbV.trans (hk5.mono hbV.size); have HBw5 := Lib.hid (HBV.out.on hk5); replace hg0 := Nat.lt_of_lt_of_le hg0 hk5.size; replace hg1 := Nat.lt_of_lt_of_le hg1 hk5.size; clear hk5))
    go_ret
    exact ⟨by rw [HQ.out]; rfl, hbw5⟩
  · have HI := Lib.hid hi
    have HF := Lib.hid (show findS b sub = some sb from hf)
    have HX := Lib.hid hx
    have hkn : k < ns := by have := HB.out.s.len; omega
    clear hi hf hid hx hk
    have hk0 : ¬ ((k : Int) < 0) := by omega
    cases hen : endedB b sub
    · have HJ := Lib.hid hen
      have HQ := Lib.hid (show ofSub b ⟨at_, K, acc, sub, num, name, val⟩ = (if K = 5 then (if takenB b num = true then 12 else 0) else if K = 6 then (if hasS sb.nums num = true then 0 else 12) else if K = 8 then (if hasS sb.prods name = true then 10 else 0) else if K = 9 then (if hasS sb.prods name = true then 0 else 11) else if K = 10 ∨ K = 11 then (if sb.susp = decide (K = 10) then 22 else 0) else if K = 12 ∨ K = 13 then (if sb.fam = decide (K = 12) then 22 else 0) else 0) by unfold ofSub; simp [HF.out, hen])
      clear hen
      go_upto_region 6 with (first | (go_at_call 77; go_must (refine (rsub_any _ _ _ _ _ _ _ _ _ b sub _ HBV.out).mono ?_; rintro r w5 ⟨rfl, hk5⟩; rw [HI.out]; replace qa0 := (hk5.cell (p := ⟨_, _, none⟩) (by (try dsimp only) <;> omega)).trans qa0; replace qa1 := (hk5.cell (p := ⟨_, _, none⟩) (by (try dsimp only) <;> omega)).trans qa1; replace qa2 := (hk5.cell (p := ⟨_, _, none⟩) (by (try dsimp only) <;> omega)).trans qa2; replace qb0 := (hk5.cell (p := ⟨_, _, none⟩) (by (try dsimp only) <;> omega)).trans qb0; replace qb1 := (hk5.cell (p := ⟨_, _, none⟩) (by (try dsimp only) <;> omega)).trans qb1; replace qb2 := (hk5.cell (p := ⟨_, _, none⟩) (by (try dsimp only) <;> omega)).trans qb2; replace qb3 := (hk5.cell (p := ⟨_, _, none⟩) (by (try dsimp only) <;> omega)).trans qb3; replace qb4 := (hk5.cell (p := ⟨_, _, none⟩) (by (try dsimp only) <;> omega)).trans qb4; replace qb5 := (hk5.cell (p := ⟨_, _, none⟩) (by (try dsimp only) <;> omega)).trans qb5; replace qb6 := (hk5.cell (p := ⟨_, _, none⟩) (by (try dsimp only) <;> omega)).trans qb6; have hbw5 := hbV.trans (hk5.mono hbV.size); have HBw5 := Lib.hid (HBV.out.on hk5); replace hg0 := Nat.lt_of_lt_of_le hg0 hk5.size; replace hg1 := Nat.lt_of_lt_of_le hg1 hk5.size; clear hk5)) | (go_at_call 78; go_must (refine (rended_any _ _ _ _ _ _ _ _ _ b sub _ HBw5.out).mono ?_; rintro r w6 ⟨rfl, hk5⟩; rw [HJ.out]; replace qa0 := (hk5.cell (p := ⟨_, _, none⟩) (by (try dsimp only) <;> omega)).trans qa0; replace qa1 := (hk5.cell (p := ⟨_, _, none⟩) (by (try dsimp only) <;> omega)).trans qa1; replace qa2 := (hk5.cell (p := ⟨_, _, none⟩) (by (try dsimp only) <;> omega)).trans qa2; replace qb0 := (hk5.cell (p := ⟨_, _, none⟩) (by (try dsimp only) <;> omega)).trans qb0; replace qb1 := (hk5.cell (p := ⟨_, _, none⟩) (by (try dsimp only) <;> omega)).trans qb1; replace qb2 := (hk5.cell (p := ⟨_, _, none⟩) (by (try dsimp only) <;> omega)).trans qb2; replace qb3 := (hk5.cell (p := ⟨_, _, none⟩) (by (try dsimp only) <;> omega)).trans qb3; replace qb4 := (hk5.cell (p := ⟨_, _, none⟩) (by (try dsimp only) <;> omega)).trans qb4; replace qb5 := (hk5.cell (p := ⟨_, _, none⟩) (by (try dsimp only) <;> omega)).trans qb5; replace qb6 := (hk5.cell (p := ⟨_, _, none⟩) (by (try dsimp only) <;> omega)).trans qb6; have hbw6 := hbw5.trans (hk5.mono hbw5.size); have HBw6 := Lib.hid (HBw5.out.on hk5); replace hg0 := Nat.lt_of_lt_of_le hg0 hk5.size; replace hg1 := Nat.lt_of_lt_of_le hg1 hk5.size; clear hk5)))
      obtain ⟨_, xs, hsl, hall⟩ := HBw6.out.s
      obtain ⟨b0, off, hAe, hbl, hcells⟩ := hsl.base (by omega)
      obtain ⟨t, ht⟩ := hsl.get hkn
      obtain ⟨y, hy, hsr⟩ := hall.at_ ht
      obtain rfl : y = sb := by rw [HX.out] at hy; injection hy with hy; exact hy.symm
      have HSR := Lib.hid hsr
      have e0 : w6.cell? ⟨b0, off + k * 8, none⟩ = some (.int .i64 t.id) := Sl.at_ hcells ht 0 rfl
      have e1 : w6.cell? ⟨b0, off + k * 8 + 1, none⟩ = some (.int .i64 t.acc) := Sl.at_ hcells ht 1 rfl
      have e2 : w6.cell? ⟨b0, off + k * 8 + 2, none⟩ = some (.int .i64 t.since) := Sl.at_ hcells ht 2 rfl
      have e3 : w6.cell? ⟨b0, off + k * 8 + 3, none⟩ = some (.string t.plan) := Sl.at_ hcells ht 3 rfl
      have e4 : w6.cell? ⟨b0, off + k * 8 + 4, none⟩ = some (.slice t.An t.nn t.cn) := Sl.at_ hcells ht 4 rfl
      have e5 : w6.cell? ⟨b0, off + k * 8 + 5, none⟩ = some (.slice t.Ap t.np t.cp) := Sl.at_ hcells ht 5 rfl
      have e6 : w6.cell? ⟨b0, off + k * 8 + 6, none⟩ = some (.bool t.susp) := Sl.at_ hcells ht 6 rfl
      have e7 : w6.cell? ⟨b0, off + k * 8 + 7, none⟩ = some (.bool t.fam) := Sl.at_ hcells ht 7 rfl
      rw [hsr.susp] at e6
      rw [hsr.fam] at e7
      subst hAe
      clear hcells hsl hall ht hsr hy
      go_upto_region 7 with (fail)
      (obtain ⟨Y, hWY, hbY, hzY, f1Y, vfa⟩ := box1 w6 #[.int .i64 t.id, .int .i64 t.acc, .int .i64 t.since, .string t.plan, .slice t.An t.nn t.cn, .slice t.Ap t.np t.cp, .bool y.susp, .bool y.fam] 51; rw [← hWY]; have va0 : Y.cell? ⟨w6.heap.size, 0, none⟩ = some (.int .i64 t.id) := f1Y 0 _ rfl; have va1 : Y.cell? ⟨w6.heap.size, 1, none⟩ = some (.int .i64 t.acc) := f1Y 1 _ rfl; have va2 : Y.cell? ⟨w6.heap.size, 2, none⟩ = some (.int .i64 t.since) := f1Y 2 _ rfl; have va3 : Y.cell? ⟨w6.heap.size, 3, none⟩ = some (.string t.plan) := f1Y 3 _ rfl; have va4 : Y.cell? ⟨w6.heap.size, 4, none⟩ = some (.slice t.An t.nn t.cn) := f1Y 4 _ rfl; have va5 : Y.cell? ⟨w6.heap.size, 5, none⟩ = some (.slice t.Ap t.np t.cp) := f1Y 5 _ rfl; have va6 : Y.cell? ⟨w6.heap.size, 6, none⟩ = some (.bool y.susp) := f1Y 6 _ rfl; have va7 : Y.cell? ⟨w6.heap.size, 7, none⟩ = some (.bool y.fam) := f1Y 7 _ rfl; clear hWY f1Y)
      have hbY' := hbw6.trans (hbY.mono hbw6.size)
      have hgY : w6.heap.size < Y.heap.size := hzY
      have HBY := Lib.hid (HBw6.out.on hbY)
      replace qa0 := (hbY.cell (p := ⟨_, _, none⟩) (by (try dsimp only) <;> omega)).trans qa0
      replace qa1 := (hbY.cell (p := ⟨_, _, none⟩) (by (try dsimp only) <;> omega)).trans qa1
      replace qa2 := (hbY.cell (p := ⟨_, _, none⟩) (by (try dsimp only) <;> omega)).trans qa2
      replace qb0 := (hbY.cell (p := ⟨_, _, none⟩) (by (try dsimp only) <;> omega)).trans qb0
      replace qb1 := (hbY.cell (p := ⟨_, _, none⟩) (by (try dsimp only) <;> omega)).trans qb1
      replace qb2 := (hbY.cell (p := ⟨_, _, none⟩) (by (try dsimp only) <;> omega)).trans qb2
      replace qb3 := (hbY.cell (p := ⟨_, _, none⟩) (by (try dsimp only) <;> omega)).trans qb3
      replace qb4 := (hbY.cell (p := ⟨_, _, none⟩) (by (try dsimp only) <;> omega)).trans qb4
      replace qb5 := (hbY.cell (p := ⟨_, _, none⟩) (by (try dsimp only) <;> omega)).trans qb5
      replace qb6 := (hbY.cell (p := ⟨_, _, none⟩) (by (try dsimp only) <;> omega)).trans qb6
      have HSNn := Lib.hid (HSR.out.n.below hbY)
      have HSNp := Lib.hid (HSR.out.p.below hbY)
      clear hbY hzY vfa e0 e1 e2 e3 e4 e5 e6 e7
      by_cases hK5 : K = 5
      · subst hK5
        cases hh : takenB b num
        · replace HQ := Lib.hid (HQ.out.trans (show _ = (0 : Int) by simp [hh]))
          have HH := Lib.hid hh
          clear hh
          go_wp2_with (go_at_call 123; go_must (refine (rtaken_any _ _ _ _ _ _ _ _ _ b num _ HBY.out).mono ?_; rintro r w7 ⟨rfl, hk7⟩; rw [HH.out]))
          go_ret
          exact ⟨by rw [HQ.out]; rfl, hbY'.trans (hk7.mono hbY'.size)⟩
        · replace HQ := Lib.hid (HQ.out.trans (show _ = (12 : Int) by simp [hh]))
          have HH := Lib.hid hh
          clear hh
          go_wp2_with (go_at_call 123; go_must (refine (rtaken_any _ _ _ _ _ _ _ _ _ b num _ HBY.out).mono ?_; rintro r w7 ⟨rfl, hk7⟩; rw [HH.out]))
          go_ret
          exact ⟨by rw [HQ.out]; rfl, hbY'.trans (hk7.mono hbY'.size)⟩
      · by_cases hK6 : K = 6
        · subst hK6
          cases hh : hasS y.nums num
          · replace HQ := Lib.hid (HQ.out.trans (show _ = (12 : Int) by simp [hh]))
            have HH := Lib.hid hh
            clear hh
            go_wp2_with (go_at_call 39; go_must (refine (Has_any _ _ _ y.nums num _ HSNn.out).mono ?_; rintro r w7 ⟨rfl, hk7⟩; rw [HH.out]))
            go_ret
            exact ⟨by rw [HQ.out]; rfl, by first | exact hbY' | (rw [← hk7]; exact hbY') | exact hbY'.trans (hk7.mono hbY'.size)⟩
          · replace HQ := Lib.hid (HQ.out.trans (show _ = (0 : Int) by simp [hh]))
            have HH := Lib.hid hh
            clear hh
            go_wp2_with (go_at_call 39; go_must (refine (Has_any _ _ _ y.nums num _ HSNn.out).mono ?_; rintro r w7 ⟨rfl, hk7⟩; rw [HH.out]))
            go_ret
            exact ⟨by rw [HQ.out]; rfl, by first | exact hbY' | (rw [← hk7]; exact hbY') | exact hbY'.trans (hk7.mono hbY'.size)⟩
        · by_cases hK8 : K = 8
          · subst hK8
            cases hh : hasS y.prods name
            · replace HQ := Lib.hid (HQ.out.trans (show _ = (0 : Int) by simp [hh]))
              have HH := Lib.hid hh
              clear hh
              go_wp2_with (go_at_call 39; go_must (refine (Has_any _ _ _ y.prods name _ HSNp.out).mono ?_; rintro r w7 ⟨rfl, hk7⟩; rw [HH.out]))
              go_ret
              exact ⟨by rw [HQ.out]; rfl, by first | exact hbY' | (rw [← hk7]; exact hbY') | exact hbY'.trans (hk7.mono hbY'.size)⟩
            · replace HQ := Lib.hid (HQ.out.trans (show _ = (10 : Int) by simp [hh]))
              have HH := Lib.hid hh
              clear hh
              go_wp2_with (go_at_call 39; go_must (refine (Has_any _ _ _ y.prods name _ HSNp.out).mono ?_; rintro r w7 ⟨rfl, hk7⟩; rw [HH.out]))
              go_ret
              exact ⟨by rw [HQ.out]; rfl, by first | exact hbY' | (rw [← hk7]; exact hbY') | exact hbY'.trans (hk7.mono hbY'.size)⟩
          · by_cases hK9 : K = 9
            · subst hK9
              cases hh : hasS y.prods name
              · replace HQ := Lib.hid (HQ.out.trans (show _ = (11 : Int) by simp [hh]))
                have HH := Lib.hid hh
                clear hh
                go_wp2_with (go_at_call 39; go_must (refine (Has_any _ _ _ y.prods name _ HSNp.out).mono ?_; rintro r w7 ⟨rfl, hk7⟩; rw [HH.out]))
                go_ret
                exact ⟨by rw [HQ.out]; rfl, by first | exact hbY' | (rw [← hk7]; exact hbY') | exact hbY'.trans (hk7.mono hbY'.size)⟩
              · replace HQ := Lib.hid (HQ.out.trans (show _ = (0 : Int) by simp [hh]))
                have HH := Lib.hid hh
                clear hh
                go_wp2_with (go_at_call 39; go_must (refine (Has_any _ _ _ y.prods name _ HSNp.out).mono ?_; rintro r w7 ⟨rfl, hk7⟩; rw [HH.out]))
                go_ret
                exact ⟨by rw [HQ.out]; rfl, by first | exact hbY' | (rw [← hk7]; exact hbY') | exact hbY'.trans (hk7.mono hbY'.size)⟩
            · by_cases hKs : K = 10 ∨ K = 11
              · have hKK := hKs
                clear hKs
                rcases hKK with rfl | rfl
                · cases hh : y.susp
                  · rw [hh] at va6
                    replace HQ := Lib.hid (HQ.out.trans (show _ = (0 : Int) by simp [hh]))
                    clear hh
                    go_wp2_with fail
                    go_ret
                    exact ⟨by rw [HQ.out]; rfl, hbY'⟩
                  · rw [hh] at va6
                    replace HQ := Lib.hid (HQ.out.trans (show _ = (22 : Int) by simp [hh]))
                    clear hh
                    go_wp2_with fail
                    go_ret
                    exact ⟨by rw [HQ.out]; rfl, hbY'⟩
                · cases hh : y.susp
                  · rw [hh] at va6
                    replace HQ := Lib.hid (HQ.out.trans (show _ = (22 : Int) by simp [hh]))
                    clear hh
                    go_wp2_with fail
                    go_ret
                    exact ⟨by rw [HQ.out]; rfl, hbY'⟩
                  · rw [hh] at va6
                    replace HQ := Lib.hid (HQ.out.trans (show _ = (0 : Int) by simp [hh]))
                    clear hh
                    go_wp2_with fail
                    go_ret
                    exact ⟨by rw [HQ.out]; rfl, hbY'⟩
              · by_cases hKf : K = 12 ∨ K = 13
                · have hKK := hKf
                  clear hKf hKs
                  rcases hKK with rfl | rfl
                  · cases hh : y.fam
                    · rw [hh] at va7
                      replace HQ := Lib.hid (HQ.out.trans (show _ = (0 : Int) by simp [hh]))
                      clear hh
                      go_wp2_with fail
                      go_ret
                      exact ⟨by rw [HQ.out]; rfl, hbY'⟩
                    · rw [hh] at va7
                      replace HQ := Lib.hid (HQ.out.trans (show _ = (22 : Int) by simp [hh]))
                      clear hh
                      go_wp2_with fail
                      go_ret
                      exact ⟨by rw [HQ.out]; rfl, hbY'⟩
                  · cases hh : y.fam
                    · rw [hh] at va7
                      replace HQ := Lib.hid (HQ.out.trans (show _ = (22 : Int) by simp [hh]))
                      clear hh
                      go_wp2_with fail
                      go_ret
                      exact ⟨by rw [HQ.out]; rfl, hbY'⟩
                    · rw [hh] at va7
                      replace HQ := Lib.hid (HQ.out.trans (show _ = (0 : Int) by simp [hh]))
                      clear hh
                      go_wp2_with fail
                      go_ret
                      exact ⟨by rw [HQ.out]; rfl, hbY'⟩
                · replace HQ := Lib.hid (HQ.out.trans (show _ = (0 : Int) by simp [hK5, hK6, hK8, hK9, hKs, hKf]))
                  obtain ⟨hK10, hK11⟩ := not_or.1 hKs
                  obtain ⟨hK12, hK13⟩ := not_or.1 hKf
                  clear hKs hKf
                  go_wp2_with fail
                  go_ret
                  exact ⟨by rw [HQ.out]; rfl, hbY'⟩
    · have HJ := Lib.hid hen
      have HQ := Lib.hid (show ofSub b ⟨at_, K, acc, sub, num, name, val⟩ = 17 by unfold ofSub; simp [HF.out, hen])
      clear hen
      go_wp2_with (first | (go_at_call 77; go_must (refine (rsub_any _ _ _ _ _ _ _ _ _ b sub _ HBV.out).mono ?_; rintro r w5 ⟨rfl, hk5⟩; rw [HI.out]; replace qa0 := (hk5.cell (p := ⟨_, _, none⟩) (by (try dsimp only) <;> omega)).trans qa0; replace qa1 := (hk5.cell (p := ⟨_, _, none⟩) (by (try dsimp only) <;> omega)).trans qa1; replace qa2 := (hk5.cell (p := ⟨_, _, none⟩) (by (try dsimp only) <;> omega)).trans qa2; replace qb0 := (hk5.cell (p := ⟨_, _, none⟩) (by (try dsimp only) <;> omega)).trans qb0; replace qb1 := (hk5.cell (p := ⟨_, _, none⟩) (by (try dsimp only) <;> omega)).trans qb1; replace qb2 := (hk5.cell (p := ⟨_, _, none⟩) (by (try dsimp only) <;> omega)).trans qb2; replace qb3 := (hk5.cell (p := ⟨_, _, none⟩) (by (try dsimp only) <;> omega)).trans qb3; replace qb4 := (hk5.cell (p := ⟨_, _, none⟩) (by (try dsimp only) <;> omega)).trans qb4; replace qb5 := (hk5.cell (p := ⟨_, _, none⟩) (by (try dsimp only) <;> omega)).trans qb5; replace qb6 := (hk5.cell (p := ⟨_, _, none⟩) (by (try dsimp only) <;> omega)).trans qb6; have hbw5 := hbV.trans (hk5.mono hbV.size); have HBw5 := Lib.hid (HBV.out.on hk5); replace hg0 := Nat.lt_of_lt_of_le hg0 hk5.size; replace hg1 := Nat.lt_of_lt_of_le hg1 hk5.size; clear hk5)) | (go_at_call 78; go_must (refine (rended_any _ _ _ _ _ _ _ _ _ b sub _ HBw5.out).mono ?_; rintro r w6 ⟨rfl, hk5⟩; rw [HJ.out]; replace qa0 := (hk5.cell (p := ⟨_, _, none⟩) (by (try dsimp only) <;> omega)).trans qa0; replace qa1 := (hk5.cell (p := ⟨_, _, none⟩) (by (try dsimp only) <;> omega)).trans qa1; replace qa2 := (hk5.cell (p := ⟨_, _, none⟩) (by (try dsimp only) <;> omega)).trans qa2; replace qb0 := (hk5.cell (p := ⟨_, _, none⟩) (by (try dsimp only) <;> omega)).trans qb0; replace qb1 := (hk5.cell (p := ⟨_, _, none⟩) (by (try dsimp only) <;> omega)).trans qb1; replace qb2 := (hk5.cell (p := ⟨_, _, none⟩) (by (try dsimp only) <;> omega)).trans qb2; replace qb3 := (hk5.cell (p := ⟨_, _, none⟩) (by (try dsimp only) <;> omega)).trans qb3; replace qb4 := (hk5.cell (p := ⟨_, _, none⟩) (by (try dsimp only) <;> omega)).trans qb4; replace qb5 := (hk5.cell (p := ⟨_, _, none⟩) (by (try dsimp only) <;> omega)).trans qb5; replace qb6 := (hk5.cell (p := ⟨_, _, none⟩) (by (try dsimp only) <;> omega)).trans qb6; have hbw6 := hbw5.trans (hk5.mono hbw5.size); have HBw6 := Lib.hid (HBw5.out.on hk5); replace hg0 := Nat.lt_of_lt_of_le hg0 hk5.size; replace hg1 := Nat.lt_of_lt_of_le hg1 hk5.size; clear hk5)))
      go_ret
      exact ⟨by rw [HQ.out]; rfl, hbw6⟩
theorem hix (a b c d e : Bool) (W : World) : (Instr.index 139 (.agg #[.bool a, .bool b, .bool c, .bool d, .bool e]) (.int .i64 0)).run Try.prog W = .ok (.bool a) W := by kernel_rfl
set_option maxHeartbeats 16000000 in
theorem rFault_any (Aa : Option Addr) (na ca : Nat) (As : Option Addr) (ns cs : Nat) (Ae : Option Addr) (ne ce : Nat) (b : Bk) (at_ K acc sub val : Int) (num name : ByteArray) (last : Int) (w : World) (h : BR w Aa na ca As ns cs Ae ne ce b) (hn : num.size ≤ maxLen) (hm : name.size ≤ maxLen) :
    Calls Try.prog 72 #[.agg #[.slice Aa na ca, .slice As ns cs, .slice Ae ne ce], .agg #[.int .i64 at_, .int .i64 K, .int .i64 acc, .int .i64 sub, .string num, .string name, .int .i64 val], .int .i64 last] w fun r w' => r = .returned (.int .i64 (faultR b ⟨at_, K, acc, sub, num, name, val⟩ last)) ∧ Below w.heap.size w w' := by
  have HB := Lib.hid h
  clear h
  go_enter Try.func72, Try.ntmps72
  go_upto_region 1 with (fail)
  (obtain ⟨V, hWV, hbV, hzV, f1V, f2V, qfa, qfb⟩ := box2 w #[.slice Aa na ca, .slice As ns cs, .slice Ae ne ce] 99 #[.int .i64 at_, .int .i64 K, .int .i64 acc, .int .i64 sub, .string num, .string name, .int .i64 val] 36; rw [← hWV]; have qa0 : V.cell? ⟨w.heap.size, 0, none⟩ = some (.slice Aa na ca) := f1V 0 _ rfl; have qa1 : V.cell? ⟨w.heap.size, 1, none⟩ = some (.slice As ns cs) := f1V 1 _ rfl; have qa2 : V.cell? ⟨w.heap.size, 2, none⟩ = some (.slice Ae ne ce) := f1V 2 _ rfl; have qb0 : V.cell? ⟨w.heap.size + 1, 0, none⟩ = some (.int .i64 at_) := f2V 0 _ rfl; have qb1 : V.cell? ⟨w.heap.size + 1, 1, none⟩ = some (.int .i64 K) := f2V 1 _ rfl; have qb2 : V.cell? ⟨w.heap.size + 1, 2, none⟩ = some (.int .i64 acc) := f2V 2 _ rfl; have qb3 : V.cell? ⟨w.heap.size + 1, 3, none⟩ = some (.int .i64 sub) := f2V 3 _ rfl; have qb4 : V.cell? ⟨w.heap.size + 1, 4, none⟩ = some (.string num) := f2V 4 _ rfl; have qb5 : V.cell? ⟨w.heap.size + 1, 5, none⟩ = some (.string name) := f2V 5 _ rfl; have qb6 : V.cell? ⟨w.heap.size + 1, 6, none⟩ = some (.int .i64 val) := f2V 6 _ rfl; clear hWV f1V f2V)
  have hg0 : w.heap.size < V.heap.size := by omega
  have hg1 : w.heap.size + 1 < V.heap.size := hzV
  clear hzV qfa qfb
  obtain ⟨x, hx⟩ : ∃ x, formR ⟨at_, K, acc, sub, num, name, val⟩ last = x := ⟨_, rfl⟩
  have HX := Lib.hid hx
  clear hx
  by_cases hx0 : x = 0
  · subst hx0
    cases hu : uA K
    · have HUV := Lib.hid (show (⟨usedV K⟩ : Array Value) = #[.bool false, .bool (uS K), .bool (uN K), .bool (uM K), .bool (uV K)] by unfold usedV; rw [hu])
      have hIX := hix false (uS K) (uN K) (uM K) (uV K)
      have HQ := Lib.hid (show faultR b ⟨at_, K, acc, sub, num, name, val⟩ last = ofSub b ⟨at_, K, acc, sub, num, name, val⟩ by unfold faultR; rw [HX.out]; simp [hu])
      clear hu
      go_wp2_with (first | (go_at_call 102; go_must (refine (refform_any ⟨at_, K, acc, sub, num, name, val⟩ last _ hn hm).mono ?_; rintro r w5 ⟨rfl, hk5⟩; rw [HX.out]; have hb5 := hbV.trans (hk5.mono hbV.size); have hs5 := hk5.size; replace qa0 := (hk5.cell (p := ⟨_, _, none⟩) (by (try dsimp only) <;> omega)).trans qa0; replace qa1 := (hk5.cell (p := ⟨_, _, none⟩) (by (try dsimp only) <;> omega)).trans qa1; replace qa2 := (hk5.cell (p := ⟨_, _, none⟩) (by (try dsimp only) <;> omega)).trans qa2; replace qb0 := (hk5.cell (p := ⟨_, _, none⟩) (by (try dsimp only) <;> omega)).trans qb0; replace qb1 := (hk5.cell (p := ⟨_, _, none⟩) (by (try dsimp only) <;> omega)).trans qb1; replace qb2 := (hk5.cell (p := ⟨_, _, none⟩) (by (try dsimp only) <;> omega)).trans qb2; replace qb3 := (hk5.cell (p := ⟨_, _, none⟩) (by (try dsimp only) <;> omega)).trans qb3; replace qb4 := (hk5.cell (p := ⟨_, _, none⟩) (by (try dsimp only) <;> omega)).trans qb4; replace qb5 := (hk5.cell (p := ⟨_, _, none⟩) (by (try dsimp only) <;> omega)).trans qb5; replace qb6 := (hk5.cell (p := ⟨_, _, none⟩) (by (try dsimp only) <;> omega)).trans qb6; clear hk5)) | (go_at_call 103; go_must (refine (refused_any K _).mono ?_; rintro r w6 ⟨rfl, hk6⟩; have hb6 := hb5.trans (hk6.mono hb5.size); have hs6 := hk6.size; replace qa0 := (hk6.cell (p := ⟨_, _, none⟩) (by (try dsimp only) <;> omega)).trans qa0; replace qa1 := (hk6.cell (p := ⟨_, _, none⟩) (by (try dsimp only) <;> omega)).trans qa1; replace qa2 := (hk6.cell (p := ⟨_, _, none⟩) (by (try dsimp only) <;> omega)).trans qa2; replace qb0 := (hk6.cell (p := ⟨_, _, none⟩) (by (try dsimp only) <;> omega)).trans qb0; replace qb1 := (hk6.cell (p := ⟨_, _, none⟩) (by (try dsimp only) <;> omega)).trans qb1; replace qb2 := (hk6.cell (p := ⟨_, _, none⟩) (by (try dsimp only) <;> omega)).trans qb2; replace qb3 := (hk6.cell (p := ⟨_, _, none⟩) (by (try dsimp only) <;> omega)).trans qb3; replace qb4 := (hk6.cell (p := ⟨_, _, none⟩) (by (try dsimp only) <;> omega)).trans qb4; replace qb5 := (hk6.cell (p := ⟨_, _, none⟩) (by (try dsimp only) <;> omega)).trans qb5; replace qb6 := (hk6.cell (p := ⟨_, _, none⟩) (by (try dsimp only) <;> omega)).trans qb6; clear hk6; rw [HUV.out])) | (go_at_call 105; go_must (refine (rofSub_any _ _ _ _ _ _ _ _ _ b at_ K acc sub val num name _ (HB.out.on hb6)).mono ?_; rintro r w7 ⟨rfl, hk7⟩)))
      go_ret
      exact ⟨by rw [HQ.out]; rfl, hb6.trans (hk7.mono hb6.size)⟩
    · have HUV := Lib.hid (show (⟨usedV K⟩ : Array Value) = #[.bool true, .bool (uS K), .bool (uN K), .bool (uM K), .bool (uV K)] by unfold usedV; rw [hu])
      have hIX := hix true (uS K) (uN K) (uM K) (uV K)
      have HQ := Lib.hid (show faultR b ⟨at_, K, acc, sub, num, name, val⟩ last = ofAcc b ⟨at_, K, acc, sub, num, name, val⟩ by unfold faultR; rw [HX.out]; simp [hu])
      clear hu
      go_wp2_with (first | (go_at_call 102; go_must (refine (refform_any ⟨at_, K, acc, sub, num, name, val⟩ last _ hn hm).mono ?_; rintro r w5 ⟨rfl, hk5⟩; rw [HX.out]; have hb5 := hbV.trans (hk5.mono hbV.size); have hs5 := hk5.size; replace qa0 := (hk5.cell (p := ⟨_, _, none⟩) (by (try dsimp only) <;> omega)).trans qa0; replace qa1 := (hk5.cell (p := ⟨_, _, none⟩) (by (try dsimp only) <;> omega)).trans qa1; replace qa2 := (hk5.cell (p := ⟨_, _, none⟩) (by (try dsimp only) <;> omega)).trans qa2; replace qb0 := (hk5.cell (p := ⟨_, _, none⟩) (by (try dsimp only) <;> omega)).trans qb0; replace qb1 := (hk5.cell (p := ⟨_, _, none⟩) (by (try dsimp only) <;> omega)).trans qb1; replace qb2 := (hk5.cell (p := ⟨_, _, none⟩) (by (try dsimp only) <;> omega)).trans qb2; replace qb3 := (hk5.cell (p := ⟨_, _, none⟩) (by (try dsimp only) <;> omega)).trans qb3; replace qb4 := (hk5.cell (p := ⟨_, _, none⟩) (by (try dsimp only) <;> omega)).trans qb4; replace qb5 := (hk5.cell (p := ⟨_, _, none⟩) (by (try dsimp only) <;> omega)).trans qb5; replace qb6 := (hk5.cell (p := ⟨_, _, none⟩) (by (try dsimp only) <;> omega)).trans qb6; clear hk5)) | (go_at_call 103; go_must (refine (refused_any K _).mono ?_; rintro r w6 ⟨rfl, hk6⟩; have hb6 := hb5.trans (hk6.mono hb5.size); have hs6 := hk6.size; replace qa0 := (hk6.cell (p := ⟨_, _, none⟩) (by (try dsimp only) <;> omega)).trans qa0; replace qa1 := (hk6.cell (p := ⟨_, _, none⟩) (by (try dsimp only) <;> omega)).trans qa1; replace qa2 := (hk6.cell (p := ⟨_, _, none⟩) (by (try dsimp only) <;> omega)).trans qa2; replace qb0 := (hk6.cell (p := ⟨_, _, none⟩) (by (try dsimp only) <;> omega)).trans qb0; replace qb1 := (hk6.cell (p := ⟨_, _, none⟩) (by (try dsimp only) <;> omega)).trans qb1; replace qb2 := (hk6.cell (p := ⟨_, _, none⟩) (by (try dsimp only) <;> omega)).trans qb2; replace qb3 := (hk6.cell (p := ⟨_, _, none⟩) (by (try dsimp only) <;> omega)).trans qb3; replace qb4 := (hk6.cell (p := ⟨_, _, none⟩) (by (try dsimp only) <;> omega)).trans qb4; replace qb5 := (hk6.cell (p := ⟨_, _, none⟩) (by (try dsimp only) <;> omega)).trans qb5; replace qb6 := (hk6.cell (p := ⟨_, _, none⟩) (by (try dsimp only) <;> omega)).trans qb6; clear hk6; rw [HUV.out])) | (go_at_call 104; go_must (refine (rofAcc_any _ _ _ _ _ _ _ _ _ b at_ K acc sub val num name _ (HB.out.on hb6)).mono ?_; rintro r w7 ⟨rfl, hk7⟩)))
      go_ret
      exact ⟨by rw [HQ.out]; rfl, hb6.trans (hk7.mono hb6.size)⟩
  · have HQ := Lib.hid (show faultR b ⟨at_, K, acc, sub, num, name, val⟩ last = x by unfold faultR; rw [HX.out, if_pos hx0])
    have hxb : (x != 0) = true := by simpa using hx0
    go_wp2_with (go_at_call 102; go_must (refine (refform_any ⟨at_, K, acc, sub, num, name, val⟩ last _ hn hm).mono ?_; rintro r w5 ⟨rfl, hk5⟩; rw [HX.out]; have hb5 := hbV.trans (hk5.mono hbV.size); have hs5 := hk5.size; replace qa0 := (hk5.cell (p := ⟨_, _, none⟩) (by (try dsimp only) <;> omega)).trans qa0; replace qa1 := (hk5.cell (p := ⟨_, _, none⟩) (by (try dsimp only) <;> omega)).trans qa1; replace qa2 := (hk5.cell (p := ⟨_, _, none⟩) (by (try dsimp only) <;> omega)).trans qa2; replace qb0 := (hk5.cell (p := ⟨_, _, none⟩) (by (try dsimp only) <;> omega)).trans qb0; replace qb1 := (hk5.cell (p := ⟨_, _, none⟩) (by (try dsimp only) <;> omega)).trans qb1; replace qb2 := (hk5.cell (p := ⟨_, _, none⟩) (by (try dsimp only) <;> omega)).trans qb2; replace qb3 := (hk5.cell (p := ⟨_, _, none⟩) (by (try dsimp only) <;> omega)).trans qb3; replace qb4 := (hk5.cell (p := ⟨_, _, none⟩) (by (try dsimp only) <;> omega)).trans qb4; replace qb5 := (hk5.cell (p := ⟨_, _, none⟩) (by (try dsimp only) <;> omega)).trans qb5; replace qb6 := (hk5.cell (p := ⟨_, _, none⟩) (by (try dsimp only) <;> omega)).trans qb6; clear hk5))
    go_ret
    exact ⟨by rw [HQ.out]; rfl, hb5⟩
end Cu
end Go.Proofs.Yteaanngagcflhaa
