/-
  Ladders: both Steps. No condition.
-/
import Derived.Test.YtdnnnajohdohaaaCkP
import Derived.BigQuiet
import Derived.StillTailTactics
import Derived.Lib.Overlaps
import Derived.Deep.DeepCutAuto
import Derived.LoopN
set_option maxRecDepth 100000
set_option linter.unusedVariables false
set_option linter.unusedSimpArgs false
namespace Go.Proofs.Ytdnnnajohdohaaa
open Go.RowKit

namespace Ck
open Xp
theorem okS_iff (u q pr : Int) : okS ⟨u, q, pr⟩ = true ↔ (0 ≤ u ∧ u ≤ 1099511627776) ∧ (0 ≤ q ∧ q ≤ 1099511627776) ∧ q ≠ 0 ∧ 0 ≤ pr ∧ pr ≤ 1125899906842624 := by
  simp [okS, inB, and_assoc]
set_option maxHeartbeats 4000000 in
theorem steps_any (A : Option Addr) (n c : Nat) (xs : List Stp) (w : World) (h : Sl w A n c xs) :
    Calls Try.prog 60 #[.slice A n c] w fun e w' => e = .returned (.int .i64 (stepsE xs)) ∧ Below w.heap.size w w' := by
  have hn := h.nmax
  have hlen := h.len
  have H := Lib.hid h
  clear h
  by_cases h0 : n = 0
  · subst h0
    have HF := Lib.hid (show stepsE xs = 8 by unfold stepsE; rw [if_pos (by omega)])
    go_enter Try.func60, Try.ntmps60
    go_wp2_with fail
    go_ret
    exact ⟨ret_int HF.out.symm, Below.refl _ _⟩
  have h0' : ((n : Int) == 0) = false := by simpa using h0
  by_cases h64 : 64 < n
  · have HF := Lib.hid (show stepsE xs = 5 by unfold stepsE; rw [if_neg (by omega), if_pos (by omega)])
    have h64' : (64 : Int) < (n : Int) := by omega
    go_enter Try.func60, Try.ntmps60
    go_wp2_with fail
    go_ret
    exact ⟨ret_int HF.out.symm, Below.refl _ _⟩
  have h64' : ¬ (64 : Int) < (n : Int) := by omega
  have HS := Lib.hid (show stepsE xs = restE 0 xs by unfold stepsE; rw [if_neg (by omega), if_neg (by omega)])
  have hw : IntKind.i64.wrap ((n : Int) - 1) = (n : Int) - 1 := IntWalk.i64_in _ (by omega)
  go_enter Try.func60, Try.ntmps60
  go_wp2_with fail
  go_loopw [3, 14] (fun b i wr => ∃ (k : Nat) (p : Int), k ≤ n ∧ i = .int .i64 k ∧ b = .int .i64 p ∧ Below w.heap.size w wr ∧ restE 0 xs = restE p (xs.drop k)) (fun _ i _ => n - (intOf i).toNat)
  case atStart => exact ⟨0, 0, Nat.zero_le _, rfl, rfl, Below.refl _ _, rfl⟩
  case round =>
    obtain ⟨k, p, hk, rfl, rfl, hb, hr⟩ := hrel
    have HR := Lib.hid hr
    clear hr
    have hs := hb.size
    by_cases hlt : k < n
    · obtain ⟨b, off, rfl, hbw, hc⟩ := (H.out.below hb).base (by omega)
      obtain ⟨⟨u, q, pr⟩, hx⟩ := H.out.get hlt
      have c0 : wr.cell? ⟨b, off + k * 3, none⟩ = some (.int .i64 u) := Sl.at_ hc hx 0 rfl
      have c1 : wr.cell? ⟨b, off + k * 3 + 1, none⟩ = some (.int .i64 q) := Sl.at_ hc hx 1 rfl
      have c2 : wr.cell? ⟨b, off + k * 3 + 2, none⟩ = some (.int .i64 pr) := Sl.at_ hc hx 2 rfl
      have HX := Lib.hid hx
      clear hx hc
      go_upto_region 9 with (fail)
      (obtain ⟨W, hWW, hbW, hzW, f1W, qfa⟩ := box1 wr #[.int .i64 u, .int .i64 q, .int .i64 pr] 87; rw [← hWW]; have qa0 : W.cell? ⟨wr.heap.size, 0, none⟩ = some (.int .i64 u) := f1W 0 _ rfl; have qa1 : W.cell? ⟨wr.heap.size, 1, none⟩ = some (.int .i64 q) := f1W 1 _ rfl; have qa2 : W.cell? ⟨wr.heap.size, 2, none⟩ = some (.int .i64 pr) := f1W 2 _ rfl; clear hWW f1W)
      have hbE := hb.trans (hbW.mono (by omega))
      have hgW : wr.heap.size < W.heap.size := hzW
      cases hall : [u, q].all (inB 1099511627776)
      · have HE := Lib.hid (show stepsE xs = 6 by rw [HS.out, HR.out]; exact restE_bad HX.out (by unfold stepE; rw [if_pos]; simp [okS]; simp at hall; simp_all) (by decide))
        go_wp2_with fail
        refine (within_any 1099511627776 _ 2 2 [u, q] _ (Sl.new W #[.int .i64 u, .int .i64 q] 3 W.heap.size rfl [u, q] 2 rfl (by unfold maxLen; decide) rfl)).mono ?_
        rintro e w' ⟨rfl, rfl⟩
        rw [hall]
        obtain ⟨V, hV, hbV, hzV, -, -⟩ := box1 W #[.int .i64 u, .int .i64 q] 3
        rw [← hV]
        (have hzhbV := hbV.size; replace qa0 := (hbV.cell (p := ⟨_, _, none⟩) (by (try dsimp only) <;> omega)).trans qa0; replace qa1 := (hbV.cell (p := ⟨_, _, none⟩) (by (try dsimp only) <;> omega)).trans qa1; replace qa2 := (hbV.cell (p := ⟨_, _, none⟩) (by (try dsimp only) <;> omega)).trans qa2; replace hbE := Below.trans hbE (Below.mono hbV (by omega)))
        have hgV : wr.heap.size < V.heap.size := by omega
        clear hV hbV
        go_wp2_with fail
        go_ret
        exact ⟨ret_int HE.out.symm, by (repeat (first | exact hbE | exact Below.refl _ _ | (refine Below.alloc ?_ (by (try simp) <;> omega) _) | (refine Below.setCell ?_ (by (try simp) <;> omega) _) | refine Below.drew ?_ | refine below_drewN ?_ _))⟩
      · by_cases hq : q = 0
        · subst hq
          have HE := Lib.hid (show stepsE xs = 6 by rw [HS.out, HR.out]; exact restE_bad HX.out (by unfold stepE; rw [if_pos]; simp [okS]) (by decide))
          go_wp2_with fail
          refine (within_any 1099511627776 _ 2 2 [u, 0] _ (Sl.new W #[.int .i64 u, .int .i64 0] 3 W.heap.size rfl [u, 0] 2 rfl (by unfold maxLen; decide) rfl)).mono ?_
          rintro e w' ⟨rfl, rfl⟩
          rw [hall]
          obtain ⟨V, hV, hbV, hzV, -, -⟩ := box1 W #[.int .i64 u, .int .i64 0] 3
          rw [← hV]
          (have hzhbV := hbV.size; replace qa0 := (hbV.cell (p := ⟨_, _, none⟩) (by (try dsimp only) <;> omega)).trans qa0; replace qa1 := (hbV.cell (p := ⟨_, _, none⟩) (by (try dsimp only) <;> omega)).trans qa1; replace qa2 := (hbV.cell (p := ⟨_, _, none⟩) (by (try dsimp only) <;> omega)).trans qa2; replace hbE := Below.trans hbE (Below.mono hbV (by omega)))
          have hgV : wr.heap.size < V.heap.size := by omega
          clear hV hbV
          go_wp2_with fail
          go_ret
          exact ⟨ret_int HE.out.symm, by (repeat (first | exact hbE | exact Below.refl _ _ | (refine Below.alloc ?_ (by (try simp) <;> omega) _) | (refine Below.setCell ?_ (by (try simp) <;> omega) _) | refine Below.drew ?_ | refine below_drewN ?_ _))⟩
        · have hq1 : (q == 0) = false := by simpa using hq
          go_wp2_with fail
          refine (within_any 1099511627776 _ 2 2 [u, q] _ (Sl.new W #[.int .i64 u, .int .i64 q] 3 W.heap.size rfl [u, q] 2 rfl (by unfold maxLen; decide) rfl)).mono ?_
          rintro e w' ⟨rfl, rfl⟩
          rw [hall]
          obtain ⟨V, hV, hbV, hzV, -, -⟩ := box1 W #[.int .i64 u, .int .i64 q] 3
          rw [← hV]
          (have hzhbV := hbV.size; replace qa0 := (hbV.cell (p := ⟨_, _, none⟩) (by (try dsimp only) <;> omega)).trans qa0; replace qa1 := (hbV.cell (p := ⟨_, _, none⟩) (by (try dsimp only) <;> omega)).trans qa1; replace qa2 := (hbV.cell (p := ⟨_, _, none⟩) (by (try dsimp only) <;> omega)).trans qa2; replace hbE := Below.trans hbE (Below.mono hbV (by omega)))
          have hgV : wr.heap.size < V.heap.size := by omega
          clear hV hbV
          go_wp2_with fail
          refine (within_any 1125899906842624 _ 1 1 [pr] _ (Sl.new V #[.int .i64 pr] 3 V.heap.size rfl [pr] 1 rfl (by unfold maxLen; decide) rfl)).mono ?_
          rintro e w' ⟨rfl, rfl⟩
          obtain ⟨V2, hV2, hbV2, hzV2, -, -⟩ := box1 V #[.int .i64 pr] 3
          rw [← hV2]
          (have hzhbV2 := hbV2.size; replace qa0 := (hbV2.cell (p := ⟨_, _, none⟩) (by (try dsimp only) <;> omega)).trans qa0; replace qa1 := (hbV2.cell (p := ⟨_, _, none⟩) (by (try dsimp only) <;> omega)).trans qa1; replace qa2 := (hbV2.cell (p := ⟨_, _, none⟩) (by (try dsimp only) <;> omega)).trans qa2; replace hbE := Below.trans hbE (Below.mono hbV2 (by omega)))
          have hgV2 : wr.heap.size < V2.heap.size := by omega
          clear hV2 hbV2
          cases hall2 : [pr].all (inB 1125899906842624)
          · have HE := Lib.hid (show stepsE xs = 6 by rw [HS.out, HR.out]; exact restE_bad HX.out (by unfold stepE; rw [if_pos]; simp [okS]; simp at hall2; simp_all) (by decide))
            go_wp2_with fail
            go_ret
            exact ⟨ret_int HE.out.symm, by (repeat (first | exact hbE | exact Below.refl _ _ | (refine Below.alloc ?_ (by (try simp) <;> omega) _) | (refine Below.setCell ?_ (by (try simp) <;> omega) _) | refine Below.drew ?_ | refine below_drewN ?_ _))⟩
          · have hok : okS ⟨u, q, pr⟩ = true := by simp at hall hall2; simp [okS, *]
            by_cases hu : u = 0
            · subst hu
              by_cases hl : k + 1 = n
              · have hl' : ((k : Int) == (n : Int) - 1) = true := by simp; omega
                have HE := Lib.hid (HR.out.trans (restE_ok HX.out (by unfold stepE; rw [if_neg (by simp [hok]), if_neg (by rw [hlen]; simp [hl]), if_neg (by simp)])))
                go_wp2_with fail
                go_roundw
                case rel => exact ⟨k + 1, _, by omega, by go_num, rfl, by (repeat (first | exact hbE | exact Below.refl _ _ | (refine Below.alloc ?_ (by (try simp) <;> omega) _) | (refine Below.setCell ?_ (by (try simp) <;> omega) _) | refine Below.drew ?_ | refine below_drewN ?_ _)), HE.out⟩
                case measure => simp [intOf]; omega
              · have hl' : ((k : Int) == (n : Int) - 1) = false := by simp; omega
                have HE := Lib.hid (show stepsE xs = 8 by rw [HS.out, HR.out]; exact restE_bad HX.out (by unfold stepE; rw [if_neg (by simp [hok]), if_pos (by rw [hlen]; simp [hl])]) (by decide))
                go_wp2_with fail
                go_ret
                exact ⟨ret_int HE.out.symm, by (repeat (first | exact hbE | exact Below.refl _ _ | (refine Below.alloc ?_ (by (try simp) <;> omega) _) | (refine Below.setCell ?_ (by (try simp) <;> omega) _) | refine Below.drew ?_ | refine below_drewN ?_ _))⟩
            · have hu1 : (u == 0) = false := by simpa using hu
              have hu2 : (u != 0) = true := by simpa using hu
              by_cases hl : k + 1 = n
              · have hl' : ((k : Int) == (n : Int) - 1) = true := by simp; omega
                have HE := Lib.hid (show stepsE xs = 8 by rw [HS.out, HR.out]; exact restE_bad HX.out (by unfold stepE; rw [if_neg (by simp [hok]), if_pos (by rw [hlen]; simp [hl, hu])]) (by decide))
                go_wp2_with fail
                go_ret
                exact ⟨ret_int HE.out.symm, by (repeat (first | exact hbE | exact Below.refl _ _ | (refine Below.alloc ?_ (by (try simp) <;> omega) _) | (refine Below.setCell ?_ (by (try simp) <;> omega) _) | refine Below.drew ?_ | refine below_drewN ?_ _))⟩
              · have hl' : ((k : Int) == (n : Int) - 1) = false := by simp; omega
                by_cases hle : u ≤ p
                · have HE := Lib.hid (show stepsE xs = 9 by rw [HS.out, HR.out]; exact restE_bad HX.out (by unfold stepE; rw [if_neg (by simp [hok]), if_neg (by rw [hlen]; simp [hl, hu]), if_pos ⟨hu, hle⟩]) (by decide))
                  go_wp2_with fail
                  go_ret
                  exact ⟨ret_int HE.out.symm, by (repeat (first | exact hbE | exact Below.refl _ _ | (refine Below.alloc ?_ (by (try simp) <;> omega) _) | (refine Below.setCell ?_ (by (try simp) <;> omega) _) | refine Below.drew ?_ | refine below_drewN ?_ _))⟩
                · have HE := Lib.hid (HR.out.trans (restE_ok HX.out (by unfold stepE; rw [if_neg (by simp [hok]), if_neg (by rw [hlen]; simp [hl, hu]), if_neg (fun hh => hle hh.2)])))
                  go_wp2_with fail
                  go_roundw
                  case rel => exact ⟨k + 1, _, by omega, by go_num, rfl, by (repeat (first | exact hbE | exact Below.refl _ _ | (refine Below.alloc ?_ (by (try simp) <;> omega) _) | (refine Below.setCell ?_ (by (try simp) <;> omega) _) | refine Below.drew ?_ | refine below_drewN ?_ _)), HE.out⟩
                  case measure => simp [intOf]; omega
    · obtain rfl : n = k := by omega
      have HE := Lib.hid (show stepsE xs = 0 by rw [HS.out, HR.out, List.drop_of_length_le (by omega)]; rfl)
      go_wp2_with fail
      go_ret
      exact ⟨ret_int HE.out.symm, hb⟩
set_option maxHeartbeats 4000000 in
theorem refsteps_any (A : Option Addr) (n c : Nat) (xs : List Stp) (w : World) (h : Sl w A n c xs) :
    Calls Try.prog 69 #[.slice A n c] w fun e w' => e = .returned (.int .i64 (stepsE xs)) ∧ Below w.heap.size w w' := by
  have hn := h.nmax
  have hlen := h.len
  have H := Lib.hid h
  clear h
  by_cases h0 : n = 0
  · subst h0
    have HF := Lib.hid (show stepsE xs = 8 by unfold stepsE; rw [if_pos (by omega)])
    go_enter Try.func69, Try.ntmps69
    go_wp2_with fail
    go_ret
    exact ⟨ret_int HF.out.symm, Below.refl _ _⟩
  have h0' : ((n : Int) == 0) = false := by simpa using h0
  by_cases h64 : 64 < n
  · have HF := Lib.hid (show stepsE xs = 5 by unfold stepsE; rw [if_neg (by omega), if_pos (by omega)])
    have h64' : (64 : Int) < (n : Int) := by omega
    go_enter Try.func69, Try.ntmps69
    go_wp2_with fail
    go_ret
    exact ⟨ret_int HF.out.symm, Below.refl _ _⟩
  have h64' : ¬ (64 : Int) < (n : Int) := by omega
  have HS := Lib.hid (show stepsE xs = restE 0 xs by unfold stepsE; rw [if_neg (by omega), if_neg (by omega)])
  have hw : IntKind.i64.wrap ((n : Int) - 1) = (n : Int) - 1 := IntWalk.i64_in _ (by omega)
  go_enter Try.func69, Try.ntmps69
  go_wp2_with fail
  go_loopw [3, 4] (fun b i wr => ∃ (k : Nat) (p : Int), k ≤ n ∧ i = .int .i64 k ∧ b = .int .i64 p ∧ Below w.heap.size w wr ∧ restE 0 xs = restE p (xs.drop k)) (fun _ i _ => n - (intOf i).toNat)
  case atStart => exact ⟨0, 0, Nat.zero_le _, rfl, rfl, Below.refl _ _, rfl⟩
  case round =>
    obtain ⟨k, p, hk, rfl, rfl, hb, hr⟩ := hrel
    have HR := Lib.hid hr
    clear hr
    have hs := hb.size
    by_cases hlt : k < n
    · obtain ⟨b, off, rfl, hbw, hc⟩ := (H.out.below hb).base (by omega)
      obtain ⟨⟨u, q, pr⟩, hx⟩ := H.out.get hlt
      have c0 : wr.cell? ⟨b, off + k * 3, none⟩ = some (.int .i64 u) := Sl.at_ hc hx 0 rfl
      have c1 : wr.cell? ⟨b, off + k * 3 + 1, none⟩ = some (.int .i64 q) := Sl.at_ hc hx 1 rfl
      have c2 : wr.cell? ⟨b, off + k * 3 + 2, none⟩ = some (.int .i64 pr) := Sl.at_ hc hx 2 rfl
      have HX := Lib.hid hx
      clear hx hc
      go_upto_region 10 with (fail)
      (obtain ⟨W, hWW, hbW, hzW, f1W, qfa⟩ := box1 wr #[.int .i64 u, .int .i64 q, .int .i64 pr] 87; rw [← hWW]; have qa0 : W.cell? ⟨wr.heap.size, 0, none⟩ = some (.int .i64 u) := f1W 0 _ rfl; have qa1 : W.cell? ⟨wr.heap.size, 1, none⟩ = some (.int .i64 q) := f1W 1 _ rfl; have qa2 : W.cell? ⟨wr.heap.size, 2, none⟩ = some (.int .i64 pr) := f1W 2 _ rfl; clear hWW f1W)
      have hbE := hb.trans (hbW.mono (by omega))
      have hgW : wr.heap.size < W.heap.size := hzW
      rcases (show (u < 0) ∨ (¬ u < 0 ∧ 1099511627776 < u) ∨ (¬ u < 0 ∧ ¬ 1099511627776 < u ∧ q < 1) ∨ (¬ u < 0 ∧ ¬ 1099511627776 < u ∧ ¬ q < 1 ∧ 1099511627776 < q) ∨ (¬ u < 0 ∧ ¬ 1099511627776 < u ∧ ¬ q < 1 ∧ ¬ 1099511627776 < q ∧ pr < 0) ∨ (¬ u < 0 ∧ ¬ 1099511627776 < u ∧ ¬ q < 1 ∧ ¬ 1099511627776 < q ∧ ¬ pr < 0 ∧ 1125899906842624 < pr) ∨ (¬ u < 0 ∧ ¬ 1099511627776 < u ∧ ¬ q < 1 ∧ ¬ 1099511627776 < q ∧ ¬ pr < 0 ∧ ¬ 1125899906842624 < pr) by omega) with g0 | ⟨g0, g1⟩ | ⟨g0, g1, g2⟩ | ⟨g0, g1, g2, g3⟩ | ⟨g0, g1, g2, g3, g4⟩ | ⟨g0, g1, g2, g3, g4, g5⟩ | ⟨g0, g1, g2, g3, g4, g5⟩
      · have HE := Lib.hid (show stepsE xs = 6 by rw [HS.out, HR.out]; exact restE_bad HX.out (by unfold stepE; rw [if_pos]; rw [Bool.eq_false_iff]; intro hh; have hh := (okS_iff u q pr).1 hh; omega) (by decide))
        go_wp2_with fail
        go_ret
        exact ⟨ret_int HE.out.symm, by (repeat (first | exact hbE | exact Below.refl _ _ | (refine Below.alloc ?_ (by (try simp) <;> omega) _) | (refine Below.setCell ?_ (by (try simp) <;> omega) _) | refine Below.drew ?_ | refine below_drewN ?_ _))⟩
      · have HE := Lib.hid (show stepsE xs = 6 by rw [HS.out, HR.out]; exact restE_bad HX.out (by unfold stepE; rw [if_pos]; rw [Bool.eq_false_iff]; intro hh; have hh := (okS_iff u q pr).1 hh; omega) (by decide))
        go_wp2_with fail
        go_ret
        exact ⟨ret_int HE.out.symm, by (repeat (first | exact hbE | exact Below.refl _ _ | (refine Below.alloc ?_ (by (try simp) <;> omega) _) | (refine Below.setCell ?_ (by (try simp) <;> omega) _) | refine Below.drew ?_ | refine below_drewN ?_ _))⟩
      · have HE := Lib.hid (show stepsE xs = 6 by rw [HS.out, HR.out]; exact restE_bad HX.out (by unfold stepE; rw [if_pos]; rw [Bool.eq_false_iff]; intro hh; have hh := (okS_iff u q pr).1 hh; omega) (by decide))
        go_wp2_with fail
        go_ret
        exact ⟨ret_int HE.out.symm, by (repeat (first | exact hbE | exact Below.refl _ _ | (refine Below.alloc ?_ (by (try simp) <;> omega) _) | (refine Below.setCell ?_ (by (try simp) <;> omega) _) | refine Below.drew ?_ | refine below_drewN ?_ _))⟩
      · have HE := Lib.hid (show stepsE xs = 6 by rw [HS.out, HR.out]; exact restE_bad HX.out (by unfold stepE; rw [if_pos]; rw [Bool.eq_false_iff]; intro hh; have hh := (okS_iff u q pr).1 hh; omega) (by decide))
        go_wp2_with fail
        go_ret
        exact ⟨ret_int HE.out.symm, by (repeat (first | exact hbE | exact Below.refl _ _ | (refine Below.alloc ?_ (by (try simp) <;> omega) _) | (refine Below.setCell ?_ (by (try simp) <;> omega) _) | refine Below.drew ?_ | refine below_drewN ?_ _))⟩
      · have HE := Lib.hid (show stepsE xs = 6 by rw [HS.out, HR.out]; exact restE_bad HX.out (by unfold stepE; rw [if_pos]; rw [Bool.eq_false_iff]; intro hh; have hh := (okS_iff u q pr).1 hh; omega) (by decide))
        go_wp2_with fail
        go_ret
        exact ⟨ret_int HE.out.symm, by (repeat (first | exact hbE | exact Below.refl _ _ | (refine Below.alloc ?_ (by (try simp) <;> omega) _) | (refine Below.setCell ?_ (by (try simp) <;> omega) _) | refine Below.drew ?_ | refine below_drewN ?_ _))⟩
      · have HE := Lib.hid (show stepsE xs = 6 by rw [HS.out, HR.out]; exact restE_bad HX.out (by unfold stepE; rw [if_pos]; rw [Bool.eq_false_iff]; intro hh; have hh := (okS_iff u q pr).1 hh; omega) (by decide))
        go_wp2_with fail
        go_ret
        exact ⟨ret_int HE.out.symm, by (repeat (first | exact hbE | exact Below.refl _ _ | (refine Below.alloc ?_ (by (try simp) <;> omega) _) | (refine Below.setCell ?_ (by (try simp) <;> omega) _) | refine Below.drew ?_ | refine below_drewN ?_ _))⟩
      · have hok : okS ⟨u, q, pr⟩ = true := (okS_iff u q pr).2 (by omega)
        by_cases hu : u = 0
        · subst hu
          by_cases hl : k + 1 = n
          · have hl' : ((k : Int) == (n : Int) - 1) = true := by simp; omega
            have HE := Lib.hid (HR.out.trans (restE_ok HX.out (by unfold stepE; rw [if_neg (by simp [hok]), if_neg (by rw [hlen]; simp [hl]), if_neg (by simp)])))
            go_wp2_with fail
            go_roundw
            case rel => exact ⟨k + 1, _, by omega, by go_num, rfl, by (repeat (first | exact hbE | exact Below.refl _ _ | (refine Below.alloc ?_ (by (try simp) <;> omega) _) | (refine Below.setCell ?_ (by (try simp) <;> omega) _) | refine Below.drew ?_ | refine below_drewN ?_ _)), HE.out⟩
            case measure => simp [intOf]; omega
          · have hl' : ((k : Int) == (n : Int) - 1) = false := by simp; omega
            have HE := Lib.hid (show stepsE xs = 8 by rw [HS.out, HR.out]; exact restE_bad HX.out (by unfold stepE; rw [if_neg (by simp [hok]), if_pos (by rw [hlen]; simp [hl])]) (by decide))
            go_wp2_with fail
            go_ret
            exact ⟨ret_int HE.out.symm, by (repeat (first | exact hbE | exact Below.refl _ _ | (refine Below.alloc ?_ (by (try simp) <;> omega) _) | (refine Below.setCell ?_ (by (try simp) <;> omega) _) | refine Below.drew ?_ | refine below_drewN ?_ _))⟩
        · have hu1 : (u == 0) = false := by simpa using hu
          have hu2 : (u != 0) = true := by simpa using hu
          by_cases hl : k + 1 = n
          · have hl' : ((k : Int) == (n : Int) - 1) = true := by simp; omega
            have HE := Lib.hid (show stepsE xs = 8 by rw [HS.out, HR.out]; exact restE_bad HX.out (by unfold stepE; rw [if_neg (by simp [hok]), if_pos (by rw [hlen]; simp [hl, hu])]) (by decide))
            go_wp2_with fail
            go_ret
            exact ⟨ret_int HE.out.symm, by (repeat (first | exact hbE | exact Below.refl _ _ | (refine Below.alloc ?_ (by (try simp) <;> omega) _) | (refine Below.setCell ?_ (by (try simp) <;> omega) _) | refine Below.drew ?_ | refine below_drewN ?_ _))⟩
          · have hl' : ((k : Int) == (n : Int) - 1) = false := by simp; omega
            by_cases hle : u ≤ p
            · have HE := Lib.hid (show stepsE xs = 9 by rw [HS.out, HR.out]; exact restE_bad HX.out (by unfold stepE; rw [if_neg (by simp [hok]), if_neg (by rw [hlen]; simp [hl, hu]), if_pos ⟨hu, hle⟩]) (by decide))
              go_wp2_with fail
              go_ret
              exact ⟨ret_int HE.out.symm, by (repeat (first | exact hbE | exact Below.refl _ _ | (refine Below.alloc ?_ (by (try simp) <;> omega) _) | (refine Below.setCell ?_ (by (try simp) <;> omega) _) | refine Below.drew ?_ | refine below_drewN ?_ _))⟩
            · have HE := Lib.hid (HR.out.trans (restE_ok HX.out (by unfold stepE; rw [if_neg (by simp [hok]), if_neg (by rw [hlen]; simp [hl, hu]), if_neg (fun hh => hle hh.2)])))
              go_wp2_with fail
              go_roundw
              case rel => exact ⟨k + 1, _, by omega, by go_num, rfl, by (repeat (first | exact hbE | exact Below.refl _ _ | (refine Below.alloc ?_ (by (try simp) <;> omega) _) | (refine Below.setCell ?_ (by (try simp) <;> omega) _) | refine Below.drew ?_ | refine below_drewN ?_ _)), HE.out⟩
              case measure => simp [intOf]; omega
    · obtain rfl : n = k := by omega
      have HE := Lib.hid (show stepsE xs = 0 by rw [HS.out, HR.out, List.drop_of_length_le (by omega)]; rfl)
      go_wp2_with fail
      go_ret
      exact ⟨ret_int HE.out.symm, hb⟩

end Ck
end Go.Proofs.Ytdnnnajohdohaaa
