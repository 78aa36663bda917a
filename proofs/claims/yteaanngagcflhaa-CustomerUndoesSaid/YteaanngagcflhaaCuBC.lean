/-
  Customers: the reference's Account and Sub. No condition.
-/
import Derived.Test.YteaanngagcflhaaCuAR
import Derived.Test.YteaanngagcflhaaCuAL
import Derived.BigQuiet
import Derived.StillTailTactics
import Derived.Lib.Overlaps
import Derived.Deep.DeepCutAuto
import Derived.Deep.RegionWith
import Derived.Laws.RangeAny
set_option maxRecDepth 100000
set_option linter.unusedVariables false
set_option linter.unusedSimpArgs false
namespace Go.Proofs.Yteaanngagcflhaa
open Go.RowKit

namespace Cu
set_option maxHeartbeats 8000000 in
theorem rAccount_any (A : Option Addr) (n c : Nat) (l : List Ev) (x t : Int) (w : World) (hs : Sl w A n c l) (hv : Vl l) :
    Calls Try.prog 33 #[.slice A n c, .int .i64 x, .int .i64 t] w fun r w' => (∃ v : Av, r = .returned (.tuple #[v.val, .bool ((cAccs (bkAt l t)).find? (fun y => y.1.id == x)).isSome]) ∧ AR w' v (((cAccs (bkAt l t)).find? (fun y => y.1.id == x)).getD (ac0, []))) ∧ Below w.heap.size w w' := by
  have HS := Lib.hid hs
  have HV := Lib.hid hv
  clear hs hv
  go_enter Try.func33, Try.ntmps33
  go_upto_region 1 with (fail)
  (obtain ⟨V, hWV, hbV, hzV, f1V, qfa⟩ := box1 w #[.int .i64 0, .int .i64 0, .int .i64 0, .bool false, .bool false, .slice none 0 0] 46; rw [← hWV]; have qa0 : V.cell? ⟨w.heap.size, 0, none⟩ = some (.int .i64 0) := f1V 0 _ rfl; have qa1 : V.cell? ⟨w.heap.size, 1, none⟩ = some (.int .i64 0) := f1V 1 _ rfl; have qa2 : V.cell? ⟨w.heap.size, 2, none⟩ = some (.int .i64 0) := f1V 2 _ rfl; have qa3 : V.cell? ⟨w.heap.size, 3, none⟩ = some (.bool false) := f1V 3 _ rfl; have qa4 : V.cell? ⟨w.heap.size, 4, none⟩ = some (.bool false) := f1V 4 _ rfl; have qa5 : V.cell? ⟨w.heap.size, 5, none⟩ = some (.slice none 0 0) := f1V 5 _ rfl; clear hWV f1V)
  go_upto_region 2 with (go_at_call 28; go_must (refine (rState_any A n c l t _ (HS.out.below hbV) HV.out).mono ?_; rintro r w5 ⟨Aa, na, ca, As, ns, cs, rfl, hla, hls, hb5⟩; have HLS := Lib.hid hla; clear hla hls))
  have hbw5 := hbV.trans (hb5.mono hbV.size)
  have hg5 : w.heap.size < w5.heap.size := Nat.lt_of_lt_of_le hzV hb5.size
  replace qa0 := cl hb5 qa0
  replace qa1 := cl hb5 qa1
  replace qa2 := cl hb5 qa2
  replace qa3 := cl hb5 qa3
  replace qa4 := cl hb5 qa4
  replace qa5 := cl hb5 qa5
  replace qfa := cz hb5 qfa
  clear hb5 hbV
  (obtain ⟨W, hWW, hbW, hzW, f1W, pfa⟩ := box1 w5 #[.slice Aa na ca, .slice As ns cs] 32; rw [← hWW]; have pa0 : W.cell? ⟨w5.heap.size, 0, none⟩ = some (.slice Aa na ca) := f1W 0 _ rfl; have pa1 : W.cell? ⟨w5.heap.size, 1, none⟩ = some (.slice As ns cs) := f1W 1 _ rfl; clear hWW f1W)
  have hw5W : w5.heap.size < W.heap.size := hzW
  have hbwW := hbw5.trans (hbW.mono hbw5.size)
  replace qa0 := cl hbW qa0
  replace qa1 := cl hbW qa1
  replace qa2 := cl hbW qa2
  replace qa3 := cl hbW qa3
  replace qa4 := cl hbW qa4
  replace qa5 := cl hbW qa5
  replace qfa := cz hbW qfa
  obtain ⟨hN0, xs, hxs, hall⟩ := HLS.out
  have HXS := Lib.hid (hxs.below hbW)
  have HALL := Lib.hid (hall.imp fun _ _ h => h.on hbW)
  have hln : (cAccs (bkAt l t)).length = na := HLS.out.len
  have hnm := hxs.nmax
  have HLN := Lib.hid hln
  clear hN0 hxs hall hln
  go_wp2_with fail
  go_loopw [9] (fun i wr => ∃ k : Nat, k ≤ na ∧ i = .int .i64 k ∧ Below W.heap.size W wr ∧ ∀ (m : Nat) y, m < k → (cAccs (bkAt l t))[m]? = some y → (y.1.id == x) = false) (fun i _ => na - (intOf i).toNat)
  case atStart => exact ⟨0, Nat.zero_le _, rfl, Below.refl _ _, fun m y hm => absurd hm (Nat.not_lt_zero _)⟩
  case round =>
    obtain ⟨k, hk, rfl, hbr, hno⟩ := hrel
    have HN := Lib.hid hno
    have hgr := hbr.size
    have hbwr := hbwW.trans (hbr.mono hbwW.size)
    replace pa0 := cl hbr pa0
    clear hno
    replace qa0 := cl hbr qa0
    replace qa1 := cl hbr qa1
    replace qa2 := cl hbr qa2
    replace qa3 := cl hbr qa3
    replace qa4 := cl hbr qa4
    replace qa5 := cl hbr qa5
    replace qfa := cz hbr qfa
    by_cases hlt : k < na
    · obtain ⟨b0, off, hAe, hbl, hcells⟩ := HXS.out.baseIn hbr (by omega)
      obtain ⟨v, hv⟩ := HXS.out.get hlt
      obtain ⟨y, hy, hsr⟩ := HALL.out.at_ hv
      have hbl2 : b0 < wr.heap.size := Nat.lt_of_lt_of_le hbl hbr.size
      have ev0 : wr.cell? ⟨b0, off + k * 6, none⟩ = some (.int .i64 v.id) := Sl.at_ hcells hv 0 rfl
      have ev1 : wr.cell? ⟨b0, off + k * 6 + 1, none⟩ = some (.int .i64 v.since) := Sl.at_ hcells hv 1 rfl
      have ev2 : wr.cell? ⟨b0, off + k * 6 + 2, none⟩ = some (.int .i64 v.anchor) := Sl.at_ hcells hv 2 rfl
      have ev3 : wr.cell? ⟨b0, off + k * 6 + 3, none⟩ = some (.bool v.prepaid) := Sl.at_ hcells hv 3 rfl
      have ev4 : wr.cell? ⟨b0, off + k * 6 + 4, none⟩ = some (.bool v.closed) := Sl.at_ hcells hv 4 rfl
      have ev5 : wr.cell? ⟨b0, off + k * 6 + 5, none⟩ = some (.slice v.A v.n v.c) := Sl.at_ hcells hv 5 rfl
      have HSR := Lib.hid (hsr.on hbr)
      have HY := Lib.hid hy
      have HID := Lib.hid hsr.id
      subst hAe
      clear hcells hv hsr hy
      by_cases heq : v.id = x
      · subst heq
        have HF := Lib.hid (show (cAccs (bkAt l t)).find? (fun y => y.1.id == v.id) = some y from findAt HY.out (by simp [HID.out]) HN.out)
        go_wp2_with fail
        have hr := setRun_is (vs := [.int .i64 v.id, .int .i64 v.since, .int .i64 v.anchor, .bool v.prepaid, .bool v.closed, .slice v.A v.n v.c]) (six qa0 qa1 qa2 qa3 qa4 qa5) (Nat.le_refl _)
        refine bodyPost_ret (results_cells2 (fn := Try.f33) (P := Try.prog) (p := 6) (u := 7) (ty := 46) rfl _ _ w.heap.size ⟨[.int .i64 v.id, .int .i64 v.since, .int .i64 v.anchor, .bool v.prepaid, .bool v.closed, .slice v.A v.n v.c]⟩ _ ?a1 ?a2 rfl rfl rfl) ?a3 ?_
        case a1 => rfl
        case a2 => exact hr
        case a3 => rfl
        rw [HF.out]
        have hbE : Below w.heap.size w (setRun wr w.heap.size 0 [.int .i64 v.id, .int .i64 v.since, .int .i64 v.anchor, .bool v.prepaid, .bool v.closed, .slice v.A v.n v.c]) := setRun_below _ _ _ hbwr (Nat.le_refl _)
        have hSE : AR (setRun wr w.heap.size 0 [.int .i64 v.id, .int .i64 v.since, .int .i64 v.anchor, .bool v.prepaid, .bool v.closed, .slice v.A v.n v.c]) v y := AR.setRunNe [.int .i64 v.id, .int .i64 v.since, .int .i64 v.anchor, .bool v.prepaid, .bool v.closed, .slice v.A v.n v.c] 0 HSR.out (old6 (fun z hz => (cAccs_rng y (List.mem_of_getElem? HY.out) z hz).1) qa0 qa1 qa2 qa3 qa4 qa5)
        exact ⟨⟨v, rfl, hSE⟩, hbE⟩
      · go_wp2_with fail
        go_roundw
        case rel =>
          refine ⟨k + 1, by omega, by go_num, hbr, fun m z hm hz => ?_⟩
          by_cases hmk : m = k
          · subst hmk
            have h2 := HY.out
            rw [hz] at h2
            cases h2
            simpa [← HID.out] using heq
          · exact HN.out m z (by omega) hz
        case measure => simp [intOf]; omega
    · obtain rfl : na = k := by omega
      have hkn : ¬ ((na : Int) < (na : Int)) := by omega
      have HF := Lib.hid (show (cAccs (bkAt l t)).find? (fun y => y.1.id == x) = none from findNone fun m y hy => HN.out m y (by have := (List.getElem?_eq_some_iff.1 hy).1; have := HLN.out; omega) hy)
      go_wp2_with fail
      have hr := setRun_is (vs := [.int .i64 0, .int .i64 0, .int .i64 0, .bool false, .bool false, .slice none 0 0]) (six qa0 qa1 qa2 qa3 qa4 qa5) (Nat.le_refl _)
      refine bodyPost_ret (results_cells2 (fn := Try.f33) (P := Try.prog) (p := 6) (u := 7) (ty := 46) rfl _ _ w.heap.size ⟨[.int .i64 0, .int .i64 0, .int .i64 0, .bool false, .bool false, .slice none 0 0]⟩ _ ?a1 ?a2 rfl rfl rfl) ?a3 ?_
      case a1 => rfl
      case a2 => exact hr
      case a3 => rfl
      rw [HF.out]
      exact ⟨⟨⟨0, 0, 0, false, false, none, 0, 0⟩, rfl, ⟨rfl, rfl, rfl, rfl, rfl, fun _ => rfl, Sl.nil_ _⟩⟩, setRun_below [.int .i64 0, .int .i64 0, .int .i64 0, .bool false, .bool false, .slice none 0 0] _ _ hbwr (Nat.le_refl _)⟩
set_option maxHeartbeats 8000000 in
theorem rSub_any (A : Option Addr) (n c : Nat) (l : List Ev) (x t : Int) (w : World) (hs : Sl w A n c l) (hv : Vl l) :
    Calls Try.prog 35 #[.slice A n c, .int .i64 x, .int .i64 t] w fun r w' => (∃ v : Sv, r = .returned (.tuple #[v.val, .bool ((cSubs (bkAt l t)).find? (fun y => y.id == x)).isSome]) ∧ SR w' v (((cSubs (bkAt l t)).find? (fun y => y.id == x)).getD sb0)) ∧ Below w.heap.size w w' := by
  have HS := Lib.hid hs
  have HV := Lib.hid hv
  rw [find_cSubs (at_inv hv t).2]
  clear hs hv
  go_enter Try.func35, Try.ntmps35
  go_upto_region 1 with (fail)
  (obtain ⟨V, hWV, hbV, hzV, f1V, qfa⟩ := box1 w #[.int .i64 0, .int .i64 0, .int .i64 0, .string ⟨#[]⟩, .slice none 0 0, .slice none 0 0, .bool false, .bool false] 51; rw [← hWV]; have qa0 : V.cell? ⟨w.heap.size, 0, none⟩ = some (.int .i64 0) := f1V 0 _ rfl; have qa1 : V.cell? ⟨w.heap.size, 1, none⟩ = some (.int .i64 0) := f1V 1 _ rfl; have qa2 : V.cell? ⟨w.heap.size, 2, none⟩ = some (.int .i64 0) := f1V 2 _ rfl; have qa3 : V.cell? ⟨w.heap.size, 3, none⟩ = some (.string ⟨#[]⟩) := f1V 3 _ rfl; have qa4 : V.cell? ⟨w.heap.size, 4, none⟩ = some (.slice none 0 0) := f1V 4 _ rfl; have qa5 : V.cell? ⟨w.heap.size, 5, none⟩ = some (.slice none 0 0) := f1V 5 _ rfl; have qa6 : V.cell? ⟨w.heap.size, 6, none⟩ = some (.bool false) := f1V 6 _ rfl; have qa7 : V.cell? ⟨w.heap.size, 7, none⟩ = some (.bool false) := f1V 7 _ rfl; clear hWV f1V)
  go_upto_region 2 with (go_at_call 76; go_must (refine (rUpto_any A n c l t _ (HS.out.below hbV) HV.out).mono ?_; rintro r w5 ⟨⟨A1, n1, c1, A2, n2, c2, A3, n3, c3, rfl, hbr⟩, hb5⟩; have HBR := Lib.hid hbr; clear hbr))
  have hbw5 := hbV.trans (hb5.mono hbV.size)
  have hg5 : w.heap.size < w5.heap.size := Nat.lt_of_lt_of_le hzV hb5.size
  replace qa0 := cl hb5 qa0
  replace qa1 := cl hb5 qa1
  replace qa2 := cl hb5 qa2
  replace qa3 := cl hb5 qa3
  replace qa4 := cl hb5 qa4
  replace qa5 := cl hb5 qa5
  replace qa6 := cl hb5 qa6
  replace qa7 := cl hb5 qa7
  replace qfa := cz hb5 qfa
  clear hb5 hbV
  (obtain ⟨W, hWW, hbW, hzW, f1W, pfa⟩ := box1 w5 #[.slice A1 n1 c1, .slice A2 n2 c2, .slice A3 n3 c3] 99; rw [← hWW]; have pa0 : W.cell? ⟨w5.heap.size, 0, none⟩ = some (.slice A1 n1 c1) := f1W 0 _ rfl; have pa1 : W.cell? ⟨w5.heap.size, 1, none⟩ = some (.slice A2 n2 c2) := f1W 1 _ rfl; have pa2 : W.cell? ⟨w5.heap.size, 2, none⟩ = some (.slice A3 n3 c3) := f1W 2 _ rfl; clear hWW f1W)
  have hbwW := hbw5.trans (hbW.mono hbw5.size)
  replace qa0 := cl hbW qa0
  replace qa1 := cl hbW qa1
  replace qa2 := cl hbW qa2
  replace qa3 := cl hbW qa3
  replace qa4 := cl hbW qa4
  replace qa5 := cl hbW qa5
  replace qa6 := cl hbW qa6
  replace qa7 := cl hbW qa7
  replace qfa := cz hbW qfa
  have hw5W : w5.heap.size < W.heap.size := hzW
  replace HBR := Lib.hid (HBR.out.on hbW)
  have hm2 : (bkAt l t).subs.length ≤ 40 := (bkAt_sz HV.out t).s
  rcases idxL_cases Sb.id (bkAt l t).subs x with ⟨hi, hf⟩ | ⟨j, sb, hi, hj, hx, hf, hid, hno⟩
  · have HI := Lib.hid hi
    have HLV : Hid (liveS (bkAt l t) x = none) := Lib.hid (by unfold liveS; rw [show findS (bkAt l t) x = none from hf]; split <;> rfl)
    clear hi hf
    go_wp2_with (go_at_call 77; go_must (refine (rsub_any _ _ _ _ _ _ _ _ _ (bkAt l t) x _ HBR.out).mono ?_; rintro r w6 ⟨rfl, hb6⟩; rw [HI.out]; (replace pa0 := cl hb6 pa0); (replace pa1 := cl hb6 pa1); (replace pa2 := cl hb6 pa2); (replace qa0 := cl hb6 qa0); (replace qa1 := cl hb6 qa1); (replace qa2 := cl hb6 qa2); (replace qa3 := cl hb6 qa3); (replace qa4 := cl hb6 qa4); (replace qa5 := cl hb6 qa5); (replace qa6 := cl hb6 qa6); (replace qa7 := cl hb6 qa7); (replace qfa := cz hb6 qfa)))
    have hbw6 := hbwW.trans (hb6.mono hbwW.size)
    have hr := setRun_is (vs := [.int .i64 0, .int .i64 0, .int .i64 0, .string ⟨#[]⟩, .slice none 0 0, .slice none 0 0, .bool false, .bool false]) (eight qa0 qa1 qa2 qa3 qa4 qa5 qa6 qa7) (Nat.le_refl _)
    refine bodyPost_ret (results_cells2 (fn := Try.f35) (P := Try.prog) (p := 6) (u := 7) (ty := 51) rfl _ _ w.heap.size ⟨[.int .i64 0, .int .i64 0, .int .i64 0, .string ⟨#[]⟩, .slice none 0 0, .slice none 0 0, .bool false, .bool false]⟩ _ ?a1 ?a2 rfl rfl rfl) ?a3 ?_
    case a1 => rfl
    case a2 => exact hr
    case a3 => rfl
    rw [HLV.out]
    exact ⟨⟨sv0, rfl, (sv0_sr _ (fun _ => True)).1⟩, setRun_below [.int .i64 0, .int .i64 0, .int .i64 0, .string ⟨#[]⟩, .slice none 0 0, .slice none 0 0, .bool false, .bool false] _ _ (hbw6) (Nat.le_refl _)⟩
  · have HI := Lib.hid hi
    obtain ⟨hN2, ys, hys, hall⟩ := HBR.out.s
    have hyn := hys.len
    obtain ⟨v, hv⟩ : ∃ v, ys[j]? = some v := ⟨_, List.getElem?_eq_getElem (by have := hall.1; omega)⟩
    have HSR := Lib.hid (hall.2 j v sb hv hx)
    have HV2 := Lib.hid hv
    have HYS := Lib.hid hys
    have HX := Lib.hid hx
    have hn2 : j < n2 := by have := hall.1; omega
    obtain ⟨e, he⟩ : ∃ e, endedB (bkAt l t) x = e := ⟨_, rfl⟩
    have HE := Lib.hid he
    have HLV := Lib.hid (show liveS (bkAt l t) x = if e = true then none else some sb by unfold liveS; rw [he, show findS (bkAt l t) x = some sb from hf])
    have hjn : ¬ ((j : Int) < 0) := by omega
    clear hi hf hid hno hx hall hN2 hv he hys
    cases e
    case true =>
      go_wp2_with (first
        | (go_at_call 77; go_must (refine (rsub_any _ _ _ _ _ _ _ _ _ (bkAt l t) x _ HBR.out).mono ?_; rintro r w6 ⟨rfl, hb6⟩; rw [HI.out]; (have hs6 := hb6.size); (replace pa0 := cl hb6 pa0); (replace pa1 := cl hb6 pa1); (replace pa2 := cl hb6 pa2)))
        | (go_at_call 78; go_must (refine (rended_any _ _ _ _ _ _ _ _ _ (bkAt l t) x _ (HBR.out.on hb6)).mono ?_; rintro r w7 ⟨rfl, hb7⟩; rw [HE.out]; (have hb67 := hb6.trans (hb7.mono hb6.size)); (replace pa1 := cl hb7 pa1); (replace qa0 := cl hb67 qa0); (replace qa1 := cl hb67 qa1); (replace qa2 := cl hb67 qa2); (replace qa3 := cl hb67 qa3); (replace qa4 := cl hb67 qa4); (replace qa5 := cl hb67 qa5); (replace qa6 := cl hb67 qa6); (replace qa7 := cl hb67 qa7); (replace qfa := cz hb67 qfa))))
      have hbw7 := hbwW.trans (hb67.mono hbwW.size)
      replace HLV := Lib.hid (HLV.out.trans (if_pos (by simp)))
      have hr := setRun_is (vs := [.int .i64 0, .int .i64 0, .int .i64 0, .string ⟨#[]⟩, .slice none 0 0, .slice none 0 0, .bool false, .bool false]) (eight qa0 qa1 qa2 qa3 qa4 qa5 qa6 qa7) (Nat.le_refl _)
      refine bodyPost_ret (results_cells2 (fn := Try.f35) (P := Try.prog) (p := 6) (u := 7) (ty := 51) rfl _ _ w.heap.size ⟨[.int .i64 0, .int .i64 0, .int .i64 0, .string ⟨#[]⟩, .slice none 0 0, .slice none 0 0, .bool false, .bool false]⟩ _ ?a1 ?a2 rfl rfl rfl) ?a3 ?_
      case a1 => rfl
      case a2 => exact hr
      case a3 => rfl
      rw [HLV.out]
      exact ⟨⟨sv0, rfl, (sv0_sr _ (fun _ => True)).1⟩, setRun_below [.int .i64 0, .int .i64 0, .int .i64 0, .string ⟨#[]⟩, .slice none 0 0, .slice none 0 0, .bool false, .bool false] _ _ (hbw7) (Nat.le_refl _)⟩
    case false =>
      go_upto_region 5 with (first
        | (go_at_call 77; go_must (refine (rsub_any _ _ _ _ _ _ _ _ _ (bkAt l t) x _ HBR.out).mono ?_; rintro r w6 ⟨rfl, hb6⟩; rw [HI.out]; (have hs6 := hb6.size); (replace pa0 := cl hb6 pa0); (replace pa1 := cl hb6 pa1); (replace pa2 := cl hb6 pa2)))
        | (go_at_call 78; go_must (refine (rended_any _ _ _ _ _ _ _ _ _ (bkAt l t) x _ (HBR.out.on hb6)).mono ?_; rintro r w7 ⟨rfl, hb7⟩; rw [HE.out]; (have hb67 := hb6.trans (hb7.mono hb6.size)); (replace pa1 := cl hb7 pa1); (replace qa0 := cl hb67 qa0); (replace qa1 := cl hb67 qa1); (replace qa2 := cl hb67 qa2); (replace qa3 := cl hb67 qa3); (replace qa4 := cl hb67 qa4); (replace qa5 := cl hb67 qa5); (replace qa6 := cl hb67 qa6); (replace qa7 := cl hb67 qa7); (replace qfa := cz hb67 qfa))))
      have hbw7 := hbwW.trans (hb67.mono hbwW.size)
      replace HLV := Lib.hid (HLV.out.trans (if_neg (by simp)))
      obtain ⟨b0, off, hAe, hbl, hcells⟩ := HYS.out.baseIn hb67 (by omega)
      have ev0 : w7.cell? ⟨b0, off + j * 8, none⟩ = some (.int .i64 v.id) := Sl.at_ hcells HV2.out 0 rfl
      have ev1 : w7.cell? ⟨b0, off + j * 8 + 1, none⟩ = some (.int .i64 v.acc) := Sl.at_ hcells HV2.out 1 rfl
      have ev2 : w7.cell? ⟨b0, off + j * 8 + 2, none⟩ = some (.int .i64 v.since) := Sl.at_ hcells HV2.out 2 rfl
      have ev3 : w7.cell? ⟨b0, off + j * 8 + 3, none⟩ = some (.string v.plan) := Sl.at_ hcells HV2.out 3 rfl
      have ev4 : w7.cell? ⟨b0, off + j * 8 + 4, none⟩ = some (.slice v.An v.nn v.cn) := Sl.at_ hcells HV2.out 4 rfl
      have ev5 : w7.cell? ⟨b0, off + j * 8 + 5, none⟩ = some (.slice v.Ap v.np v.cp) := Sl.at_ hcells HV2.out 5 rfl
      have ev6 : w7.cell? ⟨b0, off + j * 8 + 6, none⟩ = some (.bool v.susp) := Sl.at_ hcells HV2.out 6 rfl
      have ev7 : w7.cell? ⟨b0, off + j * 8 + 7, none⟩ = some (.bool v.fam) := Sl.at_ hcells HV2.out 7 rfl
      have HSX := Lib.hid (HSR.out.on hb67)
      subst hAe
      clear hcells
      go_wp2_with fail
      have hr := setRun_is (vs := [.int .i64 v.id, .int .i64 v.acc, .int .i64 v.since, .string v.plan, .slice v.An v.nn v.cn, .slice v.Ap v.np v.cp, .bool v.susp, .bool v.fam]) (eight qa0 qa1 qa2 qa3 qa4 qa5 qa6 qa7) (Nat.le_refl _)
      refine bodyPost_ret (results_cells2 (fn := Try.f35) (P := Try.prog) (p := 6) (u := 7) (ty := 51) rfl _ _ w.heap.size ⟨[.int .i64 v.id, .int .i64 v.acc, .int .i64 v.since, .string v.plan, .slice v.An v.nn v.cn, .slice v.Ap v.np v.cp, .bool v.susp, .bool v.fam]⟩ _ ?a1 ?a2 rfl rfl rfl) ?a3 ?_
      case a1 => rfl
      case a2 => exact hr
      case a3 => rfl
      rw [HLV.out]
      have hbE : Below w.heap.size w (setRun w7 w.heap.size 0 [.int .i64 v.id, .int .i64 v.acc, .int .i64 v.since, .string v.plan, .slice v.An v.nn v.cn, .slice v.Ap v.np v.cp, .bool v.susp, .bool v.fam]) := setRun_below _ _ _ hbw7 (Nat.le_refl _)
      have hSE : SR (setRun w7 w.heap.size 0 [.int .i64 v.id, .int .i64 v.acc, .int .i64 v.since, .string v.plan, .slice v.An v.nn v.cn, .slice v.Ap v.np v.cp, .bool v.susp, .bool v.fam]) v sb := SR.setRunNe [.int .i64 v.id, .int .i64 v.acc, .int .i64 v.since, .string v.plan, .slice v.An v.nn v.cn, .slice v.Ap v.np v.cp, .bool v.susp, .bool v.fam] 0 HSX.out (old8 (bkAt_ne HV.out t sb (List.mem_of_getElem? HX.out)) qa0 qa1 qa2 qa3 qa4 qa5 qa6 qa7)
      exact ⟨⟨v, rfl, hSE⟩, hbE⟩
end Cu
end Go.Proofs.Yteaanngagcflhaa
