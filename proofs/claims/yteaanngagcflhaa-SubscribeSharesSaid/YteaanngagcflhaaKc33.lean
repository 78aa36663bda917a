/-
  Subscriptions: law Shares. No condition.
-/
import Derived.Test.YteaanngagcflhaaKc30
import Derived.Test.YteaanngagcflhaaKc31
import Derived.Test.YteaanngagcflhaaKc28
import Derived.BigQuiet
import Derived.StillTailTactics
import Derived.Lib.Overlaps
import Derived.Deep.DeepCutAuto
import Derived.Deep.RegionWith
import Derived.Laws.RangeAny
set_option maxRecDepth 100000
set_option linter.unusedVariables false
set_option linter.unusedSimpArgs false
namespace Go.Proofs.Yteaanngagcflhaa
open Go.RowKit
namespace Ss
open Cu
set_option maxHeartbeats 16000000 in
theorem law_shares (A : Option Addr) (n c : Nat) (l : List Ev) (x t : Int) (w : World) (hs : Sl w A n c l) (hz : SzOk l) :
    Calls Try.prog 20 #[.slice A n c, .int .i64 x, .int .i64 t] w fun r w' => r = .returned (.bool true) ∧ Below w.heap.size w w' := by
  have HS := Lib.hid hs
  have HZ := Lib.hid hz
  clear hs hz
  go_enter Try.func20, Try.ntmps20
  cases hvl : vlB l
  · have HVB := Lib.hid hvl
    clear hvl
    go_wp2_with (first
      | (go_at_call 25; go_must (refine (rValid_any A n c l _ HS.out HZ.out).mono ?_; rintro r w1 ⟨rfl, hb1⟩; rw [HVB.out]))
      | (go_at_call 51; go_must (refine (awake20_any _).mono ?_; rintro r w2 ⟨rfl, hb2⟩)))
    go_ret
    exact ⟨rfl, (hb1.trans (hb2.mono hb1.size))⟩
  have HVB := Lib.hid hvl
  have HV := Lib.hid (vlB_true hvl)
  have h1000 : n ≤ 1000 := by have := HS.out.len; have := HV.out.1; omega
  clear hvl
  by_cases h0 : t < 0
  · have d0 : decide (t < 0) = true := decide_eq_true h0
    go_wp2_with (first
      | (go_at_call 25; go_must (refine (rValid_any A n c l _ HS.out HZ.out).mono ?_; rintro r w1 ⟨rfl, hb1⟩; rw [HVB.out]))
      | (go_at_call 51; go_must (refine (awake20_any _).mono ?_; rintro r w2 ⟨rfl, hb2⟩)))
    go_ret
    exact ⟨rfl, (hb1.trans (hb2.mono hb1.size))⟩
  have d0 : decide (t < 0) = false := decide_eq_false h0
  by_cases hF : 12622780800 ≤ t
  · have dF : decide (12622780800 ≤ t) = true := decide_eq_true hF
    go_wp2_with (first
      | (go_at_call 25; go_must (refine (rValid_any A n c l _ HS.out HZ.out).mono ?_; rintro r w1 ⟨rfl, hb1⟩; rw [HVB.out]))
      | (go_at_call 51; go_must (refine (awake20_any _).mono ?_; rintro r w2 ⟨rfl, hb2⟩)))
    go_ret
    exact ⟨rfl, (hb1.trans (hb2.mono hb1.size))⟩
  have dF : decide (12622780800 ≤ t) = false := decide_eq_false hF
  go_upto_region 3 with (go_at_call 25; go_must (refine (rValid_any A n c l _ HS.out HZ.out).mono ?_; rintro r w1 ⟨rfl, hb1⟩; rw [HVB.out]))
  replace HS := Lib.hid (HS.out.below hb1)
  have HBK := Lib.hid (at_inv HV.out t).2
  obtain ⟨os, hos⟩ : ∃ os, (cSubs (bkAt l t)).find? (fun y => y.id == x) = os := ⟨_, rfl⟩
  obtain ⟨od, hod⟩ : ∃ od, atI (spE l x) t = od := ⟨_, rfl⟩
  have HOS := Lib.hid hos
  have HOD := Lib.hid hod
  have HREL : Hid (od.map (·.q) = os.map qOf) := Lib.hid (by rw [← hod, ← hos, at_q HV.out (by omega) (by omega), find_st HV.out])
  have HSH : Hid (x ∈ famE (bkAt l t) (os.getD sb0).acc ↔ ∃ s, os = some s ∧ s.fam = true) := Lib.hid (fam_share HBK.out hos)
  clear hos hod
  go_upto_region 4 with (go_at_call 52; go_must (refine (At_any _ n c l x t _ HS.out HV.out).mono ?_; rintro r w2 ⟨⟨v, rfl, hv⟩, hb2⟩; rw [HOD.out] at hv ⊢; have HLV := Lib.hid hv.fam; clear hv; unfold Lv.val))
  (obtain ⟨W, hWW, hbW, hzW, f1W, pfa⟩ := box1 w2 #[.int .i64 v.f, .int .i64 v.t, .string v.plan, .slice v.A v.n v.c, .bool v.susp, .bool v.fam] 76; rw [← hWW]; have pa0 : W.cell? ⟨w2.heap.size, 0, none⟩ = some (.int .i64 v.f) := f1W 0 _ rfl; have pa1 : W.cell? ⟨w2.heap.size, 1, none⟩ = some (.int .i64 v.t) := f1W 1 _ rfl; have pa2 : W.cell? ⟨w2.heap.size, 2, none⟩ = some (.string v.plan) := f1W 2 _ rfl; have pa3 : W.cell? ⟨w2.heap.size, 3, none⟩ = some (.slice v.A v.n v.c) := f1W 3 _ rfl; have pa4 : W.cell? ⟨w2.heap.size, 4, none⟩ = some (.bool v.susp) := f1W 4 _ rfl; have pa5 : W.cell? ⟨w2.heap.size, 5, none⟩ = some (.bool v.fam) := f1W 5 _ rfl; clear hWW f1W)
  have hb2W := hb2.trans (hbW.mono hb2.size)
  replace HS := Lib.hid (HS.out.below hb2W)
  have hbwW := hb1.trans (hb2W.mono hb1.size)
  clear hb1 hb2 hbW hb2W pa0 pa1 pa2 pa3 pa4
  go_upto_region 5 with (go_at_call 34; go_must (refine (Sub_any _ n c l x t _ HS.out HV.out HZ.out).mono ?_; rintro r w3 ⟨⟨z, rfl, hz⟩, hb3⟩; rw [HOS.out] at hz ⊢; have HZA := Lib.hid hz.acc; clear hz; unfold Sv.val))
  (obtain ⟨X, hWX, hbX, hzX, f1X, yfa⟩ := box1 w3 #[.int .i64 z.id, .int .i64 z.acc, .int .i64 z.since, .string z.plan, .slice z.An z.nn z.cn, .slice z.Ap z.np z.cp, .bool z.susp, .bool z.fam] 51; rw [← hWX]; have ya0 : X.cell? ⟨w3.heap.size, 0, none⟩ = some (.int .i64 z.id) := f1X 0 _ rfl; have ya1 : X.cell? ⟨w3.heap.size, 1, none⟩ = some (.int .i64 z.acc) := f1X 1 _ rfl; have ya2 : X.cell? ⟨w3.heap.size, 2, none⟩ = some (.int .i64 z.since) := f1X 2 _ rfl; have ya3 : X.cell? ⟨w3.heap.size, 3, none⟩ = some (.string z.plan) := f1X 3 _ rfl; have ya4 : X.cell? ⟨w3.heap.size, 4, none⟩ = some (.slice z.An z.nn z.cn) := f1X 4 _ rfl; have ya5 : X.cell? ⟨w3.heap.size, 5, none⟩ = some (.slice z.Ap z.np z.cp) := f1X 5 _ rfl; have ya6 : X.cell? ⟨w3.heap.size, 6, none⟩ = some (.bool z.susp) := f1X 6 _ rfl; have ya7 : X.cell? ⟨w3.heap.size, 7, none⟩ = some (.bool z.fam) := f1X 7 _ rfl; clear hWX f1X)
  have hb3X := hb3.trans (hbX.mono hb3.size)
  replace pa5 := cl hb3X pa5
  replace HS := Lib.hid (HS.out.below hb3X)
  have hbwX := hbwW.trans (hb3X.mono hbwW.size)
  have hwX : w2.heap.size < X.heap.size := Nat.lt_of_lt_of_le hzW hb3X.size
  clear hb3 hbX hb3X ya0 ya2 ya3 ya4 ya5 ya6 ya7
  have HFA : Hid (famE (bkAt l t) z.acc = famE (bkAt l t) (os.getD sb0).acc) := Lib.hid (by rw [HZA.out])
  go_upto_region 6 with (go_at_call 64; go_must (refine (Family_any _ n c l z.acc t _ HS.out HV.out HZ.out).mono ?_; rintro r w4 ⟨⟨A4, n4, c4, rfl, h4⟩, hb4⟩; rw [HFA.out] at h4; have H4 := Lib.hid h4.2; clear h4))
  have hbw4 := hbwX.trans (hb4.mono hbwX.size)
  replace pa5 := cl hb4 pa5
  have hw4 : w2.heap.size < w4.heap.size := Nat.lt_of_lt_of_le hwX hb4.size
  have HASC : Hid ((famE (bkAt l t) (os.getD sb0).acc).Pairwise (· < ·)) := Lib.hid (fam_asc _ _)
  have HLN := Lib.hid H4.out.len
  have hnm := H4.out.nmax
  have HCNT : Hid (cntI (famE (bkAt l t) (os.getD sb0).acc) x n4 = if x ∈ famE (bkAt l t) (os.getD sb0).acc then 1 else 0) := Lib.hid (cntI_all HASC.out x HLN.out)
  obtain ⟨FM, hFM⟩ : ∃ FM, famE (bkAt l t) (os.getD sb0).acc = FM := ⟨_, rfl⟩
  rw [hFM] at H4 HASC HLN HCNT HSH
  clear hFM hb4
  go_wp2_with fail
  go_loopw [12, 13] (fun v12 i wr => ∃ (k m : Nat), k ≤ n4 ∧ i = .int .i64 k ∧ v12 = .int .i64 m ∧ m = cntI FM x k ∧ m ≤ k ∧ Below w4.heap.size w4 wr) (fun _ i _ => n4 - (intOf i).toNat)
  case atStart => exact ⟨0, 0, Nat.zero_le _, rfl, rfl, rfl, Nat.le_refl _, Below.refl _ _⟩
  case round =>
    obtain ⟨k, m, hk, rfl, rfl, hm, hmk, hbr⟩ := hrel
    have HM := Lib.hid hm
    have hgr := hbr.size
    clear hm
    by_cases hlt : k < n4
    · obtain ⟨b, off, hAe, hbl, hcells⟩ := H4.out.baseIn hbr (by omega)
      obtain ⟨y, hy⟩ := H4.out.get hlt
      have e0 : wr.cell? ⟨b, off + k * 1, none⟩ = some (.int .i64 y) := Sl.at_ hcells hy 0 rfl
      rw [Nat.mul_one] at e0
      have HC := Lib.hid @hcells
      have HY := Lib.hid hy
      have HSUC := Lib.hid (cntI_succ (x := x) hy)
      have hkw : IntKind.i64.wrap ((k : Int) + 1) = (k : Int) + 1 := IntWalk.i64_in _ (by omega)
      have hmw : IntKind.i64.wrap ((m : Int) + 1) = (m : Int) + 1 := IntWalk.i64_in _ (by omega)
      subst hAe
      clear hcells hy
      rcases be_or y x with ⟨h1, b1, d1⟩ | ⟨h1, b1, d1⟩
      · have HN : Hid (m + 1 = cntI FM x (k + 1)) := Lib.hid (by rw [HSUC.out, ← HM.out, if_pos b1])
        clear h1
        go_upto_region 12 with (fail)
        go_cut [72] from 88 (fun v wx => v = .bool false ∧ Below wr.heap.size wr wx)
        case first =>
          rcases Nat.eq_zero_or_pos k with hk0 | hk0
          · subst hk0
            have kd : decide ((0 : Int) < 0) = false := rfl
            clear HC
            ((with_reducible refine wp_region_quiet_lit ?_ ?_ ?_); kernel_rfl; kernel_rfl; (repeat (any_goals (first | go_big_quiet_step (fail) | (refine wpQuiet_step (fun K hK => ?_); go_simp; (first | (refine hK _ ?_; clear hK K) | (split <;> rename_i hg <;> (refine hK _ ?_; clear hK K) <;> (try simp only [Bool.not_eq_true] at hg) <;> (first | simp only [Int.not_lt.2 hg, decide_false] | simp only [Int.not_le.1 hg, decide_true] | simp only [hg, decide_true, decide_false] | skip))))))); all_goals (refine wpQuiet_nil ?_; intro _ hw'; obtain ⟨nq, hw''⟩ := hw'; subst hw''))
            go_wp2_with fail
            go_meet
            exact ⟨rfl, below_drewN (Below.refl _ _) _⟩
          · obtain ⟨u, hu⟩ := H4.out.get (show k - 1 < n4 by omega)
            have f0 : wr.cell? ⟨b, off + (k - 1) * 1, none⟩ = some (.int .i64 u) := Sl.at_ HC.out hu 0 rfl
            rw [Nat.mul_one] at f0
            have huy : u < y := by
              obtain ⟨a1, rfl⟩ := List.getElem?_eq_some_iff.1 hu
              obtain ⟨a2, e2⟩ := List.getElem?_eq_some_iff.1 HY.out
              rw [← e2]
              exact List.pairwise_iff_getElem.1 HASC.out (k - 1) k a1 a2 (by omega)
            have n3 : ¬ y ≤ u := by omega
            have m3 : decide (y ≤ u) = false := decide_eq_false n3
            have kd : decide ((0 : Int) < (k : Int)) = true := decide_eq_true (by omega)
            have kn : decide (0 < k) = true := decide_eq_true hk0
            have hm1 : IntKind.i64.wrap ((k : Int) - 1) = ((k - 1 : Nat) : Int) := by rw [IntWalk.i64_in _ (by omega)]; omega
            have hkl : k - 1 < n4 := by omega
            clear HC hu huy
            ((with_reducible refine wp_region_quiet_lit ?_ ?_ ?_); kernel_rfl; kernel_rfl; (repeat (any_goals (first | go_big_quiet_step (fail) | (refine wpQuiet_step (fun K hK => ?_); go_simp; (first | (refine hK _ ?_; clear hK K) | (split <;> rename_i hg <;> (refine hK _ ?_; clear hK K) <;> (try simp only [Bool.not_eq_true] at hg) <;> (first | simp only [Int.not_lt.2 hg, decide_false] | simp only [Int.not_le.1 hg, decide_true] | simp only [hg, decide_true, decide_false] | skip))))))); all_goals (refine wpQuiet_nil ?_; intro _ hw'; obtain ⟨nq, hw''⟩ := hw'; subst hw''))
            go_wp2_with fail
            go_meet
            exact ⟨rfl, below_drewN (Below.refl _ _) _⟩
        case rest =>
          obtain ⟨rfl, hbC⟩ := hcut
          have hbrC := hbr.trans (hbC.mono hbr.size)
          clear hbC hbr HC
          go_wp2_with fail
          go_roundw
          case rel => exact ⟨k + 1, m + 1, by omega, by go_num, by go_num, HN.out, by omega, hbrC⟩
          case measure => simp [intOf]; omega
      · have HN : Hid (m = cntI FM x (k + 1)) := Lib.hid (by rw [HSUC.out, ← HM.out, if_neg (by rw [b1]; decide)]; rfl)
        clear h1
        go_upto_region 12 with (fail)
        go_cut [72] from 88 (fun v wx => v = .bool false ∧ Below wr.heap.size wr wx)
        case first =>
          rcases Nat.eq_zero_or_pos k with hk0 | hk0
          · subst hk0
            have kd : decide ((0 : Int) < 0) = false := rfl
            clear HC
            ((with_reducible refine wp_region_quiet_lit ?_ ?_ ?_); kernel_rfl; kernel_rfl; (repeat (any_goals (first | go_big_quiet_step (fail) | (refine wpQuiet_step (fun K hK => ?_); go_simp; (first | (refine hK _ ?_; clear hK K) | (split <;> rename_i hg <;> (refine hK _ ?_; clear hK K) <;> (try simp only [Bool.not_eq_true] at hg) <;> (first | simp only [Int.not_lt.2 hg, decide_false] | simp only [Int.not_le.1 hg, decide_true] | simp only [hg, decide_true, decide_false] | skip))))))); all_goals (refine wpQuiet_nil ?_; intro _ hw'; obtain ⟨nq, hw''⟩ := hw'; subst hw''))
            go_wp2_with fail
            go_meet
            exact ⟨rfl, below_drewN (Below.refl _ _) _⟩
          · obtain ⟨u, hu⟩ := H4.out.get (show k - 1 < n4 by omega)
            have f0 : wr.cell? ⟨b, off + (k - 1) * 1, none⟩ = some (.int .i64 u) := Sl.at_ HC.out hu 0 rfl
            rw [Nat.mul_one] at f0
            have huy : u < y := by
              obtain ⟨a1, rfl⟩ := List.getElem?_eq_some_iff.1 hu
              obtain ⟨a2, e2⟩ := List.getElem?_eq_some_iff.1 HY.out
              rw [← e2]
              exact List.pairwise_iff_getElem.1 HASC.out (k - 1) k a1 a2 (by omega)
            have n3 : ¬ y ≤ u := by omega
            have m3 : decide (y ≤ u) = false := decide_eq_false n3
            have kd : decide ((0 : Int) < (k : Int)) = true := decide_eq_true (by omega)
            have kn : decide (0 < k) = true := decide_eq_true hk0
            have hm1 : IntKind.i64.wrap ((k : Int) - 1) = ((k - 1 : Nat) : Int) := by rw [IntWalk.i64_in _ (by omega)]; omega
            have hkl : k - 1 < n4 := by omega
            clear HC hu huy
            ((with_reducible refine wp_region_quiet_lit ?_ ?_ ?_); kernel_rfl; kernel_rfl; (repeat (any_goals (first | go_big_quiet_step (fail) | (refine wpQuiet_step (fun K hK => ?_); go_simp; (first | (refine hK _ ?_; clear hK K) | (split <;> rename_i hg <;> (refine hK _ ?_; clear hK K) <;> (try simp only [Bool.not_eq_true] at hg) <;> (first | simp only [Int.not_lt.2 hg, decide_false] | simp only [Int.not_le.1 hg, decide_true] | simp only [hg, decide_true, decide_false] | skip))))))); all_goals (refine wpQuiet_nil ?_; intro _ hw'; obtain ⟨nq, hw''⟩ := hw'; subst hw''))
            go_wp2_with fail
            go_meet
            exact ⟨rfl, below_drewN (Below.refl _ _) _⟩
        case rest =>
          obtain ⟨rfl, hbC⟩ := hcut
          have hbrC := hbr.trans (hbC.mono hbr.size)
          clear hbC hbr HC
          go_wp2_with fail
          go_roundw
          case rel => exact ⟨k + 1, m, by omega, by go_num, rfl, HN.out, by omega, hbrC⟩
          case measure => simp [intOf]; omega
    · obtain rfl : n4 = k := by omega
      have hkn : ¬ ((n4 : Int) < (n4 : Int)) := by omega
      have hbwr := hbw4.trans (hbr.mono hbw4.size)
      replace pa5 := cl hbr pa5
      have hmc : m = if x ∈ FM then 1 else 0 := HM.out.trans HCNT.out
      cases od with
      | none =>
        have hno : os = none := by
          cases os with
          | none => rfl
          | some s => have := HREL.out; cases this
        obtain rfl : m = 0 := by rw [hmc, if_neg (fun h => by obtain ⟨s, hs, _⟩ := HSH.out.1 h; rw [hno] at hs; cases hs)]
        clear hno hmc
        go_wp2_with (go_at_call 51; go_must (refine (awake20_any _).mono ?_; rintro r w8 ⟨rfl, hb8⟩))
        go_ret
        exact ⟨rfl, hbwr.trans (hb8.mono hbwr.size)⟩
      | some d =>
        obtain ⟨s, hs, hq⟩ : ∃ s, os = some s ∧ d.q = qOf s := by
          cases os with
          | none => have := HREL.out; cases this
          | some s => exact ⟨s, rfl, Option.some.inj HREL.out⟩
        have hvf : v.fam = s.fam := by rw [HLV.out]; show d.q.fam = _; rw [hq]; rfl
        cases hf : s.fam
        · rw [hvf, hf] at pa5
          obtain rfl : m = 0 := by rw [hmc, if_neg (fun h => by obtain ⟨s', hs', hf'⟩ := HSH.out.1 h; rw [hs] at hs'; cases hs'; rw [hf] at hf'; cases hf')]
          clear hmc hs hq hvf hf
          go_wp2_with (go_at_call 51; go_must (refine (awake20_any _).mono ?_; rintro r w8 ⟨rfl, hb8⟩))
          go_ret
          exact ⟨rfl, hbwr.trans (hb8.mono hbwr.size)⟩
        · rw [hvf, hf] at pa5
          obtain rfl : m = 1 := by rw [hmc, if_pos (HSH.out.2 ⟨s, hs, hf⟩)]
          clear hmc hs hq hvf hf
          go_wp2_with (go_at_call 51; go_must (refine (awake20_any _).mono ?_; rintro r w8 ⟨rfl, hb8⟩))
          go_ret
          exact ⟨rfl, hbwr.trans (hb8.mono hbwr.size)⟩
end Ss
end Go.Proofs.Yteaanngagcflhaa
