/-
  Customers: laws States, Finds, Past. No condition.
-/
import Derived.Test.YteaanngagcflhaaCuBC
import Derived.Test.YteaanngagcflhaaCuAQ
import Derived.Test.YteaanngagcflhaaCuBA
import Derived.Test.YteaanngagcflhaaCuAP
import Derived.Test.YteaanngagcflhaaCuBE
import Derived.BigQuiet
import Derived.StillTailTactics
import Derived.Lib.Overlaps
import Derived.Deep.DeepCutAuto
import Derived.Deep.RegionWith
import Derived.Laws.RangeAny
set_option maxRecDepth 100000
set_option linter.unusedVariables false
set_option linter.unusedSimpArgs false
namespace Go.Proofs.Yteaanngagcflhaa
open Go.RowKit

namespace Cu
/-- customers in memory -/
def cuF (b : Bk) (v : Value) (w : World) : Prop := ∃ Aa na ca As ns cs, v = .agg #[.slice Aa na ca, .slice As ns cs] ∧ LAc w Aa na ca (cAccs b) ∧ LSb w As ns cs (cSubs b)
theorem cuF_on (b : Bk) : stays (cuF b) := fun v w w' hb ⟨Aa, na, ca, As, ns, cs, e, ha, hs⟩ => ⟨Aa, na, ca, As, ns, cs, e, LS.on (fun _ _ _ _ h k => h.on k) ha hb, LS.on (fun _ _ _ _ h k => h.on k) hs hb⟩
theorem kn_at {P : Program} {ops : Array Oper} {C : World → Prop} {R : World → World → Prop} {N : List Tmp} {F : Tmp → Value → World → Prop} {Q : Act → Prop} {o : Oper} {rest : List Oper} {a : Act} (d : Tmp) (hd : o.dst = some d) (h : wpMix P ops C R N F Q (o :: rest) a) : wpMix P ops C R N F Q (o :: rest) a := h
set_option maxHeartbeats 8000000 in
theorem law_states (A : Option Addr) (n c : Nat) (l : List Ev) (t : Int) (w : World) (hs : Sl w A n c l) (hz : SzOk l) :
    Calls Try.prog 4 #[.slice A n c, .int .i64 t] w fun r w' => r = .returned (.bool true) ∧ Below w.heap.size w w' := by
  have HS := Lib.hid hs
  have HZ := Lib.hid hz
  clear hs hz
  go_enter Try.func4, Try.ntmps4
  cases hvl : vlB l
  · have HVB := Lib.hid hvl
    clear hvl
    go_wp2_with (first
      | (go_at_call 25; go_must (refine (rValid_any A n c l _ HS.out HZ.out).mono ?_; rintro r w1 ⟨rfl, hb1⟩; rw [HVB.out]))
      | (go_at_call 22; go_must (refine (awake_any _).mono ?_; rintro r w2 ⟨rfl, hb2⟩)))
    go_ret
    exact ⟨rfl, hb1.trans (hb2.mono hb1.size)⟩
  have HVB := Lib.hid hvl
  have HV := Lib.hid (vlB_true hvl)
  clear hvl
  go_upto_region 3 with (go_at_call 25; go_must (refine (rValid_any A n c l _ HS.out HZ.out).mono ?_; rintro r w1 ⟨rfl, hb1⟩; rw [HVB.out]))
  replace HS := Lib.hid (HS.out.below hb1)
  go_wp2_with (first
    | (go_at_call 27; go_must (refine (State_vl A n c l t _ HS.out HV.out HZ.out).mono ?_; rintro r w2 ⟨Aa, na, ca, As, ns, cs, rfl, h1, h2, hb2⟩; have HA := Lib.hid h1; have HB := Lib.hid h2; clear h1 h2))
    | (go_at_call 28; go_must (refine (rState_any A n c l t _ (HS.out.below hb2) HV.out).mono ?_; rintro r w3 ⟨Ba, ma, da, Bs, ms, ds, rfl, h1, h2, hb3⟩; have HC := Lib.hid h1; have HD := Lib.hid h2; clear h1 h2))
    | (go_at_call 26; go_must (refine (Same_any Aa na ca As ns cs Ba ma da Bs ms ds _ _ _ _ _ (LS.on (fun _ _ _ _ h k => h.on k) HA.out hb3) (LS.on (fun _ _ _ _ h k => h.on k) HB.out hb3) HC.out HD.out).mono ?_; rintro r w4 ⟨hr, hb4⟩; obtain rfl := hr.t rfl; clear hr))
    | (go_at_call 22; go_must (refine (awake_any _).mono ?_; rintro r w5 ⟨rfl, hb5⟩)))
  go_ret
  exact ⟨rfl, hb1.trans ((hb2.trans ((hb3.trans ((hb4.trans (hb5.mono hb4.size)).mono hb3.size)).mono hb2.size)).mono hb1.size)⟩
set_option maxHeartbeats 8000000 in
theorem law_past (A : Option Addr) (n c : Nat) (l : List Ev) (t : Int) (w : World) (hs : Sl w A n c l) (hz : SzOk l) :
    Calls Try.prog 6 #[.slice A n c, .int .i64 t] w fun r w' => r = .returned (.bool true) ∧ Below w.heap.size w w' := by
  have HS := Lib.hid hs
  have HZ := Lib.hid hz
  clear hs hz
  go_enter Try.func6, Try.ntmps6
  cases hvl : vlB l
  · have HVB := Lib.hid hvl
    clear hvl
    go_wp2_with (first
      | (go_at_call 25; go_must (refine (rValid_any A n c l _ HS.out HZ.out).mono ?_; rintro r w1 ⟨rfl, hb1⟩; rw [HVB.out]))
      | (go_at_call 22; go_must (refine (awake_any _).mono ?_; rintro r w2 ⟨rfl, hb2⟩)))
    go_ret
    exact ⟨rfl, hb1.trans (hb2.mono hb1.size)⟩
  have HVB := Lib.hid hvl
  have HV := Lib.hid (vlB_true hvl)
  clear hvl
  go_upto_region 3 with (go_at_call 25; go_must (refine (rValid_any A n c l _ HS.out HZ.out).mono ?_; rintro r w1 ⟨rfl, hb1⟩; rw [HVB.out]))
  replace HS := Lib.hid (HS.out.below hb1)
  have hnl : l.length = n := HS.out.len
  have hcl : cutN l t ≤ n := by rw [← hnl]; exact cutN_le l t
  have HLN := Lib.hid hnl
  have hn63 := HS.out.nmax
  clear hnl
  go_wp2_with fail
  go_loop [5] (fun i => ∃ k : Nat, k ≤ cutN l t ∧ i = .int .i64 k) (fun i => n - (intOf i).toNat)
  case atStart => exact ⟨0, Nat.zero_le _, rfl⟩
  case round =>
    obtain ⟨k, hk, rfl⟩ := hrel
    go_upto_region 4 with (fail)
    go_cut [24] (fun v wx => v = .bool (decide (k < cutN l t)) ∧ wx = w1)
    case first =>
      by_cases hlt : k < n
      · obtain ⟨b, off, rfl, hbl, hcells⟩ := HS.out.base (by omega)
        obtain ⟨y, hy⟩ := HS.out.get hlt
        have e0 : w1.cell? ⟨b, off + k * 7, none⟩ = some (.int .i64 y.at_) := Sl.at_ hcells hy 0 rfl
        have HY := Lib.hid (cutN_lt t l k y hk hy)
        clear hcells hy
        go_wp2_with fail
        go_meet
        exact ⟨congrArg Value.bool (by rw [Bool.eq_iff_iff, decide_eq_true_eq, decide_eq_true_eq]; exact HY.out), rfl⟩
      · have hkn : ¬ ((k : Int) < (n : Int)) := by omega
        go_wp2_with fail
        go_meet
        exact ⟨congrArg Value.bool (by symm; rw [decide_eq_false_iff_not]; omega), rfl⟩
    case rest =>
    obtain ⟨rfl, rfl⟩ := hcut
    by_cases hlt : k < cutN l t
    · go_wp2_with fail
      go_round
      case rel => exact ⟨k + 1, by omega, by go_num⟩
      case measure => simp [intOf]; omega
    · have hke : k = cutN l t := by omega
      have hd : decide (k < cutN l t) = false := decide_eq_false hlt
      have hkn : k ≤ n := by omega
      have HT := Lib.hid (Sl.takeK HS.out hkn)
      have HVT := Lib.hid (HV.out.take k)
      have HZT := Lib.hid (sz_take HZ.out k)
      have HCK := Lib.hid (chk_take HV.out k)
      have HB1 := Lib.hid (show bkAt (l.take k) t = bkAt l t by rw [hke]; exact bk_cut HV.out t t (.inl (by omega)))
      have HB2 := Lib.hid (show bkAt (l.take k) 12622780800 = bkAt l t by rw [hke]; exact bk_cut HV.out t _ (.inr (by omega)))
      have hslT : ∀ W, (Instr.slice 22 (.slice A n c) none (some (.int .i64 (k : Int))) none).run Try.prog W = .ok (.slice A k c) W := fun W => run_slice_to (sz := 7) (by kernel_rfl) (by kernel_rfl) (by have := HS.out.le; omega) W
      rw [hd]
      clear hke hlt hd hk hcl
      go_upto_region 7 with (go_at_call 23; go_must (refine (Check_any A k c (l.take k) _ HT.out HZT.out).mono ?_; rintro r w2 ⟨rfl, hb2⟩; rw [HCK.out]))
      replace HS := Lib.hid (HS.out.below hb2)
      replace HT := Lib.hid (HT.out.below hb2)
      have hbT := hb1.trans (hb2.mono hb1.size)
      obtain ⟨b, hbk⟩ : ∃ b, bkAt l t = b := ⟨_, rfl⟩
      rw [hbk] at HB1 HB2
      have HBK := Lib.hid hbk
      clear hbk
      have hz : ((0 : Int) == 0) = true := rfl
      ((with_reducible refine region_known ([(43, cuF b), (48, cuF b), (56, cuF b), (60, cuF b)]) ?_ ?_ ?_ ?_ ?_ ?_); kernel_rfl; kernel_rfl; rfl; rfl; (exact stays_cons (cuF_on b) (stays_cons (cuF_on b) (stays_cons (cuF_on b) (stays_cons (cuF_on b) stays_nil)))); intro hnonemp hcr; (repeat (first | (refine mix_plain rfl rfl rfl ?_; (first | go_big_quiet_skip | (go_big_quiet_want; go_big_quiet_op; go_big_quiet_on)); refine wpQuiet_nil ?_) | (refine kn_copy (.inl rfl) rfl rfl rfl rfl (by simp only [Act.put, List.setIfInBounds_toArray, List.set_cons_succ, List.set_cons_zero]; rfl) ?_) | (refine kn_copy (.inr rfl) rfl rfl rfl rfl (by simp only [Act.put, List.setIfInBounds_toArray, List.set_cons_succ, List.set_cons_zero]; rfl) ?_) | (refine kn_part rfl rfl rfl rfl rfl (by simp only [Act.put, List.setIfInBounds_toArray, List.set_cons_succ, List.set_cons_zero]; rfl) (fun _ _ => rfl) ?_) | (refine kn_skip rfl rfl (by simp only [Act.put, List.setIfInBounds_toArray, List.set_cons_succ, List.set_cons_zero]; rfl) ?_) | (refine kn_call 43 _ rfl Try.func27 (by kernel_rfl) rfl rfl rfl rfl (by simp only [Act.put, List.setIfInBounds_toArray, List.set_cons_succ, List.set_cons_zero]; rfl) (fun z vals hv => ?_) ?_; (have hc := State_vl A n c l t z.w (Sl.below HS.out z.h) HV.out HZ.out; rw [HBK.out] at hc; exact ⟨_, (by first | (simp [ev, Act.eval] <;> rfl) | (simp [ev, Act.eval, It.val]; done)), hc.mono fun r w' ⟨Aa, na, ca, As, ns, cs, e, h1, h2, hb⟩ => ⟨_, e, hb, ⟨Aa, na, ca, As, ns, cs, rfl, h1, h2⟩⟩⟩)) | (refine kn_call 48 _ rfl Try.func27 (by kernel_rfl) rfl rfl rfl rfl (by simp only [Act.put, List.setIfInBounds_toArray, List.set_cons_succ, List.set_cons_zero]; rfl) (fun z vals hv => ?_) ?_; (have hc := State_vl A k c (l.take k) t z.w (Sl.below HT.out z.h) HVT.out HZT.out; rw [HB1.out] at hc; exact ⟨_, (by first | (simp [ev, Act.eval, hslT] <;> rfl) | (simp [ev, Act.eval, It.val, hslT]; done)), hc.mono fun r w' ⟨Aa, na, ca, As, ns, cs, e, h1, h2, hb⟩ => ⟨_, e, hb, ⟨Aa, na, ca, As, ns, cs, rfl, h1, h2⟩⟩⟩)) | (refine kn_call 56 _ rfl Try.func27 (by kernel_rfl) rfl rfl rfl rfl (by simp only [Act.put, List.setIfInBounds_toArray, List.set_cons_succ, List.set_cons_zero]; rfl) (fun z vals hv => ?_) ?_; (have hc := State_vl A k c (l.take k) t z.w (Sl.below HT.out z.h) HVT.out HZT.out; rw [HB1.out] at hc; exact ⟨_, (by first | (simp [ev, Act.eval, hslT] <;> rfl) | (simp [ev, Act.eval, It.val, hslT]; done)), hc.mono fun r w' ⟨Aa, na, ca, As, ns, cs, e, h1, h2, hb⟩ => ⟨_, e, hb, ⟨Aa, na, ca, As, ns, cs, rfl, h1, h2⟩⟩⟩)) | (refine kn_call 60 _ rfl Try.func27 (by kernel_rfl) rfl rfl rfl rfl (by simp only [Act.put, List.setIfInBounds_toArray, List.set_cons_succ, List.set_cons_zero]; rfl) (fun z vals hv => ?_) ?_; (have hc := State_vl A k c (l.take k) 12622780800 z.w (Sl.below HT.out z.h) HVT.out HZT.out; rw [HB2.out] at hc; exact ⟨_, (by first | (simp [ev, Act.eval, hslT] <;> rfl) | (simp [ev, Act.eval, It.val, hslT]; done)), hc.mono fun r w' ⟨Aa, na, ca, As, ns, cs, e, h1, h2, hb⟩ => ⟨_, e, hb, ⟨Aa, na, ca, As, ns, cs, rfl, h1, h2⟩⟩⟩)) | (refine kn_at 49 rfl ?_; (refine kn_one (.bool true) Try.func26 (by kernel_rfl) rfl rfl rfl rfl (by simp only [Act.put, List.setIfInBounds_toArray, List.set_cons_succ, List.set_cons_zero]; rfl) (fun z vals hv => ?_) ?_; (obtain ⟨Aa, na, ca, As, ns, cs, e1, h1, h2⟩ := hv 43 _ rfl (by simp); obtain ⟨Ba, ma, da, Bs, ms, ds, e2, g1, g2⟩ := hv 48 _ rfl (by simp); exact ⟨_, (by first | (simp [ev, Act.eval, e1, e2] <;> rfl) | (simp [ev, Act.eval, It.val, e1, e2]; done)), (Same_any Aa na ca As ns cs Ba ma da Bs ms ds _ _ _ _ z.w h1 h2 g1 g2).mono fun r w' h => ⟨h.1.t rfl, h.2⟩⟩))) | (refine kn_at 61 rfl ?_; (refine kn_one (.bool true) Try.func26 (by kernel_rfl) rfl rfl rfl rfl (by simp only [Act.put, List.setIfInBounds_toArray, List.set_cons_succ, List.set_cons_zero]; rfl) (fun z vals hv => ?_) ?_; (obtain ⟨Aa, na, ca, As, ns, cs, e1, h1, h2⟩ := hv 56 _ rfl (by simp); obtain ⟨Ba, ma, da, Bs, ms, ds, e2, g1, g2⟩ := hv 60 _ rfl (by simp); exact ⟨_, (by first | (simp [ev, Act.eval, e1, e2] <;> rfl) | (simp [ev, Act.eval, It.val, e1, e2]; done)), (Same_any Aa na ca As ns cs Ba ma da Bs ms ds _ _ _ _ z.w h1 h2 g1 g2).mono fun r w' h => ⟨h.1.t rfl, h.2⟩⟩))) | (refine kn_one (.bool true) Try.func22 (by kernel_rfl) rfl rfl rfl rfl (by simp only [Act.put, List.setIfInBounds_toArray, List.set_cons_succ, List.set_cons_zero]; rfl) (fun z vals hv => ?_) ?_; (exact ⟨_, (by first | (simp [ev, Act.eval] <;> rfl) | (simp [ev, Act.eval, It.val]; done)), awake_any z.w⟩)))); intro wq vals hgq hkn; simp only [over, Nk, List.map_cons, List.map_nil, List.foldl_cons, List.foldl_nil, Act.put, List.setIfInBounds_toArray, List.set_cons_succ, List.set_cons_zero]; clear hcr)
      clear hkn
      replace hbT := hbT.trans (hgq.mono hbT.size)
      go_wp2_with fail
      go_ret
      exact ⟨rfl, hbT⟩
set_option maxHeartbeats 8000000 in
theorem law_finds (A : Option Addr) (n c : Nat) (l : List Ev) (x t : Int) (w : World) (hs : Sl w A n c l) (hz : SzOk l) :
    Calls Try.prog 8 #[.slice A n c, .int .i64 x, .int .i64 t] w fun r w' => r = .returned (.bool true) ∧ Below w.heap.size w w' := by
  have HS := Lib.hid hs
  have HZ := Lib.hid hz
  clear hs hz
  go_enter Try.func8, Try.ntmps8
  cases hvl : vlB l
  · have HVB := Lib.hid hvl
    clear hvl
    go_wp2_with (first
      | (go_at_call 25; go_must (refine (rValid_any A n c l _ HS.out HZ.out).mono ?_; rintro r w1 ⟨rfl, hb1⟩; rw [HVB.out]))
      | (go_at_call 22; go_must (refine (awake_any _).mono ?_; rintro r w2 ⟨rfl, hb2⟩)))
    go_ret
    exact ⟨rfl, hb1.trans (hb2.mono hb1.size)⟩
  have HVB := Lib.hid hvl
  have HV := Lib.hid (vlB_true hvl)
  clear hvl
  go_upto_region 3 with (go_at_call 25; go_must (refine (rValid_any A n c l _ HS.out HZ.out).mono ?_; rintro r w1 ⟨rfl, hb1⟩; rw [HVB.out]))
  replace HS := Lib.hid (HS.out.below hb1)
  obtain ⟨fb, hfb⟩ : ∃ b, ((cAccs (bkAt l t)).find? (fun y => y.1.id == x)).isSome = b := ⟨_, rfl⟩
  obtain ⟨fa, hfa⟩ : ∃ b, ((cAccs (bkAt l t)).find? (fun y => y.1.id == x)).getD (ac0, []) = b := ⟨_, rfl⟩
  obtain ⟨gb, hgb⟩ : ∃ b, ((cSubs (bkAt l t)).find? (fun y => y.id == x)).isSome = b := ⟨_, rfl⟩
  obtain ⟨ga, hga⟩ : ∃ b, ((cSubs (bkAt l t)).find? (fun y => y.id == x)).getD sb0 = b := ⟨_, rfl⟩
  have HA1 : Hid (∀ W, Sl W A n c l → Calls Try.prog 32 #[.slice A n c, .int .i64 x, .int .i64 t] W fun r w' => (∃ v : Av, r = .returned (.tuple #[v.val, .bool fb]) ∧ AR w' v fa) ∧ Below W.heap.size W w') := Lib.hid (fun W h => by have hc := Account_any A n c l x t W h HV.out HZ.out; rw [hfb, hfa] at hc; exact hc)
  have HA2 : Hid (∀ W, Sl W A n c l → Calls Try.prog 33 #[.slice A n c, .int .i64 x, .int .i64 t] W fun r w' => (∃ v : Av, r = .returned (.tuple #[v.val, .bool fb]) ∧ AR w' v fa) ∧ Below W.heap.size W w') := Lib.hid (fun W h => by have hc := rAccount_any A n c l x t W h HV.out; rw [hfb, hfa] at hc; exact hc)
  have HG1 : Hid (∀ W, Sl W A n c l → Calls Try.prog 34 #[.slice A n c, .int .i64 x, .int .i64 t] W fun r w' => (∃ v : Sv, r = .returned (.tuple #[v.val, .bool gb]) ∧ SR w' v ga) ∧ Below W.heap.size W w') := Lib.hid (fun W h => by have hc := Sub_any A n c l x t W h HV.out HZ.out; rw [hgb, hga] at hc; exact hc)
  have HG2 : Hid (∀ W, Sl W A n c l → Calls Try.prog 35 #[.slice A n c, .int .i64 x, .int .i64 t] W fun r w' => (∃ v : Sv, r = .returned (.tuple #[v.val, .bool gb]) ∧ SR w' v ga) ∧ Below W.heap.size W w') := Lib.hid (fun W h => by have hc := rSub_any A n c l x t W h HV.out; rw [hgb, hga] at hc; exact hc)
  clear hfb hfa hgb hga
  go_upto_region 4 with (go_at_call 32; go_must (refine (HA1.out _ HS.out).mono ?_; rintro r u0 ⟨⟨v0, rfl, hv0⟩, hc0⟩; dsimp only [Av.val]))
  have H1 := Lib.hid hv0
  clear hv0
  (obtain ⟨X0, hWX0, hbX0, hzX0, f1X0, pfa⟩ := box1 u0 #[.int .i64 v0.id, .int .i64 v0.since, .int .i64 v0.anchor, .bool v0.prepaid, .bool v0.closed, .slice v0.A v0.n v0.c] 46; rw [← hWX0]; have pa0 : X0.cell? ⟨u0.heap.size, 0, none⟩ = some (.int .i64 v0.id) := f1X0 0 _ rfl; have pa1 : X0.cell? ⟨u0.heap.size, 1, none⟩ = some (.int .i64 v0.since) := f1X0 1 _ rfl; have pa2 : X0.cell? ⟨u0.heap.size, 2, none⟩ = some (.int .i64 v0.anchor) := f1X0 2 _ rfl; have pa3 : X0.cell? ⟨u0.heap.size, 3, none⟩ = some (.bool v0.prepaid) := f1X0 3 _ rfl; have pa4 : X0.cell? ⟨u0.heap.size, 4, none⟩ = some (.bool v0.closed) := f1X0 4 _ rfl; have pa5 : X0.cell? ⟨u0.heap.size, 5, none⟩ = some (.slice v0.A v0.n v0.c) := f1X0 5 _ rfl; clear hWX0 f1X0)
  have hd0 := hc0.trans (hbX0.mono hc0.size)
  have hs0 := hd0.size
  replace H1 := Lib.hid (H1.out.on hbX0)
  replace HS := Lib.hid (HS.out.below hd0)
  have ht0 := hb1.trans (hd0.mono hb1.size)
  have hlx0 : u0.heap.size < X0.heap.size := hzX0
  clear hc0 hbX0 hzX0 pfa
  go_upto_region 5 with (go_at_call 33; go_must (refine (HA2.out _ HS.out).mono ?_; rintro r u1 ⟨⟨v1, rfl, hv1⟩, hc1⟩; dsimp only [Av.val]))
  have H2 := Lib.hid hv1
  clear hv1
  (obtain ⟨X1, hWX1, hbX1, hzX1, f1X1, qfa⟩ := box1 u1 #[.int .i64 v1.id, .int .i64 v1.since, .int .i64 v1.anchor, .bool v1.prepaid, .bool v1.closed, .slice v1.A v1.n v1.c] 46; rw [← hWX1]; have qa0 : X1.cell? ⟨u1.heap.size, 0, none⟩ = some (.int .i64 v1.id) := f1X1 0 _ rfl; have qa1 : X1.cell? ⟨u1.heap.size, 1, none⟩ = some (.int .i64 v1.since) := f1X1 1 _ rfl; have qa2 : X1.cell? ⟨u1.heap.size, 2, none⟩ = some (.int .i64 v1.anchor) := f1X1 2 _ rfl; have qa3 : X1.cell? ⟨u1.heap.size, 3, none⟩ = some (.bool v1.prepaid) := f1X1 3 _ rfl; have qa4 : X1.cell? ⟨u1.heap.size, 4, none⟩ = some (.bool v1.closed) := f1X1 4 _ rfl; have qa5 : X1.cell? ⟨u1.heap.size, 5, none⟩ = some (.slice v1.A v1.n v1.c) := f1X1 5 _ rfl; clear hWX1 f1X1)
  have hd1 := hc1.trans (hbX1.mono hc1.size)
  have hs1 := hd1.size
  replace pa0 := cl hd1 pa0
  replace pa1 := cl hd1 pa1
  replace pa2 := cl hd1 pa2
  replace pa3 := cl hd1 pa3
  replace pa4 := cl hd1 pa4
  replace pa5 := cl hd1 pa5
  replace H1 := Lib.hid (H1.out.on hd1)
  replace H2 := Lib.hid (H2.out.on hbX1)
  replace HS := Lib.hid (HS.out.below hd1)
  have ht1 := ht0.trans (hd1.mono ht0.size)
  have hlx1 : u1.heap.size < X1.heap.size := hzX1
  clear hc1 hbX1 hzX1 qfa
  go_upto_region 6 with (go_at_call 34; go_must (refine (HG1.out _ HS.out).mono ?_; rintro r u2 ⟨⟨v2, rfl, hv2⟩, hc2⟩; dsimp only [Sv.val]))
  have H3 := Lib.hid hv2
  clear hv2
  (obtain ⟨X2, hWX2, hbX2, hzX2, f1X2, rfa⟩ := box1 u2 #[.int .i64 v2.id, .int .i64 v2.acc, .int .i64 v2.since, .string v2.plan, .slice v2.An v2.nn v2.cn, .slice v2.Ap v2.np v2.cp, .bool v2.susp, .bool v2.fam] 51; rw [← hWX2]; have ra0 : X2.cell? ⟨u2.heap.size, 0, none⟩ = some (.int .i64 v2.id) := f1X2 0 _ rfl; have ra1 : X2.cell? ⟨u2.heap.size, 1, none⟩ = some (.int .i64 v2.acc) := f1X2 1 _ rfl; have ra2 : X2.cell? ⟨u2.heap.size, 2, none⟩ = some (.int .i64 v2.since) := f1X2 2 _ rfl; have ra3 : X2.cell? ⟨u2.heap.size, 3, none⟩ = some (.string v2.plan) := f1X2 3 _ rfl; have ra4 : X2.cell? ⟨u2.heap.size, 4, none⟩ = some (.slice v2.An v2.nn v2.cn) := f1X2 4 _ rfl; have ra5 : X2.cell? ⟨u2.heap.size, 5, none⟩ = some (.slice v2.Ap v2.np v2.cp) := f1X2 5 _ rfl; have ra6 : X2.cell? ⟨u2.heap.size, 6, none⟩ = some (.bool v2.susp) := f1X2 6 _ rfl; have ra7 : X2.cell? ⟨u2.heap.size, 7, none⟩ = some (.bool v2.fam) := f1X2 7 _ rfl; clear hWX2 f1X2)
  have hd2 := hc2.trans (hbX2.mono hc2.size)
  have hs2 := hd2.size
  replace pa0 := cl hd2 pa0
  replace pa1 := cl hd2 pa1
  replace pa2 := cl hd2 pa2
  replace pa3 := cl hd2 pa3
  replace pa4 := cl hd2 pa4
  replace pa5 := cl hd2 pa5
  replace qa0 := cl hd2 qa0
  replace qa1 := cl hd2 qa1
  replace qa2 := cl hd2 qa2
  replace qa3 := cl hd2 qa3
  replace qa4 := cl hd2 qa4
  replace qa5 := cl hd2 qa5
  replace H1 := Lib.hid (H1.out.on hd2)
  replace H2 := Lib.hid (H2.out.on hd2)
  replace H3 := Lib.hid (H3.out.on hbX2)
  replace HS := Lib.hid (HS.out.below hd2)
  have ht2 := ht1.trans (hd2.mono ht1.size)
  have hlx2 : u2.heap.size < X2.heap.size := hzX2
  clear hc2 hbX2 hzX2 rfa
  go_upto_region 7 with (go_at_call 35; go_must (refine (HG2.out _ HS.out).mono ?_; rintro r u3 ⟨⟨v3, rfl, hv3⟩, hc3⟩; dsimp only [Sv.val]))
  have H4 := Lib.hid hv3
  clear hv3
  (obtain ⟨X3, hWX3, hbX3, hzX3, f1X3, sfa⟩ := box1 u3 #[.int .i64 v3.id, .int .i64 v3.acc, .int .i64 v3.since, .string v3.plan, .slice v3.An v3.nn v3.cn, .slice v3.Ap v3.np v3.cp, .bool v3.susp, .bool v3.fam] 51; rw [← hWX3]; have sa0 : X3.cell? ⟨u3.heap.size, 0, none⟩ = some (.int .i64 v3.id) := f1X3 0 _ rfl; have sa1 : X3.cell? ⟨u3.heap.size, 1, none⟩ = some (.int .i64 v3.acc) := f1X3 1 _ rfl; have sa2 : X3.cell? ⟨u3.heap.size, 2, none⟩ = some (.int .i64 v3.since) := f1X3 2 _ rfl; have sa3 : X3.cell? ⟨u3.heap.size, 3, none⟩ = some (.string v3.plan) := f1X3 3 _ rfl; have sa4 : X3.cell? ⟨u3.heap.size, 4, none⟩ = some (.slice v3.An v3.nn v3.cn) := f1X3 4 _ rfl; have sa5 : X3.cell? ⟨u3.heap.size, 5, none⟩ = some (.slice v3.Ap v3.np v3.cp) := f1X3 5 _ rfl; have sa6 : X3.cell? ⟨u3.heap.size, 6, none⟩ = some (.bool v3.susp) := f1X3 6 _ rfl; have sa7 : X3.cell? ⟨u3.heap.size, 7, none⟩ = some (.bool v3.fam) := f1X3 7 _ rfl; clear hWX3 f1X3)
  have hd3 := hc3.trans (hbX3.mono hc3.size)
  have hs3 := hd3.size
  replace pa0 := cl hd3 pa0
  replace pa1 := cl hd3 pa1
  replace pa2 := cl hd3 pa2
  replace pa3 := cl hd3 pa3
  replace pa4 := cl hd3 pa4
  replace pa5 := cl hd3 pa5
  replace qa0 := cl hd3 qa0
  replace qa1 := cl hd3 qa1
  replace qa2 := cl hd3 qa2
  replace qa3 := cl hd3 qa3
  replace qa4 := cl hd3 qa4
  replace qa5 := cl hd3 qa5
  replace ra0 := cl hd3 ra0
  replace ra1 := cl hd3 ra1
  replace ra2 := cl hd3 ra2
  replace ra3 := cl hd3 ra3
  replace ra4 := cl hd3 ra4
  replace ra5 := cl hd3 ra5
  replace ra6 := cl hd3 ra6
  replace ra7 := cl hd3 ra7
  replace H1 := Lib.hid (H1.out.on hd3)
  replace H2 := Lib.hid (H2.out.on hd3)
  replace H3 := Lib.hid (H3.out.on hd3)
  replace H4 := Lib.hid (H4.out.on hbX3)
  replace HS := Lib.hid (HS.out.below hd3)
  have ht3 := ht2.trans (hd3.mono ht2.size)
  have hlx3 : u3.heap.size < X3.heap.size := hzX3
  clear hc3 hbX3 hzX3 sfa
  have hq1 : (fb == fb) = true := by simp
  have hq2 : (gb == gb) = true := by simp
  clear hd0 hd1 hd2 hd3
  go_wp2_with (first
    | (go_at_call 36; go_must (refine (SameAccount_any v0 v1 fa fa _ H1.out H2.out).mono ?_; rintro r y1 ⟨hr, hy1⟩; obtain rfl := hr.t rfl; clear hr; (replace ra0 := cl hy1 ra0); (replace ra1 := cl hy1 ra1); (replace ra2 := cl hy1 ra2); (replace ra3 := cl hy1 ra3); (replace ra4 := cl hy1 ra4); (replace ra5 := cl hy1 ra5); (replace ra6 := cl hy1 ra6); (replace ra7 := cl hy1 ra7); (replace sa0 := cl hy1 sa0); (replace sa1 := cl hy1 sa1); (replace sa2 := cl hy1 sa2); (replace sa3 := cl hy1 sa3); (replace sa4 := cl hy1 sa4); (replace sa5 := cl hy1 sa5); (replace sa6 := cl hy1 sa6); (replace sa7 := cl hy1 sa7)))
    | (go_at_call 37; go_must (refine (SameSub_any v2 v3 ga ga _ (H3.out.on hy1) (H4.out.on hy1)).mono ?_; rintro r y2 ⟨hr, hy2⟩; obtain rfl := hr.t rfl; clear hr))
    | (go_at_call 22; go_must (refine (awake_any _).mono ?_; rintro r y3 ⟨rfl, hy3⟩)))
  go_ret
  exact ⟨rfl, ht3.trans ((hy1.trans ((hy2.trans (hy3.mono hy2.size)).mono hy1.size)).mono ht3.size)⟩
end Cu
end Go.Proofs.Yteaanngagcflhaa
