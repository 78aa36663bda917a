/-
  Customers: form. No condition.
-/
import Derived.Test.YteaanngagcflhaaCuA
import Derived.BigQuiet
import Derived.StillTailTactics
import Derived.Lib.Overlaps
import Derived.Deep.DeepCutAuto
import Derived.Deep.RegionWith
import Derived.Laws.RangeAny
set_option maxRecDepth 100000
set_option linter.unusedVariables false
set_option linter.unusedSimpArgs false
namespace Go.Proofs.Yteaanngagcflhaa
open Go.RowKit

namespace Cu
theorem id_any (n : Int) (w : World) : Calls Try.prog 93 #[.int .i64 n] w fun e w' => e = .returned (.bool (idB n)) ∧ w = w' := by
  go_enter Try.func93, Try.ntmps93
  go_wp2_with fail
  all_goals (go_ret; refine ⟨ret_bool ?_, rfl⟩; unfold idB; (rw [Bool.eq_iff_iff]; (try simp only [Bool.and_eq_true, Bool.or_eq_true, Bool.not_eq_true', decide_eq_true_eq, decide_eq_false_iff_not, Bool.false_eq_true, Bool.true_eq_false, false_iff, true_iff, iff_false, iff_true]); omega))
set_option maxHeartbeats 4000000 in
theorem ranged_any (e : Ev) (w : World) : Calls Try.prog 96 #[e.v] w fun r w' => r = .returned (.bool (valB e.kind e.val)) ∧ Below w.heap.size w w' := by
  unfold Ev.v
  go_enter Try.func96, Try.ntmps96
  go_upto_region 1 with (fail)
  (obtain ⟨W, hWW, hbW, hzW, f1W, qfa⟩ := box1 w #[.int .i64 e.at_, .int .i64 e.kind, .int .i64 e.acc, .int .i64 e.sub, .string e.num, .string e.name, .int .i64 e.val] 36; rw [← hWW]; have qa0 : W.cell? ⟨w.heap.size, 0, none⟩ = some (.int .i64 e.at_) := f1W 0 _ rfl; have qa1 : W.cell? ⟨w.heap.size, 1, none⟩ = some (.int .i64 e.kind) := f1W 1 _ rfl; have qa2 : W.cell? ⟨w.heap.size, 2, none⟩ = some (.int .i64 e.acc) := f1W 2 _ rfl; have qa3 : W.cell? ⟨w.heap.size, 3, none⟩ = some (.int .i64 e.sub) := f1W 3 _ rfl; have qa4 : W.cell? ⟨w.heap.size, 4, none⟩ = some (.string e.num) := f1W 4 _ rfl; have qa5 : W.cell? ⟨w.heap.size, 5, none⟩ = some (.string e.name) := f1W 5 _ rfl; have qa6 : W.cell? ⟨w.heap.size, 6, none⟩ = some (.int .i64 e.val) := f1W 6 _ rfl; clear hWW f1W)
  by_cases h1 : e.kind = 1
  · have b1 : (e.kind == 1) = true := by simpa using h1
    replace h1 := Lib.hid h1
    go_wp2_with fail
    all_goals (go_ret; refine ⟨ret_bool ?_, hbW⟩; unfold valB; rw [if_pos h1.out]; (rw [Bool.eq_iff_iff]; (try simp only [Bool.and_eq_true, Bool.or_eq_true, Bool.not_eq_true', decide_eq_true_eq, decide_eq_false_iff_not, Bool.false_eq_true, Bool.true_eq_false, false_iff, true_iff, iff_false, iff_true]); omega))
  · have b1 : (e.kind == 1) = false := by simpa using h1
    replace h1 := Lib.hid h1
    by_cases h14 : e.kind = 14
    · have b14 : (e.kind == 14) = true := by simpa using h14
      replace h14 := Lib.hid h14
      go_wp2_with fail
      all_goals (go_ret; refine ⟨ret_bool ?_, hbW⟩; unfold valB; rw [if_neg h1.out, if_pos h14.out]; (rw [Bool.eq_iff_iff]; (try simp only [Bool.and_eq_true, Bool.or_eq_true, Bool.not_eq_true', decide_eq_true_eq, decide_eq_false_iff_not, Bool.false_eq_true, Bool.true_eq_false, false_iff, true_iff, iff_false, iff_true]); omega))
    · have b14 : (e.kind == 14) = false := by simpa using h14
      replace h14 := Lib.hid h14
      go_wp2_with fail
      all_goals (go_ret; refine ⟨ret_bool ?_, hbW⟩; unfold valB; rw [if_neg h1.out, if_neg h14.out]; (rw [Bool.eq_iff_iff]; (try simp only [Bool.and_eq_true, Bool.or_eq_true, Bool.not_eq_true', decide_eq_true_eq, decide_eq_false_iff_not, Bool.false_eq_true, Bool.true_eq_false, false_iff, true_iff, iff_false, iff_true]); omega))

theorem hpre : nPre.toList = [112, 114, 101, 112, 97, 105, 100] := by rw [Lib.toList_data]; rfl
theorem hpost : nPost.toList = [112, 111, 115, 116, 112, 97, 105, 100] := by rw [Lib.toList_data]; rfl
theorem hempty : nEmpty.toList = [] := by rw [Lib.toList_data]; rfl
set_option maxHeartbeats 16000000 in
theorem form_any (e : Ev) (w : World) (hn : e.num.size ≤ maxLen) (hm : e.name.size ≤ maxLen) (hname : ∀ W, Calls Try.prog 94 #[.string e.name] W fun r w' => r = .returned (.bool (nmB e.name.data.toList)) ∧ W = w') :
    Calls Try.prog 69 #[e.v] w fun r w' => r = .returned (.int .i64 (formP e)) ∧ Below w.heap.size w w' := by
  have HNM := Lib.hid hname
  have HSZ := Lib.hid hn
  clear hname hn hm
  have hul : ∀ k, usedV k = [.bool (uA k), .bool (uS k), .bool (uN k), .bool (uM k), .bool (uV k)] := fun k => rfl
  have HF := Lib.hid (show formP e = if e.kind < 1 ∨ 16 ≤ e.kind then 7 else if e.at_ < 0 ∨ 12622780800 ≤ e.at_ then 15 else if fldBad e = true then 8 else if idBad e = true then 6 else if nameBad e = true then 8 else if (uN e.kind && !Dg.valid e.num.data.toList) = true then 12 else if (uV e.kind && !valB e.kind e.val) = true then 6 else 0 from rfl)
  unfold Ev.v
  go_enter Try.func69, Try.ntmps69
  go_upto_region 1 with (fail)
  (obtain ⟨W, hWW, hbW, hzW, f1W, qfa⟩ := box1 w #[.int .i64 e.at_, .int .i64 e.kind, .int .i64 e.acc, .int .i64 e.sub, .string e.num, .string e.name, .int .i64 e.val] 36; rw [← hWW]; have qa0 : W.cell? ⟨w.heap.size, 0, none⟩ = some (.int .i64 e.at_) := f1W 0 _ rfl; have qa1 : W.cell? ⟨w.heap.size, 1, none⟩ = some (.int .i64 e.kind) := f1W 1 _ rfl; have qa2 : W.cell? ⟨w.heap.size, 2, none⟩ = some (.int .i64 e.acc) := f1W 2 _ rfl; have qa3 : W.cell? ⟨w.heap.size, 3, none⟩ = some (.int .i64 e.sub) := f1W 3 _ rfl; have qa4 : W.cell? ⟨w.heap.size, 4, none⟩ = some (.string e.num) := f1W 4 _ rfl; have qa5 : W.cell? ⟨w.heap.size, 5, none⟩ = some (.string e.name) := f1W 5 _ rfl; have qa6 : W.cell? ⟨w.heap.size, 6, none⟩ = some (.int .i64 e.val) := f1W 6 _ rfl; clear hWW f1W)
  go_wp2_with fail
  refine (used_any e.kind W).mono ?_
  rintro r w1 ⟨rfl, hb1⟩
  (have hzhb1 := hb1.size; replace qa0 := cl hb1 qa0; replace qa1 := cl hb1 qa1; replace qa2 := cl hb1 qa2; replace qa3 := cl hb1 qa3; replace qa4 := cl hb1 qa4; replace qa5 := cl hb1 qa5; replace qa6 := cl hb1 qa6)
  have hT := hbW.trans (hb1.mono hbW.size)
  have hg1 : w.heap.size < w1.heap.size := by omega
  clear hb1 hbW qfa
  rw [hul]
  go_upto_region 2 with (fail)
  (obtain ⟨V, hWV, hbV, hzV, f1V, ufa⟩ := box1 w1 #[.bool (uA e.kind), .bool (uS e.kind), .bool (uN e.kind), .bool (uM e.kind), .bool (uV e.kind)] 130; rw [← hWV]; have ua0 : V.cell? ⟨w1.heap.size, 0, none⟩ = some (.bool (uA e.kind)) := f1V 0 _ rfl; have ua1 : V.cell? ⟨w1.heap.size, 1, none⟩ = some (.bool (uS e.kind)) := f1V 1 _ rfl; have ua2 : V.cell? ⟨w1.heap.size, 2, none⟩ = some (.bool (uN e.kind)) := f1V 2 _ rfl; have ua3 : V.cell? ⟨w1.heap.size, 3, none⟩ = some (.bool (uM e.kind)) := f1V 3 _ rfl; have ua4 : V.cell? ⟨w1.heap.size, 4, none⟩ = some (.bool (uV e.kind)) := f1V 4 _ rfl; clear hWV f1V)
  (have hzhbV := hbV.size; replace qa0 := cl hbV qa0; replace qa1 := cl hbV qa1; replace qa2 := cl hbV qa2; replace qa3 := cl hbV qa3; replace qa4 := cl hbV qa4; replace qa5 := cl hbV qa5; replace qa6 := cl hbV qa6)
  replace hT := hT.trans (hbV.mono hT.size)
  have hgV : w.heap.size < V.heap.size := by omega
  have hgV1 : w1.heap.size < V.heap.size := by omega
  clear hbV ufa
  by_cases h1 : e.kind < 1
  · have HQ := Lib.hid (HF.out.trans (if_pos (.inl h1)))
    go_wp2_with fail
    go_ret
    exact ⟨ret_int HQ.out.symm, hT⟩
  by_cases h16 : 16 ≤ e.kind
  · have HQ := Lib.hid (HF.out.trans (if_pos (.inr h16)))
    go_wp2_with fail
    go_ret
    exact ⟨ret_int HQ.out.symm, hT⟩
  replace HF := Lib.hid (HF.out.trans (if_neg (by omega)))
  by_cases ht : e.at_ < 0
  · have HQ := Lib.hid (HF.out.trans (if_pos (.inl ht)))
    go_wp2_with fail
    go_ret
    exact ⟨ret_int HQ.out.symm, hT⟩
  by_cases ht2 : 12622780800 ≤ e.at_
  · have HQ := Lib.hid (HF.out.trans (if_pos (.inr ht2)))
    go_wp2_with fail
    go_ret
    exact ⟨ret_int HQ.out.symm, hT⟩
  replace HF := Lib.hid (HF.out.trans (if_neg (by omega)))
  obtain ⟨a, ha⟩ : ∃ a, uA e.kind = a := ⟨_, rfl⟩
  obtain ⟨s, hs⟩ : ∃ a, uS e.kind = a := ⟨_, rfl⟩
  obtain ⟨n, hn⟩ : ∃ a, uN e.kind = a := ⟨_, rfl⟩
  obtain ⟨m, hm⟩ : ∃ a, uM e.kind = a := ⟨_, rfl⟩
  obtain ⟨v, hv⟩ : ∃ a, uV e.kind = a := ⟨_, rfl⟩
  rw [ha] at ua0; rw [hs] at ua1; rw [hn] at ua2; rw [hm] at ua3; rw [hv] at ua4
  rw [hn, hv] at HF
  obtain ⟨c1, k1⟩ : ∃ b, (e.acc != 0) = b := ⟨_, rfl⟩
  obtain ⟨c2, k2⟩ : ∃ b, (e.sub != 0) = b := ⟨_, rfl⟩
  obtain ⟨c3, k3⟩ : ∃ b, (e.num.toList == []) = b := ⟨_, rfl⟩
  obtain ⟨c4, k4⟩ : ∃ b, (e.name.toList == []) = b := ⟨_, rfl⟩
  obtain ⟨c5, k5⟩ : ∃ b, (e.val != 0) = b := ⟨_, rfl⟩
  have hFB : fldBad e = ((!a && c1) || (!s && c2) || (!n && !c3) || (!m && !c4) || (!v && c5)) := by unfold fldBad seq_; rw [ha, hs, hn, hm, hv, hempty, k1, k2, k3, k4, k5]
  have hIB : idBad e = ((a && !idB e.acc) || (s && !idB e.sub)) := by unfold idBad; rw [ha, hs]
  have hNB : nameBad e = ((m && !nmB e.name.data.toList) || (e.kind == 1 && !seq_ e.name nPre && !seq_ e.name nPost)) := by unfold nameBad; rw [hm]
  have HFB := Lib.hid hFB
  have HIB := Lib.hid hIB
  have HNB := Lib.hid hNB
  have HA := Lib.hid (And.intro ha (And.intro hs (And.intro hn (And.intro hm hv))))
  clear ha hs hn hm hv hFB hIB hNB
  go_upto_region 6 with (fail)
  go_cut [25] (fun s_ wx => s_ = .bool (fldBad e) ∧ wx = V)
  case first =>
    go_wp2_with fail
    all_goals
      go_meet
      refine ⟨congrArg Value.bool ?_, rfl⟩
      clear HNM HSZ HF HIB HNB HA qa0 qa1 qa2 qa3 qa4 qa5 qa6 ua0 ua1 ua2 ua3 ua4 hT k1 k2 k3 k4 k5
      rw [HFB.out]
      simp [*]
  case rest =>
    obtain ⟨rfl, rfl⟩ := hcut
    clear HFB k1 k2 k3 k4 k5
    cases hfb : fldBad e
    case true =>
      have HQ := Lib.hid (HF.out.trans (if_pos hfb))
      go_wp2_with fail
      go_ret
      exact ⟨ret_int HQ.out.symm, hT⟩
    replace HF := Lib.hid (HF.out.trans (if_neg (by rw [hfb]; decide)))
    clear hfb
    go_upto_region 8 with (fail)
    go_cut [74] (fun s_ wx => s_ = .bool (idBad e) ∧ wx = wc)
    case first =>
      obtain ⟨i1, j1⟩ : ∃ b, idB e.acc = b := ⟨_, rfl⟩
      obtain ⟨i2, j2⟩ : ∃ b, idB e.sub = b := ⟨_, rfl⟩
      have HJ := Lib.hid (And.intro j1 j2)
      have HI2 : Hid (idBad e = ((a && !i1) || (s && !i2))) := Lib.hid (by rw [HIB.out, j1, j2])
      clear j1 j2
      go_wp2_with (go_at_call 93; refine (id_any _ _).mono ?_; (first | rw [HJ.out.1] | rw [HJ.out.2]); rintro r w' ⟨rfl, rfl⟩)
      all_goals
        go_meet
        refine ⟨congrArg Value.bool ?_, rfl⟩
        clear HNM HSZ HF HNB HA qa0 qa1 qa2 qa3 qa4 qa5 qa6 ua0 ua1 ua2 ua3 ua4 hT
        rw [HI2.out]
        simp [*]
    case rest =>
    obtain ⟨rfl, h_eq⟩ := hcut
    subst h_eq
    cases hib : idBad e
    case true =>
      have HQ := Lib.hid (HF.out.trans (if_pos hib))
      go_wp2_with fail
      go_ret
      exact ⟨ret_int HQ.out.symm, hT⟩
    replace HF := Lib.hid (HF.out.trans (if_neg (by rw [hib]; decide)))
    clear hib HIB
    obtain ⟨n1, hn1⟩ : ∃ b, nmB e.name.data.toList = b := ⟨_, rfl⟩
    obtain ⟨kb, hkb⟩ : ∃ b, (e.kind == 1) = b := ⟨_, rfl⟩
    obtain ⟨p1, hp1⟩ : ∃ b, (e.name.toList == [112, 114, 101, 112, 97, 105, 100]) = b := ⟨_, rfl⟩
    obtain ⟨p2, hp2⟩ : ∃ b, (e.name.toList == [112, 111, 115, 116, 112, 97, 105, 100]) = b := ⟨_, rfl⟩
    obtain ⟨dv, hdv⟩ : ∃ b, Dg.valid e.num.data.toList = b := ⟨_, rfl⟩
    obtain ⟨rv, hrv⟩ : ∃ b, valB e.kind e.val = b := ⟨_, rfl⟩
    have HN1 := Lib.hid hn1
    have HDV := Lib.hid hdv
    have HRV := Lib.hid hrv
    have hnb : nameBad e = ((m && !n1) || (kb && !p1 && !p2)) := by rw [HNB.out, hn1, hkb, seq_, seq_, hpre, hpost, hp1, hp2]
    rw [hdv, hrv, hnb] at HF
    have HP := Lib.hid (And.intro hkb (And.intro hp1 hp2))
    clear hn1 hdv hrv hnb HNB hkb hp1 hp2
    go_upto_region 10 with (fail)
    go_cut [93] (fun s_ wx => s_ = .bool (m && !n1) ∧ wx = wc)
    case first =>
      clear HF
      go_wp2_with (go_at_call 94; refine (HNM.out _).mono ?_; rw [HN1.out]; rintro r w' ⟨rfl, rfl⟩)
      all_goals
        go_meet
        refine ⟨congrArg Value.bool ?_, rfl⟩
        simp [*]
    case rest =>
    obtain ⟨rfl, h_eq⟩ := hcut
    subst h_eq
    cases hx : (m && !n1)
    case true =>
      have HQ := Lib.hid (HF.out.trans (if_pos (by rw [hx]; rfl)))
      go_wp2_with fail
      go_ret
      exact ⟨ret_int HQ.out.symm, hT⟩
    rw [hx, Bool.false_or] at HF
    clear hx
    go_upto_region 12 with (fail)
    go_cut [102] (fun s_ wx => s_ = .bool (kb && !p1 && !p2) ∧ wx = wc)
    case first =>
      clear HF
      obtain ⟨hkb, hp1, hp2⟩ := HP.out
      go_wp2_with fail
      all_goals
        go_meet
        refine ⟨congrArg Value.bool ?_, rfl⟩
        clear hkb hp1 hp2
        simp [*]
    case rest =>
    obtain ⟨rfl, h_eq⟩ := hcut
    subst h_eq
    cases hx : (kb && !p1 && !p2)
    case true =>
      have HQ := Lib.hid (HF.out.trans (if_pos hx))
      go_wp2_with fail
      go_ret
      exact ⟨ret_int HQ.out.symm, hT⟩
    replace HF := Lib.hid (HF.out.trans (if_neg (by rw [hx]; decide)))
    clear hx
    go_upto_region 14 with (fail)
    go_cut [116] (fun s_ wx => s_ = .bool (n && !dv) ∧ wx = wc)
    case first =>
      clear HF
      go_wp2_with (go_at_call 95; refine (Dg.valid_any _ _ HSZ.out).mono ?_; rw [HDV.out]; rintro r w' ⟨rfl, rfl⟩)
      all_goals
        go_meet
        refine ⟨congrArg Value.bool ?_, rfl⟩
        simp [*]
    case rest =>
    obtain ⟨rfl, h_eq⟩ := hcut
    subst h_eq
    cases hx : (n && !dv)
    case true =>
      have HQ := Lib.hid (HF.out.trans (if_pos hx))
      go_wp2_with fail
      go_ret
      exact ⟨ret_int HQ.out.symm, hT⟩
    replace HF := Lib.hid (HF.out.trans (if_neg (by rw [hx]; decide)))
    clear hx
    have hrg := ranged_any e wc
    rw [HRV.out] at hrg
    unfold Ev.v at hrg
    have HRG := Lib.hid hrg
    clear hrg
    go_upto_region 16 with (fail)
    go_cut [125] (fun s_ wx => s_ = .bool (v && !rv) ∧ Below w.heap.size w wx)
    case first =>
      clear HF
      go_wp2_with (go_at_call 96; refine HRG.out.mono ?_; rintro r w' ⟨rfl, hb'⟩)
      all_goals
        go_meet
        refine ⟨congrArg Value.bool ?_, by first | exact hT | exact hT.trans (Below.mono (by assumption) hT.size)⟩
        simp [*]
    case rest =>
    obtain ⟨rfl, hT2⟩ := hcut
    cases hx : (v && !rv)
    case true =>
      have HQ := Lib.hid (HF.out.trans (if_pos hx))
      go_wp2_with fail
      go_ret
      exact ⟨ret_int HQ.out.symm, hT2⟩
    case false =>
      have HQ := Lib.hid (HF.out.trans (if_neg (by rw [hx]; decide)))
      go_wp2_with fail
      go_ret
      exact ⟨ret_int HQ.out.symm, hT2⟩
end Cu
end Go.Proofs.Yteaanngagcflhaa
