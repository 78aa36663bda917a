/-
  Subscriptions: laws History, Active, Family. No condition.
-/
import Derived.Test.YteaanngagcflhaaKb35
import Derived.Test.YteaanngagcflhaaKb28
import Derived.BigQuiet
import Derived.StillTailTactics
import Derived.Lib.Overlaps
import Derived.Deep.DeepCutAuto
import Derived.Deep.RegionWith
import Derived.Laws.RangeAny
import Derived.Test.YteaanngagcflhaaChecked
import Derived.Test.YteaanngagcflhaaRows
import Derived.JoinedOf
set_option maxRecDepth 100000
set_option linter.unusedVariables false
set_option linter.unusedSimpArgs false
namespace Go.Proofs.Yteaanngagcflhaa
open Go.RowKit
namespace Ss
open Cu
set_option maxHeartbeats 16000000 in
theorem law_history (A : Option Addr) (n c : Nat) (l : List Ev) (x t : Int) (w : World) (hs : Sl w A n c l) (hz : SzOk l) :
    Calls Try.prog 15 #[.slice A n c, .int .i64 x, .int .i64 t] w fun r w' => r = .returned (.bool true) ∧ Below w.heap.size w w' := by
  have HS := Lib.hid hs
  have HZ := Lib.hid hz
  clear hs hz
  go_enter Try.func15, Try.ntmps15
  cases hvl : vlB l
  · have HVB := Lib.hid hvl
    clear hvl
    go_wp2_with (first
      | (go_at_call 25; go_must (refine (rValid_any A n c l _ HS.out HZ.out).mono ?_; rintro r w1 ⟨rfl, hb1⟩; rw [HVB.out]))
      | (go_at_call 51; go_must (refine (awake20_any _).mono ?_; rintro r w2 ⟨rfl, hb2⟩)))
    go_ret
    exact ⟨rfl, (hb1.trans (hb2.mono hb1.size))⟩
  have HVB := Lib.hid hvl
  have HV := Lib.hid (vlB_true hvl)
  have h1000 : n ≤ 1000 := by have := HS.out.len; have := HV.out.1; omega
  clear hvl
  go_upto_region 3 with (go_at_call 25; go_must (refine (rValid_any A n c l _ HS.out HZ.out).mono ?_; rintro r w1 ⟨rfl, hb1⟩; rw [HVB.out]))
  replace HS := Lib.hid (HS.out.below hb1)
  obtain ⟨q, hq⟩ : ∃ q, (atI (spE l x) t).isSome = q := ⟨_, rfl⟩
  have HQ := Lib.hid hq
  have hqq : (q == q) = true := by simp
  clear hq
  go_upto_region 4 with (go_at_call 52; go_must (refine (At_any _ n c l x t _ HS.out HV.out).mono ?_; rintro r w2 ⟨⟨v, rfl, hv⟩, hb2⟩; rw [HQ.out]; have HLV := Lib.hid hv; clear hv; unfold Lv.val))
  (obtain ⟨W, hWW, hbW, hzW, f1W, pfa⟩ := box1 w2 #[.int .i64 v.f, .int .i64 v.t, .string v.plan, .slice v.A v.n v.c, .bool v.susp, .bool v.fam] 76; rw [← hWW]; have pa0 : W.cell? ⟨w2.heap.size, 0, none⟩ = some (.int .i64 v.f) := f1W 0 _ rfl; have pa1 : W.cell? ⟨w2.heap.size, 1, none⟩ = some (.int .i64 v.t) := f1W 1 _ rfl; have pa2 : W.cell? ⟨w2.heap.size, 2, none⟩ = some (.string v.plan) := f1W 2 _ rfl; have pa3 : W.cell? ⟨w2.heap.size, 3, none⟩ = some (.slice v.A v.n v.c) := f1W 3 _ rfl; have pa4 : W.cell? ⟨w2.heap.size, 4, none⟩ = some (.bool v.susp) := f1W 4 _ rfl; have pa5 : W.cell? ⟨w2.heap.size, 5, none⟩ = some (.bool v.fam) := f1W 5 _ rfl; clear hWW f1W)
  have hb2W := hb2.trans (hbW.mono hb2.size)
  replace HS := Lib.hid (HS.out.below hb2W)
  replace HLV := Lib.hid (HLV.out.on hbW)
  have hbwW := hb1.trans (hb2W.mono hb1.size)
  have hs2 := hb2.size
  clear hb1 hb2 hbW hb2W
  go_upto_region 5 with (go_at_call 53; go_must (refine (rAt_any _ n c l x t _ HS.out HV.out).mono ?_; rintro r w3 ⟨⟨u, rfl, hu⟩, hb3⟩; rw [HQ.out]; have HLU := Lib.hid hu; clear hu; unfold Lv.val))
  (obtain ⟨X, hWX, hbX, hzX, f1X, rfa⟩ := box1 w3 #[.int .i64 u.f, .int .i64 u.t, .string u.plan, .slice u.A u.n u.c, .bool u.susp, .bool u.fam] 76; rw [← hWX]; have ra0 : X.cell? ⟨w3.heap.size, 0, none⟩ = some (.int .i64 u.f) := f1X 0 _ rfl; have ra1 : X.cell? ⟨w3.heap.size, 1, none⟩ = some (.int .i64 u.t) := f1X 1 _ rfl; have ra2 : X.cell? ⟨w3.heap.size, 2, none⟩ = some (.string u.plan) := f1X 2 _ rfl; have ra3 : X.cell? ⟨w3.heap.size, 3, none⟩ = some (.slice u.A u.n u.c) := f1X 3 _ rfl; have ra4 : X.cell? ⟨w3.heap.size, 4, none⟩ = some (.bool u.susp) := f1X 4 _ rfl; have ra5 : X.cell? ⟨w3.heap.size, 5, none⟩ = some (.bool u.fam) := f1X 5 _ rfl; clear hWX f1X)
  have hb3X := hb3.trans (hbX.mono hb3.size)
  replace HS := Lib.hid (HS.out.below hb3X)
  replace HLU := Lib.hid (HLU.out.on hbX)
  replace HLV := Lib.hid (HLV.out.on hb3X)
  have hbwX := hbwW.trans (hb3X.mono hbwW.size)
  have hs3 := hb3.size
  replace pa0 := cl hb3X pa0
  replace pa1 := cl hb3X pa1
  replace pa2 := cl hb3X pa2
  replace pa3 := cl hb3X pa3
  replace pa4 := cl hb3X pa4
  replace pa5 := cl hb3X pa5
  clear hb3 hbX hb3X hbwW
  go_wp2_with (first
    | (go_at_call 55; go_must (refine (Spells_any _ n c l x _ HS.out h1000).mono ?_; rintro r w4 ⟨⟨A4, n4, c4, rfl, h4⟩, hb4⟩; have H4 := Lib.hid h4; clear h4))
    | (go_at_call 56; go_must (refine (rSpells_any _ n c l x _ (HS.out.below hb4) HV.out).mono ?_; rintro r w5 ⟨⟨A5, n5, c5, rfl, h5⟩, hb5⟩; have H5 := Lib.hid h5; clear h5))
    | (go_at_call 54; go_must (refine (SameL_any A4 A5 n4 c4 n5 c5 _ _ (H4.out.on hb5) H5.out).mono ?_; rintro r w6 ⟨rfl, hb6⟩; have hb46 := hb4.trans ((hb5.trans (hb6.mono hb5.size)).mono hb4.size); replace pa0 := cl hb46 pa0; replace pa1 := cl hb46 pa1; replace pa2 := cl hb46 pa2; replace pa3 := cl hb46 pa3; replace pa4 := cl hb46 pa4; replace pa5 := cl hb46 pa5; replace ra0 := cl hb46 ra0; replace ra1 := cl hb46 ra1; replace ra2 := cl hb46 ra2; replace ra3 := cl hb46 ra3; replace ra4 := cl hb46 ra4; replace ra5 := cl hb46 ra5; clear hb4 hb5 hb6))
    | (go_at_call 57; go_must (refine (SameSpell_any v u _ _ (HLV.out.on hb46) (HLU.out.on hb46)).mono ?_; rintro r w7 ⟨rfl, hb7⟩))
    | (go_at_call 51; go_must (refine (awake20_any _).mono ?_; rintro r w8 ⟨rfl, hb8⟩)))
  go_ret
  exact ⟨rfl, hbwX.trans ((hb46.trans ((hb7.trans (hb8.mono hb7.size)).mono hb46.size)).mono hbwX.size)⟩
set_option maxHeartbeats 16000000 in
theorem law_active (A : Option Addr) (n c : Nat) (l : List Ev) (x : Int) (p : ByteArray) (w : World) (hs : Sl w A n c l) (hz : SzOk l) :
    Calls Try.prog 16 #[.slice A n c, .int .i64 x, .string p] w fun r w' => r = .returned (.bool true) ∧ Below w.heap.size w w' := by
  have HS := Lib.hid hs
  have HZ := Lib.hid hz
  clear hs hz
  go_enter Try.func16, Try.ntmps16
  cases hvl : vlB l
  · have HVB := Lib.hid hvl
    clear hvl
    go_wp2_with (first
      | (go_at_call 25; go_must (refine (rValid_any A n c l _ HS.out HZ.out).mono ?_; rintro r w1 ⟨rfl, hb1⟩; rw [HVB.out]))
      | (go_at_call 51; go_must (refine (awake20_any _).mono ?_; rintro r w2 ⟨rfl, hb2⟩)))
    go_ret
    exact ⟨rfl, (hb1.trans (hb2.mono hb1.size))⟩
  have HVB := Lib.hid hvl
  have HV := Lib.hid (vlB_true hvl)
  have h1000 : n ≤ 1000 := by have := HS.out.len; have := HV.out.1; omega
  clear hvl
  go_upto_region 3 with (go_at_call 25; go_must (refine (rValid_any A n c l _ HS.out HZ.out).mono ?_; rintro r w1 ⟨rfl, hb1⟩; rw [HVB.out]))
  replace HS := Lib.hid (HS.out.below hb1)
  go_wp2_with (first
    | (go_at_call 59; go_must (refine (Active_any _ n c l x p _ HS.out HV.out).mono ?_; rintro r w4 ⟨⟨A4, n4, c4, rfl, h4⟩, hb4⟩; have H4 := Lib.hid h4; clear h4; replace HS := Lib.hid (HS.out.below hb4)))
    | (go_at_call 60; go_must (refine (rActive_any _ n c l x p _ HS.out HV.out).mono ?_; rintro r w5 ⟨⟨A5, n5, c5, rfl, h5⟩, hb5⟩; have H5 := Lib.hid h5; clear h5; replace HS := Lib.hid (HS.out.below hb5)))
    | (refine (SamePeriods_any A4 A5 n4 c4 n5 c5 _ _ (H4.out.on hb5) H5.out).mono ?_; rintro r w6 ⟨rfl, hb6⟩; (have hb46 := hb4.trans ((hb5.trans (hb6.mono hb5.size)).mono hb4.size)); replace HS := Lib.hid (HS.out.below hb6); clear hb4 hb5 hb6 H4 H5)
    | (go_at_call 61; go_must (refine (Served_any _ n c l x _ HS.out HV.out).mono ?_; rintro r w7 ⟨⟨A7, n7, c7, rfl, h7⟩, hb7⟩; have H7 := Lib.hid h7; clear h7; replace HS := Lib.hid (HS.out.below hb7)))
    | (go_at_call 62; go_must (refine (rServed_any _ n c l x _ HS.out HV.out).mono ?_; rintro r w8 ⟨⟨A8, n8, c8, rfl, h8⟩, hb8⟩; have H8 := Lib.hid h8; clear h8; replace HS := Lib.hid (HS.out.below hb8)))
    | (refine (SamePeriods_any A7 A8 n7 c7 n8 c8 _ _ (H7.out.on hb8) H8.out).mono ?_; rintro r w9 ⟨rfl, hb9⟩)
    | (go_at_call 51; go_must (refine (awake20_any _).mono ?_; rintro r wA ⟨rfl, hbA⟩)))
  go_ret
  exact ⟨rfl, hb1.trans ((hb46.trans ((hb7.trans ((hb8.trans ((hb9.trans (hbA.mono hb9.size)).mono hb8.size)).mono hb7.size)).mono hb46.size)).mono hb1.size)⟩
set_option maxHeartbeats 16000000 in
theorem law_family (A : Option Addr) (n c : Nat) (l : List Ev) (ac t : Int) (w : World) (hs : Sl w A n c l) (hz : SzOk l) :
    Calls Try.prog 17 #[.slice A n c, .int .i64 ac, .int .i64 t] w fun r w' => r = .returned (.bool true) ∧ Below w.heap.size w w' := by
  have HS := Lib.hid hs
  have HZ := Lib.hid hz
  clear hs hz
  go_enter Try.func17, Try.ntmps17
  cases hvl : vlB l
  · have HVB := Lib.hid hvl
    clear hvl
    go_wp2_with (first
      | (go_at_call 25; go_must (refine (rValid_any A n c l _ HS.out HZ.out).mono ?_; rintro r w1 ⟨rfl, hb1⟩; rw [HVB.out]))
      | (go_at_call 51; go_must (refine (awake20_any _).mono ?_; rintro r w2 ⟨rfl, hb2⟩)))
    go_ret
    exact ⟨rfl, (hb1.trans (hb2.mono hb1.size))⟩
  have HVB := Lib.hid hvl
  have HV := Lib.hid (vlB_true hvl)
  have h1000 : n ≤ 1000 := by have := HS.out.len; have := HV.out.1; omega
  clear hvl
  go_upto_region 3 with (go_at_call 25; go_must (refine (rValid_any A n c l _ HS.out HZ.out).mono ?_; rintro r w1 ⟨rfl, hb1⟩; rw [HVB.out]))
  replace HS := Lib.hid (HS.out.below hb1)
  go_wp2_with (first
    | (go_at_call 64; go_must (refine (Family_any _ n c l ac t _ HS.out HV.out HZ.out).mono ?_; rintro r w4 ⟨⟨A4, n4, c4, rfl, h4⟩, hb4⟩; have H4 := Lib.hid h4; clear h4; replace HS := Lib.hid (HS.out.below hb4)))
    | (go_at_call 65; go_must (refine (rFamily_any _ n c l ac t _ HS.out HV.out HZ.out).mono ?_; rintro r w5 ⟨⟨A5, n5, c5, rfl, h5⟩, hb5⟩; have H5 := Lib.hid h5; clear h5))
    | (go_at_call 63; go_must (refine (SameInts_any A4 A5 n4 c4 n5 c5 _ _ ⟨H4.out.1, H4.out.2.below hb5⟩ H5.out).mono ?_; rintro r w6 ⟨rfl, hb6⟩))
    | (go_at_call 51; go_must (refine (awake20_any _).mono ?_; rintro r w7 ⟨rfl, hb7⟩)))
  go_ret
  exact ⟨rfl, hb1.trans ((hb4.trans ((hb5.trans ((hb6.trans (hb7.mono hb6.size)).mono hb5.size)).mono hb4.size)).mono hb1.size)⟩
end Ss
end Go.Proofs.Yteaanngagcflhaa
namespace Go.Proofs.Yteaanngagcflhaa
open Go
theorem join_enter : Program.mayEnter Try.prog = true := by kernel_rfl
theorem join_make : Try.prog.make = some Rows.customerChecksRow.make := by kernel_rfl
theorem join_lift : Try.prog.liftsFinal = Rows.customerChecksRow.lifted := by kernel_rfl
theorem join_laid : laidOutB Try.prog = true := by kernel_rfl
end Go.Proofs.Yteaanngagcflhaa
