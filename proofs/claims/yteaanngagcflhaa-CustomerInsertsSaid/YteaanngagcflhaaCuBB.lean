/-
  Customers: law Inserts. No condition.
-/
import Derived.Test.YteaanngagcflhaaCuAQ
import Derived.Test.YteaanngagcflhaaCuBA
import Derived.Test.YteaanngagcflhaaCuAM
import Derived.BigQuiet
import Derived.StillTailTactics
import Derived.Lib.Overlaps
import Derived.Deep.DeepCutAuto
import Derived.Deep.RegionWith
import Derived.Laws.RangeAny
set_option maxRecDepth 100000
set_option linter.unusedVariables false
set_option linter.unusedSimpArgs false
namespace Go.Proofs.Yteaanngagcflhaa
open Go.RowKit

namespace Cu
set_option maxHeartbeats 8000000 in
theorem law_inserts (A : Option Addr) (n c : Nat) (l : List Ev) (e : Ev) (w : World) (hA : A = none → c = 0) (hs : Sl w A n c l) (hz : SzOk l) (he : evOk e) :
    Calls Try.prog 5 #[.slice A n c, e.v] w fun r w' => r = .returned (.bool true) ∧ Below w.heap.size w w' := by
  have HS := Lib.hid hs
  have HA := Lib.hid hA
  have HZ := Lib.hid hz
  have HE := Lib.hid he
  have h900 : n ≤ 40 → n ≤ 900 := fun h => by omega
  have H9 := Lib.hid h900
  clear hs hz hA he h900
  unfold Ev.v
  go_enter Try.func5, Try.ntmps5
  go_upto_region 1 with (fail)
  (obtain ⟨W, hWW, hbW, hzW, f1W, qfa⟩ := box1 w #[.int .i64 e.at_, .int .i64 e.kind, .int .i64 e.acc, .int .i64 e.sub, .string e.num, .string e.name, .int .i64 e.val] 36; rw [← hWW]; have qa0 : W.cell? ⟨w.heap.size, 0, none⟩ = some (.int .i64 e.at_) := f1W 0 _ rfl; have qa1 : W.cell? ⟨w.heap.size, 1, none⟩ = some (.int .i64 e.kind) := f1W 1 _ rfl; have qa2 : W.cell? ⟨w.heap.size, 2, none⟩ = some (.int .i64 e.acc) := f1W 2 _ rfl; have qa3 : W.cell? ⟨w.heap.size, 3, none⟩ = some (.int .i64 e.sub) := f1W 3 _ rfl; have qa4 : W.cell? ⟨w.heap.size, 4, none⟩ = some (.string e.num) := f1W 4 _ rfl; have qa5 : W.cell? ⟨w.heap.size, 5, none⟩ = some (.string e.name) := f1W 5 _ rfl; have qa6 : W.cell? ⟨w.heap.size, 6, none⟩ = some (.int .i64 e.val) := f1W 6 _ rfl; clear hWW f1W)
  by_cases h40 : (n : Int) ≤ 40
  · have h9 := H9.out (by omega)
    go_upto_region 4 with (first
      | (go_at_call 21; go_must (refine (few_any A n c _).mono ?_; rintro r w1 ⟨rfl, rfl⟩))
      | (go_at_call 29; go_must (refine (Insert_any A n c l e _ (HS.out.below hbW) HA.out HZ.out HE.out h9).mono ?_; rintro r w2 ⟨⟨A1, n1, c1, rfl, _, h1⟩, hb2⟩)))
    have H1 := Lib.hid h1
    have hb3 := hbW.trans (hb2.mono hbW.size)
    (have hzhb2 := hb2.size; replace qa0 := cl hb2 qa0; replace qa1 := cl hb2 qa1; replace qa2 := cl hb2 qa2; replace qa3 := cl hb2 qa3; replace qa4 := cl hb2 qa4; replace qa5 := cl hb2 qa5; replace qa6 := cl hb2 qa6)
    clear h1 hb2
    go_upto_region 5 with (go_at_call 30; go_must (refine (rInsert_any A n c l e _ (HS.out.below hb3) HA.out HZ.out HE.out h9).mono ?_; rintro r w4 ⟨⟨A2, n2, c2, rfl, _, h2⟩, hb4⟩))
    have H2 := Lib.hid h2
    have hb5 := hb3.trans (hb4.mono hb3.size)
    clear h2
    obtain ⟨z, hz⟩ : ∃ z, (chkL (insL l e)).2 = z := ⟨_, rfl⟩
    rw [hz] at H1 H2 ⊢
    clear hz
    go_wp2_with fail
    refine (SameEvents_any A1 A2 n1 c1 n2 c2 _ _ _ (H1.out.below hb4) H2.out).mono ?_
    rintro r w6 ⟨hr, hb6⟩
    obtain rfl := hr.t rfl
    clear hr
    have hzz : (z == z) = true := by simp
    go_wp2_with (go_at_call 22; go_must (refine (awake_any _).mono ?_; rintro r w7 ⟨rfl, hb7⟩))
    go_ret
    exact ⟨rfl, hb5.trans ((hb6.trans (hb7.mono hb6.size)).mono hb5.size)⟩
  · have hd : decide ((n : Int) ≤ 40) = false := decide_eq_false h40
    go_wp2_with (first
      | (go_at_call 21; go_must (refine (few_any A n c _).mono ?_; rintro r w1 ⟨rfl, rfl⟩))
      | (go_at_call 22; go_must (refine (awake_any _).mono ?_; rintro r w2 ⟨rfl, hb2⟩)))
    go_ret
    exact ⟨rfl, hbW.trans (hb2.mono hbW.size)⟩
end Cu
end Go.Proofs.Yteaanngagcflhaa
