/-
  Customers: law Checks. No condition.
-/
import Derived.Test.YteaanngagcflhaaCuAP
import Derived.Test.YteaanngagcflhaaCuAI
import Derived.Test.YteaanngagcflhaaCuAS
import Derived.BigQuiet
import Derived.StillTailTactics
import Derived.Lib.Overlaps
import Derived.Deep.DeepCutAuto
import Derived.Deep.RegionWith
import Derived.Laws.RangeAny
set_option maxRecDepth 100000
set_option linter.unusedVariables false
set_option linter.unusedSimpArgs false
namespace Go.Proofs.Yteaanngagcflhaa
open Go.RowKit

namespace Cu
set_option maxHeartbeats 4000000 in
theorem law_checks (A : Option Addr) (n c : Nat) (l : List Ev) (w : World) (hs : Sl w A n c l) (hz : SzOk l) :
    Calls Try.prog 3 #[.slice A n c] w fun e w' => e = .returned (.bool true) ∧ Below w.heap.size w w' := by
  have HS := Lib.hid hs
  have HZ := Lib.hid hz
  clear hs hz
  go_enter Try.func3, Try.ntmps3
  by_cases h40 : (n : Int) ≤ 40
  · go_upto_region 5 with (first
      | (go_at_call 21; go_must (refine (few_any A n c _).mono ?_; rintro r w1 ⟨rfl, rfl⟩))
      | (go_at_call 23; go_must (refine (Check_any A n c l _ HS.out HZ.out).mono ?_; rintro r w2 ⟨rfl, hb2⟩))
      | (go_at_call 24; go_must (refine (rCheck_any A n c l _ (HS.out.below hb2) HZ.out (by omega)).mono ?_; rintro r w3 ⟨rfl, hb3⟩)))
    go_wp2_with (go_at_call 22; go_must (refine (awake_any _).mono ?_; rintro r w4 ⟨rfl, hb4⟩))
    go_ret
    exact ⟨rfl, hb2.trans ((hb3.trans (hb4.mono hb3.size)).mono hb2.size)⟩
  · have hd : decide ((n : Int) ≤ 40) = false := decide_eq_false h40
    go_wp2_with (first
      | (go_at_call 21; go_must (refine (few_any A n c _).mono ?_; rintro r w1 ⟨rfl, rfl⟩))
      | (go_at_call 22; go_must (refine (awake_any _).mono ?_; rintro r w2 ⟨rfl, hb2⟩)))
    go_ret
    exact ⟨rfl, hb2⟩
end Cu
end Go.Proofs.Yteaanngagcflhaa
