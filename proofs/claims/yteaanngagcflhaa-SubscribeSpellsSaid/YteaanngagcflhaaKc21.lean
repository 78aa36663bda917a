/-
  Subscriptions: next. No condition.
-/
import Derived.Test.YteaanngagcflhaaKc19
import Derived.Test.YteaanngagcflhaaKc20
import Derived.Test.YteaanngagcflhaaKc07
import Derived.BigQuiet
import Derived.StillTailTactics
import Derived.Lib.Overlaps
import Derived.Deep.DeepCutAuto
import Derived.Deep.RegionWith
import Derived.Laws.RangeAny
set_option maxRecDepth 100000
set_option linter.unusedVariables false
set_option linter.unusedSimpArgs false
namespace Go.Proofs.Yteaanngagcflhaa
open Go.RowKit
namespace Ss
open Cu
set_option maxHeartbeats 16000000 in
theorem next_3 (v : Sv) (sb : Sb) (at_ acc sub val : Int) (num name : ByteArray) (p q : Nat → Prop) (w : World) (hpq : ∀ b, p b → q b) (hq : ∀ b, w.heap.size ≤ b → q b) (hsr : SRP w p v sb) (hln : sb.prods.length ≤ 100000) :
    Calls Try.prog 111 #[.agg #[.int .i64 v.id, .int .i64 v.acc, .int .i64 v.since, .string v.plan, .slice v.An v.nn v.cn, .slice v.Ap v.np v.cp, .bool v.susp, .bool v.fam], .agg #[.int .i64 at_, .int .i64 3, .int .i64 acc, .int .i64 sub, .string num, .string name, .int .i64 val]] w fun r w' => (∃ v' : Sv, r = .returned v'.val ∧ SRP w' q v' (nxtS sb ⟨at_, 3, acc, sub, num, name, val⟩)) ∧ Below w.heap.size w w' := by
  have HS0 := Lib.hid hsr
  have HSR := Lib.hid hsr
  have hpp := hsr.1.p.len
  clear hsr
  go_enter Try.func111, Try.ntmps111
  go_upto_region 1 with (fail)
  obtain ⟨W, hW, hbW, hzW, f1, f2, f3, ff1, ff3⟩ := box3 w #[.int .i64 v.id, .int .i64 v.acc, .int .i64 v.since, .string v.plan, .slice v.An v.nn v.cn, .slice v.Ap v.np v.cp, .bool v.susp, .bool v.fam] #[.int .i64 at_, .int .i64 3, .int .i64 acc, .int .i64 sub, .string num, .string name, .int .i64 val] #[.int .i64 0, .int .i64 0, .int .i64 0, .string ⟨#[]⟩, .slice none 0 0, .slice none 0 0, .bool false, .bool false] 51 36 51
  rw [← hW]
  have va0 := f1 0 _ rfl
  have va1 := f1 1 _ rfl
  have va2 := f1 2 _ rfl
  have va3 := f1 3 _ rfl
  have va4 := f1 4 _ rfl
  have va5 := f1 5 _ rfl
  have va6 := f1 6 _ rfl
  have va7 := f1 7 _ rfl
  have qb0 := f2 0 _ rfl
  have qb1 := f2 1 _ rfl
  have qb2 := f2 2 _ rfl
  have qb3 := f2 3 _ rfl
  have qb4 := f2 4 _ rfl
  have qb5 := f2 5 _ rfl
  have qb6 := f2 6 _ rfl
  have rc0 := f3 0 _ rfl
  have rc1 := f3 1 _ rfl
  have rc2 := f3 2 _ rfl
  have rc3 := f3 3 _ rfl
  have rc4 := f3 4 _ rfl
  have rc5 := f3 5 _ rfl
  have rc6 := f3 6 _ rfl
  have rc7 := f3 7 _ rfl
  clear hW f1 f2 f3
  have hgW : w.heap.size + 1 < W.heap.size := by omega
  replace HSR := Lib.hid (famS.keep HSR.out (Keeps.ofBelow hbW))
  have hgX : w.heap.size + 1 + 1 < W.heap.size := by omega
  go_wp2_with fail
  have hold := eight rc0 rc1 rc2 rc3 rc4 rc5 rc6 rc7
  have hr := setRun_is (vs := [.int .i64 sub, .int .i64 acc, .int .i64 at_, .string name, .slice none 0 0, .slice none 0 0, .bool false, .bool false]) hold (Nat.le_refl _)
  refine bodyPost_ret (results_cells rfl _ _ (w.heap.size + 1 + 1) ⟨[.int .i64 sub, .int .i64 acc, .int .i64 at_, .string name, .slice none 0 0, .slice none 0 0, .bool false, .bool false]⟩ _ rfl hr rfl rfl rfl) rfl ?_
  have hbE : Below w.heap.size w (setRun W (w.heap.size + 1 + 1) 0 [.int .i64 sub, .int .i64 acc, .int .i64 at_, .string name, .slice none 0 0, .slice none 0 0, .bool false, .bool false]) := setRun_below _ _ _ hbW (by omega)
  exact ⟨⟨⟨sub, acc, at_, name, none, 0, 0, none, 0, 0, false, false⟩, rfl, ⟨⟨rfl, rfl, rfl, rfl, fun _ => rfl, Sl.nil_ _, fun _ => rfl, Sl.nil_ _, rfl, rfl⟩, OkA.nil_, OkA.nil_⟩⟩, hbE⟩
set_option maxHeartbeats 16000000 in
theorem next_4 (v : Sv) (sb : Sb) (at_ acc sub val : Int) (num name : ByteArray) (p q : Nat → Prop) (w : World) (hpq : ∀ b, p b → q b) (hq : ∀ b, w.heap.size ≤ b → q b) (hsr : SRP w p v sb) (hln : sb.prods.length ≤ 100000) :
    Calls Try.prog 111 #[.agg #[.int .i64 v.id, .int .i64 v.acc, .int .i64 v.since, .string v.plan, .slice v.An v.nn v.cn, .slice v.Ap v.np v.cp, .bool v.susp, .bool v.fam], .agg #[.int .i64 at_, .int .i64 4, .int .i64 acc, .int .i64 sub, .string num, .string name, .int .i64 val]] w fun r w' => (∃ v' : Sv, r = .returned v'.val ∧ SRP w' q v' (nxtS sb ⟨at_, 4, acc, sub, num, name, val⟩)) ∧ Below w.heap.size w w' := by
  have HS0 := Lib.hid hsr
  have HSR := Lib.hid hsr
  have hpp := hsr.1.p.len
  clear hsr
  go_enter Try.func111, Try.ntmps111
  go_upto_region 1 with (fail)
  obtain ⟨W, hW, hbW, hzW, f1, f2, f3, ff1, ff3⟩ := box3 w #[.int .i64 v.id, .int .i64 v.acc, .int .i64 v.since, .string v.plan, .slice v.An v.nn v.cn, .slice v.Ap v.np v.cp, .bool v.susp, .bool v.fam] #[.int .i64 at_, .int .i64 4, .int .i64 acc, .int .i64 sub, .string num, .string name, .int .i64 val] #[.int .i64 0, .int .i64 0, .int .i64 0, .string ⟨#[]⟩, .slice none 0 0, .slice none 0 0, .bool false, .bool false] 51 36 51
  rw [← hW]
  have va0 := f1 0 _ rfl
  have va1 := f1 1 _ rfl
  have va2 := f1 2 _ rfl
  have va3 := f1 3 _ rfl
  have va4 := f1 4 _ rfl
  have va5 := f1 5 _ rfl
  have va6 := f1 6 _ rfl
  have va7 := f1 7 _ rfl
  have qb0 := f2 0 _ rfl
  have qb1 := f2 1 _ rfl
  have qb2 := f2 2 _ rfl
  have qb3 := f2 3 _ rfl
  have qb4 := f2 4 _ rfl
  have qb5 := f2 5 _ rfl
  have qb6 := f2 6 _ rfl
  have rc0 := f3 0 _ rfl
  have rc1 := f3 1 _ rfl
  have rc2 := f3 2 _ rfl
  have rc3 := f3 3 _ rfl
  have rc4 := f3 4 _ rfl
  have rc5 := f3 5 _ rfl
  have rc6 := f3 6 _ rfl
  have rc7 := f3 7 _ rfl
  clear hW f1 f2 f3
  have hgW : w.heap.size + 1 < W.heap.size := by omega
  replace HSR := Lib.hid (famS.keep HSR.out (Keeps.ofBelow hbW))
  have hgX : w.heap.size + 1 + 1 < W.heap.size := by omega
  go_wp2_with fail
  have hold := eight rc0 rc1 rc2 rc3 rc4 rc5 rc6 rc7
  have hr := setRun_is (vs := [.int .i64 0, .int .i64 0, .int .i64 0, .string ⟨#[]⟩, .slice none 0 0, .slice none 0 0, .bool false, .bool false]) hold (Nat.le_refl _)
  refine bodyPost_ret (results_cells rfl _ _ (w.heap.size + 1 + 1) ⟨[.int .i64 0, .int .i64 0, .int .i64 0, .string ⟨#[]⟩, .slice none 0 0, .slice none 0 0, .bool false, .bool false]⟩ _ rfl hr rfl rfl rfl) rfl ?_
  have hbE : Below w.heap.size w (setRun W (w.heap.size + 1 + 1) 0 [.int .i64 0, .int .i64 0, .int .i64 0, .string ⟨#[]⟩, .slice none 0 0, .slice none 0 0, .bool false, .bool false]) := setRun_below _ _ _ hbW (by omega)
  exact ⟨⟨sv0, rfl, sv0_sr _ _⟩, hbE⟩
set_option maxHeartbeats 16000000 in
theorem next_7 (v : Sv) (sb : Sb) (at_ acc sub val : Int) (num name : ByteArray) (p q : Nat → Prop) (w : World) (hpq : ∀ b, p b → q b) (hq : ∀ b, w.heap.size ≤ b → q b) (hsr : SRP w p v sb) (hln : sb.prods.length ≤ 100000) :
    Calls Try.prog 111 #[.agg #[.int .i64 v.id, .int .i64 v.acc, .int .i64 v.since, .string v.plan, .slice v.An v.nn v.cn, .slice v.Ap v.np v.cp, .bool v.susp, .bool v.fam], .agg #[.int .i64 at_, .int .i64 7, .int .i64 acc, .int .i64 sub, .string num, .string name, .int .i64 val]] w fun r w' => (∃ v' : Sv, r = .returned v'.val ∧ SRP w' q v' (nxtS sb ⟨at_, 7, acc, sub, num, name, val⟩)) ∧ Below w.heap.size w w' := by
  have HS0 := Lib.hid hsr
  have HSR := Lib.hid hsr
  have hpp := hsr.1.p.len
  clear hsr
  go_enter Try.func111, Try.ntmps111
  go_upto_region 1 with (fail)
  obtain ⟨W, hW, hbW, hzW, f1, f2, f3, ff1, ff3⟩ := box3 w #[.int .i64 v.id, .int .i64 v.acc, .int .i64 v.since, .string v.plan, .slice v.An v.nn v.cn, .slice v.Ap v.np v.cp, .bool v.susp, .bool v.fam] #[.int .i64 at_, .int .i64 7, .int .i64 acc, .int .i64 sub, .string num, .string name, .int .i64 val] #[.int .i64 0, .int .i64 0, .int .i64 0, .string ⟨#[]⟩, .slice none 0 0, .slice none 0 0, .bool false, .bool false] 51 36 51
  rw [← hW]
  have va0 := f1 0 _ rfl
  have va1 := f1 1 _ rfl
  have va2 := f1 2 _ rfl
  have va3 := f1 3 _ rfl
  have va4 := f1 4 _ rfl
  have va5 := f1 5 _ rfl
  have va6 := f1 6 _ rfl
  have va7 := f1 7 _ rfl
  have qb0 := f2 0 _ rfl
  have qb1 := f2 1 _ rfl
  have qb2 := f2 2 _ rfl
  have qb3 := f2 3 _ rfl
  have qb4 := f2 4 _ rfl
  have qb5 := f2 5 _ rfl
  have qb6 := f2 6 _ rfl
  have rc0 := f3 0 _ rfl
  have rc1 := f3 1 _ rfl
  have rc2 := f3 2 _ rfl
  have rc3 := f3 3 _ rfl
  have rc4 := f3 4 _ rfl
  have rc5 := f3 5 _ rfl
  have rc6 := f3 6 _ rfl
  have rc7 := f3 7 _ rfl
  clear hW f1 f2 f3
  have hgW : w.heap.size + 1 < W.heap.size := by omega
  replace HSR := Lib.hid (famS.keep HSR.out (Keeps.ofBelow hbW))
  go_upto_region 18 with (fail)
  obtain ⟨X, hX, hnX, hfarX, hfrX, hblX, hszX⟩ := set1 w.heap.size 3 (u := .string name) va3
  rw [← hX]
  replace va0 := (hfarX w.heap.size 0 (by omega)).trans va0
  replace rc0 := (hfarX (w.heap.size + 1 + 1) 0 (by omega)).trans rc0
  replace va1 := (hfarX w.heap.size 1 (by omega)).trans va1
  replace rc1 := (hfarX (w.heap.size + 1 + 1) 1 (by omega)).trans rc1
  replace va2 := (hfarX w.heap.size 2 (by omega)).trans va2
  replace rc2 := (hfarX (w.heap.size + 1 + 1) 2 (by omega)).trans rc2
  replace rc3 := (hfarX (w.heap.size + 1 + 1) 3 (by omega)).trans rc3
  replace va4 := (hfarX w.heap.size 4 (by omega)).trans va4
  replace rc4 := (hfarX (w.heap.size + 1 + 1) 4 (by omega)).trans rc4
  replace va5 := (hfarX w.heap.size 5 (by omega)).trans va5
  replace rc5 := (hfarX (w.heap.size + 1 + 1) 5 (by omega)).trans rc5
  replace va6 := (hfarX w.heap.size 6 (by omega)).trans va6
  replace rc6 := (hfarX (w.heap.size + 1 + 1) 6 (by omega)).trans rc6
  replace va7 := (hfarX w.heap.size 7 (by omega)).trans va7
  replace rc7 := (hfarX (w.heap.size + 1 + 1) 7 (by omega)).trans rc7
  replace va3 := hnX
  have hbX : Below w.heap.size w X := by rw [hX]; exact hbW.setCell (Nat.le_refl _) _
  have hgX : w.heap.size + 1 + 1 < X.heap.size := by omega
  have ffX : ∀ j, X.frozen? ⟨w.heap.size + 1 + 1, j, none⟩ = false := fun j => (hfrX _ _).trans (ff3 j)
  clear hX hnX hfarX hfrX hblX hbW
  go_wp2_with fail
  have hold := eight rc0 rc1 rc2 rc3 rc4 rc5 rc6 rc7
  have hr := setRun_is (vs := [.int .i64 v.id, .int .i64 v.acc, .int .i64 v.since, .string name, .slice v.An v.nn v.cn, .slice v.Ap v.np v.cp, .bool v.susp, .bool v.fam]) hold (Nat.le_refl _)
  refine bodyPost_ret (results_cells rfl _ _ (w.heap.size + 1 + 1) ⟨[.int .i64 v.id, .int .i64 v.acc, .int .i64 v.since, .string name, .slice v.An v.nn v.cn, .slice v.Ap v.np v.cp, .bool v.susp, .bool v.fam]⟩ _ rfl hr rfl rfl rfl) rfl ?_
  have hbE : Below w.heap.size w (setRun X (w.heap.size + 1 + 1) 0 [.int .i64 v.id, .int .i64 v.acc, .int .i64 v.since, .string name, .slice v.An v.nn v.cn, .slice v.Ap v.np v.cp, .bool v.susp, .bool v.fam]) := setRun_below _ _ _ hbX (by omega)
  have hs := famS.keep HS0.out (Keeps.ofBelow hbE)
  exact ⟨⟨{ v with plan := name }, rfl, ⟨⟨hs.1.id, hs.1.acc, hs.1.since, rfl, hs.1.n0, hs.1.n, hs.1.p0, hs.1.p, hs.1.susp, hs.1.fam⟩, hs.2.1.mono hpq, hs.2.2.mono hpq⟩⟩, hbE⟩
set_option maxHeartbeats 16000000 in
theorem next_8 (v : Sv) (sb : Sb) (at_ acc sub val : Int) (num name : ByteArray) (p q : Nat → Prop) (w : World) (hpq : ∀ b, p b → q b) (hq : ∀ b, w.heap.size ≤ b → q b) (hsr : SRP w p v sb) (hln : sb.prods.length ≤ 100000) :
    Calls Try.prog 111 #[.agg #[.int .i64 v.id, .int .i64 v.acc, .int .i64 v.since, .string v.plan, .slice v.An v.nn v.cn, .slice v.Ap v.np v.cp, .bool v.susp, .bool v.fam], .agg #[.int .i64 at_, .int .i64 8, .int .i64 acc, .int .i64 sub, .string num, .string name, .int .i64 val]] w fun r w' => (∃ v' : Sv, r = .returned v'.val ∧ SRP w' q v' (nxtS sb ⟨at_, 8, acc, sub, num, name, val⟩)) ∧ Below w.heap.size w w' := by
  have HS0 := Lib.hid hsr
  have HSR := Lib.hid hsr
  have hpp := hsr.1.p.len
  clear hsr
  go_enter Try.func111, Try.ntmps111
  go_upto_region 1 with (fail)
  obtain ⟨W, hW, hbW, hzW, f1, f2, f3, ff1, ff3⟩ := box3 w #[.int .i64 v.id, .int .i64 v.acc, .int .i64 v.since, .string v.plan, .slice v.An v.nn v.cn, .slice v.Ap v.np v.cp, .bool v.susp, .bool v.fam] #[.int .i64 at_, .int .i64 8, .int .i64 acc, .int .i64 sub, .string num, .string name, .int .i64 val] #[.int .i64 0, .int .i64 0, .int .i64 0, .string ⟨#[]⟩, .slice none 0 0, .slice none 0 0, .bool false, .bool false] 51 36 51
  rw [← hW]
  have va0 := f1 0 _ rfl
  have va1 := f1 1 _ rfl
  have va2 := f1 2 _ rfl
  have va3 := f1 3 _ rfl
  have va4 := f1 4 _ rfl
  have va5 := f1 5 _ rfl
  have va6 := f1 6 _ rfl
  have va7 := f1 7 _ rfl
  have qb0 := f2 0 _ rfl
  have qb1 := f2 1 _ rfl
  have qb2 := f2 2 _ rfl
  have qb3 := f2 3 _ rfl
  have qb4 := f2 4 _ rfl
  have qb5 := f2 5 _ rfl
  have qb6 := f2 6 _ rfl
  have rc0 := f3 0 _ rfl
  have rc1 := f3 1 _ rfl
  have rc2 := f3 2 _ rfl
  have rc3 := f3 3 _ rfl
  have rc4 := f3 4 _ rfl
  have rc5 := f3 5 _ rfl
  have rc6 := f3 6 _ rfl
  have rc7 := f3 7 _ rfl
  clear hW f1 f2 f3
  have hgW : w.heap.size + 1 < W.heap.size := by omega
  replace HSR := Lib.hid (famS.keep HSR.out (Keeps.ofBelow hbW))
  have hln9 : v.np ≤ 900000 := by omega
  go_upto_region 18 with (go_at_call 126; go_must (refine (with_any v.Ap v.np v.cp sb.prods name _ HSR.out.1.p HSR.out.1.p0 hln9).mono ?_; rintro r w5 ⟨v5, rfl, ho5, hb5⟩; obtain ⟨A6, c6, rfl, hn6, hs6⟩ := ho5.slN; have za0 := (hb5.cell (p := ⟨w.heap.size, 0, none⟩) (by show w.heap.size < W.heap.size; omega)).trans va0; have za1 := (hb5.cell (p := ⟨w.heap.size, 1, none⟩) (by show w.heap.size < W.heap.size; omega)).trans va1; have za2 := (hb5.cell (p := ⟨w.heap.size, 2, none⟩) (by show w.heap.size < W.heap.size; omega)).trans va2; have za3 := (hb5.cell (p := ⟨w.heap.size, 3, none⟩) (by show w.heap.size < W.heap.size; omega)).trans va3; have za4 := (hb5.cell (p := ⟨w.heap.size, 4, none⟩) (by show w.heap.size < W.heap.size; omega)).trans va4; have za5 := (hb5.cell (p := ⟨w.heap.size, 5, none⟩) (by show w.heap.size < W.heap.size; omega)).trans va5; have za6 := (hb5.cell (p := ⟨w.heap.size, 6, none⟩) (by show w.heap.size < W.heap.size; omega)).trans va6; have za7 := (hb5.cell (p := ⟨w.heap.size, 7, none⟩) (by show w.heap.size < W.heap.size; omega)).trans va7; have zr0 := (hb5.cell (p := ⟨w.heap.size + 1 + 1, 0, none⟩) (by show w.heap.size + 1 + 1 < W.heap.size; omega)).trans rc0; have zr1 := (hb5.cell (p := ⟨w.heap.size + 1 + 1, 1, none⟩) (by show w.heap.size + 1 + 1 < W.heap.size; omega)).trans rc1; have zr2 := (hb5.cell (p := ⟨w.heap.size + 1 + 1, 2, none⟩) (by show w.heap.size + 1 + 1 < W.heap.size; omega)).trans rc2; have zr3 := (hb5.cell (p := ⟨w.heap.size + 1 + 1, 3, none⟩) (by show w.heap.size + 1 + 1 < W.heap.size; omega)).trans rc3; have zr4 := (hb5.cell (p := ⟨w.heap.size + 1 + 1, 4, none⟩) (by show w.heap.size + 1 + 1 < W.heap.size; omega)).trans rc4; have zr5 := (hb5.cell (p := ⟨w.heap.size + 1 + 1, 5, none⟩) (by show w.heap.size + 1 + 1 < W.heap.size; omega)).trans rc5; have zr6 := (hb5.cell (p := ⟨w.heap.size + 1 + 1, 6, none⟩) (by show w.heap.size + 1 + 1 < W.heap.size; omega)).trans rc6; have zr7 := (hb5.cell (p := ⟨w.heap.size + 1 + 1, 7, none⟩) (by show w.heap.size + 1 + 1 < W.heap.size; omega)).trans rc7; have zf1 : ∀ j, w5.frozen? ⟨w.heap.size, j, none⟩ = false := fun j => (hb5.frozen (p := ⟨w.heap.size, j, none⟩) (by show w.heap.size < W.heap.size; omega)).trans (ff1 j); have zf3 : ∀ j, w5.frozen? ⟨w.heap.size + 1 + 1, j, none⟩ = false := fun j => (hb5.frozen (p := ⟨w.heap.size + 1 + 1, j, none⟩) (by show w.heap.size + 1 + 1 < W.heap.size; omega)).trans (ff3 j); have HK6 := Lib.hid (And.intro hn6 (And.intro hs6 ho5.okA)); have HB5 := Lib.hid hb5; clear hn6 hs6 ho5 hb5))
  obtain ⟨X, hX, hnX, hfarX, hfrX, hblX, hszX⟩ := set1 w.heap.size 5 (u := .slice A6 (insS sb.prods name).length c6) za5
  rw [← hX]
  have va0 := (hfarX w.heap.size 0 (by omega)).trans za0
  have rc0 := (hfarX (w.heap.size + 1 + 1) 0 (by omega)).trans zr0
  have va1 := (hfarX w.heap.size 1 (by omega)).trans za1
  have rc1 := (hfarX (w.heap.size + 1 + 1) 1 (by omega)).trans zr1
  have va2 := (hfarX w.heap.size 2 (by omega)).trans za2
  have rc2 := (hfarX (w.heap.size + 1 + 1) 2 (by omega)).trans zr2
  have va3 := (hfarX w.heap.size 3 (by omega)).trans za3
  have rc3 := (hfarX (w.heap.size + 1 + 1) 3 (by omega)).trans zr3
  have va4 := (hfarX w.heap.size 4 (by omega)).trans za4
  have rc4 := (hfarX (w.heap.size + 1 + 1) 4 (by omega)).trans zr4
  have rc5 := (hfarX (w.heap.size + 1 + 1) 5 (by omega)).trans zr5
  have va6 := (hfarX w.heap.size 6 (by omega)).trans za6
  have rc6 := (hfarX (w.heap.size + 1 + 1) 6 (by omega)).trans zr6
  have va7 := (hfarX w.heap.size 7 (by omega)).trans za7
  have rc7 := (hfarX (w.heap.size + 1 + 1) 7 (by omega)).trans zr7
  have va5 := hnX
  have ffX : ∀ j, X.frozen? ⟨w.heap.size + 1 + 1, j, none⟩ = false := fun j => (hfrX _ _).trans (zf3 j)
  have hs5 := HB5.out.size
  have hgX : w.heap.size + 1 + 1 < X.heap.size := by omega
  clear za0 zr0 za1 zr1 za2 zr2 za3 zr3 za4 zr4 za5 zr5 za6 zr6 za7 zr7 zf1 zf3 ff1 ff3
  have HXE := Lib.hid hX
  clear hX hfarX hfrX hnX hblX
  go_wp2_with fail
  have hold := eight rc0 rc1 rc2 rc3 rc4 rc5 rc6 rc7
  have hr := setRun_is (vs := [.int .i64 v.id, .int .i64 v.acc, .int .i64 v.since, .string v.plan, .slice v.An v.nn v.cn, .slice A6 (insS sb.prods name).length c6, .bool v.susp, .bool v.fam]) hold (Nat.le_refl _)
  refine bodyPost_ret (results_cells rfl _ _ (w.heap.size + 1 + 1) ⟨[.int .i64 v.id, .int .i64 v.acc, .int .i64 v.since, .string v.plan, .slice v.An v.nn v.cn, .slice A6 (insS sb.prods name).length c6, .bool v.susp, .bool v.fam]⟩ _ rfl hr rfl rfl rfl) rfl ?_
  have hX := HXE.out
  have hkX : Keeps (fun b => b ≠ w.heap.size) w5 X := by rw [hX]; exact Keeps.ofSet fun b hb => hb
  have hkE : Keeps (fun b => b ≠ w.heap.size + 1 + 1) X (setRun X (w.heap.size + 1 + 1) 0 [.int .i64 v.id, .int .i64 v.acc, .int .i64 v.since, .string v.plan, .slice v.An v.nn v.cn, .slice A6 (insS sb.prods name).length c6, .bool v.susp, .bool v.fam]) := setRun_keeps _ _ _ fun b hb => hb
  have hnE := (HK6.out.2.1.keepP HK6.out.2.2 (kless hkX fun b hb => by have : W.heap.size ≤ b := hb; show b ≠ _; omega)).keepP HK6.out.2.2 (kless hkE fun b hb => by have : W.heap.size ≤ b := hb; show b ≠ _; omega)
  have hkN : ∀ b, W.heap.size ≤ b → q b := fun b hb => hq b (by omega)
  have hbE : Below w.heap.size w (setRun X (w.heap.size + 1 + 1) 0 [.int .i64 v.id, .int .i64 v.acc, .int .i64 v.since, .string v.plan, .slice v.An v.nn v.cn, .slice A6 (insS sb.prods name).length c6, .bool v.susp, .bool v.fam]) := setRun_below _ _ _ (by rw [hX]; exact (hbW.trans (HB5.out.mono hbW.size)).setCell (Nat.le_refl _) _) (by omega)
  have hs := famS.keep HS0.out (Keeps.ofBelow hbE)
  exact ⟨⟨{ v with Ap := A6, np := (insS sb.prods name).length, cp := c6 }, rfl, ⟨⟨hs.1.id, hs.1.acc, hs.1.since, hs.1.plan, hs.1.n0, hs.1.n, HK6.out.1, hnE, hs.1.susp, hs.1.fam⟩, hs.2.1.mono hpq, HK6.out.2.2.mono hkN⟩⟩, hbE⟩
set_option maxHeartbeats 16000000 in
theorem next_9 (v : Sv) (sb : Sb) (at_ acc sub val : Int) (num name : ByteArray) (p q : Nat → Prop) (w : World) (hpq : ∀ b, p b → q b) (hq : ∀ b, w.heap.size ≤ b → q b) (hsr : SRP w p v sb) (hln : sb.prods.length ≤ 100000) :
    Calls Try.prog 111 #[.agg #[.int .i64 v.id, .int .i64 v.acc, .int .i64 v.since, .string v.plan, .slice v.An v.nn v.cn, .slice v.Ap v.np v.cp, .bool v.susp, .bool v.fam], .agg #[.int .i64 at_, .int .i64 9, .int .i64 acc, .int .i64 sub, .string num, .string name, .int .i64 val]] w fun r w' => (∃ v' : Sv, r = .returned v'.val ∧ SRP w' q v' (nxtS sb ⟨at_, 9, acc, sub, num, name, val⟩)) ∧ Below w.heap.size w w' := by
  have HS0 := Lib.hid hsr
  have HSR := Lib.hid hsr
  have hpp := hsr.1.p.len
  clear hsr
  go_enter Try.func111, Try.ntmps111
  go_upto_region 1 with (fail)
  obtain ⟨W, hW, hbW, hzW, f1, f2, f3, ff1, ff3⟩ := box3 w #[.int .i64 v.id, .int .i64 v.acc, .int .i64 v.since, .string v.plan, .slice v.An v.nn v.cn, .slice v.Ap v.np v.cp, .bool v.susp, .bool v.fam] #[.int .i64 at_, .int .i64 9, .int .i64 acc, .int .i64 sub, .string num, .string name, .int .i64 val] #[.int .i64 0, .int .i64 0, .int .i64 0, .string ⟨#[]⟩, .slice none 0 0, .slice none 0 0, .bool false, .bool false] 51 36 51
  rw [← hW]
  have va0 := f1 0 _ rfl
  have va1 := f1 1 _ rfl
  have va2 := f1 2 _ rfl
  have va3 := f1 3 _ rfl
  have va4 := f1 4 _ rfl
  have va5 := f1 5 _ rfl
  have va6 := f1 6 _ rfl
  have va7 := f1 7 _ rfl
  have qb0 := f2 0 _ rfl
  have qb1 := f2 1 _ rfl
  have qb2 := f2 2 _ rfl
  have qb3 := f2 3 _ rfl
  have qb4 := f2 4 _ rfl
  have qb5 := f2 5 _ rfl
  have qb6 := f2 6 _ rfl
  have rc0 := f3 0 _ rfl
  have rc1 := f3 1 _ rfl
  have rc2 := f3 2 _ rfl
  have rc3 := f3 3 _ rfl
  have rc4 := f3 4 _ rfl
  have rc5 := f3 5 _ rfl
  have rc6 := f3 6 _ rfl
  have rc7 := f3 7 _ rfl
  clear hW f1 f2 f3
  have hgW : w.heap.size + 1 < W.heap.size := by omega
  replace HSR := Lib.hid (famS.keep HSR.out (Keeps.ofBelow hbW))
  have hln9 : v.np ≤ 900000 := by omega
  go_upto_region 18 with (go_at_call 127; go_must (refine (without_any v.Ap v.np v.cp sb.prods name _ HSR.out.1.p hln9).mono ?_; rintro r w5 ⟨v5, rfl, ho5, hb5⟩; obtain ⟨A6, c6, rfl, hn6, hs6⟩ := ho5.slN; have za0 := (hb5.cell (p := ⟨w.heap.size, 0, none⟩) (by show w.heap.size < W.heap.size; omega)).trans va0; have za1 := (hb5.cell (p := ⟨w.heap.size, 1, none⟩) (by show w.heap.size < W.heap.size; omega)).trans va1; have za2 := (hb5.cell (p := ⟨w.heap.size, 2, none⟩) (by show w.heap.size < W.heap.size; omega)).trans va2; have za3 := (hb5.cell (p := ⟨w.heap.size, 3, none⟩) (by show w.heap.size < W.heap.size; omega)).trans va3; have za4 := (hb5.cell (p := ⟨w.heap.size, 4, none⟩) (by show w.heap.size < W.heap.size; omega)).trans va4; have za5 := (hb5.cell (p := ⟨w.heap.size, 5, none⟩) (by show w.heap.size < W.heap.size; omega)).trans va5; have za6 := (hb5.cell (p := ⟨w.heap.size, 6, none⟩) (by show w.heap.size < W.heap.size; omega)).trans va6; have za7 := (hb5.cell (p := ⟨w.heap.size, 7, none⟩) (by show w.heap.size < W.heap.size; omega)).trans va7; have zr0 := (hb5.cell (p := ⟨w.heap.size + 1 + 1, 0, none⟩) (by show w.heap.size + 1 + 1 < W.heap.size; omega)).trans rc0; have zr1 := (hb5.cell (p := ⟨w.heap.size + 1 + 1, 1, none⟩) (by show w.heap.size + 1 + 1 < W.heap.size; omega)).trans rc1; have zr2 := (hb5.cell (p := ⟨w.heap.size + 1 + 1, 2, none⟩) (by show w.heap.size + 1 + 1 < W.heap.size; omega)).trans rc2; have zr3 := (hb5.cell (p := ⟨w.heap.size + 1 + 1, 3, none⟩) (by show w.heap.size + 1 + 1 < W.heap.size; omega)).trans rc3; have zr4 := (hb5.cell (p := ⟨w.heap.size + 1 + 1, 4, none⟩) (by show w.heap.size + 1 + 1 < W.heap.size; omega)).trans rc4; have zr5 := (hb5.cell (p := ⟨w.heap.size + 1 + 1, 5, none⟩) (by show w.heap.size + 1 + 1 < W.heap.size; omega)).trans rc5; have zr6 := (hb5.cell (p := ⟨w.heap.size + 1 + 1, 6, none⟩) (by show w.heap.size + 1 + 1 < W.heap.size; omega)).trans rc6; have zr7 := (hb5.cell (p := ⟨w.heap.size + 1 + 1, 7, none⟩) (by show w.heap.size + 1 + 1 < W.heap.size; omega)).trans rc7; have zf1 : ∀ j, w5.frozen? ⟨w.heap.size, j, none⟩ = false := fun j => (hb5.frozen (p := ⟨w.heap.size, j, none⟩) (by show w.heap.size < W.heap.size; omega)).trans (ff1 j); have zf3 : ∀ j, w5.frozen? ⟨w.heap.size + 1 + 1, j, none⟩ = false := fun j => (hb5.frozen (p := ⟨w.heap.size + 1 + 1, j, none⟩) (by show w.heap.size + 1 + 1 < W.heap.size; omega)).trans (ff3 j); have HK6 := Lib.hid (And.intro hn6 (And.intro hs6 ho5.okA)); have HB5 := Lib.hid hb5; clear hn6 hs6 ho5 hb5))
  obtain ⟨X, hX, hnX, hfarX, hfrX, hblX, hszX⟩ := set1 w.heap.size 5 (u := .slice A6 (remS sb.prods name).length c6) za5
  rw [← hX]
  have va0 := (hfarX w.heap.size 0 (by omega)).trans za0
  have rc0 := (hfarX (w.heap.size + 1 + 1) 0 (by omega)).trans zr0
  have va1 := (hfarX w.heap.size 1 (by omega)).trans za1
  have rc1 := (hfarX (w.heap.size + 1 + 1) 1 (by omega)).trans zr1
  have va2 := (hfarX w.heap.size 2 (by omega)).trans za2
  have rc2 := (hfarX (w.heap.size + 1 + 1) 2 (by omega)).trans zr2
  have va3 := (hfarX w.heap.size 3 (by omega)).trans za3
  have rc3 := (hfarX (w.heap.size + 1 + 1) 3 (by omega)).trans zr3
  have va4 := (hfarX w.heap.size 4 (by omega)).trans za4
  have rc4 := (hfarX (w.heap.size + 1 + 1) 4 (by omega)).trans zr4
  have rc5 := (hfarX (w.heap.size + 1 + 1) 5 (by omega)).trans zr5
  have va6 := (hfarX w.heap.size 6 (by omega)).trans za6
  have rc6 := (hfarX (w.heap.size + 1 + 1) 6 (by omega)).trans zr6
  have va7 := (hfarX w.heap.size 7 (by omega)).trans za7
  have rc7 := (hfarX (w.heap.size + 1 + 1) 7 (by omega)).trans zr7
  have va5 := hnX
  have ffX : ∀ j, X.frozen? ⟨w.heap.size + 1 + 1, j, none⟩ = false := fun j => (hfrX _ _).trans (zf3 j)
  have hs5 := HB5.out.size
  have hgX : w.heap.size + 1 + 1 < X.heap.size := by omega
  clear za0 zr0 za1 zr1 za2 zr2 za3 zr3 za4 zr4 za5 zr5 za6 zr6 za7 zr7 zf1 zf3 ff1 ff3
  have HXE := Lib.hid hX
  clear hX hfarX hfrX hnX hblX
  go_wp2_with fail
  have hold := eight rc0 rc1 rc2 rc3 rc4 rc5 rc6 rc7
  have hr := setRun_is (vs := [.int .i64 v.id, .int .i64 v.acc, .int .i64 v.since, .string v.plan, .slice v.An v.nn v.cn, .slice A6 (remS sb.prods name).length c6, .bool v.susp, .bool v.fam]) hold (Nat.le_refl _)
  refine bodyPost_ret (results_cells rfl _ _ (w.heap.size + 1 + 1) ⟨[.int .i64 v.id, .int .i64 v.acc, .int .i64 v.since, .string v.plan, .slice v.An v.nn v.cn, .slice A6 (remS sb.prods name).length c6, .bool v.susp, .bool v.fam]⟩ _ rfl hr rfl rfl rfl) rfl ?_
  have hX := HXE.out
  have hkX : Keeps (fun b => b ≠ w.heap.size) w5 X := by rw [hX]; exact Keeps.ofSet fun b hb => hb
  have hkE : Keeps (fun b => b ≠ w.heap.size + 1 + 1) X (setRun X (w.heap.size + 1 + 1) 0 [.int .i64 v.id, .int .i64 v.acc, .int .i64 v.since, .string v.plan, .slice v.An v.nn v.cn, .slice A6 (remS sb.prods name).length c6, .bool v.susp, .bool v.fam]) := setRun_keeps _ _ _ fun b hb => hb
  have hnE := (HK6.out.2.1.keepP HK6.out.2.2 (kless hkX fun b hb => by have : W.heap.size ≤ b := hb; show b ≠ _; omega)).keepP HK6.out.2.2 (kless hkE fun b hb => by have : W.heap.size ≤ b := hb; show b ≠ _; omega)
  have hkN : ∀ b, W.heap.size ≤ b → q b := fun b hb => hq b (by omega)
  have hbE : Below w.heap.size w (setRun X (w.heap.size + 1 + 1) 0 [.int .i64 v.id, .int .i64 v.acc, .int .i64 v.since, .string v.plan, .slice v.An v.nn v.cn, .slice A6 (remS sb.prods name).length c6, .bool v.susp, .bool v.fam]) := setRun_below _ _ _ (by rw [hX]; exact (hbW.trans (HB5.out.mono hbW.size)).setCell (Nat.le_refl _) _) (by omega)
  have hs := famS.keep HS0.out (Keeps.ofBelow hbE)
  exact ⟨⟨{ v with Ap := A6, np := (remS sb.prods name).length, cp := c6 }, rfl, ⟨⟨hs.1.id, hs.1.acc, hs.1.since, hs.1.plan, hs.1.n0, hs.1.n, HK6.out.1, hnE, hs.1.susp, hs.1.fam⟩, hs.2.1.mono hpq, HK6.out.2.2.mono hkN⟩⟩, hbE⟩
set_option maxHeartbeats 16000000 in
theorem next_10 (v : Sv) (sb : Sb) (at_ acc sub val : Int) (num name : ByteArray) (p q : Nat → Prop) (w : World) (hpq : ∀ b, p b → q b) (hq : ∀ b, w.heap.size ≤ b → q b) (hsr : SRP w p v sb) (hln : sb.prods.length ≤ 100000) :
    Calls Try.prog 111 #[.agg #[.int .i64 v.id, .int .i64 v.acc, .int .i64 v.since, .string v.plan, .slice v.An v.nn v.cn, .slice v.Ap v.np v.cp, .bool v.susp, .bool v.fam], .agg #[.int .i64 at_, .int .i64 10, .int .i64 acc, .int .i64 sub, .string num, .string name, .int .i64 val]] w fun r w' => (∃ v' : Sv, r = .returned v'.val ∧ SRP w' q v' (nxtS sb ⟨at_, 10, acc, sub, num, name, val⟩)) ∧ Below w.heap.size w w' := by
  have HS0 := Lib.hid hsr
  have HSR := Lib.hid hsr
  have hpp := hsr.1.p.len
  clear hsr
  go_enter Try.func111, Try.ntmps111
  go_upto_region 1 with (fail)
  obtain ⟨W, hW, hbW, hzW, f1, f2, f3, ff1, ff3⟩ := box3 w #[.int .i64 v.id, .int .i64 v.acc, .int .i64 v.since, .string v.plan, .slice v.An v.nn v.cn, .slice v.Ap v.np v.cp, .bool v.susp, .bool v.fam] #[.int .i64 at_, .int .i64 10, .int .i64 acc, .int .i64 sub, .string num, .string name, .int .i64 val] #[.int .i64 0, .int .i64 0, .int .i64 0, .string ⟨#[]⟩, .slice none 0 0, .slice none 0 0, .bool false, .bool false] 51 36 51
  rw [← hW]
  have va0 := f1 0 _ rfl
  have va1 := f1 1 _ rfl
  have va2 := f1 2 _ rfl
  have va3 := f1 3 _ rfl
  have va4 := f1 4 _ rfl
  have va5 := f1 5 _ rfl
  have va6 := f1 6 _ rfl
  have va7 := f1 7 _ rfl
  have qb0 := f2 0 _ rfl
  have qb1 := f2 1 _ rfl
  have qb2 := f2 2 _ rfl
  have qb3 := f2 3 _ rfl
  have qb4 := f2 4 _ rfl
  have qb5 := f2 5 _ rfl
  have qb6 := f2 6 _ rfl
  have rc0 := f3 0 _ rfl
  have rc1 := f3 1 _ rfl
  have rc2 := f3 2 _ rfl
  have rc3 := f3 3 _ rfl
  have rc4 := f3 4 _ rfl
  have rc5 := f3 5 _ rfl
  have rc6 := f3 6 _ rfl
  have rc7 := f3 7 _ rfl
  clear hW f1 f2 f3
  have hgW : w.heap.size + 1 < W.heap.size := by omega
  replace HSR := Lib.hid (famS.keep HSR.out (Keeps.ofBelow hbW))
  go_upto_region 18 with (fail)
  obtain ⟨X, hX, hnX, hfarX, hfrX, hblX, hszX⟩ := set1 w.heap.size 6 (u := .bool true) va6
  rw [← hX]
  replace va0 := (hfarX w.heap.size 0 (by omega)).trans va0
  replace rc0 := (hfarX (w.heap.size + 1 + 1) 0 (by omega)).trans rc0
  replace va1 := (hfarX w.heap.size 1 (by omega)).trans va1
  replace rc1 := (hfarX (w.heap.size + 1 + 1) 1 (by omega)).trans rc1
  replace va2 := (hfarX w.heap.size 2 (by omega)).trans va2
  replace rc2 := (hfarX (w.heap.size + 1 + 1) 2 (by omega)).trans rc2
  replace va3 := (hfarX w.heap.size 3 (by omega)).trans va3
  replace rc3 := (hfarX (w.heap.size + 1 + 1) 3 (by omega)).trans rc3
  replace va4 := (hfarX w.heap.size 4 (by omega)).trans va4
  replace rc4 := (hfarX (w.heap.size + 1 + 1) 4 (by omega)).trans rc4
  replace va5 := (hfarX w.heap.size 5 (by omega)).trans va5
  replace rc5 := (hfarX (w.heap.size + 1 + 1) 5 (by omega)).trans rc5
  replace rc6 := (hfarX (w.heap.size + 1 + 1) 6 (by omega)).trans rc6
  replace va7 := (hfarX w.heap.size 7 (by omega)).trans va7
  replace rc7 := (hfarX (w.heap.size + 1 + 1) 7 (by omega)).trans rc7
  replace va6 := hnX
  have hbX : Below w.heap.size w X := by rw [hX]; exact hbW.setCell (Nat.le_refl _) _
  have hgX : w.heap.size + 1 + 1 < X.heap.size := by omega
  have ffX : ∀ j, X.frozen? ⟨w.heap.size + 1 + 1, j, none⟩ = false := fun j => (hfrX _ _).trans (ff3 j)
  clear hX hnX hfarX hfrX hblX hbW
  go_wp2_with fail
  have hold := eight rc0 rc1 rc2 rc3 rc4 rc5 rc6 rc7
  have hr := setRun_is (vs := [.int .i64 v.id, .int .i64 v.acc, .int .i64 v.since, .string v.plan, .slice v.An v.nn v.cn, .slice v.Ap v.np v.cp, .bool true, .bool v.fam]) hold (Nat.le_refl _)
  refine bodyPost_ret (results_cells rfl _ _ (w.heap.size + 1 + 1) ⟨[.int .i64 v.id, .int .i64 v.acc, .int .i64 v.since, .string v.plan, .slice v.An v.nn v.cn, .slice v.Ap v.np v.cp, .bool true, .bool v.fam]⟩ _ rfl hr rfl rfl rfl) rfl ?_
  have hbE : Below w.heap.size w (setRun X (w.heap.size + 1 + 1) 0 [.int .i64 v.id, .int .i64 v.acc, .int .i64 v.since, .string v.plan, .slice v.An v.nn v.cn, .slice v.Ap v.np v.cp, .bool true, .bool v.fam]) := setRun_below _ _ _ hbX (by omega)
  have hs := famS.keep HS0.out (Keeps.ofBelow hbE)
  exact ⟨⟨{ v with susp := true }, rfl, ⟨⟨hs.1.id, hs.1.acc, hs.1.since, hs.1.plan, hs.1.n0, hs.1.n, hs.1.p0, hs.1.p, rfl, hs.1.fam⟩, hs.2.1.mono hpq, hs.2.2.mono hpq⟩⟩, hbE⟩
set_option maxHeartbeats 16000000 in
theorem next_11 (v : Sv) (sb : Sb) (at_ acc sub val : Int) (num name : ByteArray) (p q : Nat → Prop) (w : World) (hpq : ∀ b, p b → q b) (hq : ∀ b, w.heap.size ≤ b → q b) (hsr : SRP w p v sb) (hln : sb.prods.length ≤ 100000) :
    Calls Try.prog 111 #[.agg #[.int .i64 v.id, .int .i64 v.acc, .int .i64 v.since, .string v.plan, .slice v.An v.nn v.cn, .slice v.Ap v.np v.cp, .bool v.susp, .bool v.fam], .agg #[.int .i64 at_, .int .i64 11, .int .i64 acc, .int .i64 sub, .string num, .string name, .int .i64 val]] w fun r w' => (∃ v' : Sv, r = .returned v'.val ∧ SRP w' q v' (nxtS sb ⟨at_, 11, acc, sub, num, name, val⟩)) ∧ Below w.heap.size w w' := by
  have HS0 := Lib.hid hsr
  have HSR := Lib.hid hsr
  have hpp := hsr.1.p.len
  clear hsr
  go_enter Try.func111, Try.ntmps111
  go_upto_region 1 with (fail)
  obtain ⟨W, hW, hbW, hzW, f1, f2, f3, ff1, ff3⟩ := box3 w #[.int .i64 v.id, .int .i64 v.acc, .int .i64 v.since, .string v.plan, .slice v.An v.nn v.cn, .slice v.Ap v.np v.cp, .bool v.susp, .bool v.fam] #[.int .i64 at_, .int .i64 11, .int .i64 acc, .int .i64 sub, .string num, .string name, .int .i64 val] #[.int .i64 0, .int .i64 0, .int .i64 0, .string ⟨#[]⟩, .slice none 0 0, .slice none 0 0, .bool false, .bool false] 51 36 51
  rw [← hW]
  have va0 := f1 0 _ rfl
  have va1 := f1 1 _ rfl
  have va2 := f1 2 _ rfl
  have va3 := f1 3 _ rfl
  have va4 := f1 4 _ rfl
  have va5 := f1 5 _ rfl
  have va6 := f1 6 _ rfl
  have va7 := f1 7 _ rfl
  have qb0 := f2 0 _ rfl
  have qb1 := f2 1 _ rfl
  have qb2 := f2 2 _ rfl
  have qb3 := f2 3 _ rfl
  have qb4 := f2 4 _ rfl
  have qb5 := f2 5 _ rfl
  have qb6 := f2 6 _ rfl
  have rc0 := f3 0 _ rfl
  have rc1 := f3 1 _ rfl
  have rc2 := f3 2 _ rfl
  have rc3 := f3 3 _ rfl
  have rc4 := f3 4 _ rfl
  have rc5 := f3 5 _ rfl
  have rc6 := f3 6 _ rfl
  have rc7 := f3 7 _ rfl
  clear hW f1 f2 f3
  have hgW : w.heap.size + 1 < W.heap.size := by omega
  replace HSR := Lib.hid (famS.keep HSR.out (Keeps.ofBelow hbW))
  go_upto_region 18 with (fail)
  obtain ⟨X, hX, hnX, hfarX, hfrX, hblX, hszX⟩ := set1 w.heap.size 6 (u := .bool false) va6
  rw [← hX]
  replace va0 := (hfarX w.heap.size 0 (by omega)).trans va0
  replace rc0 := (hfarX (w.heap.size + 1 + 1) 0 (by omega)).trans rc0
  replace va1 := (hfarX w.heap.size 1 (by omega)).trans va1
  replace rc1 := (hfarX (w.heap.size + 1 + 1) 1 (by omega)).trans rc1
  replace va2 := (hfarX w.heap.size 2 (by omega)).trans va2
  replace rc2 := (hfarX (w.heap.size + 1 + 1) 2 (by omega)).trans rc2
  replace va3 := (hfarX w.heap.size 3 (by omega)).trans va3
  replace rc3 := (hfarX (w.heap.size + 1 + 1) 3 (by omega)).trans rc3
  replace va4 := (hfarX w.heap.size 4 (by omega)).trans va4
  replace rc4 := (hfarX (w.heap.size + 1 + 1) 4 (by omega)).trans rc4
  replace va5 := (hfarX w.heap.size 5 (by omega)).trans va5
  replace rc5 := (hfarX (w.heap.size + 1 + 1) 5 (by omega)).trans rc5
  replace rc6 := (hfarX (w.heap.size + 1 + 1) 6 (by omega)).trans rc6
  replace va7 := (hfarX w.heap.size 7 (by omega)).trans va7
  replace rc7 := (hfarX (w.heap.size + 1 + 1) 7 (by omega)).trans rc7
  replace va6 := hnX
  have hbX : Below w.heap.size w X := by rw [hX]; exact hbW.setCell (Nat.le_refl _) _
  have hgX : w.heap.size + 1 + 1 < X.heap.size := by omega
  have ffX : ∀ j, X.frozen? ⟨w.heap.size + 1 + 1, j, none⟩ = false := fun j => (hfrX _ _).trans (ff3 j)
  clear hX hnX hfarX hfrX hblX hbW
  go_wp2_with fail
  have hold := eight rc0 rc1 rc2 rc3 rc4 rc5 rc6 rc7
  have hr := setRun_is (vs := [.int .i64 v.id, .int .i64 v.acc, .int .i64 v.since, .string v.plan, .slice v.An v.nn v.cn, .slice v.Ap v.np v.cp, .bool false, .bool v.fam]) hold (Nat.le_refl _)
  refine bodyPost_ret (results_cells rfl _ _ (w.heap.size + 1 + 1) ⟨[.int .i64 v.id, .int .i64 v.acc, .int .i64 v.since, .string v.plan, .slice v.An v.nn v.cn, .slice v.Ap v.np v.cp, .bool false, .bool v.fam]⟩ _ rfl hr rfl rfl rfl) rfl ?_
  have hbE : Below w.heap.size w (setRun X (w.heap.size + 1 + 1) 0 [.int .i64 v.id, .int .i64 v.acc, .int .i64 v.since, .string v.plan, .slice v.An v.nn v.cn, .slice v.Ap v.np v.cp, .bool false, .bool v.fam]) := setRun_below _ _ _ hbX (by omega)
  have hs := famS.keep HS0.out (Keeps.ofBelow hbE)
  exact ⟨⟨{ v with susp := false }, rfl, ⟨⟨hs.1.id, hs.1.acc, hs.1.since, hs.1.plan, hs.1.n0, hs.1.n, hs.1.p0, hs.1.p, rfl, hs.1.fam⟩, hs.2.1.mono hpq, hs.2.2.mono hpq⟩⟩, hbE⟩
set_option maxHeartbeats 16000000 in
theorem next_12 (v : Sv) (sb : Sb) (at_ acc sub val : Int) (num name : ByteArray) (p q : Nat → Prop) (w : World) (hpq : ∀ b, p b → q b) (hq : ∀ b, w.heap.size ≤ b → q b) (hsr : SRP w p v sb) (hln : sb.prods.length ≤ 100000) :
    Calls Try.prog 111 #[.agg #[.int .i64 v.id, .int .i64 v.acc, .int .i64 v.since, .string v.plan, .slice v.An v.nn v.cn, .slice v.Ap v.np v.cp, .bool v.susp, .bool v.fam], .agg #[.int .i64 at_, .int .i64 12, .int .i64 acc, .int .i64 sub, .string num, .string name, .int .i64 val]] w fun r w' => (∃ v' : Sv, r = .returned v'.val ∧ SRP w' q v' (nxtS sb ⟨at_, 12, acc, sub, num, name, val⟩)) ∧ Below w.heap.size w w' := by
  have HS0 := Lib.hid hsr
  have HSR := Lib.hid hsr
  have hpp := hsr.1.p.len
  clear hsr
  go_enter Try.func111, Try.ntmps111
  go_upto_region 1 with (fail)
  obtain ⟨W, hW, hbW, hzW, f1, f2, f3, ff1, ff3⟩ := box3 w #[.int .i64 v.id, .int .i64 v.acc, .int .i64 v.since, .string v.plan, .slice v.An v.nn v.cn, .slice v.Ap v.np v.cp, .bool v.susp, .bool v.fam] #[.int .i64 at_, .int .i64 12, .int .i64 acc, .int .i64 sub, .string num, .string name, .int .i64 val] #[.int .i64 0, .int .i64 0, .int .i64 0, .string ⟨#[]⟩, .slice none 0 0, .slice none 0 0, .bool false, .bool false] 51 36 51
  rw [← hW]
  have va0 := f1 0 _ rfl
  have va1 := f1 1 _ rfl
  have va2 := f1 2 _ rfl
  have va3 := f1 3 _ rfl
  have va4 := f1 4 _ rfl
  have va5 := f1 5 _ rfl
  have va6 := f1 6 _ rfl
  have va7 := f1 7 _ rfl
  have qb0 := f2 0 _ rfl
  have qb1 := f2 1 _ rfl
  have qb2 := f2 2 _ rfl
  have qb3 := f2 3 _ rfl
  have qb4 := f2 4 _ rfl
  have qb5 := f2 5 _ rfl
  have qb6 := f2 6 _ rfl
  have rc0 := f3 0 _ rfl
  have rc1 := f3 1 _ rfl
  have rc2 := f3 2 _ rfl
  have rc3 := f3 3 _ rfl
  have rc4 := f3 4 _ rfl
  have rc5 := f3 5 _ rfl
  have rc6 := f3 6 _ rfl
  have rc7 := f3 7 _ rfl
  clear hW f1 f2 f3
  have hgW : w.heap.size + 1 < W.heap.size := by omega
  replace HSR := Lib.hid (famS.keep HSR.out (Keeps.ofBelow hbW))
  go_upto_region 18 with (fail)
  obtain ⟨X, hX, hnX, hfarX, hfrX, hblX, hszX⟩ := set1 w.heap.size 7 (u := .bool true) va7
  rw [← hX]
  replace va0 := (hfarX w.heap.size 0 (by omega)).trans va0
  replace rc0 := (hfarX (w.heap.size + 1 + 1) 0 (by omega)).trans rc0
  replace va1 := (hfarX w.heap.size 1 (by omega)).trans va1
  replace rc1 := (hfarX (w.heap.size + 1 + 1) 1 (by omega)).trans rc1
  replace va2 := (hfarX w.heap.size 2 (by omega)).trans va2
  replace rc2 := (hfarX (w.heap.size + 1 + 1) 2 (by omega)).trans rc2
  replace va3 := (hfarX w.heap.size 3 (by omega)).trans va3
  replace rc3 := (hfarX (w.heap.size + 1 + 1) 3 (by omega)).trans rc3
  replace va4 := (hfarX w.heap.size 4 (by omega)).trans va4
  replace rc4 := (hfarX (w.heap.size + 1 + 1) 4 (by omega)).trans rc4
  replace va5 := (hfarX w.heap.size 5 (by omega)).trans va5
  replace rc5 := (hfarX (w.heap.size + 1 + 1) 5 (by omega)).trans rc5
  replace va6 := (hfarX w.heap.size 6 (by omega)).trans va6
  replace rc6 := (hfarX (w.heap.size + 1 + 1) 6 (by omega)).trans rc6
  replace rc7 := (hfarX (w.heap.size + 1 + 1) 7 (by omega)).trans rc7
  replace va7 := hnX
  have hbX : Below w.heap.size w X := by rw [hX]; exact hbW.setCell (Nat.le_refl _) _
  have hgX : w.heap.size + 1 + 1 < X.heap.size := by omega
  have ffX : ∀ j, X.frozen? ⟨w.heap.size + 1 + 1, j, none⟩ = false := fun j => (hfrX _ _).trans (ff3 j)
  clear hX hnX hfarX hfrX hblX hbW
  go_wp2_with fail
  have hold := eight rc0 rc1 rc2 rc3 rc4 rc5 rc6 rc7
  have hr := setRun_is (vs := [.int .i64 v.id, .int .i64 v.acc, .int .i64 v.since, .string v.plan, .slice v.An v.nn v.cn, .slice v.Ap v.np v.cp, .bool v.susp, .bool true]) hold (Nat.le_refl _)
  refine bodyPost_ret (results_cells rfl _ _ (w.heap.size + 1 + 1) ⟨[.int .i64 v.id, .int .i64 v.acc, .int .i64 v.since, .string v.plan, .slice v.An v.nn v.cn, .slice v.Ap v.np v.cp, .bool v.susp, .bool true]⟩ _ rfl hr rfl rfl rfl) rfl ?_
  have hbE : Below w.heap.size w (setRun X (w.heap.size + 1 + 1) 0 [.int .i64 v.id, .int .i64 v.acc, .int .i64 v.since, .string v.plan, .slice v.An v.nn v.cn, .slice v.Ap v.np v.cp, .bool v.susp, .bool true]) := setRun_below _ _ _ hbX (by omega)
  have hs := famS.keep HS0.out (Keeps.ofBelow hbE)
  exact ⟨⟨{ v with fam := true }, rfl, ⟨⟨hs.1.id, hs.1.acc, hs.1.since, hs.1.plan, hs.1.n0, hs.1.n, hs.1.p0, hs.1.p, hs.1.susp, rfl⟩, hs.2.1.mono hpq, hs.2.2.mono hpq⟩⟩, hbE⟩
set_option maxHeartbeats 16000000 in
theorem next_13 (v : Sv) (sb : Sb) (at_ acc sub val : Int) (num name : ByteArray) (p q : Nat → Prop) (w : World) (hpq : ∀ b, p b → q b) (hq : ∀ b, w.heap.size ≤ b → q b) (hsr : SRP w p v sb) (hln : sb.prods.length ≤ 100000) :
    Calls Try.prog 111 #[.agg #[.int .i64 v.id, .int .i64 v.acc, .int .i64 v.since, .string v.plan, .slice v.An v.nn v.cn, .slice v.Ap v.np v.cp, .bool v.susp, .bool v.fam], .agg #[.int .i64 at_, .int .i64 13, .int .i64 acc, .int .i64 sub, .string num, .string name, .int .i64 val]] w fun r w' => (∃ v' : Sv, r = .returned v'.val ∧ SRP w' q v' (nxtS sb ⟨at_, 13, acc, sub, num, name, val⟩)) ∧ Below w.heap.size w w' := by
  have HS0 := Lib.hid hsr
  have HSR := Lib.hid hsr
  have hpp := hsr.1.p.len
  clear hsr
  go_enter Try.func111, Try.ntmps111
  go_upto_region 1 with (fail)
  obtain ⟨W, hW, hbW, hzW, f1, f2, f3, ff1, ff3⟩ := box3 w #[.int .i64 v.id, .int .i64 v.acc, .int .i64 v.since, .string v.plan, .slice v.An v.nn v.cn, .slice v.Ap v.np v.cp, .bool v.susp, .bool v.fam] #[.int .i64 at_, .int .i64 13, .int .i64 acc, .int .i64 sub, .string num, .string name, .int .i64 val] #[.int .i64 0, .int .i64 0, .int .i64 0, .string ⟨#[]⟩, .slice none 0 0, .slice none 0 0, .bool false, .bool false] 51 36 51
  rw [← hW]
  have va0 := f1 0 _ rfl
  have va1 := f1 1 _ rfl
  have va2 := f1 2 _ rfl
  have va3 := f1 3 _ rfl
  have va4 := f1 4 _ rfl
  have va5 := f1 5 _ rfl
  have va6 := f1 6 _ rfl
  have va7 := f1 7 _ rfl
  have qb0 := f2 0 _ rfl
  have qb1 := f2 1 _ rfl
  have qb2 := f2 2 _ rfl
  have qb3 := f2 3 _ rfl
  have qb4 := f2 4 _ rfl
  have qb5 := f2 5 _ rfl
  have qb6 := f2 6 _ rfl
  have rc0 := f3 0 _ rfl
  have rc1 := f3 1 _ rfl
  have rc2 := f3 2 _ rfl
  have rc3 := f3 3 _ rfl
  have rc4 := f3 4 _ rfl
  have rc5 := f3 5 _ rfl
  have rc6 := f3 6 _ rfl
  have rc7 := f3 7 _ rfl
  clear hW f1 f2 f3
  have hgW : w.heap.size + 1 < W.heap.size := by omega
  replace HSR := Lib.hid (famS.keep HSR.out (Keeps.ofBelow hbW))
  go_upto_region 18 with (fail)
  obtain ⟨X, hX, hnX, hfarX, hfrX, hblX, hszX⟩ := set1 w.heap.size 7 (u := .bool false) va7
  rw [← hX]
  replace va0 := (hfarX w.heap.size 0 (by omega)).trans va0
  replace rc0 := (hfarX (w.heap.size + 1 + 1) 0 (by omega)).trans rc0
  replace va1 := (hfarX w.heap.size 1 (by omega)).trans va1
  replace rc1 := (hfarX (w.heap.size + 1 + 1) 1 (by omega)).trans rc1
  replace va2 := (hfarX w.heap.size 2 (by omega)).trans va2
  replace rc2 := (hfarX (w.heap.size + 1 + 1) 2 (by omega)).trans rc2
  replace va3 := (hfarX w.heap.size 3 (by omega)).trans va3
  replace rc3 := (hfarX (w.heap.size + 1 + 1) 3 (by omega)).trans rc3
  replace va4 := (hfarX w.heap.size 4 (by omega)).trans va4
  replace rc4 := (hfarX (w.heap.size + 1 + 1) 4 (by omega)).trans rc4
  replace va5 := (hfarX w.heap.size 5 (by omega)).trans va5
  replace rc5 := (hfarX (w.heap.size + 1 + 1) 5 (by omega)).trans rc5
  replace va6 := (hfarX w.heap.size 6 (by omega)).trans va6
  replace rc6 := (hfarX (w.heap.size + 1 + 1) 6 (by omega)).trans rc6
  replace rc7 := (hfarX (w.heap.size + 1 + 1) 7 (by omega)).trans rc7
  replace va7 := hnX
  have hbX : Below w.heap.size w X := by rw [hX]; exact hbW.setCell (Nat.le_refl _) _
  have hgX : w.heap.size + 1 + 1 < X.heap.size := by omega
  have ffX : ∀ j, X.frozen? ⟨w.heap.size + 1 + 1, j, none⟩ = false := fun j => (hfrX _ _).trans (ff3 j)
  clear hX hnX hfarX hfrX hblX hbW
  go_wp2_with fail
  have hold := eight rc0 rc1 rc2 rc3 rc4 rc5 rc6 rc7
  have hr := setRun_is (vs := [.int .i64 v.id, .int .i64 v.acc, .int .i64 v.since, .string v.plan, .slice v.An v.nn v.cn, .slice v.Ap v.np v.cp, .bool v.susp, .bool false]) hold (Nat.le_refl _)
  refine bodyPost_ret (results_cells rfl _ _ (w.heap.size + 1 + 1) ⟨[.int .i64 v.id, .int .i64 v.acc, .int .i64 v.since, .string v.plan, .slice v.An v.nn v.cn, .slice v.Ap v.np v.cp, .bool v.susp, .bool false]⟩ _ rfl hr rfl rfl rfl) rfl ?_
  have hbE : Below w.heap.size w (setRun X (w.heap.size + 1 + 1) 0 [.int .i64 v.id, .int .i64 v.acc, .int .i64 v.since, .string v.plan, .slice v.An v.nn v.cn, .slice v.Ap v.np v.cp, .bool v.susp, .bool false]) := setRun_below _ _ _ hbX (by omega)
  have hs := famS.keep HS0.out (Keeps.ofBelow hbE)
  exact ⟨⟨{ v with fam := false }, rfl, ⟨⟨hs.1.id, hs.1.acc, hs.1.since, hs.1.plan, hs.1.n0, hs.1.n, hs.1.p0, hs.1.p, hs.1.susp, rfl⟩, hs.2.1.mono hpq, hs.2.2.mono hpq⟩⟩, hbE⟩
set_option maxHeartbeats 16000000 in
theorem next_x (K : Int) (h3 : (K == 3) = false) (h4 : (K == 4) = false) (h7 : (K == 7) = false) (h8 : (K == 8) = false) (h9 : (K == 9) = false) (h10 : (K == 10) = false) (h11 : (K == 11) = false) (h12 : (K == 12) = false) (h13 : (K == 13) = false) (v : Sv) (sb : Sb) (at_ acc sub val : Int) (num name : ByteArray) (p q : Nat → Prop) (w : World) (hpq : ∀ b, p b → q b) (hq : ∀ b, w.heap.size ≤ b → q b) (hsr : SRP w p v sb) (hln : sb.prods.length ≤ 100000) :
    Calls Try.prog 111 #[.agg #[.int .i64 v.id, .int .i64 v.acc, .int .i64 v.since, .string v.plan, .slice v.An v.nn v.cn, .slice v.Ap v.np v.cp, .bool v.susp, .bool v.fam], .agg #[.int .i64 at_, .int .i64 K, .int .i64 acc, .int .i64 sub, .string num, .string name, .int .i64 val]] w fun r w' => (∃ v' : Sv, r = .returned v'.val ∧ SRP w' q v' (nxtS sb ⟨at_, K, acc, sub, num, name, val⟩)) ∧ Below w.heap.size w w' := by
  have HS0 := Lib.hid hsr
  have HSR := Lib.hid hsr
  have hpp := hsr.1.p.len
  clear hsr
  go_enter Try.func111, Try.ntmps111
  go_upto_region 1 with (fail)
  obtain ⟨W, hW, hbW, hzW, f1, f2, f3, ff1, ff3⟩ := box3 w #[.int .i64 v.id, .int .i64 v.acc, .int .i64 v.since, .string v.plan, .slice v.An v.nn v.cn, .slice v.Ap v.np v.cp, .bool v.susp, .bool v.fam] #[.int .i64 at_, .int .i64 K, .int .i64 acc, .int .i64 sub, .string num, .string name, .int .i64 val] #[.int .i64 0, .int .i64 0, .int .i64 0, .string ⟨#[]⟩, .slice none 0 0, .slice none 0 0, .bool false, .bool false] 51 36 51
  rw [← hW]
  have va0 := f1 0 _ rfl
  have va1 := f1 1 _ rfl
  have va2 := f1 2 _ rfl
  have va3 := f1 3 _ rfl
  have va4 := f1 4 _ rfl
  have va5 := f1 5 _ rfl
  have va6 := f1 6 _ rfl
  have va7 := f1 7 _ rfl
  have qb0 := f2 0 _ rfl
  have qb1 := f2 1 _ rfl
  have qb2 := f2 2 _ rfl
  have qb3 := f2 3 _ rfl
  have qb4 := f2 4 _ rfl
  have qb5 := f2 5 _ rfl
  have qb6 := f2 6 _ rfl
  have rc0 := f3 0 _ rfl
  have rc1 := f3 1 _ rfl
  have rc2 := f3 2 _ rfl
  have rc3 := f3 3 _ rfl
  have rc4 := f3 4 _ rfl
  have rc5 := f3 5 _ rfl
  have rc6 := f3 6 _ rfl
  have rc7 := f3 7 _ rfl
  clear hW f1 f2 f3
  have hgW : w.heap.size + 1 < W.heap.size := by omega
  replace HSR := Lib.hid (famS.keep HSR.out (Keeps.ofBelow hbW))
  have hgX : w.heap.size + 1 + 1 < W.heap.size := by omega
  go_wp2_with fail
  have hold := eight rc0 rc1 rc2 rc3 rc4 rc5 rc6 rc7
  have hr := setRun_is (vs := [.int .i64 v.id, .int .i64 v.acc, .int .i64 v.since, .string v.plan, .slice v.An v.nn v.cn, .slice v.Ap v.np v.cp, .bool v.susp, .bool v.fam]) hold (Nat.le_refl _)
  refine bodyPost_ret (results_cells rfl _ _ (w.heap.size + 1 + 1) ⟨[.int .i64 v.id, .int .i64 v.acc, .int .i64 v.since, .string v.plan, .slice v.An v.nn v.cn, .slice v.Ap v.np v.cp, .bool v.susp, .bool v.fam]⟩ _ rfl hr rfl rfl rfl) rfl ?_
  have hbE : Below w.heap.size w (setRun W (w.heap.size + 1 + 1) 0 [.int .i64 v.id, .int .i64 v.acc, .int .i64 v.since, .string v.plan, .slice v.An v.nn v.cn, .slice v.Ap v.np v.cp, .bool v.susp, .bool v.fam]) := setRun_below _ _ _ hbW (by omega)
  have hs := famS.keep HS0.out (Keeps.ofBelow hbE)
  rw [show nxtS sb ⟨at_, K, acc, sub, num, name, val⟩ = sb by unfold nxtS; rw [beq_eq_false_iff_ne] at h3 h4 h7 h8 h9 h10 h11 h12 h13; dsimp only; rw [if_neg h3, if_neg h4, if_neg h7, if_neg h8, if_neg h9, if_neg (by omega), if_neg (by omega)]]
  exact ⟨⟨v, rfl, famS.mono hs hpq⟩, hbE⟩
theorem next_any (v : Sv) (sb : Sb) (e : Ev) (p q : Nat → Prop) (w : World) (hpq : ∀ b, p b → q b) (hq : ∀ b, w.heap.size ≤ b → q b) (hsr : SRP w p v sb) (hln : sb.prods.length ≤ 100000) :
    Calls Try.prog 111 #[.agg #[.int .i64 v.id, .int .i64 v.acc, .int .i64 v.since, .string v.plan, .slice v.An v.nn v.cn, .slice v.Ap v.np v.cp, .bool v.susp, .bool v.fam], .agg #[.int .i64 e.at_, .int .i64 e.kind, .int .i64 e.acc, .int .i64 e.sub, .string e.num, .string e.name, .int .i64 e.val]] w fun r w' => (∃ v' : Sv, r = .returned v'.val ∧ SRP w' q v' (nxtS sb e)) ∧ Below w.heap.size w w' := by
  obtain ⟨at_, K, acc, sub, num, name, val⟩ := e
  dsimp only
  by_cases k3 : K = 3
  · subst k3; exact next_3 v sb at_ acc sub val num name p q w hpq hq hsr hln
  by_cases k4 : K = 4
  · subst k4; exact next_4 v sb at_ acc sub val num name p q w hpq hq hsr hln
  by_cases k7 : K = 7
  · subst k7; exact next_7 v sb at_ acc sub val num name p q w hpq hq hsr hln
  by_cases k8 : K = 8
  · subst k8; exact next_8 v sb at_ acc sub val num name p q w hpq hq hsr hln
  by_cases k9 : K = 9
  · subst k9; exact next_9 v sb at_ acc sub val num name p q w hpq hq hsr hln
  by_cases k10 : K = 10
  · subst k10; exact next_10 v sb at_ acc sub val num name p q w hpq hq hsr hln
  by_cases k11 : K = 11
  · subst k11; exact next_11 v sb at_ acc sub val num name p q w hpq hq hsr hln
  by_cases k12 : K = 12
  · subst k12; exact next_12 v sb at_ acc sub val num name p q w hpq hq hsr hln
  by_cases k13 : K = 13
  · subst k13; exact next_13 v sb at_ acc sub val num name p q w hpq hq hsr hln
  exact next_x K (be_f k3).1 (be_f k4).1 (be_f k7).1 (be_f k8).1 (be_f k9).1 (be_f k10).1 (be_f k11).1 (be_f k12).1 (be_f k13).1 v sb at_ acc sub val num name p q w hpq hq hsr hln
end Ss
end Go.Proofs.Yteaanngagcflhaa
