/-
  Customers: the reference's changed. No condition.
-/
import Derived.Test.YteaanngagcflhaaCuAC
import Derived.Test.YteaanngagcflhaaCuO
import Derived.BigQuiet
import Derived.StillTailTactics
import Derived.Lib.Overlaps
import Derived.Deep.DeepCutAuto
import Derived.Deep.RegionWith
import Derived.Laws.RangeAny
set_option maxRecDepth 100000
set_option linter.unusedVariables false
set_option linter.unusedSimpArgs false
namespace Go.Proofs.Yteaanngagcflhaa
open Go.RowKit

namespace Cu
set_option maxHeartbeats 16000000 in
theorem rchanged_4 (v : Sv) (sb : Sb) (at_ acc sub val : Int) (num name : ByteArray) (p : Nat → Prop) (w : World) (hsr : SRP w p v sb) (hln : sb.nums.length ≤ 900000) (hlp : sb.prods.length ≤ 900000) :
    Calls Try.prog 106 #[.agg #[.int .i64 v.id, .int .i64 v.acc, .int .i64 v.since, .string v.plan, .slice v.An v.nn v.cn, .slice v.Ap v.np v.cp, .bool v.susp, .bool v.fam], .agg #[.int .i64 at_, .int .i64 4, .int .i64 acc, .int .i64 sub, .string num, .string name, .int .i64 val]] w fun r w' => (∃ v' : Sv, r = .returned v'.val ∧ SRP w' (fun b => p b ∨ w.heap.size ≤ b) v' (chgR sb ⟨at_, 4, acc, sub, num, name, val⟩)) ∧ Below w.heap.size w w' := by
  have HS0 := Lib.hid hsr
  have hnn := hsr.1.n.len
  have hpp := hsr.1.p.len
  clear hsr
  go_enter Try.func106, Try.ntmps106
  go_upto_region 1 with (fail)
  obtain ⟨W, hW, hbW, hzW, f1, f2, f3, ff1, ff3⟩ := box3 w #[.int .i64 v.id, .int .i64 v.acc, .int .i64 v.since, .string v.plan, .slice v.An v.nn v.cn, .slice v.Ap v.np v.cp, .bool v.susp, .bool v.fam] #[.int .i64 at_, .int .i64 4, .int .i64 acc, .int .i64 sub, .string num, .string name, .int .i64 val] #[.int .i64 0, .int .i64 0, .int .i64 0, .string ⟨#[]⟩, .slice none 0 0, .slice none 0 0, .bool false, .bool false] 51 36 51
  rw [← hW]
  have va0 := f1 0 _ rfl
  have va1 := f1 1 _ rfl
  have va2 := f1 2 _ rfl
  have va3 := f1 3 _ rfl
  have va4 := f1 4 _ rfl
  have va5 := f1 5 _ rfl
  have va6 := f1 6 _ rfl
  have va7 := f1 7 _ rfl
  have qb0 := f2 0 _ rfl
  have qb1 := f2 1 _ rfl
  have qb2 := f2 2 _ rfl
  have qb3 := f2 3 _ rfl
  have qb4 := f2 4 _ rfl
  have qb5 := f2 5 _ rfl
  have qb6 := f2 6 _ rfl
  have rc0 := f3 0 _ rfl
  have rc1 := f3 1 _ rfl
  have rc2 := f3 2 _ rfl
  have rc3 := f3 3 _ rfl
  have rc4 := f3 4 _ rfl
  have rc5 := f3 5 _ rfl
  have rc6 := f3 6 _ rfl
  have rc7 := f3 7 _ rfl
  clear hW f1 f2 f3
  have hgW : w.heap.size + 1 < W.heap.size := by omega
  go_upto_region 4 with (fail)
  obtain ⟨X, hX, hnX, hfarX, hfrX, hblX, hszX⟩ := set1 w.heap.size 4 (u := .slice none 0 0) va4
  rw [← hX]
  replace va0 := (hfarX w.heap.size 0 (by omega)).trans va0
  replace rc0 := (hfarX (w.heap.size + 1 + 1) 0 (by omega)).trans rc0
  replace va1 := (hfarX w.heap.size 1 (by omega)).trans va1
  replace rc1 := (hfarX (w.heap.size + 1 + 1) 1 (by omega)).trans rc1
  replace va2 := (hfarX w.heap.size 2 (by omega)).trans va2
  replace rc2 := (hfarX (w.heap.size + 1 + 1) 2 (by omega)).trans rc2
  replace va3 := (hfarX w.heap.size 3 (by omega)).trans va3
  replace rc3 := (hfarX (w.heap.size + 1 + 1) 3 (by omega)).trans rc3
  replace rc4 := (hfarX (w.heap.size + 1 + 1) 4 (by omega)).trans rc4
  replace va5 := (hfarX w.heap.size 5 (by omega)).trans va5
  replace rc5 := (hfarX (w.heap.size + 1 + 1) 5 (by omega)).trans rc5
  replace va6 := (hfarX w.heap.size 6 (by omega)).trans va6
  replace rc6 := (hfarX (w.heap.size + 1 + 1) 6 (by omega)).trans rc6
  replace va7 := (hfarX w.heap.size 7 (by omega)).trans va7
  replace rc7 := (hfarX (w.heap.size + 1 + 1) 7 (by omega)).trans rc7
  replace qb0 := (hfarX (w.heap.size + 1) 0 (by omega)).trans qb0
  replace qb1 := (hfarX (w.heap.size + 1) 1 (by omega)).trans qb1
  replace qb2 := (hfarX (w.heap.size + 1) 2 (by omega)).trans qb2
  replace qb3 := (hfarX (w.heap.size + 1) 3 (by omega)).trans qb3
  replace qb4 := (hfarX (w.heap.size + 1) 4 (by omega)).trans qb4
  replace qb5 := (hfarX (w.heap.size + 1) 5 (by omega)).trans qb5
  replace qb6 := (hfarX (w.heap.size + 1) 6 (by omega)).trans qb6
  replace va4 := hnX
  replace ff1 : ∀ j, X.frozen? ⟨w.heap.size, j, none⟩ = false := fun j => (hfrX _ _).trans (ff1 j)
  replace ff3 : ∀ j, X.frozen? ⟨w.heap.size + 1 + 1, j, none⟩ = false := fun j => (hfrX _ _).trans (ff3 j)
  have hgX : w.heap.size + 1 + 1 < X.heap.size := by omega
  have hbX : Below w.heap.size w X := by rw [hX]; exact hbW.setCell (Nat.le_refl _) _
  clear hX hnX hfarX hfrX hblX hbW
  go_upto_region 23 with (fail)
  obtain ⟨Y, hY, hnY, hfarY, hfrY, hblY, hszY⟩ := set1 w.heap.size 5 (u := .slice none 0 0) va5
  rw [← hY]
  replace va0 := (hfarY w.heap.size 0 (by omega)).trans va0
  replace rc0 := (hfarY (w.heap.size + 1 + 1) 0 (by omega)).trans rc0
  replace va1 := (hfarY w.heap.size 1 (by omega)).trans va1
  replace rc1 := (hfarY (w.heap.size + 1 + 1) 1 (by omega)).trans rc1
  replace va2 := (hfarY w.heap.size 2 (by omega)).trans va2
  replace rc2 := (hfarY (w.heap.size + 1 + 1) 2 (by omega)).trans rc2
  replace va3 := (hfarY w.heap.size 3 (by omega)).trans va3
  replace rc3 := (hfarY (w.heap.size + 1 + 1) 3 (by omega)).trans rc3
  replace va4 := (hfarY w.heap.size 4 (by omega)).trans va4
  replace rc4 := (hfarY (w.heap.size + 1 + 1) 4 (by omega)).trans rc4
  replace rc5 := (hfarY (w.heap.size + 1 + 1) 5 (by omega)).trans rc5
  replace va6 := (hfarY w.heap.size 6 (by omega)).trans va6
  replace rc6 := (hfarY (w.heap.size + 1 + 1) 6 (by omega)).trans rc6
  replace va7 := (hfarY w.heap.size 7 (by omega)).trans va7
  replace rc7 := (hfarY (w.heap.size + 1 + 1) 7 (by omega)).trans rc7
  replace qb0 := (hfarY (w.heap.size + 1) 0 (by omega)).trans qb0
  replace qb1 := (hfarY (w.heap.size + 1) 1 (by omega)).trans qb1
  replace qb2 := (hfarY (w.heap.size + 1) 2 (by omega)).trans qb2
  replace qb3 := (hfarY (w.heap.size + 1) 3 (by omega)).trans qb3
  replace qb4 := (hfarY (w.heap.size + 1) 4 (by omega)).trans qb4
  replace qb5 := (hfarY (w.heap.size + 1) 5 (by omega)).trans qb5
  replace qb6 := (hfarY (w.heap.size + 1) 6 (by omega)).trans qb6
  replace va5 := hnY
  replace ff1 : ∀ j, Y.frozen? ⟨w.heap.size, j, none⟩ = false := fun j => (hfrY _ _).trans (ff1 j)
  replace ff3 : ∀ j, Y.frozen? ⟨w.heap.size + 1 + 1, j, none⟩ = false := fun j => (hfrY _ _).trans (ff3 j)
  have hgX : w.heap.size + 1 + 1 < Y.heap.size := by omega
  have hbY : Below w.heap.size w Y := by rw [hY]; exact hbX.setCell (Nat.le_refl _) _
  clear hY hnY hfarY hfrY hblY hbX
  go_wp2_with fail
  have hold := eight rc0 rc1 rc2 rc3 rc4 rc5 rc6 rc7
  have hr := setRun_is (vs := [.int .i64 v.id, .int .i64 v.acc, .int .i64 v.since, .string v.plan, .slice none 0 0, .slice none 0 0, .bool v.susp, .bool v.fam]) hold (Nat.le_refl _)
  refine bodyPost_ret (results_cells rfl _ _ (w.heap.size + 1 + 1) ⟨[.int .i64 v.id, .int .i64 v.acc, .int .i64 v.since, .string v.plan, .slice none 0 0, .slice none 0 0, .bool v.susp, .bool v.fam]⟩ _ rfl hr rfl rfl rfl) rfl ?_
  have hbE : Below w.heap.size w (setRun Y (w.heap.size + 1 + 1) 0 [.int .i64 v.id, .int .i64 v.acc, .int .i64 v.since, .string v.plan, .slice none 0 0, .slice none 0 0, .bool v.susp, .bool v.fam]) := setRun_below _ _ _ hbY (by omega)
  have hs := HS0.out.1.on hbE
  exact ⟨⟨{ v with An := none, nn := 0, cn := 0, Ap := none, np := 0, cp := 0 }, rfl, ⟨⟨hs.id, hs.acc, hs.since, hs.plan, fun _ => rfl, Sl.nil_ _, fun _ => rfl, Sl.nil_ _, hs.susp, hs.fam⟩, OkA.nil_, OkA.nil_⟩⟩, hbE⟩
set_option maxHeartbeats 16000000 in
theorem rchanged_5 (v : Sv) (sb : Sb) (at_ acc sub val : Int) (num name : ByteArray) (p : Nat → Prop) (w : World) (hsr : SRP w p v sb) (hln : sb.nums.length ≤ 900000) (hlp : sb.prods.length ≤ 900000) :
    Calls Try.prog 106 #[.agg #[.int .i64 v.id, .int .i64 v.acc, .int .i64 v.since, .string v.plan, .slice v.An v.nn v.cn, .slice v.Ap v.np v.cp, .bool v.susp, .bool v.fam], .agg #[.int .i64 at_, .int .i64 5, .int .i64 acc, .int .i64 sub, .string num, .string name, .int .i64 val]] w fun r w' => (∃ v' : Sv, r = .returned v'.val ∧ SRP w' (fun b => p b ∨ w.heap.size ≤ b) v' (chgR sb ⟨at_, 5, acc, sub, num, name, val⟩)) ∧ Below w.heap.size w w' := by
  have HS0 := Lib.hid hsr
  have hnn := hsr.1.n.len
  have hpp := hsr.1.p.len
  clear hsr
  go_enter Try.func106, Try.ntmps106
  go_upto_region 1 with (fail)
  obtain ⟨W, hW, hbW, hzW, f1, f2, f3, ff1, ff3⟩ := box3 w #[.int .i64 v.id, .int .i64 v.acc, .int .i64 v.since, .string v.plan, .slice v.An v.nn v.cn, .slice v.Ap v.np v.cp, .bool v.susp, .bool v.fam] #[.int .i64 at_, .int .i64 5, .int .i64 acc, .int .i64 sub, .string num, .string name, .int .i64 val] #[.int .i64 0, .int .i64 0, .int .i64 0, .string ⟨#[]⟩, .slice none 0 0, .slice none 0 0, .bool false, .bool false] 51 36 51
  rw [← hW]
  have va0 := f1 0 _ rfl
  have va1 := f1 1 _ rfl
  have va2 := f1 2 _ rfl
  have va3 := f1 3 _ rfl
  have va4 := f1 4 _ rfl
  have va5 := f1 5 _ rfl
  have va6 := f1 6 _ rfl
  have va7 := f1 7 _ rfl
  have qb0 := f2 0 _ rfl
  have qb1 := f2 1 _ rfl
  have qb2 := f2 2 _ rfl
  have qb3 := f2 3 _ rfl
  have qb4 := f2 4 _ rfl
  have qb5 := f2 5 _ rfl
  have qb6 := f2 6 _ rfl
  have rc0 := f3 0 _ rfl
  have rc1 := f3 1 _ rfl
  have rc2 := f3 2 _ rfl
  have rc3 := f3 3 _ rfl
  have rc4 := f3 4 _ rfl
  have rc5 := f3 5 _ rfl
  have rc6 := f3 6 _ rfl
  have rc7 := f3 7 _ rfl
  clear hW f1 f2 f3
  have hgW : w.heap.size + 1 < W.heap.size := by omega
  have hln9 : v.nn ≤ 900000 := by omega
  go_upto_region 23 with (go_at_call 124; go_must (refine (With_any v.An v.nn v.cn sb.nums num _ (HS0.out.1.n.below hbW) HS0.out.1.n0 hln9).mono ?_; rintro r w5 ⟨v5, rfl, ho5, hb5⟩; obtain ⟨A6, c6, rfl, hn6, hs6⟩ := ho5.slN; have za0 := (hb5.cell (p := ⟨w.heap.size, 0, none⟩) (by show w.heap.size < W.heap.size; omega)).trans va0; have za1 := (hb5.cell (p := ⟨w.heap.size, 1, none⟩) (by show w.heap.size < W.heap.size; omega)).trans va1; have za2 := (hb5.cell (p := ⟨w.heap.size, 2, none⟩) (by show w.heap.size < W.heap.size; omega)).trans va2; have za3 := (hb5.cell (p := ⟨w.heap.size, 3, none⟩) (by show w.heap.size < W.heap.size; omega)).trans va3; have za4 := (hb5.cell (p := ⟨w.heap.size, 4, none⟩) (by show w.heap.size < W.heap.size; omega)).trans va4; have za5 := (hb5.cell (p := ⟨w.heap.size, 5, none⟩) (by show w.heap.size < W.heap.size; omega)).trans va5; have za6 := (hb5.cell (p := ⟨w.heap.size, 6, none⟩) (by show w.heap.size < W.heap.size; omega)).trans va6; have za7 := (hb5.cell (p := ⟨w.heap.size, 7, none⟩) (by show w.heap.size < W.heap.size; omega)).trans va7; have zr0 := (hb5.cell (p := ⟨w.heap.size + 1 + 1, 0, none⟩) (by show w.heap.size + 1 + 1 < W.heap.size; omega)).trans rc0; have zr1 := (hb5.cell (p := ⟨w.heap.size + 1 + 1, 1, none⟩) (by show w.heap.size + 1 + 1 < W.heap.size; omega)).trans rc1; have zr2 := (hb5.cell (p := ⟨w.heap.size + 1 + 1, 2, none⟩) (by show w.heap.size + 1 + 1 < W.heap.size; omega)).trans rc2; have zr3 := (hb5.cell (p := ⟨w.heap.size + 1 + 1, 3, none⟩) (by show w.heap.size + 1 + 1 < W.heap.size; omega)).trans rc3; have zr4 := (hb5.cell (p := ⟨w.heap.size + 1 + 1, 4, none⟩) (by show w.heap.size + 1 + 1 < W.heap.size; omega)).trans rc4; have zr5 := (hb5.cell (p := ⟨w.heap.size + 1 + 1, 5, none⟩) (by show w.heap.size + 1 + 1 < W.heap.size; omega)).trans rc5; have zr6 := (hb5.cell (p := ⟨w.heap.size + 1 + 1, 6, none⟩) (by show w.heap.size + 1 + 1 < W.heap.size; omega)).trans rc6; have zr7 := (hb5.cell (p := ⟨w.heap.size + 1 + 1, 7, none⟩) (by show w.heap.size + 1 + 1 < W.heap.size; omega)).trans rc7; have zf1 : ∀ j, w5.frozen? ⟨w.heap.size, j, none⟩ = false := fun j => (hb5.frozen (p := ⟨w.heap.size, j, none⟩) (by show w.heap.size < W.heap.size; omega)).trans (ff1 j); have zf3 : ∀ j, w5.frozen? ⟨w.heap.size + 1 + 1, j, none⟩ = false := fun j => (hb5.frozen (p := ⟨w.heap.size + 1 + 1, j, none⟩) (by show w.heap.size + 1 + 1 < W.heap.size; omega)).trans (ff3 j); have HK6 := Lib.hid (And.intro hn6 (And.intro hs6 ho5.okA)); have HB5 := Lib.hid hb5; clear hn6 hs6 ho5 hb5))
  obtain ⟨X, hX, hnX, hfarX, hfrX, hblX, hszX⟩ := set1 w.heap.size 4 (u := .slice A6 (insS sb.nums num).length c6) za4
  rw [← hX]
  have va0 := (hfarX w.heap.size 0 (by omega)).trans za0
  have rc0 := (hfarX (w.heap.size + 1 + 1) 0 (by omega)).trans zr0
  have va1 := (hfarX w.heap.size 1 (by omega)).trans za1
  have rc1 := (hfarX (w.heap.size + 1 + 1) 1 (by omega)).trans zr1
  have va2 := (hfarX w.heap.size 2 (by omega)).trans za2
  have rc2 := (hfarX (w.heap.size + 1 + 1) 2 (by omega)).trans zr2
  have va3 := (hfarX w.heap.size 3 (by omega)).trans za3
  have rc3 := (hfarX (w.heap.size + 1 + 1) 3 (by omega)).trans zr3
  have rc4 := (hfarX (w.heap.size + 1 + 1) 4 (by omega)).trans zr4
  have va5 := (hfarX w.heap.size 5 (by omega)).trans za5
  have rc5 := (hfarX (w.heap.size + 1 + 1) 5 (by omega)).trans zr5
  have va6 := (hfarX w.heap.size 6 (by omega)).trans za6
  have rc6 := (hfarX (w.heap.size + 1 + 1) 6 (by omega)).trans zr6
  have va7 := (hfarX w.heap.size 7 (by omega)).trans za7
  have rc7 := (hfarX (w.heap.size + 1 + 1) 7 (by omega)).trans zr7
  have va4 := hnX
  have ffX : ∀ j, X.frozen? ⟨w.heap.size + 1 + 1, j, none⟩ = false := fun j => (hfrX _ _).trans (zf3 j)
  have hs5 := HB5.out.size
  have hgX : w.heap.size + 1 + 1 < X.heap.size := by omega
  clear za0 zr0 za1 zr1 za2 zr2 za3 zr3 za4 zr4 za5 zr5 za6 zr6 za7 zr7 zf1 zf3 ff1 ff3
  have HXE := Lib.hid hX
  clear hX hfarX hfrX hnX hblX
  go_wp2_with fail
  have hold := eight rc0 rc1 rc2 rc3 rc4 rc5 rc6 rc7
  have hr := setRun_is (vs := [.int .i64 v.id, .int .i64 v.acc, .int .i64 v.since, .string v.plan, .slice A6 (insS sb.nums num).length c6, .slice v.Ap v.np v.cp, .bool v.susp, .bool v.fam]) hold (Nat.le_refl _)
  refine bodyPost_ret (results_cells rfl _ _ (w.heap.size + 1 + 1) ⟨[.int .i64 v.id, .int .i64 v.acc, .int .i64 v.since, .string v.plan, .slice A6 (insS sb.nums num).length c6, .slice v.Ap v.np v.cp, .bool v.susp, .bool v.fam]⟩ _ rfl hr rfl rfl rfl) rfl ?_
  have hX := HXE.out
  have hkX : Keeps (fun b => b ≠ w.heap.size) w5 X := by rw [hX]; exact Keeps.ofSet fun b hb => hb
  have hkE : Keeps (fun b => b ≠ w.heap.size + 1 + 1) X (setRun X (w.heap.size + 1 + 1) 0 [.int .i64 v.id, .int .i64 v.acc, .int .i64 v.since, .string v.plan, .slice A6 (insS sb.nums num).length c6, .slice v.Ap v.np v.cp, .bool v.susp, .bool v.fam]) := setRun_keeps _ _ _ fun b hb => hb
  have hnE := (HK6.out.2.1.keepP HK6.out.2.2 (kless hkX fun b hb => by have : W.heap.size ≤ b := hb; show b ≠ _; omega)).keepP HK6.out.2.2 (kless hkE fun b hb => by have : W.heap.size ≤ b := hb; show b ≠ _; omega)
  have hbE : Below w.heap.size w (setRun X (w.heap.size + 1 + 1) 0 [.int .i64 v.id, .int .i64 v.acc, .int .i64 v.since, .string v.plan, .slice A6 (insS sb.nums num).length c6, .slice v.Ap v.np v.cp, .bool v.susp, .bool v.fam]) := setRun_below _ _ _ (by rw [hX]; exact (hbW.trans (HB5.out.mono hbW.size)).setCell (Nat.le_refl _) _) (by omega)
  have hs := HS0.out.1.on hbE
  exact ⟨⟨{ v with An := A6, nn := (insS sb.nums num).length, cn := c6 }, rfl, ⟨⟨hs.id, hs.acc, hs.since, hs.plan, HK6.out.1, hnE, hs.p0, hs.p, hs.susp, hs.fam⟩, HK6.out.2.2.mono fun b hb => .inr (by have : W.heap.size ≤ b := hb; have := hbW.size; omega), HS0.out.2.2.mono fun b h => .inl h⟩⟩, hbE⟩
set_option maxHeartbeats 16000000 in
theorem rchanged_6 (v : Sv) (sb : Sb) (at_ acc sub val : Int) (num name : ByteArray) (p : Nat → Prop) (w : World) (hsr : SRP w p v sb) (hln : sb.nums.length ≤ 900000) (hlp : sb.prods.length ≤ 900000) :
    Calls Try.prog 106 #[.agg #[.int .i64 v.id, .int .i64 v.acc, .int .i64 v.since, .string v.plan, .slice v.An v.nn v.cn, .slice v.Ap v.np v.cp, .bool v.susp, .bool v.fam], .agg #[.int .i64 at_, .int .i64 6, .int .i64 acc, .int .i64 sub, .string num, .string name, .int .i64 val]] w fun r w' => (∃ v' : Sv, r = .returned v'.val ∧ SRP w' (fun b => p b ∨ w.heap.size ≤ b) v' (chgR sb ⟨at_, 6, acc, sub, num, name, val⟩)) ∧ Below w.heap.size w w' := by
  have HS0 := Lib.hid hsr
  have hnn := hsr.1.n.len
  have hpp := hsr.1.p.len
  clear hsr
  go_enter Try.func106, Try.ntmps106
  go_upto_region 1 with (fail)
  obtain ⟨W, hW, hbW, hzW, f1, f2, f3, ff1, ff3⟩ := box3 w #[.int .i64 v.id, .int .i64 v.acc, .int .i64 v.since, .string v.plan, .slice v.An v.nn v.cn, .slice v.Ap v.np v.cp, .bool v.susp, .bool v.fam] #[.int .i64 at_, .int .i64 6, .int .i64 acc, .int .i64 sub, .string num, .string name, .int .i64 val] #[.int .i64 0, .int .i64 0, .int .i64 0, .string ⟨#[]⟩, .slice none 0 0, .slice none 0 0, .bool false, .bool false] 51 36 51
  rw [← hW]
  have va0 := f1 0 _ rfl
  have va1 := f1 1 _ rfl
  have va2 := f1 2 _ rfl
  have va3 := f1 3 _ rfl
  have va4 := f1 4 _ rfl
  have va5 := f1 5 _ rfl
  have va6 := f1 6 _ rfl
  have va7 := f1 7 _ rfl
  have qb0 := f2 0 _ rfl
  have qb1 := f2 1 _ rfl
  have qb2 := f2 2 _ rfl
  have qb3 := f2 3 _ rfl
  have qb4 := f2 4 _ rfl
  have qb5 := f2 5 _ rfl
  have qb6 := f2 6 _ rfl
  have rc0 := f3 0 _ rfl
  have rc1 := f3 1 _ rfl
  have rc2 := f3 2 _ rfl
  have rc3 := f3 3 _ rfl
  have rc4 := f3 4 _ rfl
  have rc5 := f3 5 _ rfl
  have rc6 := f3 6 _ rfl
  have rc7 := f3 7 _ rfl
  clear hW f1 f2 f3
  have hgW : w.heap.size + 1 < W.heap.size := by omega
  have hln9 : v.nn ≤ 900000 := by omega
  go_upto_region 23 with (go_at_call 125; go_must (refine (Without_any v.An v.nn v.cn sb.nums num _ (HS0.out.1.n.below hbW) hln9).mono ?_; rintro r w5 ⟨v5, rfl, ho5, hb5⟩; obtain ⟨A6, c6, rfl, hn6, hs6⟩ := ho5.slN; have za0 := (hb5.cell (p := ⟨w.heap.size, 0, none⟩) (by show w.heap.size < W.heap.size; omega)).trans va0; have za1 := (hb5.cell (p := ⟨w.heap.size, 1, none⟩) (by show w.heap.size < W.heap.size; omega)).trans va1; have za2 := (hb5.cell (p := ⟨w.heap.size, 2, none⟩) (by show w.heap.size < W.heap.size; omega)).trans va2; have za3 := (hb5.cell (p := ⟨w.heap.size, 3, none⟩) (by show w.heap.size < W.heap.size; omega)).trans va3; have za4 := (hb5.cell (p := ⟨w.heap.size, 4, none⟩) (by show w.heap.size < W.heap.size; omega)).trans va4; have za5 := (hb5.cell (p := ⟨w.heap.size, 5, none⟩) (by show w.heap.size < W.heap.size; omega)).trans va5; have za6 := (hb5.cell (p := ⟨w.heap.size, 6, none⟩) (by show w.heap.size < W.heap.size; omega)).trans va6; have za7 := (hb5.cell (p := ⟨w.heap.size, 7, none⟩) (by show w.heap.size < W.heap.size; omega)).trans va7; have zr0 := (hb5.cell (p := ⟨w.heap.size + 1 + 1, 0, none⟩) (by show w.heap.size + 1 + 1 < W.heap.size; omega)).trans rc0; have zr1 := (hb5.cell (p := ⟨w.heap.size + 1 + 1, 1, none⟩) (by show w.heap.size + 1 + 1 < W.heap.size; omega)).trans rc1; have zr2 := (hb5.cell (p := ⟨w.heap.size + 1 + 1, 2, none⟩) (by show w.heap.size + 1 + 1 < W.heap.size; omega)).trans rc2; have zr3 := (hb5.cell (p := ⟨w.heap.size + 1 + 1, 3, none⟩) (by show w.heap.size + 1 + 1 < W.heap.size; omega)).trans rc3; have zr4 := (hb5.cell (p := ⟨w.heap.size + 1 + 1, 4, none⟩) (by show w.heap.size + 1 + 1 < W.heap.size; omega)).trans rc4; have zr5 := (hb5.cell (p := ⟨w.heap.size + 1 + 1, 5, none⟩) (by show w.heap.size + 1 + 1 < W.heap.size; omega)).trans rc5; have zr6 := (hb5.cell (p := ⟨w.heap.size + 1 + 1, 6, none⟩) (by show w.heap.size + 1 + 1 < W.heap.size; omega)).trans rc6; have zr7 := (hb5.cell (p := ⟨w.heap.size + 1 + 1, 7, none⟩) (by show w.heap.size + 1 + 1 < W.heap.size; omega)).trans rc7; have zf1 : ∀ j, w5.frozen? ⟨w.heap.size, j, none⟩ = false := fun j => (hb5.frozen (p := ⟨w.heap.size, j, none⟩) (by show w.heap.size < W.heap.size; omega)).trans (ff1 j); have zf3 : ∀ j, w5.frozen? ⟨w.heap.size + 1 + 1, j, none⟩ = false := fun j => (hb5.frozen (p := ⟨w.heap.size + 1 + 1, j, none⟩) (by show w.heap.size + 1 + 1 < W.heap.size; omega)).trans (ff3 j); have HK6 := Lib.hid (And.intro hn6 (And.intro hs6 ho5.okA)); have HB5 := Lib.hid hb5; clear hn6 hs6 ho5 hb5))
  obtain ⟨X, hX, hnX, hfarX, hfrX, hblX, hszX⟩ := set1 w.heap.size 4 (u := .slice A6 (remS sb.nums num).length c6) za4
  rw [← hX]
  have va0 := (hfarX w.heap.size 0 (by omega)).trans za0
  have rc0 := (hfarX (w.heap.size + 1 + 1) 0 (by omega)).trans zr0
  have va1 := (hfarX w.heap.size 1 (by omega)).trans za1
  have rc1 := (hfarX (w.heap.size + 1 + 1) 1 (by omega)).trans zr1
  have va2 := (hfarX w.heap.size 2 (by omega)).trans za2
  have rc2 := (hfarX (w.heap.size + 1 + 1) 2 (by omega)).trans zr2
  have va3 := (hfarX w.heap.size 3 (by omega)).trans za3
  have rc3 := (hfarX (w.heap.size + 1 + 1) 3 (by omega)).trans zr3
  have rc4 := (hfarX (w.heap.size + 1 + 1) 4 (by omega)).trans zr4
  have va5 := (hfarX w.heap.size 5 (by omega)).trans za5
  have rc5 := (hfarX (w.heap.size + 1 + 1) 5 (by omega)).trans zr5
  have va6 := (hfarX w.heap.size 6 (by omega)).trans za6
  have rc6 := (hfarX (w.heap.size + 1 + 1) 6 (by omega)).trans zr6
  have va7 := (hfarX w.heap.size 7 (by omega)).trans za7
  have rc7 := (hfarX (w.heap.size + 1 + 1) 7 (by omega)).trans zr7
  have va4 := hnX
  have ffX : ∀ j, X.frozen? ⟨w.heap.size + 1 + 1, j, none⟩ = false := fun j => (hfrX _ _).trans (zf3 j)
  have hs5 := HB5.out.size
  have hgX : w.heap.size + 1 + 1 < X.heap.size := by omega
  clear za0 zr0 za1 zr1 za2 zr2 za3 zr3 za4 zr4 za5 zr5 za6 zr6 za7 zr7 zf1 zf3 ff1 ff3
  have HXE := Lib.hid hX
  clear hX hfarX hfrX hnX hblX
  go_wp2_with fail
  have hold := eight rc0 rc1 rc2 rc3 rc4 rc5 rc6 rc7
  have hr := setRun_is (vs := [.int .i64 v.id, .int .i64 v.acc, .int .i64 v.since, .string v.plan, .slice A6 (remS sb.nums num).length c6, .slice v.Ap v.np v.cp, .bool v.susp, .bool v.fam]) hold (Nat.le_refl _)
  refine bodyPost_ret (results_cells rfl _ _ (w.heap.size + 1 + 1) ⟨[.int .i64 v.id, .int .i64 v.acc, .int .i64 v.since, .string v.plan, .slice A6 (remS sb.nums num).length c6, .slice v.Ap v.np v.cp, .bool v.susp, .bool v.fam]⟩ _ rfl hr rfl rfl rfl) rfl ?_
  have hX := HXE.out
  have hkX : Keeps (fun b => b ≠ w.heap.size) w5 X := by rw [hX]; exact Keeps.ofSet fun b hb => hb
  have hkE : Keeps (fun b => b ≠ w.heap.size + 1 + 1) X (setRun X (w.heap.size + 1 + 1) 0 [.int .i64 v.id, .int .i64 v.acc, .int .i64 v.since, .string v.plan, .slice A6 (remS sb.nums num).length c6, .slice v.Ap v.np v.cp, .bool v.susp, .bool v.fam]) := setRun_keeps _ _ _ fun b hb => hb
  have hnE := (HK6.out.2.1.keepP HK6.out.2.2 (kless hkX fun b hb => by have : W.heap.size ≤ b := hb; show b ≠ _; omega)).keepP HK6.out.2.2 (kless hkE fun b hb => by have : W.heap.size ≤ b := hb; show b ≠ _; omega)
  have hbE : Below w.heap.size w (setRun X (w.heap.size + 1 + 1) 0 [.int .i64 v.id, .int .i64 v.acc, .int .i64 v.since, .string v.plan, .slice A6 (remS sb.nums num).length c6, .slice v.Ap v.np v.cp, .bool v.susp, .bool v.fam]) := setRun_below _ _ _ (by rw [hX]; exact (hbW.trans (HB5.out.mono hbW.size)).setCell (Nat.le_refl _) _) (by omega)
  have hs := HS0.out.1.on hbE
  exact ⟨⟨{ v with An := A6, nn := (remS sb.nums num).length, cn := c6 }, rfl, ⟨⟨hs.id, hs.acc, hs.since, hs.plan, HK6.out.1, hnE, hs.p0, hs.p, hs.susp, hs.fam⟩, HK6.out.2.2.mono fun b hb => .inr (by have : W.heap.size ≤ b := hb; have := hbW.size; omega), HS0.out.2.2.mono fun b h => .inl h⟩⟩, hbE⟩
set_option maxHeartbeats 16000000 in
theorem rchanged_7 (v : Sv) (sb : Sb) (at_ acc sub val : Int) (num name : ByteArray) (p : Nat → Prop) (w : World) (hsr : SRP w p v sb) (hln : sb.nums.length ≤ 900000) (hlp : sb.prods.length ≤ 900000) :
    Calls Try.prog 106 #[.agg #[.int .i64 v.id, .int .i64 v.acc, .int .i64 v.since, .string v.plan, .slice v.An v.nn v.cn, .slice v.Ap v.np v.cp, .bool v.susp, .bool v.fam], .agg #[.int .i64 at_, .int .i64 7, .int .i64 acc, .int .i64 sub, .string num, .string name, .int .i64 val]] w fun r w' => (∃ v' : Sv, r = .returned v'.val ∧ SRP w' (fun b => p b ∨ w.heap.size ≤ b) v' (chgR sb ⟨at_, 7, acc, sub, num, name, val⟩)) ∧ Below w.heap.size w w' := by
  have HS0 := Lib.hid hsr
  have hnn := hsr.1.n.len
  have hpp := hsr.1.p.len
  clear hsr
  go_enter Try.func106, Try.ntmps106
  go_upto_region 1 with (fail)
  obtain ⟨W, hW, hbW, hzW, f1, f2, f3, ff1, ff3⟩ := box3 w #[.int .i64 v.id, .int .i64 v.acc, .int .i64 v.since, .string v.plan, .slice v.An v.nn v.cn, .slice v.Ap v.np v.cp, .bool v.susp, .bool v.fam] #[.int .i64 at_, .int .i64 7, .int .i64 acc, .int .i64 sub, .string num, .string name, .int .i64 val] #[.int .i64 0, .int .i64 0, .int .i64 0, .string ⟨#[]⟩, .slice none 0 0, .slice none 0 0, .bool false, .bool false] 51 36 51
  rw [← hW]
  have va0 := f1 0 _ rfl
  have va1 := f1 1 _ rfl
  have va2 := f1 2 _ rfl
  have va3 := f1 3 _ rfl
  have va4 := f1 4 _ rfl
  have va5 := f1 5 _ rfl
  have va6 := f1 6 _ rfl
  have va7 := f1 7 _ rfl
  have qb0 := f2 0 _ rfl
  have qb1 := f2 1 _ rfl
  have qb2 := f2 2 _ rfl
  have qb3 := f2 3 _ rfl
  have qb4 := f2 4 _ rfl
  have qb5 := f2 5 _ rfl
  have qb6 := f2 6 _ rfl
  have rc0 := f3 0 _ rfl
  have rc1 := f3 1 _ rfl
  have rc2 := f3 2 _ rfl
  have rc3 := f3 3 _ rfl
  have rc4 := f3 4 _ rfl
  have rc5 := f3 5 _ rfl
  have rc6 := f3 6 _ rfl
  have rc7 := f3 7 _ rfl
  clear hW f1 f2 f3
  have hgW : w.heap.size + 1 < W.heap.size := by omega
  go_upto_region 23 with (fail)
  obtain ⟨X, hX, hnX, hfarX, hfrX, hblX, hszX⟩ := set1 w.heap.size 3 (u := .string name) va3
  rw [← hX]
  replace va0 := (hfarX w.heap.size 0 (by omega)).trans va0
  replace rc0 := (hfarX (w.heap.size + 1 + 1) 0 (by omega)).trans rc0
  replace va1 := (hfarX w.heap.size 1 (by omega)).trans va1
  replace rc1 := (hfarX (w.heap.size + 1 + 1) 1 (by omega)).trans rc1
  replace va2 := (hfarX w.heap.size 2 (by omega)).trans va2
  replace rc2 := (hfarX (w.heap.size + 1 + 1) 2 (by omega)).trans rc2
  replace rc3 := (hfarX (w.heap.size + 1 + 1) 3 (by omega)).trans rc3
  replace va4 := (hfarX w.heap.size 4 (by omega)).trans va4
  replace rc4 := (hfarX (w.heap.size + 1 + 1) 4 (by omega)).trans rc4
  replace va5 := (hfarX w.heap.size 5 (by omega)).trans va5
  replace rc5 := (hfarX (w.heap.size + 1 + 1) 5 (by omega)).trans rc5
  replace va6 := (hfarX w.heap.size 6 (by omega)).trans va6
  replace rc6 := (hfarX (w.heap.size + 1 + 1) 6 (by omega)).trans rc6
  replace va7 := (hfarX w.heap.size 7 (by omega)).trans va7
  replace rc7 := (hfarX (w.heap.size + 1 + 1) 7 (by omega)).trans rc7
  replace qb0 := (hfarX (w.heap.size + 1) 0 (by omega)).trans qb0
  replace qb1 := (hfarX (w.heap.size + 1) 1 (by omega)).trans qb1
  replace qb2 := (hfarX (w.heap.size + 1) 2 (by omega)).trans qb2
  replace qb3 := (hfarX (w.heap.size + 1) 3 (by omega)).trans qb3
  replace qb4 := (hfarX (w.heap.size + 1) 4 (by omega)).trans qb4
  replace qb5 := (hfarX (w.heap.size + 1) 5 (by omega)).trans qb5
  replace qb6 := (hfarX (w.heap.size + 1) 6 (by omega)).trans qb6
  replace va3 := hnX
  replace ff1 : ∀ j, X.frozen? ⟨w.heap.size, j, none⟩ = false := fun j => (hfrX _ _).trans (ff1 j)
  replace ff3 : ∀ j, X.frozen? ⟨w.heap.size + 1 + 1, j, none⟩ = false := fun j => (hfrX _ _).trans (ff3 j)
  have hgX : w.heap.size + 1 + 1 < X.heap.size := by omega
  have hbX : Below w.heap.size w X := by rw [hX]; exact hbW.setCell (Nat.le_refl _) _
  clear hX hnX hfarX hfrX hblX hbW
  go_wp2_with fail
  have hold := eight rc0 rc1 rc2 rc3 rc4 rc5 rc6 rc7
  have hr := setRun_is (vs := [.int .i64 v.id, .int .i64 v.acc, .int .i64 v.since, .string name, .slice v.An v.nn v.cn, .slice v.Ap v.np v.cp, .bool v.susp, .bool v.fam]) hold (Nat.le_refl _)
  refine bodyPost_ret (results_cells rfl _ _ (w.heap.size + 1 + 1) ⟨[.int .i64 v.id, .int .i64 v.acc, .int .i64 v.since, .string name, .slice v.An v.nn v.cn, .slice v.Ap v.np v.cp, .bool v.susp, .bool v.fam]⟩ _ rfl hr rfl rfl rfl) rfl ?_
  have hbE : Below w.heap.size w (setRun X (w.heap.size + 1 + 1) 0 [.int .i64 v.id, .int .i64 v.acc, .int .i64 v.since, .string name, .slice v.An v.nn v.cn, .slice v.Ap v.np v.cp, .bool v.susp, .bool v.fam]) := setRun_below _ _ _ hbX (by omega)
  have hs := HS0.out.1.on hbE
  exact ⟨⟨{ v with plan := name }, rfl, ⟨⟨hs.id, hs.acc, hs.since, rfl, hs.n0, hs.n, hs.p0, hs.p, hs.susp, hs.fam⟩, HS0.out.2.1.mono fun b h => .inl h, HS0.out.2.2.mono fun b h => .inl h⟩⟩, hbE⟩
set_option maxHeartbeats 16000000 in
theorem rchanged_8 (v : Sv) (sb : Sb) (at_ acc sub val : Int) (num name : ByteArray) (p : Nat → Prop) (w : World) (hsr : SRP w p v sb) (hln : sb.nums.length ≤ 900000) (hlp : sb.prods.length ≤ 900000) :
    Calls Try.prog 106 #[.agg #[.int .i64 v.id, .int .i64 v.acc, .int .i64 v.since, .string v.plan, .slice v.An v.nn v.cn, .slice v.Ap v.np v.cp, .bool v.susp, .bool v.fam], .agg #[.int .i64 at_, .int .i64 8, .int .i64 acc, .int .i64 sub, .string num, .string name, .int .i64 val]] w fun r w' => (∃ v' : Sv, r = .returned v'.val ∧ SRP w' (fun b => p b ∨ w.heap.size ≤ b) v' (chgR sb ⟨at_, 8, acc, sub, num, name, val⟩)) ∧ Below w.heap.size w w' := by
  have HS0 := Lib.hid hsr
  have hnn := hsr.1.n.len
  have hpp := hsr.1.p.len
  clear hsr
  go_enter Try.func106, Try.ntmps106
  go_upto_region 1 with (fail)
  obtain ⟨W, hW, hbW, hzW, f1, f2, f3, ff1, ff3⟩ := box3 w #[.int .i64 v.id, .int .i64 v.acc, .int .i64 v.since, .string v.plan, .slice v.An v.nn v.cn, .slice v.Ap v.np v.cp, .bool v.susp, .bool v.fam] #[.int .i64 at_, .int .i64 8, .int .i64 acc, .int .i64 sub, .string num, .string name, .int .i64 val] #[.int .i64 0, .int .i64 0, .int .i64 0, .string ⟨#[]⟩, .slice none 0 0, .slice none 0 0, .bool false, .bool false] 51 36 51
  rw [← hW]
  have va0 := f1 0 _ rfl
  have va1 := f1 1 _ rfl
  have va2 := f1 2 _ rfl
  have va3 := f1 3 _ rfl
  have va4 := f1 4 _ rfl
  have va5 := f1 5 _ rfl
  have va6 := f1 6 _ rfl
  have va7 := f1 7 _ rfl
  have qb0 := f2 0 _ rfl
  have qb1 := f2 1 _ rfl
  have qb2 := f2 2 _ rfl
  have qb3 := f2 3 _ rfl
  have qb4 := f2 4 _ rfl
  have qb5 := f2 5 _ rfl
  have qb6 := f2 6 _ rfl
  have rc0 := f3 0 _ rfl
  have rc1 := f3 1 _ rfl
  have rc2 := f3 2 _ rfl
  have rc3 := f3 3 _ rfl
  have rc4 := f3 4 _ rfl
  have rc5 := f3 5 _ rfl
  have rc6 := f3 6 _ rfl
  have rc7 := f3 7 _ rfl
  clear hW f1 f2 f3
  have hgW : w.heap.size + 1 < W.heap.size := by omega
  have hln9 : v.np ≤ 900000 := by omega
  go_upto_region 23 with (go_at_call 124; go_must (refine (With_any v.Ap v.np v.cp sb.prods name _ (HS0.out.1.p.below hbW) HS0.out.1.p0 hln9).mono ?_; rintro r w5 ⟨v5, rfl, ho5, hb5⟩; obtain ⟨A6, c6, rfl, hn6, hs6⟩ := ho5.slN; have za0 := (hb5.cell (p := ⟨w.heap.size, 0, none⟩) (by show w.heap.size < W.heap.size; omega)).trans va0; have za1 := (hb5.cell (p := ⟨w.heap.size, 1, none⟩) (by show w.heap.size < W.heap.size; omega)).trans va1; have za2 := (hb5.cell (p := ⟨w.heap.size, 2, none⟩) (by show w.heap.size < W.heap.size; omega)).trans va2; have za3 := (hb5.cell (p := ⟨w.heap.size, 3, none⟩) (by show w.heap.size < W.heap.size; omega)).trans va3; have za4 := (hb5.cell (p := ⟨w.heap.size, 4, none⟩) (by show w.heap.size < W.heap.size; omega)).trans va4; have za5 := (hb5.cell (p := ⟨w.heap.size, 5, none⟩) (by show w.heap.size < W.heap.size; omega)).trans va5; have za6 := (hb5.cell (p := ⟨w.heap.size, 6, none⟩) (by show w.heap.size < W.heap.size; omega)).trans va6; have za7 := (hb5.cell (p := ⟨w.heap.size, 7, none⟩) (by show w.heap.size < W.heap.size; omega)).trans va7; have zr0 := (hb5.cell (p := ⟨w.heap.size + 1 + 1, 0, none⟩) (by show w.heap.size + 1 + 1 < W.heap.size; omega)).trans rc0; have zr1 := (hb5.cell (p := ⟨w.heap.size + 1 + 1, 1, none⟩) (by show w.heap.size + 1 + 1 < W.heap.size; omega)).trans rc1; have zr2 := (hb5.cell (p := ⟨w.heap.size + 1 + 1, 2, none⟩) (by show w.heap.size + 1 + 1 < W.heap.size; omega)).trans rc2; have zr3 := (hb5.cell (p := ⟨w.heap.size + 1 + 1, 3, none⟩) (by show w.heap.size + 1 + 1 < W.heap.size; omega)).trans rc3; have zr4 := (hb5.cell (p := ⟨w.heap.size + 1 + 1, 4, none⟩) (by show w.heap.size + 1 + 1 < W.heap.size; omega)).trans rc4; have zr5 := (hb5.cell (p := ⟨w.heap.size + 1 + 1, 5, none⟩) (by show w.heap.size + 1 + 1 < W.heap.size; omega)).trans rc5; have zr6 := (hb5.cell (p := ⟨w.heap.size + 1 + 1, 6, none⟩) (by show w.heap.size + 1 + 1 < W.heap.size; omega)).trans rc6; have zr7 := (hb5.cell (p := ⟨w.heap.size + 1 + 1, 7, none⟩) (by show w.heap.size + 1 + 1 < W.heap.size; omega)).trans rc7; have zf1 : ∀ j, w5.frozen? ⟨w.heap.size, j, none⟩ = false := fun j => (hb5.frozen (p := ⟨w.heap.size, j, none⟩) (by show w.heap.size < W.heap.size; omega)).trans (ff1 j); have zf3 : ∀ j, w5.frozen? ⟨w.heap.size + 1 + 1, j, none⟩ = false := fun j => (hb5.frozen (p := ⟨w.heap.size + 1 + 1, j, none⟩) (by show w.heap.size + 1 + 1 < W.heap.size; omega)).trans (ff3 j); have HK6 := Lib.hid (And.intro hn6 (And.intro hs6 ho5.okA)); have HB5 := Lib.hid hb5; clear hn6 hs6 ho5 hb5))
  obtain ⟨X, hX, hnX, hfarX, hfrX, hblX, hszX⟩ := set1 w.heap.size 5 (u := .slice A6 (insS sb.prods name).length c6) za5
  rw [← hX]
  have va0 := (hfarX w.heap.size 0 (by omega)).trans za0
  have rc0 := (hfarX (w.heap.size + 1 + 1) 0 (by omega)).trans zr0
  have va1 := (hfarX w.heap.size 1 (by omega)).trans za1
  have rc1 := (hfarX (w.heap.size + 1 + 1) 1 (by omega)).trans zr1
  have va2 := (hfarX w.heap.size 2 (by omega)).trans za2
  have rc2 := (hfarX (w.heap.size + 1 + 1) 2 (by omega)).trans zr2
  have va3 := (hfarX w.heap.size 3 (by omega)).trans za3
  have rc3 := (hfarX (w.heap.size + 1 + 1) 3 (by omega)).trans zr3
  have va4 := (hfarX w.heap.size 4 (by omega)).trans za4
  have rc4 := (hfarX (w.heap.size + 1 + 1) 4 (by omega)).trans zr4
  have rc5 := (hfarX (w.heap.size + 1 + 1) 5 (by omega)).trans zr5
  have va6 := (hfarX w.heap.size 6 (by omega)).trans za6
  have rc6 := (hfarX (w.heap.size + 1 + 1) 6 (by omega)).trans zr6
  have va7 := (hfarX w.heap.size 7 (by omega)).trans za7
  have rc7 := (hfarX (w.heap.size + 1 + 1) 7 (by omega)).trans zr7
  have va5 := hnX
  have ffX : ∀ j, X.frozen? ⟨w.heap.size + 1 + 1, j, none⟩ = false := fun j => (hfrX _ _).trans (zf3 j)
  have hs5 := HB5.out.size
  have hgX : w.heap.size + 1 + 1 < X.heap.size := by omega
  clear za0 zr0 za1 zr1 za2 zr2 za3 zr3 za4 zr4 za5 zr5 za6 zr6 za7 zr7 zf1 zf3 ff1 ff3
  have HXE := Lib.hid hX
  clear hX hfarX hfrX hnX hblX
  go_wp2_with fail
  have hold := eight rc0 rc1 rc2 rc3 rc4 rc5 rc6 rc7
  have hr := setRun_is (vs := [.int .i64 v.id, .int .i64 v.acc, .int .i64 v.since, .string v.plan, .slice v.An v.nn v.cn, .slice A6 (insS sb.prods name).length c6, .bool v.susp, .bool v.fam]) hold (Nat.le_refl _)
  refine bodyPost_ret (results_cells rfl _ _ (w.heap.size + 1 + 1) ⟨[.int .i64 v.id, .int .i64 v.acc, .int .i64 v.since, .string v.plan, .slice v.An v.nn v.cn, .slice A6 (insS sb.prods name).length c6, .bool v.susp, .bool v.fam]⟩ _ rfl hr rfl rfl rfl) rfl ?_
  have hX := HXE.out
  have hkX : Keeps (fun b => b ≠ w.heap.size) w5 X := by rw [hX]; exact Keeps.ofSet fun b hb => hb
  have hkE : Keeps (fun b => b ≠ w.heap.size + 1 + 1) X (setRun X (w.heap.size + 1 + 1) 0 [.int .i64 v.id, .int .i64 v.acc, .int .i64 v.since, .string v.plan, .slice v.An v.nn v.cn, .slice A6 (insS sb.prods name).length c6, .bool v.susp, .bool v.fam]) := setRun_keeps _ _ _ fun b hb => hb
  have hnE := (HK6.out.2.1.keepP HK6.out.2.2 (kless hkX fun b hb => by have : W.heap.size ≤ b := hb; show b ≠ _; omega)).keepP HK6.out.2.2 (kless hkE fun b hb => by have : W.heap.size ≤ b := hb; show b ≠ _; omega)
  have hbE : Below w.heap.size w (setRun X (w.heap.size + 1 + 1) 0 [.int .i64 v.id, .int .i64 v.acc, .int .i64 v.since, .string v.plan, .slice v.An v.nn v.cn, .slice A6 (insS sb.prods name).length c6, .bool v.susp, .bool v.fam]) := setRun_below _ _ _ (by rw [hX]; exact (hbW.trans (HB5.out.mono hbW.size)).setCell (Nat.le_refl _) _) (by omega)
  have hs := HS0.out.1.on hbE
  exact ⟨⟨{ v with Ap := A6, np := (insS sb.prods name).length, cp := c6 }, rfl, ⟨⟨hs.id, hs.acc, hs.since, hs.plan, hs.n0, hs.n, HK6.out.1, hnE, hs.susp, hs.fam⟩, HS0.out.2.1.mono fun b h => .inl h, HK6.out.2.2.mono fun b hb => .inr (by have : W.heap.size ≤ b := hb; have := hbW.size; omega)⟩⟩, hbE⟩
set_option maxHeartbeats 16000000 in
theorem rchanged_9 (v : Sv) (sb : Sb) (at_ acc sub val : Int) (num name : ByteArray) (p : Nat → Prop) (w : World) (hsr : SRP w p v sb) (hln : sb.nums.length ≤ 900000) (hlp : sb.prods.length ≤ 900000) :
    Calls Try.prog 106 #[.agg #[.int .i64 v.id, .int .i64 v.acc, .int .i64 v.since, .string v.plan, .slice v.An v.nn v.cn, .slice v.Ap v.np v.cp, .bool v.susp, .bool v.fam], .agg #[.int .i64 at_, .int .i64 9, .int .i64 acc, .int .i64 sub, .string num, .string name, .int .i64 val]] w fun r w' => (∃ v' : Sv, r = .returned v'.val ∧ SRP w' (fun b => p b ∨ w.heap.size ≤ b) v' (chgR sb ⟨at_, 9, acc, sub, num, name, val⟩)) ∧ Below w.heap.size w w' := by
  have HS0 := Lib.hid hsr
  have hnn := hsr.1.n.len
  have hpp := hsr.1.p.len
  clear hsr
  go_enter Try.func106, Try.ntmps106
  go_upto_region 1 with (fail)
  obtain ⟨W, hW, hbW, hzW, f1, f2, f3, ff1, ff3⟩ := box3 w #[.int .i64 v.id, .int .i64 v.acc, .int .i64 v.since, .string v.plan, .slice v.An v.nn v.cn, .slice v.Ap v.np v.cp, .bool v.susp, .bool v.fam] #[.int .i64 at_, .int .i64 9, .int .i64 acc, .int .i64 sub, .string num, .string name, .int .i64 val] #[.int .i64 0, .int .i64 0, .int .i64 0, .string ⟨#[]⟩, .slice none 0 0, .slice none 0 0, .bool false, .bool false] 51 36 51
  rw [← hW]
  have va0 := f1 0 _ rfl
  have va1 := f1 1 _ rfl
  have va2 := f1 2 _ rfl
  have va3 := f1 3 _ rfl
  have va4 := f1 4 _ rfl
  have va5 := f1 5 _ rfl
  have va6 := f1 6 _ rfl
  have va7 := f1 7 _ rfl
  have qb0 := f2 0 _ rfl
  have qb1 := f2 1 _ rfl
  have qb2 := f2 2 _ rfl
  have qb3 := f2 3 _ rfl
  have qb4 := f2 4 _ rfl
  have qb5 := f2 5 _ rfl
  have qb6 := f2 6 _ rfl
  have rc0 := f3 0 _ rfl
  have rc1 := f3 1 _ rfl
  have rc2 := f3 2 _ rfl
  have rc3 := f3 3 _ rfl
  have rc4 := f3 4 _ rfl
  have rc5 := f3 5 _ rfl
  have rc6 := f3 6 _ rfl
  have rc7 := f3 7 _ rfl
  clear hW f1 f2 f3
  have hgW : w.heap.size + 1 < W.heap.size := by omega
  have hln9 : v.np ≤ 900000 := by omega
  go_upto_region 23 with (go_at_call 125; go_must (refine (Without_any v.Ap v.np v.cp sb.prods name _ (HS0.out.1.p.below hbW) hln9).mono ?_; rintro r w5 ⟨v5, rfl, ho5, hb5⟩; obtain ⟨A6, c6, rfl, hn6, hs6⟩ := ho5.slN; have za0 := (hb5.cell (p := ⟨w.heap.size, 0, none⟩) (by show w.heap.size < W.heap.size; omega)).trans va0; have za1 := (hb5.cell (p := ⟨w.heap.size, 1, none⟩) (by show w.heap.size < W.heap.size; omega)).trans va1; have za2 := (hb5.cell (p := ⟨w.heap.size, 2, none⟩) (by show w.heap.size < W.heap.size; omega)).trans va2; have za3 := (hb5.cell (p := ⟨w.heap.size, 3, none⟩) (by show w.heap.size < W.heap.size; omega)).trans va3; have za4 := (hb5.cell (p := ⟨w.heap.size, 4, none⟩) (by show w.heap.size < W.heap.size; omega)).trans va4; have za5 := (hb5.cell (p := ⟨w.heap.size, 5, none⟩) (by show w.heap.size < W.heap.size; omega)).trans va5; have za6 := (hb5.cell (p := ⟨w.heap.size, 6, none⟩) (by show w.heap.size < W.heap.size; omega)).trans va6; have za7 := (hb5.cell (p := ⟨w.heap.size, 7, none⟩) (by show w.heap.size < W.heap.size; omega)).trans va7; have zr0 := (hb5.cell (p := ⟨w.heap.size + 1 + 1, 0, none⟩) (by show w.heap.size + 1 + 1 < W.heap.size; omega)).trans rc0; have zr1 := (hb5.cell (p := ⟨w.heap.size + 1 + 1, 1, none⟩) (by show w.heap.size + 1 + 1 < W.heap.size; omega)).trans rc1; have zr2 := (hb5.cell (p := ⟨w.heap.size + 1 + 1, 2, none⟩) (by show w.heap.size + 1 + 1 < W.heap.size; omega)).trans rc2; have zr3 := (hb5.cell (p := ⟨w.heap.size + 1 + 1, 3, none⟩) (by show w.heap.size + 1 + 1 < W.heap.size; omega)).trans rc3; have zr4 := (hb5.cell (p := ⟨w.heap.size + 1 + 1, 4, none⟩) (by show w.heap.size + 1 + 1 < W.heap.size; omega)).trans rc4; have zr5 := (hb5.cell (p := ⟨w.heap.size + 1 + 1, 5, none⟩) (by show w.heap.size + 1 + 1 < W.heap.size; omega)).trans rc5; have zr6 := (hb5.cell (p := ⟨w.heap.size + 1 + 1, 6, none⟩) (by show w.heap.size + 1 + 1 < W.heap.size; omega)).trans rc6; have zr7 := (hb5.cell (p := ⟨w.heap.size + 1 + 1, 7, none⟩) (by show w.heap.size + 1 + 1 < W.heap.size; omega)).trans rc7; have zf1 : ∀ j, w5.frozen? ⟨w.heap.size, j, none⟩ = false := fun j => (hb5.frozen (p := ⟨w.heap.size, j, none⟩) (by show w.heap.size < W.heap.size; omega)).trans (ff1 j); have zf3 : ∀ j, w5.frozen? ⟨w.heap.size + 1 + 1, j, none⟩ = false := fun j => (hb5.frozen (p := ⟨w.heap.size + 1 + 1, j, none⟩) (by show w.heap.size + 1 + 1 < W.heap.size; omega)).trans (ff3 j); have HK6 := Lib.hid (And.intro hn6 (And.intro hs6 ho5.okA)); have HB5 := Lib.hid hb5; clear hn6 hs6 ho5 hb5))
  obtain ⟨X, hX, hnX, hfarX, hfrX, hblX, hszX⟩ := set1 w.heap.size 5 (u := .slice A6 (remS sb.prods name).length c6) za5
  rw [← hX]
  have va0 := (hfarX w.heap.size 0 (by omega)).trans za0
  have rc0 := (hfarX (w.heap.size + 1 + 1) 0 (by omega)).trans zr0
  have va1 := (hfarX w.heap.size 1 (by omega)).trans za1
  have rc1 := (hfarX (w.heap.size + 1 + 1) 1 (by omega)).trans zr1
  have va2 := (hfarX w.heap.size 2 (by omega)).trans za2
  have rc2 := (hfarX (w.heap.size + 1 + 1) 2 (by omega)).trans zr2
  have va3 := (hfarX w.heap.size 3 (by omega)).trans za3
  have rc3 := (hfarX (w.heap.size + 1 + 1) 3 (by omega)).trans zr3
  have va4 := (hfarX w.heap.size 4 (by omega)).trans za4
  have rc4 := (hfarX (w.heap.size + 1 + 1) 4 (by omega)).trans zr4
  have rc5 := (hfarX (w.heap.size + 1 + 1) 5 (by omega)).trans zr5
  have va6 := (hfarX w.heap.size 6 (by omega)).trans za6
  have rc6 := (hfarX (w.heap.size + 1 + 1) 6 (by omega)).trans zr6
  have va7 := (hfarX w.heap.size 7 (by omega)).trans za7
  have rc7 := (hfarX (w.heap.size + 1 + 1) 7 (by omega)).trans zr7
  have va5 := hnX
  have ffX : ∀ j, X.frozen? ⟨w.heap.size + 1 + 1, j, none⟩ = false := fun j => (hfrX _ _).trans (zf3 j)
  have hs5 := HB5.out.size
  have hgX : w.heap.size + 1 + 1 < X.heap.size := by omega
  clear za0 zr0 za1 zr1 za2 zr2 za3 zr3 za4 zr4 za5 zr5 za6 zr6 za7 zr7 zf1 zf3 ff1 ff3
  have HXE := Lib.hid hX
  clear hX hfarX hfrX hnX hblX
  go_wp2_with fail
  have hold := eight rc0 rc1 rc2 rc3 rc4 rc5 rc6 rc7
  have hr := setRun_is (vs := [.int .i64 v.id, .int .i64 v.acc, .int .i64 v.since, .string v.plan, .slice v.An v.nn v.cn, .slice A6 (remS sb.prods name).length c6, .bool v.susp, .bool v.fam]) hold (Nat.le_refl _)
  refine bodyPost_ret (results_cells rfl _ _ (w.heap.size + 1 + 1) ⟨[.int .i64 v.id, .int .i64 v.acc, .int .i64 v.since, .string v.plan, .slice v.An v.nn v.cn, .slice A6 (remS sb.prods name).length c6, .bool v.susp, .bool v.fam]⟩ _ rfl hr rfl rfl rfl) rfl ?_
  have hX := HXE.out
  have hkX : Keeps (fun b => b ≠ w.heap.size) w5 X := by rw [hX]; exact Keeps.ofSet fun b hb => hb
  have hkE : Keeps (fun b => b ≠ w.heap.size + 1 + 1) X (setRun X (w.heap.size + 1 + 1) 0 [.int .i64 v.id, .int .i64 v.acc, .int .i64 v.since, .string v.plan, .slice v.An v.nn v.cn, .slice A6 (remS sb.prods name).length c6, .bool v.susp, .bool v.fam]) := setRun_keeps _ _ _ fun b hb => hb
  have hnE := (HK6.out.2.1.keepP HK6.out.2.2 (kless hkX fun b hb => by have : W.heap.size ≤ b := hb; show b ≠ _; omega)).keepP HK6.out.2.2 (kless hkE fun b hb => by have : W.heap.size ≤ b := hb; show b ≠ _; omega)
  have hbE : Below w.heap.size w (setRun X (w.heap.size + 1 + 1) 0 [.int .i64 v.id, .int .i64 v.acc, .int .i64 v.since, .string v.plan, .slice v.An v.nn v.cn, .slice A6 (remS sb.prods name).length c6, .bool v.susp, .bool v.fam]) := setRun_below _ _ _ (by rw [hX]; exact (hbW.trans (HB5.out.mono hbW.size)).setCell (Nat.le_refl _) _) (by omega)
  have hs := HS0.out.1.on hbE
  exact ⟨⟨{ v with Ap := A6, np := (remS sb.prods name).length, cp := c6 }, rfl, ⟨⟨hs.id, hs.acc, hs.since, hs.plan, hs.n0, hs.n, HK6.out.1, hnE, hs.susp, hs.fam⟩, HS0.out.2.1.mono fun b h => .inl h, HK6.out.2.2.mono fun b hb => .inr (by have : W.heap.size ≤ b := hb; have := hbW.size; omega)⟩⟩, hbE⟩
set_option maxHeartbeats 16000000 in
theorem rchanged_10 (v : Sv) (sb : Sb) (at_ acc sub val : Int) (num name : ByteArray) (p : Nat → Prop) (w : World) (hsr : SRP w p v sb) (hln : sb.nums.length ≤ 900000) (hlp : sb.prods.length ≤ 900000) :
    Calls Try.prog 106 #[.agg #[.int .i64 v.id, .int .i64 v.acc, .int .i64 v.since, .string v.plan, .slice v.An v.nn v.cn, .slice v.Ap v.np v.cp, .bool v.susp, .bool v.fam], .agg #[.int .i64 at_, .int .i64 10, .int .i64 acc, .int .i64 sub, .string num, .string name, .int .i64 val]] w fun r w' => (∃ v' : Sv, r = .returned v'.val ∧ SRP w' (fun b => p b ∨ w.heap.size ≤ b) v' (chgR sb ⟨at_, 10, acc, sub, num, name, val⟩)) ∧ Below w.heap.size w w' := by
  have HS0 := Lib.hid hsr
  have hnn := hsr.1.n.len
  have hpp := hsr.1.p.len
  clear hsr
  go_enter Try.func106, Try.ntmps106
  go_upto_region 1 with (fail)
  obtain ⟨W, hW, hbW, hzW, f1, f2, f3, ff1, ff3⟩ := box3 w #[.int .i64 v.id, .int .i64 v.acc, .int .i64 v.since, .string v.plan, .slice v.An v.nn v.cn, .slice v.Ap v.np v.cp, .bool v.susp, .bool v.fam] #[.int .i64 at_, .int .i64 10, .int .i64 acc, .int .i64 sub, .string num, .string name, .int .i64 val] #[.int .i64 0, .int .i64 0, .int .i64 0, .string ⟨#[]⟩, .slice none 0 0, .slice none 0 0, .bool false, .bool false] 51 36 51
  rw [← hW]
  have va0 := f1 0 _ rfl
  have va1 := f1 1 _ rfl
  have va2 := f1 2 _ rfl
  have va3 := f1 3 _ rfl
  have va4 := f1 4 _ rfl
  have va5 := f1 5 _ rfl
  have va6 := f1 6 _ rfl
  have va7 := f1 7 _ rfl
  have qb0 := f2 0 _ rfl
  have qb1 := f2 1 _ rfl
  have qb2 := f2 2 _ rfl
  have qb3 := f2 3 _ rfl
  have qb4 := f2 4 _ rfl
  have qb5 := f2 5 _ rfl
  have qb6 := f2 6 _ rfl
  have rc0 := f3 0 _ rfl
  have rc1 := f3 1 _ rfl
  have rc2 := f3 2 _ rfl
  have rc3 := f3 3 _ rfl
  have rc4 := f3 4 _ rfl
  have rc5 := f3 5 _ rfl
  have rc6 := f3 6 _ rfl
  have rc7 := f3 7 _ rfl
  clear hW f1 f2 f3
  have hgW : w.heap.size + 1 < W.heap.size := by omega
  go_upto_region 23 with (fail)
  obtain ⟨X, hX, hnX, hfarX, hfrX, hblX, hszX⟩ := set1 w.heap.size 6 (u := .bool true) va6
  rw [← hX]
  replace va0 := (hfarX w.heap.size 0 (by omega)).trans va0
  replace rc0 := (hfarX (w.heap.size + 1 + 1) 0 (by omega)).trans rc0
  replace va1 := (hfarX w.heap.size 1 (by omega)).trans va1
  replace rc1 := (hfarX (w.heap.size + 1 + 1) 1 (by omega)).trans rc1
  replace va2 := (hfarX w.heap.size 2 (by omega)).trans va2
  replace rc2 := (hfarX (w.heap.size + 1 + 1) 2 (by omega)).trans rc2
  replace va3 := (hfarX w.heap.size 3 (by omega)).trans va3
  replace rc3 := (hfarX (w.heap.size + 1 + 1) 3 (by omega)).trans rc3
  replace va4 := (hfarX w.heap.size 4 (by omega)).trans va4
  replace rc4 := (hfarX (w.heap.size + 1 + 1) 4 (by omega)).trans rc4
  replace va5 := (hfarX w.heap.size 5 (by omega)).trans va5
  replace rc5 := (hfarX (w.heap.size + 1 + 1) 5 (by omega)).trans rc5
  replace rc6 := (hfarX (w.heap.size + 1 + 1) 6 (by omega)).trans rc6
  replace va7 := (hfarX w.heap.size 7 (by omega)).trans va7
  replace rc7 := (hfarX (w.heap.size + 1 + 1) 7 (by omega)).trans rc7
  replace qb0 := (hfarX (w.heap.size + 1) 0 (by omega)).trans qb0
  replace qb1 := (hfarX (w.heap.size + 1) 1 (by omega)).trans qb1
  replace qb2 := (hfarX (w.heap.size + 1) 2 (by omega)).trans qb2
  replace qb3 := (hfarX (w.heap.size + 1) 3 (by omega)).trans qb3
  replace qb4 := (hfarX (w.heap.size + 1) 4 (by omega)).trans qb4
  replace qb5 := (hfarX (w.heap.size + 1) 5 (by omega)).trans qb5
  replace qb6 := (hfarX (w.heap.size + 1) 6 (by omega)).trans qb6
  replace va6 := hnX
  replace ff1 : ∀ j, X.frozen? ⟨w.heap.size, j, none⟩ = false := fun j => (hfrX _ _).trans (ff1 j)
  replace ff3 : ∀ j, X.frozen? ⟨w.heap.size + 1 + 1, j, none⟩ = false := fun j => (hfrX _ _).trans (ff3 j)
  have hgX : w.heap.size + 1 + 1 < X.heap.size := by omega
  have hbX : Below w.heap.size w X := by rw [hX]; exact hbW.setCell (Nat.le_refl _) _
  clear hX hnX hfarX hfrX hblX hbW
  go_wp2_with fail
  have hold := eight rc0 rc1 rc2 rc3 rc4 rc5 rc6 rc7
  have hr := setRun_is (vs := [.int .i64 v.id, .int .i64 v.acc, .int .i64 v.since, .string v.plan, .slice v.An v.nn v.cn, .slice v.Ap v.np v.cp, .bool true, .bool v.fam]) hold (Nat.le_refl _)
  refine bodyPost_ret (results_cells rfl _ _ (w.heap.size + 1 + 1) ⟨[.int .i64 v.id, .int .i64 v.acc, .int .i64 v.since, .string v.plan, .slice v.An v.nn v.cn, .slice v.Ap v.np v.cp, .bool true, .bool v.fam]⟩ _ rfl hr rfl rfl rfl) rfl ?_
  have hbE : Below w.heap.size w (setRun X (w.heap.size + 1 + 1) 0 [.int .i64 v.id, .int .i64 v.acc, .int .i64 v.since, .string v.plan, .slice v.An v.nn v.cn, .slice v.Ap v.np v.cp, .bool true, .bool v.fam]) := setRun_below _ _ _ hbX (by omega)
  have hs := HS0.out.1.on hbE
  exact ⟨⟨{ v with susp := true }, rfl, ⟨⟨hs.id, hs.acc, hs.since, hs.plan, hs.n0, hs.n, hs.p0, hs.p, rfl, hs.fam⟩, HS0.out.2.1.mono fun b h => .inl h, HS0.out.2.2.mono fun b h => .inl h⟩⟩, hbE⟩
set_option maxHeartbeats 16000000 in
theorem rchanged_11 (v : Sv) (sb : Sb) (at_ acc sub val : Int) (num name : ByteArray) (p : Nat → Prop) (w : World) (hsr : SRP w p v sb) (hln : sb.nums.length ≤ 900000) (hlp : sb.prods.length ≤ 900000) :
    Calls Try.prog 106 #[.agg #[.int .i64 v.id, .int .i64 v.acc, .int .i64 v.since, .string v.plan, .slice v.An v.nn v.cn, .slice v.Ap v.np v.cp, .bool v.susp, .bool v.fam], .agg #[.int .i64 at_, .int .i64 11, .int .i64 acc, .int .i64 sub, .string num, .string name, .int .i64 val]] w fun r w' => (∃ v' : Sv, r = .returned v'.val ∧ SRP w' (fun b => p b ∨ w.heap.size ≤ b) v' (chgR sb ⟨at_, 11, acc, sub, num, name, val⟩)) ∧ Below w.heap.size w w' := by
  have HS0 := Lib.hid hsr
  have hnn := hsr.1.n.len
  have hpp := hsr.1.p.len
  clear hsr
  go_enter Try.func106, Try.ntmps106
  go_upto_region 1 with (fail)
  obtain ⟨W, hW, hbW, hzW, f1, f2, f3, ff1, ff3⟩ := box3 w #[.int .i64 v.id, .int .i64 v.acc, .int .i64 v.since, .string v.plan, .slice v.An v.nn v.cn, .slice v.Ap v.np v.cp, .bool v.susp, .bool v.fam] #[.int .i64 at_, .int .i64 11, .int .i64 acc, .int .i64 sub, .string num, .string name, .int .i64 val] #[.int .i64 0, .int .i64 0, .int .i64 0, .string ⟨#[]⟩, .slice none 0 0, .slice none 0 0, .bool false, .bool false] 51 36 51
  rw [← hW]
  have va0 := f1 0 _ rfl
  have va1 := f1 1 _ rfl
  have va2 := f1 2 _ rfl
  have va3 := f1 3 _ rfl
  have va4 := f1 4 _ rfl
  have va5 := f1 5 _ rfl
  have va6 := f1 6 _ rfl
  have va7 := f1 7 _ rfl
  have qb0 := f2 0 _ rfl
  have qb1 := f2 1 _ rfl
  have qb2 := f2 2 _ rfl
  have qb3 := f2 3 _ rfl
  have qb4 := f2 4 _ rfl
  have qb5 := f2 5 _ rfl
  have qb6 := f2 6 _ rfl
  have rc0 := f3 0 _ rfl
  have rc1 := f3 1 _ rfl
  have rc2 := f3 2 _ rfl
  have rc3 := f3 3 _ rfl
  have rc4 := f3 4 _ rfl
  have rc5 := f3 5 _ rfl
  have rc6 := f3 6 _ rfl
  have rc7 := f3 7 _ rfl
  clear hW f1 f2 f3
  have hgW : w.heap.size + 1 < W.heap.size := by omega
  go_upto_region 23 with (fail)
  obtain ⟨X, hX, hnX, hfarX, hfrX, hblX, hszX⟩ := set1 w.heap.size 6 (u := .bool false) va6
  rw [← hX]
  replace va0 := (hfarX w.heap.size 0 (by omega)).trans va0
  replace rc0 := (hfarX (w.heap.size + 1 + 1) 0 (by omega)).trans rc0
  replace va1 := (hfarX w.heap.size 1 (by omega)).trans va1
  replace rc1 := (hfarX (w.heap.size + 1 + 1) 1 (by omega)).trans rc1
  replace va2 := (hfarX w.heap.size 2 (by omega)).trans va2
  replace rc2 := (hfarX (w.heap.size + 1 + 1) 2 (by omega)).trans rc2
  replace va3 := (hfarX w.heap.size 3 (by omega)).trans va3
  replace rc3 := (hfarX (w.heap.size + 1 + 1) 3 (by omega)).trans rc3
  replace va4 := (hfarX w.heap.size 4 (by omega)).trans va4
  replace rc4 := (hfarX (w.heap.size + 1 + 1) 4 (by omega)).trans rc4
  replace va5 := (hfarX w.heap.size 5 (by omega)).trans va5
  replace rc5 := (hfarX (w.heap.size + 1 + 1) 5 (by omega)).trans rc5
  replace rc6 := (hfarX (w.heap.size + 1 + 1) 6 (by omega)).trans rc6
  replace va7 := (hfarX w.heap.size 7 (by omega)).trans va7
  replace rc7 := (hfarX (w.heap.size + 1 + 1) 7 (by omega)).trans rc7
  replace qb0 := (hfarX (w.heap.size + 1) 0 (by omega)).trans qb0
  replace qb1 := (hfarX (w.heap.size + 1) 1 (by omega)).trans qb1
  replace qb2 := (hfarX (w.heap.size + 1) 2 (by omega)).trans qb2
  replace qb3 := (hfarX (w.heap.size + 1) 3 (by omega)).trans qb3
  replace qb4 := (hfarX (w.heap.size + 1) 4 (by omega)).trans qb4
  replace qb5 := (hfarX (w.heap.size + 1) 5 (by omega)).trans qb5
  replace qb6 := (hfarX (w.heap.size + 1) 6 (by omega)).trans qb6
  replace va6 := hnX
  replace ff1 : ∀ j, X.frozen? ⟨w.heap.size, j, none⟩ = false := fun j => (hfrX _ _).trans (ff1 j)
  replace ff3 : ∀ j, X.frozen? ⟨w.heap.size + 1 + 1, j, none⟩ = false := fun j => (hfrX _ _).trans (ff3 j)
  have hgX : w.heap.size + 1 + 1 < X.heap.size := by omega
  have hbX : Below w.heap.size w X := by rw [hX]; exact hbW.setCell (Nat.le_refl _) _
  clear hX hnX hfarX hfrX hblX hbW
  go_wp2_with fail
  have hold := eight rc0 rc1 rc2 rc3 rc4 rc5 rc6 rc7
  have hr := setRun_is (vs := [.int .i64 v.id, .int .i64 v.acc, .int .i64 v.since, .string v.plan, .slice v.An v.nn v.cn, .slice v.Ap v.np v.cp, .bool false, .bool v.fam]) hold (Nat.le_refl _)
  refine bodyPost_ret (results_cells rfl _ _ (w.heap.size + 1 + 1) ⟨[.int .i64 v.id, .int .i64 v.acc, .int .i64 v.since, .string v.plan, .slice v.An v.nn v.cn, .slice v.Ap v.np v.cp, .bool false, .bool v.fam]⟩ _ rfl hr rfl rfl rfl) rfl ?_
  have hbE : Below w.heap.size w (setRun X (w.heap.size + 1 + 1) 0 [.int .i64 v.id, .int .i64 v.acc, .int .i64 v.since, .string v.plan, .slice v.An v.nn v.cn, .slice v.Ap v.np v.cp, .bool false, .bool v.fam]) := setRun_below _ _ _ hbX (by omega)
  have hs := HS0.out.1.on hbE
  exact ⟨⟨{ v with susp := false }, rfl, ⟨⟨hs.id, hs.acc, hs.since, hs.plan, hs.n0, hs.n, hs.p0, hs.p, rfl, hs.fam⟩, HS0.out.2.1.mono fun b h => .inl h, HS0.out.2.2.mono fun b h => .inl h⟩⟩, hbE⟩
set_option maxHeartbeats 16000000 in
theorem rchanged_12 (v : Sv) (sb : Sb) (at_ acc sub val : Int) (num name : ByteArray) (p : Nat → Prop) (w : World) (hsr : SRP w p v sb) (hln : sb.nums.length ≤ 900000) (hlp : sb.prods.length ≤ 900000) :
    Calls Try.prog 106 #[.agg #[.int .i64 v.id, .int .i64 v.acc, .int .i64 v.since, .string v.plan, .slice v.An v.nn v.cn, .slice v.Ap v.np v.cp, .bool v.susp, .bool v.fam], .agg #[.int .i64 at_, .int .i64 12, .int .i64 acc, .int .i64 sub, .string num, .string name, .int .i64 val]] w fun r w' => (∃ v' : Sv, r = .returned v'.val ∧ SRP w' (fun b => p b ∨ w.heap.size ≤ b) v' (chgR sb ⟨at_, 12, acc, sub, num, name, val⟩)) ∧ Below w.heap.size w w' := by
  have HS0 := Lib.hid hsr
  have hnn := hsr.1.n.len
  have hpp := hsr.1.p.len
  clear hsr
  go_enter Try.func106, Try.ntmps106
  go_upto_region 1 with (fail)
  obtain ⟨W, hW, hbW, hzW, f1, f2, f3, ff1, ff3⟩ := box3 w #[.int .i64 v.id, .int .i64 v.acc, .int .i64 v.since, .string v.plan, .slice v.An v.nn v.cn, .slice v.Ap v.np v.cp, .bool v.susp, .bool v.fam] #[.int .i64 at_, .int .i64 12, .int .i64 acc, .int .i64 sub, .string num, .string name, .int .i64 val] #[.int .i64 0, .int .i64 0, .int .i64 0, .string ⟨#[]⟩, .slice none 0 0, .slice none 0 0, .bool false, .bool false] 51 36 51
  rw [← hW]
  have va0 := f1 0 _ rfl
  have va1 := f1 1 _ rfl
  have va2 := f1 2 _ rfl
  have va3 := f1 3 _ rfl
  have va4 := f1 4 _ rfl
  have va5 := f1 5 _ rfl
  have va6 := f1 6 _ rfl
  have va7 := f1 7 _ rfl
  have qb0 := f2 0 _ rfl
  have qb1 := f2 1 _ rfl
  have qb2 := f2 2 _ rfl
  have qb3 := f2 3 _ rfl
  have qb4 := f2 4 _ rfl
  have qb5 := f2 5 _ rfl
  have qb6 := f2 6 _ rfl
  have rc0 := f3 0 _ rfl
  have rc1 := f3 1 _ rfl
  have rc2 := f3 2 _ rfl
  have rc3 := f3 3 _ rfl
  have rc4 := f3 4 _ rfl
  have rc5 := f3 5 _ rfl
  have rc6 := f3 6 _ rfl
  have rc7 := f3 7 _ rfl
  clear hW f1 f2 f3
  have hgW : w.heap.size + 1 < W.heap.size := by omega
  go_upto_region 23 with (fail)
  obtain ⟨X, hX, hnX, hfarX, hfrX, hblX, hszX⟩ := set1 w.heap.size 7 (u := .bool true) va7
  rw [← hX]
  replace va0 := (hfarX w.heap.size 0 (by omega)).trans va0
  replace rc0 := (hfarX (w.heap.size + 1 + 1) 0 (by omega)).trans rc0
  replace va1 := (hfarX w.heap.size 1 (by omega)).trans va1
  replace rc1 := (hfarX (w.heap.size + 1 + 1) 1 (by omega)).trans rc1
  replace va2 := (hfarX w.heap.size 2 (by omega)).trans va2
  replace rc2 := (hfarX (w.heap.size + 1 + 1) 2 (by omega)).trans rc2
  replace va3 := (hfarX w.heap.size 3 (by omega)).trans va3
  replace rc3 := (hfarX (w.heap.size + 1 + 1) 3 (by omega)).trans rc3
  replace va4 := (hfarX w.heap.size 4 (by omega)).trans va4
  replace rc4 := (hfarX (w.heap.size + 1 + 1) 4 (by omega)).trans rc4
  replace va5 := (hfarX w.heap.size 5 (by omega)).trans va5
  replace rc5 := (hfarX (w.heap.size + 1 + 1) 5 (by omega)).trans rc5
  replace va6 := (hfarX w.heap.size 6 (by omega)).trans va6
  replace rc6 := (hfarX (w.heap.size + 1 + 1) 6 (by omega)).trans rc6
  replace rc7 := (hfarX (w.heap.size + 1 + 1) 7 (by omega)).trans rc7
  replace qb0 := (hfarX (w.heap.size + 1) 0 (by omega)).trans qb0
  replace qb1 := (hfarX (w.heap.size + 1) 1 (by omega)).trans qb1
  replace qb2 := (hfarX (w.heap.size + 1) 2 (by omega)).trans qb2
  replace qb3 := (hfarX (w.heap.size + 1) 3 (by omega)).trans qb3
  replace qb4 := (hfarX (w.heap.size + 1) 4 (by omega)).trans qb4
  replace qb5 := (hfarX (w.heap.size + 1) 5 (by omega)).trans qb5
  replace qb6 := (hfarX (w.heap.size + 1) 6 (by omega)).trans qb6
  replace va7 := hnX
  replace ff1 : ∀ j, X.frozen? ⟨w.heap.size, j, none⟩ = false := fun j => (hfrX _ _).trans (ff1 j)
  replace ff3 : ∀ j, X.frozen? ⟨w.heap.size + 1 + 1, j, none⟩ = false := fun j => (hfrX _ _).trans (ff3 j)
  have hgX : w.heap.size + 1 + 1 < X.heap.size := by omega
  have hbX : Below w.heap.size w X := by rw [hX]; exact hbW.setCell (Nat.le_refl _) _
  clear hX hnX hfarX hfrX hblX hbW
  go_wp2_with fail
  have hold := eight rc0 rc1 rc2 rc3 rc4 rc5 rc6 rc7
  have hr := setRun_is (vs := [.int .i64 v.id, .int .i64 v.acc, .int .i64 v.since, .string v.plan, .slice v.An v.nn v.cn, .slice v.Ap v.np v.cp, .bool v.susp, .bool true]) hold (Nat.le_refl _)
  refine bodyPost_ret (results_cells rfl _ _ (w.heap.size + 1 + 1) ⟨[.int .i64 v.id, .int .i64 v.acc, .int .i64 v.since, .string v.plan, .slice v.An v.nn v.cn, .slice v.Ap v.np v.cp, .bool v.susp, .bool true]⟩ _ rfl hr rfl rfl rfl) rfl ?_
  have hbE : Below w.heap.size w (setRun X (w.heap.size + 1 + 1) 0 [.int .i64 v.id, .int .i64 v.acc, .int .i64 v.since, .string v.plan, .slice v.An v.nn v.cn, .slice v.Ap v.np v.cp, .bool v.susp, .bool true]) := setRun_below _ _ _ hbX (by omega)
  have hs := HS0.out.1.on hbE
  exact ⟨⟨{ v with fam := true }, rfl, ⟨⟨hs.id, hs.acc, hs.since, hs.plan, hs.n0, hs.n, hs.p0, hs.p, hs.susp, rfl⟩, HS0.out.2.1.mono fun b h => .inl h, HS0.out.2.2.mono fun b h => .inl h⟩⟩, hbE⟩
set_option maxHeartbeats 16000000 in
theorem rchanged_13 (v : Sv) (sb : Sb) (at_ acc sub val : Int) (num name : ByteArray) (p : Nat → Prop) (w : World) (hsr : SRP w p v sb) (hln : sb.nums.length ≤ 900000) (hlp : sb.prods.length ≤ 900000) :
    Calls Try.prog 106 #[.agg #[.int .i64 v.id, .int .i64 v.acc, .int .i64 v.since, .string v.plan, .slice v.An v.nn v.cn, .slice v.Ap v.np v.cp, .bool v.susp, .bool v.fam], .agg #[.int .i64 at_, .int .i64 13, .int .i64 acc, .int .i64 sub, .string num, .string name, .int .i64 val]] w fun r w' => (∃ v' : Sv, r = .returned v'.val ∧ SRP w' (fun b => p b ∨ w.heap.size ≤ b) v' (chgR sb ⟨at_, 13, acc, sub, num, name, val⟩)) ∧ Below w.heap.size w w' := by
  have HS0 := Lib.hid hsr
  have hnn := hsr.1.n.len
  have hpp := hsr.1.p.len
  clear hsr
  go_enter Try.func106, Try.ntmps106
  go_upto_region 1 with (fail)
  obtain ⟨W, hW, hbW, hzW, f1, f2, f3, ff1, ff3⟩ := box3 w #[.int .i64 v.id, .int .i64 v.acc, .int .i64 v.since, .string v.plan, .slice v.An v.nn v.cn, .slice v.Ap v.np v.cp, .bool v.susp, .bool v.fam] #[.int .i64 at_, .int .i64 13, .int .i64 acc, .int .i64 sub, .string num, .string name, .int .i64 val] #[.int .i64 0, .int .i64 0, .int .i64 0, .string ⟨#[]⟩, .slice none 0 0, .slice none 0 0, .bool false, .bool false] 51 36 51
  rw [← hW]
  have va0 := f1 0 _ rfl
  have va1 := f1 1 _ rfl
  have va2 := f1 2 _ rfl
  have va3 := f1 3 _ rfl
  have va4 := f1 4 _ rfl
  have va5 := f1 5 _ rfl
  have va6 := f1 6 _ rfl
  have va7 := f1 7 _ rfl
  have qb0 := f2 0 _ rfl
  have qb1 := f2 1 _ rfl
  have qb2 := f2 2 _ rfl
  have qb3 := f2 3 _ rfl
  have qb4 := f2 4 _ rfl
  have qb5 := f2 5 _ rfl
  have qb6 := f2 6 _ rfl
  have rc0 := f3 0 _ rfl
  have rc1 := f3 1 _ rfl
  have rc2 := f3 2 _ rfl
  have rc3 := f3 3 _ rfl
  have rc4 := f3 4 _ rfl
  have rc5 := f3 5 _ rfl
  have rc6 := f3 6 _ rfl
  have rc7 := f3 7 _ rfl
  clear hW f1 f2 f3
  have hgW : w.heap.size + 1 < W.heap.size := by omega
  go_upto_region 23 with (fail)
  obtain ⟨X, hX, hnX, hfarX, hfrX, hblX, hszX⟩ := set1 w.heap.size 7 (u := .bool false) va7
  rw [← hX]
  replace va0 := (hfarX w.heap.size 0 (by omega)).trans va0
  replace rc0 := (hfarX (w.heap.size + 1 + 1) 0 (by omega)).trans rc0
  replace va1 := (hfarX w.heap.size 1 (by omega)).trans va1
  replace rc1 := (hfarX (w.heap.size + 1 + 1) 1 (by omega)).trans rc1
  replace va2 := (hfarX w.heap.size 2 (by omega)).trans va2
  replace rc2 := (hfarX (w.heap.size + 1 + 1) 2 (by omega)).trans rc2
  replace va3 := (hfarX w.heap.size 3 (by omega)).trans va3
  replace rc3 := (hfarX (w.heap.size + 1 + 1) 3 (by omega)).trans rc3
  replace va4 := (hfarX w.heap.size 4 (by omega)).trans va4
  replace rc4 := (hfarX (w.heap.size + 1 + 1) 4 (by omega)).trans rc4
  replace va5 := (hfarX w.heap.size 5 (by omega)).trans va5
  replace rc5 := (hfarX (w.heap.size + 1 + 1) 5 (by omega)).trans rc5
  replace va6 := (hfarX w.heap.size 6 (by omega)).trans va6
  replace rc6 := (hfarX (w.heap.size + 1 + 1) 6 (by omega)).trans rc6
  replace rc7 := (hfarX (w.heap.size + 1 + 1) 7 (by omega)).trans rc7
  replace qb0 := (hfarX (w.heap.size + 1) 0 (by omega)).trans qb0
  replace qb1 := (hfarX (w.heap.size + 1) 1 (by omega)).trans qb1
  replace qb2 := (hfarX (w.heap.size + 1) 2 (by omega)).trans qb2
  replace qb3 := (hfarX (w.heap.size + 1) 3 (by omega)).trans qb3
  replace qb4 := (hfarX (w.heap.size + 1) 4 (by omega)).trans qb4
  replace qb5 := (hfarX (w.heap.size + 1) 5 (by omega)).trans qb5
  replace qb6 := (hfarX (w.heap.size + 1) 6 (by omega)).trans qb6
  replace va7 := hnX
  replace ff1 : ∀ j, X.frozen? ⟨w.heap.size, j, none⟩ = false := fun j => (hfrX _ _).trans (ff1 j)
  replace ff3 : ∀ j, X.frozen? ⟨w.heap.size + 1 + 1, j, none⟩ = false := fun j => (hfrX _ _).trans (ff3 j)
  have hgX : w.heap.size + 1 + 1 < X.heap.size := by omega
  have hbX : Below w.heap.size w X := by rw [hX]; exact hbW.setCell (Nat.le_refl _) _
  clear hX hnX hfarX hfrX hblX hbW
  go_wp2_with fail
  have hold := eight rc0 rc1 rc2 rc3 rc4 rc5 rc6 rc7
  have hr := setRun_is (vs := [.int .i64 v.id, .int .i64 v.acc, .int .i64 v.since, .string v.plan, .slice v.An v.nn v.cn, .slice v.Ap v.np v.cp, .bool v.susp, .bool false]) hold (Nat.le_refl _)
  refine bodyPost_ret (results_cells rfl _ _ (w.heap.size + 1 + 1) ⟨[.int .i64 v.id, .int .i64 v.acc, .int .i64 v.since, .string v.plan, .slice v.An v.nn v.cn, .slice v.Ap v.np v.cp, .bool v.susp, .bool false]⟩ _ rfl hr rfl rfl rfl) rfl ?_
  have hbE : Below w.heap.size w (setRun X (w.heap.size + 1 + 1) 0 [.int .i64 v.id, .int .i64 v.acc, .int .i64 v.since, .string v.plan, .slice v.An v.nn v.cn, .slice v.Ap v.np v.cp, .bool v.susp, .bool false]) := setRun_below _ _ _ hbX (by omega)
  have hs := HS0.out.1.on hbE
  exact ⟨⟨{ v with fam := false }, rfl, ⟨⟨hs.id, hs.acc, hs.since, hs.plan, hs.n0, hs.n, hs.p0, hs.p, hs.susp, rfl⟩, HS0.out.2.1.mono fun b h => .inl h, HS0.out.2.2.mono fun b h => .inl h⟩⟩, hbE⟩
theorem rchanged_any (v : Sv) (sb : Sb) (at_ K acc sub val : Int) (num name : ByteArray) (p : Nat → Prop) (w : World) (hsr : SRP w p v sb) (hln : sb.nums.length ≤ 900000) (hlp : sb.prods.length ≤ 900000) (h4 : 4 ≤ K) (h13 : K ≤ 13) :
    Calls Try.prog 106 #[.agg #[.int .i64 v.id, .int .i64 v.acc, .int .i64 v.since, .string v.plan, .slice v.An v.nn v.cn, .slice v.Ap v.np v.cp, .bool v.susp, .bool v.fam], .agg #[.int .i64 at_, .int .i64 K, .int .i64 acc, .int .i64 sub, .string num, .string name, .int .i64 val]] w fun r w' => (∃ v' : Sv, r = .returned v'.val ∧ SRP w' (fun b => p b ∨ w.heap.size ≤ b) v' (chgR sb ⟨at_, K, acc, sub, num, name, val⟩)) ∧ Below w.heap.size w w' := by
  have hK : K = 4 ∨ K = 5 ∨ K = 6 ∨ K = 7 ∨ K = 8 ∨ K = 9 ∨ K = 10 ∨ K = 11 ∨ K = 12 ∨ K = 13 := by omega
  rcases hK with rfl | rfl | rfl | rfl | rfl | rfl | rfl | rfl | rfl | rfl
  · exact rchanged_4 v sb at_ acc sub val num name p w hsr hln hlp
  · exact rchanged_5 v sb at_ acc sub val num name p w hsr hln hlp
  · exact rchanged_6 v sb at_ acc sub val num name p w hsr hln hlp
  · exact rchanged_7 v sb at_ acc sub val num name p w hsr hln hlp
  · exact rchanged_8 v sb at_ acc sub val num name p w hsr hln hlp
  · exact rchanged_9 v sb at_ acc sub val num name p w hsr hln hlp
  · exact rchanged_10 v sb at_ acc sub val num name p w hsr hln hlp
  · exact rchanged_11 v sb at_ acc sub val num name p w hsr hln hlp
  · exact rchanged_12 v sb at_ acc sub val num name p w hsr hln hlp
  · exact rchanged_13 v sb at_ acc sub val num name p w hsr hln hlp
end Cu
end Go.Proofs.Yteaanngagcflhaa
