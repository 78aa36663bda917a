/-
  Subscriptions: equal, and what joins moments. No condition.
-/
import Derived.Test.YteaanngagcflhaaKc22
import Derived.Test.YteaanngagcflhaaKc14
import Derived.BigQuiet
import Derived.StillTailTactics
import Derived.Lib.Overlaps
import Derived.Deep.DeepCutAuto
import Derived.Deep.RegionWith
import Derived.Laws.RangeAny
set_option maxRecDepth 100000
set_option linter.unusedVariables false
set_option linter.unusedSimpArgs false
namespace Go.Proofs.Yteaanngagcflhaa
open Go.RowKit
namespace Ss
open Cu
theorem eqv_f {x y : Sb} (h : ¬ (x.id = y.id ∧ x.plan = y.plan ∧ x.susp = y.susp ∧ x.fam = y.fam ∧ x.prods = y.prods)) : eqvB x y = false := by
  unfold eqvB
  rw [decide_eq_false_iff_not]
  rintro ⟨h1, h2⟩
  exact h ⟨h1, congrArg Q.plan h2, congrArg Q.susp h2, congrArg Q.fam h2, congrArg Q.prods h2⟩
theorem eqv_t {x y : Sb} (h : x.id = y.id ∧ x.plan = y.plan ∧ x.susp = y.susp ∧ x.fam = y.fam ∧ x.prods = y.prods) : eqvB x y = true :=
  eqvB_iff.2 ⟨h.1, Q.ext_ h.2.1 h.2.2.2.2 h.2.2.1 h.2.2.2.1⟩
set_option maxHeartbeats 16000000 in
theorem equal_any (u v : Sv) (x y : Sb) (w : World) (h : SR w u x) (h2 : SR w v y) :
    Calls Try.prog 86 #[.agg #[.int .i64 u.id, .int .i64 u.acc, .int .i64 u.since, .string u.plan, .slice u.An u.nn u.cn, .slice u.Ap u.np u.cp, .bool u.susp, .bool u.fam], .agg #[.int .i64 v.id, .int .i64 v.acc, .int .i64 v.since, .string v.plan, .slice v.An v.nn v.cn, .slice v.Ap v.np v.cp, .bool v.susp, .bool v.fam]] w fun r w' => r = .returned (.bool (eqvB x y)) ∧ Below w.heap.size w w' := by
  obtain ⟨ui, ua, us, up, An, nn, cn, Ap, np, cp, uu, uf⟩ := u
  obtain ⟨vi, va, vs, vp, Bn, mn, dn, Bp, mp, dp, vu, vf⟩ := v
  have HT := Lib.hid (eqv_t (x := x) (y := y))
  have HN := Lib.hid (eqv_f (x := x) (y := y))
  rw [← h.id, ← h.plan, ← h.susp, ← h.fam, ← h2.id, ← h2.plan, ← h2.susp, ← h2.fam] at HT HN
  dsimp only at HT HN ⊢
  have H3 : Hid (Sl w Ap np cp x.prods) := Lib.hid h.p
  have H4 : Hid (Sl w Bp mp dp y.prods) := Lib.hid h2.p
  clear h h2
  obtain ⟨E, hE⟩ : ∃ E, eqvB x y = E := ⟨_, rfl⟩
  rw [hE] at HT HN ⊢
  obtain ⟨xd, hxd⟩ : ∃ l, x.prods = l := ⟨_, rfl⟩
  obtain ⟨yd, hyd⟩ : ∃ l, y.prods = l := ⟨_, rfl⟩
  rw [hxd] at HT HN H3
  rw [hyd] at HT HN H4
  clear hE hxd hyd
  have hnp := H3.out.nmax
  have HL3 := Lib.hid H3.out.len
  have HL4 := Lib.hid H4.out.len
  go_enter Try.func86, Try.ntmps86
  go_upto_region 1 with (fail)
  (obtain ⟨W, hWW, hbW, hzW, f1W, f2W, qfa, qfb⟩ := box2 w #[.int .i64 ui, .int .i64 ua, .int .i64 us, .string up, .slice An nn cn, .slice Ap np cp, .bool uu, .bool uf] 51 #[.int .i64 vi, .int .i64 va, .int .i64 vs, .string vp, .slice Bn mn dn, .slice Bp mp dp, .bool vu, .bool vf] 51; rw [← hWW]; have qa0 : W.cell? ⟨w.heap.size, 0, none⟩ = some (.int .i64 ui) := f1W 0 _ rfl; have qa1 : W.cell? ⟨w.heap.size, 1, none⟩ = some (.int .i64 ua) := f1W 1 _ rfl; have qa2 : W.cell? ⟨w.heap.size, 2, none⟩ = some (.int .i64 us) := f1W 2 _ rfl; have qa3 : W.cell? ⟨w.heap.size, 3, none⟩ = some (.string up) := f1W 3 _ rfl; have qa4 : W.cell? ⟨w.heap.size, 4, none⟩ = some (.slice An nn cn) := f1W 4 _ rfl; have qa5 : W.cell? ⟨w.heap.size, 5, none⟩ = some (.slice Ap np cp) := f1W 5 _ rfl; have qa6 : W.cell? ⟨w.heap.size, 6, none⟩ = some (.bool uu) := f1W 6 _ rfl; have qa7 : W.cell? ⟨w.heap.size, 7, none⟩ = some (.bool uf) := f1W 7 _ rfl; have qb0 : W.cell? ⟨w.heap.size + 1, 0, none⟩ = some (.int .i64 vi) := f2W 0 _ rfl; have qb1 : W.cell? ⟨w.heap.size + 1, 1, none⟩ = some (.int .i64 va) := f2W 1 _ rfl; have qb2 : W.cell? ⟨w.heap.size + 1, 2, none⟩ = some (.int .i64 vs) := f2W 2 _ rfl; have qb3 : W.cell? ⟨w.heap.size + 1, 3, none⟩ = some (.string vp) := f2W 3 _ rfl; have qb4 : W.cell? ⟨w.heap.size + 1, 4, none⟩ = some (.slice Bn mn dn) := f2W 4 _ rfl; have qb5 : W.cell? ⟨w.heap.size + 1, 5, none⟩ = some (.slice Bp mp dp) := f2W 5 _ rfl; have qb6 : W.cell? ⟨w.heap.size + 1, 6, none⟩ = some (.bool vu) := f2W 6 _ rfl; have qb7 : W.cell? ⟨w.heap.size + 1, 7, none⟩ = some (.bool vf) := f2W 7 _ rfl; clear hWW f1W f2W)
  by_cases q0 : ui = vi
  case neg =>
    obtain ⟨b0, d0⟩ := be_f q0
    have HQ := Lib.hid (HN.out (fun e => q0 e.1))
    clear q0 HT HN
    go_wp2_with fail
    go_ret
    exact ⟨ret_bool HQ.out.symm, hbW⟩
  obtain ⟨b0, d0⟩ := be_t q0
  have Q0 := Lib.hid q0
  clear q0
  by_cases q1 : up = vp
  case neg =>
    obtain ⟨b1, d1⟩ := bs_f q1
    have HQ := Lib.hid (HN.out (fun e => q1 e.2.1))
    clear q1 HT HN
    go_wp2_with fail
    go_ret
    exact ⟨ret_bool HQ.out.symm, hbW⟩
  obtain ⟨b1, d1⟩ := bs_t q1
  have Q1 := Lib.hid q1
  clear q1
  by_cases q2 : uu = vu
  case neg =>
    obtain ⟨b2, d2⟩ := be_f q2
    have HQ := Lib.hid (HN.out (fun e => q2 e.2.2.1))
    clear q2 HT HN
    go_wp2_with fail
    go_ret
    exact ⟨ret_bool HQ.out.symm, hbW⟩
  obtain ⟨b2, d2⟩ := be_t q2
  have Q2 := Lib.hid q2
  clear q2
  by_cases q3 : uf = vf
  case neg =>
    obtain ⟨b3, d3⟩ := be_f q3
    have HQ := Lib.hid (HN.out (fun e => q3 e.2.2.2.1))
    clear q3 HT HN
    go_wp2_with fail
    go_ret
    exact ⟨ret_bool HQ.out.symm, hbW⟩
  obtain ⟨b3, d3⟩ := be_t q3
  have Q3 := Lib.hid q3
  clear q3
  by_cases q4 : np = mp
  case neg =>
    obtain ⟨b4, d4⟩ := be_f (show ¬ (np : Int) = (mp : Int) by omega)
    have HQ := Lib.hid (HN.out (fun e => q4 (by rw [← HL3.out, ← HL4.out, e.2.2.2.2])))
    clear q4 HT HN
    go_wp2_with fail
    go_ret
    exact ⟨ret_bool HQ.out.symm, hbW⟩
  subst q4
  have b4 := (be_t (rfl : (np : Int) = np)).1
  have d4 := (be_t (rfl : (np : Int) = np)).2
  go_wp2_with fail
  go_loopw [45] (fun i wr => ∃ k : Nat, k ≤ np ∧ i = .int .i64 k ∧ xd.take k = yd.take k ∧ Below W.heap.size W wr) (fun i _ => np - (intOf i).toNat)
  case atStart => exact ⟨0, Nat.zero_le _, rfl, rfl, Below.refl _ _⟩
  case round =>
    obtain ⟨k, hk, rfl, ht, hb⟩ := hrel
    have HTK := Lib.hid ht
    have hgb := hb.size
    replace qb5 := cl hb qb5
    have hbw := hbW.trans (hb.mono hbW.size)
    clear ht
    by_cases hlt : k < np
    · obtain ⟨b, off, hAe, hbl, hcells⟩ := H3.out.baseIn hbw (by omega)
      obtain ⟨b2, off2, hAe2, hbl2, hcells2⟩ := H4.out.baseIn hbw (by omega)
      obtain ⟨x1, hx⟩ := H3.out.get hlt
      obtain ⟨y1, hy⟩ := H4.out.get hlt
      have e0 : wr.cell? ⟨b, off + k * 1, none⟩ = some (.string x1) := Sl.at_ hcells hx 0 rfl
      have f0 : wr.cell? ⟨b2, off2 + k * 1, none⟩ = some (.string y1) := Sl.at_ hcells2 hy 0 rfl
      rw [Nat.mul_one] at e0 f0
      have HNE := Lib.hid (take_ne hx hy)
      have HEQ := Lib.hid (fun h => take_eq hx hy h HTK.out)
      have hkw : IntKind.i64.wrap ((k : Int) + 1) = (k : Int) + 1 := IntWalk.i64_in _ (by omega)
      subst hAe hAe2
      clear hcells hcells2 hx hy
      by_cases q5 : x1 = y1
      · obtain ⟨b5, d5⟩ := bs_t q5
        have HE := Lib.hid (HEQ.out q5)
        clear q5 HEQ HNE
        go_wp2_with fail
        go_roundw
        case rel => exact ⟨k + 1, by omega, by go_num, HE.out, hb⟩
        case measure => simp [intOf]; omega
      · obtain ⟨b5, d5⟩ := bs_f q5
        have HQ := Lib.hid (HN.out (fun e => HNE.out q5 e.2.2.2.2))
        clear q5 HEQ HNE
        go_wp2_with fail
        go_ret
        exact ⟨ret_bool HQ.out.symm, hbw⟩
    · obtain rfl : np = k := by omega
      have hkn : ¬ ((np : Int) < (np : Int)) := by omega
      have HQ := Lib.hid (HT.out ⟨Q0.out, Q1.out, Q2.out, Q3.out, take_all HL3.out HL4.out HTK.out⟩)
      go_wp2_with fail
      go_ret
      exact ⟨ret_bool HQ.out.symm, hbw⟩
set_option maxHeartbeats 8000000 in
theorem spells1_any (u v : Mv) (x y : Mo) (w : World) (h : MR w u x) (h2 : MR w v y) :
    Calls Try.prog 85 #[.agg #[.int .i64 u.at_, .int .i64 u.v.id, .int .i64 u.v.acc, .int .i64 u.v.since, .string u.v.plan, .slice u.v.An u.v.nn u.v.cn, .slice u.v.Ap u.v.np u.v.cp, .bool u.v.susp, .bool u.v.fam], .agg #[.int .i64 v.at_, .int .i64 v.v.id, .int .i64 v.v.acc, .int .i64 v.v.since, .string v.v.plan, .slice v.v.An v.v.nn v.v.cn, .slice v.v.Ap v.v.np v.v.cp, .bool v.v.susp, .bool v.v.fam]] w fun r w' => r = .returned (.bool (eqvB x.s y.s)) ∧ Below w.heap.size w w' := by
  have H := Lib.hid h.2
  have H2 := Lib.hid h2.2
  clear h h2
  go_enter Try.func85, Try.ntmps85
  go_upto_region 1 with (fail)
  (obtain ⟨W, hWW, hbW, hzW, f1W, f2W, qfa, qfb⟩ := box2 w #[.int .i64 u.at_, .int .i64 u.v.id, .int .i64 u.v.acc, .int .i64 u.v.since, .string u.v.plan, .slice u.v.An u.v.nn u.v.cn, .slice u.v.Ap u.v.np u.v.cp, .bool u.v.susp, .bool u.v.fam] 116 #[.int .i64 v.at_, .int .i64 v.v.id, .int .i64 v.v.acc, .int .i64 v.v.since, .string v.v.plan, .slice v.v.An v.v.nn v.v.cn, .slice v.v.Ap v.v.np v.v.cp, .bool v.v.susp, .bool v.v.fam] 116; rw [← hWW]; have qa0 : W.cell? ⟨w.heap.size, 0, none⟩ = some (.int .i64 u.at_) := f1W 0 _ rfl; have qa1 : W.cell? ⟨w.heap.size, 1, none⟩ = some (.int .i64 u.v.id) := f1W 1 _ rfl; have qa2 : W.cell? ⟨w.heap.size, 2, none⟩ = some (.int .i64 u.v.acc) := f1W 2 _ rfl; have qa3 : W.cell? ⟨w.heap.size, 3, none⟩ = some (.int .i64 u.v.since) := f1W 3 _ rfl; have qa4 : W.cell? ⟨w.heap.size, 4, none⟩ = some (.string u.v.plan) := f1W 4 _ rfl; have qa5 : W.cell? ⟨w.heap.size, 5, none⟩ = some (.slice u.v.An u.v.nn u.v.cn) := f1W 5 _ rfl; have qa6 : W.cell? ⟨w.heap.size, 6, none⟩ = some (.slice u.v.Ap u.v.np u.v.cp) := f1W 6 _ rfl; have qa7 : W.cell? ⟨w.heap.size, 7, none⟩ = some (.bool u.v.susp) := f1W 7 _ rfl; have qa8 : W.cell? ⟨w.heap.size, 8, none⟩ = some (.bool u.v.fam) := f1W 8 _ rfl; have qb0 : W.cell? ⟨w.heap.size + 1, 0, none⟩ = some (.int .i64 v.at_) := f2W 0 _ rfl; have qb1 : W.cell? ⟨w.heap.size + 1, 1, none⟩ = some (.int .i64 v.v.id) := f2W 1 _ rfl; have qb2 : W.cell? ⟨w.heap.size + 1, 2, none⟩ = some (.int .i64 v.v.acc) := f2W 2 _ rfl; have qb3 : W.cell? ⟨w.heap.size + 1, 3, none⟩ = some (.int .i64 v.v.since) := f2W 3 _ rfl; have qb4 : W.cell? ⟨w.heap.size + 1, 4, none⟩ = some (.string v.v.plan) := f2W 4 _ rfl; have qb5 : W.cell? ⟨w.heap.size + 1, 5, none⟩ = some (.slice v.v.An v.v.nn v.v.cn) := f2W 5 _ rfl; have qb6 : W.cell? ⟨w.heap.size + 1, 6, none⟩ = some (.slice v.v.Ap v.v.np v.v.cp) := f2W 6 _ rfl; have qb7 : W.cell? ⟨w.heap.size + 1, 7, none⟩ = some (.bool v.v.susp) := f2W 7 _ rfl; have qb8 : W.cell? ⟨w.heap.size + 1, 8, none⟩ = some (.bool v.v.fam) := f2W 8 _ rfl; clear hWW f1W f2W)
  go_wp2_with (go_at_call 86; go_must (refine (equal_any u.v v.v x.s y.s _ (H.out.on hbW) (H2.out.on hbW)).mono ?_; rintro r w6 ⟨rfl, hb6⟩))
  go_ret
  exact ⟨rfl, hbW.trans (hb6.mono hbW.size)⟩
set_option maxHeartbeats 8000000 in
theorem spells2_any (u v : Mv) (w : World) :
    Calls Try.prog 87 #[.agg #[.int .i64 u.at_, .int .i64 u.v.id, .int .i64 u.v.acc, .int .i64 u.v.since, .string u.v.plan, .slice u.v.An u.v.nn u.v.cn, .slice u.v.Ap u.v.np u.v.cp, .bool u.v.susp, .bool u.v.fam], .agg #[.int .i64 v.at_, .int .i64 v.v.id, .int .i64 v.v.acc, .int .i64 v.v.since, .string v.v.plan, .slice v.v.An v.v.nn v.v.cn, .slice v.v.Ap v.v.np v.v.cp, .bool v.v.susp, .bool v.v.fam]] w fun r w' => r = .returned (.agg #[.int .i64 u.at_, .int .i64 u.v.id, .int .i64 u.v.acc, .int .i64 u.v.since, .string u.v.plan, .slice u.v.An u.v.nn u.v.cn, .slice u.v.Ap u.v.np u.v.cp, .bool u.v.susp, .bool u.v.fam]) ∧ Below w.heap.size w w' := by
  go_enter Try.func87, Try.ntmps87
  go_upto_region 1 with (fail)
  obtain ⟨W, hW, hbW, hzW, f1, f2, f3, ff1, ff3⟩ := box3 w #[.int .i64 u.at_, .int .i64 u.v.id, .int .i64 u.v.acc, .int .i64 u.v.since, .string u.v.plan, .slice u.v.An u.v.nn u.v.cn, .slice u.v.Ap u.v.np u.v.cp, .bool u.v.susp, .bool u.v.fam] #[.int .i64 v.at_, .int .i64 v.v.id, .int .i64 v.v.acc, .int .i64 v.v.since, .string v.v.plan, .slice v.v.An v.v.nn v.v.cn, .slice v.v.Ap v.v.np v.v.cp, .bool v.v.susp, .bool v.v.fam] #[.int .i64 0, .int .i64 0, .int .i64 0, .int .i64 0, .string ⟨#[]⟩, .slice none 0 0, .slice none 0 0, .bool false, .bool false] 116 116 116
  rw [← hW]
  have va0 := f1 0 _ rfl
  have va1 := f1 1 _ rfl
  have va2 := f1 2 _ rfl
  have va3 := f1 3 _ rfl
  have va4 := f1 4 _ rfl
  have va5 := f1 5 _ rfl
  have va6 := f1 6 _ rfl
  have va7 := f1 7 _ rfl
  have va8 := f1 8 _ rfl
  have rc0 := f3 0 _ rfl
  have rc1 := f3 1 _ rfl
  have rc2 := f3 2 _ rfl
  have rc3 := f3 3 _ rfl
  have rc4 := f3 4 _ rfl
  have rc5 := f3 5 _ rfl
  have rc6 := f3 6 _ rfl
  have rc7 := f3 7 _ rfl
  have rc8 := f3 8 _ rfl
  clear hW f1 f2
  have hgX : w.heap.size + 1 + 1 < W.heap.size := by omega
  go_wp2_with fail
  have hold : ∀ j x, [.int .i64 0, .int .i64 0, .int .i64 0, .int .i64 0, .string ⟨#[]⟩, .slice none 0 0, .slice none 0 0, .bool false, .bool false][j]? = some x → W.cell? ⟨w.heap.size + 1 + 1, 0 + j, none⟩ = some x := fun j x hx => by rw [Nat.zero_add]; exact f3 j x hx
  have hr := setRun_is (vs := [.int .i64 u.at_, .int .i64 u.v.id, .int .i64 u.v.acc, .int .i64 u.v.since, .string u.v.plan, .slice u.v.An u.v.nn u.v.cn, .slice u.v.Ap u.v.np u.v.cp, .bool u.v.susp, .bool u.v.fam]) hold (Nat.le_refl _)
  refine bodyPost_ret (results_cells rfl _ _ (w.heap.size + 1 + 1) ⟨[.int .i64 u.at_, .int .i64 u.v.id, .int .i64 u.v.acc, .int .i64 u.v.since, .string u.v.plan, .slice u.v.An u.v.nn u.v.cn, .slice u.v.Ap u.v.np u.v.cp, .bool u.v.susp, .bool u.v.fam]⟩ _ rfl hr rfl rfl rfl) rfl ?_
  exact ⟨rfl, setRun_below [.int .i64 u.at_, .int .i64 u.v.id, .int .i64 u.v.acc, .int .i64 u.v.since, .string u.v.plan, .slice u.v.An u.v.nn u.v.cn, .slice u.v.Ap u.v.np u.v.cp, .bool u.v.susp, .bool u.v.fam] _ 0 hbW (by omega)⟩
end Ss
end Go.Proofs.Yteaanngagcflhaa
namespace Go.Proofs.Yteaanngagcflhaa
open Go.RowKit
namespace Gr
section
variable {P : Program} {ops : Array Oper} {L : Lk} {W : World} {Q : Act → Prop} {o : Oper} {rest : List Oper} {a a' : Act} {f : FuncId} {fn : Func} {c : Code} {args : Array Operand} {ts : Array TypeId}
theorem run_callX {o : Oper} {f : FuncId} {args : Array Operand} {ts : Array TypeId} {fn : Func} {c : Code} {ρ : Operand → Value} {w : World} (x : Operand) (cap : Array Value) (hfn : P.funcs[f]? = some fn) (hname : (fn.name == "runtime.NumGoroutine") = false) (hb : fn.body = some c) (ho : o.op = .call ⟨.value x, args, ts⟩) (hf : ρ x = .func (.func f) #[] cap) : (execOp ρ o).run P w = .ok (.enter f (args.map ρ ++ cap)) w := by
  obtain ⟨dst, op, type, pos, after, guard⟩ := o
  simp only at ho
  subst ho
  have e : (execOp ρ { dst := dst, op := .call ⟨.value x, args, ts⟩, type := type, pos := pos, after := after, guard := guard } : Sem Next).run P w = (callFunc f (args.map ρ ++ cap)).run P w := by
    simp [execOp, resolve, hf, invoke, Deferred.ofValue, Result.andThen]
  rw [e]
  have h1 : fn.name ≠ "runtime.NumGoroutine" := by simpa using hname
  simp [callFunc, hfn, h1, hb]
theorem gr_dyn (x : Operand) (cap : Array Value) (v : Value) (hfn : P.funcs[f]? = some fn) (hname : (fn.name == "runtime.NumGoroutine") = false) (hb : fn.body = some c) (hw : Region.wanted o (yielded ops a.tmps) = true) (ho : o.op = .call ⟨.value x, args, ts⟩) (hx : ∀ vals, ev (Nk L) vals a x = .func (.func f) #[] cap) (hd : isN (Nk L) o = false) (ha : a.put o.dst v = a')
    (hc : ∀ z : Wd (Below W.heap.size W), ∀ vals, ∃ av, args.map (ev (Nk L) vals a) ++ cap = av ∧ Calls P f av z.w fun e w' => e = .returned v ∧ Below z.w.heap.size z.w w')
    (h : wpMix P ops (Ck_ W) Rk (Nk L) (Fk L) Q rest a') : wpMix P ops (Ck_ W) Rk (Nk L) (Fk L) Q (o :: rest) a := by
  subst ha
  refine ⟨v, .inl ⟨hw, fun w hC vals hv => ?_, fun h => by rw [hd] at h; cases h⟩, h⟩
  rw [run_callX x cap hfn hname hb ho (hx vals)]
  obtain ⟨z, rfl⟩ := hC
  obtain ⟨av, e, h1⟩ := hc z vals
  rw [e]
  refine ⟨rfl, h1.mono ?_⟩
  rintro e w' ⟨rfl, hR⟩
  refine ⟨v, rfl, hR, ?_⟩
  unfold yld
  unfold isN at hd
  split
  · rename_i d hdd
    rw [hdd] at hd
    dsimp only at hd
    rw [if_neg (by rw [hd]; decide)]
  · rfl
end
end Gr
namespace Ss
open Cu
theorem same9 {w : World} {base : Nat} {e : TypeId} {g n cap i : Nat} {xs : List Mv} {t : Mv} (h : Ow w base e (.slice (some ⟨g, 0, none⟩) n cap) xs) (hx : xs[i]? = some t) :
    Ow (((((((((w.setCell ⟨g, i * 9, none⟩ (.int .i64 t.at_)).setCell ⟨g, i * 9 + 1, none⟩ (.int .i64 t.v.id)).setCell ⟨g, i * 9 + 2, none⟩ (.int .i64 t.v.acc)).setCell ⟨g, i * 9 + 3, none⟩ (.int .i64 t.v.since)).setCell ⟨g, i * 9 + 4, none⟩ (.string t.v.plan)).setCell ⟨g, i * 9 + 5, none⟩ (.slice t.v.An t.v.nn t.v.cn)).setCell ⟨g, i * 9 + 6, none⟩ (.slice t.v.Ap t.v.np t.v.cp)).setCell ⟨g, i * 9 + 7, none⟩ (.bool t.v.susp)).setCell ⟨g, i * 9 + 8, none⟩ (.bool t.v.fam)) base e (.slice (some ⟨g, 0, none⟩) n cap) xs := by
  have hs : ∀ y : Mv, y = t → xs.set i y = xs := fun y e => by
    subst e
    obtain ⟨hi, rfl⟩ := List.getElem?_eq_some_iff.1 hx
    exact List.set_getElem_self hi
  have h0 := Ow.stored h hx 0 (.int .i64 t.at_) (by decide) (show Flat.cells t = (Flat.cells (t : Mv)).set 0 _ from rfl)
  rw [hs t rfl] at h0
  have h1 := Ow.stored h0 hx 1 (.int .i64 t.v.id) (by decide) (show Flat.cells t = (Flat.cells (t : Mv)).set 1 _ from rfl)
  rw [hs t rfl] at h1
  have h2 := Ow.stored h1 hx 2 (.int .i64 t.v.acc) (by decide) (show Flat.cells t = (Flat.cells (t : Mv)).set 2 _ from rfl)
  rw [hs t rfl] at h2
  have h3 := Ow.stored h2 hx 3 (.int .i64 t.v.since) (by decide) (show Flat.cells t = (Flat.cells (t : Mv)).set 3 _ from rfl)
  rw [hs t rfl] at h3
  have h4 := Ow.stored h3 hx 4 (.string t.v.plan) (by decide) (show Flat.cells t = (Flat.cells (t : Mv)).set 4 _ from rfl)
  rw [hs t rfl] at h4
  have h5 := Ow.stored h4 hx 5 (.slice t.v.An t.v.nn t.v.cn) (by decide) (show Flat.cells t = (Flat.cells (t : Mv)).set 5 _ from rfl)
  rw [hs t rfl] at h5
  have h6 := Ow.stored h5 hx 6 (.slice t.v.Ap t.v.np t.v.cp) (by decide) (show Flat.cells t = (Flat.cells (t : Mv)).set 6 _ from rfl)
  rw [hs t rfl] at h6
  have h7 := Ow.stored h6 hx 7 (.bool t.v.susp) (by decide) (show Flat.cells t = (Flat.cells (t : Mv)).set 7 _ from rfl)
  rw [hs t rfl] at h7
  have h8 := Ow.stored h7 hx 8 (.bool t.v.fam) (by decide) (show Flat.cells t = (Flat.cells (t : Mv)).set 8 _ from rfl)
  rw [hs t rfl] at h8
  exact h8
theorem belowS9 {w w0 : World} {g i B : Nat} {t : Mv} (hb : Below B w0 w) (hB : B ≤ g) : Below B w0 (((((((((w.setCell ⟨g, i * 9, none⟩ (.int .i64 t.at_)).setCell ⟨g, i * 9 + 1, none⟩ (.int .i64 t.v.id)).setCell ⟨g, i * 9 + 2, none⟩ (.int .i64 t.v.acc)).setCell ⟨g, i * 9 + 3, none⟩ (.int .i64 t.v.since)).setCell ⟨g, i * 9 + 4, none⟩ (.string t.v.plan)).setCell ⟨g, i * 9 + 5, none⟩ (.slice t.v.An t.v.nn t.v.cn)).setCell ⟨g, i * 9 + 6, none⟩ (.slice t.v.Ap t.v.np t.v.cp)).setCell ⟨g, i * 9 + 7, none⟩ (.bool t.v.susp)).setCell ⟨g, i * 9 + 8, none⟩ (.bool t.v.fam)) :=
  ((((((((hb.setCell hB _).setCell hB _).setCell hB _).setCell hB _).setCell hB _).setCell hB _).setCell hB _).setCell hB _).setCell hB _
theorem addJ_nil {J : List Mo} {m : Mo} (h : J.length = 0) : addJ J m = J ++ [m] := by
  obtain rfl := List.eq_nil_of_length_eq_zero h; rfl
theorem addJ_at {J : List Mo} {m d : Mo} {n : Nat} (hn : J.length = n) (hd : J[n - 1]? = some d) : addJ J m = if eqvB d.s m.s = true then J else J ++ [m] := by
  unfold addJ
  rw [List.getLast?_eq_getElem?, hn, hd]
set_option maxHeartbeats 16000000 in
theorem joinM_any (A : Option Addr) (n c : Nat) (M : List Mo) (w : World) (h : LM w A n c M) (hn9 : n ≤ 1000) :
    Calls Try.prog 83 #[.slice A n c, .func (.func 85) #[] #[], .func (.func 87) #[] #[]] w fun r w' => (∃ A' n' c', r = .returned (.slice A' n' c') ∧ LM w' A' n' c' (jnN M M.length)) ∧ Below w.heap.size w w' := by
  obtain ⟨_, xs, hxs, hall⟩ := h
  have HS := Lib.hid hxs
  have HL := Lib.hid hxs.len
  have HA := Lib.hid hall
  clear hxs hall
  go_enter Try.func83, Try.ntmps83
  go_wp2_with fail
  go_loopw [7, 13] (fun V i wr => ∃ k : Nat, k ≤ n ∧ i = .int .i64 k ∧ ∃ ys, Ow wr w.heap.size 116 V ys ∧ All2 (MR w) ys (jnN M k) ∧ Below w.heap.size w wr ∧ ys.length ≤ k) (fun _ i _ => n - (intOf i).toNat)
  case atStart => exact ⟨0, Nat.zero_le _, rfl, [], Ow.nil_ _ _ _, All2.nil_, Below.refl _ _, Nat.le_refl _⟩
  case round =>
    obtain ⟨k, hk, rfl, ys, ho, ha, hbr, hyl⟩ := hrel
    obtain ⟨A1, c1, rfl, _, _⟩ := ho.val
    obtain ⟨n1, hn1⟩ : ∃ n1, ys.length = n1 := ⟨_, rfl⟩
    rw [hn1] at ho ⊢ hyl
    have HO := Lib.hid ho
    have HAY := Lib.hid ha
    have HN1 := Lib.hid hn1
    have hgr := hbr.size
    clear ho ha hn1
    by_cases hlt : k < n
    · obtain ⟨b, off, hAe, hbl, hcells⟩ := HS.out.baseIn hbr (by omega)
      obtain ⟨d, hd⟩ := HS.out.get hlt
      obtain ⟨m, hm, hdm⟩ := HA.out.at_ hd
      have HDM := Lib.hid hdm
      have e0 : wr.cell? ⟨b, off + k * 9, none⟩ = some (.int .i64 d.at_) := Sl.at_ hcells hd 0 rfl
      have e1 : wr.cell? ⟨b, off + k * 9 + 1, none⟩ = some (.int .i64 d.v.id) := Sl.at_ hcells hd 1 rfl
      have e2 : wr.cell? ⟨b, off + k * 9 + 2, none⟩ = some (.int .i64 d.v.acc) := Sl.at_ hcells hd 2 rfl
      have e3 : wr.cell? ⟨b, off + k * 9 + 3, none⟩ = some (.int .i64 d.v.since) := Sl.at_ hcells hd 3 rfl
      have e4 : wr.cell? ⟨b, off + k * 9 + 4, none⟩ = some (.string d.v.plan) := Sl.at_ hcells hd 4 rfl
      have e5 : wr.cell? ⟨b, off + k * 9 + 5, none⟩ = some (.slice d.v.An d.v.nn d.v.cn) := Sl.at_ hcells hd 5 rfl
      have e6 : wr.cell? ⟨b, off + k * 9 + 6, none⟩ = some (.slice d.v.Ap d.v.np d.v.cp) := Sl.at_ hcells hd 6 rfl
      have e7 : wr.cell? ⟨b, off + k * 9 + 7, none⟩ = some (.bool d.v.susp) := Sl.at_ hcells hd 7 rfl
      have e8 : wr.cell? ⟨b, off + k * 9 + 8, none⟩ = some (.bool d.v.fam) := Sl.at_ hcells hd 8 rfl
      have HSUC : Hid (jnN M (k + 1) = addJ (jnN M k) m) := Lib.hid (jnN_succ hm)
      obtain ⟨J, hJ⟩ : ∃ J, jnN M k = J := ⟨_, rfl⟩
      rw [hJ] at HSUC HAY
      have HJL : Hid (J.length = n1) := Lib.hid (HAY.out.1.symm.trans HN1.out)
      have hkw : IntKind.i64.wrap ((k : Int) + 1) = (k : Int) + 1 := IntWalk.i64_in _ (by omega)
      subst hAe
      clear hcells hd hm hJ hdm
      go_upto_region 5 with (fail)
      (obtain ⟨Z, hWZ, hbZ, hzZ, f1Z, pfa⟩ := box1 wr #[.int .i64 d.at_, .int .i64 d.v.id, .int .i64 d.v.acc, .int .i64 d.v.since, .string d.v.plan, .slice d.v.An d.v.nn d.v.cn, .slice d.v.Ap d.v.np d.v.cp, .bool d.v.susp, .bool d.v.fam] 116; rw [← hWZ]; have pa0 : Z.cell? ⟨wr.heap.size, 0, none⟩ = some (.int .i64 d.at_) := f1Z 0 _ rfl; have pa1 : Z.cell? ⟨wr.heap.size, 1, none⟩ = some (.int .i64 d.v.id) := f1Z 1 _ rfl; have pa2 : Z.cell? ⟨wr.heap.size, 2, none⟩ = some (.int .i64 d.v.acc) := f1Z 2 _ rfl; have pa3 : Z.cell? ⟨wr.heap.size, 3, none⟩ = some (.int .i64 d.v.since) := f1Z 3 _ rfl; have pa4 : Z.cell? ⟨wr.heap.size, 4, none⟩ = some (.string d.v.plan) := f1Z 4 _ rfl; have pa5 : Z.cell? ⟨wr.heap.size, 5, none⟩ = some (.slice d.v.An d.v.nn d.v.cn) := f1Z 5 _ rfl; have pa6 : Z.cell? ⟨wr.heap.size, 6, none⟩ = some (.slice d.v.Ap d.v.np d.v.cp) := f1Z 6 _ rfl; have pa7 : Z.cell? ⟨wr.heap.size, 7, none⟩ = some (.bool d.v.susp) := f1Z 7 _ rfl; have pa8 : Z.cell? ⟨wr.heap.size, 8, none⟩ = some (.bool d.v.fam) := f1Z 8 _ rfl; clear hWZ f1Z)
      replace HO := Lib.hid (HO.out.below hbZ)
      have hbrZ := hbr.trans (hbZ.mono hbr.size)
      clear e0 e1 e2 e3 e4 e5 e6 e7 e8 hbZ hbr
      go_upto_region 6 with (fail)
      obtain ⟨bb, hbb⟩ : ∃ bb : Bool, (bb = true ∧ 0 < n1 ∧ ∃ u mu, ys[n1 - 1]? = some u ∧ J[n1 - 1]? = some mu ∧ MR w u mu ∧ eqvB mu.s m.s = true) ∨ (bb = false ∧ (n1 = 0 ∨ ∃ u mu, ys[n1 - 1]? = some u ∧ J[n1 - 1]? = some mu ∧ MR w u mu ∧ eqvB mu.s m.s = false)) := by
        by_cases h0 : n1 = 0
        · exact ⟨false, .inr ⟨rfl, .inl h0⟩⟩
        · obtain ⟨u, hu⟩ : ∃ u, ys[n1 - 1]? = some u := ⟨_, List.getElem?_eq_getElem (by have := HN1.out; omega)⟩
          obtain ⟨mu, hmu, hr⟩ := HAY.out.at_ hu
          cases he : eqvB mu.s m.s
          · exact ⟨false, .inr ⟨rfl, .inr ⟨u, mu, hu, hmu, hr, he⟩⟩⟩
          · exact ⟨true, .inl ⟨rfl, by omega, u, mu, hu, hmu, hr, he⟩⟩
      have HBB := Lib.hid hbb
      clear hbb
      go_cut [30] from 49 (fun v wx => v = .bool bb ∧ Below Z.heap.size Z wx)
      case first =>
        by_cases h0 : n1 = 0
        · have hb2 : bb = false := by rcases HBB.out with ⟨_, h, _⟩ | ⟨h, _⟩; omega; exact h
          subst hb2
          clear HBB
          subst h0
          have kd : decide ((0 : Int) < 0) = false := rfl
          ((with_reducible refine wp_region_quiet_lit ?_ ?_ ?_); kernel_rfl; kernel_rfl; (repeat (any_goals (first | go_big_quiet_step (fail) | (refine wpQuiet_step (fun K hK => ?_); go_simp; (first | (refine hK _ ?_; clear hK K) | (split <;> rename_i hg <;> (refine hK _ ?_; clear hK K) <;> (try simp only [Bool.not_eq_true] at hg) <;> (first | simp only [Int.not_lt.2 hg, decide_false] | simp only [Int.not_le.1 hg, decide_true] | simp only [hg, decide_true, decide_false] | skip))))))); all_goals (refine wpQuiet_nil ?_; intro _ hw'; obtain ⟨nq, hw''⟩ := hw'; subst hw''))
          go_wp2_with fail
          go_meet
          exact ⟨rfl, below_drewN (Below.refl _ _) _⟩
        · obtain ⟨G, cap, cur, hA, hbg, hcur⟩ := HO.out.whole (by have := HN1.out; omega)
          have hA1 : A1 = some ⟨G, 0, none⟩ := by injection hA
          obtain ⟨u, mu, hu, hr, hb2⟩ : ∃ u mu, ys[n1 - 1]? = some u ∧ MR w u mu ∧ bb = eqvB mu.s m.s := by
            rcases HBB.out with ⟨h1, _, u, mu, h2, _, h3, h4⟩ | ⟨h1, h2 | ⟨u, mu, h2, _, h3, h4⟩⟩
            · exact ⟨u, mu, h2, h3, by rw [h1, h4]⟩
            · exact absurd h2 h0
            · exact ⟨u, mu, h2, h3, by rw [h1, h4]⟩
          subst hA1
          have hgz := (HO.out.ltG).2
          have g0 : Z.cell? ⟨G, (n1 - 1) * 9 + 0, none⟩ = some (.int .i64 u.at_) := HO.out.at_ hu 0 rfl
          have g1 : Z.cell? ⟨G, (n1 - 1) * 9 + 1, none⟩ = some (.int .i64 u.v.id) := HO.out.at_ hu 1 rfl
          have g2 : Z.cell? ⟨G, (n1 - 1) * 9 + 2, none⟩ = some (.int .i64 u.v.acc) := HO.out.at_ hu 2 rfl
          have g3 : Z.cell? ⟨G, (n1 - 1) * 9 + 3, none⟩ = some (.int .i64 u.v.since) := HO.out.at_ hu 3 rfl
          have g4 : Z.cell? ⟨G, (n1 - 1) * 9 + 4, none⟩ = some (.string u.v.plan) := HO.out.at_ hu 4 rfl
          have g5 : Z.cell? ⟨G, (n1 - 1) * 9 + 5, none⟩ = some (.slice u.v.An u.v.nn u.v.cn) := HO.out.at_ hu 5 rfl
          have g6 : Z.cell? ⟨G, (n1 - 1) * 9 + 6, none⟩ = some (.slice u.v.Ap u.v.np u.v.cp) := HO.out.at_ hu 6 rfl
          have g7 : Z.cell? ⟨G, (n1 - 1) * 9 + 7, none⟩ = some (.bool u.v.susp) := HO.out.at_ hu 7 rfl
          have g8 : Z.cell? ⟨G, (n1 - 1) * 9 + 8, none⟩ = some (.bool u.v.fam) := HO.out.at_ hu 8 rfl
          rw [Nat.add_zero] at g0
          have kd : decide ((0 : Int) < (n1 : Int)) = true := decide_eq_true (by omega)
          have kp : 0 < n1 := by omega
          have kn : decide (0 < n1) = true := decide_eq_true kp
          have hm1 : IntKind.i64.wrap ((n1 : Int) - 1) = ((n1 - 1 : Nat) : Int) := by rw [IntWalk.i64_in _ (by omega)]; omega
          have hkl : n1 - 1 < n1 := by omega
          have HSP : Hid (∀ z, Below Z.heap.size Z z → Calls Try.prog 85 #[.agg #[.int .i64 u.at_, .int .i64 u.v.id, .int .i64 u.v.acc, .int .i64 u.v.since, .string u.v.plan, .slice u.v.An u.v.nn u.v.cn, .slice u.v.Ap u.v.np u.v.cp, .bool u.v.susp, .bool u.v.fam], .agg #[.int .i64 d.at_, .int .i64 d.v.id, .int .i64 d.v.acc, .int .i64 d.v.since, .string d.v.plan, .slice d.v.An d.v.nn d.v.cn, .slice d.v.Ap d.v.np d.v.cp, .bool d.v.susp, .bool d.v.fam]] z fun r w' => r = .returned (.bool bb) ∧ Below z.heap.size z w') := Lib.hid fun z hz => by
            have hwz := hbrZ.trans (hz.mono hbrZ.size)
            have h := spells1_any u d mu m z (hr.on hwz) (HDM.out.on hwz)
            rw [← hb2] at h
            exact h
          clear HBB hA hbg hcur hu hr hb2 h0 HDM
          ((with_reducible refine wp_region_class (Below Z.heap.size Z) ?_ ?_ ?_ ?_); kernel_rfl; kernel_rfl; (exact (Below.refl _ _).drew); (intro hnonemp); (have zg0 := fun z : Wd (Below Z.heap.size Z) => cl z.h g0; have zg1 := fun z : Wd (Below Z.heap.size Z) => cl z.h g1; have zg2 := fun z : Wd (Below Z.heap.size Z) => cl z.h g2; have zg3 := fun z : Wd (Below Z.heap.size Z) => cl z.h g3; have zg4 := fun z : Wd (Below Z.heap.size Z) => cl z.h g4; have zg5 := fun z : Wd (Below Z.heap.size Z) => cl z.h g5; have zg6 := fun z : Wd (Below Z.heap.size Z) => cl z.h g6; have zg7 := fun z : Wd (Below Z.heap.size Z) => cl z.h g7; have zg8 := fun z : Wd (Below Z.heap.size Z) => cl z.h g8; have zpa0 := fun z : Wd (Below Z.heap.size Z) => cl z.h pa0; have zpa1 := fun z : Wd (Below Z.heap.size Z) => cl z.h pa1; have zpa2 := fun z : Wd (Below Z.heap.size Z) => cl z.h pa2; have zpa3 := fun z : Wd (Below Z.heap.size Z) => cl z.h pa3; have zpa4 := fun z : Wd (Below Z.heap.size Z) => cl z.h pa4; have zpa5 := fun z : Wd (Below Z.heap.size Z) => cl z.h pa5; have zpa6 := fun z : Wd (Below Z.heap.size Z) => cl z.h pa6; have zpa7 := fun z : Wd (Below Z.heap.size Z) => cl z.h pa7; have zpa8 := fun z : Wd (Below Z.heap.size Z) => cl z.h pa8); (repeat (any_goals (first | go_big_quiet_step (((first | (go_at_call 85; (with_reducible refine (HSP.out _ (Wd.h _)).mono ?_); rintro e w' ⟨rfl, hbk⟩; exact ⟨rfl, ⟨w', Below.trans (Wd.h _) (hbk.mono (Below.size (Wd.h _)))⟩, rfl⟩)))) | (refine wpQuiet_step (fun K hK => ?_); go_simp; (first | (refine hK _ ?_; clear hK K) | (split <;> rename_i hg <;> (refine hK _ ?_; clear hK K) <;> (try simp only [Bool.not_eq_true] at hg) <;> (first | simp only [Int.not_lt.2 hg, decide_false] | simp only [Int.not_le.1 hg, decide_true] | simp only [hg, decide_true, decide_false] | skip)))))));  all_goals (refine wpQuiet_nil ?_; intro wq hgq))
          go_wp2_with fail
          go_meet
          exact ⟨rfl, hgq⟩
      case rest =>
        obtain ⟨rfl, hbC⟩ := hcut
        replace HO := Lib.hid (HO.out.below hbC)
        have hbC2 := Lib.hid hbC
        replace pa0 := cl hbC pa0
        replace pa1 := cl hbC pa1
        replace pa2 := cl hbC pa2
        replace pa3 := cl hbC pa3
        replace pa4 := cl hbC pa4
        replace pa5 := cl hbC pa5
        replace pa6 := cl hbC pa6
        replace pa7 := cl hbC pa7
        replace pa8 := cl hbC pa8
        have hbrC := hbrZ.trans (hbC.mono hbrZ.size)
        have hgC := hbC.size
        have hwrc : wr.heap.size < wc.heap.size := Nat.lt_of_lt_of_le hzZ hbC.size
        clear hbC hbrZ
        cases bb
        case false =>
          have HE : Hid (addJ J m = J ++ [m]) := Lib.hid (by
            rcases HBB.out with ⟨h, _⟩ | ⟨_, h | ⟨u, mu, _, h1, _, h2⟩⟩
            · cases h
            · exact addJ_nil (HJL.out.trans h)
            · rw [addJ_at HJL.out h1, h2]; rfl)
          go_wp2_with (at_builtin; go_must (refine wpl_append1 _ rfl (.tmp 43) (.tmp 45) 113 rfl w.heap.size 116 _ 104 Try.underlying113 infoM rfl (.slice A1 n1 c1) ys rfl (by have h := HO.out; exact h.alloc _) _ (d : Mv) rfl (fun j u hu => cells_new _ _ _ _ _ (by simp) u hu) (by rw [HN1.out]; omega) (by omega) (by rw [World.size_alloc]; omega) ?_; intro v7 w7 ho7 hu7; have HB7 := Lib.hid (hu7.belowBase (HO.out.alloc _) (hbrC.alloc (by omega) _) (by rw [World.size_alloc]; omega)); have HO7 := Lib.hid ho7; clear ho7 hu7))
          go_roundw
          case rel => exact ⟨k + 1, by omega, by go_num, ys ++ [d], HO7.out, by rw [HSUC.out, HE.out]; exact All2.snoc HAY.out HDM.out, HB7.out, by rw [List.length_append, HN1.out]; simp; omega⟩
          case measure => simp [intOf]; omega
        case true =>
          obtain ⟨hpos, u, mu, hu, hmu, hr, he⟩ : 0 < n1 ∧ ∃ u mu, ys[n1 - 1]? = some u ∧ J[n1 - 1]? = some mu ∧ MR w u mu ∧ eqvB mu.s m.s = true := by
            rcases HBB.out with ⟨_, h⟩ | ⟨h, _⟩
            · exact h
            · cases h
          have HE : Hid (addJ J m = J) := Lib.hid (by rw [addJ_at HJL.out hmu, he]; rfl)
          obtain ⟨G, cap, cur, hA, hbg, hcur⟩ := HO.out.whole (by have := HN1.out; omega)
          have hA1 : A1 = some ⟨G, 0, none⟩ := by injection hA
          subst hA1
          have hgz := (HO.out.ltG).2
          have hgB := (HO.out.ltG).1
          have hm1 : IntKind.i64.wrap ((n1 : Int) - 1) = ((n1 - 1 : Nat) : Int) := by rw [IntWalk.i64_in _ (by omega)]; omega
          have hkl : n1 - 1 < n1 := by omega
          have gf := HO.out.unfrozen
          have HU := Lib.hid hu
          have g0 : wc.cell? ⟨G, (n1 - 1) * 9 + 0, none⟩ = some (.int .i64 u.at_) := HO.out.at_ hu 0 rfl
          have g1 : wc.cell? ⟨G, (n1 - 1) * 9 + 1, none⟩ = some (.int .i64 u.v.id) := HO.out.at_ hu 1 rfl
          have g2 : wc.cell? ⟨G, (n1 - 1) * 9 + 2, none⟩ = some (.int .i64 u.v.acc) := HO.out.at_ hu 2 rfl
          have g3 : wc.cell? ⟨G, (n1 - 1) * 9 + 3, none⟩ = some (.int .i64 u.v.since) := HO.out.at_ hu 3 rfl
          have g4 : wc.cell? ⟨G, (n1 - 1) * 9 + 4, none⟩ = some (.string u.v.plan) := HO.out.at_ hu 4 rfl
          have g5 : wc.cell? ⟨G, (n1 - 1) * 9 + 5, none⟩ = some (.slice u.v.An u.v.nn u.v.cn) := HO.out.at_ hu 5 rfl
          have g6 : wc.cell? ⟨G, (n1 - 1) * 9 + 6, none⟩ = some (.slice u.v.Ap u.v.np u.v.cp) := HO.out.at_ hu 6 rfl
          have g7 : wc.cell? ⟨G, (n1 - 1) * 9 + 7, none⟩ = some (.bool u.v.susp) := HO.out.at_ hu 7 rfl
          have g8 : wc.cell? ⟨G, (n1 - 1) * 9 + 8, none⟩ = some (.bool u.v.fam) := HO.out.at_ hu 8 rfl
          rw [Nat.add_zero] at g0
          clear hA hbg hcur hu hmu he HBB hr
          go_upto_region 7 with (fail)
          refine Gr.region_grow 12 [] (by kernel_rfl) rfl rfl (by kernel_rfl) (by kernel_rfl) (by rfl) (by rfl) stays_nil ?_
          intro hnonemp hcr
          simp only [List.take_succ_cons, List.take_zero]
          refine Gr.gr_plain rfl rfl rfl ?_; (first | go_big_quiet_skip | (go_big_quiet_want; go_big_quiet_op; go_big_quiet_on)); refine wpQuiet_nil ?_
          refine Gr.gr_plain rfl rfl rfl ?_; (first | go_big_quiet_skip | (go_big_quiet_want; go_big_quiet_op; go_big_quiet_on)); refine wpQuiet_nil ?_
          refine Gr.gr_plain rfl rfl rfl ?_; (first | go_big_quiet_skip | (go_big_quiet_want; go_big_quiet_op; go_big_quiet_on)); refine wpQuiet_nil ?_
          refine Gr.gr_plain rfl rfl rfl ?_; (first | go_big_quiet_skip | (go_big_quiet_want; go_big_quiet_op; go_big_quiet_on)); refine wpQuiet_nil ?_
          refine Gr.gr_plain rfl rfl rfl ?_; (first | go_big_quiet_skip | (go_big_quiet_want; go_big_quiet_op; go_big_quiet_on)); refine wpQuiet_nil ?_
          refine Gr.gr_plain rfl rfl rfl ?_; (first | go_big_quiet_skip | (go_big_quiet_want; go_big_quiet_op; go_big_quiet_on)); refine wpQuiet_nil ?_
          refine Gr.gr_plain rfl rfl rfl ?_; (first | go_big_quiet_skip | (go_big_quiet_want; go_big_quiet_op; go_big_quiet_on)); refine wpQuiet_nil ?_
          refine Gr.gr_plain rfl rfl rfl ?_; (first | go_big_quiet_skip | (go_big_quiet_want; go_big_quiet_op; go_big_quiet_on)); refine wpQuiet_nil ?_
          refine Gr.gr_plain rfl rfl rfl ?_; (first | go_big_quiet_skip | (go_big_quiet_want; go_big_quiet_op; go_big_quiet_on)); refine wpQuiet_nil ?_
          refine Gr.gr_plain rfl rfl rfl ?_; (first | go_big_quiet_skip | (go_big_quiet_want; go_big_quiet_op; go_big_quiet_on)); refine wpQuiet_nil ?_
          refine Gr.gr_dyn (.tmp 34) #[] (.agg #[.int .i64 u.at_, .int .i64 u.v.id, .int .i64 u.v.acc, .int .i64 u.v.since, .string u.v.plan, .slice u.v.An u.v.nn u.v.cn, .slice u.v.Ap u.v.np u.v.cp, .bool u.v.susp, .bool u.v.fam]) Try.func87 (by kernel_rfl) rfl rfl rfl (fun vals => rfl) rfl (by simp only [Act.put, List.setIfInBounds_toArray, List.set_cons_succ, List.set_cons_zero]; rfl) (fun z vals => ?_) ?_
          · exact ⟨#[.agg #[.int .i64 u.at_, .int .i64 u.v.id, .int .i64 u.v.acc, .int .i64 u.v.since, .string u.v.plan, .slice u.v.An u.v.nn u.v.cn, .slice u.v.Ap u.v.np u.v.cp, .bool u.v.susp, .bool u.v.fam], .agg #[.int .i64 d.at_, .int .i64 d.v.id, .int .i64 d.v.acc, .int .i64 d.v.since, .string d.v.plan, .slice d.v.An d.v.nn d.v.cn, .slice d.v.Ap d.v.np d.v.cp, .bool d.v.susp, .bool d.v.fam]], (by first | (simp [ev, Act.eval] <;> rfl) | (simp [ev, Act.eval, It.val]; done)), spells2_any u d z.w⟩
          refine Gr.gr_plain rfl rfl rfl ?_; (first | go_big_quiet_skip | (go_big_quiet_want; go_big_quiet_op; go_big_quiet_on)); refine wpQuiet_nil ?_
          intro wy vals hgq hkn
          simp only [over, Nk, List.map_nil, List.foldl_nil]
          have hgG : G < wy.heap.size := Nat.lt_of_lt_of_le hgz hgq.size
          replace g0 := cl hgq g0
          replace g1 := cl hgq g1
          replace g2 := cl hgq g2
          replace g3 := cl hgq g3
          replace g4 := cl hgq g4
          replace g5 := cl hgq g5
          replace g6 := cl hgq g6
          replace g7 := cl hgq g7
          replace g8 := cl hgq g8
          replace gf := cz hgq gf
          have HOY := Lib.hid (same9 (HO.out.below hgq) HU.out)
          have HBY := Lib.hid (belowS9 (i := n1 - 1) (t := u) (hbrC.trans (hgq.mono hbrC.size)) hgB)
          clear hcr hkn hnonemp hgq
          go_wp2_with fail
          go_roundw
          case rel => exact ⟨k + 1, by omega, by go_num, ys, HOY.out, by rw [HSUC.out, HE.out]; exact HAY.out, HBY.out, by rw [HN1.out]; omega⟩
          case measure => simp [intOf]; omega
    · obtain rfl : n = k := by omega
      have hkn : ¬ ((n : Int) < (n : Int)) := by omega
      have HML : Hid (M.length = n) := Lib.hid (HA.out.1.symm.trans HL.out)
      go_wp2_with fail
      go_ret
      rw [← HN1.out]
      have ho := HO.out
      rw [← HN1.out] at ho
      obtain ⟨A', c', e, h0, hs⟩ := ho.slN
      exact ⟨⟨A', _, c', congrArg Ending.returned e, h0, ys, hs, by rw [HML.out]; exact HAY.out.imp fun _ _ h => h.on hbr⟩, hbr⟩
end Ss
end Go.Proofs.Yteaanngagcflhaa
