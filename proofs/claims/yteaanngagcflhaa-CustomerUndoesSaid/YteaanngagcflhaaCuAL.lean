/-
  Customers: Sub and Account of the program. No condition.
-/
import Derived.Test.YteaanngagcflhaaCuAK
import Derived.BigQuiet
import Derived.StillTailTactics
import Derived.Lib.Overlaps
import Derived.Deep.DeepCutAuto
import Derived.Deep.RegionWith
import Derived.Laws.RangeAny
set_option maxRecDepth 100000
set_option linter.unusedVariables false
set_option linter.unusedSimpArgs false
namespace Go.Proofs.Yteaanngagcflhaa
open Go.RowKit

namespace Cu
theorem results_cells2 {P : Program} {fn : Func} {p u : Tmp} {ty : TypeId} (h : fn.results = #[.cell p ty, .tmp u]) (tmps : Array Value) (w : World) (g : Nat) (cs : Array Value) (d : TypeDesc)
    (hp : tmps.getD p undef = .pointer (some ⟨g, 0, none⟩)) (hc : ∀ j v, cs.toList[j]? = some v → w.cell? ⟨g, j, none⟩ = some v)
    (hu : P.underlying ty = some d) (hd : (match d with | .struct _ | .array _ _ => true | _ => false) = true) (hi : (P.info? ty).map (·.size) = some cs.size) :
    (results fn tmps).run P w = .ok (.tuple #[.agg cs, tmps.getD u undef]) w := by
  have hl : (loadCells ⟨g, 0, none⟩ cs.toList.length).run P w = .ok cs.toList.toArray w :=
    run_loadCells_list (P := P) w ⟨g, 0, none⟩ cs.toList (fun j v hv => by
      have hadd : (⟨g, 0, none⟩ : Addr).add j = ⟨g, j, none⟩ := by unfold Addr.add; split <;> simp_all
      rw [hadd]
      exact hc j v hv)
  cases hq : P.info? ty with
  | none => simp [hq] at hi
  | some i =>
    have hs : i.size = cs.size := by simpa [hq] using hi
    have hagg : (isAgg ty).run P w = .ok true w := by
      unfold isAgg
      rw [Sem.run_bind, run_underlying hu w]
      cases d <;> simp_all
    simp only [Array.length_toList, Array.toArray_toList] at hl
    have hrow : (loadVar ty ⟨g, 0, none⟩).run P w = .ok (.agg cs) w := by
      simp [loadVar, Sem.run_bind, hagg, sizeOf, typeInfo, hq, hs, hl]
    rw [results_cell_tmp h, hp]
    simp [asAddr, hrow, Result.andThen]
theorem six {w : World} {g : Nat} {v0 v1 v2 v3 v4 v5 : Value} (h0 : w.cell? ⟨g, 0, none⟩ = some v0) (h1 : w.cell? ⟨g, 1, none⟩ = some v1) (h2 : w.cell? ⟨g, 2, none⟩ = some v2) (h3 : w.cell? ⟨g, 3, none⟩ = some v3) (h4 : w.cell? ⟨g, 4, none⟩ = some v4) (h5 : w.cell? ⟨g, 5, none⟩ = some v5) :
    ∀ j u, [v0, v1, v2, v3, v4, v5][j]? = some u → w.cell? ⟨g, 0 + j, none⟩ = some u := fun j u hu => by
  match j, hu with
  | 0, hu => cases hu; exact h0
  | 1, hu => cases hu; exact h1
  | 2, hu => cases hu; exact h2
  | 3, hu => cases hu; exact h3
  | 4, hu => cases hu; exact h4
  | 5, hu => cases hu; exact h5
theorem findNone {α : Type} {p : α → Bool} {l : List α} (h : ∀ (m : Nat) y, l[m]? = some y → p y = false) : l.find? p = none := by
  rw [List.find?_eq_none]
  intro x hx
  obtain ⟨m, hm⟩ := List.getElem?_of_mem hx
  rw [h m x hm]; decide
theorem findAt {α : Type} {p : α → Bool} : ∀ {l : List α} {k : Nat} {x : α}, l[k]? = some x → p x = true → (∀ (m : Nat) y, m < k → l[m]? = some y → p y = false) → l.find? p = some x
  | [], k, x, h, _, _ => by simp at h
  | b :: l, 0, x, h, hp, _ => by cases h; rw [List.find?_cons_of_pos hp]
  | b :: l, k + 1, x, h, hp, hn => by
    rw [List.find?_cons_of_neg (by rw [hn 0 b (by omega) rfl]; decide)]
    exact findAt (l := l) (k := k) (by simpa using h) hp fun m y hm hy => hn (m + 1) y (by omega) (by simpa using hy)
theorem old8 {w : World} {R : Nat} {s : Sb} (h : NeS s.nums ∧ NeS s.prods) (h0 : w.cell? ⟨R, 0, none⟩ = some (.int .i64 0)) (h1 : w.cell? ⟨R, 1, none⟩ = some (.int .i64 0)) (h2 : w.cell? ⟨R, 2, none⟩ = some (.int .i64 0)) (h3 : w.cell? ⟨R, 3, none⟩ = some (.string ⟨#[]⟩)) (h4 : w.cell? ⟨R, 4, none⟩ = some (.slice none 0 0)) (h5 : w.cell? ⟨R, 5, none⟩ = some (.slice none 0 0)) (h6 : w.cell? ⟨R, 6, none⟩ = some (.bool false)) (h7 : w.cell? ⟨R, 7, none⟩ = some (.bool false)) :
    ∀ j, j < 8 → ∃ old, w.cell? ⟨R, 0 + j, none⟩ = some old ∧ (∀ x ∈ s.nums, old ≠ .string x) ∧ ∀ x ∈ s.prods, old ≠ .string x := fun j hj => by
  have hs : ∀ l : List ByteArray, NeS l → ∀ x ∈ l, Value.string ⟨#[]⟩ ≠ .string x := fun l hl x hx e => hl x hx (by injection e with e; exact e.symm)
  have hj' : j = 0 ∨ j = 1 ∨ j = 2 ∨ j = 3 ∨ j = 4 ∨ j = 5 ∨ j = 6 ∨ j = 7 := by omega
  rcases hj' with rfl | rfl | rfl | rfl | rfl | rfl | rfl | rfl
  · exact ⟨_, h0, fun _ _ e => (by cases e), fun _ _ e => (by cases e)⟩
  · exact ⟨_, h1, fun _ _ e => (by cases e), fun _ _ e => (by cases e)⟩
  · exact ⟨_, h2, fun _ _ e => (by cases e), fun _ _ e => (by cases e)⟩
  · exact ⟨_, h3, hs _ h.1, hs _ h.2⟩
  · exact ⟨_, h4, fun _ _ e => (by cases e), fun _ _ e => (by cases e)⟩
  · exact ⟨_, h5, fun _ _ e => (by cases e), fun _ _ e => (by cases e)⟩
  · exact ⟨_, h6, fun _ _ e => (by cases e), fun _ _ e => (by cases e)⟩
  · exact ⟨_, h7, fun _ _ e => (by cases e), fun _ _ e => (by cases e)⟩
theorem old6 {w : World} {R : Nat} {s : Ac × List Int} (h : ∀ x ∈ s.2, 1 ≤ x) (h0 : w.cell? ⟨R, 0, none⟩ = some (.int .i64 0)) (h1 : w.cell? ⟨R, 1, none⟩ = some (.int .i64 0)) (h2 : w.cell? ⟨R, 2, none⟩ = some (.int .i64 0)) (h3 : w.cell? ⟨R, 3, none⟩ = some (.bool false)) (h4 : w.cell? ⟨R, 4, none⟩ = some (.bool false)) (h5 : w.cell? ⟨R, 5, none⟩ = some (.slice none 0 0)) :
    ∀ j, j < 6 → ∃ old, w.cell? ⟨R, 0 + j, none⟩ = some old ∧ ∀ x ∈ s.2, old ≠ .int .i64 x := fun j hj => by
  have hs : ∀ x ∈ s.2, Value.int .i64 0 ≠ .int .i64 x := fun x hx e => by injection e with _ e; have := h x hx; omega
  have hj' : j = 0 ∨ j = 1 ∨ j = 2 ∨ j = 3 ∨ j = 4 ∨ j = 5 := by omega
  rcases hj' with rfl | rfl | rfl | rfl | rfl | rfl
  · exact ⟨_, h0, hs⟩
  · exact ⟨_, h1, hs⟩
  · exact ⟨_, h2, hs⟩
  · exact ⟨_, h3, fun _ _ e => by cases e⟩
  · exact ⟨_, h4, fun _ _ e => by cases e⟩
  · exact ⟨_, h5, fun _ _ e => by cases e⟩
theorem fld0 (A1 : Option Addr) (n1 c1 : Nat) (A2 : Option Addr) (n2 c2 : Nat) (W : World) : (Instr.field 32 (.agg #[.slice A1 n1 c1, .slice A2 n2 c2]) 0).run Try.prog W = .ok (.slice A1 n1 c1) W := by kernel_rfl
theorem fld1 (A1 : Option Addr) (n1 c1 : Nat) (A2 : Option Addr) (n2 c2 : Nat) (W : World) : (Instr.field 32 (.agg #[.slice A1 n1 c1, .slice A2 n2 c2]) 1).run Try.prog W = .ok (.slice A2 n2 c2) W := by kernel_rfl
theorem cAccs_rng {b : Bk} : ∀ y ∈ cAccs b, ∀ x ∈ y.2, 1 ≤ x ∧ x ≤ 9999 := fun y hy x hx => by
  obtain ⟨i, _, hi⟩ := List.mem_filterMap.1 hy
  unfold cAcc at hi
  cases hq : findA b i with
  | none => rw [hq] at hi; cases hi
  | some a => rw [hq] at hi; cases hi; exact cOf_rng x hx
set_option maxHeartbeats 4000000 in
theorem Sub_any (A : Option Addr) (n c : Nat) (l : List Ev) (x t : Int) (w : World) (hs : Sl w A n c l) (hv : Vl l) (hz : SzOk l) :
    Calls Try.prog 34 #[.slice A n c, .int .i64 x, .int .i64 t] w fun r w' => (∃ v : Sv, r = .returned (.tuple #[v.val, .bool ((cSubs (bkAt l t)).find? (fun y => y.id == x)).isSome]) ∧ SR w' v (((cSubs (bkAt l t)).find? (fun y => y.id == x)).getD sb0)) ∧ Below w.heap.size w w' := by
  have HS := Lib.hid hs
  have HV := Lib.hid hv
  have HZ := Lib.hid hz
  clear hs hv hz
  have hfl0 := fld0
  have hfl1 := fld1
  go_enter Try.func34, Try.ntmps34
  go_upto_region 1 with (fail)
  (obtain ⟨V, hWV, hbV, hzV, f1V, qfa⟩ := box1 w #[.int .i64 0, .int .i64 0, .int .i64 0, .string ⟨#[]⟩, .slice none 0 0, .slice none 0 0, .bool false, .bool false] 51; rw [← hWV]; have qa0 : V.cell? ⟨w.heap.size, 0, none⟩ = some (.int .i64 0) := f1V 0 _ rfl; have qa1 : V.cell? ⟨w.heap.size, 1, none⟩ = some (.int .i64 0) := f1V 1 _ rfl; have qa2 : V.cell? ⟨w.heap.size, 2, none⟩ = some (.int .i64 0) := f1V 2 _ rfl; have qa3 : V.cell? ⟨w.heap.size, 3, none⟩ = some (.string ⟨#[]⟩) := f1V 3 _ rfl; have qa4 : V.cell? ⟨w.heap.size, 4, none⟩ = some (.slice none 0 0) := f1V 4 _ rfl; have qa5 : V.cell? ⟨w.heap.size, 5, none⟩ = some (.slice none 0 0) := f1V 5 _ rfl; have qa6 : V.cell? ⟨w.heap.size, 6, none⟩ = some (.bool false) := f1V 6 _ rfl; have qa7 : V.cell? ⟨w.heap.size, 7, none⟩ = some (.bool false) := f1V 7 _ rfl; clear hWV f1V)
  go_wp2_with (go_at_call 27; go_must (refine (State_vl A n c l t _ (HS.out.below hbV) HV.out HZ.out).mono ?_; rintro r w5 ⟨Aa, na, ca, As, ns, cs, rfl, hla, hls, hb5⟩; have hbw5 := hbV.trans (hb5.mono hbV.size); replace qa0 := (hb5.cell (p := ⟨w.heap.size, 0, none⟩) hzV).trans qa0; replace qa1 := (hb5.cell (p := ⟨w.heap.size, 1, none⟩) hzV).trans qa1; replace qa2 := (hb5.cell (p := ⟨w.heap.size, 2, none⟩) hzV).trans qa2; replace qa3 := (hb5.cell (p := ⟨w.heap.size, 3, none⟩) hzV).trans qa3; replace qa4 := (hb5.cell (p := ⟨w.heap.size, 4, none⟩) hzV).trans qa4; replace qa5 := (hb5.cell (p := ⟨w.heap.size, 5, none⟩) hzV).trans qa5; replace qa6 := (hb5.cell (p := ⟨w.heap.size, 6, none⟩) hzV).trans qa6; replace qa7 := (hb5.cell (p := ⟨w.heap.size, 7, none⟩) hzV).trans qa7; replace qfa := fun j => (hb5.frozen (p := ⟨w.heap.size, j, none⟩) hzV).trans (qfa j); have hg5 : w.heap.size < w5.heap.size := Nat.lt_of_lt_of_le hzV hb5.size; have HL := Lib.hid hls; clear hb5 hla hls))
  obtain ⟨hN0, xs, hxs, hall⟩ := HL.out
  have HXS := Lib.hid hxs
  have HALL := Lib.hid hall
  have hln : (cSubs (bkAt l t)).length = ns := HL.out.len
  have hnm := hxs.nmax
  have HLN := Lib.hid hln
  clear hN0 hxs hall hln
  go_loopw [15] (fun i wr => ∃ k : Nat, k ≤ ns ∧ i = .int .i64 k ∧ Below w5.heap.size w5 wr ∧ ∀ (m : Nat) y, m < k → (cSubs (bkAt l t))[m]? = some y → (y.id == x) = false) (fun i _ => ns - (intOf i).toNat)
  case atStart => exact ⟨0, Nat.zero_le _, rfl, Below.refl _ _, fun m y hm => absurd hm (Nat.not_lt_zero _)⟩
  case round =>
    obtain ⟨k, hk, rfl, hbr, hno⟩ := hrel
    have HN := Lib.hid hno
    have hgr : w.heap.size < wr.heap.size := Nat.lt_of_lt_of_le hg5 hbr.size
    clear hno
    replace qa0 := (hbr.cell (p := ⟨w.heap.size, 0, none⟩) hg5).trans qa0
    replace qa1 := (hbr.cell (p := ⟨w.heap.size, 1, none⟩) hg5).trans qa1
    replace qa2 := (hbr.cell (p := ⟨w.heap.size, 2, none⟩) hg5).trans qa2
    replace qa3 := (hbr.cell (p := ⟨w.heap.size, 3, none⟩) hg5).trans qa3
    replace qa4 := (hbr.cell (p := ⟨w.heap.size, 4, none⟩) hg5).trans qa4
    replace qa5 := (hbr.cell (p := ⟨w.heap.size, 5, none⟩) hg5).trans qa5
    replace qa6 := (hbr.cell (p := ⟨w.heap.size, 6, none⟩) hg5).trans qa6
    replace qa7 := (hbr.cell (p := ⟨w.heap.size, 7, none⟩) hg5).trans qa7
    replace qfa := fun j => (hbr.frozen (p := ⟨w.heap.size, j, none⟩) hg5).trans (qfa j)
    by_cases hlt : k < ns
    · obtain ⟨b0, off, hAe, hbl, hcells⟩ := HXS.out.baseIn hbr (by omega)
      obtain ⟨v, hv⟩ := HXS.out.get hlt
      obtain ⟨y, hy, hsr⟩ := HALL.out.at_ hv
      have hbl2 : b0 < wr.heap.size := Nat.lt_of_lt_of_le hbl hbr.size
      have ev0 : wr.cell? ⟨b0, off + k * 8, none⟩ = some (.int .i64 v.id) := Sl.at_ hcells hv 0 rfl
      have ev1 : wr.cell? ⟨b0, off + k * 8 + 1, none⟩ = some (.int .i64 v.acc) := Sl.at_ hcells hv 1 rfl
      have ev2 : wr.cell? ⟨b0, off + k * 8 + 2, none⟩ = some (.int .i64 v.since) := Sl.at_ hcells hv 2 rfl
      have ev3 : wr.cell? ⟨b0, off + k * 8 + 3, none⟩ = some (.string v.plan) := Sl.at_ hcells hv 3 rfl
      have ev4 : wr.cell? ⟨b0, off + k * 8 + 4, none⟩ = some (.slice v.An v.nn v.cn) := Sl.at_ hcells hv 4 rfl
      have ev5 : wr.cell? ⟨b0, off + k * 8 + 5, none⟩ = some (.slice v.Ap v.np v.cp) := Sl.at_ hcells hv 5 rfl
      have ev6 : wr.cell? ⟨b0, off + k * 8 + 6, none⟩ = some (.bool v.susp) := Sl.at_ hcells hv 6 rfl
      have ev7 : wr.cell? ⟨b0, off + k * 8 + 7, none⟩ = some (.bool v.fam) := Sl.at_ hcells hv 7 rfl
      have HSR := Lib.hid hsr
      have HY := Lib.hid hy
      have HID := Lib.hid hsr.id
      subst hAe
      clear hcells hv hsr hy
      go_upto_region 4 with (fail)
      (obtain ⟨X, hWX, hbX, hzX, f1X, efa⟩ := box1 wr #[.int .i64 v.id, .int .i64 v.acc, .int .i64 v.since, .string v.plan, .slice v.An v.nn v.cn, .slice v.Ap v.np v.cp, .bool v.susp, .bool v.fam] 51; rw [← hWX]; have ea0 : X.cell? ⟨wr.heap.size, 0, none⟩ = some (.int .i64 v.id) := f1X 0 _ rfl; have ea1 : X.cell? ⟨wr.heap.size, 1, none⟩ = some (.int .i64 v.acc) := f1X 1 _ rfl; have ea2 : X.cell? ⟨wr.heap.size, 2, none⟩ = some (.int .i64 v.since) := f1X 2 _ rfl; have ea3 : X.cell? ⟨wr.heap.size, 3, none⟩ = some (.string v.plan) := f1X 3 _ rfl; have ea4 : X.cell? ⟨wr.heap.size, 4, none⟩ = some (.slice v.An v.nn v.cn) := f1X 4 _ rfl; have ea5 : X.cell? ⟨wr.heap.size, 5, none⟩ = some (.slice v.Ap v.np v.cp) := f1X 5 _ rfl; have ea6 : X.cell? ⟨wr.heap.size, 6, none⟩ = some (.bool v.susp) := f1X 6 _ rfl; have ea7 : X.cell? ⟨wr.heap.size, 7, none⟩ = some (.bool v.fam) := f1X 7 _ rfl; clear hWX f1X)
      have hbwX := hbw5.trans ((hbr.trans (hbX.mono hbr.size)).mono hbw5.size)
      by_cases heq : v.id = x
      · subst heq
        have HF := Lib.hid (show (cSubs (bkAt l t)).find? (fun y => y.id == v.id) = some y from findAt HY.out (by simp [HID.out]) HN.out)
        have r0 := (hbX.cell (p := ⟨w.heap.size, 0, none⟩) hgr).trans qa0
        have r1 := (hbX.cell (p := ⟨w.heap.size, 1, none⟩) hgr).trans qa1
        have r2 := (hbX.cell (p := ⟨w.heap.size, 2, none⟩) hgr).trans qa2
        have r3 := (hbX.cell (p := ⟨w.heap.size, 3, none⟩) hgr).trans qa3
        have r4 := (hbX.cell (p := ⟨w.heap.size, 4, none⟩) hgr).trans qa4
        have r5 := (hbX.cell (p := ⟨w.heap.size, 5, none⟩) hgr).trans qa5
        have r6 := (hbX.cell (p := ⟨w.heap.size, 6, none⟩) hgr).trans qa6
        have r7 := (hbX.cell (p := ⟨w.heap.size, 7, none⟩) hgr).trans qa7
        have rf := fun j => (hbX.frozen (p := ⟨w.heap.size, j, none⟩) hgr).trans (qfa j)
        have hgX : w.heap.size < X.heap.size := Nat.lt_of_lt_of_le hgr hbX.size
        have HSX := Lib.hid (HSR.out.on (hbr.trans (hbX.mono hbr.size)))
        go_wp2_with fail
        have hr := setRun_is (vs := [.int .i64 v.id, .int .i64 v.acc, .int .i64 v.since, .string v.plan, .slice v.An v.nn v.cn, .slice v.Ap v.np v.cp, .bool v.susp, .bool v.fam]) (eight r0 r1 r2 r3 r4 r5 r6 r7) (Nat.le_refl _)
        refine bodyPost_ret (results_cells2 (fn := Try.f34) (P := Try.prog) (p := 6) (u := 7) (ty := 51) rfl _ _ w.heap.size ⟨[.int .i64 v.id, .int .i64 v.acc, .int .i64 v.since, .string v.plan, .slice v.An v.nn v.cn, .slice v.Ap v.np v.cp, .bool v.susp, .bool v.fam]⟩ _ ?a1 ?a2 rfl rfl rfl) ?a3 ?_
        case a1 => rfl
        case a2 => exact hr
        case a3 => rfl
        rw [HF.out]
        have hbE : Below w.heap.size w (setRun X w.heap.size 0 [.int .i64 v.id, .int .i64 v.acc, .int .i64 v.since, .string v.plan, .slice v.An v.nn v.cn, .slice v.Ap v.np v.cp, .bool v.susp, .bool v.fam]) := setRun_below _ _ _ hbwX (Nat.le_refl _)
        have hSE : SR (setRun X w.heap.size 0 [.int .i64 v.id, .int .i64 v.acc, .int .i64 v.since, .string v.plan, .slice v.An v.nn v.cn, .slice v.Ap v.np v.cp, .bool v.susp, .bool v.fam]) v y := SR.setRunNe [.int .i64 v.id, .int .i64 v.acc, .int .i64 v.since, .string v.plan, .slice v.An v.nn v.cn, .slice v.Ap v.np v.cp, .bool v.susp, .bool v.fam] 0 HSX.out (old8 (cSubs_ne (bkAt_ne HV.out t) y (List.mem_of_getElem? HY.out)) r0 r1 r2 r3 r4 r5 r6 r7)
        exact ⟨⟨v, rfl, hSE⟩, hbE⟩
      · go_wp2_with fail
        go_roundw
        case rel =>
          refine ⟨k + 1, by omega, by go_num, hbr.trans (hbX.mono hbr.size), fun m z hm hz => ?_⟩
          by_cases hmk : m = k
          · subst hmk
            have h2 := HY.out
            rw [hz] at h2
            cases h2
            simpa [← HID.out] using heq
          · exact HN.out m z (by omega) hz
        case measure => simp [intOf]; omega
    · obtain rfl : ns = k := by omega
      have hkn : ¬ ((ns : Int) < (ns : Int)) := by omega
      have HF := Lib.hid (show (cSubs (bkAt l t)).find? (fun y => y.id == x) = none from findNone fun m y hy => HN.out m y (by have := (List.getElem?_eq_some_iff.1 hy).1; have := HLN.out; omega) hy)
      have hbwr := hbw5.trans (hbr.mono hbw5.size)
      go_wp2_with fail
      have hr := setRun_is (vs := [.int .i64 0, .int .i64 0, .int .i64 0, .string ⟨#[]⟩, .slice none 0 0, .slice none 0 0, .bool false, .bool false]) (eight qa0 qa1 qa2 qa3 qa4 qa5 qa6 qa7) (Nat.le_refl _)
      refine bodyPost_ret (results_cells2 (fn := Try.f34) (P := Try.prog) (p := 6) (u := 7) (ty := 51) rfl _ _ w.heap.size ⟨[.int .i64 0, .int .i64 0, .int .i64 0, .string ⟨#[]⟩, .slice none 0 0, .slice none 0 0, .bool false, .bool false]⟩ _ ?a1 ?a2 rfl rfl rfl) ?a3 ?_
      case a1 => rfl
      case a2 => exact hr
      case a3 => rfl
      rw [HF.out]
      exact ⟨⟨sv0, rfl, (sv0_sr _ (fun _ => True)).1⟩, setRun_below [.int .i64 0, .int .i64 0, .int .i64 0, .string ⟨#[]⟩, .slice none 0 0, .slice none 0 0, .bool false, .bool false] _ _ hbwr (Nat.le_refl _)⟩
set_option maxHeartbeats 4000000 in
theorem Account_any (A : Option Addr) (n c : Nat) (l : List Ev) (x t : Int) (w : World) (hs : Sl w A n c l) (hv : Vl l) (hz : SzOk l) :
    Calls Try.prog 32 #[.slice A n c, .int .i64 x, .int .i64 t] w fun r w' => (∃ v : Av, r = .returned (.tuple #[v.val, .bool ((cAccs (bkAt l t)).find? (fun y => y.1.id == x)).isSome]) ∧ AR w' v (((cAccs (bkAt l t)).find? (fun y => y.1.id == x)).getD (ac0, []))) ∧ Below w.heap.size w w' := by
  have HS := Lib.hid hs
  have HV := Lib.hid hv
  have HZ := Lib.hid hz
  clear hs hv hz
  have hfl0 := fld0
  have hfl1 := fld1
  go_enter Try.func32, Try.ntmps32
  go_upto_region 1 with (fail)
  (obtain ⟨V, hWV, hbV, hzV, f1V, qfa⟩ := box1 w #[.int .i64 0, .int .i64 0, .int .i64 0, .bool false, .bool false, .slice none 0 0] 46; rw [← hWV]; have qa0 : V.cell? ⟨w.heap.size, 0, none⟩ = some (.int .i64 0) := f1V 0 _ rfl; have qa1 : V.cell? ⟨w.heap.size, 1, none⟩ = some (.int .i64 0) := f1V 1 _ rfl; have qa2 : V.cell? ⟨w.heap.size, 2, none⟩ = some (.int .i64 0) := f1V 2 _ rfl; have qa3 : V.cell? ⟨w.heap.size, 3, none⟩ = some (.bool false) := f1V 3 _ rfl; have qa4 : V.cell? ⟨w.heap.size, 4, none⟩ = some (.bool false) := f1V 4 _ rfl; have qa5 : V.cell? ⟨w.heap.size, 5, none⟩ = some (.slice none 0 0) := f1V 5 _ rfl; clear hWV f1V)
  go_wp2_with (go_at_call 27; go_must (refine (State_vl A n c l t _ (HS.out.below hbV) HV.out HZ.out).mono ?_; rintro r w5 ⟨Aa, na, ca, As, ns, cs, rfl, hla, hls, hb5⟩; have hbw5 := hbV.trans (hb5.mono hbV.size); replace qa0 := (hb5.cell (p := ⟨w.heap.size, 0, none⟩) hzV).trans qa0; replace qa1 := (hb5.cell (p := ⟨w.heap.size, 1, none⟩) hzV).trans qa1; replace qa2 := (hb5.cell (p := ⟨w.heap.size, 2, none⟩) hzV).trans qa2; replace qa3 := (hb5.cell (p := ⟨w.heap.size, 3, none⟩) hzV).trans qa3; replace qa4 := (hb5.cell (p := ⟨w.heap.size, 4, none⟩) hzV).trans qa4; replace qa5 := (hb5.cell (p := ⟨w.heap.size, 5, none⟩) hzV).trans qa5; replace qfa := fun j => (hb5.frozen (p := ⟨w.heap.size, j, none⟩) hzV).trans (qfa j); have hg5 : w.heap.size < w5.heap.size := Nat.lt_of_lt_of_le hzV hb5.size; have HL := Lib.hid hla; clear hb5 hla hls))
  obtain ⟨hN0, xs, hxs, hall⟩ := HL.out
  have HXS := Lib.hid hxs
  have HALL := Lib.hid hall
  have hln : (cAccs (bkAt l t)).length = na := HL.out.len
  have hnm := hxs.nmax
  have HLN := Lib.hid hln
  clear hN0 hxs hall hln
  go_loopw [15] (fun i wr => ∃ k : Nat, k ≤ na ∧ i = .int .i64 k ∧ Below w5.heap.size w5 wr ∧ ∀ (m : Nat) y, m < k → (cAccs (bkAt l t))[m]? = some y → (y.1.id == x) = false) (fun i _ => na - (intOf i).toNat)
  case atStart => exact ⟨0, Nat.zero_le _, rfl, Below.refl _ _, fun m y hm => absurd hm (Nat.not_lt_zero _)⟩
  case round =>
    obtain ⟨k, hk, rfl, hbr, hno⟩ := hrel
    have HN := Lib.hid hno
    have hgr : w.heap.size < wr.heap.size := Nat.lt_of_lt_of_le hg5 hbr.size
    clear hno
    replace qa0 := (hbr.cell (p := ⟨w.heap.size, 0, none⟩) hg5).trans qa0
    replace qa1 := (hbr.cell (p := ⟨w.heap.size, 1, none⟩) hg5).trans qa1
    replace qa2 := (hbr.cell (p := ⟨w.heap.size, 2, none⟩) hg5).trans qa2
    replace qa3 := (hbr.cell (p := ⟨w.heap.size, 3, none⟩) hg5).trans qa3
    replace qa4 := (hbr.cell (p := ⟨w.heap.size, 4, none⟩) hg5).trans qa4
    replace qa5 := (hbr.cell (p := ⟨w.heap.size, 5, none⟩) hg5).trans qa5
    replace qfa := fun j => (hbr.frozen (p := ⟨w.heap.size, j, none⟩) hg5).trans (qfa j)
    by_cases hlt : k < na
    · obtain ⟨b0, off, hAe, hbl, hcells⟩ := HXS.out.baseIn hbr (by omega)
      obtain ⟨v, hv⟩ := HXS.out.get hlt
      obtain ⟨y, hy, hsr⟩ := HALL.out.at_ hv
      have hbl2 : b0 < wr.heap.size := Nat.lt_of_lt_of_le hbl hbr.size
      have ev0 : wr.cell? ⟨b0, off + k * 6, none⟩ = some (.int .i64 v.id) := Sl.at_ hcells hv 0 rfl
      have ev1 : wr.cell? ⟨b0, off + k * 6 + 1, none⟩ = some (.int .i64 v.since) := Sl.at_ hcells hv 1 rfl
      have ev2 : wr.cell? ⟨b0, off + k * 6 + 2, none⟩ = some (.int .i64 v.anchor) := Sl.at_ hcells hv 2 rfl
      have ev3 : wr.cell? ⟨b0, off + k * 6 + 3, none⟩ = some (.bool v.prepaid) := Sl.at_ hcells hv 3 rfl
      have ev4 : wr.cell? ⟨b0, off + k * 6 + 4, none⟩ = some (.bool v.closed) := Sl.at_ hcells hv 4 rfl
      have ev5 : wr.cell? ⟨b0, off + k * 6 + 5, none⟩ = some (.slice v.A v.n v.c) := Sl.at_ hcells hv 5 rfl
      have HSR := Lib.hid hsr
      have HY := Lib.hid hy
      have HID := Lib.hid hsr.id
      subst hAe
      clear hcells hv hsr hy
      go_upto_region 4 with (fail)
      (obtain ⟨X, hWX, hbX, hzX, f1X, efa⟩ := box1 wr #[.int .i64 v.id, .int .i64 v.since, .int .i64 v.anchor, .bool v.prepaid, .bool v.closed, .slice v.A v.n v.c] 46; rw [← hWX]; have ea0 : X.cell? ⟨wr.heap.size, 0, none⟩ = some (.int .i64 v.id) := f1X 0 _ rfl; have ea1 : X.cell? ⟨wr.heap.size, 1, none⟩ = some (.int .i64 v.since) := f1X 1 _ rfl; have ea2 : X.cell? ⟨wr.heap.size, 2, none⟩ = some (.int .i64 v.anchor) := f1X 2 _ rfl; have ea3 : X.cell? ⟨wr.heap.size, 3, none⟩ = some (.bool v.prepaid) := f1X 3 _ rfl; have ea4 : X.cell? ⟨wr.heap.size, 4, none⟩ = some (.bool v.closed) := f1X 4 _ rfl; have ea5 : X.cell? ⟨wr.heap.size, 5, none⟩ = some (.slice v.A v.n v.c) := f1X 5 _ rfl; clear hWX f1X)
      have hbwX := hbw5.trans ((hbr.trans (hbX.mono hbr.size)).mono hbw5.size)
      by_cases heq : v.id = x
      · subst heq
        have HF := Lib.hid (show (cAccs (bkAt l t)).find? (fun y => y.1.id == v.id) = some y from findAt HY.out (by simp [HID.out]) HN.out)
        have r0 := (hbX.cell (p := ⟨w.heap.size, 0, none⟩) hgr).trans qa0
        have r1 := (hbX.cell (p := ⟨w.heap.size, 1, none⟩) hgr).trans qa1
        have r2 := (hbX.cell (p := ⟨w.heap.size, 2, none⟩) hgr).trans qa2
        have r3 := (hbX.cell (p := ⟨w.heap.size, 3, none⟩) hgr).trans qa3
        have r4 := (hbX.cell (p := ⟨w.heap.size, 4, none⟩) hgr).trans qa4
        have r5 := (hbX.cell (p := ⟨w.heap.size, 5, none⟩) hgr).trans qa5
        have rf := fun j => (hbX.frozen (p := ⟨w.heap.size, j, none⟩) hgr).trans (qfa j)
        have hgX : w.heap.size < X.heap.size := Nat.lt_of_lt_of_le hgr hbX.size
        have HSX := Lib.hid (HSR.out.on (hbr.trans (hbX.mono hbr.size)))
        go_wp2_with fail
        have hr := setRun_is (vs := [.int .i64 v.id, .int .i64 v.since, .int .i64 v.anchor, .bool v.prepaid, .bool v.closed, .slice v.A v.n v.c]) (six r0 r1 r2 r3 r4 r5) (Nat.le_refl _)
        refine bodyPost_ret (results_cells2 (fn := Try.f32) (P := Try.prog) (p := 6) (u := 7) (ty := 46) rfl _ _ w.heap.size ⟨[.int .i64 v.id, .int .i64 v.since, .int .i64 v.anchor, .bool v.prepaid, .bool v.closed, .slice v.A v.n v.c]⟩ _ ?a1 ?a2 rfl rfl rfl) ?a3 ?_
        case a1 => rfl
        case a2 => exact hr
        case a3 => rfl
        rw [HF.out]
        have hbE : Below w.heap.size w (setRun X w.heap.size 0 [.int .i64 v.id, .int .i64 v.since, .int .i64 v.anchor, .bool v.prepaid, .bool v.closed, .slice v.A v.n v.c]) := setRun_below _ _ _ hbwX (Nat.le_refl _)
        have hSE : AR (setRun X w.heap.size 0 [.int .i64 v.id, .int .i64 v.since, .int .i64 v.anchor, .bool v.prepaid, .bool v.closed, .slice v.A v.n v.c]) v y := AR.setRunNe [.int .i64 v.id, .int .i64 v.since, .int .i64 v.anchor, .bool v.prepaid, .bool v.closed, .slice v.A v.n v.c] 0 HSX.out (old6 (fun z hz => (cAccs_rng y (List.mem_of_getElem? HY.out) z hz).1) r0 r1 r2 r3 r4 r5)
        exact ⟨⟨v, rfl, hSE⟩, hbE⟩
      · go_wp2_with fail
        go_roundw
        case rel =>
          refine ⟨k + 1, by omega, by go_num, hbr.trans (hbX.mono hbr.size), fun m z hm hz => ?_⟩
          by_cases hmk : m = k
          · subst hmk
            have h2 := HY.out
            rw [hz] at h2
            cases h2
            simpa [← HID.out] using heq
          · exact HN.out m z (by omega) hz
        case measure => simp [intOf]; omega
    · obtain rfl : na = k := by omega
      have hkn : ¬ ((na : Int) < (na : Int)) := by omega
      have HF := Lib.hid (show (cAccs (bkAt l t)).find? (fun y => y.1.id == x) = none from findNone fun m y hy => HN.out m y (by have := (List.getElem?_eq_some_iff.1 hy).1; have := HLN.out; omega) hy)
      have hbwr := hbw5.trans (hbr.mono hbw5.size)
      go_wp2_with fail
      have hr := setRun_is (vs := [.int .i64 0, .int .i64 0, .int .i64 0, .bool false, .bool false, .slice none 0 0]) (six qa0 qa1 qa2 qa3 qa4 qa5) (Nat.le_refl _)
      refine bodyPost_ret (results_cells2 (fn := Try.f32) (P := Try.prog) (p := 6) (u := 7) (ty := 46) rfl _ _ w.heap.size ⟨[.int .i64 0, .int .i64 0, .int .i64 0, .bool false, .bool false, .slice none 0 0]⟩ _ ?a1 ?a2 rfl rfl rfl) ?a3 ?_
      case a1 => rfl
      case a2 => exact hr
      case a3 => rfl
      rw [HF.out]
      exact ⟨⟨⟨0, 0, 0, false, false, none, 0, 0⟩, rfl, ⟨rfl, rfl, rfl, rfl, rfl, fun _ => rfl, Sl.nil_ _⟩⟩, setRun_below [.int .i64 0, .int .i64 0, .int .i64 0, .bool false, .bool false, .slice none 0 0] _ _ hbwr (Nat.le_refl _)⟩
end Cu
end Go.Proofs.Yteaanngagcflhaa
