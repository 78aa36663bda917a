/-
  Customers: the reference's State. No condition.
-/
import Derived.Test.YteaanngagcflhaaCuAI
import Derived.Test.YteaanngagcflhaaCuAK
import Derived.Test.YteaanngagcflhaaCuBA
import Derived.BigQuiet
import Derived.StillTailTactics
import Derived.Lib.Overlaps
import Derived.Deep.DeepCutAuto
import Derived.Deep.RegionWith
import Derived.Laws.RangeAny
import Derived.Deep.RegionHeld
import Derived.Deep.RegionHeldLaw
import Derived.Deep.DeepCutAuto
set_option maxRecDepth 100000
set_option linter.unusedVariables false
set_option linter.unusedSimpArgs false
namespace Go.Proofs.Yteaanngagcflhaa
open Go.RowKit

namespace Cu
/-- the box of customers -/
def Cx (w : World) (g : Nat) (va vs : Value) : Prop := w.heap[g]? = some (.cells #[va, vs] 32 (0, 0))
section
variable {w w' : World} {g : Nat} {va vs : Value}
theorem Cx.lt (h : Cx w g va vs) : g < w.heap.size := (Array.getElem?_eq_some_iff.1 h).1
theorem Cx.c0 (h : Cx w g va vs) : w.cell? ⟨g, 0, none⟩ = some va := by unfold Cx at h; simp [World.cell?, h]
theorem Cx.c1 (h : Cx w g va vs) : w.cell? ⟨g, 1, none⟩ = some vs := by unfold Cx at h; simp [World.cell?, h]
theorem Cx.fz (h : Cx w g va vs) (j : Nat) : w.frozen? ⟨g, j, none⟩ = false := by unfold Cx at h; simp [World.frozen?, h]
theorem Cx.below (h : Cx w g va vs) (hb : Below w.heap.size w w') : Cx w' g va vs := (hb.block g h.lt).trans h
theorem Cx.under {B : Nat} (h : Cx w g va vs) (hb : Below B w w') (hg : g < B) : Cx w' g va vs := (hb.block g hg).trans h
theorem Cx.upd {α : Type} [Flat α] {B : Nat} {e : TypeId} {v u : Value} {xs : List α} (h : Cx w g va vs) (ho : Ow w B e v xs) (hne : e ≠ 32) (hu : Upd w w' v u) : Cx w' g va vs :=
  (hu.grew.block g h.lt (fun e => ow_ty ho h hne e.symm)).trans h
theorem Cx.set0 (h : Cx w g va vs) (u : Value) : Cx (w.setCell ⟨g, 0, none⟩ u) g u vs := blk_setCell h 0 u
theorem Cx.set1 (h : Cx w g va vs) (u : Value) : Cx (w.setCell ⟨g, 1, none⟩ u) g va u := blk_setCell h 1 u
theorem Cx.keepO {α : Type} [Flat α] {B : Nat} {e : TypeId} {v : Value} {xs : List α} (h : Cx w g va vs) (ho : Ow w B e v xs) (hne : e ≠ 32) (o : Nat) (u : Value) : Ow (w.setCell ⟨g, o, none⟩ u) B e v xs :=
  World.ownsRow.kept ho (Lib.grownBy_setCell w g o u) (.inr (ow_ty ho h hne))
end
theorem blk2 (w : World) (o1 o2 : Obj) : ((w.alloc o1).alloc o2).heap[w.heap.size + 1]? = some o2 := by
  have h := World.alloc_heap_new (w.alloc o1) o2
  rwa [World.size_alloc] at h
/-- an account in memory, its subscriptions a row of the call's own -/
def AO (w : World) (C : Nat) (t : Av) (y : Ac × List Int) : Prop := t.id = y.1.id ∧ t.since = y.1.since ∧ t.anchor = y.1.anchor ∧ t.prepaid = y.1.prepaid ∧ t.closed = y.1.closed ∧ Ow w C 3 (.slice t.A t.n t.c) y.2
theorem AO.to {w w' : World} {C C' : Nat} {t : Av} {y : Ac × List Int} (h : AO w C t y) (k : Ow w C 3 (.slice t.A t.n t.c) y.2 → Ow w' C' 3 (.slice t.A t.n t.c) y.2) : AO w' C' t y := ⟨h.1, h.2.1, h.2.2.1, h.2.2.2.1, h.2.2.2.2.1, k h.2.2.2.2.2⟩
theorem AO.ar {w : World} {C : Nat} {t : Av} {y : Ac × List Int} (h : AO w C t y) : AR w t y := ⟨h.1, h.2.1, h.2.2.1, h.2.2.2.1, h.2.2.2.2.1, (rowLS h.2.2.2.2.2).1, (rowLS h.2.2.2.2.2).2⟩
theorem rk_none {β : Type} {f : Int → Option β} {k : Nat} (h : f ((k : Int) + 1) = none) : (rngK (k + 1)).filterMap f = (rngK k).filterMap f := by
  rw [rngK_succ, List.filterMap_append]; simp [h]
theorem rk_some {β : Type} {f : Int → Option β} {k : Nat} {x : β} (h : f ((k : Int) + 1) = some x) : (rngK (k + 1)).filterMap f = (rngK k).filterMap f ++ [x] := by
  rw [rngK_succ, List.filterMap_append]; simp [h]
theorem cOf_take {l : List Sb} {i : Nat} {t : Sb} (h : l[i]? = some t) (n : Int) : cOf (l.take (i + 1)) n = cOf (l.take i) n ++ if t.acc = n then [t.id] else [] := by
  unfold cOf
  rw [List.take_add_one, h, List.filter_append, List.map_append]
  by_cases hn : t.acc = n
  · rw [if_pos hn]; simp [hn]
  · rw [if_neg hn]; simp [hn]
theorem Ow.lower {α : Type} [Flat α] {w : World} {B B' : Nat} {e : TypeId} {v : Value} {xs : List α} (h : Ow w B e v xs) (hB : B' ≤ B) : Ow w B' e v xs := by
  refine ⟨h.1, ?_⟩
  rcases h.2 with hn | ⟨g, cap, cur, hv, hb, rest⟩
  · exact .inl hn
  · exact .inr ⟨g, cap, cur, hv, Nat.le_trans hB hb, rest⟩
/-- the box of an account -/
def Ax (w : World) (g : Nat) (ac : Ac) (A : Option Addr) (n c : Nat) : Prop := w.heap[g]? = some (.cells #[.int .i64 ac.id, .int .i64 ac.since, .int .i64 ac.anchor, .bool ac.prepaid, .bool ac.closed, .slice A n c] 46 (0, 0))
section
variable {w w' : World} {g : Nat} {ac : Ac} {A : Option Addr} {n c : Nat}
theorem Ax.lt (h : Ax w g ac A n c) : g < w.heap.size := (Array.getElem?_eq_some_iff.1 h).1
theorem Ax.cel (h : Ax w g ac A n c) : w.cell? ⟨g, 0, none⟩ = some (.int .i64 ac.id) ∧ w.cell? ⟨g, 1, none⟩ = some (.int .i64 ac.since) ∧ w.cell? ⟨g, 2, none⟩ = some (.int .i64 ac.anchor) ∧ w.cell? ⟨g, 3, none⟩ = some (.bool ac.prepaid) ∧ w.cell? ⟨g, 4, none⟩ = some (.bool ac.closed) ∧ w.cell? ⟨g, 5, none⟩ = some (.slice A n c) := by unfold Ax at h; simp [World.cell?, h]
theorem Ax.fz (h : Ax w g ac A n c) (j : Nat) : w.frozen? ⟨g, j, none⟩ = false := by unfold Ax at h; simp [World.frozen?, h]
theorem Ax.below (h : Ax w g ac A n c) (hb : Below w.heap.size w w') : Ax w' g ac A n c := (hb.block g h.lt).trans h
theorem Ax.upd {α : Type} [Flat α] {B : Nat} {e : TypeId} {v u : Value} {xs : List α} (h : Ax w g ac A n c) (ho : Ow w B e v xs) (hne : e ≠ 46) (hu : Upd w w' v u) : Ax w' g ac A n c :=
  (hu.grew.block g h.lt (fun e => ow_ty ho h hne e.symm)).trans h
theorem Ax.set5 (h : Ax w g ac A n c) (A' : Option Addr) (n' c' : Nat) : Ax (w.setCell ⟨g, 5, none⟩ (.slice A' n' c')) g ac A' n' c' := blk_setCell h 5 _
theorem Ax.keepO {α : Type} [Flat α] {B : Nat} {e : TypeId} {v : Value} {xs : List α} (h : Ax w g ac A n c) (ho : Ow w B e v xs) (hne : e ≠ 46) (o : Nat) (u : Value) : Ow (w.setCell ⟨g, o, none⟩ u) B e v xs :=
  World.ownsRow.kept ho (Lib.grownBy_setCell w g o u) (.inr (ow_ty ho h hne))
end
def L3 (V : World) (Z : Nat) (ac : Ac) (l : List Sb) (n : Int) (i : Nat) (wx : World) : Prop := ∃ Ag ng cg, Ow wx Z 3 (.slice Ag ng cg) (cOf (l.take i) n) ∧ Below Z V wx ∧ Ax wx Z ac Ag ng cg
def L1 (w5 W : World) (D : Nat) (b : Bk) (k : Nat) (wr : World) : Prop := ∃ As ns cs xs, Ow wr (D + 1) 51 (.slice As ns cs) xs ∧ All2 (SR w5) xs ((rngK k).filterMap (liveS b)) ∧ Below (D + 1) W wr ∧ Cx wr (D + 1) (.slice none 0 0) (.slice As ns cs)
def L2 (W : World) (D : Nat) (b : Bk) (As : Option Addr) (ns cs : Nat) (xs : List Sv) (k : Nat) (wr : World) : Prop := ∃ Aa na ca xa, Ow wr (D + 1) 46 (.slice Aa na ca) xa ∧ Ow wr (D + 1) 51 (.slice As ns cs) xs ∧ All2 (AO wr (D + 1)) xa ((rngK k).filterMap (cAcc b)) ∧ Below (D + 1) W wr ∧ Cx wr (D + 1) (.slice Aa na ca) (.slice As ns cs)
set_option maxHeartbeats 64000000 in
theorem rState_any (A : Option Addr) (n c : Nat) (l : List Ev) (t : Int) (w : World) (hs : Sl w A n c l) (hv : Vl l) :
    Calls Try.prog 28 #[.slice A n c, .int .i64 t] w fun r w' => ∃ Aa na ca As ns cs, r = .returned (.agg #[.slice Aa na ca, .slice As ns cs]) ∧ LAc w' Aa na ca (cAccs (bkAt l t)) ∧ LSb w' As ns cs (cSubs (bkAt l t)) ∧ Below w.heap.size w w' := by
  have HS := Lib.hid hs
  have HV := Lib.hid hv
  have HBOK := Lib.hid (at_inv hv t).2
  have HSZ := Lib.hid (bkAt_sz hv t)
  obtain ⟨b, hb⟩ : ∃ b, bkAt l t = b := ⟨_, rfl⟩
  have HB := Lib.hid hb
  rw [hb] at HBOK HSZ ⊢
  clear hs hv hb
  go_enter Try.func28, Try.ntmps28
  go_upto_region 1 with (fail)
  (obtain ⟨V, hWV, hbV, hzV, f1V, qfa⟩ := box1 w #[.slice none 0 0, .slice none 0 0] 32; rw [← hWV]; have qa0 : V.cell? ⟨w.heap.size, 0, none⟩ = some (.slice none 0 0) := f1V 0 _ rfl; have qa1 : V.cell? ⟨w.heap.size, 1, none⟩ = some (.slice none 0 0) := f1V 1 _ rfl; clear hWV f1V)
  go_upto_region 3 with (go_at_call 76; go_must (refine (rUpto_any A n c l t _ (HS.out.below hbV) HV.out).mono ?_; rintro r w5 ⟨⟨A1, n1, c1, A2, n2, c2, A3, n3, c3, rfl, hbr⟩, hb5⟩; rw [HB.out] at hbr; have HBR := Lib.hid hbr; clear hbr))
  have hgD : w.heap.size < w5.heap.size := Nat.lt_of_lt_of_le hzV hb5.size
  have hbw5 := hbV.trans (hb5.mono hbV.size)
  replace qa0 := (hb5.cell (p := ⟨w.heap.size, 0, none⟩) hzV).trans qa0
  replace qa1 := (hb5.cell (p := ⟨w.heap.size, 1, none⟩) hzV).trans qa1
  replace qfa := fun j => (hb5.frozen (p := ⟨w.heap.size, j, none⟩) hzV).trans (qfa j)
  clear hb5 hbV hzV
  obtain ⟨D, hD⟩ : ∃ D, D = w5.heap.size := ⟨_, rfl⟩
  obtain ⟨W, hWW, hbW, hzW, f1W, f2W, pfa, pfb⟩ := box2 w5 #[.slice A1 n1 c1, .slice A2 n2 c2, .slice A3 n3 c3] 99 #[.slice none 0 0, .slice none 0 0] 32
  rw [← hWW]
  have hCx : Cx W (D + 1) (.slice none 0 0) (.slice none 0 0) := by rw [hWW, hD]; exact blk2 _ _ _
  rw [← hD] at hbW hzW f1W pfa hgD ⊢
  have pa0 := f1W 0 _ rfl
  have pa1 := f1W 1 _ rfl
  have pa2 := f1W 2 _ rfl
  have HCX := Lib.hid hCx
  have hzD : D + 1 < W.heap.size := hCx.lt
  have HDW : Hid (D = w5.heap.size) := Lib.hid hD
  have HWB : Hid (Below w5.heap.size w5 W) := Lib.hid (hbW.mono (by omega))
  have HRES : Hid (W.cell? ⟨w.heap.size, 0, none⟩ = some (.slice none 0 0) ∧ W.cell? ⟨w.heap.size, 1, none⟩ = some (.slice none 0 0) ∧ ∀ j, W.frozen? ⟨w.heap.size, j, none⟩ = false) := Lib.hid ⟨cl hbW qa0, cl hbW qa1, cz hbW qfa⟩
  have hwW : Below w.heap.size w W := hbw5.trans (hbW.mono (by omega))
  have hDW : w.heap.size < D := hgD
  obtain ⟨hN2, ys, hys, hall⟩ := HBR.out.s
  have HYS := Lib.hid hys
  have HALL := Lib.hid hall
  have hl1 := HBR.out.a.len
  have hl2 := hys.len
  have hl3 := HBR.out.e.len
  have hm1 : n1 ≤ 40 := by have := HSZ.out.a; omega
  have hm2 : n2 ≤ 40 := by have := HSZ.out.s; have := hall.1; omega
  have hm3 : n3 ≤ 40 := by have := HSZ.out.e; omega
  have hL2 : b.subs.length = n2 := by have := hall.1; omega
  clear hys hall hN2 hWW f1W f2W pfb qa0 qa1 qfa hCx hD hgD
  have hwrp : IntKind.i64.wrap ((n2 : Int) - (n3 : Int)) = (n2 : Int) - (n3 : Int) := IntWalk.i64_in _ (by omega)
  have HLN : Hid (b.accs.length = n1 ∧ b.subs.length = n2 ∧ b.ended.length = n3) := Lib.hid ⟨hl1, hL2, hl3⟩
  clear hl1 hl2 hl3 hL2
  go_wp2_with fail
  go_loopw [7] (fun i wr => ∃ k : Nat, k ≤ 9999 ∧ i = .int .i64 ((k : Int) + 1) ∧ L1 w5 W D b k wr) (fun i _ => 20000 - (intOf i).toNat)
  case atStart => exact ⟨0, Nat.zero_le _, rfl, none, 0, 0, [], Ow.nil_ _ _ _, All2.nil_, Below.refl _ _, HCX.out⟩
  case round =>
    obtain ⟨k, hk, rfl, As, ns, cs, xs, how, hal, hbr, hcx⟩ := hrel
    have hlx : xs.length = ns := (rowLS how).2.len
    have hns : ns ≤ 40 := by have := hal.1; have := (List.IsPrefix.length_le ((rngK_prefix hk).filterMap (liveS b))); have := subs_len HBOK.out; have := HLN.out; omega
    have HOW := Lib.hid how
    have HAL := Lib.hid hal
    have HC := Lib.hid hcx
    have x0 := hcx.c0
    have x1 := hcx.c1
    have xf := hcx.fz
    have hlr := hcx.lt
    have ba0 := cl hbr pa0
    have ba1 := cl hbr pa1
    have ba2 := cl hbr pa2
    have HLX := Lib.hid hlx
    clear how hal hcx hlx
    have hmx : 9999 ≤ 9223372036854775806 := by decide
    have hkw : IntKind.i64.wrap ((k : Int) + 1 + 1) = (k : Int) + 1 + 1 := IntWalk.i64_in _ (by omega)
    go_upto_region 4 with (fail)
    go_cut [31] (fun v wx => v = .bool (decide (k < 9999 ∧ ns + n3 < n2)) ∧ wx = wr)
    case first =>
      by_cases h9 : k < 9999
      · have hk1 : (k : Int) + 1 ≤ 9999 := by omega
        go_wp2_with fail
        go_meet
        refine ⟨congrArg Value.bool ?_, rfl⟩
        rw [Bool.eq_iff_iff, decide_eq_true_eq, decide_eq_true_eq]
        omega
      · have hk1 : ¬ ((k : Int) + 1 ≤ 9999) := by omega
        go_wp2_with fail
        go_meet
        refine ⟨congrArg Value.bool ?_, rfl⟩
        symm
        rw [decide_eq_false_iff_not]
        omega
    case rest =>
    obtain ⟨rfl, rfl⟩ := hcut
    by_cases hgo : k < 9999 ∧ ns + n3 < n2
    · have hk1 : (k : Int) + 1 ≤ 9999 := by omega
      have hk2 : (ns : Int) < (n2 : Int) - (n3 : Int) := by omega
      rcases idxL_cases Sb.id b.subs ((k : Int) + 1) with ⟨hi, hf⟩ | ⟨j, sb, hi, hj, hx, hf, hid, hno⟩
      · have HI := Lib.hid hi
        have HQ := Lib.hid (rk_none (f := liveS b) (k := k) (by unfold liveS; rw [show findS b ((k : Int) + 1) = none from hf]; split <;> rfl))
        clear hi hf
        go_wp2_with (go_at_call 77; go_must (refine (rsub_any _ _ _ _ _ _ _ _ _ b ((k : Int) + 1) _ (HBR.out.on (HWB.out.trans (hbr.mono (by have := HDW.out; omega))))).mono ?_; rintro r w6 ⟨rfl, hb6⟩; rw [HI.out]))
        go_roundw
        case rel => exact ⟨k + 1, by omega, by go_num, As, ns, cs, xs, HOW.out.below hb6, by rw [HQ.out]; exact HAL.out, hbr.trans (hb6.mono (by omega)), HC.out.below hb6⟩
        case measure => simp [intOf]; omega
      · have HI := Lib.hid hi
        obtain ⟨v, hv⟩ : ∃ v, ys[j]? = some v := ⟨_, List.getElem?_eq_getElem (by have := HALL.out.1; omega)⟩
        have HSR := Lib.hid (HALL.out.2 j v sb hv hx)
        have hfs : findS b ((k : Int) + 1) = some sb := hf
        have hj2 : j < n2 := by have := HLN.out; omega
        obtain ⟨e, he⟩ : ∃ e, endedB b ((k : Int) + 1) = e := ⟨_, rfl⟩
        have HE := Lib.hid he
        have hlv : liveS b ((k : Int) + 1) = if e = true then none else some sb := by unfold liveS; rw [he, hfs]
        have HV2 := Lib.hid hv
        have hjn : (0 : Int) ≤ (j : Int) := by omega
        clear hi hf hid hno hx hfs he hv
        cases e
        case true =>
          have HQ := Lib.hid (rk_none (f := liveS b) (k := k) hlv)
          clear hlv
          go_wp2_with (first
            | (go_at_call 77; go_must (refine (rsub_any _ _ _ _ _ _ _ _ _ b ((k : Int) + 1) _ (HBR.out.on (HWB.out.trans (hbr.mono (by have := HDW.out; omega))))).mono ?_; rintro r w6 ⟨rfl, hb6⟩; rw [HI.out]; (have hbr6 := hbr.trans (hb6.mono (by omega))); (replace ba0 := cl hb6 ba0); (replace ba1 := cl hb6 ba1); (replace ba2 := cl hb6 ba2); (replace x1 := cl hb6 x1)))
            | (go_at_call 78; go_must (refine (rended_any _ _ _ _ _ _ _ _ _ b ((k : Int) + 1) _ (HBR.out.on (HWB.out.trans (hbr6.mono (by have := HDW.out; omega))))).mono ?_; rintro r w7 ⟨rfl, hb7⟩; rw [HE.out])))
          have hb67 := hb6.trans (hb7.mono hb6.size)
          go_roundw
          case rel => exact ⟨k + 1, by omega, by go_num, As, ns, cs, xs, HOW.out.below hb67, by rw [HQ.out]; exact HAL.out, hbr.trans (hb67.mono (by omega)), HC.out.below hb67⟩
          case measure => simp [intOf]; omega
        case false =>
          have HQ := Lib.hid (rk_some (f := liveS b) (k := k) hlv)
          clear hlv
          go_upto_region 8 with (first
            | (go_at_call 77; go_must (refine (rsub_any _ _ _ _ _ _ _ _ _ b ((k : Int) + 1) _ (HBR.out.on (HWB.out.trans (hbr.mono (by have := HDW.out; omega))))).mono ?_; rintro r w6 ⟨rfl, hb6⟩; rw [HI.out]; (have hbr6 := hbr.trans (hb6.mono (by omega))); (replace ba0 := cl hb6 ba0); (replace ba1 := cl hb6 ba1); (replace ba2 := cl hb6 ba2); (replace x1 := cl hb6 x1)))
            | (go_at_call 78; go_must (refine (rended_any _ _ _ _ _ _ _ _ _ b ((k : Int) + 1) _ (HBR.out.on (HWB.out.trans (hbr6.mono (by have := HDW.out; omega))))).mono ?_; rintro r w7 ⟨rfl, hb7⟩; rw [HE.out])))
          have hb67 := hb6.trans (hb7.mono hb6.size)
          have HO7 := Lib.hid (HOW.out.below hb67)
          have HC7 := Lib.hid (HC.out.below hb67)
          have hbr7 := hbr.trans (hb67.mono (by omega))
          replace x1 := HC7.out.c1
          replace xf := HC7.out.fz
          replace hlr := HC7.out.lt
          replace ba1 := cl hbr7 pa1
          obtain ⟨bb, off, hAe, hbl, hcells⟩ := HYS.out.baseIn (HWB.out.trans (hbr7.mono (by have := HDW.out; omega))) (by omega)
          subst hAe
          have ev0 : w7.cell? ⟨bb, off + j * 8, none⟩ = some (.int .i64 v.id) := Sl.at_ hcells HV2.out 0 rfl
          have ev1 : w7.cell? ⟨bb, off + j * 8 + 1, none⟩ = some (.int .i64 v.acc) := Sl.at_ hcells HV2.out 1 rfl
          have ev2 : w7.cell? ⟨bb, off + j * 8 + 2, none⟩ = some (.int .i64 v.since) := Sl.at_ hcells HV2.out 2 rfl
          have ev3 : w7.cell? ⟨bb, off + j * 8 + 3, none⟩ = some (.string v.plan) := Sl.at_ hcells HV2.out 3 rfl
          have ev4 : w7.cell? ⟨bb, off + j * 8 + 4, none⟩ = some (.slice v.An v.nn v.cn) := Sl.at_ hcells HV2.out 4 rfl
          have ev5 : w7.cell? ⟨bb, off + j * 8 + 5, none⟩ = some (.slice v.Ap v.np v.cp) := Sl.at_ hcells HV2.out 5 rfl
          have ev6 : w7.cell? ⟨bb, off + j * 8 + 6, none⟩ = some (.bool v.susp) := Sl.at_ hcells HV2.out 6 rfl
          have ev7 : w7.cell? ⟨bb, off + j * 8 + 7, none⟩ = some (.bool v.fam) := Sl.at_ hcells HV2.out 7 rfl
          have hbD : bb < D := by have := HDW.out; omega
          have hD7 : D < w7.heap.size := by omega
          have hbD7 : bb < w7.heap.size := by omega
          clear hcells hbl hb6 hb7 hbr6 ba0 ba2 x0
          refine wp_region_held_drew (S := fun w' => Below (D + 1) w7 w') (by kernel_rfl) ((Below.refl _ _).drew) (fun hHeld => ?_)
          refine tk 0 (v := ?_) ?_ ?_
          rotate_left
          · intro w' hSw; go_simp; (try with_reducible rfl)
          refine tk 2 (v := ?_) ?_ ?_
          rotate_left
          · intro w' hSw; go_simp; (try with_reducible rfl)
          refine tk 3 (v := ?_) ?_ ?_
          rotate_left
          · intro w' hSw; have z1 := (hSw.cell (p := ⟨D, 1, none⟩) (by dsimp only; omega)).trans ba1; have ze0 := (hSw.cell (p := ⟨bb, off + j * 8, none⟩) (by dsimp only; omega)).trans ev0; have ze1 := (hSw.cell (p := ⟨bb, off + j * 8 + 1, none⟩) (by dsimp only; omega)).trans ev1; have ze2 := (hSw.cell (p := ⟨bb, off + j * 8 + 2, none⟩) (by dsimp only; omega)).trans ev2; have ze3 := (hSw.cell (p := ⟨bb, off + j * 8 + 3, none⟩) (by dsimp only; omega)).trans ev3; have ze4 := (hSw.cell (p := ⟨bb, off + j * 8 + 4, none⟩) (by dsimp only; omega)).trans ev4; have ze5 := (hSw.cell (p := ⟨bb, off + j * 8 + 5, none⟩) (by dsimp only; omega)).trans ev5; have ze6 := (hSw.cell (p := ⟨bb, off + j * 8 + 6, none⟩) (by dsimp only; omega)).trans ev6; have ze7 := (hSw.cell (p := ⟨bb, off + j * 8 + 7, none⟩) (by dsimp only; omega)).trans ev7; go_simp; (try with_reducible rfl)
          refine tk 4 (v := ?_) ?_ ?_
          rotate_left
          · intro w' hSw; go_simp; (try with_reducible rfl)
          refine tk 5 (v := ?_) ?_ ?_
          rotate_left
          · intro w' hSw; go_simp; (try with_reducible rfl)
          refine tk 6 (v := ?_) ?_ ?_
          rotate_left
          · intro w' hSw; have z1 := (hSw.cell (p := ⟨D, 1, none⟩) (by dsimp only; omega)).trans ba1; have ze0 := (hSw.cell (p := ⟨bb, off + j * 8, none⟩) (by dsimp only; omega)).trans ev0; have ze1 := (hSw.cell (p := ⟨bb, off + j * 8 + 1, none⟩) (by dsimp only; omega)).trans ev1; have ze2 := (hSw.cell (p := ⟨bb, off + j * 8 + 2, none⟩) (by dsimp only; omega)).trans ev2; have ze3 := (hSw.cell (p := ⟨bb, off + j * 8 + 3, none⟩) (by dsimp only; omega)).trans ev3; have ze4 := (hSw.cell (p := ⟨bb, off + j * 8 + 4, none⟩) (by dsimp only; omega)).trans ev4; have ze5 := (hSw.cell (p := ⟨bb, off + j * 8 + 5, none⟩) (by dsimp only; omega)).trans ev5; have ze6 := (hSw.cell (p := ⟨bb, off + j * 8 + 6, none⟩) (by dsimp only; omega)).trans ev6; have ze7 := (hSw.cell (p := ⟨bb, off + j * 8 + 7, none⟩) (by dsimp only; omega)).trans ev7; go_simp; (try with_reducible rfl)
          (try simp only [List.getElem_toArray, List.getElem_cons_succ, List.getElem_cons_zero, Act.put, List.setIfInBounds_toArray, List.set_cons_zero, List.set_cons_succ])
          refine wpAnyH_ready (rs := [1, 7]) (by kernel_rfl) (by simp) ?_
          refine AllReadyH.cons rfl (fun K' hK => ?_) (AllReadyH.cons rfl (fun K' hK => ?_) AllReadyH.nil)
          · go_simp
            refine hK.out _ _ (hHeld) (fun hHeld => ?_)
            clear hK K'
            (try simp only [List.getElem_toArray, List.getElem_cons_succ, List.getElem_cons_zero, Act.put, List.setIfInBounds_toArray, List.set_cons_zero, List.set_cons_succ])
            refine wpAnyH_ready (rs := [7]) (by kernel_rfl) (by simp) ?_
            refine AllReadyH.cons rfl (fun K' hK => ?_) AllReadyH.nil
            go_simp
            refine hK.out _ _ (by (repeat (first | exact hHeld | exact Below.refl _ _ | (refine Below.alloc ?_ (by (try simp) <;> omega) _) | (refine Below.setCell ?_ (by (try simp) <;> omega) _) | refine Below.drew ?_ | refine below_drewN ?_ _))) (fun hHeld => ?_)
            clear hK K'
            (try simp only [List.getElem_toArray, List.getElem_cons_succ, List.getElem_cons_zero, Act.put, List.setIfInBounds_toArray, List.set_cons_zero, List.set_cons_succ])
            refine wpAnyH_ready (rs := [8]) (by kernel_rfl) (by simp) ?_
            refine AllReadyH.cons rfl (fun K' hK => ?_) AllReadyH.nil
            refine step_append (α := Sv) rfl (.tmp 46) (.tmp 52) 30 rfl (D + 1) 51 _ 96 Try.underlying30 infoSb rfl (.slice As ns cs) xs rfl (HO7.out.below (by (repeat (first | exact Below.refl _ _ | exact Below.refl _ _ | (refine Below.alloc ?_ (by (try simp) <;> omega) _) | (refine Below.setCell ?_ (by (try simp) <;> omega) _) | refine Below.drew ?_ | refine below_drewN ?_ _)))) (some ⟨w7.heap.size, 0, none⟩) 1 1 [v] rfl (fun e => by cases e) (Sl.below (Sl.new w7 #[.int .i64 v.id, .int .i64 v.acc, .int .i64 v.since, .string v.plan, .slice v.An v.nn v.cn, .slice v.Ap v.np v.cp, .bool v.susp, .bool v.fam] _ w7.heap.size rfl [v] 1 rfl (by unfold maxLen; omega) rfl) (by (repeat (first | exact Below.refl _ _ | exact Below.refl _ _ | (refine Below.alloc ?_ (by (try simp) <;> omega) _) | (refine Below.setCell ?_ (by (try simp) <;> omega) _) | refine Below.drew ?_ | refine below_drewN ?_ _)))) (by have := HLX.out; simp; omega) (by decide) (by simp; omega) ?_
            intro u9 w9 ho9 hu9
            refine hK.out _ _ (hHeld.trans (hu9.belowBase (HO7.out.below (by (repeat (first | exact Below.refl _ _ | exact Below.refl _ _ | (refine Below.alloc ?_ (by (try simp) <;> omega) _) | (refine Below.setCell ?_ (by (try simp) <;> omega) _) | refine Below.drew ?_ | refine below_drewN ?_ _)))) (Below.refl _ _) (by simp; omega))) (fun hHeld => ?_)
            clear hK K'
            (try simp only [List.getElem_toArray, List.getElem_cons_succ, List.getElem_cons_zero, Act.put, List.setIfInBounds_toArray, List.set_cons_zero, List.set_cons_succ])
            refine tk 9 (v := ?_) ?_ ?_
            rotate_left
            · intro w' hSw; go_simp; (try with_reducible rfl)
            (try simp only [List.getElem_toArray, List.getElem_cons_succ, List.getElem_cons_zero, Act.put, List.setIfInBounds_toArray, List.set_cons_zero, List.set_cons_succ])
            refine wpAnyH_ready (rs := [10]) (by kernel_rfl) (by simp) ?_
            refine AllReadyH.cons rfl (fun K' hK => ?_) AllReadyH.nil
            obtain ⟨A9, c9, rfl, _, _⟩ := ho9.val
            have hc9 := (HC7.out.below (by (repeat (first | exact Below.refl _ _ | exact Below.refl _ _ | (refine Below.alloc ?_ (by (try simp) <;> omega) _) | (refine Below.setCell ?_ (by (try simp) <;> omega) _) | refine Below.drew ?_ | refine below_drewN ?_ _)))).upd (HO7.out.below (by (repeat (first | exact Below.refl _ _ | exact Below.refl _ _ | (refine Below.alloc ?_ (by (try simp) <;> omega) _) | (refine Below.setCell ?_ (by (try simp) <;> omega) _) | refine Below.drew ?_ | refine below_drewN ?_ _)))) (by decide) hu9
            have c91 := hc9.c1
            have c9f := hc9.fz
            have c9l := hc9.lt
            go_simp
            refine hK.out _ _ (hHeld.setCell (Nat.le_refl _) _) (fun hHeld => ?_)
            clear hK K'
            (try simp only [List.getElem_toArray, List.getElem_cons_succ, List.getElem_cons_zero, Act.put, List.setIfInBounds_toArray, List.set_cons_zero, List.set_cons_succ])
            refine wpAnyH_done (by kernel_rfl) ?_ _
            (try simp only [List.getElem_toArray, List.getElem_cons_succ, List.getElem_cons_zero, Act.put, List.setIfInBounds_toArray, List.set_cons_zero, List.set_cons_succ])
            have ho9' : Ow w9 (D + 1) 51 (.slice A9 (xs.length + 1) c9) (xs ++ [v]) := by have h := ho9; rw [List.length_append, List.length_singleton] at h; exact h
            (try simp only [Exit.inBlock, Exit.then])
            go_wp2_with fail
            go_roundw
            case rel => exact ⟨k + 1, by omega, by go_num, A9, xs.length + 1, c9, xs ++ [v], hc9.keepO ho9' (by decide) 1 (.slice A9 (xs.length + 1) c9), by rw [HQ.out]; exact HAL.out.snoc HSR.out, hbr7.trans hHeld, hc9.set1 _⟩
            case measure => simp [intOf]; omega
          · go_simp
            refine hK.out _ _ (by (repeat (first | exact hHeld | exact Below.refl _ _ | (refine Below.alloc ?_ (by (try simp) <;> omega) _) | (refine Below.setCell ?_ (by (try simp) <;> omega) _) | refine Below.drew ?_ | refine below_drewN ?_ _))) (fun hHeld => ?_)
            clear hK K'
            (try simp only [List.getElem_toArray, List.getElem_cons_succ, List.getElem_cons_zero, Act.put, List.setIfInBounds_toArray, List.set_cons_zero, List.set_cons_succ])
            refine wpAnyH_ready (rs := [1]) (by kernel_rfl) (by simp) ?_
            refine AllReadyH.cons rfl (fun K' hK => ?_) AllReadyH.nil
            go_simp
            refine hK.out _ _ (hHeld) (fun hHeld => ?_)
            clear hK K'
            (try simp only [List.getElem_toArray, List.getElem_cons_succ, List.getElem_cons_zero, Act.put, List.setIfInBounds_toArray, List.set_cons_zero, List.set_cons_succ])
            refine wpAnyH_ready (rs := [8]) (by kernel_rfl) (by simp) ?_
            refine AllReadyH.cons rfl (fun K' hK => ?_) AllReadyH.nil
            refine step_append (α := Sv) rfl (.tmp 46) (.tmp 52) 30 rfl (D + 1) 51 _ 96 Try.underlying30 infoSb rfl (.slice As ns cs) xs rfl (HO7.out.below (by (repeat (first | exact Below.refl _ _ | exact Below.refl _ _ | (refine Below.alloc ?_ (by (try simp) <;> omega) _) | (refine Below.setCell ?_ (by (try simp) <;> omega) _) | refine Below.drew ?_ | refine below_drewN ?_ _)))) (some ⟨w7.heap.size, 0, none⟩) 1 1 [v] rfl (fun e => by cases e) (Sl.below (Sl.new w7 #[.int .i64 v.id, .int .i64 v.acc, .int .i64 v.since, .string v.plan, .slice v.An v.nn v.cn, .slice v.Ap v.np v.cp, .bool v.susp, .bool v.fam] _ w7.heap.size rfl [v] 1 rfl (by unfold maxLen; omega) rfl) (by (repeat (first | exact Below.refl _ _ | exact Below.refl _ _ | (refine Below.alloc ?_ (by (try simp) <;> omega) _) | (refine Below.setCell ?_ (by (try simp) <;> omega) _) | refine Below.drew ?_ | refine below_drewN ?_ _)))) (by have := HLX.out; simp; omega) (by decide) (by simp; omega) ?_
            intro u9 w9 ho9 hu9
            refine hK.out _ _ (hHeld.trans (hu9.belowBase (HO7.out.below (by (repeat (first | exact Below.refl _ _ | exact Below.refl _ _ | (refine Below.alloc ?_ (by (try simp) <;> omega) _) | (refine Below.setCell ?_ (by (try simp) <;> omega) _) | refine Below.drew ?_ | refine below_drewN ?_ _)))) (Below.refl _ _) (by simp; omega))) (fun hHeld => ?_)
            clear hK K'
            (try simp only [List.getElem_toArray, List.getElem_cons_succ, List.getElem_cons_zero, Act.put, List.setIfInBounds_toArray, List.set_cons_zero, List.set_cons_succ])
            refine tk 9 (v := ?_) ?_ ?_
            rotate_left
            · intro w' hSw; go_simp; (try with_reducible rfl)
            (try simp only [List.getElem_toArray, List.getElem_cons_succ, List.getElem_cons_zero, Act.put, List.setIfInBounds_toArray, List.set_cons_zero, List.set_cons_succ])
            refine wpAnyH_ready (rs := [10]) (by kernel_rfl) (by simp) ?_
            refine AllReadyH.cons rfl (fun K' hK => ?_) AllReadyH.nil
            obtain ⟨A9, c9, rfl, _, _⟩ := ho9.val
            have hc9 := (HC7.out.below (by (repeat (first | exact Below.refl _ _ | exact Below.refl _ _ | (refine Below.alloc ?_ (by (try simp) <;> omega) _) | (refine Below.setCell ?_ (by (try simp) <;> omega) _) | refine Below.drew ?_ | refine below_drewN ?_ _)))).upd (HO7.out.below (by (repeat (first | exact Below.refl _ _ | exact Below.refl _ _ | (refine Below.alloc ?_ (by (try simp) <;> omega) _) | (refine Below.setCell ?_ (by (try simp) <;> omega) _) | refine Below.drew ?_ | refine below_drewN ?_ _)))) (by decide) hu9
            have c91 := hc9.c1
            have c9f := hc9.fz
            have c9l := hc9.lt
            go_simp
            refine hK.out _ _ (hHeld.setCell (Nat.le_refl _) _) (fun hHeld => ?_)
            clear hK K'
            (try simp only [List.getElem_toArray, List.getElem_cons_succ, List.getElem_cons_zero, Act.put, List.setIfInBounds_toArray, List.set_cons_zero, List.set_cons_succ])
            refine wpAnyH_done (by kernel_rfl) ?_ _
            (try simp only [List.getElem_toArray, List.getElem_cons_succ, List.getElem_cons_zero, Act.put, List.setIfInBounds_toArray, List.set_cons_zero, List.set_cons_succ])
            have ho9' : Ow w9 (D + 1) 51 (.slice A9 (xs.length + 1) c9) (xs ++ [v]) := by have h := ho9; rw [List.length_append, List.length_singleton] at h; exact h
            (try simp only [Exit.inBlock, Exit.then])
            go_wp2_with fail
            go_roundw
            case rel => exact ⟨k + 1, by omega, by go_num, A9, xs.length + 1, c9, xs ++ [v], hc9.keepO ho9' (by decide) 1 (.slice A9 (xs.length + 1) c9), by rw [HQ.out]; exact HAL.out.snoc HSR.out, hbr7.trans hHeld, hc9.set1 _⟩
            case measure => simp [intOf]; omega
    · have hd1 : decide (k < 9999 ∧ ns + n3 < n2) = false := decide_eq_false hgo
      have HQ : Hid ((rngK k).filterMap (liveS b) = cSubs b) := Lib.hid (by
        by_cases h9 : k < 9999
        · refine stop_early (liveS b) k (b.subs.length - b.ended.length) hk (by have := subs_len HBOK.out; omega) ?_
          have := HAL.out.1; have := HLX.out; have := HLN.out; omega
        · obtain rfl : k = 9999 := by omega
          rfl)
      replace HAL := Lib.hid (by have h := HAL.out; rw [HQ.out] at h; exact h)
      have HSU := Lib.hid hns
      clear x0 x1 xf ba0 ba1 ba2 hkw hgo hk HQ HYS HALL
      rw [hd1]
      go_wp2_with fail
      go_loopw [9] (fun i wx => ∃ m : Nat, m ≤ 9999 ∧ i = .int .i64 ((m : Int) + 1) ∧ L2 W D b As ns cs xs m wx) (fun i _ => 20000 - (intOf i).toNat)
      case atStart => exact ⟨0, Nat.zero_le _, rfl, none, 0, 0, [], Ow.nil_ _ _ _, HOW.out, All2.nil_, hbr, HC.out⟩
      case round =>
        obtain ⟨m, hm, rfl, Aa, na, ca, xa, hoa, hos, hal2, hbs, hcx⟩ := hrel
        have hlx : xa.length = na := (rowLS hoa).2.len
        have hna : na ≤ 40 := by have := hal2.1; have := (List.IsPrefix.length_le ((rngK_prefix hm).filterMap (cAcc b))); have := accs_len HBOK.out; have := HLN.out; omega
        have HOA := Lib.hid hoa
        have HOS := Lib.hid hos
        have HAM := Lib.hid hal2
        have HD := Lib.hid hcx
        have y0 := hcx.c0
        have y1 := hcx.c1
        have yf := hcx.fz
        have hls := hcx.lt
        have bb0 := cl hbs pa0
        have bb1 := cl hbs pa1
        have bb2 := cl hbs pa2
        have HLA := Lib.hid hlx
        clear hoa hos hal2 hcx hlx hbr HOW HC hlr
        have hmw : IntKind.i64.wrap ((m : Int) + 1 + 1) = (m : Int) + 1 + 1 := IntWalk.i64_in _ (by omega)
        go_upto_region 10 with (fail)
        go_cut [65] (fun v wx => v = .bool (decide (m < 9999 ∧ na < n1)) ∧ wx = wr)
        case first =>
          by_cases h9 : m < 9999
          · have hk1 : (m : Int) + 1 ≤ 9999 := by omega
            go_wp2_with fail
            go_meet
            refine ⟨congrArg Value.bool ?_, rfl⟩
            rw [Bool.eq_iff_iff, decide_eq_true_eq, decide_eq_true_eq]
            omega
          · have hk1 : ¬ ((m : Int) + 1 ≤ 9999) := by omega
            go_wp2_with fail
            go_meet
            refine ⟨congrArg Value.bool ?_, rfl⟩
            symm
            rw [decide_eq_false_iff_not]
            omega
        case rest =>
        obtain ⟨rfl, rfl⟩ := hcut
        by_cases hgo : m < 9999 ∧ na < n1
        · have hd2 : decide (m < 9999 ∧ na < n1) = true := decide_eq_true hgo
          rw [hd2]
          rcases idxL_cases Ac.id b.accs ((m : Int) + 1) with ⟨hi, hf⟩ | ⟨j, ac, hi, hj, hx, hf, hid, hno⟩
          · have HI := Lib.hid hi
            have HQ := Lib.hid (rk_none (f := cAcc b) (k := m) (by unfold cAcc; rw [show findA b ((m : Int) + 1) = none from hf]; rfl))
            clear hi hf
            go_wp2_with (go_at_call 79; go_must (refine (raccount_any _ _ _ _ _ _ _ _ _ b ((m : Int) + 1) _ (HBR.out.on (HWB.out.trans (hbs.mono (by have := HDW.out; omega))))).mono ?_; rintro r w6 ⟨rfl, hb6⟩; rw [HI.out]))
            go_roundw
            case rel => exact ⟨m + 1, by omega, by go_num, Aa, na, ca, xa, HOA.out.below hb6, HOS.out.below hb6, by rw [HQ.out]; exact HAM.out.imp fun _ _ h => h.to fun o => o.below hb6, hbs.trans (hb6.mono (by omega)), HD.out.below hb6⟩
            case measure => simp [intOf]; omega
          · have HI := Lib.hid hi
            have hj2 : j < n1 := by have := HLN.out; omega
            have HX := Lib.hid hx
            have HQ := Lib.hid (rk_some (f := cAcc b) (k := m) (show cAcc b ((m : Int) + 1) = some (ac, cOf (cSubs b) ((m : Int) + 1)) by unfold cAcc; rw [show findA b ((m : Int) + 1) = some ac from hf]; rfl))
            have hjn : ¬ ((j : Int) < 0) := by omega
            clear hi hf hid hno hx
            go_upto_region 14 with (go_at_call 79; go_must (refine (raccount_any _ _ _ _ _ _ _ _ _ b ((m : Int) + 1) _ (HBR.out.on (HWB.out.trans (hbs.mono (by have := HDW.out; omega))))).mono ?_; rintro r w6 ⟨rfl, hb6⟩; rw [HI.out]))
            have hbs6 := hbs.trans (hb6.mono (by omega))
            replace HOA := Lib.hid (HOA.out.below hb6)
            replace HOS := Lib.hid (HOS.out.below hb6)
            replace HAM := Lib.hid (HAM.out.imp fun _ _ h => h.to fun o => o.below hb6)
            replace HD := Lib.hid (HD.out.below hb6)
            replace bb0 := cl hbs6 pa0
            obtain ⟨bb, off, hAe, hbl, hcells⟩ := HBR.out.a.baseIn (HWB.out.trans (hbs6.mono (by have := HDW.out; omega))) (by omega)
            have ea0 : w6.cell? ⟨bb, off + j * 6, none⟩ = some (.int .i64 ac.id) := Sl.at_ hcells HX.out 0 rfl
            have ea1 : w6.cell? ⟨bb, off + j * 6 + 1, none⟩ = some (.int .i64 ac.since) := Sl.at_ hcells HX.out 1 rfl
            have ea2 : w6.cell? ⟨bb, off + j * 6 + 2, none⟩ = some (.int .i64 ac.anchor) := Sl.at_ hcells HX.out 2 rfl
            have ea3 : w6.cell? ⟨bb, off + j * 6 + 3, none⟩ = some (.bool ac.prepaid) := Sl.at_ hcells HX.out 3 rfl
            have ea4 : w6.cell? ⟨bb, off + j * 6 + 4, none⟩ = some (.bool ac.closed) := Sl.at_ hcells HX.out 4 rfl
            have ea5 : w6.cell? ⟨bb, off + j * 6 + 5, none⟩ = some (.slice none 0 0) := Sl.at_ hcells HX.out 5 rfl
            have hD6 : D + 1 < w6.heap.size := by have := hb6.size; omega
            have hbD6 : bb < w6.heap.size := by have := HDW.out; omega
            subst hAe
            clear hcells hbl hb6 hbs bb1 bb2 y0 y1 yf
            go_upto_region 15 with (fail)
            obtain ⟨V, hV⟩ : ∃ V, V = w6.alloc (.cells #[.int .i64 ac.id, .int .i64 ac.since, .int .i64 ac.anchor, .bool ac.prepaid, .bool ac.closed, .slice none 0 0] 46) := ⟨_, rfl⟩
            rw [← hV]
            have hAx : Ax V w6.heap.size ac none 0 0 := by rw [hV]; exact World.alloc_heap_new _ _
            have hbV : Below w6.heap.size w6 V := by rw [hV]; exact (Below.refl _ _).alloc (Nat.le_refl _) _
            have H6 : Hid (∀ wx, Below w6.heap.size V wx → Below w6.heap.size w6 wx) := Lib.hid (fun wx h => hbV.trans h)
            have HAX := Lib.hid hAx
            have hzV := hAx.lt
            obtain ⟨Z, hZ⟩ : ∃ Z, w6.heap.size = Z := ⟨_, rfl⟩
            have HZ := Lib.hid hZ
            rw [hZ] at HAX hzV hD6 hbV
            rw [hZ]
            have HLC : Hid ((cSubs b).length = ns) := Lib.hid (by have := HAL.out.1; have := HLX.out; omega)
            have HBS6 := Lib.hid hbs6
            clear hAx hV hbs6 hZ ea0 ea1 ea2 ea3 ea4 ea5 hls hbD6 bb0 hbV
            go_wp2_with fail
            go_loopw [12] (fun i wx => ∃ i' : Nat, i' ≤ ns ∧ i = .int .i64 i' ∧ L3 V Z ac (cSubs b) ((m : Int) + 1) i' wx) (fun i _ => ns - (intOf i).toNat)
            case atStart => exact ⟨0, Nat.zero_le _, rfl, none, 0, 0, Ow.nil_ _ _ _, Below.refl _ _, HAX.out⟩
            case round =>
              obtain ⟨i, hi, rfl, Ag, ng, cg, hog, hbx, hax⟩ := hrel
              have hlg : (cOf ((cSubs b).take i) ((m : Int) + 1)).length = ng := (rowLS hog).2.len
              have hng : ng ≤ i := by rw [← hlg]; unfold cOf; rw [List.length_map]; exact Nat.le_trans (List.length_filter_le _ _) (List.length_take_le _ _)
              have hb6r : Below w6.heap.size w6 wr := H6.out wr (by rw [HZ.out]; exact hbx)
              have HOG := Lib.hid hog
              have HAXr := Lib.hid hax
              have HLG := Lib.hid hlg
              have v5 := hax.cel.2.2.2.2.2
              have vf := hax.fz
              have hlZ := hax.lt
              have hZ6 := HZ.out
              have y1 := cl hb6r HD.out.c1
              clear hog hax hlg
              by_cases hlt : i < ns
              · obtain ⟨v, hv⟩ : ∃ v, xs[i]? = some v := ⟨_, List.getElem?_eq_getElem (by have := HLX.out; omega)⟩
                obtain ⟨sb, hsb⟩ : ∃ sb, (cSubs b)[i]? = some sb := ⟨_, List.getElem?_eq_getElem (by have := HLC.out; omega)⟩
                have hsr := HAL.out.2 i v sb hv hsb
                have hacc := hsr.acc
                have hid := hsr.id
                obtain ⟨bs, off, hAe, hbl, hcells⟩ := (rowLS HOS.out).2.baseIn hb6r (by omega)
                have ev0 : wr.cell? ⟨bs, off + i * 8, none⟩ = some (.int .i64 v.id) := Sl.at_ hcells hv 0 rfl
                have ev1 : wr.cell? ⟨bs, off + i * 8 + 1, none⟩ = some (.int .i64 v.acc) := Sl.at_ hcells hv 1 rfl
                have HT := Lib.hid (cOf_take hsb ((m : Int) + 1))
                have hiw : IntKind.i64.wrap ((i : Int) + 1) = (i : Int) + 1 := IntWalk.i64_in _ (by omega)
                have hlZr : Z < wr.heap.size := hlZ
                subst hAe
                clear hcells hv hsb hsr
                by_cases hq : v.acc = (m : Int) + 1
                · have HT2 := Lib.hid (HT.out.trans (by rw [if_pos (by omega)]))
                  obtain ⟨bq, dq⟩ := be_t hq
                  have HIDN := Lib.hid hid
                  clear hacc hid HT hq
                  go_upto_region 19 with (fail)
                  refine wp_region_held_drew (S := fun w' => Below Z wr w') (by kernel_rfl) ((Below.refl _ _).drew) (fun hHeld => ?_)
                  refine tk 0 (v := ?_) ?_ ?_
                  rotate_left
                  · intro w' hSw; go_simp; (try with_reducible rfl)
                  refine tk 2 (v := ?_) ?_ ?_
                  rotate_left
                  · intro w' hSw; go_simp; (try with_reducible rfl)
                  refine tk 3 (v := ?_) ?_ ?_
                  rotate_left
                  · intro w' hSw; have z1 := (hSw.cell (p := ⟨D + 1, 1, none⟩) (by dsimp only; omega)).trans y1; have ze0 := (hSw.cell (p := ⟨bs, off + i * 8, none⟩) (by dsimp only; omega)).trans ev0; go_simp; (try with_reducible rfl)
                  refine tk 4 (v := ?_) ?_ ?_
                  rotate_left
                  · intro w' hSw; go_simp; (try with_reducible rfl)
                  refine tk 5 (v := ?_) ?_ ?_
                  rotate_left
                  · intro w' hSw; go_simp; (try with_reducible rfl)
                  refine tk 6 (v := ?_) ?_ ?_
                  rotate_left
                  · intro w' hSw; go_simp; (try with_reducible rfl)
                  refine tk 7 (v := ?_) ?_ ?_
                  rotate_left
                  · intro w' hSw; have z1 := (hSw.cell (p := ⟨D + 1, 1, none⟩) (by dsimp only; omega)).trans y1; have ze0 := (hSw.cell (p := ⟨bs, off + i * 8, none⟩) (by dsimp only; omega)).trans ev0; go_simp; (try with_reducible rfl)
                  (try simp only [List.getElem_toArray, List.getElem_cons_succ, List.getElem_cons_zero, Act.put, List.setIfInBounds_toArray, List.set_cons_zero, List.set_cons_succ])
                  refine wpAnyH_ready (rs := [1, 8]) (by kernel_rfl) (by simp) ?_
                  refine AllReadyH.cons rfl (fun K' hK => ?_) (AllReadyH.cons rfl (fun K' hK => ?_) AllReadyH.nil)
                  · go_simp
                    refine hK.out _ _ (hHeld) (fun hHeld => ?_)
                    clear hK K'
                    (try simp only [List.getElem_toArray, List.getElem_cons_succ, List.getElem_cons_zero, Act.put, List.setIfInBounds_toArray, List.set_cons_zero, List.set_cons_succ])
                    refine wpAnyH_ready (rs := [8]) (by kernel_rfl) (by simp) ?_
                    refine AllReadyH.cons rfl (fun K' hK => ?_) AllReadyH.nil
                    go_simp
                    refine hK.out _ _ (by (repeat (first | exact hHeld | exact Below.refl _ _ | (refine Below.alloc ?_ (by (try simp) <;> omega) _) | (refine Below.setCell ?_ (by (try simp) <;> omega) _) | refine Below.drew ?_ | refine below_drewN ?_ _))) (fun hHeld => ?_)
                    clear hK K'
                    (try simp only [List.getElem_toArray, List.getElem_cons_succ, List.getElem_cons_zero, Act.put, List.setIfInBounds_toArray, List.set_cons_zero, List.set_cons_succ])
                    refine wpAnyH_ready (rs := [9]) (by kernel_rfl) (by simp) ?_
                    refine AllReadyH.cons rfl (fun K' hK => ?_) AllReadyH.nil
                    refine step_append (α := Int) rfl (.tmp 94) (.tmp 101) 44 rfl Z 3 _ 8 Try.underlying44 infoI rfl (.slice Ag ng cg) (cOf (List.take i (cSubs b)) ((m : Int) + 1)) rfl (HOG.out.below (by (repeat (first | exact Below.refl _ _ | exact Below.refl _ _ | (refine Below.alloc ?_ (by (try simp) <;> omega) _) | (refine Below.setCell ?_ (by (try simp) <;> omega) _) | refine Below.drew ?_ | refine below_drewN ?_ _)))) (some ⟨wr.heap.size, 0, none⟩) 1 1 [v.id] rfl (fun e => by cases e) (Sl.below (Sl.new wr #[.int .i64 v.id] _ wr.heap.size rfl [v.id] 1 rfl (by unfold maxLen; omega) rfl) (by (repeat (first | exact Below.refl _ _ | exact Below.refl _ _ | (refine Below.alloc ?_ (by (try simp) <;> omega) _) | (refine Below.setCell ?_ (by (try simp) <;> omega) _) | refine Below.drew ?_ | refine below_drewN ?_ _)))) (by have := HLG.out; simp; omega) (by decide) (by simp; omega) ?_
                    intro u9 w9 ho9 hu9
                    refine hK.out _ _ (hHeld.trans (hu9.belowBase (HOG.out.below (by (repeat (first | exact Below.refl _ _ | exact Below.refl _ _ | (refine Below.alloc ?_ (by (try simp) <;> omega) _) | (refine Below.setCell ?_ (by (try simp) <;> omega) _) | refine Below.drew ?_ | refine below_drewN ?_ _)))) (Below.refl _ _) (by simp; omega))) (fun hHeld => ?_)
                    clear hK K'
                    (try simp only [List.getElem_toArray, List.getElem_cons_succ, List.getElem_cons_zero, Act.put, List.setIfInBounds_toArray, List.set_cons_zero, List.set_cons_succ])
                    refine tk 10 (v := ?_) ?_ ?_
                    rotate_left
                    · intro w' hSw; go_simp; (try with_reducible rfl)
                    (try simp only [List.getElem_toArray, List.getElem_cons_succ, List.getElem_cons_zero, Act.put, List.setIfInBounds_toArray, List.set_cons_zero, List.set_cons_succ])
                    refine wpAnyH_ready (rs := [11]) (by kernel_rfl) (by simp) ?_
                    refine AllReadyH.cons rfl (fun K' hK => ?_) AllReadyH.nil
                    obtain ⟨A9, c9, rfl, _, _⟩ := ho9.val
                    have hc9 := (HAXr.out.below (by (repeat (first | exact Below.refl _ _ | exact Below.refl _ _ | (refine Below.alloc ?_ (by (try simp) <;> omega) _) | (refine Below.setCell ?_ (by (try simp) <;> omega) _) | refine Below.drew ?_ | refine below_drewN ?_ _)))).upd (HOG.out.below (by (repeat (first | exact Below.refl _ _ | exact Below.refl _ _ | (refine Below.alloc ?_ (by (try simp) <;> omega) _) | (refine Below.setCell ?_ (by (try simp) <;> omega) _) | refine Below.drew ?_ | refine below_drewN ?_ _)))) (by decide) hu9
                    have c91 := hc9.cel.2.2.2.2.2
                    have c9f := hc9.fz
                    have c9l := hc9.lt
                    go_simp
                    refine hK.out _ _ (hHeld.setCell (Nat.le_refl _) _) (fun hHeld => ?_)
                    clear hK K'
                    (try simp only [List.getElem_toArray, List.getElem_cons_succ, List.getElem_cons_zero, Act.put, List.setIfInBounds_toArray, List.set_cons_zero, List.set_cons_succ])
                    refine wpAnyH_done (by kernel_rfl) ?_ _
                    (try simp only [List.getElem_toArray, List.getElem_cons_succ, List.getElem_cons_zero, Act.put, List.setIfInBounds_toArray, List.set_cons_zero, List.set_cons_succ])
                    have ho9' : Ow w9 Z 3 (.slice A9 ((cOf (List.take i (cSubs b)) ((m : Int) + 1)).length + 1) c9) (cOf (List.take i (cSubs b)) ((m : Int) + 1) ++ [v.id]) := by have h := ho9; rw [List.length_append, List.length_singleton] at h; exact h
                    (try simp only [Exit.inBlock, Exit.then])
                    go_wp2_with fail
                    go_roundw
                    case rel => exact ⟨i + 1, by omega, by go_num, A9, _, c9, by rw [HT2.out, ← HIDN.out]; exact hc9.keepO ho9' (by decide) 5 _, hbx.trans hHeld, hc9.set5 _ _ _⟩
                    case measure => simp [intOf]; omega
                  · go_simp
                    refine hK.out _ _ (by (repeat (first | exact hHeld | exact Below.refl _ _ | (refine Below.alloc ?_ (by (try simp) <;> omega) _) | (refine Below.setCell ?_ (by (try simp) <;> omega) _) | refine Below.drew ?_ | refine below_drewN ?_ _))) (fun hHeld => ?_)
                    clear hK K'
                    (try simp only [List.getElem_toArray, List.getElem_cons_succ, List.getElem_cons_zero, Act.put, List.setIfInBounds_toArray, List.set_cons_zero, List.set_cons_succ])
                    refine wpAnyH_ready (rs := [1]) (by kernel_rfl) (by simp) ?_
                    refine AllReadyH.cons rfl (fun K' hK => ?_) AllReadyH.nil
                    go_simp
                    refine hK.out _ _ (hHeld) (fun hHeld => ?_)
                    clear hK K'
                    (try simp only [List.getElem_toArray, List.getElem_cons_succ, List.getElem_cons_zero, Act.put, List.setIfInBounds_toArray, List.set_cons_zero, List.set_cons_succ])
                    refine wpAnyH_ready (rs := [9]) (by kernel_rfl) (by simp) ?_
                    refine AllReadyH.cons rfl (fun K' hK => ?_) AllReadyH.nil
                    refine step_append (α := Int) rfl (.tmp 94) (.tmp 101) 44 rfl Z 3 _ 8 Try.underlying44 infoI rfl (.slice Ag ng cg) (cOf (List.take i (cSubs b)) ((m : Int) + 1)) rfl (HOG.out.below (by (repeat (first | exact Below.refl _ _ | exact Below.refl _ _ | (refine Below.alloc ?_ (by (try simp) <;> omega) _) | (refine Below.setCell ?_ (by (try simp) <;> omega) _) | refine Below.drew ?_ | refine below_drewN ?_ _)))) (some ⟨wr.heap.size, 0, none⟩) 1 1 [v.id] rfl (fun e => by cases e) (Sl.below (Sl.new wr #[.int .i64 v.id] _ wr.heap.size rfl [v.id] 1 rfl (by unfold maxLen; omega) rfl) (by (repeat (first | exact Below.refl _ _ | exact Below.refl _ _ | (refine Below.alloc ?_ (by (try simp) <;> omega) _) | (refine Below.setCell ?_ (by (try simp) <;> omega) _) | refine Below.drew ?_ | refine below_drewN ?_ _)))) (by have := HLG.out; simp; omega) (by decide) (by simp; omega) ?_
                    intro u9 w9 ho9 hu9
                    refine hK.out _ _ (hHeld.trans (hu9.belowBase (HOG.out.below (by (repeat (first | exact Below.refl _ _ | exact Below.refl _ _ | (refine Below.alloc ?_ (by (try simp) <;> omega) _) | (refine Below.setCell ?_ (by (try simp) <;> omega) _) | refine Below.drew ?_ | refine below_drewN ?_ _)))) (Below.refl _ _) (by simp; omega))) (fun hHeld => ?_)
                    clear hK K'
                    (try simp only [List.getElem_toArray, List.getElem_cons_succ, List.getElem_cons_zero, Act.put, List.setIfInBounds_toArray, List.set_cons_zero, List.set_cons_succ])
                    refine tk 10 (v := ?_) ?_ ?_
                    rotate_left
                    · intro w' hSw; go_simp; (try with_reducible rfl)
                    (try simp only [List.getElem_toArray, List.getElem_cons_succ, List.getElem_cons_zero, Act.put, List.setIfInBounds_toArray, List.set_cons_zero, List.set_cons_succ])
                    refine wpAnyH_ready (rs := [11]) (by kernel_rfl) (by simp) ?_
                    refine AllReadyH.cons rfl (fun K' hK => ?_) AllReadyH.nil
                    obtain ⟨A9, c9, rfl, _, _⟩ := ho9.val
                    have hc9 := (HAXr.out.below (by (repeat (first | exact Below.refl _ _ | exact Below.refl _ _ | (refine Below.alloc ?_ (by (try simp) <;> omega) _) | (refine Below.setCell ?_ (by (try simp) <;> omega) _) | refine Below.drew ?_ | refine below_drewN ?_ _)))).upd (HOG.out.below (by (repeat (first | exact Below.refl _ _ | exact Below.refl _ _ | (refine Below.alloc ?_ (by (try simp) <;> omega) _) | (refine Below.setCell ?_ (by (try simp) <;> omega) _) | refine Below.drew ?_ | refine below_drewN ?_ _)))) (by decide) hu9
                    have c91 := hc9.cel.2.2.2.2.2
                    have c9f := hc9.fz
                    have c9l := hc9.lt
                    go_simp
                    refine hK.out _ _ (hHeld.setCell (Nat.le_refl _) _) (fun hHeld => ?_)
                    clear hK K'
                    (try simp only [List.getElem_toArray, List.getElem_cons_succ, List.getElem_cons_zero, Act.put, List.setIfInBounds_toArray, List.set_cons_zero, List.set_cons_succ])
                    refine wpAnyH_done (by kernel_rfl) ?_ _
                    (try simp only [List.getElem_toArray, List.getElem_cons_succ, List.getElem_cons_zero, Act.put, List.setIfInBounds_toArray, List.set_cons_zero, List.set_cons_succ])
                    have ho9' : Ow w9 Z 3 (.slice A9 ((cOf (List.take i (cSubs b)) ((m : Int) + 1)).length + 1) c9) (cOf (List.take i (cSubs b)) ((m : Int) + 1) ++ [v.id]) := by have h := ho9; rw [List.length_append, List.length_singleton] at h; exact h
                    (try simp only [Exit.inBlock, Exit.then])
                    go_wp2_with fail
                    go_roundw
                    case rel => exact ⟨i + 1, by omega, by go_num, A9, _, c9, by rw [HT2.out, ← HIDN.out]; exact hc9.keepO ho9' (by decide) 5 _, hbx.trans hHeld, hc9.set5 _ _ _⟩
                    case measure => simp [intOf]; omega
                · have HT2 := Lib.hid (HT.out.trans (by rw [if_neg (by omega), List.append_nil]))
                  obtain ⟨bq, dq⟩ := be_f hq
                  clear hacc hid HT hq
                  go_wp2_with fail
                  go_roundw
                  case rel => exact ⟨i + 1, by omega, by go_num, Ag, ng, cg, by rw [HT2.out]; exact HOG.out, hbx, HAXr.out⟩
                  case measure => simp [intOf]; omega
              · obtain rfl : i = ns := by omega
                have hin : ¬ ((i : Int) < (i : Int)) := by omega
                have htk : (cSubs b).take i = cSubs b := List.take_of_length_le (by have := HLC.out; omega)
                replace HOG := Lib.hid (by have h := HOG.out; rw [htk] at h; exact h)
                replace HLG := Lib.hid (by have h := HLG.out; rw [htk] at h; exact h)
                have HOAr := Lib.hid (HOA.out.below hb6r)
                have HOSr := Lib.hid (HOS.out.below hb6r)
                have HAMr := Lib.hid (HAM.out.imp fun _ _ h => h.to fun o => o.below hb6r)
                have HDr := Lib.hid (HD.out.below hb6r)
                have x0 := HDr.out.c0
                have xf := HDr.out.fz
                have hlx := HDr.out.lt
                obtain ⟨v0, v1, v2, v3, v4, _⟩ := HAXr.out.cel
                have HB6r := Lib.hid hb6r
                have hDZ : D + 1 ≤ Z := by omega
                clear htk hb6r vf hZ6 hlt
                go_wp2_with (at_builtin; go_must (
                  refine wpl_append1 _ rfl (.tmp 105) (.tmp 107) 29 rfl (D + 1) 46 _ 56 Try.underlying29 infoAc rfl (.slice Aa na ca) xa rfl (HOAr.out.alloc _) _ ⟨ac.id, ac.since, ac.anchor, ac.prepaid, ac.closed, Ag, ng, cg⟩ rfl (fun j u hu => cells_new _ _ _ _ _ (by simp) u hu) (by have := HLA.out; omega) (by omega) (by rw [World.size_alloc]; omega) ?_
                  intro v6 w8 ho6 hu6
                  skip
                  have hc6 := (HDr.out.below ((Below.refl _ _).alloc (Nat.le_refl _) _)).upd (HOAr.out.alloc _) (by decide) hu6
                  have hos6 := hu6.other (HOSr.out.alloc _) (sep_ty HOSr.out HOAr.out (by decide))
                  have ham6 := HAMr.out.imp fun _ _ h => h.to fun o => hu6.other (o.alloc _) (sep_ty o HOAr.out (by decide))
                  have hog6 := hu6.other ((HOG.out.lower hDZ).alloc _) (sep_ty HOG.out HOAr.out (by decide))
                  have hb8 : Below (D + 1) wr w8 := hu6.belowBase (HOAr.out.alloc _) ((Below.refl _ _).alloc (by omega) _) (by rw [World.size_alloc]; omega)
                  obtain ⟨A7, c7, rfl, _, _⟩ := ho6.val
                  have HO6 := Lib.hid (by have h := ho6; rw [List.length_append, List.length_singleton] at h; exact h)
                  have HC6 := Lib.hid hc6
                  have HS6 := Lib.hid hos6
                  have HM6 := Lib.hid ham6
                  have HG6 := Lib.hid hog6
                  replace x0 := hc6.c0
                  replace xf := hc6.fz
                  replace hlx := hc6.lt
                  clear ho6 hu6 hc6 hos6 ham6 hog6))
                go_roundw
                case rel =>
                  refine ⟨m + 1, by omega, by go_num, A7, xa.length + 1, c7, xa ++ [⟨ac.id, ac.since, ac.anchor, ac.prepaid, ac.closed, Ag, ng, cg⟩], HC6.out.keepO HO6.out (by decide) 0 _, HC6.out.keepO HS6.out (by decide) 0 _, ?_, HBS6.out.trans ((HB6r.out.mono (by have := HZ.out; omega)).trans (hb8.setCell (Nat.le_refl _) _)), HC6.out.set0 _⟩
                  rw [HQ.out]
                  exact (HM6.out.imp fun _ _ h => h.to fun o => HC6.out.keepO o (by decide) 0 _).snoc ⟨rfl, rfl, rfl, rfl, rfl, HC6.out.keepO HG6.out (by decide) 0 _⟩
                case measure => simp [intOf]; omega
        · have hd2 : decide (m < 9999 ∧ na < n1) = false := decide_eq_false hgo
          rw [hd2]
          have HFL : Hid ((rngK m).filterMap (cAcc b) = cAccs b) := Lib.hid (by
            by_cases h9 : m < 9999
            · refine stop_early (cAcc b) m b.accs.length hm (accs_len HBOK.out) ?_
              have := HAM.out.1; have := HLA.out; have := HLN.out; omega
            · obtain rfl : m = 9999 := by omega
              rfl)
          have r0 := cl hbs HRES.out.1
          have r1 := cl hbs HRES.out.2.1
          have rf := cz hbs HRES.out.2.2
          have hlr : w.heap.size < wc.heap.size := by omega
          clear bb0 bb1 bb2 hmw hgo
          go_wp2_with fail
          obtain ⟨Y, hY⟩ : ∃ Y, Y = wc.setCell ⟨w.heap.size, 0, none⟩ (.slice Aa na ca) := ⟨_, rfl⟩
          obtain ⟨Z, hZ⟩ : ∃ Z, Z = Y.setCell ⟨w.heap.size, 1, none⟩ (.slice As ns cs) := ⟨_, rfl⟩
          rw [← hY, ← hZ]
          have yy0 : Y.cell? ⟨w.heap.size, 0, none⟩ = some (.slice Aa na ca) := by rw [hY]; exact World.cell?_setCell_same _ _ _ r0
          have yy1 : Y.cell? ⟨w.heap.size, 1, none⟩ = some (.slice none 0 0) := by rw [hY]; exact (World.cell?_setCell_other _ _ _ _ (fun e => by injection e with e1 e2; omega)).trans r1
          have z0 : Z.cell? ⟨w.heap.size, 0, none⟩ = some (.slice Aa na ca) := by rw [hZ]; exact (World.cell?_setCell_other _ _ _ _ (fun e => by injection e with e1 e2; omega)).trans yy0
          have z1 : Z.cell? ⟨w.heap.size, 1, none⟩ = some (.slice As ns cs) := by rw [hZ]; exact World.cell?_setCell_same _ _ _ yy1
          refine bodyPost_ret (results_cells rfl _ _ w.heap.size #[.slice Aa na ca, .slice As ns cs] _ rfl (fun j v hv => by
            match j, hv with
            | 0, hv => cases hv; exact z0
            | 1, hv => cases hv; exact z1
            | j + 2, hv => simp at hv) rfl rfl rfl) rfl ?_
          have hset : ∀ {α : Type} [Flat α] {e : TypeId} {v : Value} {l : List α}, Ow wc (D + 1) e v l → Ow Z (D + 1) e v l := fun {α} _ {e v l} h => by
            have hne : v.ownBlock ≠ some w.heap.size := fun e => by have := (h.lt _ e).1; omega
            rw [hZ, hY]
            exact (h.setFar hne _).setFar hne _
          have hsr : ∀ t s, SR w5 t s → SR Z t s := fun t s h => by
            have h1 : SR wc t s := h.on (HWB.out.trans (hbs.mono (by have := HDW.out; omega)))
            have h2 : SR Y t s := by rw [hY]; exact h1.setNe r0 (fun _ _ e => by cases e) (fun _ _ e => by cases e)
            rw [hZ]; exact h2.setNe yy1 (fun _ _ e => by cases e) (fun _ _ e => by cases e)
          have hoa := hset HOA.out
          have hos := hset HOS.out
          have hbZ : Below w.heap.size w Z := by rw [hZ, hY]; exact ((hwW.trans (hbs.mono (by omega))).setCell (Nat.le_refl _) _).setCell (Nat.le_refl _) _
          exact ⟨Aa, na, ca, As, ns, cs, rfl, ⟨(rowLS hoa).1, xa, (rowLS hoa).2, by rw [← HFL.out]; exact HAM.out.imp fun _ _ h => (h.to fun o => hset o).ar⟩, ⟨(rowLS hos).1, xs, (rowLS hos).2, HAL.out.imp hsr⟩, hbZ⟩
end Cu
end Go.Proofs.Yteaanngagcflhaa
