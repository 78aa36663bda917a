/-
  Customers: the reference's Check, Valid, Upto. No condition.
-/
import Derived.Test.YteaanngagcflhaaKc18
import Derived.Test.YteaanngagcflhaaKc27
import Derived.Test.YteaanngagcflhaaKc20
import Derived.BigQuiet
import Derived.StillTailTactics
import Derived.Lib.Overlaps
import Derived.Deep.DeepCutAuto
import Derived.Deep.RegionWith
import Derived.Laws.RangeAny
import Derived.Deep.RegionHeld
import Derived.Deep.RegionHeldLaw
set_option maxRecDepth 100000
set_option linter.unusedVariables false
set_option linter.unusedSimpArgs false
namespace Go.Proofs.Yteaanngagcflhaa
open Go.RowKit
namespace Cu
set_option maxHeartbeats 16000000 in
theorem rCheck_any (A : Option Addr) (n c : Nat) (l : List Ev) (w : World) (hs : Sl w A n c l) (hsz : SzOk l) (hn : n ≤ 1000) :
    Calls Try.prog 24 #[.slice A n c] w fun r w' => r = .returned (.tuple #[.int .i64 (chkL l).1, .int .i64 (chkL l).2]) ∧ Below w.heap.size w w' := by
  have HS := Lib.hid hs
  have HZ := Lib.hid hsz
  have hln := hs.len
  have hnm := hs.nmax
  clear hs hsz
  have hq : ¬ (4096 : Int) < (n : Int) := by omega
  go_enter Try.func24, Try.ntmps24
  go_upto_region 4 with (fail)
  (obtain ⟨V, hWV, hbV, hzV, f1V, qfa⟩ := box1 w #[.slice none 0 0, .slice none 0 0, .slice none 0 0] 99; rw [← hWV]; have qa0 : V.cell? ⟨w.heap.size, 0, none⟩ = some (.slice none 0 0) := f1V 0 _ rfl; have qa1 : V.cell? ⟨w.heap.size, 1, none⟩ = some (.slice none 0 0) := f1V 1 _ rfl; have qa2 : V.cell? ⟨w.heap.size, 2, none⟩ = some (.slice none 0 0) := f1V 2 _ rfl; clear hWV f1V)
  have hBB0 : BB V w.heap.size bk0 := ⟨⟨none, 0, 0, none, 0, 0, none, 0, 0, qa0, qa1, qa2, br0 V⟩, qfa, hzV⟩
  have HB0 := Lib.hid hBB0
  clear qa0 qa1 qa2 qfa hBB0
  go_wp2_with fail
  go_loopw [5, 6] (fun la i wr => ∃ k : Nat, k ≤ n ∧ i = .int .i64 k ∧ la = .int .i64 (lastN l k) ∧ BB wr w.heap.size (bkN l k) ∧ Below w.heap.size w wr ∧ ∀ m, m < k → fltN l m = 0) (fun _ i _ => n - (intOf i).toNat)
  case atStart => exact ⟨0, Nat.zero_le _, rfl, rfl, HB0.out, hbV, fun m hm => absurd hm (Nat.not_lt_zero _)⟩
  case round =>
    obtain ⟨k, hk, rfl, rfl, hbb, hbw, hz⟩ := hrel
    have HBB := Lib.hid hbb
    have HZr := Lib.hid hz
    have HSZ := Lib.hid (bkSz_N l k (by omega))
    obtain ⟨A1, n1, c1, A2, n2, c2, A3, n3, c3, qa0, qa1, qa2, hbr⟩ := hbb.x
    have qf := hbb.f
    have hgr := hbb.l
    have HBR := Lib.hid hbr
    clear hbb hz hbr
    by_cases hlt : k < n
    · obtain ⟨b0, off, hAe, hbl, hcells⟩ := HS.out.baseIn hbw (by omega)
      obtain ⟨e, he⟩ := HS.out.get hlt
      have hes := HZ.out e (List.mem_of_getElem? he)
      have hbl2 : b0 < wr.heap.size := Nat.lt_of_lt_of_le hbl hbw.size
      have ev0 : wr.cell? ⟨b0, off + k * 7, none⟩ = some (.int .i64 e.at_) := Sl.at_ hcells he 0 rfl
      have ev1 : wr.cell? ⟨b0, off + k * 7 + 1, none⟩ = some (.int .i64 e.kind) := Sl.at_ hcells he 1 rfl
      have ev2 : wr.cell? ⟨b0, off + k * 7 + 2, none⟩ = some (.int .i64 e.acc) := Sl.at_ hcells he 2 rfl
      have ev3 : wr.cell? ⟨b0, off + k * 7 + 3, none⟩ = some (.int .i64 e.sub) := Sl.at_ hcells he 3 rfl
      have ev4 : wr.cell? ⟨b0, off + k * 7 + 4, none⟩ = some (.string e.num) := Sl.at_ hcells he 4 rfl
      have ev5 : wr.cell? ⟨b0, off + k * 7 + 5, none⟩ = some (.string e.name) := Sl.at_ hcells he 5 rfl
      have ev6 : wr.cell? ⟨b0, off + k * 7 + 6, none⟩ = some (.int .i64 e.val) := Sl.at_ hcells he 6 rfl
      have HE := Lib.hid he
      subst hAe
      clear hcells he
      obtain ⟨x, hx⟩ : ∃ x, fltN l k = x := ⟨_, rfl⟩
      have HX := Lib.hid hx
      have HFX := Lib.hid (show faultR (bkN l k) e (lastN l k) = x by rw [← fltN_at HE.out]; exact hx)
      clear hx
      obtain ⟨la, hla⟩ : ∃ la, lastN l k = la := ⟨_, rfl⟩
      rw [hla] at HFX
      have HLA := Lib.hid hla
      rw [hla]
      clear hla
      go_upto_region 8 with (fail)
      refine region_known [] (by kernel_rfl) (by kernel_rfl) (by rfl) (by rfl) stays_nil ?_
      intro hnonemp hcr
      refine mix_plain rfl rfl rfl ?_; (first | go_big_quiet_skip | (go_big_quiet_want; go_big_quiet_op; go_big_quiet_on)); refine wpQuiet_nil ?_
      refine mix_plain rfl rfl rfl ?_; (first | go_big_quiet_skip | (go_big_quiet_want; go_big_quiet_op; go_big_quiet_on)); refine wpQuiet_nil ?_
      refine mix_plain rfl rfl rfl ?_; (first | go_big_quiet_skip | (go_big_quiet_want; go_big_quiet_op; go_big_quiet_on)); refine wpQuiet_nil ?_
      refine mix_plain rfl rfl rfl ?_; (first | go_big_quiet_skip | (go_big_quiet_want; go_big_quiet_op; go_big_quiet_on)); refine wpQuiet_nil ?_
      refine mix_plain rfl rfl rfl ?_; (first | go_big_quiet_skip | (go_big_quiet_want; go_big_quiet_op; go_big_quiet_on)); refine wpQuiet_nil ?_
      refine mix_plain rfl rfl rfl ?_; (first | go_big_quiet_skip | (go_big_quiet_want; go_big_quiet_op; go_big_quiet_on)); refine wpQuiet_nil ?_
      refine kn_one (.int .i64 x) Try.func72 (by kernel_rfl) rfl rfl rfl rfl (by simp only [Act.put, List.setIfInBounds_toArray, List.set_cons_succ, List.set_cons_zero]; rfl) (fun z vals hv => ?_) ?_
      · have hc := rFault_any A1 n1 c1 A2 n2 c2 A3 n3 c3 (bkN l k) e.at_ e.kind e.acc e.sub e.val e.num e.name la z.w (HBR.out.on z.h) hes.1 hes.2; rw [HFX.out] at hc; exact ⟨_, (by first | (simp [ev, Act.eval] <;> rfl) | (simp [ev, Act.eval, It.val]; done)), hc⟩
      refine mix_plain rfl rfl rfl ?_; (first | go_big_quiet_skip | (go_big_quiet_want; go_big_quiet_op; go_big_quiet_on)); refine wpQuiet_nil ?_
      intro wq vals hgq hkn
      simp only [over, Nk, List.map_cons, List.map_nil, List.foldl_cons, List.foldl_nil, Act.put, List.setIfInBounds_toArray, List.set_cons_succ, List.set_cons_zero]
      clear hcr hkn hnonemp
      skip
      have hbwq := hbw.trans (hgq.mono hbw.size)
      have hbwz := hbwq
      replace HBB := Lib.hid (HBB.out.below hgq)
      replace HBR := Lib.hid (HBR.out.on hgq)
      replace qa0 := (hgq.cell (p := ⟨w.heap.size, 0, none⟩) hgr).trans qa0
      replace qa1 := (hgq.cell (p := ⟨w.heap.size, 1, none⟩) hgr).trans qa1
      replace qa2 := (hgq.cell (p := ⟨w.heap.size, 2, none⟩) hgr).trans qa2
      replace ev0 := (hgq.cell (p := ⟨b0, off + k * 7, none⟩) hbl2).trans ev0
      replace ev1 := (hgq.cell (p := ⟨b0, off + k * 7 + 1, none⟩) hbl2).trans ev1
      replace ev2 := (hgq.cell (p := ⟨b0, off + k * 7 + 2, none⟩) hbl2).trans ev2
      replace ev3 := (hgq.cell (p := ⟨b0, off + k * 7 + 3, none⟩) hbl2).trans ev3
      replace ev4 := (hgq.cell (p := ⟨b0, off + k * 7 + 4, none⟩) hbl2).trans ev4
      replace ev5 := (hgq.cell (p := ⟨b0, off + k * 7 + 5, none⟩) hbl2).trans ev5
      replace ev6 := (hgq.cell (p := ⟨b0, off + k * 7 + 6, none⟩) hbl2).trans ev6
      replace qf := fun j => (hgq.frozen (p := ⟨w.heap.size, j, none⟩) hgr).trans (qf j)
      replace hgr := Nat.lt_of_lt_of_le hgr hgq.size
      replace hbl2 := Nat.lt_of_lt_of_le hbl2 hgq.size
      clear hbw hgq
      by_cases hx0 : x = 0
      · subst hx0
        have HFP := Lib.hid (fault_parts HFX.out)
        have HQB := Lib.hid (bkN_succ HE.out)
        go_upto_region 11 with (fail)
        refine Gr.region_grow 6 [(34, Gr.bookF (applyR (bkN l k) e))] (by kernel_rfl) rfl rfl (by kernel_rfl) (by kernel_rfl) (by rfl) (by rfl) (stays_cons (Gr.bookF_stays _) stays_nil) ?_
        intro hnonemp hcr
        simp only [List.take_succ_cons, List.take_zero]
        refine Gr.gr_plain rfl rfl rfl ?_; (first | go_big_quiet_skip | (go_big_quiet_want; go_big_quiet_op; go_big_quiet_on)); refine wpQuiet_nil ?_
        refine Gr.gr_plain rfl rfl rfl ?_; (first | go_big_quiet_skip | (go_big_quiet_want; go_big_quiet_op; go_big_quiet_on)); refine wpQuiet_nil ?_
        refine Gr.gr_plain rfl rfl rfl ?_; (first | go_big_quiet_skip | (go_big_quiet_want; go_big_quiet_op; go_big_quiet_on)); refine wpQuiet_nil ?_
        refine Gr.gr_plain rfl rfl rfl ?_; (first | go_big_quiet_skip | (go_big_quiet_want; go_big_quiet_op; go_big_quiet_on)); refine wpQuiet_nil ?_
        refine Gr.gr_plain rfl rfl rfl ?_; (first | go_big_quiet_skip | (go_big_quiet_want; go_big_quiet_op; go_big_quiet_on)); refine wpQuiet_nil ?_
        refine Gr.gr_call 34 _ rfl Try.func73 (by kernel_rfl) rfl rfl rfl rfl (by simp only [Act.put, List.setIfInBounds_toArray, List.set_cons_succ, List.set_cons_zero]; rfl) (fun z vals hv => ?_) ?_
        · refine ⟨#[.agg #[.slice A1 n1 c1, .slice A2 n2 c2, .slice A3 n3 c3], .agg #[.int .i64 e.at_, .int .i64 e.kind, .int .i64 e.acc, .int .i64 e.sub, .string e.num, .string e.name, .int .i64 e.val]], (by first | (simp [ev, Act.eval] <;> rfl) | (simp [ev, Act.eval, It.val]; done)), (rApply_any A1 n1 c1 A2 n2 c2 A3 n3 c3 _ e.at_ e.kind e.acc e.sub e.val e.num e.name z.w (HBR.out.on z.h) (by have := HBR.out.a.len; have := HSZ.out.a; omega) (by have := HBR.out.s.len; have := HSZ.out.s; omega) (by have := HBR.out.e.len; have := HSZ.out.e; omega) HFP.out.2.1 HFP.out.2.2.1 HFP.out.1.1 HFP.out.1.2 (fun t ht => by have := HSZ.out.t t ht; omega)).mono ?_⟩
          rintro e' w' ⟨⟨B1, m1, d1, B2, m2, d2, B3, m3, d3, rfl, hbr'⟩, hb'⟩
          exact ⟨_, rfl, hb', B1, m1, d1, B2, m2, d2, B3, m3, d3, rfl, hbr'⟩
        intro wy vals hgq hkn
        simp only [over, Nk, List.map_cons, List.map_nil, List.foldl_cons, List.foldl_nil, Act.put, List.setIfInBounds_toArray, List.set_cons_succ, List.set_cons_zero]
        have hbl3 := Nat.lt_of_lt_of_le hbl2 hgq.size
        have c0y := (hgq.cell (p := ⟨b0, off + k * 7, none⟩) hbl2).trans ev0
        obtain ⟨B1, m1, d1, B2, m2, d2, B3, m3, d3, e34, hbr'⟩ := hkn 5 _ 34 (by decide) rfl rfl _ rfl
        rw [e34]
        have HBN := Lib.hid ((HBB.out.below hgq).store hbr')
        have hwy : w.heap.size < wy.heap.size := Nat.lt_of_lt_of_le hgr hgq.size
        replace qa0 := (hgq.cell (p := ⟨w.heap.size, 0, none⟩) hgr).trans qa0
        replace qa1 := (hgq.cell (p := ⟨w.heap.size, 1, none⟩) hgr).trans qa1
        replace qa2 := (hgq.cell (p := ⟨w.heap.size, 2, none⟩) hgr).trans qa2
        replace qf := fun j => (hgq.frozen (p := ⟨w.heap.size, j, none⟩) hgr).trans (qf j)
        clear hcr hkn hnonemp e34 hbr'
        go_wp2_with fail
        go_roundw
        case rel =>
          refine ⟨k + 1, by omega, by go_num, by rw [lastN_succ HE.out], by rw [HQB.out]; exact HBN.out, ((((hbwz.trans (hgq.mono hbwz.size)).setCell (Nat.le_refl _) _).setCell (Nat.le_refl _) _).setCell (Nat.le_refl _) _), fun m hm => ?_⟩
          by_cases hmk : m = k
          · rw [hmk]; exact HX.out
          · exact HZr.out m (by omega)
        case measure => simp [intOf]; omega
      · have hxb : (x != 0) = true := by simpa using hx0
        go_wp2_with fail
        go_ret2
        exact ⟨by rw [chkL_bad (by omega) (by omega) HZr.out (by rw [HX.out]; exact hx0), HX.out]; rfl, hbwq⟩
    · obtain rfl : n = k := by omega
      have hkn : ¬ ((n : Int) < (n : Int)) := by omega
      have HQ := Lib.hid (chkL_ok (l := l) (by omega) (fun m hm => HZr.out m (by omega)))
      go_wp2_with fail
      go_ret2
      exact ⟨by rw [HQ.out]; rfl, hbw⟩
def vlB (l : List Ev) : Bool := decide (l.length ≤ 40) && decide ((chkL l).2 = 0)
theorem vlB_true {l : List Ev} (h : vlB l = true) : Vl l := by
  unfold vlB at h
  rw [Bool.and_eq_true, decide_eq_true_eq, decide_eq_true_eq] at h
  exact ⟨h.1, (chkL_zero h.2).2⟩
set_option maxHeartbeats 4000000 in
theorem rValid_any (A : Option Addr) (n c : Nat) (l : List Ev) (w : World) (hs : Sl w A n c l) (hsz : SzOk l) :
    Calls Try.prog 25 #[.slice A n c] w fun r w' => r = .returned (.bool (vlB l)) ∧ Below w.heap.size w w' := by
  have HS := Lib.hid hs
  have hln := hs.len
  have hnm := hs.nmax
  clear hs
  go_enter Try.func25, Try.ntmps25
  by_cases h40 : (40 : Int) < (n : Int)
  · have HQ := Lib.hid (show vlB l = false by unfold vlB; rw [Bool.and_eq_false_iff]; exact .inl (by simp; omega))
    go_wp2_with fail
    go_ret
    exact ⟨by rw [HQ.out]; rfl, Below.refl _ _⟩
  · obtain ⟨x, hx⟩ : ∃ x, (chkL l).2 = x := ⟨_, rfl⟩
    obtain ⟨y, hy⟩ : ∃ y, (chkL l).1 = y := ⟨_, rfl⟩
    have HX := Lib.hid hx
    have HY := Lib.hid hy
    clear hx hy
    have HQ := Lib.hid (show vlB l = decide (x = 0) by unfold vlB; rw [HX.out]; simp; omega)
    go_wp2_with (go_at_call 24; go_must (refine (rCheck_any A n c l _ HS.out hsz (by omega)).mono ?_; rintro r w5 ⟨rfl, hb5⟩; rw [HX.out, HY.out]))
    go_ret
    refine ⟨?_, hb5⟩
    rw [HQ.out]
    by_cases hx0 : x = 0
    · subst hx0; rfl
    · show Ending.returned (Value.bool (x == 0)) = _
      have : (x == 0) = false := by simpa using hx0
      rw [this, decide_eq_false hx0]
end Cu
end Go.Proofs.Yteaanngagcflhaa
namespace Go.Proofs.Yteaanngagcflhaa
open Go.RowKit
namespace Cu
def Cx (w : World) (g : Nat) (va vs : Value) : Prop := w.heap[g]? = some (.cells #[va, vs] 32 (0, 0))
section
variable {w w' : World} {g : Nat} {va vs : Value}
theorem Cx.lt (h : Cx w g va vs) : g < w.heap.size := (Array.getElem?_eq_some_iff.1 h).1
theorem Cx.c0 (h : Cx w g va vs) : w.cell? ⟨g, 0, none⟩ = some va := by unfold Cx at h; simp [World.cell?, h]
theorem Cx.c1 (h : Cx w g va vs) : w.cell? ⟨g, 1, none⟩ = some vs := by unfold Cx at h; simp [World.cell?, h]
theorem Cx.fz (h : Cx w g va vs) (j : Nat) : w.frozen? ⟨g, j, none⟩ = false := by unfold Cx at h; simp [World.frozen?, h]
theorem Cx.below (h : Cx w g va vs) (hb : Below w.heap.size w w') : Cx w' g va vs := (hb.block g h.lt).trans h
theorem Cx.upd {α : Type} [Flat α] {B : Nat} {e : TypeId} {v u : Value} {xs : List α} (h : Cx w g va vs) (ho : Ow w B e v xs) (hne : e ≠ 32) (hu : Upd w w' v u) : Cx w' g va vs :=
  (hu.grew.block g h.lt (fun e => ow_ty ho h hne e.symm)).trans h
theorem Cx.set0 (h : Cx w g va vs) (u : Value) : Cx (w.setCell ⟨g, 0, none⟩ u) g u vs := blk_setCell h 0 u
theorem Cx.set1 (h : Cx w g va vs) (u : Value) : Cx (w.setCell ⟨g, 1, none⟩ u) g va u := blk_setCell h 1 u
theorem Cx.keepO {α : Type} [Flat α] {B : Nat} {e : TypeId} {v : Value} {xs : List α} (h : Cx w g va vs) (ho : Ow w B e v xs) (hne : e ≠ 32) (o : Nat) (u : Value) : Ow (w.setCell ⟨g, o, none⟩ u) B e v xs :=
  World.ownsRow.kept ho (Lib.grownBy_setCell w g o u) (.inr (ow_ty ho h hne))
end
def AO (w : World) (C : Nat) (t : Av) (y : Ac × List Int) : Prop := t.id = y.1.id ∧ t.since = y.1.since ∧ t.anchor = y.1.anchor ∧ t.prepaid = y.1.prepaid ∧ t.closed = y.1.closed ∧ Ow w C 3 (.slice t.A t.n t.c) y.2
theorem AO.to {w w' : World} {C C' : Nat} {t : Av} {y : Ac × List Int} (h : AO w C t y) (k : Ow w C 3 (.slice t.A t.n t.c) y.2 → Ow w' C' 3 (.slice t.A t.n t.c) y.2) : AO w' C' t y := ⟨h.1, h.2.1, h.2.2.1, h.2.2.2.1, h.2.2.2.2.1, k h.2.2.2.2.2⟩
theorem AO.ar {w : World} {C : Nat} {t : Av} {y : Ac × List Int} (h : AO w C t y) : AR w t y := ⟨h.1, h.2.1, h.2.2.1, h.2.2.2.1, h.2.2.2.2.1, (rowLS h.2.2.2.2.2).1, (rowLS h.2.2.2.2.2).2⟩
theorem Ow.lower {α : Type} [Flat α] {w : World} {B B' : Nat} {e : TypeId} {v : Value} {xs : List α} (h : Ow w B e v xs) (hB : B' ≤ B) : Ow w B' e v xs := by
  refine ⟨h.1, ?_⟩
  rcases h.2 with hn | ⟨g, cap, cur, hv, hb, rest⟩
  · exact .inl hn
  · exact .inr ⟨g, cap, cur, hv, Nat.le_trans hB hb, rest⟩
def Ax (w : World) (g : Nat) (ac : Ac) (A : Option Addr) (n c : Nat) : Prop := w.heap[g]? = some (.cells #[.int .i64 ac.id, .int .i64 ac.since, .int .i64 ac.anchor, .bool ac.prepaid, .bool ac.closed, .slice A n c] 46 (0, 0))
section
variable {w w' : World} {g : Nat} {ac : Ac} {A : Option Addr} {n c : Nat}
theorem Ax.lt (h : Ax w g ac A n c) : g < w.heap.size := (Array.getElem?_eq_some_iff.1 h).1
theorem Ax.fz (h : Ax w g ac A n c) (j : Nat) : w.frozen? ⟨g, j, none⟩ = false := by unfold Ax at h; simp [World.frozen?, h]
theorem Ax.below (h : Ax w g ac A n c) (hb : Below w.heap.size w w') : Ax w' g ac A n c := (hb.block g h.lt).trans h
theorem Ax.upd {α : Type} [Flat α] {B : Nat} {e : TypeId} {v u : Value} {xs : List α} (h : Ax w g ac A n c) (ho : Ow w B e v xs) (hne : e ≠ 46) (hu : Upd w w' v u) : Ax w' g ac A n c :=
  (hu.grew.block g h.lt (fun e => ow_ty ho h hne e.symm)).trans h
theorem Ax.keepO {α : Type} [Flat α] {B : Nat} {e : TypeId} {v : Value} {xs : List α} (h : Ax w g ac A n c) (ho : Ow w B e v xs) (hne : e ≠ 46) (o : Nat) (u : Value) : Ow (w.setCell ⟨g, o, none⟩ u) B e v xs :=
  World.ownsRow.kept ho (Lib.grownBy_setCell w g o u) (.inr (ow_ty ho h hne))
end
end Cu
end Go.Proofs.Yteaanngagcflhaa
namespace Go.Proofs.Yteaanngagcflhaa
open Go.RowKit
namespace Cu
theorem results_cells2 {P : Program} {fn : Func} {p u : Tmp} {ty : TypeId} (h : fn.results = #[.cell p ty, .tmp u]) (tmps : Array Value) (w : World) (g : Nat) (cs : Array Value) (d : TypeDesc)
    (hp : tmps.getD p undef = .pointer (some ⟨g, 0, none⟩)) (hc : ∀ j v, cs.toList[j]? = some v → w.cell? ⟨g, j, none⟩ = some v)
    (hu : P.underlying ty = some d) (hd : (match d with | .struct _ | .array _ _ => true | _ => false) = true) (hi : (P.info? ty).map (·.size) = some cs.size) :
    (results fn tmps).run P w = .ok (.tuple #[.agg cs, tmps.getD u undef]) w := by
  have hl : (loadCells ⟨g, 0, none⟩ cs.toList.length).run P w = .ok cs.toList.toArray w :=
    run_loadCells_list (P := P) w ⟨g, 0, none⟩ cs.toList (fun j v hv => by
      have hadd : (⟨g, 0, none⟩ : Addr).add j = ⟨g, j, none⟩ := by unfold Addr.add; split <;> simp_all
      rw [hadd]
      exact hc j v hv)
  cases hq : P.info? ty with
  | none => simp [hq] at hi
  | some i =>
    have hs : i.size = cs.size := by simpa [hq] using hi
    have hagg : (isAgg ty).run P w = .ok true w := by
      unfold isAgg
      rw [Sem.run_bind, run_underlying hu w]
      cases d <;> simp_all
    simp only [Array.length_toList, Array.toArray_toList] at hl
    have hrow : (loadVar ty ⟨g, 0, none⟩).run P w = .ok (.agg cs) w := by
      simp [loadVar, Sem.run_bind, hagg, sizeOf, typeInfo, hq, hs, hl]
    rw [results_cell_tmp h, hp]
    simp [asAddr, hrow, Result.andThen]
theorem six {w : World} {g : Nat} {v0 v1 v2 v3 v4 v5 : Value} (h0 : w.cell? ⟨g, 0, none⟩ = some v0) (h1 : w.cell? ⟨g, 1, none⟩ = some v1) (h2 : w.cell? ⟨g, 2, none⟩ = some v2) (h3 : w.cell? ⟨g, 3, none⟩ = some v3) (h4 : w.cell? ⟨g, 4, none⟩ = some v4) (h5 : w.cell? ⟨g, 5, none⟩ = some v5) :
    ∀ j u, [v0, v1, v2, v3, v4, v5][j]? = some u → w.cell? ⟨g, 0 + j, none⟩ = some u := fun j u hu => by
  match j, hu with
  | 0, hu => cases hu; exact h0
  | 1, hu => cases hu; exact h1
  | 2, hu => cases hu; exact h2
  | 3, hu => cases hu; exact h3
  | 4, hu => cases hu; exact h4
  | 5, hu => cases hu; exact h5
theorem findNone {α : Type} {p : α → Bool} {l : List α} (h : ∀ (m : Nat) y, l[m]? = some y → p y = false) : l.find? p = none := by
  rw [List.find?_eq_none]
  intro x hx
  obtain ⟨m, hm⟩ := List.getElem?_of_mem hx
  rw [h m x hm]; decide
theorem findAt {α : Type} {p : α → Bool} : ∀ {l : List α} {k : Nat} {x : α}, l[k]? = some x → p x = true → (∀ (m : Nat) y, m < k → l[m]? = some y → p y = false) → l.find? p = some x
  | [], k, x, h, _, _ => by simp at h
  | b :: l, 0, x, h, hp, _ => by cases h; rw [List.find?_cons_of_pos hp]
  | b :: l, k + 1, x, h, hp, hn => by
    rw [List.find?_cons_of_neg (by rw [hn 0 b (by omega) rfl]; decide)]
    exact findAt (l := l) (k := k) (by simpa using h) hp fun m y hm hy => hn (m + 1) y (by omega) (by simpa using hy)
theorem old8 {w : World} {R : Nat} {s : Sb} (h : NeS s.nums ∧ NeS s.prods) (h0 : w.cell? ⟨R, 0, none⟩ = some (.int .i64 0)) (h1 : w.cell? ⟨R, 1, none⟩ = some (.int .i64 0)) (h2 : w.cell? ⟨R, 2, none⟩ = some (.int .i64 0)) (h3 : w.cell? ⟨R, 3, none⟩ = some (.string ⟨#[]⟩)) (h4 : w.cell? ⟨R, 4, none⟩ = some (.slice none 0 0)) (h5 : w.cell? ⟨R, 5, none⟩ = some (.slice none 0 0)) (h6 : w.cell? ⟨R, 6, none⟩ = some (.bool false)) (h7 : w.cell? ⟨R, 7, none⟩ = some (.bool false)) :
    ∀ j, j < 8 → ∃ old, w.cell? ⟨R, 0 + j, none⟩ = some old ∧ (∀ x ∈ s.nums, old ≠ .string x) ∧ ∀ x ∈ s.prods, old ≠ .string x := fun j hj => by
  have hs : ∀ l : List ByteArray, NeS l → ∀ x ∈ l, Value.string ⟨#[]⟩ ≠ .string x := fun l hl x hx e => hl x hx (by injection e with e; exact e.symm)
  have hj' : j = 0 ∨ j = 1 ∨ j = 2 ∨ j = 3 ∨ j = 4 ∨ j = 5 ∨ j = 6 ∨ j = 7 := by omega
  rcases hj' with rfl | rfl | rfl | rfl | rfl | rfl | rfl | rfl
  · exact ⟨_, h0, fun _ _ e => (by cases e), fun _ _ e => (by cases e)⟩
  · exact ⟨_, h1, fun _ _ e => (by cases e), fun _ _ e => (by cases e)⟩
  · exact ⟨_, h2, fun _ _ e => (by cases e), fun _ _ e => (by cases e)⟩
  · exact ⟨_, h3, hs _ h.1, hs _ h.2⟩
  · exact ⟨_, h4, fun _ _ e => (by cases e), fun _ _ e => (by cases e)⟩
  · exact ⟨_, h5, fun _ _ e => (by cases e), fun _ _ e => (by cases e)⟩
  · exact ⟨_, h6, fun _ _ e => (by cases e), fun _ _ e => (by cases e)⟩
  · exact ⟨_, h7, fun _ _ e => (by cases e), fun _ _ e => (by cases e)⟩
theorem fld0 (A1 : Option Addr) (n1 c1 : Nat) (A2 : Option Addr) (n2 c2 : Nat) (W : World) : (Instr.field 32 (.agg #[.slice A1 n1 c1, .slice A2 n2 c2]) 0).run Try.prog W = .ok (.slice A1 n1 c1) W := by kernel_rfl
theorem fld1 (A1 : Option Addr) (n1 c1 : Nat) (A2 : Option Addr) (n2 c2 : Nat) (W : World) : (Instr.field 32 (.agg #[.slice A1 n1 c1, .slice A2 n2 c2]) 1).run Try.prog W = .ok (.slice A2 n2 c2) W := by kernel_rfl
set_option maxHeartbeats 4000000 in
theorem Sub_any (A : Option Addr) (n c : Nat) (l : List Ev) (x t : Int) (w : World) (hs : Sl w A n c l) (hv : Vl l) (hz : SzOk l) :
    Calls Try.prog 34 #[.slice A n c, .int .i64 x, .int .i64 t] w fun r w' => (∃ v : Sv, r = .returned (.tuple #[v.val, .bool ((cSubs (bkAt l t)).find? (fun y => y.id == x)).isSome]) ∧ SR w' v (((cSubs (bkAt l t)).find? (fun y => y.id == x)).getD sb0)) ∧ Below w.heap.size w w' := by
  have HS := Lib.hid hs
  have HV := Lib.hid hv
  have HZ := Lib.hid hz
  clear hs hv hz
  have hfl0 := fld0
  have hfl1 := fld1
  go_enter Try.func34, Try.ntmps34
  go_upto_region 1 with (fail)
  (obtain ⟨V, hWV, hbV, hzV, f1V, qfa⟩ := box1 w #[.int .i64 0, .int .i64 0, .int .i64 0, .string ⟨#[]⟩, .slice none 0 0, .slice none 0 0, .bool false, .bool false] 51; rw [← hWV]; have qa0 : V.cell? ⟨w.heap.size, 0, none⟩ = some (.int .i64 0) := f1V 0 _ rfl; have qa1 : V.cell? ⟨w.heap.size, 1, none⟩ = some (.int .i64 0) := f1V 1 _ rfl; have qa2 : V.cell? ⟨w.heap.size, 2, none⟩ = some (.int .i64 0) := f1V 2 _ rfl; have qa3 : V.cell? ⟨w.heap.size, 3, none⟩ = some (.string ⟨#[]⟩) := f1V 3 _ rfl; have qa4 : V.cell? ⟨w.heap.size, 4, none⟩ = some (.slice none 0 0) := f1V 4 _ rfl; have qa5 : V.cell? ⟨w.heap.size, 5, none⟩ = some (.slice none 0 0) := f1V 5 _ rfl; have qa6 : V.cell? ⟨w.heap.size, 6, none⟩ = some (.bool false) := f1V 6 _ rfl; have qa7 : V.cell? ⟨w.heap.size, 7, none⟩ = some (.bool false) := f1V 7 _ rfl; clear hWV f1V)
  go_wp2_with (go_at_call 27; go_must (refine (State_vl A n c l t _ (HS.out.below hbV) HV.out HZ.out).mono ?_; rintro r w5 ⟨Aa, na, ca, As, ns, cs, rfl, hla, hls, hb5⟩; have hbw5 := hbV.trans (hb5.mono hbV.size); replace qa0 := (hb5.cell (p := ⟨w.heap.size, 0, none⟩) hzV).trans qa0; replace qa1 := (hb5.cell (p := ⟨w.heap.size, 1, none⟩) hzV).trans qa1; replace qa2 := (hb5.cell (p := ⟨w.heap.size, 2, none⟩) hzV).trans qa2; replace qa3 := (hb5.cell (p := ⟨w.heap.size, 3, none⟩) hzV).trans qa3; replace qa4 := (hb5.cell (p := ⟨w.heap.size, 4, none⟩) hzV).trans qa4; replace qa5 := (hb5.cell (p := ⟨w.heap.size, 5, none⟩) hzV).trans qa5; replace qa6 := (hb5.cell (p := ⟨w.heap.size, 6, none⟩) hzV).trans qa6; replace qa7 := (hb5.cell (p := ⟨w.heap.size, 7, none⟩) hzV).trans qa7; replace qfa := fun j => (hb5.frozen (p := ⟨w.heap.size, j, none⟩) hzV).trans (qfa j); have hg5 : w.heap.size < w5.heap.size := Nat.lt_of_lt_of_le hzV hb5.size; have HL := Lib.hid hls; clear hb5 hla hls))
  obtain ⟨hN0, xs, hxs, hall⟩ := HL.out
  have HXS := Lib.hid hxs
  have HALL := Lib.hid hall
  have hln : (cSubs (bkAt l t)).length = ns := HL.out.len
  have hnm := hxs.nmax
  have HLN := Lib.hid hln
  clear hN0 hxs hall hln
  go_loopw [15] (fun i wr => ∃ k : Nat, k ≤ ns ∧ i = .int .i64 k ∧ Below w5.heap.size w5 wr ∧ ∀ (m : Nat) y, m < k → (cSubs (bkAt l t))[m]? = some y → (y.id == x) = false) (fun i _ => ns - (intOf i).toNat)
  case atStart => exact ⟨0, Nat.zero_le _, rfl, Below.refl _ _, fun m y hm => absurd hm (Nat.not_lt_zero _)⟩
  case round =>
    obtain ⟨k, hk, rfl, hbr, hno⟩ := hrel
    have HN := Lib.hid hno
    have hgr : w.heap.size < wr.heap.size := Nat.lt_of_lt_of_le hg5 hbr.size
    clear hno
    replace qa0 := (hbr.cell (p := ⟨w.heap.size, 0, none⟩) hg5).trans qa0
    replace qa1 := (hbr.cell (p := ⟨w.heap.size, 1, none⟩) hg5).trans qa1
    replace qa2 := (hbr.cell (p := ⟨w.heap.size, 2, none⟩) hg5).trans qa2
    replace qa3 := (hbr.cell (p := ⟨w.heap.size, 3, none⟩) hg5).trans qa3
    replace qa4 := (hbr.cell (p := ⟨w.heap.size, 4, none⟩) hg5).trans qa4
    replace qa5 := (hbr.cell (p := ⟨w.heap.size, 5, none⟩) hg5).trans qa5
    replace qa6 := (hbr.cell (p := ⟨w.heap.size, 6, none⟩) hg5).trans qa6
    replace qa7 := (hbr.cell (p := ⟨w.heap.size, 7, none⟩) hg5).trans qa7
    replace qfa := fun j => (hbr.frozen (p := ⟨w.heap.size, j, none⟩) hg5).trans (qfa j)
    by_cases hlt : k < ns
    · obtain ⟨b0, off, hAe, hbl, hcells⟩ := HXS.out.baseIn hbr (by omega)
      obtain ⟨v, hv⟩ := HXS.out.get hlt
      obtain ⟨y, hy, hsr⟩ := HALL.out.at_ hv
      have hbl2 : b0 < wr.heap.size := Nat.lt_of_lt_of_le hbl hbr.size
      have ev0 : wr.cell? ⟨b0, off + k * 8, none⟩ = some (.int .i64 v.id) := Sl.at_ hcells hv 0 rfl
      have ev1 : wr.cell? ⟨b0, off + k * 8 + 1, none⟩ = some (.int .i64 v.acc) := Sl.at_ hcells hv 1 rfl
      have ev2 : wr.cell? ⟨b0, off + k * 8 + 2, none⟩ = some (.int .i64 v.since) := Sl.at_ hcells hv 2 rfl
      have ev3 : wr.cell? ⟨b0, off + k * 8 + 3, none⟩ = some (.string v.plan) := Sl.at_ hcells hv 3 rfl
      have ev4 : wr.cell? ⟨b0, off + k * 8 + 4, none⟩ = some (.slice v.An v.nn v.cn) := Sl.at_ hcells hv 4 rfl
      have ev5 : wr.cell? ⟨b0, off + k * 8 + 5, none⟩ = some (.slice v.Ap v.np v.cp) := Sl.at_ hcells hv 5 rfl
      have ev6 : wr.cell? ⟨b0, off + k * 8 + 6, none⟩ = some (.bool v.susp) := Sl.at_ hcells hv 6 rfl
      have ev7 : wr.cell? ⟨b0, off + k * 8 + 7, none⟩ = some (.bool v.fam) := Sl.at_ hcells hv 7 rfl
      have HSR := Lib.hid hsr
      have HY := Lib.hid hy
      have HID := Lib.hid hsr.id
      subst hAe
      clear hcells hv hsr hy
      go_upto_region 4 with (fail)
      (obtain ⟨X, hWX, hbX, hzX, f1X, efa⟩ := box1 wr #[.int .i64 v.id, .int .i64 v.acc, .int .i64 v.since, .string v.plan, .slice v.An v.nn v.cn, .slice v.Ap v.np v.cp, .bool v.susp, .bool v.fam] 51; rw [← hWX]; have ea0 : X.cell? ⟨wr.heap.size, 0, none⟩ = some (.int .i64 v.id) := f1X 0 _ rfl; have ea1 : X.cell? ⟨wr.heap.size, 1, none⟩ = some (.int .i64 v.acc) := f1X 1 _ rfl; have ea2 : X.cell? ⟨wr.heap.size, 2, none⟩ = some (.int .i64 v.since) := f1X 2 _ rfl; have ea3 : X.cell? ⟨wr.heap.size, 3, none⟩ = some (.string v.plan) := f1X 3 _ rfl; have ea4 : X.cell? ⟨wr.heap.size, 4, none⟩ = some (.slice v.An v.nn v.cn) := f1X 4 _ rfl; have ea5 : X.cell? ⟨wr.heap.size, 5, none⟩ = some (.slice v.Ap v.np v.cp) := f1X 5 _ rfl; have ea6 : X.cell? ⟨wr.heap.size, 6, none⟩ = some (.bool v.susp) := f1X 6 _ rfl; have ea7 : X.cell? ⟨wr.heap.size, 7, none⟩ = some (.bool v.fam) := f1X 7 _ rfl; clear hWX f1X)
      have hbwX := hbw5.trans ((hbr.trans (hbX.mono hbr.size)).mono hbw5.size)
      by_cases heq : v.id = x
      · subst heq
        have HF := Lib.hid (show (cSubs (bkAt l t)).find? (fun y => y.id == v.id) = some y from findAt HY.out (by simp [HID.out]) HN.out)
        have r0 := (hbX.cell (p := ⟨w.heap.size, 0, none⟩) hgr).trans qa0
        have r1 := (hbX.cell (p := ⟨w.heap.size, 1, none⟩) hgr).trans qa1
        have r2 := (hbX.cell (p := ⟨w.heap.size, 2, none⟩) hgr).trans qa2
        have r3 := (hbX.cell (p := ⟨w.heap.size, 3, none⟩) hgr).trans qa3
        have r4 := (hbX.cell (p := ⟨w.heap.size, 4, none⟩) hgr).trans qa4
        have r5 := (hbX.cell (p := ⟨w.heap.size, 5, none⟩) hgr).trans qa5
        have r6 := (hbX.cell (p := ⟨w.heap.size, 6, none⟩) hgr).trans qa6
        have r7 := (hbX.cell (p := ⟨w.heap.size, 7, none⟩) hgr).trans qa7
        have rf := fun j => (hbX.frozen (p := ⟨w.heap.size, j, none⟩) hgr).trans (qfa j)
        have hgX : w.heap.size < X.heap.size := Nat.lt_of_lt_of_le hgr hbX.size
        have HSX := Lib.hid (HSR.out.on (hbr.trans (hbX.mono hbr.size)))
        go_wp2_with fail
        have hr := setRun_is (vs := [.int .i64 v.id, .int .i64 v.acc, .int .i64 v.since, .string v.plan, .slice v.An v.nn v.cn, .slice v.Ap v.np v.cp, .bool v.susp, .bool v.fam]) (eight r0 r1 r2 r3 r4 r5 r6 r7) (Nat.le_refl _)
        refine bodyPost_ret (results_cells2 (fn := Try.f34) (P := Try.prog) (p := 6) (u := 7) (ty := 51) rfl _ _ w.heap.size ⟨[.int .i64 v.id, .int .i64 v.acc, .int .i64 v.since, .string v.plan, .slice v.An v.nn v.cn, .slice v.Ap v.np v.cp, .bool v.susp, .bool v.fam]⟩ _ ?a1 ?a2 rfl rfl rfl) ?a3 ?_
        case a1 => rfl
        case a2 => exact hr
        case a3 => rfl
        rw [HF.out]
        have hbE : Below w.heap.size w (setRun X w.heap.size 0 [.int .i64 v.id, .int .i64 v.acc, .int .i64 v.since, .string v.plan, .slice v.An v.nn v.cn, .slice v.Ap v.np v.cp, .bool v.susp, .bool v.fam]) := setRun_below _ _ _ hbwX (Nat.le_refl _)
        have hSE : SR (setRun X w.heap.size 0 [.int .i64 v.id, .int .i64 v.acc, .int .i64 v.since, .string v.plan, .slice v.An v.nn v.cn, .slice v.Ap v.np v.cp, .bool v.susp, .bool v.fam]) v y := SR.setRunNe [.int .i64 v.id, .int .i64 v.acc, .int .i64 v.since, .string v.plan, .slice v.An v.nn v.cn, .slice v.Ap v.np v.cp, .bool v.susp, .bool v.fam] 0 HSX.out (old8 (cSubs_ne (bkAt_ne HV.out t) y (List.mem_of_getElem? HY.out)) r0 r1 r2 r3 r4 r5 r6 r7)
        exact ⟨⟨v, rfl, hSE⟩, hbE⟩
      · go_wp2_with fail
        go_roundw
        case rel =>
          refine ⟨k + 1, by omega, by go_num, hbr.trans (hbX.mono hbr.size), fun m z hm hz => ?_⟩
          by_cases hmk : m = k
          · subst hmk
            have h2 := HY.out
            rw [hz] at h2
            cases h2
            simpa [← HID.out] using heq
          · exact HN.out m z (by omega) hz
        case measure => simp [intOf]; omega
    · obtain rfl : ns = k := by omega
      have hkn : ¬ ((ns : Int) < (ns : Int)) := by omega
      have HF := Lib.hid (show (cSubs (bkAt l t)).find? (fun y => y.id == x) = none from findNone fun m y hy => HN.out m y (by have := (List.getElem?_eq_some_iff.1 hy).1; have := HLN.out; omega) hy)
      have hbwr := hbw5.trans (hbr.mono hbw5.size)
      go_wp2_with fail
      have hr := setRun_is (vs := [.int .i64 0, .int .i64 0, .int .i64 0, .string ⟨#[]⟩, .slice none 0 0, .slice none 0 0, .bool false, .bool false]) (eight qa0 qa1 qa2 qa3 qa4 qa5 qa6 qa7) (Nat.le_refl _)
      refine bodyPost_ret (results_cells2 (fn := Try.f34) (P := Try.prog) (p := 6) (u := 7) (ty := 51) rfl _ _ w.heap.size ⟨[.int .i64 0, .int .i64 0, .int .i64 0, .string ⟨#[]⟩, .slice none 0 0, .slice none 0 0, .bool false, .bool false]⟩ _ ?a1 ?a2 rfl rfl rfl) ?a3 ?_
      case a1 => rfl
      case a2 => exact hr
      case a3 => rfl
      rw [HF.out]
      exact ⟨⟨sv0, rfl, (sv0_sr _ (fun _ => True)).1⟩, setRun_below [.int .i64 0, .int .i64 0, .int .i64 0, .string ⟨#[]⟩, .slice none 0 0, .slice none 0 0, .bool false, .bool false] _ _ hbwr (Nat.le_refl _)⟩
end Cu
end Go.Proofs.Yteaanngagcflhaa
namespace Go.Proofs.Yteaanngagcflhaa
open Go.RowKit
namespace Ss
open Cu
def LSP (w : World) (P : Nat → Prop) (A : Option Addr) (n c : Nat) (ss : List Sb) : Prop := (A = none → c = 0) ∧ ∃ xs : List Sv, Sl w A n c xs ∧ All2 (SRP w P) xs ss
def BQ (w : World) (P : Nat → Prop) (Aa : Option Addr) (na ca : Nat) (As : Option Addr) (ns cs : Nat) (Ae : Option Addr) (ne ce : Nat) (b : Bk) : Prop := BR w Aa na ca As ns cs Ae ne ce b ∧ LSP w P As ns cs b.subs
theorem BQ.on {w w' : World} {P : Nat → Prop} {Aa : Option Addr} {na ca : Nat} {As : Option Addr} {ns cs : Nat} {Ae : Option Addr} {ne ce : Nat} {b : Bk} (h : BQ w P Aa na ca As ns cs Ae ne ce b) (hb : Below w.heap.size w w') : BQ w' P Aa na ca As ns cs Ae ne ce b := by
  obtain ⟨h1, h0, xs, h2, h3⟩ := h
  exact ⟨h1.on hb, h0, xs, h2.below hb, h3.imp fun _ _ x => famS.keep x (Keeps.ofBelow hb)⟩
theorem BQ.setS {w : World} {P : Nat → Prop} {R o : Nat} {u : Value} {A : Option Addr} {n c : Nat} {Aa : Option Addr} {na ca : Nat} {As : Option Addr} {ns cs : Nat} {Ae : Option Addr} {ne ce : Nat} {b : Bk} (h : BQ w P Aa na ca As ns cs Ae ne ce b) (hold : w.cell? ⟨R, o, none⟩ = some (.slice A n c)) (ho : o ≤ 2) : BQ (w.setCell ⟨R, o, none⟩ u) P Aa na ca As ns cs Ae ne ce b := by
  obtain ⟨h1, h0, xs, h2, h3⟩ := h
  refine ⟨h1.setS hold ho, h0, xs, slSet h2 hold (fun x j hj => ?_), h3.imp fun _ _ x => ⟨x.1.setS hold, x.2⟩⟩
  match j, hj with
  | 0, hj => cases hj
  | 1, hj => cases hj
  | 2, hj => cases hj
  | j + 3, hj => omega
end Ss
end Go.Proofs.Yteaanngagcflhaa
namespace Go.Proofs.Yteaanngagcflhaa
open Go.RowKit
namespace Ss
open Cu
structure BBQ (P : Nat → Prop) (w : World) (g : Nat) (b : Bk) : Prop where
  x : ∃ A1 n1 c1 A2 n2 c2 A3 n3 c3, w.cell? ⟨g, 0, none⟩ = some (.slice A1 n1 c1) ∧ w.cell? ⟨g, 1, none⟩ = some (.slice A2 n2 c2) ∧ w.cell? ⟨g, 2, none⟩ = some (.slice A3 n3 c3) ∧ BQ w P A1 n1 c1 A2 n2 c2 A3 n3 c3 b
  f : ∀ j, w.frozen? ⟨g, j, none⟩ = false
  l : g < w.heap.size
theorem BBQ.below {P : Nat → Prop} {w w' : World} {g : Nat} {b : Bk} (h : BBQ P w g b) (hb : Below w.heap.size w w') : BBQ P w' g b := by
  obtain ⟨A1, n1, c1, A2, n2, c2, A3, n3, c3, h0, h1, h2, h3⟩ := h.x
  exact ⟨⟨A1, n1, c1, A2, n2, c2, A3, n3, c3, (hb.cell (p := ⟨g, 0, none⟩) h.l).trans h0, (hb.cell (p := ⟨g, 1, none⟩) h.l).trans h1, (hb.cell (p := ⟨g, 2, none⟩) h.l).trans h2, h3.on hb⟩, fun j => (hb.frozen (p := ⟨g, j, none⟩) h.l).trans (h.f j), Nat.lt_of_lt_of_le h.l hb.size⟩
theorem BBQ.store {P : Nat → Prop} {w : World} {g : Nat} {b b' : Bk} (h : BBQ P w g b) {A1 A2 A3 : Option Addr} {n1 c1 n2 c2 n3 c3 : Nat} (hb : BQ w P A1 n1 c1 A2 n2 c2 A3 n3 c3 b') :
    BBQ P (((w.setCell ⟨g, 0, none⟩ (.slice A1 n1 c1)).setCell ⟨g, 1, none⟩ (.slice A2 n2 c2)).setCell ⟨g, 2, none⟩ (.slice A3 n3 c3)) g b' := by
  obtain ⟨B1, m1, d1, B2, m2, d2, B3, m3, d3, h0, h1, h2, _⟩ := h.x
  have ne : ∀ (W : World) (i j : Nat) (u : Value), i ≠ j → (W.setCell ⟨g, i, none⟩ u).cell? ⟨g, j, none⟩ = W.cell? ⟨g, j, none⟩ := fun W i j u hij => World.cell?_setCell_other _ _ _ _ (fun e => by injection e with e1 e2; omega)
  have k1 := (ne w 0 1 (.slice A1 n1 c1) (by omega)).trans h1
  have k2 := (ne w 0 2 (.slice A1 n1 c1) (by omega)).trans h2
  have k3 := (ne (w.setCell ⟨g, 0, none⟩ (.slice A1 n1 c1)) 1 2 (.slice A2 n2 c2) (by omega)).trans k2
  refine ⟨⟨A1, n1, c1, A2, n2, c2, A3, n3, c3, ?_, ?_, ?_, ((hb.setS h0 (by omega)).setS k1 (by omega)).setS k3 (by omega)⟩, fun j => by rw [World.frozen?_setCell, World.frozen?_setCell, World.frozen?_setCell]; exact h.f j, by rw [World.size_setCell, World.size_setCell, World.size_setCell]; exact h.l⟩
  · exact (ne _ 2 0 _ (by omega)).trans ((ne _ 1 0 _ (by omega)).trans (World.cell?_setCell_same _ _ _ h0))
  · exact (ne _ 2 1 _ (by omega)).trans (World.cell?_setCell_same _ _ _ k1)
  · exact World.cell?_setCell_same _ _ _ k3
end Ss
end Go.Proofs.Yteaanngagcflhaa
