/-
  Subscriptions of the reference: where they lie in memory; Upto, Sub. No condition.
-/
import Derived.Test.YteaanngagcflhaaKb31
import Derived.BigQuiet
import Derived.StillTailTactics
import Derived.Lib.Overlaps
import Derived.Deep.DeepCutAuto
import Derived.Deep.RegionWith
import Derived.Laws.RangeAny
import Derived.Deep.RegionHeld
import Derived.Deep.RegionHeldLaw
set_option maxRecDepth 100000
set_option linter.unusedVariables false
set_option linter.unusedSimpArgs false
namespace Go.Proofs.Yteaanngagcflhaa
open Go.RowKit
namespace Ss
open Cu
structure BBQ (P : Nat → Prop) (w : World) (g : Nat) (b : Bk) : Prop where
  x : ∃ A1 n1 c1 A2 n2 c2 A3 n3 c3, w.cell? ⟨g, 0, none⟩ = some (.slice A1 n1 c1) ∧ w.cell? ⟨g, 1, none⟩ = some (.slice A2 n2 c2) ∧ w.cell? ⟨g, 2, none⟩ = some (.slice A3 n3 c3) ∧ BQ w P A1 n1 c1 A2 n2 c2 A3 n3 c3 b
  f : ∀ j, w.frozen? ⟨g, j, none⟩ = false
  l : g < w.heap.size
theorem BBQ.below {P : Nat → Prop} {w w' : World} {g : Nat} {b : Bk} (h : BBQ P w g b) (hb : Below w.heap.size w w') : BBQ P w' g b := by
  obtain ⟨A1, n1, c1, A2, n2, c2, A3, n3, c3, h0, h1, h2, h3⟩ := h.x
  exact ⟨⟨A1, n1, c1, A2, n2, c2, A3, n3, c3, (hb.cell (p := ⟨g, 0, none⟩) h.l).trans h0, (hb.cell (p := ⟨g, 1, none⟩) h.l).trans h1, (hb.cell (p := ⟨g, 2, none⟩) h.l).trans h2, h3.on hb⟩, fun j => (hb.frozen (p := ⟨g, j, none⟩) h.l).trans (h.f j), Nat.lt_of_lt_of_le h.l hb.size⟩
theorem BBQ.store {P : Nat → Prop} {w : World} {g : Nat} {b b' : Bk} (h : BBQ P w g b) {A1 A2 A3 : Option Addr} {n1 c1 n2 c2 n3 c3 : Nat} (hb : BQ w P A1 n1 c1 A2 n2 c2 A3 n3 c3 b') :
    BBQ P (((w.setCell ⟨g, 0, none⟩ (.slice A1 n1 c1)).setCell ⟨g, 1, none⟩ (.slice A2 n2 c2)).setCell ⟨g, 2, none⟩ (.slice A3 n3 c3)) g b' := by
  obtain ⟨B1, m1, d1, B2, m2, d2, B3, m3, d3, h0, h1, h2, _⟩ := h.x
  have ne : ∀ (W : World) (i j : Nat) (u : Value), i ≠ j → (W.setCell ⟨g, i, none⟩ u).cell? ⟨g, j, none⟩ = W.cell? ⟨g, j, none⟩ := fun W i j u hij => World.cell?_setCell_other _ _ _ _ (fun e => by injection e with e1 e2; omega)
  have k1 := (ne w 0 1 (.slice A1 n1 c1) (by omega)).trans h1
  have k2 := (ne w 0 2 (.slice A1 n1 c1) (by omega)).trans h2
  have k3 := (ne (w.setCell ⟨g, 0, none⟩ (.slice A1 n1 c1)) 1 2 (.slice A2 n2 c2) (by omega)).trans k2
  refine ⟨⟨A1, n1, c1, A2, n2, c2, A3, n3, c3, ?_, ?_, ?_, ((hb.setS h0 (by omega)).setS k1 (by omega)).setS k3 (by omega)⟩, fun j => by rw [World.frozen?_setCell, World.frozen?_setCell, World.frozen?_setCell]; exact h.f j, by rw [World.size_setCell, World.size_setCell, World.size_setCell]; exact h.l⟩
  · exact (ne _ 2 0 _ (by omega)).trans ((ne _ 1 0 _ (by omega)).trans (World.cell?_setCell_same _ _ _ h0))
  · exact (ne _ 2 1 _ (by omega)).trans (World.cell?_setCell_same _ _ _ k1)
  · exact World.cell?_setCell_same _ _ _ k3
def bookQ (P : Nat → Prop) (b : Bk) : Value → World → Prop := fun v w => ∃ A1 n1 c1 A2 n2 c2 A3 n3 c3, v = .agg #[.slice A1 n1 c1, .slice A2 n2 c2, .slice A3 n3 c3] ∧ BQ w P A1 n1 c1 A2 n2 c2 A3 n3 c3 b
theorem bookQ_stays (P : Nat → Prop) (b : Bk) : stays (bookQ P b) := fun v w w' hb ⟨A1, n1, c1, A2, n2, c2, A3, n3, c3, h1, h2⟩ => ⟨A1, n1, c1, A2, n2, c2, A3, n3, c3, h1, h2.on hb⟩
set_option maxHeartbeats 16000000 in
theorem rUptoQ_any (A : Option Addr) (n c : Nat) (l : List Ev) (t : Int) (w : World) (hs : Sl w A n c l) (hv : Vl l) :
    Calls Try.prog 76 #[.slice A n c, .int .i64 t] w fun r w' => (∃ A1 n1 c1 A2 n2 c2 A3 n3 c3, r = .returned (.agg #[.slice A1 n1 c1, .slice A2 n2 c2, .slice A3 n3 c3]) ∧ BQ w' (fun b => w.heap.size ≤ b) A1 n1 c1 A2 n2 c2 A3 n3 c3 (bkAt l t)) ∧ Below w.heap.size w w' := by
  have HS := Lib.hid hs
  have HV := Lib.hid hv
  have hln := hs.len
  have hnm := hs.nmax
  have h40 := hv.1
  clear hs hv
  go_enter Try.func76, Try.ntmps76
  go_upto_region 2 with (fail)
  (obtain ⟨V, hWV, hbV, hzV, f1V, f2V, qfa, qfb⟩ := box2 w #[.slice none 0 0, .slice none 0 0, .slice none 0 0] 99 #[.slice none 0 0, .slice none 0 0, .slice none 0 0] 99; rw [← hWV]; have qa0 : V.cell? ⟨w.heap.size, 0, none⟩ = some (.slice none 0 0) := f1V 0 _ rfl; have qa1 : V.cell? ⟨w.heap.size, 1, none⟩ = some (.slice none 0 0) := f1V 1 _ rfl; have qa2 : V.cell? ⟨w.heap.size, 2, none⟩ = some (.slice none 0 0) := f1V 2 _ rfl; have qb0 : V.cell? ⟨w.heap.size + 1, 0, none⟩ = some (.slice none 0 0) := f2V 0 _ rfl; have qb1 : V.cell? ⟨w.heap.size + 1, 1, none⟩ = some (.slice none 0 0) := f2V 1 _ rfl; have qb2 : V.cell? ⟨w.heap.size + 1, 2, none⟩ = some (.slice none 0 0) := f2V 2 _ rfl; clear hWV f1V f2V)
  have HB0 := Lib.hid (show BBQ (fun b => w.heap.size ≤ b) V (w.heap.size + 1) bk0 from ⟨⟨none, 0, 0, none, 0, 0, none, 0, 0, qb0, qb1, qb2, bq0 V _⟩, qfb, hzV⟩)
  clear qb0 qb1 qb2 qfb
  go_wp2_with fail
  go_loopw [6] (fun i wr => ∃ k : Nat, k ≤ n ∧ i = .int .i64 k ∧ BBQ (fun b => w.heap.size ≤ b) wr (w.heap.size + 1) (bkU l t k) ∧ Below w.heap.size w wr ∧ (wr.cell? ⟨w.heap.size, 0, none⟩ = some (.slice none 0 0) ∧ wr.cell? ⟨w.heap.size, 1, none⟩ = some (.slice none 0 0) ∧ wr.cell? ⟨w.heap.size, 2, none⟩ = some (.slice none 0 0) ∧ ∀ j, wr.frozen? ⟨w.heap.size, j, none⟩ = false)) (fun i _ => n - (intOf i).toNat)
  case atStart => exact ⟨0, Nat.zero_le _, rfl, HB0.out, hbV, qa0, qa1, qa2, qfa⟩
  case round =>
    obtain ⟨k, hk, rfl, hbb, hbw, hres⟩ := hrel
    have HRES := Lib.hid hres
    have HBB := Lib.hid hbb
    obtain ⟨A1, n1, c1, A2, n2, c2, A3, n3, c3, qa0, qa1, qa2, hbr⟩ := hbb.x
    have qf := hbb.f
    have hgr := hbb.l
    have HBR := Lib.hid hbr
    clear hbb hbr hres
    by_cases hlt : k < n
    · obtain ⟨b0, off, hAe, hbl, hcells⟩ := HS.out.baseIn hbw (by omega)
      obtain ⟨e, he⟩ := HS.out.get hlt
      have hbl2 : b0 < wr.heap.size := Nat.lt_of_lt_of_le hbl hbw.size
      have ev0 : wr.cell? ⟨b0, off + k * 7, none⟩ = some (.int .i64 e.at_) := Sl.at_ hcells he 0 rfl
      have ev1 : wr.cell? ⟨b0, off + k * 7 + 1, none⟩ = some (.int .i64 e.kind) := Sl.at_ hcells he 1 rfl
      have ev2 : wr.cell? ⟨b0, off + k * 7 + 2, none⟩ = some (.int .i64 e.acc) := Sl.at_ hcells he 2 rfl
      have ev3 : wr.cell? ⟨b0, off + k * 7 + 3, none⟩ = some (.int .i64 e.sub) := Sl.at_ hcells he 3 rfl
      have ev4 : wr.cell? ⟨b0, off + k * 7 + 4, none⟩ = some (.string e.num) := Sl.at_ hcells he 4 rfl
      have ev5 : wr.cell? ⟨b0, off + k * 7 + 5, none⟩ = some (.string e.name) := Sl.at_ hcells he 5 rfl
      have ev6 : wr.cell? ⟨b0, off + k * 7 + 6, none⟩ = some (.int .i64 e.val) := Sl.at_ hcells he 6 rfl
      have HE := Lib.hid he
      subst hAe
      clear hcells he
      by_cases hat : e.at_ ≤ t
      · have hU := bkU_yes HV.out HE.out hat
        rw [hU.1] at HBB HBR
        have HU := Lib.hid hU.2
        have HSZ := Lib.hid (bkSz_N l k (by omega))
        have HFP := Lib.hid (fault_parts (show faultR (bkN l k) e (lastN l k) = 0 by rw [← fltN_at HE.out]; exact HV.out.2 k (by omega)))
        have HQB := Lib.hid (bkN_succ HE.out)
        clear hU
        go_upto_region 6 with (fail)
        refine Gr.region_grow 6 [(26, bookQ (fun b => w.heap.size ≤ b) (applyR (bkN l k) e))] (by kernel_rfl) rfl rfl (by kernel_rfl) (by kernel_rfl) (by rfl) (by rfl) (stays_cons (bookQ_stays _ _) stays_nil) ?_
        intro hnonemp hcr
        simp only [List.take_succ_cons, List.take_zero]
        refine Gr.gr_plain rfl rfl rfl ?_; (first | go_big_quiet_skip | (go_big_quiet_want; go_big_quiet_op; go_big_quiet_on)); refine wpQuiet_nil ?_
        refine Gr.gr_plain rfl rfl rfl ?_; (first | go_big_quiet_skip | (go_big_quiet_want; go_big_quiet_op; go_big_quiet_on)); refine wpQuiet_nil ?_
        refine Gr.gr_plain rfl rfl rfl ?_; (first | go_big_quiet_skip | (go_big_quiet_want; go_big_quiet_op; go_big_quiet_on)); refine wpQuiet_nil ?_
        refine Gr.gr_plain rfl rfl rfl ?_; (first | go_big_quiet_skip | (go_big_quiet_want; go_big_quiet_op; go_big_quiet_on)); refine wpQuiet_nil ?_
        refine Gr.gr_plain rfl rfl rfl ?_; (first | go_big_quiet_skip | (go_big_quiet_want; go_big_quiet_op; go_big_quiet_on)); refine wpQuiet_nil ?_
        refine Gr.gr_call 26 _ rfl Try.func73 (by kernel_rfl) rfl rfl rfl rfl (by simp only [Act.put, List.setIfInBounds_toArray, List.set_cons_succ, List.set_cons_zero]; rfl) (fun z vals hv => ?_) ?_
        · refine ⟨#[.agg #[.slice A1 n1 c1, .slice A2 n2 c2, .slice A3 n3 c3], .agg #[.int .i64 e.at_, .int .i64 e.kind, .int .i64 e.acc, .int .i64 e.sub, .string e.num, .string e.name, .int .i64 e.val]], (by first | (simp [ev, Act.eval] <;> rfl) | (simp [ev, Act.eval, It.val]; done)), (rApplyQ_any (fun b => w.heap.size ≤ b) A1 n1 c1 A2 n2 c2 A3 n3 c3 _ e.at_ e.kind e.acc e.sub e.val e.num e.name z.w (fun b hb => Nat.le_trans hbw.size (Nat.le_trans z.h.size hb)) (HBR.out.on z.h) (by have := HBR.out.1.a.len; have := HSZ.out.a; omega) (by have := HBR.out.1.s.len; have := HSZ.out.s; omega) (by have := HBR.out.1.e.len; have := HSZ.out.e; omega) HFP.out.2.1 HFP.out.2.2.1 HFP.out.1.1 HFP.out.1.2 (fun t ht => by have := HSZ.out.t t ht; omega)).mono ?_⟩
          rintro e' w' ⟨⟨B1, m1, d1, B2, m2, d2, B3, m3, d3, rfl, hbr'⟩, hb'⟩
          exact ⟨_, rfl, hb', B1, m1, d1, B2, m2, d2, B3, m3, d3, rfl, hbr'⟩
        intro wq vals hgq hkn
        simp only [over, Nk, List.map_cons, List.map_nil, List.foldl_cons, List.foldl_nil, Act.put, List.setIfInBounds_toArray, List.set_cons_succ, List.set_cons_zero]
        obtain ⟨B1, m1, d1, B2, m2, d2, B3, m3, d3, e34, hbr'⟩ := hkn 5 _ 26 (by decide) rfl rfl _ rfl
        rw [e34]
        have HBN := Lib.hid ((HBB.out.below hgq).store hbr')
        have hwq : w.heap.size + 1 < wq.heap.size := Nat.lt_of_lt_of_le hgr hgq.size
        replace qa0 := (hgq.cell (p := ⟨w.heap.size + 1, 0, none⟩) hgr).trans qa0
        replace qa1 := (hgq.cell (p := ⟨w.heap.size + 1, 1, none⟩) hgr).trans qa1
        replace qa2 := (hgq.cell (p := ⟨w.heap.size + 1, 2, none⟩) hgr).trans qa2
        replace qf := fun j => (hgq.frozen (p := ⟨w.heap.size + 1, j, none⟩) hgr).trans (qf j)
        clear hcr hkn hnonemp e34 hbr'
        have hrs : ∀ j u, (j = 0 ∨ j = 1 ∨ j = 2) → wq.cell? ⟨w.heap.size, j, none⟩ = some u → (((wq.setCell ⟨w.heap.size + 1, 0, none⟩ (.slice B1 m1 d1)).setCell ⟨w.heap.size + 1, 1, none⟩ (.slice B2 m2 d2)).setCell ⟨w.heap.size + 1, 2, none⟩ (.slice B3 m3 d3)).cell? ⟨w.heap.size, j, none⟩ = some u := fun j u _ h =>
          (World.cell?_setCell_other _ _ _ _ (fun e => by injection e with e1 e2; omega)).trans ((World.cell?_setCell_other _ _ _ _ (fun e => by injection e with e1 e2; omega)).trans ((World.cell?_setCell_other _ _ _ _ (fun e => by injection e with e1 e2; omega)).trans h))
        have hw0 : w.heap.size < wr.heap.size := by omega
        have HRq : Hid (wq.cell? ⟨w.heap.size, 0, none⟩ = some (.slice none 0 0) ∧ wq.cell? ⟨w.heap.size, 1, none⟩ = some (.slice none 0 0) ∧ wq.cell? ⟨w.heap.size, 2, none⟩ = some (.slice none 0 0) ∧ ∀ j, wq.frozen? ⟨w.heap.size, j, none⟩ = false) := Lib.hid ⟨(hgq.cell (p := ⟨w.heap.size, 0, none⟩) hw0).trans HRES.out.1, (hgq.cell (p := ⟨w.heap.size, 1, none⟩) hw0).trans HRES.out.2.1, (hgq.cell (p := ⟨w.heap.size, 2, none⟩) hw0).trans HRES.out.2.2.1, fun j => (hgq.frozen (p := ⟨w.heap.size, j, none⟩) hw0).trans (HRES.out.2.2.2 j)⟩
        have HRS := Lib.hid hrs
        clear hrs
        go_wp2_with fail
        go_roundw
        case rel =>
          exact ⟨k + 1, by omega, by go_num, by rw [HU.out, HQB.out]; exact HBN.out, ((((hbw.trans (hgq.mono hbw.size)).setCell (Nat.le_succ _) _).setCell (Nat.le_succ _) _).setCell (Nat.le_succ _) _), HRS.out 0 _ (by omega) HRq.out.1, HRS.out 1 _ (by omega) HRq.out.2.1, HRS.out 2 _ (by omega) HRq.out.2.2.1, fun j => by rw [World.frozen?_setCell, World.frozen?_setCell, World.frozen?_setCell]; exact HRq.out.2.2.2 j⟩
        case measure => simp [intOf]; omega
      · have HU := Lib.hid (bkU_no HE.out hat)
        go_wp2_with fail
        go_roundw
        case rel =>
          exact ⟨k + 1, by omega, by go_num, by rw [HU.out]; exact HBB.out, hbw, HRES.out⟩
        case measure => simp [intOf]; omega
    · obtain rfl : n = k := by omega
      have hkn : ¬ ((n : Int) < (n : Int)) := by omega
      have HQ := Lib.hid (show bkU l t n = bkAt l t by unfold bkU bkAt; rw [List.take_of_length_le (by omega)])
      obtain ⟨r0, r1, r2, rf⟩ := HRES.out
      have hg0 : w.heap.size < wr.heap.size := by omega
      go_wp2_with fail
      have hr := setRun_is (vs := [.slice A1 n1 c1, .slice A2 n2 c2, .slice A3 n3 c3]) (three r0 r1 r2) (Nat.le_refl _)
      refine bodyPost_ret (results_cells rfl _ _ w.heap.size ⟨[.slice A1 n1 c1, .slice A2 n2 c2, .slice A3 n3 c3]⟩ _ rfl hr rfl rfl rfl) rfl ?_
      have hbk := HBR.out
      rw [HQ.out] at hbk
      have ne : ∀ (W : World) (i j : Nat) (u : Value), i ≠ j → (W.setCell ⟨w.heap.size, i, none⟩ u).cell? ⟨w.heap.size, j, none⟩ = W.cell? ⟨w.heap.size, j, none⟩ := fun W i j u hij => World.cell?_setCell_other _ _ _ _ (fun e => by injection e with e1 e2; omega)
      have k1 := (ne wr 0 1 (.slice A1 n1 c1) (by omega)).trans r1
      have k2 := (ne (wr.setCell ⟨w.heap.size, 0, none⟩ (.slice A1 n1 c1)) 1 2 (.slice A2 n2 c2) (by omega)).trans ((ne wr 0 2 (.slice A1 n1 c1) (by omega)).trans r2)
      exact ⟨⟨A1, n1, c1, A2, n2, c2, A3, n3, c3, rfl, ((hbk.setS r0 (by omega)).setS k1 (by omega)).setS k2 (by omega)⟩, ((hbw.setCell (Nat.le_refl _) _).setCell (Nat.le_refl _) _).setCell (Nat.le_refl _) _⟩
set_option maxHeartbeats 8000000 in
theorem rSubQ_any (A : Option Addr) (n c : Nat) (l : List Ev) (x t : Int) (w : World) (hs : Sl w A n c l) (hv : Vl l) :
    Calls Try.prog 35 #[.slice A n c, .int .i64 x, .int .i64 t] w fun r w' => (∃ v : Sv, r = .returned (.tuple #[v.val, .bool ((cSubs (bkAt l t)).find? (fun y => y.id == x)).isSome]) ∧ SRP w' (fun b => w.heap.size ≤ b) v (((cSubs (bkAt l t)).find? (fun y => y.id == x)).getD sb0)) ∧ Below w.heap.size w w' := by
  have HS := Lib.hid hs
  have HV := Lib.hid hv
  rw [find_cSubs (at_inv hv t).2]
  clear hs hv
  go_enter Try.func35, Try.ntmps35
  go_upto_region 1 with (fail)
  (obtain ⟨V, hWV, hbV, hzV, f1V, qfa⟩ := box1 w #[.int .i64 0, .int .i64 0, .int .i64 0, .string ⟨#[]⟩, .slice none 0 0, .slice none 0 0, .bool false, .bool false] 51; rw [← hWV]; have qa0 : V.cell? ⟨w.heap.size, 0, none⟩ = some (.int .i64 0) := f1V 0 _ rfl; have qa1 : V.cell? ⟨w.heap.size, 1, none⟩ = some (.int .i64 0) := f1V 1 _ rfl; have qa2 : V.cell? ⟨w.heap.size, 2, none⟩ = some (.int .i64 0) := f1V 2 _ rfl; have qa3 : V.cell? ⟨w.heap.size, 3, none⟩ = some (.string ⟨#[]⟩) := f1V 3 _ rfl; have qa4 : V.cell? ⟨w.heap.size, 4, none⟩ = some (.slice none 0 0) := f1V 4 _ rfl; have qa5 : V.cell? ⟨w.heap.size, 5, none⟩ = some (.slice none 0 0) := f1V 5 _ rfl; have qa6 : V.cell? ⟨w.heap.size, 6, none⟩ = some (.bool false) := f1V 6 _ rfl; have qa7 : V.cell? ⟨w.heap.size, 7, none⟩ = some (.bool false) := f1V 7 _ rfl; clear hWV f1V)
  go_upto_region 2 with (go_at_call 76; go_must (refine (rUptoQ_any A n c l t _ (HS.out.below hbV) HV.out).mono ?_; rintro r w5 ⟨⟨A1, n1, c1, A2, n2, c2, A3, n3, c3, rfl, hbr⟩, hb5⟩; have HBR := Lib.hid hbr; clear hbr))
  have hbw5 := hbV.trans (hb5.mono hbV.size)
  have hg5 : w.heap.size < w5.heap.size := Nat.lt_of_lt_of_le hzV hb5.size
  replace qa0 := cl hb5 qa0
  replace qa1 := cl hb5 qa1
  replace qa2 := cl hb5 qa2
  replace qa3 := cl hb5 qa3
  replace qa4 := cl hb5 qa4
  replace qa5 := cl hb5 qa5
  replace qa6 := cl hb5 qa6
  replace qa7 := cl hb5 qa7
  replace qfa := cz hb5 qfa
  have HVS := Lib.hid hbV.size
  clear hb5 hbV
  (obtain ⟨W, hWW, hbW, hzW, f1W, pfa⟩ := box1 w5 #[.slice A1 n1 c1, .slice A2 n2 c2, .slice A3 n3 c3] 99; rw [← hWW]; have pa0 : W.cell? ⟨w5.heap.size, 0, none⟩ = some (.slice A1 n1 c1) := f1W 0 _ rfl; have pa1 : W.cell? ⟨w5.heap.size, 1, none⟩ = some (.slice A2 n2 c2) := f1W 1 _ rfl; have pa2 : W.cell? ⟨w5.heap.size, 2, none⟩ = some (.slice A3 n3 c3) := f1W 2 _ rfl; clear hWW f1W)
  have hbwW := hbw5.trans (hbW.mono hbw5.size)
  replace qa0 := cl hbW qa0
  replace qa1 := cl hbW qa1
  replace qa2 := cl hbW qa2
  replace qa3 := cl hbW qa3
  replace qa4 := cl hbW qa4
  replace qa5 := cl hbW qa5
  replace qa6 := cl hbW qa6
  replace qa7 := cl hbW qa7
  replace qfa := cz hbW qfa
  have hw5W : w5.heap.size < W.heap.size := hzW
  replace HBR := Lib.hid (HBR.out.on hbW)
  have hm2 : (bkAt l t).subs.length ≤ 40 := (bkAt_sz HV.out t).s
  rcases idxL_cases Sb.id (bkAt l t).subs x with ⟨hi, hf⟩ | ⟨j, sb, hi, hj, hx, hf, hid, hno⟩
  · have HI := Lib.hid hi
    have HLV : Hid (liveS (bkAt l t) x = none) := Lib.hid (by unfold liveS; rw [show findS (bkAt l t) x = none from hf]; split <;> rfl)
    clear hi hf
    go_wp2_with (go_at_call 77; go_must (refine (rsub_any _ _ _ _ _ _ _ _ _ (bkAt l t) x _ HBR.out.1).mono ?_; rintro r w6 ⟨rfl, hb6⟩; rw [HI.out]; (replace pa0 := cl hb6 pa0); (replace pa1 := cl hb6 pa1); (replace pa2 := cl hb6 pa2); (replace qa0 := cl hb6 qa0); (replace qa1 := cl hb6 qa1); (replace qa2 := cl hb6 qa2); (replace qa3 := cl hb6 qa3); (replace qa4 := cl hb6 qa4); (replace qa5 := cl hb6 qa5); (replace qa6 := cl hb6 qa6); (replace qa7 := cl hb6 qa7); (replace qfa := cz hb6 qfa)))
    have hbw6 := hbwW.trans (hb6.mono hbwW.size)
    have hr := setRun_is (vs := [.int .i64 0, .int .i64 0, .int .i64 0, .string ⟨#[]⟩, .slice none 0 0, .slice none 0 0, .bool false, .bool false]) (eight qa0 qa1 qa2 qa3 qa4 qa5 qa6 qa7) (Nat.le_refl _)
    refine bodyPost_ret (results_cells2 (fn := Try.f35) (P := Try.prog) (p := 6) (u := 7) (ty := 51) rfl _ _ w.heap.size ⟨[.int .i64 0, .int .i64 0, .int .i64 0, .string ⟨#[]⟩, .slice none 0 0, .slice none 0 0, .bool false, .bool false]⟩ _ ?a1 ?a2 rfl rfl rfl) ?a3 ?_
    case a1 => rfl
    case a2 => exact hr
    case a3 => rfl
    rw [HLV.out]
    exact ⟨⟨sv0, rfl, sv0_sr _ _⟩, setRun_below [.int .i64 0, .int .i64 0, .int .i64 0, .string ⟨#[]⟩, .slice none 0 0, .slice none 0 0, .bool false, .bool false] _ _ (hbw6) (Nat.le_refl _)⟩
  · have HI := Lib.hid hi
    obtain ⟨hN2, ys, hys, hall⟩ := HBR.out.2
    have hyn := hys.len
    obtain ⟨v, hv⟩ : ∃ v, ys[j]? = some v := ⟨_, List.getElem?_eq_getElem (by have := hall.1; omega)⟩
    have HSR := Lib.hid (hall.2 j v sb hv hx)
    have HV2 := Lib.hid hv
    have HYS := Lib.hid hys
    have HX := Lib.hid hx
    have hn2 : j < n2 := by have := hall.1; omega
    obtain ⟨e, he⟩ : ∃ e, endedB (bkAt l t) x = e := ⟨_, rfl⟩
    have HE := Lib.hid he
    have HLV := Lib.hid (show liveS (bkAt l t) x = if e = true then none else some sb by unfold liveS; rw [he, show findS (bkAt l t) x = some sb from hf])
    have hjn : ¬ ((j : Int) < 0) := by omega
    clear hi hf hid hno hx hall hN2 hv he hys
    cases e
    case true =>
      go_wp2_with (first
        | (go_at_call 77; go_must (refine (rsub_any _ _ _ _ _ _ _ _ _ (bkAt l t) x _ HBR.out.1).mono ?_; rintro r w6 ⟨rfl, hb6⟩; rw [HI.out]; (have hs6 := hb6.size); (replace pa0 := cl hb6 pa0); (replace pa1 := cl hb6 pa1); (replace pa2 := cl hb6 pa2)))
        | (go_at_call 78; go_must (refine (rended_any _ _ _ _ _ _ _ _ _ (bkAt l t) x _ (HBR.out.1.on hb6)).mono ?_; rintro r w7 ⟨rfl, hb7⟩; rw [HE.out]; (have hb67 := hb6.trans (hb7.mono hb6.size)); (replace pa1 := cl hb7 pa1); (replace qa0 := cl hb67 qa0); (replace qa1 := cl hb67 qa1); (replace qa2 := cl hb67 qa2); (replace qa3 := cl hb67 qa3); (replace qa4 := cl hb67 qa4); (replace qa5 := cl hb67 qa5); (replace qa6 := cl hb67 qa6); (replace qa7 := cl hb67 qa7); (replace qfa := cz hb67 qfa))))
      have hbw7 := hbwW.trans (hb67.mono hbwW.size)
      replace HLV := Lib.hid (HLV.out.trans (if_pos (by simp)))
      have hr := setRun_is (vs := [.int .i64 0, .int .i64 0, .int .i64 0, .string ⟨#[]⟩, .slice none 0 0, .slice none 0 0, .bool false, .bool false]) (eight qa0 qa1 qa2 qa3 qa4 qa5 qa6 qa7) (Nat.le_refl _)
      refine bodyPost_ret (results_cells2 (fn := Try.f35) (P := Try.prog) (p := 6) (u := 7) (ty := 51) rfl _ _ w.heap.size ⟨[.int .i64 0, .int .i64 0, .int .i64 0, .string ⟨#[]⟩, .slice none 0 0, .slice none 0 0, .bool false, .bool false]⟩ _ ?a1 ?a2 rfl rfl rfl) ?a3 ?_
      case a1 => rfl
      case a2 => exact hr
      case a3 => rfl
      rw [HLV.out]
      exact ⟨⟨sv0, rfl, sv0_sr _ _⟩, setRun_below [.int .i64 0, .int .i64 0, .int .i64 0, .string ⟨#[]⟩, .slice none 0 0, .slice none 0 0, .bool false, .bool false] _ _ (hbw7) (Nat.le_refl _)⟩
    case false =>
      go_upto_region 5 with (first
        | (go_at_call 77; go_must (refine (rsub_any _ _ _ _ _ _ _ _ _ (bkAt l t) x _ HBR.out.1).mono ?_; rintro r w6 ⟨rfl, hb6⟩; rw [HI.out]; (have hs6 := hb6.size); (replace pa0 := cl hb6 pa0); (replace pa1 := cl hb6 pa1); (replace pa2 := cl hb6 pa2)))
        | (go_at_call 78; go_must (refine (rended_any _ _ _ _ _ _ _ _ _ (bkAt l t) x _ (HBR.out.1.on hb6)).mono ?_; rintro r w7 ⟨rfl, hb7⟩; rw [HE.out]; (have hb67 := hb6.trans (hb7.mono hb6.size)); (replace pa1 := cl hb7 pa1); (replace qa0 := cl hb67 qa0); (replace qa1 := cl hb67 qa1); (replace qa2 := cl hb67 qa2); (replace qa3 := cl hb67 qa3); (replace qa4 := cl hb67 qa4); (replace qa5 := cl hb67 qa5); (replace qa6 := cl hb67 qa6); (replace qa7 := cl hb67 qa7); (replace qfa := cz hb67 qfa))))
      have hbw7 := hbwW.trans (hb67.mono hbwW.size)
      replace HLV := Lib.hid (HLV.out.trans (if_neg (by simp)))
      obtain ⟨b0, off, hAe, hbl, hcells⟩ := HYS.out.baseIn hb67 (by omega)
      have ev0 : w7.cell? ⟨b0, off + j * 8, none⟩ = some (.int .i64 v.id) := Sl.at_ hcells HV2.out 0 rfl
      have ev1 : w7.cell? ⟨b0, off + j * 8 + 1, none⟩ = some (.int .i64 v.acc) := Sl.at_ hcells HV2.out 1 rfl
      have ev2 : w7.cell? ⟨b0, off + j * 8 + 2, none⟩ = some (.int .i64 v.since) := Sl.at_ hcells HV2.out 2 rfl
      have ev3 : w7.cell? ⟨b0, off + j * 8 + 3, none⟩ = some (.string v.plan) := Sl.at_ hcells HV2.out 3 rfl
      have ev4 : w7.cell? ⟨b0, off + j * 8 + 4, none⟩ = some (.slice v.An v.nn v.cn) := Sl.at_ hcells HV2.out 4 rfl
      have ev5 : w7.cell? ⟨b0, off + j * 8 + 5, none⟩ = some (.slice v.Ap v.np v.cp) := Sl.at_ hcells HV2.out 5 rfl
      have ev6 : w7.cell? ⟨b0, off + j * 8 + 6, none⟩ = some (.bool v.susp) := Sl.at_ hcells HV2.out 6 rfl
      have ev7 : w7.cell? ⟨b0, off + j * 8 + 7, none⟩ = some (.bool v.fam) := Sl.at_ hcells HV2.out 7 rfl
      have HSX := Lib.hid (HSR.out.1.on hb67)
      subst hAe
      clear hcells
      go_wp2_with fail
      have hr := setRun_is (vs := [.int .i64 v.id, .int .i64 v.acc, .int .i64 v.since, .string v.plan, .slice v.An v.nn v.cn, .slice v.Ap v.np v.cp, .bool v.susp, .bool v.fam]) (eight qa0 qa1 qa2 qa3 qa4 qa5 qa6 qa7) (Nat.le_refl _)
      refine bodyPost_ret (results_cells2 (fn := Try.f35) (P := Try.prog) (p := 6) (u := 7) (ty := 51) rfl _ _ w.heap.size ⟨[.int .i64 v.id, .int .i64 v.acc, .int .i64 v.since, .string v.plan, .slice v.An v.nn v.cn, .slice v.Ap v.np v.cp, .bool v.susp, .bool v.fam]⟩ _ ?a1 ?a2 rfl rfl rfl) ?a3 ?_
      case a1 => rfl
      case a2 => exact hr
      case a3 => rfl
      rw [HLV.out]
      have hbE : Below w.heap.size w (setRun w7 w.heap.size 0 [.int .i64 v.id, .int .i64 v.acc, .int .i64 v.since, .string v.plan, .slice v.An v.nn v.cn, .slice v.Ap v.np v.cp, .bool v.susp, .bool v.fam]) := setRun_below _ _ _ hbw7 (Nat.le_refl _)
      have hSE : SR (setRun w7 w.heap.size 0 [.int .i64 v.id, .int .i64 v.acc, .int .i64 v.since, .string v.plan, .slice v.An v.nn v.cn, .slice v.Ap v.np v.cp, .bool v.susp, .bool v.fam]) v sb := SR.setRunNe [.int .i64 v.id, .int .i64 v.acc, .int .i64 v.since, .string v.plan, .slice v.An v.nn v.cn, .slice v.Ap v.np v.cp, .bool v.susp, .bool v.fam] 0 HSX.out (old8 (bkAt_ne HV.out t sb (List.mem_of_getElem? HX.out)) qa0 qa1 qa2 qa3 qa4 qa5 qa6 qa7)
      exact ⟨⟨v, rfl, hSE, HSR.out.2.1.mono fun b hb => Nat.le_trans HVS.out hb, HSR.out.2.2.mono fun b hb => Nat.le_trans HVS.out hb⟩, hbE⟩
end Ss
end Go.Proofs.Yteaanngagcflhaa
