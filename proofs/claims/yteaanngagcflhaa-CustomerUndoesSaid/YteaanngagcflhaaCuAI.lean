/-
  Customers: the reference's Check, Valid, Upto. No condition.
-/
import Derived.Test.YteaanngagcflhaaCuAK
import Derived.Test.YteaanngagcflhaaCuAG
import Derived.BigQuiet
import Derived.StillTailTactics
import Derived.Lib.Overlaps
import Derived.Deep.DeepCutAuto
import Derived.Deep.RegionWith
import Derived.Laws.RangeAny
import Derived.Deep.RegionHeld
import Derived.Deep.RegionHeldLaw
set_option maxRecDepth 100000
set_option linter.unusedVariables false
set_option linter.unusedSimpArgs false
namespace Go.Proofs.Yteaanngagcflhaa
open Go.RowKit

namespace Cu
theorem chkL_short {l : List Ev} (h : l.length ≤ 4096) : ¬ 4096 < l.length := by omega
set_option maxHeartbeats 16000000 in
theorem rCheck_any (A : Option Addr) (n c : Nat) (l : List Ev) (w : World) (hs : Sl w A n c l) (hsz : SzOk l) (hn : n ≤ 1000) :
    Calls Try.prog 24 #[.slice A n c] w fun r w' => r = .returned (.tuple #[.int .i64 (chkL l).1, .int .i64 (chkL l).2]) ∧ Below w.heap.size w w' := by
  have HS := Lib.hid hs
  have HZ := Lib.hid hsz
  have hln := hs.len
  have hnm := hs.nmax
  clear hs hsz
  have hq : ¬ (4096 : Int) < (n : Int) := by omega
  go_enter Try.func24, Try.ntmps24
  go_upto_region 4 with (fail)
  (obtain ⟨V, hWV, hbV, hzV, f1V, qfa⟩ := box1 w #[.slice none 0 0, .slice none 0 0, .slice none 0 0] 99; rw [← hWV]; have qa0 : V.cell? ⟨w.heap.size, 0, none⟩ = some (.slice none 0 0) := f1V 0 _ rfl; have qa1 : V.cell? ⟨w.heap.size, 1, none⟩ = some (.slice none 0 0) := f1V 1 _ rfl; have qa2 : V.cell? ⟨w.heap.size, 2, none⟩ = some (.slice none 0 0) := f1V 2 _ rfl; clear hWV f1V)
  have hBB0 : BB V w.heap.size bk0 := ⟨⟨none, 0, 0, none, 0, 0, none, 0, 0, qa0, qa1, qa2, br0 V⟩, qfa, hzV⟩
  have HB0 := Lib.hid hBB0
  clear qa0 qa1 qa2 qfa hBB0
  go_wp2_with fail
  go_loopw [5, 6] (fun la i wr => ∃ k : Nat, k ≤ n ∧ i = .int .i64 k ∧ la = .int .i64 (lastN l k) ∧ BB wr w.heap.size (bkN l k) ∧ Below w.heap.size w wr ∧ ∀ m, m < k → fltN l m = 0) (fun _ i _ => n - (intOf i).toNat)
  case atStart => exact ⟨0, Nat.zero_le _, rfl, rfl, HB0.out, hbV, fun m hm => absurd hm (Nat.not_lt_zero _)⟩
  case round =>
    obtain ⟨k, hk, rfl, rfl, hbb, hbw, hz⟩ := hrel
    have HBB := Lib.hid hbb
    have HZr := Lib.hid hz
    have HSZ := Lib.hid (bkSz_N l k (by omega))
    obtain ⟨A1, n1, c1, A2, n2, c2, A3, n3, c3, qa0, qa1, qa2, hbr⟩ := hbb.x
    have qf := hbb.f
    have hgr := hbb.l
    have HBR := Lib.hid hbr
    clear hbb hz hbr
    by_cases hlt : k < n
    · obtain ⟨b0, off, hAe, hbl, hcells⟩ := HS.out.baseIn hbw (by omega)
      obtain ⟨e, he⟩ := HS.out.get hlt
      have hes := HZ.out e (List.mem_of_getElem? he)
      have hbl2 : b0 < wr.heap.size := Nat.lt_of_lt_of_le hbl hbw.size
      have ev0 : wr.cell? ⟨b0, off + k * 7, none⟩ = some (.int .i64 e.at_) := Sl.at_ hcells he 0 rfl
      have ev1 : wr.cell? ⟨b0, off + k * 7 + 1, none⟩ = some (.int .i64 e.kind) := Sl.at_ hcells he 1 rfl
      have ev2 : wr.cell? ⟨b0, off + k * 7 + 2, none⟩ = some (.int .i64 e.acc) := Sl.at_ hcells he 2 rfl
      have ev3 : wr.cell? ⟨b0, off + k * 7 + 3, none⟩ = some (.int .i64 e.sub) := Sl.at_ hcells he 3 rfl
      have ev4 : wr.cell? ⟨b0, off + k * 7 + 4, none⟩ = some (.string e.num) := Sl.at_ hcells he 4 rfl
      have ev5 : wr.cell? ⟨b0, off + k * 7 + 5, none⟩ = some (.string e.name) := Sl.at_ hcells he 5 rfl
      have ev6 : wr.cell? ⟨b0, off + k * 7 + 6, none⟩ = some (.int .i64 e.val) := Sl.at_ hcells he 6 rfl
      have HE := Lib.hid he
      subst hAe
      clear hcells he
      obtain ⟨x, hx⟩ : ∃ x, fltN l k = x := ⟨_, rfl⟩
      have HX := Lib.hid hx
      have HFX := Lib.hid (show faultR (bkN l k) e (lastN l k) = x by rw [← fltN_at HE.out]; exact hx)
      clear hx
      obtain ⟨la, hla⟩ : ∃ la, lastN l k = la := ⟨_, rfl⟩
      rw [hla] at HFX
      have HLA := Lib.hid hla
      rw [hla]
      clear hla
      go_upto_region 8 with (fail)
      refine region_known [] (by kernel_rfl) (by kernel_rfl) (by rfl) (by rfl) stays_nil ?_
      intro hnonemp hcr
      refine mix_plain rfl rfl rfl ?_; (first | go_big_quiet_skip | (go_big_quiet_want; go_big_quiet_op; go_big_quiet_on)); refine wpQuiet_nil ?_
      refine mix_plain rfl rfl rfl ?_; (first | go_big_quiet_skip | (go_big_quiet_want; go_big_quiet_op; go_big_quiet_on)); refine wpQuiet_nil ?_
      refine mix_plain rfl rfl rfl ?_; (first | go_big_quiet_skip | (go_big_quiet_want; go_big_quiet_op; go_big_quiet_on)); refine wpQuiet_nil ?_
      refine mix_plain rfl rfl rfl ?_; (first | go_big_quiet_skip | (go_big_quiet_want; go_big_quiet_op; go_big_quiet_on)); refine wpQuiet_nil ?_
      refine mix_plain rfl rfl rfl ?_; (first | go_big_quiet_skip | (go_big_quiet_want; go_big_quiet_op; go_big_quiet_on)); refine wpQuiet_nil ?_
      refine mix_plain rfl rfl rfl ?_; (first | go_big_quiet_skip | (go_big_quiet_want; go_big_quiet_op; go_big_quiet_on)); refine wpQuiet_nil ?_
      refine kn_one (.int .i64 x) Try.func72 (by kernel_rfl) rfl rfl rfl rfl (by simp only [Act.put, List.setIfInBounds_toArray, List.set_cons_succ, List.set_cons_zero]; rfl) (fun z vals hv => ?_) ?_
      · have hc := rFault_any A1 n1 c1 A2 n2 c2 A3 n3 c3 (bkN l k) e.at_ e.kind e.acc e.sub e.val e.num e.name la z.w (HBR.out.on z.h) hes.1 hes.2; rw [HFX.out] at hc; exact ⟨_, (by first | (simp [ev, Act.eval] <;> rfl) | (simp [ev, Act.eval, It.val]; done)), hc⟩
      refine mix_plain rfl rfl rfl ?_; (first | go_big_quiet_skip | (go_big_quiet_want; go_big_quiet_op; go_big_quiet_on)); refine wpQuiet_nil ?_
      intro wq vals hgq hkn
      simp only [over, Nk, List.map_cons, List.map_nil, List.foldl_cons, List.foldl_nil, Act.put, List.setIfInBounds_toArray, List.set_cons_succ, List.set_cons_zero]
      clear hcr hkn hnonemp
      skip
      have hbwq := hbw.trans (hgq.mono hbw.size)
      have hbwz := hbwq
      replace HBB := Lib.hid (HBB.out.below hgq)
      replace HBR := Lib.hid (HBR.out.on hgq)
      replace qa0 := (hgq.cell (p := ⟨w.heap.size, 0, none⟩) hgr).trans qa0
      replace qa1 := (hgq.cell (p := ⟨w.heap.size, 1, none⟩) hgr).trans qa1
      replace qa2 := (hgq.cell (p := ⟨w.heap.size, 2, none⟩) hgr).trans qa2
      replace ev0 := (hgq.cell (p := ⟨b0, off + k * 7, none⟩) hbl2).trans ev0
      replace ev1 := (hgq.cell (p := ⟨b0, off + k * 7 + 1, none⟩) hbl2).trans ev1
      replace ev2 := (hgq.cell (p := ⟨b0, off + k * 7 + 2, none⟩) hbl2).trans ev2
      replace ev3 := (hgq.cell (p := ⟨b0, off + k * 7 + 3, none⟩) hbl2).trans ev3
      replace ev4 := (hgq.cell (p := ⟨b0, off + k * 7 + 4, none⟩) hbl2).trans ev4
      replace ev5 := (hgq.cell (p := ⟨b0, off + k * 7 + 5, none⟩) hbl2).trans ev5
      replace ev6 := (hgq.cell (p := ⟨b0, off + k * 7 + 6, none⟩) hbl2).trans ev6
      replace qf := fun j => (hgq.frozen (p := ⟨w.heap.size, j, none⟩) hgr).trans (qf j)
      replace hgr := Nat.lt_of_lt_of_le hgr hgq.size
      replace hbl2 := Nat.lt_of_lt_of_le hbl2 hgq.size
      clear hbw hgq
      by_cases hx0 : x = 0
      · subst hx0
        have HFP := Lib.hid (fault_parts HFX.out)
        have HQB := Lib.hid (bkN_succ HE.out)
        go_upto_region 11 with (fail)
        refine Gr.region_grow 6 [(34, Gr.bookF (applyR (bkN l k) e))] (by kernel_rfl) rfl rfl (by kernel_rfl) (by kernel_rfl) (by rfl) (by rfl) (stays_cons (Gr.bookF_stays _) stays_nil) ?_
        intro hnonemp hcr
        simp only [List.take_succ_cons, List.take_zero]
        refine Gr.gr_plain rfl rfl rfl ?_; (first | go_big_quiet_skip | (go_big_quiet_want; go_big_quiet_op; go_big_quiet_on)); refine wpQuiet_nil ?_
        refine Gr.gr_plain rfl rfl rfl ?_; (first | go_big_quiet_skip | (go_big_quiet_want; go_big_quiet_op; go_big_quiet_on)); refine wpQuiet_nil ?_
        refine Gr.gr_plain rfl rfl rfl ?_; (first | go_big_quiet_skip | (go_big_quiet_want; go_big_quiet_op; go_big_quiet_on)); refine wpQuiet_nil ?_
        refine Gr.gr_plain rfl rfl rfl ?_; (first | go_big_quiet_skip | (go_big_quiet_want; go_big_quiet_op; go_big_quiet_on)); refine wpQuiet_nil ?_
        refine Gr.gr_plain rfl rfl rfl ?_; (first | go_big_quiet_skip | (go_big_quiet_want; go_big_quiet_op; go_big_quiet_on)); refine wpQuiet_nil ?_
        refine Gr.gr_call 34 _ rfl Try.func73 (by kernel_rfl) rfl rfl rfl rfl (by simp only [Act.put, List.setIfInBounds_toArray, List.set_cons_succ, List.set_cons_zero]; rfl) (fun z vals hv => ?_) ?_
        · refine ⟨#[.agg #[.slice A1 n1 c1, .slice A2 n2 c2, .slice A3 n3 c3], .agg #[.int .i64 e.at_, .int .i64 e.kind, .int .i64 e.acc, .int .i64 e.sub, .string e.num, .string e.name, .int .i64 e.val]], (by first | (simp [ev, Act.eval] <;> rfl) | (simp [ev, Act.eval, It.val]; done)), (rApply_any A1 n1 c1 A2 n2 c2 A3 n3 c3 _ e.at_ e.kind e.acc e.sub e.val e.num e.name z.w (HBR.out.on z.h) (by have := HBR.out.a.len; have := HSZ.out.a; omega) (by have := HBR.out.s.len; have := HSZ.out.s; omega) (by have := HBR.out.e.len; have := HSZ.out.e; omega) HFP.out.2.1 HFP.out.2.2.1 HFP.out.1.1 HFP.out.1.2 (fun t ht => by have := HSZ.out.t t ht; omega)).mono ?_⟩
          rintro e' w' ⟨⟨B1, m1, d1, B2, m2, d2, B3, m3, d3, rfl, hbr'⟩, hb'⟩
          exact ⟨_, rfl, hb', B1, m1, d1, B2, m2, d2, B3, m3, d3, rfl, hbr'⟩
        intro wy vals hgq hkn
        simp only [over, Nk, List.map_cons, List.map_nil, List.foldl_cons, List.foldl_nil, Act.put, List.setIfInBounds_toArray, List.set_cons_succ, List.set_cons_zero]
        have hbl3 := Nat.lt_of_lt_of_le hbl2 hgq.size
        have c0y := (hgq.cell (p := ⟨b0, off + k * 7, none⟩) hbl2).trans ev0
        obtain ⟨B1, m1, d1, B2, m2, d2, B3, m3, d3, e34, hbr'⟩ := hkn 5 _ 34 (by decide) rfl rfl _ rfl
        rw [e34]
        have HBN := Lib.hid ((HBB.out.below hgq).store hbr')
        have hwy : w.heap.size < wy.heap.size := Nat.lt_of_lt_of_le hgr hgq.size
        replace qa0 := (hgq.cell (p := ⟨w.heap.size, 0, none⟩) hgr).trans qa0
        replace qa1 := (hgq.cell (p := ⟨w.heap.size, 1, none⟩) hgr).trans qa1
        replace qa2 := (hgq.cell (p := ⟨w.heap.size, 2, none⟩) hgr).trans qa2
        replace qf := fun j => (hgq.frozen (p := ⟨w.heap.size, j, none⟩) hgr).trans (qf j)
        clear hcr hkn hnonemp e34 hbr'
        go_wp2_with fail
        go_roundw
        case rel =>
          refine ⟨k + 1, by omega, by go_num, by rw [lastN_succ HE.out], by rw [HQB.out]; exact HBN.out, ((((hbwz.trans (hgq.mono hbwz.size)).setCell (Nat.le_refl _) _).setCell (Nat.le_refl _) _).setCell (Nat.le_refl _) _), fun m hm => ?_⟩
          by_cases hmk : m = k
          · rw [hmk]; exact HX.out
          · exact HZr.out m (by omega)
        case measure => simp [intOf]; omega
      · have hxb : (x != 0) = true := by simpa using hx0
        go_wp2_with fail
        go_ret2
        exact ⟨by rw [chkL_bad (by omega) (by omega) HZr.out (by rw [HX.out]; exact hx0), HX.out]; rfl, hbwq⟩
    · obtain rfl : n = k := by omega
      have hkn : ¬ ((n : Int) < (n : Int)) := by omega
      have HQ := Lib.hid (chkL_ok (l := l) (by omega) (fun m hm => HZr.out m (by omega)))
      go_wp2_with fail
      go_ret2
      exact ⟨by rw [HQ.out]; rfl, hbw⟩
def vlB (l : List Ev) : Bool := decide (l.length ≤ 40) && decide ((chkL l).2 = 0)
theorem vlB_true {l : List Ev} (h : vlB l = true) : Vl l := by
  unfold vlB at h
  rw [Bool.and_eq_true, decide_eq_true_eq, decide_eq_true_eq] at h
  exact ⟨h.1, (chkL_zero h.2).2⟩
theorem vlB_of {l : List Ev} (h : Vl l) : vlB l = true := by
  unfold vlB
  rw [Bool.and_eq_true, decide_eq_true_eq, decide_eq_true_eq]
  exact ⟨h.1, by rw [chkL_ok (by have := h.1; omega) h.2]⟩
set_option maxHeartbeats 4000000 in
theorem rValid_any (A : Option Addr) (n c : Nat) (l : List Ev) (w : World) (hs : Sl w A n c l) (hsz : SzOk l) :
    Calls Try.prog 25 #[.slice A n c] w fun r w' => r = .returned (.bool (vlB l)) ∧ Below w.heap.size w w' := by
  have HS := Lib.hid hs
  have hln := hs.len
  have hnm := hs.nmax
  clear hs
  go_enter Try.func25, Try.ntmps25
  by_cases h40 : (40 : Int) < (n : Int)
  · have HQ := Lib.hid (show vlB l = false by unfold vlB; rw [Bool.and_eq_false_iff]; exact .inl (by simp; omega))
    go_wp2_with fail
    go_ret
    exact ⟨by rw [HQ.out]; rfl, Below.refl _ _⟩
  · obtain ⟨x, hx⟩ : ∃ x, (chkL l).2 = x := ⟨_, rfl⟩
    obtain ⟨y, hy⟩ : ∃ y, (chkL l).1 = y := ⟨_, rfl⟩
    have HX := Lib.hid hx
    have HY := Lib.hid hy
    clear hx hy
    have HQ := Lib.hid (show vlB l = decide (x = 0) by unfold vlB; rw [HX.out]; simp; omega)
    go_wp2_with (go_at_call 24; go_must (refine (rCheck_any A n c l _ HS.out hsz (by omega)).mono ?_; rintro r w5 ⟨rfl, hb5⟩; rw [HX.out, HY.out]))
    go_ret
    refine ⟨?_, hb5⟩
    rw [HQ.out]
    by_cases hx0 : x = 0
    · subst hx0; rfl
    · show Ending.returned (Value.bool (x == 0)) = _
      have : (x == 0) = false := by simpa using hx0
      rw [this, decide_eq_false hx0]
def bkU (l : List Ev) (t : Int) (k : Nat) : Bk := ((l.take k).filter (atB t)).foldl applyR bk0
theorem bkU_yes {l : List Ev} (h : Vl l) {t : Int} {k : Nat} {e : Ev} (he : l[k]? = some e) (ht : e.at_ ≤ t) : bkU l t k = bkN l k ∧ bkU l t (k + 1) = bkN l (k + 1) := by
  have h1 : ∀ m, (∀ x ∈ l.take m, x.at_ ≤ t) → bkU l t m = bkN l m := fun m hm => by
    unfold bkU bkN
    rw [List.filter_eq_self.2 fun x hx => by simpa [atB] using hm x hx]
  have h2 : ∀ m, m ≤ k + 1 → ∀ x ∈ l.take m, x.at_ ≤ t := fun m hm x hx => by
    obtain ⟨i, hi⟩ := List.getElem?_of_mem hx
    rw [List.getElem?_take] at hi
    split at hi
    · have := h.asc i k x e (by omega) hi he
      omega
    · cases hi
  exact ⟨h1 k (h2 k (by omega)), h1 (k + 1) (h2 (k + 1) (Nat.le_refl _))⟩
theorem bkU_no {l : List Ev} {t : Int} {k : Nat} {e : Ev} (he : l[k]? = some e) (ht : ¬ e.at_ ≤ t) : bkU l t (k + 1) = bkU l t k := by
  unfold bkU
  rw [List.take_add_one, he, List.filter_append]
  rw [show (some e).toList.filter (atB t) = [] from List.filter_cons_of_neg (by simpa [atB] using ht), List.append_nil]
set_option maxHeartbeats 16000000 in
theorem rUpto_any (A : Option Addr) (n c : Nat) (l : List Ev) (t : Int) (w : World) (hs : Sl w A n c l) (hv : Vl l) :
    Calls Try.prog 76 #[.slice A n c, .int .i64 t] w fun r w' => (∃ A1 n1 c1 A2 n2 c2 A3 n3 c3, r = .returned (.agg #[.slice A1 n1 c1, .slice A2 n2 c2, .slice A3 n3 c3]) ∧ BR w' A1 n1 c1 A2 n2 c2 A3 n3 c3 (bkAt l t)) ∧ Below w.heap.size w w' := by
  have HS := Lib.hid hs
  have HV := Lib.hid hv
  have hln := hs.len
  have hnm := hs.nmax
  have h40 := hv.1
  clear hs hv
  go_enter Try.func76, Try.ntmps76
  go_upto_region 2 with (fail)
  (obtain ⟨V, hWV, hbV, hzV, f1V, f2V, qfa, qfb⟩ := box2 w #[.slice none 0 0, .slice none 0 0, .slice none 0 0] 99 #[.slice none 0 0, .slice none 0 0, .slice none 0 0] 99; rw [← hWV]; have qa0 : V.cell? ⟨w.heap.size, 0, none⟩ = some (.slice none 0 0) := f1V 0 _ rfl; have qa1 : V.cell? ⟨w.heap.size, 1, none⟩ = some (.slice none 0 0) := f1V 1 _ rfl; have qa2 : V.cell? ⟨w.heap.size, 2, none⟩ = some (.slice none 0 0) := f1V 2 _ rfl; have qb0 : V.cell? ⟨w.heap.size + 1, 0, none⟩ = some (.slice none 0 0) := f2V 0 _ rfl; have qb1 : V.cell? ⟨w.heap.size + 1, 1, none⟩ = some (.slice none 0 0) := f2V 1 _ rfl; have qb2 : V.cell? ⟨w.heap.size + 1, 2, none⟩ = some (.slice none 0 0) := f2V 2 _ rfl; clear hWV f1V f2V)
  have HB0 := Lib.hid (show BB V (w.heap.size + 1) bk0 from ⟨⟨none, 0, 0, none, 0, 0, none, 0, 0, qb0, qb1, qb2, br0 V⟩, qfb, hzV⟩)
  clear qb0 qb1 qb2 qfb
  go_wp2_with fail
  go_loopw [6] (fun i wr => ∃ k : Nat, k ≤ n ∧ i = .int .i64 k ∧ BB wr (w.heap.size + 1) (bkU l t k) ∧ Below w.heap.size w wr ∧ (wr.cell? ⟨w.heap.size, 0, none⟩ = some (.slice none 0 0) ∧ wr.cell? ⟨w.heap.size, 1, none⟩ = some (.slice none 0 0) ∧ wr.cell? ⟨w.heap.size, 2, none⟩ = some (.slice none 0 0) ∧ ∀ j, wr.frozen? ⟨w.heap.size, j, none⟩ = false)) (fun i _ => n - (intOf i).toNat)
  case atStart => exact ⟨0, Nat.zero_le _, rfl, HB0.out, hbV, qa0, qa1, qa2, qfa⟩
  case round =>
    obtain ⟨k, hk, rfl, hbb, hbw, hres⟩ := hrel
    have HRES := Lib.hid hres
    have HBB := Lib.hid hbb
    obtain ⟨A1, n1, c1, A2, n2, c2, A3, n3, c3, qa0, qa1, qa2, hbr⟩ := hbb.x
    have qf := hbb.f
    have hgr := hbb.l
    have HBR := Lib.hid hbr
    clear hbb hbr hres
    by_cases hlt : k < n
    · obtain ⟨b0, off, hAe, hbl, hcells⟩ := HS.out.baseIn hbw (by omega)
      obtain ⟨e, he⟩ := HS.out.get hlt
      have hbl2 : b0 < wr.heap.size := Nat.lt_of_lt_of_le hbl hbw.size
      have ev0 : wr.cell? ⟨b0, off + k * 7, none⟩ = some (.int .i64 e.at_) := Sl.at_ hcells he 0 rfl
      have ev1 : wr.cell? ⟨b0, off + k * 7 + 1, none⟩ = some (.int .i64 e.kind) := Sl.at_ hcells he 1 rfl
      have ev2 : wr.cell? ⟨b0, off + k * 7 + 2, none⟩ = some (.int .i64 e.acc) := Sl.at_ hcells he 2 rfl
      have ev3 : wr.cell? ⟨b0, off + k * 7 + 3, none⟩ = some (.int .i64 e.sub) := Sl.at_ hcells he 3 rfl
      have ev4 : wr.cell? ⟨b0, off + k * 7 + 4, none⟩ = some (.string e.num) := Sl.at_ hcells he 4 rfl
      have ev5 : wr.cell? ⟨b0, off + k * 7 + 5, none⟩ = some (.string e.name) := Sl.at_ hcells he 5 rfl
      have ev6 : wr.cell? ⟨b0, off + k * 7 + 6, none⟩ = some (.int .i64 e.val) := Sl.at_ hcells he 6 rfl
      have HE := Lib.hid he
      subst hAe
      clear hcells he
      by_cases hat : e.at_ ≤ t
      · have hU := bkU_yes HV.out HE.out hat
        rw [hU.1] at HBB HBR
        have HU := Lib.hid hU.2
        have HSZ := Lib.hid (bkSz_N l k (by omega))
        have HFP := Lib.hid (fault_parts (show faultR (bkN l k) e (lastN l k) = 0 by rw [← fltN_at HE.out]; exact HV.out.2 k (by omega)))
        have HQB := Lib.hid (bkN_succ HE.out)
        clear hU
        go_upto_region 6 with (fail)
        refine Gr.region_grow 6 [(26, Gr.bookF (applyR (bkN l k) e))] (by kernel_rfl) rfl rfl (by kernel_rfl) (by kernel_rfl) (by rfl) (by rfl) (stays_cons (Gr.bookF_stays _) stays_nil) ?_
        intro hnonemp hcr
        simp only [List.take_succ_cons, List.take_zero]
        refine Gr.gr_plain rfl rfl rfl ?_; (first | go_big_quiet_skip | (go_big_quiet_want; go_big_quiet_op; go_big_quiet_on)); refine wpQuiet_nil ?_
        refine Gr.gr_plain rfl rfl rfl ?_; (first | go_big_quiet_skip | (go_big_quiet_want; go_big_quiet_op; go_big_quiet_on)); refine wpQuiet_nil ?_
        refine Gr.gr_plain rfl rfl rfl ?_; (first | go_big_quiet_skip | (go_big_quiet_want; go_big_quiet_op; go_big_quiet_on)); refine wpQuiet_nil ?_
        refine Gr.gr_plain rfl rfl rfl ?_; (first | go_big_quiet_skip | (go_big_quiet_want; go_big_quiet_op; go_big_quiet_on)); refine wpQuiet_nil ?_
        refine Gr.gr_plain rfl rfl rfl ?_; (first | go_big_quiet_skip | (go_big_quiet_want; go_big_quiet_op; go_big_quiet_on)); refine wpQuiet_nil ?_
        refine Gr.gr_call 26 _ rfl Try.func73 (by kernel_rfl) rfl rfl rfl rfl (by simp only [Act.put, List.setIfInBounds_toArray, List.set_cons_succ, List.set_cons_zero]; rfl) (fun z vals hv => ?_) ?_
        · refine ⟨#[.agg #[.slice A1 n1 c1, .slice A2 n2 c2, .slice A3 n3 c3], .agg #[.int .i64 e.at_, .int .i64 e.kind, .int .i64 e.acc, .int .i64 e.sub, .string e.num, .string e.name, .int .i64 e.val]], (by first | (simp [ev, Act.eval] <;> rfl) | (simp [ev, Act.eval, It.val]; done)), (rApply_any A1 n1 c1 A2 n2 c2 A3 n3 c3 _ e.at_ e.kind e.acc e.sub e.val e.num e.name z.w (HBR.out.on z.h) (by have := HBR.out.a.len; have := HSZ.out.a; omega) (by have := HBR.out.s.len; have := HSZ.out.s; omega) (by have := HBR.out.e.len; have := HSZ.out.e; omega) HFP.out.2.1 HFP.out.2.2.1 HFP.out.1.1 HFP.out.1.2 (fun t ht => by have := HSZ.out.t t ht; omega)).mono ?_⟩
          rintro e' w' ⟨⟨B1, m1, d1, B2, m2, d2, B3, m3, d3, rfl, hbr'⟩, hb'⟩
          exact ⟨_, rfl, hb', B1, m1, d1, B2, m2, d2, B3, m3, d3, rfl, hbr'⟩
        intro wq vals hgq hkn
        simp only [over, Nk, List.map_cons, List.map_nil, List.foldl_cons, List.foldl_nil, Act.put, List.setIfInBounds_toArray, List.set_cons_succ, List.set_cons_zero]
        obtain ⟨B1, m1, d1, B2, m2, d2, B3, m3, d3, e34, hbr'⟩ := hkn 5 _ 26 (by decide) rfl rfl _ rfl
        rw [e34]
        have HBN := Lib.hid ((HBB.out.below hgq).store hbr')
        have hwq : w.heap.size + 1 < wq.heap.size := Nat.lt_of_lt_of_le hgr hgq.size
        replace qa0 := (hgq.cell (p := ⟨w.heap.size + 1, 0, none⟩) hgr).trans qa0
        replace qa1 := (hgq.cell (p := ⟨w.heap.size + 1, 1, none⟩) hgr).trans qa1
        replace qa2 := (hgq.cell (p := ⟨w.heap.size + 1, 2, none⟩) hgr).trans qa2
        replace qf := fun j => (hgq.frozen (p := ⟨w.heap.size + 1, j, none⟩) hgr).trans (qf j)
        clear hcr hkn hnonemp e34 hbr'
        have hrs : ∀ j u, (j = 0 ∨ j = 1 ∨ j = 2) → wq.cell? ⟨w.heap.size, j, none⟩ = some u → (((wq.setCell ⟨w.heap.size + 1, 0, none⟩ (.slice B1 m1 d1)).setCell ⟨w.heap.size + 1, 1, none⟩ (.slice B2 m2 d2)).setCell ⟨w.heap.size + 1, 2, none⟩ (.slice B3 m3 d3)).cell? ⟨w.heap.size, j, none⟩ = some u := fun j u _ h =>
          (World.cell?_setCell_other _ _ _ _ (fun e => by injection e with e1 e2; omega)).trans ((World.cell?_setCell_other _ _ _ _ (fun e => by injection e with e1 e2; omega)).trans ((World.cell?_setCell_other _ _ _ _ (fun e => by injection e with e1 e2; omega)).trans h))
        have hw0 : w.heap.size < wr.heap.size := by omega
        have HRq : Hid (wq.cell? ⟨w.heap.size, 0, none⟩ = some (.slice none 0 0) ∧ wq.cell? ⟨w.heap.size, 1, none⟩ = some (.slice none 0 0) ∧ wq.cell? ⟨w.heap.size, 2, none⟩ = some (.slice none 0 0) ∧ ∀ j, wq.frozen? ⟨w.heap.size, j, none⟩ = false) := Lib.hid ⟨(hgq.cell (p := ⟨w.heap.size, 0, none⟩) hw0).trans HRES.out.1, (hgq.cell (p := ⟨w.heap.size, 1, none⟩) hw0).trans HRES.out.2.1, (hgq.cell (p := ⟨w.heap.size, 2, none⟩) hw0).trans HRES.out.2.2.1, fun j => (hgq.frozen (p := ⟨w.heap.size, j, none⟩) hw0).trans (HRES.out.2.2.2 j)⟩
        have HRS := Lib.hid hrs
        clear hrs
        go_wp2_with fail
        go_roundw
        case rel =>
          exact ⟨k + 1, by omega, by go_num, by rw [HU.out, HQB.out]; exact HBN.out, ((((hbw.trans (hgq.mono hbw.size)).setCell (Nat.le_succ _) _).setCell (Nat.le_succ _) _).setCell (Nat.le_succ _) _), HRS.out 0 _ (by omega) HRq.out.1, HRS.out 1 _ (by omega) HRq.out.2.1, HRS.out 2 _ (by omega) HRq.out.2.2.1, fun j => by rw [World.frozen?_setCell, World.frozen?_setCell, World.frozen?_setCell]; exact HRq.out.2.2.2 j⟩
        case measure => simp [intOf]; omega
      · have HU := Lib.hid (bkU_no HE.out hat)
        go_wp2_with fail
        go_roundw
        case rel =>
          exact ⟨k + 1, by omega, by go_num, by rw [HU.out]; exact HBB.out, hbw, HRES.out⟩
        case measure => simp [intOf]; omega
    · obtain rfl : n = k := by omega
      have hkn : ¬ ((n : Int) < (n : Int)) := by omega
      have HQ := Lib.hid (show bkU l t n = bkAt l t by unfold bkU bkAt; rw [List.take_of_length_le (by omega)])
      obtain ⟨r0, r1, r2, rf⟩ := HRES.out
      have hg0 : w.heap.size < wr.heap.size := by omega
      go_wp2_with fail
      have hr := setRun_is (vs := [.slice A1 n1 c1, .slice A2 n2 c2, .slice A3 n3 c3]) (three r0 r1 r2) (Nat.le_refl _)
      refine bodyPost_ret (results_cells rfl _ _ w.heap.size ⟨[.slice A1 n1 c1, .slice A2 n2 c2, .slice A3 n3 c3]⟩ _ rfl hr rfl rfl rfl) rfl ?_
      have hbk := HBR.out
      rw [HQ.out] at hbk
      have ne : ∀ (W : World) (i j : Nat) (u : Value), i ≠ j → (W.setCell ⟨w.heap.size, i, none⟩ u).cell? ⟨w.heap.size, j, none⟩ = W.cell? ⟨w.heap.size, j, none⟩ := fun W i j u hij => World.cell?_setCell_other _ _ _ _ (fun e => by injection e with e1 e2; omega)
      have k1 := (ne wr 0 1 (.slice A1 n1 c1) (by omega)).trans r1
      have k2 := (ne (wr.setCell ⟨w.heap.size, 0, none⟩ (.slice A1 n1 c1)) 1 2 (.slice A2 n2 c2) (by omega)).trans ((ne wr 0 2 (.slice A1 n1 c1) (by omega)).trans r2)
      exact ⟨⟨A1, n1, c1, A2, n2, c2, A3, n3, c3, rfl, ((hbk.setS r0 (by omega)).setS k1 (by omega)).setS k2 (by omega)⟩, ((hbw.setCell (Nat.le_refl _) _).setCell (Nat.le_refl _) _).setCell (Nat.le_refl _) _⟩
end Cu
end Go.Proofs.Yteaanngagcflhaa
