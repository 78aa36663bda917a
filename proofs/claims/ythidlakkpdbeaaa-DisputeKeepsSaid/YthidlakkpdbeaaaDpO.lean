/-
  Disputes: law Once. No condition.
-/
import Derived.Test.YthidlakkpdbeaaaDpN
import Derived.Test.YthidlakkpdbeaaaMixK
import Derived.BigQuiet
import Derived.StillTailTactics
import Derived.Lib.Overlaps
import Derived.Deep.DeepCutAuto
import Derived.Deep.RegionWith
import Derived.Laws.Rows
import Derived.Laws.IdiomArrays
import Derived.Deep.RegionHeld
set_option maxRecDepth 100000
set_option linter.unusedVariables false
set_option linter.unusedSimpArgs false
namespace Go.Proofs.Ythidlakkpdbeaaa
open Go.RowKit

namespace Dp
def sumL : List Ln → Int
  | [] => 0
  | x :: l => x.amt + sumL l
theorem sumL_append (a b : List Ln) : sumL (a ++ b) = sumL a + sumL b := by
  induction a with
  | nil => simp [sumL]
  | cons x a ih => simp [sumL, ih]; omega
theorem sumL_bd : ∀ {l : List Ln}, (∀ x ∈ l, -1125899906842624 ≤ x.amt ∧ x.amt ≤ 0) → -1125899906842624 * (l.length : Int) ≤ sumL l ∧ sumL l ≤ 0
  | [], _ => by simp [sumL]
  | x :: l, h => by
    have h1 := h x (by simp)
    have h2 := sumL_bd (l := l) fun y hy => h y (by simp [hy])
    simp only [sumL, List.length_cons]
    omega
theorem takes_split {a f m t : Int} (h1 : perB f m = true) (h2 : perB m t = true) (d : Dsp) : (takes a f m d = true ∧ takes a m t d = false ∧ takes a f t d = true) ∨ (takes a f m d = false ∧ takes a m t d = true ∧ takes a f t d = true) ∨ (takes a f m d = false ∧ takes a m t d = false ∧ takes a f t d = false) := by
  unfold perB at h1 h2
  simp only [Bool.and_eq_true, decide_eq_true_eq] at h1 h2
  have h3 : perB f t = true := by
    unfold perB
    simp only [Bool.and_eq_true, decide_eq_true_eq]
    omega
  have h4 : perB f m = true := by unfold perB; simp only [Bool.and_eq_true, decide_eq_true_eq]; omega
  have h5 : perB m t = true := by unfold perB; simp only [Bool.and_eq_true, decide_eq_true_eq]; omega
  by_cases hc : d.acc = a ∧ d.st = 2
  · have e : ∀ u v, perB u v = true → takes a u v d = (decide (u ≤ d.at_) && decide (d.at_ < v)) := fun u v h => by
      unfold takes conB
      rw [decide_eq_true hc.1, decide_eq_true hc.2, h]
      simp
    rw [e f m h4, e m t h5, e f t h3]
    simp only [Bool.and_eq_true, Bool.and_eq_false_iff, decide_eq_true_eq, decide_eq_false_iff_not]
    omega
  · have e : ∀ u v, takes a u v d = false := fun u v => by
      unfold takes
      by_cases h1 : d.acc = a
      · have h2 : ¬ d.st = 2 := fun h => hc ⟨h1, h⟩
        rw [decide_eq_false h2]
        simp
      · rw [decide_eq_false h1]
        simp
    exact .inr (.inr ⟨e _ _, e _ _, e _ _⟩)
theorem once (a f m t : Int) (cat : ByteArray) (h1 : perB f m = true) (h2 : perB m t = true) : ∀ ds : List Dsp, (linesP a f m cat ds).length + (linesP a m t cat ds).length = (linesP a f t cat ds).length ∧ sumL (linesP a f m cat ds) + sumL (linesP a m t cat ds) = sumL (linesP a f t cat ds)
  | [] => ⟨rfl, rfl⟩
  | d :: ds => by
    obtain ⟨i1, i2⟩ := once a f m t cat h1 h2 ds
    unfold linesP at i1 i2 ⊢
    rcases takes_split (a := a) h1 h2 d with ⟨e1, e2, e3⟩ | ⟨e1, e2, e3⟩ | ⟨e1, e2, e3⟩
    all_goals
      simp only [List.filter_cons, e1, e2, e3, if_true, Bool.false_eq_true, if_false, List.map_cons, List.length_cons, sumL]
      omega
theorem lines_bd {a f t : Int} {cat : ByteArray} {ds : List Dsp} (hv : Vd ds) : ∀ x ∈ linesP a f t cat ds, -1125899906842624 ≤ x.amt ∧ x.amt ≤ 0 := by
  intro x hx
  unfold linesP at hx
  obtain ⟨d, hd, rfl⟩ := List.mem_map.1 hx
  obtain ⟨i, hi⟩ := List.getElem?_of_mem (List.mem_filter.1 hd).1
  have := propB_in (hv i d hi).1
  show -1125899906842624 ≤ -d.cr ∧ -d.cr ≤ 0
  omega
theorem lines_len (a f t : Int) (cat : ByteArray) (ds : List Dsp) : (linesP a f t cat ds).length ≤ ds.length := by
  unfold linesP
  rw [List.length_map]
  exact List.length_filter_le _ _
set_option maxHeartbeats 2000000 in
theorem sum_any (A : Option Addr) (n c : Nat) (xs : List Ln) (w : World) (h : Sl w A n c xs) (hn1 : n ≤ 1000) (hb : ∀ x ∈ xs, -1125899906842624 ≤ x.amt ∧ x.amt ≤ 0) :
    Calls Try.prog 19 #[.slice A n c] w fun r w' => r = .returned (.int .i64 (sumL xs)) ∧ Below w.heap.size w w' := by
  have hlen := Lib.hid h.len
  have H := Lib.hid h
  have HBD := Lib.hid hb
  clear h hb
  go_enter Try.func19, Try.ntmps19
  go_wp2_with fail
  go_loopw [3, 4] (fun s i wr => ∃ k : Nat, k ≤ n ∧ i = .int .i64 k ∧ s = .int .i64 (sumL (xs.take k)) ∧ Below w.heap.size w wr) (fun _ i _ => n - (intOf i).toNat)
  case atStart => exact ⟨0, Nat.zero_le _, rfl, rfl, Below.refl _ _⟩
  case round =>
    obtain ⟨k, hk, rfl, rfl, hb⟩ := hrel
    have htb := sumL_bd (l := xs.take k) fun y hy => HBD.out y (List.mem_of_mem_take hy)
    have htl : (xs.take k).length ≤ 1000 := by rw [List.length_take]; omega
    obtain ⟨s, hs⟩ : ∃ s, sumL (xs.take k) = s := ⟨_, rfl⟩
    rw [hs] at htb ⊢
    have HS := Lib.hid hs
    have hs1 : -1125899906842624000 ≤ s ∧ s ≤ 0 := by omega
    obtain ⟨hs2, hs3⟩ := hs1
    clear hs htb htl
    by_cases hlt : k < n
    · obtain ⟨b, off, rfl, hbw, hc⟩ := H.out.baseIn hb (by omega)
      obtain ⟨x, hx⟩ := H.out.get hlt
      have c6 : wr.cell? ⟨b, off + k * 8 + 6, none⟩ = some (.int .i64 x.amt) := Sl.at_ hc hx 6 rfl
      obtain ⟨hx1, hx2⟩ := HBD.out x (List.mem_of_getElem? hx)
      have hw : IntKind.i64.wrap (s + x.amt) = s + x.amt := IntWalk.i64_in _ (by omega)
      have HN := Lib.hid (show s + x.amt = sumL (xs.take (k + 1)) by rw [List.take_add_one, sumL_append, HS.out, hx]; simp [sumL])
      clear hc hx
      go_wp2_with fail
      go_roundw
      case rel => exact ⟨k + 1, by omega, by go_num, by rw [HN.out], hb⟩
      case measure => simp [intOf]; omega
    · obtain rfl : k = n := by omega
      have hkn : ¬ ((k : Int) < (k : Int)) := by omega
      go_wp2_with fail
      go_ret
      exact ⟨ret_int (by rw [← HS.out, List.take_of_length_le (by have := hlen.out; omega)]), hb⟩
def arr3 (f m t : Int) : Value := .agg #[.int .i64 f, .int .i64 m, .int .i64 t]
set_option maxHeartbeats 8000000 in
theorem law_once (a f m t : Int) (A : Option Addr) (n c : Nat) (ds : List Dsp) (w : World) (h : Sl w A n c ds) :
    Calls Try.prog 5 #[.slice A n c, .int .i64 a, arr3 f m t] w fun r w' => r = .returned (.bool true) ∧ Below w.heap.size w w' := by
  have H := Lib.hid h
  clear h
  unfold arr3
  go_enter Try.func5, Try.ntmps5
  go_upto_region 1 with (fail)
  (obtain ⟨W, hWW, hbW, hzW, f1W, qfa⟩ := box1 w #[.int .i64 f, .int .i64 m, .int .i64 t] 41; rw [← hWW]; have qa0 : W.cell? ⟨w.heap.size, 0, none⟩ = some (.int .i64 f) := f1W 0 _ rfl; have qa1 : W.cell? ⟨w.heap.size, 1, none⟩ = some (.int .i64 m) := f1W 1 _ rfl; have qa2 : W.cell? ⟨w.heap.size, 2, none⟩ = some (.int .i64 t) := f1W 2 _ rfl; clear hWW f1W)
  have hT := hbW
  have hg0 : w.heap.size < W.heap.size := hzW
  replace H := Lib.hid (H.out.below hbW)
  clear hbW
  go_cut [7, 8] (fun s7 s8 wx => ∃ g1 g2 : Nat, s7 = .pointer (some ⟨g1, 0, none⟩) ∧ s8 = .pointer (some ⟨g2, 0, none⟩) ∧ g1 < wx.heap.size ∧ g2 < wx.heap.size ∧ wx.cell? ⟨g1, 0, none⟩ = some (.int .i64 f) ∧ wx.cell? ⟨g1, 1, none⟩ = some (.int .i64 m) ∧ wx.cell? ⟨g2, 0, none⟩ = some (.int .i64 m) ∧ wx.cell? ⟨g2, 1, none⟩ = some (.int .i64 t) ∧ Below W.heap.size W wx)
  case first =>
    go_region_held (fun wx : World => wx.cell? ⟨w.heap.size, 0, none⟩ = some (.int .i64 f) ∧ wx.cell? ⟨w.heap.size, 1, none⟩ = some (.int .i64 m) ∧ wx.cell? ⟨w.heap.size, 2, none⟩ = some (.int .i64 t)) (go_keep) (fail)
    · obtain ⟨X, hX, hbX, hzX, f1, f2, -, -⟩ := box2 W #[.int .i64 f, .int .i64 m] 33 #[.int .i64 m, .int .i64 t] 33
      rw [← hX]
      clear hX
      go_wp2_with fail
      go_meet
      have hX2 := hbX.drew
      exact ⟨W.heap.size, W.heap.size + 1, rfl, rfl, (show W.heap.size < X.heap.size by omega), (show W.heap.size + 1 < X.heap.size by omega), f1 0 _ rfl, f1 1 _ rfl, f2 0 _ rfl, f2 1 _ rfl, hX2⟩
    · obtain ⟨X, hX, hbX, hzX, f1, f2, -, -⟩ := box2 W #[.int .i64 m, .int .i64 t] 33 #[.int .i64 f, .int .i64 m] 33
      rw [← hX]
      clear hX
      go_wp2_with fail
      go_meet
      have hX2 := hbX.drew
      exact ⟨W.heap.size + 1, W.heap.size, rfl, rfl, (show W.heap.size + 1 < X.heap.size by omega), (show W.heap.size < X.heap.size by omega), f2 0 _ rfl, f2 1 _ rfl, f1 0 _ rfl, f1 1 _ rfl, hX2⟩
  case rest =>
    obtain ⟨g1, g2, rfl, rfl, hg1, hg2, p0, p1, r0, r1, hb0⟩ := hcut
    (have hzhb0 := hb0.size; replace qa0 := (hb0.cell (p := ⟨_, _, none⟩) (by (try dsimp only) <;> omega)).trans qa0; replace qa1 := (hb0.cell (p := ⟨_, _, none⟩) (by (try dsimp only) <;> omega)).trans qa1; replace qa2 := (hb0.cell (p := ⟨_, _, none⟩) (by (try dsimp only) <;> omega)).trans qa2; replace hT := Below.trans hT (Below.mono hb0 (by omega)))
    replace H := Lib.hid (H.out.below hb0)
    have hgc : w.heap.size < wc.heap.size := by omega
    clear hb0
    go_wp2_with fail
    refine (few_any A n c ds _ H.out).mono ?_
    rintro r w1 ⟨b, rfl, hb, hb1⟩
    (have hzhb1 := hb1.size; replace qa0 := (hb1.cell (p := ⟨_, _, none⟩) (by (try dsimp only) <;> omega)).trans qa0; replace qa1 := (hb1.cell (p := ⟨_, _, none⟩) (by (try dsimp only) <;> omega)).trans qa1; replace qa2 := (hb1.cell (p := ⟨_, _, none⟩) (by (try dsimp only) <;> omega)).trans qa2; replace p0 := (hb1.cell (p := ⟨_, _, none⟩) (by (try dsimp only) <;> omega)).trans p0; replace p1 := (hb1.cell (p := ⟨_, _, none⟩) (by (try dsimp only) <;> omega)).trans p1; replace r0 := (hb1.cell (p := ⟨_, _, none⟩) (by (try dsimp only) <;> omega)).trans r0; replace r1 := (hb1.cell (p := ⟨_, _, none⟩) (by (try dsimp only) <;> omega)).trans r1; replace hT := Below.trans hT (Below.mono hb1 (by omega)))
    replace H := Lib.hid (H.out.below hb1)
    have hgw1 : w.heap.size < w1.heap.size := by omega
    replace hg1 : g1 < w1.heap.size := by omega
    replace hg2 : g2 < w1.heap.size := by omega
    clear hb1
    have HB := Lib.hid hb
    clear hb
    cases b
    · go_wp2_with fail
      refine (alive_any _).mono ?_
      rintro r wz ⟨rfl, hbz⟩
      replace hT := hT.trans (hbz.mono (by omega))
      go_wp2_with fail
      go_ret
      exact ⟨rfl, hT⟩
    · obtain ⟨hn30, hvd⟩ := HB.out rfl
      have HV := Lib.hid hvd
      clear hvd HB
      obtain ⟨pb, hpb⟩ : ∃ pb, perB f m = pb := ⟨_, rfl⟩
      have HPB := Lib.hid hpb
      obtain ⟨qb, hqb⟩ : ∃ qb, perB m t = qb := ⟨_, rfl⟩
      have HQB := Lib.hid hqb
      clear hpb hqb
      go_wp2_with fail
      refine (rvalid_any f m _).mono ?_
      rintro r w2 ⟨rfl, hb2⟩
      (have hzhb2 := hb2.size; replace qa0 := (hb2.cell (p := ⟨_, _, none⟩) (by (try dsimp only) <;> omega)).trans qa0; replace qa1 := (hb2.cell (p := ⟨_, _, none⟩) (by (try dsimp only) <;> omega)).trans qa1; replace qa2 := (hb2.cell (p := ⟨_, _, none⟩) (by (try dsimp only) <;> omega)).trans qa2; replace p0 := (hb2.cell (p := ⟨_, _, none⟩) (by (try dsimp only) <;> omega)).trans p0; replace p1 := (hb2.cell (p := ⟨_, _, none⟩) (by (try dsimp only) <;> omega)).trans p1; replace r0 := (hb2.cell (p := ⟨_, _, none⟩) (by (try dsimp only) <;> omega)).trans r0; replace r1 := (hb2.cell (p := ⟨_, _, none⟩) (by (try dsimp only) <;> omega)).trans r1; replace hT := Below.trans hT (Below.mono hb2 (by omega)))
      replace H := Lib.hid (H.out.below hb2)
      have hgw2 : w.heap.size < w2.heap.size := by omega
      replace hg1 : g1 < w2.heap.size := by omega
      replace hg2 : g2 < w2.heap.size := by omega
      clear hb2
      rw [HPB.out]
      cases pb
      · go_wp2_with fail
        refine (alive_any _).mono ?_
        rintro r wz ⟨rfl, hbz⟩
        replace hT := hT.trans (hbz.mono (by omega))
        go_wp2_with fail
        go_ret
        exact ⟨rfl, hT⟩
      · go_wp2_with fail
        refine (rvalid_any m t _).mono ?_
        rintro r w3 ⟨rfl, hb3⟩
        (have hzhb3 := hb3.size; replace qa0 := (hb3.cell (p := ⟨_, _, none⟩) (by (try dsimp only) <;> omega)).trans qa0; replace qa1 := (hb3.cell (p := ⟨_, _, none⟩) (by (try dsimp only) <;> omega)).trans qa1; replace qa2 := (hb3.cell (p := ⟨_, _, none⟩) (by (try dsimp only) <;> omega)).trans qa2; replace p0 := (hb3.cell (p := ⟨_, _, none⟩) (by (try dsimp only) <;> omega)).trans p0; replace p1 := (hb3.cell (p := ⟨_, _, none⟩) (by (try dsimp only) <;> omega)).trans p1; replace r0 := (hb3.cell (p := ⟨_, _, none⟩) (by (try dsimp only) <;> omega)).trans r0; replace r1 := (hb3.cell (p := ⟨_, _, none⟩) (by (try dsimp only) <;> omega)).trans r1; replace hT := Below.trans hT (Below.mono hb3 (by omega)))
        replace H := Lib.hid (H.out.below hb3)
        have hg3 : w.heap.size < w3.heap.size := by omega
        replace hg1 : g1 < w3.heap.size := by omega
        replace hg2 : g2 < w3.heap.size := by omega
        clear hb3
        rw [HQB.out]
        cases qb
        · go_wp2_with fail
          refine (alive_any _).mono ?_
          rintro r wz ⟨rfl, hbz⟩
          replace hT := hT.trans (hbz.mono (by omega))
          go_wp2_with fail
          go_ret
          exact ⟨rfl, hT⟩
        · obtain ⟨l1, hl1⟩ : ∃ l1, linesP a f m ⟨#[120]⟩ ds = l1 := ⟨_, rfl⟩
          obtain ⟨l2, hl2⟩ : ∃ l2, linesP a m t ⟨#[120]⟩ ds = l2 := ⟨_, rfl⟩
          obtain ⟨l3, hl3⟩ : ∃ l3, linesP a f t ⟨#[120]⟩ ds = l3 := ⟨_, rfl⟩
          have hon := once a f m t ⟨#[120]⟩ HPB.out HQB.out ds
          have hk1 := lines_len a f m ⟨#[120]⟩ ds
          have hk2 := lines_len a m t ⟨#[120]⟩ ds
          have hk3 := lines_len a f t ⟨#[120]⟩ ds
          have hv1 := lines_bd (a := a) (f := f) (t := m) (cat := ⟨#[120]⟩) HV.out
          have hv2 := lines_bd (a := a) (f := m) (t := t) (cat := ⟨#[120]⟩) HV.out
          have hv3 := lines_bd (a := a) (f := f) (t := t) (cat := ⟨#[120]⟩) HV.out
          rw [hl1] at hk1 hv1
          rw [hl2] at hk2 hv2
          rw [hl3] at hk3 hv3
          rw [hl1, hl2, hl3] at hon
          have hdl := H.out.len
          rw [hdl] at hk1 hk2 hk3
          have hs1 := sumL_bd hv1
          have hs2 := sumL_bd hv2
          have HL1 := Lib.hid hl1
          have HL2 := Lib.hid hl2
          have HL3 := Lib.hid hl3
          have HV1 := Lib.hid hv1
          have HV2 := Lib.hid hv2
          have HV3 := Lib.hid hv3
          have HON := Lib.hid hon
          have HS12 := Lib.hid (show -1125899906842624000 ≤ sumL l1 ∧ sumL l1 ≤ 0 ∧ -1125899906842624000 ≤ sumL l2 ∧ sumL l2 ≤ 0 by omega)
          clear hl1 hl2 hl3 hv1 hv2 hv3 hon hs1 hs2 hdl
          go_upto_region 4 with (fail)
          ((with_reducible refine region_known ([(39, fun x w => Ow w w3.heap.size 55 x l1), (43, fun x w => Ow w w3.heap.size 55 x l2), (9, fun x w => Ow w w3.heap.size 55 x l1), (10, fun x w => Ow w w3.heap.size 55 x l2)]) ?_ ?_ ?_ ?_ ?_ ?_); kernel_rfl; kernel_rfl; rfl; rfl; (exact stays_cons (fun x w w' hb h => Ow.below h hb) (stays_cons (fun x w w' hb h => Ow.below h hb) (stays_cons (fun x w w' hb h => Ow.below h hb) (stays_cons (fun x w w' hb h => Ow.below h hb) stays_nil)))); intro hnonemp hcr; (repeat (first | (refine mix_plain rfl rfl rfl ?_; (first | go_big_quiet_skip | (go_big_quiet_want; go_big_quiet_op; go_big_quiet_on)); refine wpQuiet_nil ?_) | (refine kn_copy (.inl rfl) rfl rfl rfl rfl (by simp only [Act.put, List.setIfInBounds_toArray, List.set_cons_succ, List.set_cons_zero]; rfl) ?_) | (refine kn_copy (.inr rfl) rfl rfl rfl rfl (by simp only [Act.put, List.setIfInBounds_toArray, List.set_cons_succ, List.set_cons_zero]; rfl) ?_) | (refine kn_part rfl rfl rfl rfl rfl (by simp only [Act.put, List.setIfInBounds_toArray, List.set_cons_succ, List.set_cons_zero]; rfl) (fun _ _ => rfl) ?_) | (refine kn_skip rfl rfl (by simp only [Act.put, List.setIfInBounds_toArray, List.set_cons_succ, List.set_cons_zero]; rfl) ?_) | (refine kn_call 39 _ rfl Try.func16 (by kernel_rfl) rfl rfl rfl rfl (by simp only [Act.put, List.setIfInBounds_toArray, List.set_cons_succ, List.set_cons_zero]; rfl) (fun z vals hv => ?_) ?_; (have hc := lines_any a f m ⟨#[120]⟩ A n c ds z.w (Sl.below H.out z.h) (by omega) (Vd.prop HV.out); rw [HL1.out] at hc; exact ⟨_, (by first | (simp [ev, Act.eval] <;> rfl) | (simp [ev, Act.eval, It.val]; done)), hc.mono fun r w' ⟨u, e, ho, hb⟩ => ⟨_, e, hb, ho.lower z.h.size⟩⟩)) | (refine kn_call 43 _ rfl Try.func16 (by kernel_rfl) rfl rfl rfl rfl (by simp only [Act.put, List.setIfInBounds_toArray, List.set_cons_succ, List.set_cons_zero]; rfl) (fun z vals hv => ?_) ?_; (have hc := lines_any a m t ⟨#[120]⟩ A n c ds z.w (Sl.below H.out z.h) (by omega) (Vd.prop HV.out); rw [HL2.out] at hc; exact ⟨_, (by first | (simp [ev, Act.eval] <;> rfl) | (simp [ev, Act.eval, It.val]; done)), hc.mono fun r w' ⟨u, e, ho, hb⟩ => ⟨_, e, hb, ho.lower z.h.size⟩⟩)))); intro wq vals hgq hkn; simp only [over, Nk, List.map_cons, List.map_nil, List.foldl_cons, List.foldl_nil, Act.put, List.setIfInBounds_toArray, List.set_cons_succ, List.set_cons_zero]; clear hcr)
          have ho1 : Ow wq w3.heap.size 55 (vals 9) l1 := hkn 8 _ _ rfl rfl _ rfl
          have ho2 : Ow wq w3.heap.size 55 (vals 10) l2 := hkn 9 _ _ rfl rfl _ rfl
          clear hkn
          obtain ⟨A1, c1, e1, hs1⟩ := ho1.sl
          obtain ⟨A2, c2, e2, hs2⟩ := ho2.sl
          rw [e1, e2]
          have HSA := Lib.hid hs1
          have HSB := Lib.hid hs2
          clear e1 e2 ho1 ho2 hs1 hs2
          obtain ⟨w4, rfl⟩ : ∃ w4, w4 = wq := ⟨_, rfl⟩
          (have hzhgq := hgq.size; replace qa0 := (hgq.cell (p := ⟨_, _, none⟩) (by (try dsimp only) <;> omega)).trans qa0; replace qa1 := (hgq.cell (p := ⟨_, _, none⟩) (by (try dsimp only) <;> omega)).trans qa1; replace qa2 := (hgq.cell (p := ⟨_, _, none⟩) (by (try dsimp only) <;> omega)).trans qa2; replace hT := Below.trans hT (Below.mono hgq (by omega)))
          replace H := Lib.hid (H.out.below hgq)
          have hg4 : w.heap.size < w4.heap.size := by omega
          clear hgq p0 p1 r0 r1
          go_wp2_with fail
          refine (lines_any a f t ⟨#[120]⟩ A n c ds _ H.out (by omega) (Vd.prop HV.out)).mono ?_
          rintro r w5 ⟨u5x, rfl, ho5, hb5⟩
          rw [HL3.out] at ho5
          replace HSA := Lib.hid (HSA.out.below hb5)
          replace HSB := Lib.hid (HSB.out.below hb5)
          replace hT := hT.trans (hb5.mono (by omega))
          have hz5 := hb5.size
          obtain ⟨A5, c5, rfl, hs5⟩ := ho5.sl
          have HSC := Lib.hid hs5
          clear hb5 ho5 hs5
          rw [← HON.out.1] at HSC ⊢
          obtain ⟨z1, hz1⟩ : ∃ z1, l1.length = z1 := ⟨_, rfl⟩
          obtain ⟨z2, hz2⟩ : ∃ z2, l2.length = z2 := ⟨_, rfl⟩
          rw [hz1] at HSA HSC hk1 ⊢
          rw [hz2] at HSB HSC hk2 ⊢
          clear hz1 hz2 hk3
          have hwz : IntKind.i64.wrap ((z1 : Int) + (z2 : Int)) = (z1 : Int) + (z2 : Int) := IntWalk.i64_in _ (by omega)
          have hqz : ((z1 : Int) + (z2 : Int) == (z1 : Int) + (z2 : Int)) = true := by simp
          go_wp2_with fail
          refine (sum_any A1 z1 c1 l1 _ HSA.out (by omega) HV1.out).mono ?_
          rintro r w6 ⟨rfl, hb6⟩
          replace HSB := Lib.hid (HSB.out.below hb6)
          replace HSC := Lib.hid (HSC.out.below hb6)
          replace hT := hT.trans (hb6.mono (by omega))
          have hz6 := hb6.size
          clear hb6
          go_wp2_with fail
          refine (sum_any A2 z2 c2 l2 _ HSB.out (by omega) HV2.out).mono ?_
          rintro r w7 ⟨rfl, hb7⟩
          replace HSC := Lib.hid (HSC.out.below hb7)
          replace hT := hT.trans (hb7.mono (by omega))
          have hz7 := hb7.size
          clear hb7
          have hws : IntKind.i64.wrap (sumL l1 + sumL l2) = sumL l1 + sumL l2 := IntWalk.i64_in _ (by have := HS12.out; omega)
          go_wp2_with fail
          refine (sum_any A5 (z1 + z2) c5 l3 _ HSC.out (by omega) HV3.out).mono ?_
          rintro r w8 ⟨rfl, hb8⟩
          replace hT := hT.trans (hb8.mono (by omega))
          have hz8 := hb8.size
          clear hb8
          rw [← HON.out.2]
          have hqs : (sumL l1 + sumL l2 == sumL l1 + sumL l2) = true := by simp
          go_wp2_with fail
          refine (alive_any _).mono ?_
          rintro r wz ⟨rfl, hbz⟩
          replace hT := hT.trans (hbz.mono (by omega))
          go_wp2_with fail
          go_ret
          exact ⟨rfl, hT⟩
end Dp
end Go.Proofs.Ythidlakkpdbeaaa
