/-
  Disputes: Same; law Sums. No condition.
-/
import Derived.Test.YthidlakkpdbeaaaDpI
import Derived.Test.YthidlakkpdbeaaaMixK
import Derived.BigQuiet
import Derived.StillTailTactics
import Derived.Lib.Overlaps
import Derived.Deep.DeepCutAuto
import Derived.Deep.RegionWith
import Derived.Laws.Rows
set_option maxRecDepth 100000
set_option linter.unusedVariables false
set_option linter.unusedSimpArgs false
namespace Go.Proofs.Ythidlakkpdbeaaa
open Go.RowKit

namespace Dp
set_option maxHeartbeats 4000000 in
theorem sameln_any (xs : List Ln) (A B : Option Addr) (n c d : Nat) (w : World) (h : Sl w A n c xs) (h2 : Sl w B n d xs) :
    Calls Try.prog 15 #[.slice A n c, .slice B n d] w fun r w' => r = .returned (.bool true) ∧ Below w.heap.size w w' := by
  have hn := h.nmax
  have H := Lib.hid h
  have H2 := Lib.hid h2
  clear h h2
  go_enter Try.func15, Try.ntmps15
  go_wp2_with fail
  go_loopw [5] (fun i wr => ∃ (k : Nat), k ≤ n ∧ i = .int .i64 k ∧ Below w.heap.size w wr) (fun i _ => n - (intOf i).toNat)
  case atStart => exact ⟨0, Nat.zero_le _, rfl, Below.refl _ _⟩
  case round =>
    obtain ⟨k, hk, rfl, hb⟩ := hrel
    by_cases hlt : k < n
    · obtain ⟨b, off, rfl, hbl, hcells⟩ := H.out.baseIn hb (by omega)
      obtain ⟨b2, off2, rfl, hbl2, hcells2⟩ := H2.out.baseIn hb (by omega)
      obtain ⟨x, hx⟩ := H.out.get hlt
      have c0 : wr.cell? ⟨b, off + k * 8, none⟩ = some (.int .i64 x.kind) := Sl.at_ hcells hx 0 rfl
      have c1 : wr.cell? ⟨b, off + k * 8 + 1, none⟩ = some (.int .i64 x.sub) := Sl.at_ hcells hx 1 rfl
      have c2 : wr.cell? ⟨b, off + k * 8 + 2, none⟩ = some (.string x.name) := Sl.at_ hcells hx 2 rfl
      have c3 : wr.cell? ⟨b, off + k * 8 + 3, none⟩ = some (.string x.cat) := Sl.at_ hcells hx 3 rfl
      have c4 : wr.cell? ⟨b, off + k * 8 + 4, none⟩ = some (.int .i64 x.cnt) := Sl.at_ hcells hx 4 rfl
      have c5 : wr.cell? ⟨b, off + k * 8 + 5, none⟩ = some (.int .i64 x.units) := Sl.at_ hcells hx 5 rfl
      have c6 : wr.cell? ⟨b, off + k * 8 + 6, none⟩ = some (.int .i64 x.amt) := Sl.at_ hcells hx 6 rfl
      have c7 : wr.cell? ⟨b, off + k * 8 + 7, none⟩ = some (.int .i64 x.rnd) := Sl.at_ hcells hx 7 rfl
      have e0 : wr.cell? ⟨b2, off2 + k * 8, none⟩ = some (.int .i64 x.kind) := Sl.at_ hcells2 hx 0 rfl
      have e1 : wr.cell? ⟨b2, off2 + k * 8 + 1, none⟩ = some (.int .i64 x.sub) := Sl.at_ hcells2 hx 1 rfl
      have e2 : wr.cell? ⟨b2, off2 + k * 8 + 2, none⟩ = some (.string x.name) := Sl.at_ hcells2 hx 2 rfl
      have e3 : wr.cell? ⟨b2, off2 + k * 8 + 3, none⟩ = some (.string x.cat) := Sl.at_ hcells2 hx 3 rfl
      have e4 : wr.cell? ⟨b2, off2 + k * 8 + 4, none⟩ = some (.int .i64 x.cnt) := Sl.at_ hcells2 hx 4 rfl
      have e5 : wr.cell? ⟨b2, off2 + k * 8 + 5, none⟩ = some (.int .i64 x.units) := Sl.at_ hcells2 hx 5 rfl
      have e6 : wr.cell? ⟨b2, off2 + k * 8 + 6, none⟩ = some (.int .i64 x.amt) := Sl.at_ hcells2 hx 6 rfl
      have e7 : wr.cell? ⟨b2, off2 + k * 8 + 7, none⟩ = some (.int .i64 x.rnd) := Sl.at_ hcells2 hx 7 rfl
      have b0 : (x.kind == x.kind) = true := by simp
      have b1 : (x.sub == x.sub) = true := by simp
      have b2 : (x.name.toList == x.name.toList) = true := by simp
      have b3 : (x.cat.toList == x.cat.toList) = true := by simp
      have b4 : (x.cnt == x.cnt) = true := by simp
      have b5 : (x.units == x.units) = true := by simp
      have b6 : (x.amt == x.amt) = true := by simp
      have b7 : (x.rnd == x.rnd) = true := by simp
      clear hcells hcells2 hx
      go_upto_region 6 with (fail)
      go_still_tail 8, (by kernel_rfl)
      change wpList _ _ _ _ _ wr.drew
      go_wp2_with fail
      go_roundw
      case rel => exact ⟨k + 1, by omega, by go_num, hb.trans ((Below.refl _ _).drew.mono (by exact hb.size))⟩
      case measure => simp [intOf]; omega
    · obtain rfl : k = n := by omega
      have hkn : ¬ ((k : Int) < (k : Int)) := by omega
      go_wp2_with fail
      go_ret
      exact ⟨rfl, hb⟩
set_option maxHeartbeats 4000000 in
theorem same_any (xs : List Dsp) (A B : Option Addr) (n c d : Nat) (w : World) (h : Sl w A n c xs) (h2 : Sl w B n d xs) :
    Calls Try.prog 12 #[.slice A n c, .slice B n d] w fun r w' => r = .returned (.bool true) ∧ Below w.heap.size w w' := by
  have hn := h.nmax
  have H := Lib.hid h
  have H2 := Lib.hid h2
  clear h h2
  go_enter Try.func12, Try.ntmps12
  go_wp2_with fail
  go_loopw [5] (fun i wr => ∃ (k : Nat), k ≤ n ∧ i = .int .i64 k ∧ Below w.heap.size w wr) (fun i _ => n - (intOf i).toNat)
  case atStart => exact ⟨0, Nat.zero_le _, rfl, Below.refl _ _⟩
  case round =>
    obtain ⟨k, hk, rfl, hb⟩ := hrel
    by_cases hlt : k < n
    · obtain ⟨b, off, rfl, hbl, hcells⟩ := H.out.baseIn hb (by omega)
      obtain ⟨b2, off2, rfl, hbl2, hcells2⟩ := H2.out.baseIn hb (by omega)
      obtain ⟨x, hx⟩ := H.out.get hlt
      have c0 : wr.cell? ⟨b, off + k * 7, none⟩ = some (.int .i64 x.id) := Sl.at_ hcells hx 0 rfl
      have c1 : wr.cell? ⟨b, off + k * 7 + 1, none⟩ = some (.int .i64 x.acc) := Sl.at_ hcells hx 1 rfl
      have c2 : wr.cell? ⟨b, off + k * 7 + 2, none⟩ = some (.int .i64 x.use) := Sl.at_ hcells hx 2 rfl
      have c3 : wr.cell? ⟨b, off + k * 7 + 3, none⟩ = some (.int .i64 x.amt) := Sl.at_ hcells hx 3 rfl
      have c4 : wr.cell? ⟨b, off + k * 7 + 4, none⟩ = some (.int .i64 x.st) := Sl.at_ hcells hx 4 rfl
      have c5 : wr.cell? ⟨b, off + k * 7 + 5, none⟩ = some (.int .i64 x.cr) := Sl.at_ hcells hx 5 rfl
      have c6 : wr.cell? ⟨b, off + k * 7 + 6, none⟩ = some (.int .i64 x.at_) := Sl.at_ hcells hx 6 rfl
      have e0 : wr.cell? ⟨b2, off2 + k * 7, none⟩ = some (.int .i64 x.id) := Sl.at_ hcells2 hx 0 rfl
      have e1 : wr.cell? ⟨b2, off2 + k * 7 + 1, none⟩ = some (.int .i64 x.acc) := Sl.at_ hcells2 hx 1 rfl
      have e2 : wr.cell? ⟨b2, off2 + k * 7 + 2, none⟩ = some (.int .i64 x.use) := Sl.at_ hcells2 hx 2 rfl
      have e3 : wr.cell? ⟨b2, off2 + k * 7 + 3, none⟩ = some (.int .i64 x.amt) := Sl.at_ hcells2 hx 3 rfl
      have e4 : wr.cell? ⟨b2, off2 + k * 7 + 4, none⟩ = some (.int .i64 x.st) := Sl.at_ hcells2 hx 4 rfl
      have e5 : wr.cell? ⟨b2, off2 + k * 7 + 5, none⟩ = some (.int .i64 x.cr) := Sl.at_ hcells2 hx 5 rfl
      have e6 : wr.cell? ⟨b2, off2 + k * 7 + 6, none⟩ = some (.int .i64 x.at_) := Sl.at_ hcells2 hx 6 rfl
      have b0 : (x.id == x.id) = true := by simp
      have b1 : (x.acc == x.acc) = true := by simp
      have b2 : (x.use == x.use) = true := by simp
      have b3 : (x.amt == x.amt) = true := by simp
      have b4 : (x.st == x.st) = true := by simp
      have b5 : (x.cr == x.cr) = true := by simp
      have b6 : (x.at_ == x.at_) = true := by simp
      clear hcells hcells2 hx
      go_upto_region 6 with (fail)
      go_still_tail 8, (by kernel_rfl)
      change wpList _ _ _ _ _ wr.drew
      go_wp2_with fail
      go_roundw
      case rel => exact ⟨k + 1, by omega, by go_num, hb.trans ((Below.refl _ _).drew.mono (by exact hb.size))⟩
      case measure => simp [intOf]; omega
    · obtain rfl : k = n := by omega
      have hkn : ¬ ((k : Int) < (k : Int)) := by omega
      go_wp2_with fail
      go_ret
      exact ⟨rfl, hb⟩
def withinV (f t : Int) (cat : ByteArray) : Value := .agg #[.int .i64 f, .int .i64 t, .string cat]
set_option maxHeartbeats 8000000 in
theorem law_sums (a f t : Int) (cat : ByteArray) (A : Option Addr) (n c : Nat) (ds : List Dsp) (w : World) (h : Sl w A n c ds) :
    Calls Try.prog 4 #[.slice A n c, .int .i64 a, withinV f t cat] w fun r w' => r = .returned (.bool true) ∧ Below w.heap.size w w' := by
  have H := Lib.hid h
  clear h
  unfold withinV
  go_enter Try.func4, Try.ntmps4
  go_upto_region 1 with (fail)
  (obtain ⟨W, hWW, hbW, hzW, f1W, qfa⟩ := box1 w #[.int .i64 f, .int .i64 t, .string cat] 35; rw [← hWW]; have qa0 : W.cell? ⟨w.heap.size, 0, none⟩ = some (.int .i64 f) := f1W 0 _ rfl; have qa1 : W.cell? ⟨w.heap.size, 1, none⟩ = some (.int .i64 t) := f1W 1 _ rfl; have qa2 : W.cell? ⟨w.heap.size, 2, none⟩ = some (.string cat) := f1W 2 _ rfl; clear hWW f1W)
  have hT := hbW
  have hg0 : w.heap.size < W.heap.size := hzW
  replace H := Lib.hid (H.out.below hbW)
  clear hbW
  go_wp2_with fail
  refine (few_any A n c ds _ H.out).mono ?_
  rintro r w1 ⟨b, rfl, hb, hb1⟩
  (have hzhb1 := hb1.size; replace qa0 := (hb1.cell (p := ⟨_, _, none⟩) (by (try dsimp only) <;> omega)).trans qa0; replace qa1 := (hb1.cell (p := ⟨_, _, none⟩) (by (try dsimp only) <;> omega)).trans qa1; replace qa2 := (hb1.cell (p := ⟨_, _, none⟩) (by (try dsimp only) <;> omega)).trans qa2; replace hT := Below.trans hT (Below.mono hb1 (by omega)))
  replace H := Lib.hid (H.out.below hb1)
  have hg1 : w.heap.size < w1.heap.size := by omega
  have HB := Lib.hid hb
  clear hb1 hb
  cases b
  · go_wp2_with fail
    refine (alive_any _).mono ?_
    rintro r wz ⟨rfl, hbz⟩
    replace hT := hT.trans (hbz.mono (by omega))
    go_wp2_with fail
    go_ret
    exact ⟨rfl, hT⟩
  · obtain ⟨hn30, hvd⟩ := HB.out rfl
    have HV := Lib.hid hvd
    clear hvd HB
    by_cases hcat : cat.size ≤ 30
    · have hc1 : ¬ (30 : Int) < (cat.size : Int) := by omega
      obtain ⟨p, hp⟩ : ∃ p, pendF a 0 ds = p := ⟨_, rfl⟩
      have HPD := Lib.hid hp
      obtain ⟨ls, hls⟩ : ∃ ls, linesP a f t cat ds = ls := ⟨_, rfl⟩
      have HLS := Lib.hid hls
      have hq : (p == p) = true := by simp
      clear hp hls
      go_upto_region 3 with (fail)
      ((with_reducible refine region_known ([(31, fun v w => Ow w w1.heap.size 55 v ls), (38, fun v w => Ow w w1.heap.size 55 v ls)]) ?_ ?_ ?_ ?_ ?_ ?_); kernel_rfl; kernel_rfl; rfl; rfl; (exact stays_cons (fun x w w' hb h => Ow.below h hb) (stays_cons (fun x w w' hb h => Ow.below h hb) stays_nil)); intro hnonemp hcr; (repeat (first | (refine mix_plain rfl rfl rfl ?_; (first | go_big_quiet_skip | (go_big_quiet_want; go_big_quiet_op; go_big_quiet_on)); refine wpQuiet_nil ?_) | (refine kn_copy (.inl rfl) rfl rfl rfl rfl (by simp only [Act.put, List.setIfInBounds_toArray, List.set_cons_succ, List.set_cons_zero]; rfl) ?_) | (refine kn_copy (.inr rfl) rfl rfl rfl rfl (by simp only [Act.put, List.setIfInBounds_toArray, List.set_cons_succ, List.set_cons_zero]; rfl) ?_) | (refine kn_part rfl rfl rfl rfl rfl (by simp only [Act.put, List.setIfInBounds_toArray, List.set_cons_succ, List.set_cons_zero]; rfl) (fun _ _ => rfl) ?_) | (refine kn_skip rfl rfl (by simp only [Act.put, List.setIfInBounds_toArray, List.set_cons_succ, List.set_cons_zero]; rfl) ?_) | (refine kn_one (.int .i64 p) Try.func13 (by kernel_rfl) rfl rfl rfl rfl (by simp only [Act.put, List.setIfInBounds_toArray, List.set_cons_succ, List.set_cons_zero]; rfl) (fun z vals hv => ?_) ?_; (have hc := pending_any a A n c ds z.w (Sl.below H.out z.h) (Vd.prop HV.out); rw [HPD.out] at hc; exact ⟨_, (by first | (simp [ev, Act.eval] <;> rfl) | (simp [ev, Act.eval, It.val]; done)), hc⟩)) | (refine kn_one (.int .i64 p) Try.func14 (by kernel_rfl) rfl rfl rfl rfl (by simp only [Act.put, List.setIfInBounds_toArray, List.set_cons_succ, List.set_cons_zero]; rfl) (fun z vals hv => ?_) ?_; (have hc := refpending_any a A n c ds z.w (Sl.below H.out z.h) (Vd.prop HV.out); rw [HPD.out] at hc; exact ⟨_, (by first | (simp [ev, Act.eval] <;> rfl) | (simp [ev, Act.eval, It.val]; done)), hc⟩)) | (refine kn_call 31 _ rfl Try.func16 (by kernel_rfl) rfl rfl rfl rfl (by simp only [Act.put, List.setIfInBounds_toArray, List.set_cons_succ, List.set_cons_zero]; rfl) (fun z vals hv => ?_) ?_; (have hc := lines_any a f t cat A n c ds z.w (Sl.below H.out z.h) (by omega) (Vd.prop HV.out); rw [HLS.out] at hc; exact ⟨_, (by first | (simp [ev, Act.eval] <;> rfl) | (simp [ev, Act.eval, It.val]; done)), hc.mono fun r w' ⟨u, e, ho, hb⟩ => ⟨_, e, hb, ho.lower z.h.size⟩⟩)) | (refine kn_call 38 _ rfl Try.func17 (by kernel_rfl) rfl rfl rfl rfl (by simp only [Act.put, List.setIfInBounds_toArray, List.set_cons_succ, List.set_cons_zero]; rfl) (fun z vals hv => ?_) ?_; (have hc := reflines_any a f t cat A n c ds z.w (Sl.below H.out z.h) (by omega) (Vd.prop HV.out); rw [HLS.out] at hc; exact ⟨_, (by first | (simp [ev, Act.eval] <;> rfl) | (simp [ev, Act.eval, It.val]; done)), hc.mono fun r w' ⟨u, e, ho, hb⟩ => ⟨_, e, hb, ho.lower z.h.size⟩⟩)) | (refine kn_one (.bool true) Try.func15 (by kernel_rfl) rfl rfl rfl rfl (by simp only [Act.put, List.setIfInBounds_toArray, List.set_cons_succ, List.set_cons_zero]; rfl) (fun z vals hv => ?_) ?_; (obtain ⟨A1, c1, e1, s1⟩ := Ow.sl (hv 31 _ rfl (by simp)); obtain ⟨A2, c2, e2, s2⟩ := Ow.sl (hv 38 _ rfl (by simp)); exact ⟨_, (by first | (simp [ev, Act.eval, e1, e2] <;> rfl) | (simp [ev, Act.eval, It.val, e1, e2]; done)), sameln_any ls A1 A2 ls.length c1 c2 z.w s1 s2⟩)) | (refine kn_one (.bool true) Try.func9 (by kernel_rfl) rfl rfl rfl rfl (by simp only [Act.put, List.setIfInBounds_toArray, List.set_cons_succ, List.set_cons_zero]; rfl) (fun z vals hv => ?_) ?_; (exact ⟨_, (by first | (simp [ev, Act.eval] <;> rfl) | (simp [ev, Act.eval, It.val]; done)), alive_any z.w⟩)))); intro wq vals hgq hkn; simp only [over, Nk, List.map_cons, List.map_nil, List.foldl_cons, List.foldl_nil, Act.put, List.setIfInBounds_toArray, List.set_cons_succ, List.set_cons_zero]; clear hcr)
      clear hkn
      replace hT := hT.trans (hgq.mono (by omega))
      go_wp2_with fail
      go_ret
      exact ⟨rfl, hT⟩
    · have hc1 : (30 : Int) < (cat.size : Int) := by omega
      go_wp2_with fail
      refine (alive_any _).mono ?_
      rintro r wz ⟨rfl, hbz⟩
      replace hT := hT.trans (hbz.mono (by omega))
      go_wp2_with fail
      go_ret
      exact ⟨rfl, hT⟩
end Dp
end Go.Proofs.Ythidlakkpdbeaaa
