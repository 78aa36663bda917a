/-
  Dedup: law Counts. No condition.
-/
import Derived.Test.YtdcekckghlpamaaDedAA
import Derived.Test.YtdcekckghlpamaaDedW
import Derived.BigQuiet
import Derived.StillTailTactics
import Derived.Lib.Overlaps
import Derived.Deep.DeepCutAuto
import Derived.Deep.RegionWith
import Derived.Laws.RangeAny
set_option maxRecDepth 100000
set_option linter.unusedVariables false
set_option linter.unusedSimpArgs false
namespace Go.Proofs.Ytdcekckghlpamaa
open Go.RowKit

namespace Dd
theorem cnt_all {xs : List Rng} (h : Can xs) : 0 ≤ cnt xs ∧ cnt xs ≤ xs.length * 999999999 := by
  have := cnt_bd h.bd xs.length (Nat.le_refl _)
  rwa [List.take_of_length_le (Nat.le_refl _)] at this
set_option maxHeartbeats 8000000 in
theorem counts_law (A1 : Option Addr) (m1 c1 : Nat) (xs : List Rng) (A : Option Addr) (n c : Nat) (l : List Rec) (w : World) (h1 : Sl w A1 m1 c1 xs) (hN : NilOk A1 c1) (h : Sl w A n c l) :
    Calls Try.prog 9 #[.slice A1 m1 c1, .slice A n c] w fun e w' => e = .returned (.bool true) ∧ Below w.heap.size w w' := by
  have hlen1 := h1.len
  have hlen := h.len
  have H := Lib.hid h
  have H1 := Lib.hid h1
  have HN := Lib.hid hN
  have hn := h.nmax
  clear h h1 hN
  cases hl : lightB xs
  · have HL := Lib.hid hl
    clear hl
    go_enter Try.func9, Try.ntmps9
    go_wp2_with fail
    refine (light_any A1 m1 c1 xs _ H1.out).mono ?_
    rintro e w2 ⟨rfl, hb2⟩
    rw [HL.out]
    go_wp2_with fail
    refine (awake_any _).mono ?_
    rintro e w9 ⟨rfl, hb9⟩
    go_wp2_with fail
    go_ret
    exact ⟨rfl, hb2.trans (hb9.mono hb2.size)⟩
  obtain ⟨hcan, h100⟩ := light_can hl
  have HC := Lib.hid hcan
  have HL := Lib.hid hl
  clear hl hcan
  by_cases h60 : 60 < n
  · have hi60 : (60 : Int) < (n : Int) := by omega
    go_enter Try.func9, Try.ntmps9
    go_wp2_with fail
    refine (light_any A1 m1 c1 xs _ H1.out).mono ?_
    rintro e w2 ⟨rfl, hb2⟩
    rw [HL.out]
    go_wp2_with fail
    refine (awake_any _).mono ?_
    rintro e w9 ⟨rfl, hb9⟩
    go_wp2_with fail
    go_ret
    exact ⟨rfl, hb2.trans (hb9.mono hb2.size)⟩
  have hi60 : ¬ (60 : Int) < (n : Int) := by omega
  go_enter Try.func9, Try.ntmps9
  go_wp2_with fail
  refine (light_any A1 m1 c1 xs _ H1.out).mono ?_
  rintro e w2 ⟨rfl, hb2⟩
  rw [HL.out]
  go_wp2_with fail
  refine (filter_any A1 m1 c1 xs A n c l _ (H1.out.below hb2) HN.out HC.out (by omega) (H.out.below hb2) (by omega)).mono ?_
  intro e w3 hp3
  obtain ⟨B1, B2, B3, d1, d2, d3, rfl, s1, _, s2, _, s3, hb3⟩ := hp3.sl
  have hlaw := filtK_law (l := l) HC.out l.length (Nat.le_refl _)
  have hinv := filtK_inv (l := l) HC.out l.length (Nat.le_refl _)
  obtain ⟨F, hF⟩ : ∃ F, filt xs l = F := ⟨_, rfl⟩
  rw [show filtK xs l l.length = F from hF] at hlaw hinv
  rw [hF] at s1 s2 s3 ⊢
  obtain ⟨k1, hk1⟩ : ∃ k, F.1.length = k := ⟨_, rfl⟩
  obtain ⟨k2, hk2⟩ : ∃ k, F.2.1.length = k := ⟨_, rfl⟩
  obtain ⟨k3, hk3⟩ : ∃ k, F.2.2.length = k := ⟨_, rfl⟩
  rw [hk1] at s1 ⊢
  rw [hk2] at s2 ⊢
  rw [hk3] at s3 ⊢
  obtain ⟨i1, i2, i3⟩ := hinv
  rw [hk1] at i2
  rw [hk2, hk3] at i3
  have hT := hb2.trans (hb3.mono hb2.size)
  have S1 := Lib.hid s1
  have S2 := Lib.hid s2
  have S3 := Lib.hid s3
  have HFC := Lib.hid i1
  have HLAW := Lib.hid hlaw
  have HK2 := Lib.hid hk2
  have hk2n : k2 ≤ n := by omega
  have hk1n : k1 ≤ 200 := by omega
  have HI3 := Lib.hid i3
  clear hp3 hF s1 s2 s3 hb2 hb3 i1 hlaw hk1 hk2 hk3 i2 i3
  go_wp2_with fail
  go_loopw [8] (fun i wr => ∃ k : Nat, k ≤ k2 ∧ i = .int .i64 k ∧ Below w3.heap.size w3 wr) (fun i _ => k2 - (intOf i).toNat)
  case atStart => exact ⟨0, Nat.zero_le _, rfl, Below.refl _ _⟩
  case round =>
    obtain ⟨k, hk, rfl, hbr⟩ := hrel
    have hTr := hT.trans (hbr.mono hT.size)
    have H1R := Lib.hid (H1.out.below hTr)
    have S1R := Lib.hid (S1.out.below hbr)
    by_cases hlt : k < k2
    · obtain ⟨b, off, rfl, hbl, hcells⟩ := S2.out.baseIn hbr (by omega)
      obtain ⟨r, hx⟩ := S2.out.get hlt
      have y0 : wr.cell? ⟨b, off + k * 12, none⟩ = some (.int .i64 r.src) := Sl.at_ hcells hx 0 rfl
      have y1 : wr.cell? ⟨b, off + k * 12 + 1, none⟩ = some (.int .i64 r.ser) := Sl.at_ hcells hx 1 rfl
      have HNO := Lib.hid (HLAW.out.new r (List.mem_of_getElem? hx))
      have HYES := Lib.hid (HLAW.out.in_ (List.mem_of_getElem? hx))
      have hbw : b < wr.heap.size := by have := hbr.size; omega
      clear hcells hx
      go_upto_region 7 with (fail)
      ((with_reducible refine wp_region_class (Below wr.heap.size wr) ?_ ?_ ?_ ?_); kernel_rfl; kernel_rfl; (exact (Below.refl _ _).drew); (intro hnonemp); (have r0 := fun z : Wd (Below wr.heap.size wr) => (z.h.cell (p := ⟨_, _, none⟩) (by (try dsimp only) <;> omega)).trans y0; have r1 := fun z : Wd (Below wr.heap.size wr) => (z.h.cell (p := ⟨_, _, none⟩) (by (try dsimp only) <;> omega)).trans y1); (repeat (any_goals (first | go_big_quiet_step (((first | (go_at_call 12; (with_reducible refine (has_any A1 m1 c1 xs r.src r.ser _ (H1R.out.below (Wd.h _)) HC.out (by omega)).mono ?_); rw [HNO.out]; rintro e w' ⟨rfl, hbk⟩; exact ⟨rfl, ⟨w', Below.trans (Wd.h _) (hbk.mono (Below.size (Wd.h _)))⟩, rfl⟩) | (go_at_call 12; (with_reducible refine (has_any B1 k1 d1 F.1 r.src r.ser _ (S1R.out.below (Wd.h _)) HFC.out (by omega)).mono ?_); rw [HYES.out]; rintro e w' ⟨rfl, hbk⟩; exact ⟨rfl, ⟨w', Below.trans (Wd.h _) (hbk.mono (Below.size (Wd.h _)))⟩, rfl⟩)))) | (refine wpQuiet_step (fun K hK => ?_); go_simp; (first | (refine hK _ ?_; clear hK K) | (split <;> rename_i hg <;> (refine hK _ ?_; clear hK K) <;> (try simp only [Bool.not_eq_true] at hg) <;> (first | simp only [Int.not_lt.2 hg, decide_false] | simp only [Int.not_le.1 hg, decide_true] | simp only [hg, decide_true, decide_false] | skip)))))));  all_goals (refine wpQuiet_nil ?_; intro wq hgq))
      have hq2 := hbr.trans (Below.mono hgq hbr.size)
      go_wp2_with fail
      go_roundw
      case rel => exact ⟨k + 1, by omega, by go_num, hq2⟩
      case measure => simp [intOf]; omega
    · obtain rfl : k = k2 := by omega
      have hkn : ¬ ((k : Int) < (k : Int)) := by omega
      have hcn := HLAW.out.cnt
      rw [HK2.out] at hcn
      have HCN := Lib.hid hcn
      have hbd := cnt_all HC.out
      have hcw : IntKind.i64.wrap (cnt xs + (k : Int)) = cnt xs + (k : Int) := IntWalk.i64_in _ (by omega)
      have hsum : (k : Int) + (k3 : Int) = (n : Int) := by have := HI3.out; omega
      have hsw : IntKind.i64.wrap ((k : Int) + (k3 : Int)) = (n : Int) := by rw [hsum]; exact IntWalk.i64_in _ (by omega)
      have HCF := Lib.hid ((canon_iff F.1).2 HFC.out)
      clear hcn hbd
      go_wp2_with fail
      refine (count_any B1 k1 d1 F.1 _ S1R.out HFC.out.bd (by omega)).mono ?_
      rintro e w5 ⟨rfl, hb5⟩
      rw [HCN.out]
      go_wp2_with fail
      refine (count_any A1 m1 c1 xs _ (H1R.out.below hb5) HC.out.bd (by omega)).mono ?_
      rintro e w6 ⟨rfl, hb6⟩
      have hb56 := hb5.trans (hb6.mono hb5.size)
      go_wp2_with fail
      refine (check_any B1 k1 d1 F.1 _ (S1R.out.below hb56)).mono ?_
      rintro e w7 ⟨rfl, hb7⟩
      rw [HCF.out]
      have hbF := hTr.trans ((hb56.trans (hb7.mono hb56.size)).mono hTr.size)
      go_wp2_with fail
      refine (awake_any _).mono ?_
      rintro e w9 ⟨rfl, hb9⟩
      go_wp2_with fail
      go_ret
      exact ⟨rfl, hbF.trans (hb9.mono hbF.size)⟩
end Dd
end Go.Proofs.Ytdcekckghlpamaa
