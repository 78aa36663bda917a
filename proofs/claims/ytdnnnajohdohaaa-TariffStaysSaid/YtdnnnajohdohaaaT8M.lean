/-
  Tariffs: the order of versions; Tariffs: both Check. No condition.
-/
import Derived.Test.YtdnnnajohdohaaaT8K
import Derived.Test.YtdnnnajohdohaaaComB
import Derived.BigQuiet
import Derived.StillTailTactics
import Derived.Lib.Overlaps
import Derived.Deep.DeepCutAuto
import Derived.Deep.RegionWith
import Derived.Laws.RangeAny
set_option maxRecDepth 100000
set_option linter.unusedVariables false
set_option linter.unusedSimpArgs false
namespace Go.Proofs.Ytdnnnajohdohaaa
open Go.RowKit

namespace Cv
open Xp Ck
/-- the order of two versions -/
def cmpN (n1 : ByteArray) (f1 : Int) (n2 : ByteArray) (f2 : Int) : Int :=
  if Op.bytesLess n1.toList n2.toList = true then -1 else if n1.toList = n2.toList then (if f1 < f2 then -1 else if f1 = f2 then 0 else 1) else 1
def cmpT (A B : Td) : Int := cmpN A.name A.from_ B.name B.from_
set_option maxHeartbeats 4000000 in
theorem compare_v (a b : Tv) (w : World) : Calls Try.prog 25 #[a.val, b.val] w fun e w' => e = .returned (.int .i64 (cmpN a.name a.from_ b.name b.from_)) ∧ Below w.heap.size w w' := by
  have hb : ∀ o1 o2 : Obj, Below w.heap.size w ((w.alloc o1).alloc o2) := fun o1 o2 => ((Below.refl _ _).alloc (Nat.le_refl _) _).alloc (by rw [alloc_size]; omega) _
  unfold Tv.val cmpN
  go_enter Try.func25, Try.ntmps25
  go_wp2_with fail
  all_goals
    go_ret
    refine ⟨ret_int ?_, hb _ _⟩
    simp [*]
  all_goals (first | done | (intro h; exact absurd h (by assumption)) | (split <;> simp_all) | simp_all)
set_option maxHeartbeats 4000000 in
theorem order_v (a b : Tv) (w : World) : Calls Try.prog 27 #[a.val, b.val] w fun e w' => e = .returned (.int .i64 (cmpN a.name a.from_ b.name b.from_)) ∧ Below w.heap.size w w' := by
  have hb : ∀ o1 o2 : Obj, Below w.heap.size w ((w.alloc o1).alloc o2) := fun o1 o2 => ((Below.refl _ _).alloc (Nat.le_refl _) _).alloc (by rw [alloc_size]; omega) _
  unfold Tv.val cmpN
  go_enter Try.func27, Try.ntmps27
  go_wp2_with fail
  all_goals
    go_ret
    refine ⟨ret_int ?_, hb _ _⟩
    simp [*]
  all_goals (first | done | (intro h; exact absurd h (by assumption)) | (split <;> simp_all) | simp_all)
theorem compare_any {a b : Tv} {A B : Td} {w : World} (ha : TD w a A) (hb : TD w b B) : Calls Try.prog 25 #[a.val, b.val] w fun e w' => e = .returned (.int .i64 (cmpT A B)) ∧ Below w.heap.size w w' := by
  unfold cmpT
  rw [← ha.name, ← ha.from_, ← hb.name, ← hb.from_]
  exact compare_v a b w
theorem order_any {a b : Tv} {A B : Td} {w : World} (ha : TD w a A) (hb : TD w b B) : Calls Try.prog 27 #[a.val, b.val] w fun e w' => e = .returned (.int .i64 (cmpT A B)) ∧ Below w.heap.size w w' := by
  unfold cmpT
  rw [← ha.name, ← ha.from_, ← hb.name, ← hb.from_]
  exact order_v a b w
end Cv
namespace Cv
open Xp Ck
/-- the error of the version i -/
def chkF (Ts : List Td) (i : Nat) : Int :=
  match Ts[i]? with
  | none => 0
  | some T => if tarD T ≠ 0 then tarD T else if i = 0 then 0 else match Ts[i - 1]? with
    | none => 0
    | some S => if 0 ≤ cmpT S T then 9 else 0
def chkE (Ts : List Td) : Int := if 4096 < Ts.length then 5 else firstE Ts.length (chkF Ts)
theorem chkE_long {Ts : List Td} (h : 4096 < Ts.length) : chkE Ts = 5 := by rw [chkE, if_pos h]
theorem chkE_bad {Ts : List Td} (h : ¬ 4096 < Ts.length) {k : Nat} {e : Int} (ha : ∀ j, j < k → chkF Ts j = 0) (hk : k < Ts.length) (he : chkF Ts k = e) (hne : e ≠ 0) : chkE Ts = e := by
  rw [chkE, if_neg h]; exact firstE_bad _ k _ e ha hk he hne
theorem chkE_ok {Ts : List Td} (h : ¬ 4096 < Ts.length) (ha : ∀ j, j < Ts.length → chkF Ts j = 0) : chkE Ts = 0 := by rw [chkE, if_neg h]; exact firstE_ok _ _ ha
theorem chkF_bad {Ts : List Td} {i : Nat} {T : Td} {y : Int} (h : Ts[i]? = some T) (ht : tarD T = y) (hy : y ≠ 0) : chkF Ts i = y := by simp only [chkF, h]; rw [if_pos (by rw [ht]; exact hy), ht]
theorem chkF_first {Ts : List Td} {T : Td} (h : Ts[0]? = some T) (ht : tarD T = 0) : chkF Ts 0 = 0 := by simp only [chkF, h]; rw [if_neg (by rw [ht]; simp)]; simp
theorem chkF_order {Ts : List Td} {i : Nat} {S T : Td} (h : Ts[i]? = some T) (ht : tarD T = 0) (hi : i ≠ 0) (hs : Ts[i - 1]? = some S) : chkF Ts i = if 0 ≤ cmpT S T then 9 else 0 := by
  simp only [chkF, h]; rw [if_neg (by rw [ht]; simp), if_neg hi]; simp only [hs]
theorem Tv.cells_val (t : Tv) : t.val = .agg ⟨Flat.cells t⟩ := rfl
set_option maxHeartbeats 16000000 in
theorem check_any (A : Option Addr) (n c : Nat) (Ts : List Td) (w : World) (h : LT w A n c Ts) :
    Calls Try.prog 11 #[.slice A n c] w fun e w' => e = .returned (.int .i64 (chkE Ts)) ∧ Below w.heap.size w w' := by
  obtain ⟨_, ts, hs, ha⟩ := h
  have hn := hs.nmax
  have HS := Lib.hid hs
  have HA := Lib.hid ha
  have HLen := Lib.hid (show Ts.length = n by rw [← ha.1, hs.len])
  clear hs ha
  by_cases h4 : 4096 < n
  · have h4i : (4096 : Int) < (n : Int) := by omega
    have HQ := Lib.hid (chkE_long (by rw [HLen.out]; exact h4))
    go_enter Try.func11, Try.ntmps11
    go_wp2_with fail
    go_ret
    exact ⟨ret_int HQ.out.symm, Below.refl _ _⟩
  have h4i : ¬ (4096 : Int) < (n : Int) := by omega
  have HL4 := Lib.hid (show ¬ 4096 < Ts.length by rw [HLen.out]; exact h4)
  go_enter Try.func11, Try.ntmps11
  go_wp2_with fail
  go_loopw [11] (fun s wr => ∃ k : Nat, k ≤ n ∧ s = .int .i64 k ∧ Below w.heap.size w wr ∧ ∀ j, j < k → chkF Ts j = 0) (fun s _ => n - (intOf s).toNat)
  case atStart => exact ⟨0, Nat.zero_le _, rfl, Below.refl _ _, fun j hj => absurd hj (by omega)⟩
  case round =>
    obtain ⟨k, hk, rfl, hbr, hall⟩ := hrel
    have HK := Lib.hid hall
    clear hall
    by_cases hlt : k < n
    · obtain ⟨b, off, rfl, hbl, hcells⟩ := HS.out.baseIn hbr (by omega)
      obtain ⟨t, hx⟩ := HS.out.get hlt
      obtain ⟨T, hT, hTD⟩ := HA.out.at_ hx
      (have e0 : wr.cell? ⟨b, off + k * 7, none⟩ = some (.string t.name) := Sl.at_ hcells hx 0 rfl; have e1 : wr.cell? ⟨b, off + k * 7 + 1, none⟩ = some (.int .i64 t.from_) := Sl.at_ hcells hx 1 rfl; have e2 : wr.cell? ⟨b, off + k * 7 + 2, none⟩ = some (.bool t.split) := Sl.at_ hcells hx 2 rfl; have e3 : wr.cell? ⟨b, off + k * 7 + 3, none⟩ = some (.slice t.Az t.nz t.cz) := Sl.at_ hcells hx 3 rfl; have e4 : wr.cell? ⟨b, off + k * 7 + 4, none⟩ = some (.slice t.Ab t.nb t.cb) := Sl.at_ hcells hx 4 rfl; have e5 : wr.cell? ⟨b, off + k * 7 + 5, none⟩ = some (.slice t.Ar t.nr t.cr) := Sl.at_ hcells hx 5 rfl; have e6 : wr.cell? ⟨b, off + k * 7 + 6, none⟩ = some (.slice t.Ad t.nd t.cd) := Sl.at_ hcells hx 6 rfl)
      have HX := Lib.hid hx
      have HT := Lib.hid hT
      have HTD := Lib.hid hTD
      clear hcells hx hT hTD
      go_upto_region 6 with (fail)
      (obtain ⟨V, hWV, hbV, hzV, f1V, mfa⟩ := box1 wr #[.string t.name, .int .i64 t.from_, .bool t.split, .slice t.Az t.nz t.cz, .slice t.Ab t.nb t.cb, .slice t.Ar t.nr t.cr, .slice t.Ad t.nd t.cd] 32; rw [← hWV]; have ma0 : V.cell? ⟨wr.heap.size, 0, none⟩ = some (.string t.name) := f1V 0 _ rfl; have ma1 : V.cell? ⟨wr.heap.size, 1, none⟩ = some (.int .i64 t.from_) := f1V 1 _ rfl; have ma2 : V.cell? ⟨wr.heap.size, 2, none⟩ = some (.bool t.split) := f1V 2 _ rfl; have ma3 : V.cell? ⟨wr.heap.size, 3, none⟩ = some (.slice t.Az t.nz t.cz) := f1V 3 _ rfl; have ma4 : V.cell? ⟨wr.heap.size, 4, none⟩ = some (.slice t.Ab t.nb t.cb) := f1V 4 _ rfl; have ma5 : V.cell? ⟨wr.heap.size, 5, none⟩ = some (.slice t.Ar t.nr t.cr) := f1V 5 _ rfl; have ma6 : V.cell? ⟨wr.heap.size, 6, none⟩ = some (.slice t.Ad t.nd t.cd) := f1V 6 _ rfl; clear hWV f1V)
      have hbV2 := hbr.trans (hbV.mono hbr.size)
      have hcall := tariff_D (HTD.out.on hbV2)
      unfold Tv.val at hcall
      have HC := Lib.hid hcall
      clear hcall e0 e1 e2 e3 e4 e5 e6 mfa
      go_wp2_with fail
      refine HC.out.mono ?_
      rintro r w2 ⟨rfl, hb2⟩
      have hbT := hbV2.trans (hb2.mono hbV2.size)
      (have gma0 := (hb2.cell (p := ⟨_, _, none⟩) (by (try dsimp only) <;> omega)).trans ma0; have gma1 := (hb2.cell (p := ⟨_, _, none⟩) (by (try dsimp only) <;> omega)).trans ma1; have gma2 := (hb2.cell (p := ⟨_, _, none⟩) (by (try dsimp only) <;> omega)).trans ma2; have gma3 := (hb2.cell (p := ⟨_, _, none⟩) (by (try dsimp only) <;> omega)).trans ma3; have gma4 := (hb2.cell (p := ⟨_, _, none⟩) (by (try dsimp only) <;> omega)).trans ma4; have gma5 := (hb2.cell (p := ⟨_, _, none⟩) (by (try dsimp only) <;> omega)).trans ma5; have gma6 := (hb2.cell (p := ⟨_, _, none⟩) (by (try dsimp only) <;> omega)).trans ma6)
      have hz2 := hb2.size
      obtain ⟨y, hy⟩ : ∃ y, tarD T = y := ⟨_, rfl⟩
      rw [hy]
      have HY := Lib.hid hy
      clear hy HC ma0 ma1 ma2 ma3 ma4 ma5 ma6 hb2 hbV hbV2
      by_cases hy0 : y = 0
      case neg =>
        have q5 : (y != 0) = true := by simpa using hy0
        have HQ := Lib.hid (chkE_bad HL4.out HK.out (by rw [HLen.out]; exact hlt) (chkF_bad HT.out HY.out hy0) hy0)
        clear hy0
        go_wp2_with fail
        go_ret
        exact ⟨ret_int HQ.out.symm, hbT⟩
      subst hy0
      by_cases hk0 : k = 0
      · subst hk0
        have HF := Lib.hid (chkF_first HT.out HY.out)
        go_upto_region 9 with (fail)
        ((with_reducible refine wp_region_quiet_lit ?_ ?_ ?_); kernel_rfl; kernel_rfl; (repeat (any_goals (first | go_big_quiet_step (fail) | (refine wpQuiet_step (fun K hK => ?_); go_simp; (first | (refine hK _ ?_; clear hK K) | (split <;> rename_i hg <;> (refine hK _ ?_; clear hK K) <;> (try simp only [Bool.not_eq_true] at hg) <;> (first | simp only [Int.not_lt.2 hg, decide_false] | simp only [Int.not_le.1 hg, decide_true] | simp only [hg, decide_true, decide_false] | skip))))))); all_goals (refine wpQuiet_nil ?_; intro _ hw'; obtain ⟨nq, hw''⟩ := hw'; subst hw''))
        all_goals
          go_wp2_with fail
          go_roundw
          case rel => exact ⟨1, by omega, by go_num, by first | exact hbT | exact below_drewN hbT _, zero_step HK.out HF.out⟩
          case measure => simp [intOf]; omega
      · have hw1 : IntKind.i64.wrap ((k : Int) - 1) = ((k - 1 : Nat) : Int) := by rw [IntWalk.i64_in _ (by omega)]; omega
        have hw2 : 0 ≤ ((k - 1 : Nat) : Int) := by omega
        have hw3 : ((k - 1 : Nat) : Int).toNat = k - 1 := by omega
        have hw4 : ((k - 1 : Nat) : Int) < (n : Int) := by omega
        have hk0n : 0 < k := by omega
        obtain ⟨u, hu⟩ := HS.out.get (show k - 1 < n by omega)
        obtain ⟨U, hU, hUD⟩ := HA.out.at_ hu
        obtain ⟨b', off', heq, _, hcells⟩ := HS.out.baseIn hbT (by omega)
        cases heq
        (have d0 : w2.cell? ⟨b, off + (k - 1) * 7, none⟩ = some (.string u.name) := Sl.at_ hcells hu 0 rfl; have d1 : w2.cell? ⟨b, off + (k - 1) * 7 + 1, none⟩ = some (.int .i64 u.from_) := Sl.at_ hcells hu 1 rfl; have d2 : w2.cell? ⟨b, off + (k - 1) * 7 + 2, none⟩ = some (.bool u.split) := Sl.at_ hcells hu 2 rfl; have d3 : w2.cell? ⟨b, off + (k - 1) * 7 + 3, none⟩ = some (.slice u.Az u.nz u.cz) := Sl.at_ hcells hu 3 rfl; have d4 : w2.cell? ⟨b, off + (k - 1) * 7 + 4, none⟩ = some (.slice u.Ab u.nb u.cb) := Sl.at_ hcells hu 4 rfl; have d5 : w2.cell? ⟨b, off + (k - 1) * 7 + 5, none⟩ = some (.slice u.Ar u.nr u.cr) := Sl.at_ hcells hu 5 rfl; have d6 : w2.cell? ⟨b, off + (k - 1) * 7 + 6, none⟩ = some (.slice u.Ad u.nd u.cd) := Sl.at_ hcells hu 6 rfl)
        obtain ⟨cv, hcv⟩ : ∃ cv, cmpT U T = cv := ⟨_, rfl⟩
        have HCMP := Lib.hid (fun w3 (h3 : Below w.heap.size w w3) => compare_any (hUD.on h3) (HTD.out.on h3))
        unfold Tv.val at HCMP
        rw [hcv] at HCMP
        have HCV := Lib.hid hcv
        have HF := Lib.hid (chkF_order HT.out HY.out hk0 hU)
        have hbl2 : b < w2.heap.size := Nat.lt_of_lt_of_le hbl hbT.size
        clear hcells hu hU hUD hcv
        go_upto_region 9 with (fail)
        ((with_reducible refine wp_region_class (Below w2.heap.size w2) ?_ ?_ ?_ ?_); kernel_rfl; kernel_rfl; (exact (Below.refl _ _).drew); (intro hnonemp); (have zd0 := fun z : Wd (Below w2.heap.size w2) => (z.h.cell (p := ⟨_, _, none⟩) (by (try dsimp only) <;> omega)).trans d0; have zd1 := fun z : Wd (Below w2.heap.size w2) => (z.h.cell (p := ⟨_, _, none⟩) (by (try dsimp only) <;> omega)).trans d1; have zd2 := fun z : Wd (Below w2.heap.size w2) => (z.h.cell (p := ⟨_, _, none⟩) (by (try dsimp only) <;> omega)).trans d2; have zd3 := fun z : Wd (Below w2.heap.size w2) => (z.h.cell (p := ⟨_, _, none⟩) (by (try dsimp only) <;> omega)).trans d3; have zd4 := fun z : Wd (Below w2.heap.size w2) => (z.h.cell (p := ⟨_, _, none⟩) (by (try dsimp only) <;> omega)).trans d4; have zd5 := fun z : Wd (Below w2.heap.size w2) => (z.h.cell (p := ⟨_, _, none⟩) (by (try dsimp only) <;> omega)).trans d5; have zd6 := fun z : Wd (Below w2.heap.size w2) => (z.h.cell (p := ⟨_, _, none⟩) (by (try dsimp only) <;> omega)).trans d6; have zgma0 := fun z : Wd (Below w2.heap.size w2) => (z.h.cell (p := ⟨_, _, none⟩) (by (try dsimp only) <;> omega)).trans gma0; have zgma1 := fun z : Wd (Below w2.heap.size w2) => (z.h.cell (p := ⟨_, _, none⟩) (by (try dsimp only) <;> omega)).trans gma1; have zgma2 := fun z : Wd (Below w2.heap.size w2) => (z.h.cell (p := ⟨_, _, none⟩) (by (try dsimp only) <;> omega)).trans gma2; have zgma3 := fun z : Wd (Below w2.heap.size w2) => (z.h.cell (p := ⟨_, _, none⟩) (by (try dsimp only) <;> omega)).trans gma3; have zgma4 := fun z : Wd (Below w2.heap.size w2) => (z.h.cell (p := ⟨_, _, none⟩) (by (try dsimp only) <;> omega)).trans gma4; have zgma5 := fun z : Wd (Below w2.heap.size w2) => (z.h.cell (p := ⟨_, _, none⟩) (by (try dsimp only) <;> omega)).trans gma5; have zgma6 := fun z : Wd (Below w2.heap.size w2) => (z.h.cell (p := ⟨_, _, none⟩) (by (try dsimp only) <;> omega)).trans gma6); (repeat (any_goals (first | go_big_quiet_step (((first | (go_at_call 25; (with_reducible refine (HCMP.out _ (hbT.trans (Below.mono (Wd.h _) hbT.size))).mono ?_); rintro e w' ⟨rfl, hbk⟩; exact ⟨rfl, ⟨w', Below.trans (Wd.h _) (hbk.mono (Below.size (Wd.h _)))⟩, rfl⟩)))) | (refine wpQuiet_step (fun K hK => ?_); go_simp; (first | (refine hK _ ?_; clear hK K) | (split <;> rename_i hg <;> (refine hK _ ?_; clear hK K) <;> (try simp only [Bool.not_eq_true] at hg) <;> (first | simp only [Int.not_lt.2 hg, decide_false] | simp only [Int.not_le.1 hg, decide_true] | simp only [hg, decide_true, decide_false] | skip)))))));  all_goals (refine wpQuiet_nil ?_; intro wq hgq))
        all_goals first
        | (exfalso; omega)
        | skip
        replace hbT := hbT.trans (hgq.mono hbT.size)
        clear zd0 zd1 zd2 zd3 zd4 zd5 zd6 zgma0 zgma1 zgma2 zgma3 zgma4 zgma5 zgma6 d0 d1 d2 d3 d4 d5 d6 gma0 gma1 gma2 gma3 gma4 gma5 gma6 hgq
        by_cases hcv0 : 0 ≤ cv
        · have hF9 : chkF Ts k = 9 := HF.out.trans (if_pos (by rw [HCV.out]; exact hcv0))
          have HQ := Lib.hid (chkE_bad HL4.out HK.out (by rw [HLen.out]; exact hlt) hF9 (by decide))
          clear hF9
          go_wp2_with fail
          go_ret
          exact ⟨ret_int HQ.out.symm, hbT⟩
        · have hF0 : chkF Ts k = 0 := HF.out.trans (if_neg (by rw [HCV.out]; exact hcv0))
          have HF0 := Lib.hid hF0
          clear hF0
          go_wp2_with fail
          go_roundw
          case rel => exact ⟨k + 1, by omega, by go_num, hbT, zero_step HK.out HF0.out⟩
          case measure => simp [intOf]; omega
    · obtain rfl : n = k := by omega
      have hkn : ¬ ((n : Int) < (n : Int)) := by omega
      have HQ := Lib.hid (chkE_ok HL4.out (by rw [HLen.out]; exact HK.out))
      go_wp2_with fail
      go_ret
      exact ⟨ret_int HQ.out.symm, hbr⟩
set_option maxHeartbeats 16000000 in
theorem refcheck_any (A : Option Addr) (n c : Nat) (Ts : List Td) (w : World) (h : LT w A n c Ts) :
    Calls Try.prog 12 #[.slice A n c] w fun e w' => e = .returned (.int .i64 (chkE Ts)) ∧ Below w.heap.size w w' := by
  obtain ⟨_, ts, hs, ha⟩ := h
  have hn := hs.nmax
  have HS := Lib.hid hs
  have HA := Lib.hid ha
  have HLen := Lib.hid (show Ts.length = n by rw [← ha.1, hs.len])
  clear hs ha
  by_cases h4 : 4096 < n
  · have h4i : (4096 : Int) < (n : Int) := by omega
    have HQ := Lib.hid (chkE_long (by rw [HLen.out]; exact h4))
    go_enter Try.func12, Try.ntmps12
    go_wp2_with fail
    go_ret
    exact ⟨ret_int HQ.out.symm, Below.refl _ _⟩
  have h4i : ¬ (4096 : Int) < (n : Int) := by omega
  have HL4 := Lib.hid (show ¬ 4096 < Ts.length by rw [HLen.out]; exact h4)
  go_enter Try.func12, Try.ntmps12
  go_wp2_with fail
  go_loopw [3] (fun s wr => ∃ k : Nat, k ≤ n ∧ s = .int .i64 k ∧ Below w.heap.size w wr ∧ ∀ j, j < k → chkF Ts j = 0) (fun s _ => n - (intOf s).toNat)
  case atStart => exact ⟨0, Nat.zero_le _, rfl, Below.refl _ _, fun j hj => absurd hj (by omega)⟩
  case round =>
    obtain ⟨k, hk, rfl, hbr, hall⟩ := hrel
    have HK := Lib.hid hall
    clear hall
    by_cases hlt : k < n
    · obtain ⟨b, off, rfl, hbl, hcells⟩ := HS.out.baseIn hbr (by omega)
      obtain ⟨t, hx⟩ := HS.out.get hlt
      obtain ⟨T, hT, hTD⟩ := HA.out.at_ hx
      (have e0 : wr.cell? ⟨b, off + k * 7, none⟩ = some (.string t.name) := Sl.at_ hcells hx 0 rfl; have e1 : wr.cell? ⟨b, off + k * 7 + 1, none⟩ = some (.int .i64 t.from_) := Sl.at_ hcells hx 1 rfl; have e2 : wr.cell? ⟨b, off + k * 7 + 2, none⟩ = some (.bool t.split) := Sl.at_ hcells hx 2 rfl; have e3 : wr.cell? ⟨b, off + k * 7 + 3, none⟩ = some (.slice t.Az t.nz t.cz) := Sl.at_ hcells hx 3 rfl; have e4 : wr.cell? ⟨b, off + k * 7 + 4, none⟩ = some (.slice t.Ab t.nb t.cb) := Sl.at_ hcells hx 4 rfl; have e5 : wr.cell? ⟨b, off + k * 7 + 5, none⟩ = some (.slice t.Ar t.nr t.cr) := Sl.at_ hcells hx 5 rfl; have e6 : wr.cell? ⟨b, off + k * 7 + 6, none⟩ = some (.slice t.Ad t.nd t.cd) := Sl.at_ hcells hx 6 rfl)
      have HX := Lib.hid hx
      have HT := Lib.hid hT
      have HTD := Lib.hid hTD
      clear hcells hx hT hTD
      have hcall := reftariff_D (HTD.out.on hbr)
      unfold Tv.val at hcall
      have HC := Lib.hid hcall
      clear hcall
      go_wp2_with fail
      refine HC.out.mono ?_
      rintro r w2 ⟨rfl, hb2⟩
      have hbT := hbr.trans (hb2.mono hbr.size)
      have hbw : b < wr.heap.size := Nat.lt_of_lt_of_le hbl hbr.size
      (have gme0 := (hb2.cell (p := ⟨_, _, none⟩) (by (try dsimp only) <;> omega)).trans e0; have gme1 := (hb2.cell (p := ⟨_, _, none⟩) (by (try dsimp only) <;> omega)).trans e1; have gme2 := (hb2.cell (p := ⟨_, _, none⟩) (by (try dsimp only) <;> omega)).trans e2; have gme3 := (hb2.cell (p := ⟨_, _, none⟩) (by (try dsimp only) <;> omega)).trans e3; have gme4 := (hb2.cell (p := ⟨_, _, none⟩) (by (try dsimp only) <;> omega)).trans e4; have gme5 := (hb2.cell (p := ⟨_, _, none⟩) (by (try dsimp only) <;> omega)).trans e5; have gme6 := (hb2.cell (p := ⟨_, _, none⟩) (by (try dsimp only) <;> omega)).trans e6)
      have hz2 := hb2.size
      obtain ⟨y, hy⟩ : ∃ y, tarD T = y := ⟨_, rfl⟩
      rw [hy]
      have HY := Lib.hid hy
      clear hy HC e0 e1 e2 e3 e4 e5 e6 hb2
      by_cases hy0 : y = 0
      case neg =>
        have q5 : (y != 0) = true := by simpa using hy0
        have HQ := Lib.hid (chkE_bad HL4.out HK.out (by rw [HLen.out]; exact hlt) (chkF_bad HT.out HY.out hy0) hy0)
        clear hy0
        go_wp2_with fail
        go_ret
        exact ⟨ret_int HQ.out.symm, hbT⟩
      subst hy0
      by_cases hk0 : k = 0
      · subst hk0
        have HF := Lib.hid (chkF_first HT.out HY.out)
        go_upto_region 9 with (fail)
        ((with_reducible refine wp_region_quiet_lit ?_ ?_ ?_); kernel_rfl; kernel_rfl; (repeat (any_goals (first | go_big_quiet_step (fail) | (refine wpQuiet_step (fun K hK => ?_); go_simp; (first | (refine hK _ ?_; clear hK K) | (split <;> rename_i hg <;> (refine hK _ ?_; clear hK K) <;> (try simp only [Bool.not_eq_true] at hg) <;> (first | simp only [Int.not_lt.2 hg, decide_false] | simp only [Int.not_le.1 hg, decide_true] | simp only [hg, decide_true, decide_false] | skip))))))); all_goals (refine wpQuiet_nil ?_; intro _ hw'; obtain ⟨nq, hw''⟩ := hw'; subst hw''))
        all_goals
          go_wp2_with fail
          go_roundw
          case rel => exact ⟨1, by omega, by go_num, by first | exact hbT | exact below_drewN hbT _, zero_step HK.out HF.out⟩
          case measure => simp [intOf]; omega
      · have hw1 : IntKind.i64.wrap ((k : Int) - 1) = ((k - 1 : Nat) : Int) := by rw [IntWalk.i64_in _ (by omega)]; omega
        have hw2 : 0 ≤ ((k - 1 : Nat) : Int) := by omega
        have hw3 : ((k - 1 : Nat) : Int).toNat = k - 1 := by omega
        have hw4 : ((k - 1 : Nat) : Int) < (n : Int) := by omega
        have hk0n : 0 < k := by omega
        obtain ⟨u, hu⟩ := HS.out.get (show k - 1 < n by omega)
        obtain ⟨U, hU, hUD⟩ := HA.out.at_ hu
        obtain ⟨b', off', heq, _, hcells⟩ := HS.out.baseIn hbT (by omega)
        cases heq
        (have d0 : w2.cell? ⟨b, off + (k - 1) * 7, none⟩ = some (.string u.name) := Sl.at_ hcells hu 0 rfl; have d1 : w2.cell? ⟨b, off + (k - 1) * 7 + 1, none⟩ = some (.int .i64 u.from_) := Sl.at_ hcells hu 1 rfl; have d2 : w2.cell? ⟨b, off + (k - 1) * 7 + 2, none⟩ = some (.bool u.split) := Sl.at_ hcells hu 2 rfl; have d3 : w2.cell? ⟨b, off + (k - 1) * 7 + 3, none⟩ = some (.slice u.Az u.nz u.cz) := Sl.at_ hcells hu 3 rfl; have d4 : w2.cell? ⟨b, off + (k - 1) * 7 + 4, none⟩ = some (.slice u.Ab u.nb u.cb) := Sl.at_ hcells hu 4 rfl; have d5 : w2.cell? ⟨b, off + (k - 1) * 7 + 5, none⟩ = some (.slice u.Ar u.nr u.cr) := Sl.at_ hcells hu 5 rfl; have d6 : w2.cell? ⟨b, off + (k - 1) * 7 + 6, none⟩ = some (.slice u.Ad u.nd u.cd) := Sl.at_ hcells hu 6 rfl)
        obtain ⟨cv, hcv⟩ : ∃ cv, cmpT U T = cv := ⟨_, rfl⟩
        have HCMP := Lib.hid (fun w3 (h3 : Below w.heap.size w w3) => order_any (hUD.on h3) (HTD.out.on h3))
        unfold Tv.val at HCMP
        rw [hcv] at HCMP
        have HCV := Lib.hid hcv
        have HF := Lib.hid (chkF_order HT.out HY.out hk0 hU)
        have hbl2 : b < w2.heap.size := Nat.lt_of_lt_of_le hbl hbT.size
        clear hcells hu hU hUD hcv
        go_upto_region 9 with (fail)
        ((with_reducible refine wp_region_class (Below w2.heap.size w2) ?_ ?_ ?_ ?_); kernel_rfl; kernel_rfl; (exact (Below.refl _ _).drew); (intro hnonemp); (have zd0 := fun z : Wd (Below w2.heap.size w2) => (z.h.cell (p := ⟨_, _, none⟩) (by (try dsimp only) <;> omega)).trans d0; have zd1 := fun z : Wd (Below w2.heap.size w2) => (z.h.cell (p := ⟨_, _, none⟩) (by (try dsimp only) <;> omega)).trans d1; have zd2 := fun z : Wd (Below w2.heap.size w2) => (z.h.cell (p := ⟨_, _, none⟩) (by (try dsimp only) <;> omega)).trans d2; have zd3 := fun z : Wd (Below w2.heap.size w2) => (z.h.cell (p := ⟨_, _, none⟩) (by (try dsimp only) <;> omega)).trans d3; have zd4 := fun z : Wd (Below w2.heap.size w2) => (z.h.cell (p := ⟨_, _, none⟩) (by (try dsimp only) <;> omega)).trans d4; have zd5 := fun z : Wd (Below w2.heap.size w2) => (z.h.cell (p := ⟨_, _, none⟩) (by (try dsimp only) <;> omega)).trans d5; have zd6 := fun z : Wd (Below w2.heap.size w2) => (z.h.cell (p := ⟨_, _, none⟩) (by (try dsimp only) <;> omega)).trans d6; have zgme0 := fun z : Wd (Below w2.heap.size w2) => (z.h.cell (p := ⟨_, _, none⟩) (by (try dsimp only) <;> omega)).trans gme0; have zgme1 := fun z : Wd (Below w2.heap.size w2) => (z.h.cell (p := ⟨_, _, none⟩) (by (try dsimp only) <;> omega)).trans gme1; have zgme2 := fun z : Wd (Below w2.heap.size w2) => (z.h.cell (p := ⟨_, _, none⟩) (by (try dsimp only) <;> omega)).trans gme2; have zgme3 := fun z : Wd (Below w2.heap.size w2) => (z.h.cell (p := ⟨_, _, none⟩) (by (try dsimp only) <;> omega)).trans gme3; have zgme4 := fun z : Wd (Below w2.heap.size w2) => (z.h.cell (p := ⟨_, _, none⟩) (by (try dsimp only) <;> omega)).trans gme4; have zgme5 := fun z : Wd (Below w2.heap.size w2) => (z.h.cell (p := ⟨_, _, none⟩) (by (try dsimp only) <;> omega)).trans gme5; have zgme6 := fun z : Wd (Below w2.heap.size w2) => (z.h.cell (p := ⟨_, _, none⟩) (by (try dsimp only) <;> omega)).trans gme6); (repeat (any_goals (first | go_big_quiet_step (((first | (go_at_call 27; (with_reducible refine (HCMP.out _ (hbT.trans (Below.mono (Wd.h _) hbT.size))).mono ?_); rintro e w' ⟨rfl, hbk⟩; exact ⟨rfl, ⟨w', Below.trans (Wd.h _) (hbk.mono (Below.size (Wd.h _)))⟩, rfl⟩)))) | (refine wpQuiet_step (fun K hK => ?_); go_simp; (first | (refine hK _ ?_; clear hK K) | (split <;> rename_i hg <;> (refine hK _ ?_; clear hK K) <;> (try simp only [Bool.not_eq_true] at hg) <;> (first | simp only [Int.not_lt.2 hg, decide_false] | simp only [Int.not_le.1 hg, decide_true] | simp only [hg, decide_true, decide_false] | skip)))))));  all_goals (refine wpQuiet_nil ?_; intro wq hgq))
        all_goals first
        | (exfalso; omega)
        | skip
        replace hbT := hbT.trans (hgq.mono hbT.size)
        clear zd0 zd1 zd2 zd3 zd4 zd5 zd6 zgme0 zgme1 zgme2 zgme3 zgme4 zgme5 zgme6 d0 d1 d2 d3 d4 d5 d6 gme0 gme1 gme2 gme3 gme4 gme5 gme6 hgq
        by_cases hcv0 : 0 ≤ cv
        · have hF9 : chkF Ts k = 9 := HF.out.trans (if_pos (by rw [HCV.out]; exact hcv0))
          have HQ := Lib.hid (chkE_bad HL4.out HK.out (by rw [HLen.out]; exact hlt) hF9 (by decide))
          clear hF9
          go_wp2_with fail
          go_ret
          exact ⟨ret_int HQ.out.symm, hbT⟩
        · have hF0 : chkF Ts k = 0 := HF.out.trans (if_neg (by rw [HCV.out]; exact hcv0))
          have HF0 := Lib.hid hF0
          clear hF0
          go_wp2_with fail
          go_roundw
          case rel => exact ⟨k + 1, by omega, by go_num, hbT, zero_step HK.out HF0.out⟩
          case measure => simp [intOf]; omega
    · obtain rfl : n = k := by omega
      have hkn : ¬ ((n : Int) < (n : Int)) := by omega
      have HQ := Lib.hid (chkE_ok HL4.out (by rw [HLen.out]; exact HK.out))
      go_wp2_with fail
      go_ret
      exact ⟨ret_int HQ.out.symm, hbr⟩
end Cv
end Go.Proofs.Ytdnnnajohdohaaa
