/-
  Tariffs: small lists, plain tariffs; Tariffs: awake. No condition.
-/
import Derived.Test.YtdnnnajohdohaaaT9D
import Derived.BigQuiet
import Derived.StillTailTactics
import Derived.Lib.Overlaps
import Derived.Deep.DeepCutAuto
import Derived.Deep.RegionWith
import Derived.Laws.RangeAny
set_option maxRecDepth 100000
set_option linter.unusedVariables false
set_option linter.unusedSimpArgs false
namespace Go.Proofs.Ytdnnnajohdohaaa
open Go.RowKit

namespace Cv
open Xp Ck
structure SmL (n : Nat) (Ts : List Td) : Prop where
  n8 : n ≤ 8
  o : ∀ T ∈ Ts, Outer T
set_option maxHeartbeats 8000000 in
theorem smallL_any (A : Option Addr) (n c : Nat) (Ts : List Td) (w : World) (h : LT w A n c Ts) :
    Calls Try.prog 9 #[.slice A n c] w fun e w' => SmP e (SmL n Ts) ∧ Below w.heap.size w w' := by
  obtain ⟨_, ts, hs, ha⟩ := h
  have hn := hs.nmax
  have HS := Lib.hid hs
  have HA := Lib.hid ha
  have HLen := Lib.hid (show Ts.length = n by rw [← ha.1, hs.len])
  clear hs ha
  go_enter Try.func9, Try.ntmps9
  go_wp2_with fail
  go_loopw [3] (fun i wr => ∃ (k : Nat), k ≤ n ∧ i = .int .i64 k ∧ (∀ (j : Nat) (T : Td), j < k → Ts[j]? = some T → Outer T) ∧ Below w.heap.size w wr) (fun i _ => n - (intOf i).toNat)
  case atStart => exact ⟨0, Nat.zero_le _, rfl, fun j d hj => absurd hj (by omega), Below.refl _ _⟩
  case round =>
    obtain ⟨k, hk, rfl, ho, hbr⟩ := hrel
    have HOU := Lib.hid ho
    clear ho
    by_cases hlt : k < n
    · obtain ⟨b, off, rfl, hbl, hcells⟩ := HS.out.baseIn hbr (by omega)
      obtain ⟨t, hx⟩ := HS.out.get hlt
      obtain ⟨T, hT, hTD⟩ := HA.out.at_ hx
      (have e0 : wr.cell? ⟨b, off + k * 7, none⟩ = some (.string t.name) := Sl.at_ hcells hx 0 rfl; have e1 : wr.cell? ⟨b, off + k * 7 + 1, none⟩ = some (.int .i64 t.from_) := Sl.at_ hcells hx 1 rfl; have e2 : wr.cell? ⟨b, off + k * 7 + 2, none⟩ = some (.bool t.split) := Sl.at_ hcells hx 2 rfl; have e3 : wr.cell? ⟨b, off + k * 7 + 3, none⟩ = some (.slice t.Az t.nz t.cz) := Sl.at_ hcells hx 3 rfl; have e4 : wr.cell? ⟨b, off + k * 7 + 4, none⟩ = some (.slice t.Ab t.nb t.cb) := Sl.at_ hcells hx 4 rfl; have e5 : wr.cell? ⟨b, off + k * 7 + 5, none⟩ = some (.slice t.Ar t.nr t.cr) := Sl.at_ hcells hx 5 rfl; have e6 : wr.cell? ⟨b, off + k * 7 + 6, none⟩ = some (.slice t.Ad t.nd t.cd) := Sl.at_ hcells hx 6 rfl)
      have hcl := tsmall8 t T wr (hTD.on hbr)
      unfold Tv.val at hcl
      have HC := Lib.hid hcl
      have HT := Lib.hid hT
      have hbl2 : b < wr.heap.size := Nat.lt_of_lt_of_le hbl hbr.size
      clear hcells hx hT hTD hcl
      go_wp2_with fail
      refine HC.out.mono ?_
      rintro r w2 ⟨⟨m2, rfl, hm2⟩, hb2⟩
      have HM2 := Lib.hid hm2
      have f0 := (hb2.cell (p := ⟨_, _, none⟩) (by (try dsimp only) <;> omega)).trans e0
      have hbT := hbr.trans (hb2.mono hbr.size)
      clear hm2 e0 e1 e2 e3 e4 e5 e6
      cases m2
      · go_wp2_with fail
        go_ret
        exact ⟨SmP.no _, hbT⟩
      · by_cases h3 : (300 : Int) < (t.name.size : Int)
        · go_wp2_with fail
          go_ret
          exact ⟨SmP.no _, hbT⟩
        · have HO2 := Lib.hid (HM2.out (by simp))
          clear HM2
          go_wp2_with fail
          go_roundw
          case rel => exact ⟨k + 1, by omega, by go_num, fun j X hj hX => by
            rcases Nat.lt_or_ge j k with h1 | h1
            · exact HOU.out j X h1 hX
            · obtain rfl : j = k := by omega
              have h5 := HT.out
              rw [hX] at h5
              cases h5
              exact HO2.out, hbT⟩
          case measure => simp [intOf]; omega
    · obtain rfl : n = k := by omega
      have hkn : ¬ ((n : Int) < (n : Int)) := by omega
      by_cases h8 : n ≤ 8
      · have h8i : (n : Int) ≤ 8 := by omega
        have HQ : Hid (SmL n Ts) := Lib.hid ⟨h8, fun T hT => by obtain ⟨j, hj⟩ := List.getElem?_of_mem hT; exact HOU.out j T (by have := (List.getElem?_eq_some_iff.1 hj).1; have := HLen.out; omega) hj⟩
        go_wp2_with fail
        go_ret
        exact ⟨SmP.mk' _ HQ.out, hbr⟩
      · have h8i : ¬ (n : Int) ≤ 8 := by omega
        go_wp2_with fail
        go_ret
        exact ⟨SmP.no _, hbr⟩
def allN : ByteArray := ⟨#[97, 108, 108]⟩
def plainL (nm : ByteArray) (f : Int) (g : Nat) : List Value := [.string nm, .int .i64 f, .bool false, .slice none 0 0, .slice (some ⟨g, 0, none⟩) 1 1, .slice none 0 0, .slice none 0 0]
def plainT (nm : ByteArray) (f : Int) : Td := ⟨nm, f, false, [], [(allN, [])], [], []⟩
set_option maxHeartbeats 8000000 in
theorem plain_any (nm : ByteArray) (f : Int) (w : World) (hnm : nm.size ≤ maxLen) :
    Calls Try.prog 23 #[.string nm, .int .i64 f] w fun e w' => (∃ t : Tv, e = .returned t.val ∧ TD w' t (plainT nm f)) ∧ Below w.heap.size w w' := by
  go_enter Try.func23, Try.ntmps23
  go_upto_region 1 with (fail)
  (obtain ⟨W, hWW, hbW, hzW, f1W, qfa⟩ := box1 w #[.string ⟨#[]⟩, .int .i64 0, .bool false, .slice none 0 0, .slice none 0 0, .slice none 0 0, .slice none 0 0] 32; rw [← hWW]; have qa0 : W.cell? ⟨w.heap.size, 0, none⟩ = some (.string ⟨#[]⟩) := f1W 0 _ rfl; have qa1 : W.cell? ⟨w.heap.size, 1, none⟩ = some (.int .i64 0) := f1W 1 _ rfl; have qa2 : W.cell? ⟨w.heap.size, 2, none⟩ = some (.bool false) := f1W 2 _ rfl; have qa3 : W.cell? ⟨w.heap.size, 3, none⟩ = some (.slice none 0 0) := f1W 3 _ rfl; have qa4 : W.cell? ⟨w.heap.size, 4, none⟩ = some (.slice none 0 0) := f1W 4 _ rfl; have qa5 : W.cell? ⟨w.heap.size, 5, none⟩ = some (.slice none 0 0) := f1W 5 _ rfl; have qa6 : W.cell? ⟨w.heap.size, 6, none⟩ = some (.slice none 0 0) := f1W 6 _ rfl; clear hWW f1W)
  go_wp2_with fail
  have hold := cells7 qa0 qa1 qa2 qa3 qa4 qa5 qa6
  have hb2 := fun o => (Below.refl (setRun W w.heap.size 0 (plainL nm f W.heap.size)).heap.size (setRun W w.heap.size 0 (plainL nm f W.heap.size))).alloc (Nat.le_refl _) o
  refine bodyPost_ret (results_cells rfl _ _ w.heap.size ⟨plainL nm f W.heap.size⟩ _ rfl (fun j v hv => ((hb2 _).cell (p := ⟨_, _, none⟩) (by rw [setRun_size]; exact hzW)).trans (setRun_is (vs := plainL nm f W.heap.size) hold (Nat.le_refl _) j v hv)) rfl rfl rfl) rfl ?_
  refine ⟨⟨⟨nm, f, false, none, 0, 0, some ⟨W.heap.size, 0, none⟩, 1, 1, none, 0, 0, none, 0, 0⟩, rfl, ?_⟩, (setRun_below (plainL nm f W.heap.size) w.heap.size 0 hbW (Nat.le_refl _)).trans ((hb2 _).mono (by rw [setRun_size]; exact Nat.le_of_lt hzW))⟩
  refine ⟨rfl, hnm, rfl, rfl, ⟨fun _ => rfl, [], Sl.nil_ _, All2.nil_⟩, ⟨fun h => (by cases h), [⟨allN, none, 0, 0⟩], Sl.new _ _ _ _ (setRun_size (plainL nm f W.heap.size) W w.heap.size 0).symm _ 1 rfl (by decide) rfl, All2.nil_.snoc ⟨rfl, by decide, fun _ => rfl, Sl.nil_ _⟩⟩, ⟨fun _ => rfl, [], Sl.nil_ _, All2.nil_⟩, ⟨fun _ => rfl, [], Sl.nil_ _, All2.nil_⟩⟩
theorem plain_wide (nm : ByteArray) (f : Int) : Wide (plainT nm f) := ⟨Nat.zero_le _, (by intro d hd; cases hd), (by show 1 ≤ 70; decide), (by intro d hd; rw [show (plainT nm f).bs = [(allN, [])] from rfl, List.mem_singleton] at hd; subst hd; decide), Nat.zero_le _, (by intro d hd; cases hd), Nat.zero_le _, (by intro d hd; cases hd)⟩
/-! the values that awake asks for -/
def nBasic : ByteArray := ⟨#[98, 97, 115, 105, 99]⟩
def nPlus : ByteArray := ⟨#[112, 108, 117, 115]⟩
def nB : ByteArray := ⟨#[98]⟩
def nA : ByteArray := ⟨#[97]⟩
def bas (f : Int) : Td := plainT nBasic f
theorem ev1 : repD [bas 0] (bas 1000) = ([bas 0, bas 1000], 0) := by kernel_rfl
theorem ev2 : atD [bas 0, bas 1000] nBasic 999 = (bas 0, true) := by kernel_rfl
theorem ev3 : atD [bas 0, bas 1000] nBasic 1000 = (bas 1000, true) := by kernel_rfl
theorem ev4 : atD [bas 0, bas 1000] nPlus 5 = (zeroT, false) := by kernel_rfl
theorem ev5 : chgD [bas 0, bas 1000] nBasic 0 1000 = [0] := by kernel_rfl
theorem ev6 : chgD [bas 0, bas 1000] nBasic 0 1001 = [0, 1000] := by kernel_rfl
theorem ev7 : chkE [plainT nB 0, plainT nA 0] = 9 := by kernel_rfl
end Cv
namespace Cv
open Xp Ck
theorem laidT (w : World) (t : Tv) (e : TypeId) : ∃ W, W = w.alloc (.cells #[.string t.name, .int .i64 t.from_, .bool t.split, .slice t.Az t.nz t.cz, .slice t.Ab t.nb t.cb, .slice t.Ar t.nr t.cr, .slice t.Ad t.nd t.cd] e) ∧
    Below w.heap.size w W ∧ w.heap.size < W.heap.size ∧ W.cell? ⟨w.heap.size, 1, none⟩ = some (.int .i64 t.from_) := by
  obtain ⟨V, hV, hb, hz, hc, hf⟩ := box1 w #[.string t.name, .int .i64 t.from_, .bool t.split, .slice t.Az t.nz t.cz, .slice t.Ab t.nb t.cb, .slice t.Ar t.nr t.cr, .slice t.Ad t.nd t.cd] e
  exact ⟨V, hV, hb, hz, hc 1 _ rfl⟩
set_option maxHeartbeats 16000000 in
theorem awake_any (w : World) : Calls Try.prog 10 #[] w fun r w' => r = .returned (.bool true) ∧ Below w.heap.size w w' := by
  go_enter Try.func10, Try.ntmps10
  go_wp2_with fail
  have c1 := plain_any nBasic 0 w (by decide)
  (try unfold Tv.val at c1)
  refine c1.mono ?_
  clear c1
  rintro r w1 ⟨⟨t1, rfl, ht1⟩, hb1⟩
  have hz1 := hb1.size
  have hT := hb1
  clear hb1
  have T1 := Lib.hid ht1
  clear ht1
  go_wp2_with fail
  obtain ⟨W1, hW1⟩ : ∃ V, V = w1.alloc (.cells #[.string t1.name, .int .i64 t1.from_, .bool t1.split, .slice t1.Az t1.nz t1.cz, .slice t1.Ab t1.nb t1.cb, .slice t1.Ar t1.nr t1.cr, .slice t1.Ad t1.nd t1.cd] 32) := ⟨_, rfl⟩
  rw [← hW1]
  have hbW1 : Below w1.heap.size w1 W1 := by rw [hW1]; exact (Below.refl _ _).alloc (Nat.le_refl _) _
  have LW1 : Hid (LT W1 (some ⟨w1.heap.size, 0, none⟩) 1 1 [bas 0]) := Lib.hid (by rw [hW1]; exact ⟨fun h => (by cases h), [t1], Sl.new _ _ _ _ rfl _ 1 rfl (by decide) rfl, All2.nil_.snoc (T1.out.on ((Below.refl _ _).alloc (Nat.le_refl _) _))⟩)
  replace hT := hT.trans (hbW1.mono hT.size)
  clear hW1 hbW1 T1
  have c2 := plain_any nBasic 1000 W1 (by decide)
  (try unfold Tv.val at c2)
  refine c2.mono ?_
  clear c2
  rintro r w2 ⟨⟨t2, rfl, ht2⟩, hb2⟩
  replace LW1 := Lib.hid (LW1.out.on_ hb2)
  have hz2 := hb2.size
  replace hT := hT.trans (hb2.mono hT.size)
  clear hb2
  have T2 := Lib.hid ht2
  clear ht2
  go_wp2_with fail
  have c3 := replace_any _ 1 1 [bas 0] t2 (bas 1000) w2 LW1.out T2.out (fun X hX => by rw [List.mem_singleton] at hX; subst hX; exact plain_wide _ _) (plain_wide _ _) (by omega)
  (try unfold Tv.val at c3)
  refine c3.mono ?_
  clear c3
  rintro r w3 ⟨⟨A, n, c, rfl, ht3⟩, hb3⟩
  have hz3 := hb3.size
  replace hT := hT.trans (hb3.mono hT.size)
  clear hb3
  rw [ev1] at ht3 ⊢
  have LL := Lib.hid ht3
  have HN : n = 2 := ht3.len.symm
  subst HN
  clear ht3 LW1 T2
  have HWd : Hid (∀ T ∈ [bas 0, bas 1000], Wide T) := Lib.hid (fun T hT => by simp only [List.mem_cons, List.not_mem_nil, or_false] at hT; rcases hT with rfl | rfl <;> exact plain_wide _ _)
  dsimp only at LL ⊢
  go_wp2_with fail
  have c4 := at_any A 2 c [bas 0, bas 1000] nBasic 999 _ LL.out HWd.out
  (try unfold Tv.val at c4)
  refine c4.mono ?_
  clear c4
  rintro r w4 ⟨⟨v4, rfl, ht4⟩, hb4⟩
  replace LL := Lib.hid (LL.out.on_ hb4)
  have hz4 := hb4.size
  replace hT := hT.trans (hb4.mono hT.size)
  clear hb4
  rw [ev2] at ht4 ⊢
  have f4 := Lib.hid (show v4.from_ = 0 from ht4.from_)
  clear ht4
  dsimp only
  go_wp2_with fail
  obtain ⟨V4, hV, hb, hg, q4⟩ := laidT w4 v4 32
  rw [← hV]
  rw [f4.out] at q4
  replace LL := Lib.hid (LL.out.on_ hb)
  replace hT := hT.trans (hb.mono hT.size)
  clear hV hb f4
  have c5 := at_any A 2 c [bas 0, bas 1000] nBasic 1000 _ LL.out HWd.out
  (try unfold Tv.val at c5)
  refine c5.mono ?_
  clear c5
  rintro r w5 ⟨⟨v5, rfl, ht5⟩, hb5⟩
  replace LL := Lib.hid (LL.out.on_ hb5)
  replace q4 := (hb5.cell (p := ⟨_, _, none⟩) (by (try dsimp only) <;> omega)).trans q4
  have hz5 := hb5.size
  replace hT := hT.trans (hb5.mono hT.size)
  clear hb5
  rw [ev3] at ht5 ⊢
  have f5 := Lib.hid (show v5.from_ = 1000 from ht5.from_)
  clear ht5
  dsimp only
  go_wp2_with fail
  obtain ⟨V5, hV, hb, hg, q5⟩ := laidT w5 v5 32
  rw [← hV]
  rw [f5.out] at q5
  replace LL := Lib.hid (LL.out.on_ hb)
  replace q4 := (hb.cell (p := ⟨_, _, none⟩) (by (try dsimp only) <;> omega)).trans q4
  replace hT := hT.trans (hb.mono hT.size)
  clear hV hb f5
  have c6 := at_any A 2 c [bas 0, bas 1000] nPlus 5 _ LL.out HWd.out
  (try unfold Tv.val at c6)
  refine c6.mono ?_
  clear c6
  rintro r w6 ⟨⟨v6, rfl, ht6⟩, hb6⟩
  replace LL := Lib.hid (LL.out.on_ hb6)
  replace q4 := (hb6.cell (p := ⟨_, _, none⟩) (by (try dsimp only) <;> omega)).trans q4
  replace q5 := (hb6.cell (p := ⟨_, _, none⟩) (by (try dsimp only) <;> omega)).trans q5
  have hz6 := hb6.size
  replace hT := hT.trans (hb6.mono hT.size)
  clear hb6
  rw [ev4] at ht6 ⊢
  have f6 := Lib.hid (show v6.from_ = 0 from ht6.from_)
  clear ht6
  dsimp only
  go_upto_region 5 with (fail)
  obtain ⟨V6, hV, hb, hg, q6⟩ := laidT w6 v6 32
  rw [← hV]
  rw [f6.out] at q6
  replace LL := Lib.hid (LL.out.on_ hb)
  replace q4 := (hb.cell (p := ⟨_, _, none⟩) (by (try dsimp only) <;> omega)).trans q4
  replace q5 := (hb.cell (p := ⟨_, _, none⟩) (by (try dsimp only) <;> omega)).trans q5
  replace hT := hT.trans (hb.mono hT.size)
  clear hV hb f6
  go_wp2_with fail
  have c7 := changes_any A 2 c [bas 0, bas 1000] nBasic 0 1000 _ LL.out (by omega)
  (try unfold Tv.val at c7)
  refine c7.mono ?_
  clear c7
  rintro r w7 ⟨⟨A7, n7, c7, rfl, hs7⟩, hb7⟩
  replace LL := Lib.hid (LL.out.on_ hb7)
  have hz7 := hb7.size
  replace hT := hT.trans (hb7.mono hT.size)
  clear hb7
  rw [ev5] at hs7
  have HN : n7 = 1 := hs7.len.symm
  subst HN
  clear hs7
  go_wp2_with fail
  have c8 := changes_any A 2 c [bas 0, bas 1000] nBasic 0 1001 _ LL.out (by omega)
  (try unfold Tv.val at c8)
  refine c8.mono ?_
  clear c8
  rintro r w8 ⟨⟨A8, n8, c8, rfl, hs8⟩, hb8⟩
  replace LL := Lib.hid (LL.out.on_ hb8)
  have hz8 := hb8.size
  replace hT := hT.trans (hb8.mono hT.size)
  clear hb8
  rw [ev6] at hs8
  have HN : n8 = 2 := hs8.len.symm
  subst HN
  clear hs8 LL
  go_wp2_with fail
  have c9 := plain_any nB 0 w8 (by decide)
  (try unfold Tv.val at c9)
  refine c9.mono ?_
  clear c9
  rintro r w9 ⟨⟨t9, rfl, ht9⟩, hb9⟩
  have hz9 := hb9.size
  replace hT := hT.trans (hb9.mono hT.size)
  clear hb9
  have T9 := Lib.hid ht9
  clear ht9
  go_wp2_with fail
  have c10 := plain_any nA 0 w9 (by decide)
  (try unfold Tv.val at c10)
  refine c10.mono ?_
  clear c10
  rintro r w10 ⟨⟨t10, rfl, ht10⟩, hb10⟩
  replace T9 := Lib.hid (T9.out.on hb10)
  have hz10 := hb10.size
  replace hT := hT.trans (hb10.mono hT.size)
  clear hb10
  have T10 := Lib.hid ht10
  clear ht10
  go_wp2_with fail
  obtain ⟨W2, hW2⟩ : ∃ V, V = w10.alloc (.cells #[.string t9.name, .int .i64 t9.from_, .bool t9.split, .slice t9.Az t9.nz t9.cz, .slice t9.Ab t9.nb t9.cb, .slice t9.Ar t9.nr t9.cr, .slice t9.Ad t9.nd t9.cd, .string t10.name, .int .i64 t10.from_, .bool t10.split, .slice t10.Az t10.nz t10.cz, .slice t10.Ab t10.nb t10.cb, .slice t10.Ar t10.nr t10.cr, .slice t10.Ad t10.nd t10.cd] 32) := ⟨_, rfl⟩
  rw [← hW2]
  have hbW : Below w10.heap.size w10 W2 := by rw [hW2]; exact (Below.refl _ _).alloc (Nat.le_refl _) _
  have L2 : Hid (LT W2 (some ⟨w10.heap.size, 0, none⟩) 2 2 [plainT nB 0, plainT nA 0]) := Lib.hid (by rw [hW2]; exact ⟨fun h => (by cases h), [t9, t10], Sl.new _ _ _ _ rfl _ 2 rfl (by decide) rfl, (All2.nil_.snoc (T9.out.on ((Below.refl _ _).alloc (Nat.le_refl _) _))).snoc (T10.out.on ((Below.refl _ _).alloc (Nat.le_refl _) _))⟩)
  replace hT := hT.trans (hbW.mono hT.size)
  clear hW2 hbW T9 T10
  have c11 := check_any _ 2 2 [plainT nB 0, plainT nA 0] W2 L2.out
  (try unfold Tv.val at c11)
  refine c11.mono ?_
  clear c11
  rintro r w11 ⟨rfl, hb11⟩
  have hz11 := hb11.size
  replace hT := hT.trans (hb11.mono hT.size)
  clear hb11
  rw [ev7]
  go_wp2_with fail
  go_ret
  exact ⟨rfl, hT⟩
end Cv
end Go.Proofs.Ytdnnnajohdohaaa
