/-
  Tariffs: where a version goes; Tariffs: Replace. No condition.
-/
import Derived.Test.YtdnnnajohdohaaaT8P
import Derived.BigQuiet
import Derived.StillTailTactics
import Derived.Lib.Overlaps
import Derived.Deep.DeepCutAuto
import Derived.Deep.RegionWith
import Derived.Laws.RangeAny
set_option maxRecDepth 100000
set_option linter.unusedVariables false
set_option linter.unusedSimpArgs false
namespace Go.Proofs.Ytdnnnajohdohaaa
open Go.RowKit

namespace Cv
open Xp Ck
/-- the place of a version -/
def plc : List Td → Td → Nat
  | [], _ => 0
  | x :: l, T => if cmpT x T < 0 then plc l T + 1 else 0
theorem plc_le : ∀ (l : List Td) (T : Td), plc l T ≤ l.length
  | [], _ => Nat.le_refl _
  | x :: l, T => by unfold plc; split <;> simp [plc_le l T]
theorem plc_at : ∀ (l : List Td) (T : Td) (k : Nat) (x : Td), (∀ j y, j < k → l[j]? = some y → cmpT y T < 0) → l[k]? = some x → ¬ cmpT x T < 0 → plc l T = k
  | [], _, _, _, _, h, _ => by simp at h
  | y :: l, T, 0, x, _, h, hx => by
    simp at h
    subst h
    unfold plc
    rw [if_neg hx]
  | y :: l, T, k + 1, x, hj, h, hx => by
    unfold plc
    rw [if_pos (hj 0 y (by omega) rfl), plc_at l T k x (fun j z hjk hz => hj (j + 1) z (by omega) (by simpa using hz)) (by simpa using h) hx]
theorem plc_end : ∀ (l : List Td) (T : Td), (∀ j y, j < l.length → l[j]? = some y → cmpT y T < 0) → plc l T = l.length
  | [], _, _ => rfl
  | y :: l, T, hj => by
    unfold plc
    rw [if_pos (hj 0 y (by simp) rfl), plc_end l T fun j z hjk hz => hj (j + 1) z (by simp; omega) (by simpa using hz)]
    rfl
def sameB (l : List Td) (T : Td) : Bool := match l[plc l T]? with
  | none => false
  | some x => decide (cmpT x T = 0)
def repL (l : List Td) (T : Td) : List Td := l.take (plc l T) ++ [T] ++ l.drop (if sameB l T = true then plc l T + 1 else plc l T)
def repD (l : List Td) (T : Td) : List Td × Int := if chkE l ≠ 0 then ([], chkE l) else if tarD T ≠ 0 then ([], tarD T) else (repL l T, 0)
theorem lt_step {l : List Td} {T x : Td} {k : Nat} (h : ∀ j y, j < k → l[j]? = some y → cmpT y T < 0) (hx : l[k]? = some x) (hc : cmpT x T < 0) : ∀ j y, j < k + 1 → l[j]? = some y → cmpT y T < 0 := fun j y hj hy => by
  rcases Nat.lt_or_ge j k with h1 | h1
  · exact h j y h1 hy
  · have : j = k := by omega
    subst this
    rw [hx] at hy
    injection hy with hy
    subst hy
    exact hc
set_option maxHeartbeats 16000000 in
theorem place_any (A : Option Addr) (n c : Nat) (Ts : List Td) (t : Tv) (T : Td) (g1 g2 : Nat) (w : World) (h : LT w A n c Ts) (ht : TD w t T) (hg1 : g1 < w.heap.size) (hg2 : g2 < w.heap.size)
    (c0 : w.cell? ⟨g1, 0, none⟩ = some (.slice A n c)) (hc : ∀ j u, (Flat.cells t)[j]? = some u → w.cell? ⟨g2, 0 + j, none⟩ = some u) :
    Calls Try.prog 33 #[.pointer (some ⟨g1, 0, none⟩), .pointer (some ⟨g2, 0, none⟩)] w fun e w' => e = .returned (.tuple #[.int .i64 (plc Ts T), .bool (sameB Ts T)]) ∧ Below w.heap.size w w' := by
  obtain ⟨_, ts, hs, ha⟩ := h
  have hn := hs.nmax
  have HS := Lib.hid hs
  have HA := Lib.hid ha
  have HTD := Lib.hid ht
  have HLen := Lib.hid (show Ts.length = n by rw [← ha.1, hs.len])
  have k0 := hc 0 _ rfl
  have k1 := hc 1 _ rfl
  have k2 := hc 2 _ rfl
  have k3 := hc 3 _ rfl
  have k4 := hc 4 _ rfl
  have k5 := hc 5 _ rfl
  have k6 := hc 6 _ rfl
  rw [Nat.zero_add] at k0 k1 k2 k3 k4 k5 k6
  clear hs ha ht hc
  go_enter Try.func33, Try.ntmps33
  go_wp2_with fail
  go_loopw [9] (fun i wr => ∃ k : Nat, k ≤ n ∧ i = .int .i64 k ∧ Below w.heap.size w wr ∧ ∀ j y, j < k → Ts[j]? = some y → cmpT y T < 0) (fun i _ => n - (intOf i).toNat)
  case atStart => exact ⟨0, Nat.zero_le _, rfl, Below.refl _ _, fun j y hj => absurd hj (by omega)⟩
  case round =>
    obtain ⟨k, hk, rfl, hbr, hall⟩ := hrel
    have HK := Lib.hid hall
    clear hall
    have hzr := hbr.size
    (have rc0 := (hbr.cell (p := ⟨_, _, none⟩) (by (try dsimp only) <;> omega)).trans c0; have rk0 := (hbr.cell (p := ⟨_, _, none⟩) (by (try dsimp only) <;> omega)).trans k0; have rk1 := (hbr.cell (p := ⟨_, _, none⟩) (by (try dsimp only) <;> omega)).trans k1; have rk2 := (hbr.cell (p := ⟨_, _, none⟩) (by (try dsimp only) <;> omega)).trans k2; have rk3 := (hbr.cell (p := ⟨_, _, none⟩) (by (try dsimp only) <;> omega)).trans k3; have rk4 := (hbr.cell (p := ⟨_, _, none⟩) (by (try dsimp only) <;> omega)).trans k4; have rk5 := (hbr.cell (p := ⟨_, _, none⟩) (by (try dsimp only) <;> omega)).trans k5; have rk6 := (hbr.cell (p := ⟨_, _, none⟩) (by (try dsimp only) <;> omega)).trans k6)
    by_cases hlt : k < n
    · obtain ⟨b, off, rfl, hbl, hcells⟩ := HS.out.baseIn hbr (by omega)
      obtain ⟨x, hx⟩ := HS.out.get hlt
      obtain ⟨X, hX, hXD⟩ := HA.out.at_ hx
      (have e0 : wr.cell? ⟨b, off + k * 7, none⟩ = some (.string x.name) := Sl.at_ hcells hx 0 rfl; have e1 : wr.cell? ⟨b, off + k * 7 + 1, none⟩ = some (.int .i64 x.from_) := Sl.at_ hcells hx 1 rfl; have e2 : wr.cell? ⟨b, off + k * 7 + 2, none⟩ = some (.bool x.split) := Sl.at_ hcells hx 2 rfl; have e3 : wr.cell? ⟨b, off + k * 7 + 3, none⟩ = some (.slice x.Az x.nz x.cz) := Sl.at_ hcells hx 3 rfl; have e4 : wr.cell? ⟨b, off + k * 7 + 4, none⟩ = some (.slice x.Ab x.nb x.cb) := Sl.at_ hcells hx 4 rfl; have e5 : wr.cell? ⟨b, off + k * 7 + 5, none⟩ = some (.slice x.Ar x.nr x.cr) := Sl.at_ hcells hx 5 rfl; have e6 : wr.cell? ⟨b, off + k * 7 + 6, none⟩ = some (.slice x.Ad x.nd x.cd) := Sl.at_ hcells hx 6 rfl)
      have HX := Lib.hid hX
      have HXD := Lib.hid hXD
      clear hcells hx hX hXD
      go_upto_region 4 with (fail)
      (obtain ⟨V, hWV, hbV, hzV, f1V, mfa⟩ := box1 wr #[.string x.name, .int .i64 x.from_, .bool x.split, .slice x.Az x.nz x.cz, .slice x.Ab x.nb x.cb, .slice x.Ar x.nr x.cr, .slice x.Ad x.nd x.cd] 32; rw [← hWV]; have ma0 : V.cell? ⟨wr.heap.size, 0, none⟩ = some (.string x.name) := f1V 0 _ rfl; have ma1 : V.cell? ⟨wr.heap.size, 1, none⟩ = some (.int .i64 x.from_) := f1V 1 _ rfl; have ma2 : V.cell? ⟨wr.heap.size, 2, none⟩ = some (.bool x.split) := f1V 2 _ rfl; have ma3 : V.cell? ⟨wr.heap.size, 3, none⟩ = some (.slice x.Az x.nz x.cz) := f1V 3 _ rfl; have ma4 : V.cell? ⟨wr.heap.size, 4, none⟩ = some (.slice x.Ab x.nb x.cb) := f1V 4 _ rfl; have ma5 : V.cell? ⟨wr.heap.size, 5, none⟩ = some (.slice x.Ar x.nr x.cr) := f1V 5 _ rfl; have ma6 : V.cell? ⟨wr.heap.size, 6, none⟩ = some (.slice x.Ad x.nd x.cd) := f1V 6 _ rfl; clear hWV f1V)
      (have vrk0 := (hbV.cell (p := ⟨_, _, none⟩) (by (try dsimp only) <;> omega)).trans rk0; have vrk1 := (hbV.cell (p := ⟨_, _, none⟩) (by (try dsimp only) <;> omega)).trans rk1; have vrk2 := (hbV.cell (p := ⟨_, _, none⟩) (by (try dsimp only) <;> omega)).trans rk2; have vrk3 := (hbV.cell (p := ⟨_, _, none⟩) (by (try dsimp only) <;> omega)).trans rk3; have vrk4 := (hbV.cell (p := ⟨_, _, none⟩) (by (try dsimp only) <;> omega)).trans rk4; have vrk5 := (hbV.cell (p := ⟨_, _, none⟩) (by (try dsimp only) <;> omega)).trans rk5; have vrk6 := (hbV.cell (p := ⟨_, _, none⟩) (by (try dsimp only) <;> omega)).trans rk6)
      have hbV2 := hbr.trans (hbV.mono hbr.size)
      obtain ⟨cv, hcv⟩ : ∃ cv, cmpT X T = cv := ⟨_, rfl⟩
      have hcl := compare_any (HXD.out.on hbV2) (HTD.out.on hbV2)
      rw [hcv] at hcl
      unfold Tv.val at hcl
      have HC := Lib.hid hcl
      have HCV := Lib.hid hcv
      clear hcl hcv e0 e1 e2 e3 e4 e5 e6 mfa
      go_wp2_with fail
      refine HC.out.mono ?_
      rintro r w2 ⟨rfl, hb2⟩
      have hbT := hbV2.trans (hb2.mono hbV2.size)
      by_cases hcv0 : 0 ≤ cv
      · have hp : plc Ts T = k := plc_at Ts T k X HK.out HX.out (by rw [HCV.out]; omega)
        have hsm : sameB Ts T = decide (cv = 0) := by unfold sameB; rw [hp, HX.out]; simp only; rw [HCV.out]
        have HP := Lib.hid hp
        have HSM := Lib.hid hsm
        clear hp hsm
        go_wp2_with fail
        go_ret2
        refine ⟨?_, hbT⟩
        rw [HP.out, HSM.out]
        first | rfl | (simp; done) | (congr 1; simp)
      · have hlt0 : cv < 0 := by omega
        have HS1 := Lib.hid (lt_step HK.out HX.out (by rw [HCV.out]; exact hlt0))
        clear hlt0
        go_wp2_with fail
        go_roundw
        case rel => exact ⟨k + 1, by omega, by go_num, hbT, HS1.out⟩
        case measure => simp [intOf]; omega
    · obtain rfl : n = k := by omega
      have hkn : ¬ ((n : Int) < (n : Int)) := by omega
      have hp : plc Ts T = n := (plc_end Ts T (by rw [HLen.out]; exact HK.out)).trans HLen.out
      have hsm : sameB Ts T = false := by unfold sameB; rw [hp, List.getElem?_eq_none (by have := HLen.out; omega)]
      have HP := Lib.hid hp
      have HSM := Lib.hid hsm
      clear hp hsm
      go_wp2_with fail
      go_ret2
      exact ⟨by rw [HP.out, HSM.out]; rfl, hbr⟩
end Cv
namespace Cv
open Xp Ck
theorem info_tar : (Try.prog.info? 32).map (fun i => (i.zero, i.size, i.bytes)) = some (some (.agg #[.string ⟨#[]⟩, .int .i64 0, .bool false, .slice none 0 0, .slice none 0 0, .slice none 0 0, .slice none 0 0]), 7, 128) := by kernel_rfl
theorem repD_chk {l : List Td} {T : Td} {e : Int} (h : chkE l = e) (he : e ≠ 0) : repD l T = ([], e) := by rw [repD, if_pos (by rw [h]; exact he), h]
theorem repD_tar {l : List Td} {T : Td} {e : Int} (h : chkE l = 0) (ht : tarD T = e) (he : e ≠ 0) : repD l T = ([], e) := by rw [repD, if_neg (by rw [h]; simp), if_pos (by rw [ht]; exact he), ht]
theorem repD_ok {l : List Td} {T : Td} (h : chkE l = 0) (ht : tarD T = 0) : repD l T = (repL l T, 0) := by rw [repD, if_neg (by rw [h]; simp), if_neg (by rw [ht]; simp)]
theorem lt_nil (w : World) : LT w none 0 0 [] := ⟨fun _ => rfl, [], Sl.nil_ _, All2.nil_⟩
theorem same_lt {l : List Td} {T : Td} (h : sameB l T = true) : plc l T + 1 ≤ l.length := by
  unfold sameB at h
  cases hx : l[plc l T]? with
  | none => rw [hx] at h; cases h
  | some x => exact (List.getElem?_eq_some_iff.1 hx).1
set_option maxHeartbeats 16000000 in
theorem replace_any (A : Option Addr) (n c : Nat) (Ts : List Td) (t : Tv) (T : Td) (w : World) (h : LT w A n c Ts) (ht : TD w t T) (hW : ∀ X ∈ Ts, Wide X) (hWT : Wide T) (hn9 : n ≤ 1000) :
    Calls Try.prog 19 #[.slice A n c, t.val] w fun e w' => (∃ A' n' c', e = .returned (.tuple #[.slice A' n' c', .int .i64 (repD Ts T).2]) ∧ LT w' A' n' c' (repD Ts T).1) ∧ Below w.heap.size w w' := by
  have HLT := Lib.hid h
  obtain ⟨_, ts, hs, ha⟩ := h
  have HS := Lib.hid hs
  have HA := Lib.hid ha
  have HTD := Lib.hid ht
  have HW := Lib.hid hW
  have HWT := Lib.hid hWT
  have HLen := Lib.hid (show Ts.length = n by rw [← ha.1, hs.len])
  clear hs ha ht hW hWT
  unfold Tv.val
  go_enter Try.func19, Try.ntmps19
  go_upto_region 1 with (fail)
  (obtain ⟨W, hWW, hbW, hzW, f1W, f2W, qfa, qfb⟩ := box2 w #[.slice A n c] 22 #[.string t.name, .int .i64 t.from_, .bool t.split, .slice t.Az t.nz t.cz, .slice t.Ab t.nb t.cb, .slice t.Ar t.nr t.cr, .slice t.Ad t.nd t.cd] 32; rw [← hWW]; have qa0 : W.cell? ⟨w.heap.size, 0, none⟩ = some (.slice A n c) := f1W 0 _ rfl; have qb0 : W.cell? ⟨w.heap.size + 1, 0, none⟩ = some (.string t.name) := f2W 0 _ rfl; have qb1 : W.cell? ⟨w.heap.size + 1, 1, none⟩ = some (.int .i64 t.from_) := f2W 1 _ rfl; have qb2 : W.cell? ⟨w.heap.size + 1, 2, none⟩ = some (.bool t.split) := f2W 2 _ rfl; have qb3 : W.cell? ⟨w.heap.size + 1, 3, none⟩ = some (.slice t.Az t.nz t.cz) := f2W 3 _ rfl; have qb4 : W.cell? ⟨w.heap.size + 1, 4, none⟩ = some (.slice t.Ab t.nb t.cb) := f2W 4 _ rfl; have qb5 : W.cell? ⟨w.heap.size + 1, 5, none⟩ = some (.slice t.Ar t.nr t.cr) := f2W 5 _ rfl; have qb6 : W.cell? ⟨w.heap.size + 1, 6, none⟩ = some (.slice t.Ad t.nd t.cd) := f2W 6 _ rfl; clear hWW f1W f2W)
  have HC1 := Lib.hid (check_any A n c Ts W (HLT.out.on_ hbW))
  go_wp2_with fail
  refine HC1.out.mono ?_
  rintro r w1 ⟨rfl, hb1⟩
  have hbT1 := hbW.trans (hb1.mono hbW.size)
  obtain ⟨y, hy⟩ : ∃ y, chkE Ts = y := ⟨_, rfl⟩
  rw [hy]
  have HY1 := Lib.hid hy
  clear hy HC1
  by_cases hy0 : y = 0
  case neg =>
    have q5 : (y != 0) = true := by simpa using hy0
    have HQ := Lib.hid (repD_chk (T := T) HY1.out hy0)
    clear hy0
    go_wp2_with fail
    go_ret2
    rw [HQ.out]
    exact ⟨⟨none, 0, 0, rfl, lt_nil _⟩, hbT1⟩
  subst hy0
  have hz1 := hb1.size
  (have rqa0 := (hb1.cell (p := ⟨_, _, none⟩) (by (try dsimp only) <;> omega)).trans qa0; have rqb0 := (hb1.cell (p := ⟨_, _, none⟩) (by (try dsimp only) <;> omega)).trans qb0; have rqb1 := (hb1.cell (p := ⟨_, _, none⟩) (by (try dsimp only) <;> omega)).trans qb1; have rqb2 := (hb1.cell (p := ⟨_, _, none⟩) (by (try dsimp only) <;> omega)).trans qb2; have rqb3 := (hb1.cell (p := ⟨_, _, none⟩) (by (try dsimp only) <;> omega)).trans qb3; have rqb4 := (hb1.cell (p := ⟨_, _, none⟩) (by (try dsimp only) <;> omega)).trans qb4; have rqb5 := (hb1.cell (p := ⟨_, _, none⟩) (by (try dsimp only) <;> omega)).trans qb5; have rqb6 := (hb1.cell (p := ⟨_, _, none⟩) (by (try dsimp only) <;> omega)).trans qb6)
  have hcl := tariff_D (HTD.out.on hbT1)
  unfold Tv.val at hcl
  have HC2 := Lib.hid hcl
  clear hcl
  go_wp2_with fail
  refine HC2.out.mono ?_
  rintro r w2 ⟨rfl, hb2⟩
  have hbT2 := hbT1.trans (hb2.mono hbT1.size)
  obtain ⟨y, hy⟩ : ∃ y, tarD T = y := ⟨_, rfl⟩
  rw [hy]
  have HY2 := Lib.hid hy
  clear hy HC2
  by_cases hy0 : y = 0
  case neg =>
    have q5 : (y != 0) = true := by simpa using hy0
    have HQ := Lib.hid (repD_tar HY1.out HY2.out hy0)
    clear hy0
    go_wp2_with fail
    go_ret2
    rw [HQ.out]
    exact ⟨⟨none, 0, 0, rfl, lt_nil _⟩, hbT2⟩
  subst hy0
  have HQ := Lib.hid (repD_ok HY1.out HY2.out)
  have hz2 := hb2.size
  (have srqa0 := (hb2.cell (p := ⟨_, _, none⟩) (by (try dsimp only) <;> omega)).trans rqa0; have srqb0 := (hb2.cell (p := ⟨_, _, none⟩) (by (try dsimp only) <;> omega)).trans rqb0; have srqb1 := (hb2.cell (p := ⟨_, _, none⟩) (by (try dsimp only) <;> omega)).trans rqb1; have srqb2 := (hb2.cell (p := ⟨_, _, none⟩) (by (try dsimp only) <;> omega)).trans rqb2; have srqb3 := (hb2.cell (p := ⟨_, _, none⟩) (by (try dsimp only) <;> omega)).trans rqb3; have srqb4 := (hb2.cell (p := ⟨_, _, none⟩) (by (try dsimp only) <;> omega)).trans rqb4; have srqb5 := (hb2.cell (p := ⟨_, _, none⟩) (by (try dsimp only) <;> omega)).trans rqb5; have srqb6 := (hb2.cell (p := ⟨_, _, none⟩) (by (try dsimp only) <;> omega)).trans rqb6)
  have HPL := Lib.hid (place_any A n c Ts t T w.heap.size (w.heap.size + 1) w2 (HLT.out.on_ hbT2) (HTD.out.on hbT2) (by omega) (by omega) srqa0 (cells7 srqb0 srqb1 srqb2 srqb3 srqb4 srqb5 srqb6))
  obtain ⟨p, hp⟩ : ∃ p, plc Ts T = p := ⟨_, rfl⟩
  obtain ⟨sm, hsm⟩ : ∃ sm, sameB Ts T = sm := ⟨_, rfl⟩
  rw [hp, hsm] at HPL
  have HP := Lib.hid hp
  have HSM := Lib.hid hsm
  have hpn : p ≤ n := by rw [← hp, ← HLen.out]; exact plc_le Ts T
  clear hp hsm
  go_wp2_with fail
  refine HPL.out.mono ?_
  rintro r w3 ⟨rfl, hb3⟩
  have hbT3 := hbT2.trans (hb3.mono hbT2.size)
  have hz3 := hb3.size
  have hb13 := hb1.trans ((hb2.trans (hb3.mono hb2.size)).mono hb1.size)
  clear HPL rqa0 rqb0 rqb1 rqb2 rqb3 rqb4 rqb5 rqb6 srqa0 srqb0 srqb1 srqb2 srqb3 srqb4 srqb5 srqb6 hb1 hb2 hb3 hbT1 hbT2
  have hslT : ∀ W, (Instr.slice 22 (.slice A n c) none (some (.int .i64 (p : Int))) none).run Try.prog W = .ok (.slice A p c) W := fun W => run_slice_to (sz := 7) (by kernel_rfl) (by kernel_rfl) (by have := HS.out.le; omega) W
  have HST := Lib.hid (Sl.takeK HS.out hpn)
  have HAT := Lib.hid (HA.out.take_ p)
  have hn4 : (n : Int) < 4096 := by omega
  obtain ⟨rr, hrr⟩ : ∃ rr, (if sm = true then p + 1 else p) = rr := ⟨_, rfl⟩
  have hrn : rr ≤ n := by
    rw [← hrr]
    split
    · have h1 := same_lt (l := Ts) (T := T) (by rw [HSM.out]; assumption)
      rw [HP.out, HLen.out] at h1
      exact h1
    · exact hpn
  have HRR := Lib.hid hrr
  have hslF : ∀ W, (Instr.slice 22 (.slice A n c) (some (.int .i64 (rr : Int))) none none).run Try.prog W = .ok (.slice (if c = rr then A else A.map (·.add (rr * 7))) (n - rr) (c - rr)) W := fun W => run_slice_from (sz := 7) (by kernel_rfl) (by kernel_rfl) hrn W
  have hsF := Sl.dropG HS.out hrn
  obtain ⟨AF, hAF⟩ : ∃ AF, (if c = rr then A else A.map (·.add (rr * 7))) = AF := ⟨_, rfl⟩
  have hAF' : (if c = rr then A else A.map (·.add (rr * Flat.sz Tv))) = AF := hAF
  rw [hAF] at hslF
  rw [hAF'] at hsF
  have HSF := Lib.hid hsF
  have HAFF := Lib.hid (HA.out.drop_ rr)
  have hi7 : rr = p ∨ rr = p + 1 := by rw [← hrr]; cases sm <;> simp
  have HRES := Lib.hid (show repL Ts T = Ts.take p ++ [T] ++ Ts.drop rr by rw [repL, HP.out, HSM.out, HRR.out])
  clear hrr hAF hAF' hsF
  obtain ⟨nf, hnf⟩ : ∃ nf, n - rr = nf := ⟨_, rfl⟩
  obtain ⟨cf, hcf⟩ : ∃ cf, c - rr = cf := ⟨_, rfl⟩
  rw [hnf, hcf] at hslF HSF
  have hnfl : nf ≤ 1000 := by omega
  clear hnf hcf
  (have uqa0 := (hb13.cell (p := ⟨_, _, none⟩) (by (try dsimp only) <;> omega)).trans qa0)
  cases sm
  case false =>
    obtain rfl : p = rr := by simpa using HRR.out
    clear HRR hi7
    go_wp2_with fail
    go_loopw [12, 46] (fun s i wr => ∃ (k : Nat) (xs : List Tv), k ≤ p ∧ i = .int .i64 k ∧ Ow wr W.heap.size 32 s xs ∧ Rowed TDP W.heap.size wr s xs ((Ts.take p).take k) ∧ xs.length ≤ 0 + k ∧ Below W.heap.size W wr) (fun _ i _ => p - (intOf i).toNat)
    case atStart => exact ⟨0, [], Nat.zero_le _, rfl, Ow.nil_ _ _ _, Rowed.nil_, by simp, hb13⟩
    case round =>
      obtain ⟨k, xs, hk, rfl, how, hrow, hxl, hbr⟩ := hrel
      have HO := Lib.hid how
      have HY := Lib.hid hrow
      clear how hrow
      have hzr := hbr.size
      have hbA := hbW.trans (hbr.mono hbW.size)
      by_cases hlt : k < p
      · obtain ⟨b, off, hAe, hbl, hcells⟩ := HST.out.baseIn hbA (by omega)
        obtain ⟨x, hx⟩ := HST.out.get hlt
        obtain ⟨X, hX, hXD⟩ := HAT.out.at_ hx
        subst hAe
        (have e0 : wr.cell? ⟨b, off + k * 7, none⟩ = some (.string x.name) := Sl.at_ hcells hx 0 rfl; have e1 : wr.cell? ⟨b, off + k * 7 + 1, none⟩ = some (.int .i64 x.from_) := Sl.at_ hcells hx 1 rfl; have e2 : wr.cell? ⟨b, off + k * 7 + 2, none⟩ = some (.bool x.split) := Sl.at_ hcells hx 2 rfl; have e3 : wr.cell? ⟨b, off + k * 7 + 3, none⟩ = some (.slice x.Az x.nz x.cz) := Sl.at_ hcells hx 3 rfl; have e4 : wr.cell? ⟨b, off + k * 7 + 4, none⟩ = some (.slice x.Ab x.nb x.cb) := Sl.at_ hcells hx 4 rfl; have e5 : wr.cell? ⟨b, off + k * 7 + 5, none⟩ = some (.slice x.Ar x.nr x.cr) := Sl.at_ hcells hx 5 rfl; have e6 : wr.cell? ⟨b, off + k * 7 + 6, none⟩ = some (.slice x.Ad x.nd x.cd) := Sl.at_ hcells hx 6 rfl)
        have HX := Lib.hid hX
        have HXD := Lib.hid hXD
        have HXW := Lib.hid ((fun X hX => HW.out X (List.mem_of_mem_take hX)) X (List.mem_of_getElem? hX))
        clear hcells hx hX hXD
        go_upto_region 18 with (fail)
        (obtain ⟨V, hWV, hbV, hzV, f1V, mfa⟩ := box1 wr #[.string x.name, .int .i64 x.from_, .bool x.split, .slice x.Az x.nz x.cz, .slice x.Ab x.nb x.cb, .slice x.Ar x.nr x.cr, .slice x.Ad x.nd x.cd] 32; rw [← hWV]; have ma0 : V.cell? ⟨wr.heap.size, 0, none⟩ = some (.string x.name) := f1V 0 _ rfl; have ma1 : V.cell? ⟨wr.heap.size, 1, none⟩ = some (.int .i64 x.from_) := f1V 1 _ rfl; have ma2 : V.cell? ⟨wr.heap.size, 2, none⟩ = some (.bool x.split) := f1V 2 _ rfl; have ma3 : V.cell? ⟨wr.heap.size, 3, none⟩ = some (.slice x.Az x.nz x.cz) := f1V 3 _ rfl; have ma4 : V.cell? ⟨wr.heap.size, 4, none⟩ = some (.slice x.Ab x.nb x.cb) := f1V 4 _ rfl; have ma5 : V.cell? ⟨wr.heap.size, 5, none⟩ = some (.slice x.Ar x.nr x.cr) := f1V 5 _ rfl; have ma6 : V.cell? ⟨wr.heap.size, 6, none⟩ = some (.slice x.Ad x.nd x.cd) := f1V 6 _ rfl; clear hWV f1V)
        have hbV2 := hbr.trans (hbV.mono hbr.size)
        have hcl := clone_any x X V (HXD.out.on (hbA.trans (hbV.mono hbA.size))) HXW.out
        unfold Tv.val at hcl
        have HC := Lib.hid hcl
        have HVL := Lib.hid HO.out.lt
        have HOV0 := Lib.hid (HO.out.below hbV)
        have HYV := Lib.hid (HY.out.below famT hbV)
        have hzV2 := hbV.size
        clear e0 e1 e2 e3 e4 e5 e6 mfa HO HY hcl hbV
        go_wp2_with fail
        refine HC.out.mono ?_
        rintro r w2 ⟨⟨t2, rfl, ht2⟩, hb2⟩
        have HSN := Lib.hid (Rowed.snoc famT (HYV.out.below famT hb2) (B := V.heap.size) (by omega) (fun g hg => by have := (HVL.out g hg).2; omega) ht2)
        have HOV := Lib.hid (HOV0.out.below hb2)
        have hbR2 := hbV2.trans (hb2.mono hbV2.size)
        have hg2 : W.heap.size ≤ w2.heap.size := by have := hb2.size; omega
        clear ht2 hb2 hbV2
        go_wp2_with (at_builtin; go_must (
          refine wpl_append1 _ rfl (.tmp 50) (.tmp 53) 22 rfl W.heap.size 32 _ 128 Try.underlying22 info_tar rfl _ xs rfl (HOV.out.alloc _) _ t2 rfl (fun j u hu => cells_new _ _ _ _ _ (by simp) u hu) (by omega) (by omega) (by rw [alloc_size]; omega) ?_
          intro v3 w3 hown3 hu3
          have hbv3 := hu3.belowBase (HOV.out.alloc _) (hbR2.alloc hg2 _) (by rw [alloc_size]; omega)
          have HO3 := Lib.hid hown3
          have HU3 := Lib.hid ((HSN.out.below famT ((Below.refl w2.heap.size w2).alloc (Nat.le_refl _) _)).upd famT hu3)
          clear hu3 hown3))
        go_roundw
        case rel => exact ⟨k + 1, xs ++ [t2], by omega, by go_num, HO3.out, by rw [List.take_add_one, HX.out]; simpa using HU3.out, by simp; omega, hbv3⟩
        case measure => simp [intOf]; omega
      · obtain rfl : p = k := by omega
        have hkn : ¬ ((p : Int) < (p : Int)) := by omega
        have HTT := Lib.hid (show (Ts.take p).take p = Ts.take p by rw [List.take_take, Nat.min_self])
        (have yqb0 := (hbr.cell (p := ⟨_, _, none⟩) (by (try dsimp only) <;> omega)).trans qb0; have yqb1 := (hbr.cell (p := ⟨_, _, none⟩) (by (try dsimp only) <;> omega)).trans qb1; have yqb2 := (hbr.cell (p := ⟨_, _, none⟩) (by (try dsimp only) <;> omega)).trans qb2; have yqb3 := (hbr.cell (p := ⟨_, _, none⟩) (by (try dsimp only) <;> omega)).trans qb3; have yqb4 := (hbr.cell (p := ⟨_, _, none⟩) (by (try dsimp only) <;> omega)).trans qb4; have yqb5 := (hbr.cell (p := ⟨_, _, none⟩) (by (try dsimp only) <;> omega)).trans qb5; have yqb6 := (hbr.cell (p := ⟨_, _, none⟩) (by (try dsimp only) <;> omega)).trans qb6)
        have hcl := clone_any t T wr (HTD.out.on hbA) HWT.out
        unfold Tv.val at hcl
        have HC := Lib.hid hcl
        have HVL := Lib.hid HO.out.lt
        have hxl2 : xs.length ≤ 1000 := by omega
        clear hcl hxl
        (have yqa0 := (hbr.cell (p := ⟨_, _, none⟩) (by (try dsimp only) <;> omega)).trans qa0)
        go_wp2_with fail
        refine HC.out.mono ?_
        rintro r w2 ⟨⟨t2, rfl, ht2⟩, hb2⟩
        have HSN := Lib.hid (Rowed.snoc famT (HY.out.below famT hb2) (B := wr.heap.size) (by omega) (fun g hg => by have := (HVL.out g hg).2; omega) ht2)
        have HOV := Lib.hid (HO.out.below hb2)
        have hbR2 := hbr.trans (hb2.mono hbr.size)
        have hg2 : W.heap.size ≤ w2.heap.size := by have := hb2.size; omega
        have yy := (hb2.cell (p := ⟨_, _, none⟩) (by (try dsimp only) <;> omega)).trans yqa0
        clear ht2 yqb0 yqb1 yqb2 yqb3 yqb4 yqb5 yqb6 yqa0 hb2
        go_wp2_with (at_builtin; go_must (
          refine wpl_append1 _ rfl (.tmp 56) (.tmp 59) 22 rfl W.heap.size 32 _ 128 Try.underlying22 info_tar rfl _ xs rfl (HOV.out.alloc _) _ t2 rfl (fun j u hu => cells_new _ _ _ _ _ (by simp) u hu) (by omega) (by omega) (by rw [alloc_size]; omega) ?_
          intro v3 w3 hown3 hu3
          have hbv3 := hu3.belowBase (HOV.out.alloc _) (hbR2.alloc hg2 _) (by rw [alloc_size]; omega)
          have HO3 := Lib.hid hown3
          have HU3 := Lib.hid ((HSN.out.below famT ((Below.refl w2.heap.size w2).alloc (Nat.le_refl _) _)).upd famT hu3)
          have zz := (hbv3.cell (p := ⟨w.heap.size, 0, none⟩) (by (try dsimp only) <;> omega)).trans qa0
          clear hu3 hown3))
        go_loopw [12, 65] (fun s i wr => ∃ (k : Nat) (xs : List Tv), k ≤ nf ∧ i = .int .i64 k ∧ Ow wr W.heap.size 32 s xs ∧ Rowed TDP W.heap.size wr s xs (Ts.take p ++ [T] ++ (Ts.drop p).take k) ∧ xs.length ≤ 1001 + k ∧ Below W.heap.size W wr) (fun _ i _ => nf - (intOf i).toNat)
        case atStart => exact ⟨0, xs ++ [t2], Nat.zero_le _, rfl, HO3.out, by have := HU3.out; rw [HTT.out] at this; simpa using this, by simp; omega, hbv3⟩
        case round =>
          obtain ⟨k, xs, hk, rfl, how, hrow, hxl, hbr⟩ := hrel
          have HO := Lib.hid how
          have HY := Lib.hid hrow
          clear how hrow
          have hzr := hbr.size
          have hbA := hbW.trans (hbr.mono hbW.size)
          by_cases hlt : k < nf
          · obtain ⟨b, off, hAe, hbl, hcells⟩ := HSF.out.baseIn hbA (by omega)
            obtain ⟨x, hx⟩ := HSF.out.get hlt
            obtain ⟨X, hX, hXD⟩ := HAFF.out.at_ hx
            subst hAe
            (have e0 : wr.cell? ⟨b, off + k * 7, none⟩ = some (.string x.name) := Sl.at_ hcells hx 0 rfl; have e1 : wr.cell? ⟨b, off + k * 7 + 1, none⟩ = some (.int .i64 x.from_) := Sl.at_ hcells hx 1 rfl; have e2 : wr.cell? ⟨b, off + k * 7 + 2, none⟩ = some (.bool x.split) := Sl.at_ hcells hx 2 rfl; have e3 : wr.cell? ⟨b, off + k * 7 + 3, none⟩ = some (.slice x.Az x.nz x.cz) := Sl.at_ hcells hx 3 rfl; have e4 : wr.cell? ⟨b, off + k * 7 + 4, none⟩ = some (.slice x.Ab x.nb x.cb) := Sl.at_ hcells hx 4 rfl; have e5 : wr.cell? ⟨b, off + k * 7 + 5, none⟩ = some (.slice x.Ar x.nr x.cr) := Sl.at_ hcells hx 5 rfl; have e6 : wr.cell? ⟨b, off + k * 7 + 6, none⟩ = some (.slice x.Ad x.nd x.cd) := Sl.at_ hcells hx 6 rfl)
            have HX := Lib.hid hX
            have HXD := Lib.hid hXD
            have HXW := Lib.hid ((fun X hX => HW.out X (List.mem_of_mem_drop hX)) X (List.mem_of_getElem? hX))
            clear hcells hx hX hXD
            go_upto_region 24 with (fail)
            (obtain ⟨V, hWV, hbV, hzV, f1V, mfa⟩ := box1 wr #[.string x.name, .int .i64 x.from_, .bool x.split, .slice x.Az x.nz x.cz, .slice x.Ab x.nb x.cb, .slice x.Ar x.nr x.cr, .slice x.Ad x.nd x.cd] 32; rw [← hWV]; have ma0 : V.cell? ⟨wr.heap.size, 0, none⟩ = some (.string x.name) := f1V 0 _ rfl; have ma1 : V.cell? ⟨wr.heap.size, 1, none⟩ = some (.int .i64 x.from_) := f1V 1 _ rfl; have ma2 : V.cell? ⟨wr.heap.size, 2, none⟩ = some (.bool x.split) := f1V 2 _ rfl; have ma3 : V.cell? ⟨wr.heap.size, 3, none⟩ = some (.slice x.Az x.nz x.cz) := f1V 3 _ rfl; have ma4 : V.cell? ⟨wr.heap.size, 4, none⟩ = some (.slice x.Ab x.nb x.cb) := f1V 4 _ rfl; have ma5 : V.cell? ⟨wr.heap.size, 5, none⟩ = some (.slice x.Ar x.nr x.cr) := f1V 5 _ rfl; have ma6 : V.cell? ⟨wr.heap.size, 6, none⟩ = some (.slice x.Ad x.nd x.cd) := f1V 6 _ rfl; clear hWV f1V)
            have hbV2 := hbr.trans (hbV.mono hbr.size)
            have hcl := clone_any x X V (HXD.out.on (hbA.trans (hbV.mono hbA.size))) HXW.out
            unfold Tv.val at hcl
            have HC := Lib.hid hcl
            have HVL := Lib.hid HO.out.lt
            have HOV0 := Lib.hid (HO.out.below hbV)
            have HYV := Lib.hid (HY.out.below famT hbV)
            have hzV2 := hbV.size
            clear e0 e1 e2 e3 e4 e5 e6 mfa HO HY hcl hbV
            go_wp2_with fail
            refine HC.out.mono ?_
            rintro r w2 ⟨⟨t2, rfl, ht2⟩, hb2⟩
            have HSN := Lib.hid (Rowed.snoc famT (HYV.out.below famT hb2) (B := V.heap.size) (by omega) (fun g hg => by have := (HVL.out g hg).2; omega) ht2)
            have HOV := Lib.hid (HOV0.out.below hb2)
            have hbR2 := hbV2.trans (hb2.mono hbV2.size)
            have hg2 : W.heap.size ≤ w2.heap.size := by have := hb2.size; omega
            clear ht2 hb2 hbV2
            go_wp2_with (at_builtin; go_must (
              refine wpl_append1 _ rfl (.tmp 69) (.tmp 72) 22 rfl W.heap.size 32 _ 128 Try.underlying22 info_tar rfl _ xs rfl (HOV.out.alloc _) _ t2 rfl (fun j u hu => cells_new _ _ _ _ _ (by simp) u hu) (by omega) (by omega) (by rw [alloc_size]; omega) ?_
              intro v3 w3 hown3 hu3
              have hbv3 := hu3.belowBase (HOV.out.alloc _) (hbR2.alloc hg2 _) (by rw [alloc_size]; omega)
              have HO3 := Lib.hid hown3
              have HU3 := Lib.hid ((HSN.out.below famT ((Below.refl w2.heap.size w2).alloc (Nat.le_refl _) _)).upd famT hu3)
              clear hu3 hown3))
            go_roundw
            case rel => exact ⟨k + 1, xs ++ [t2], by omega, by go_num, HO3.out, by rw [List.take_add_one, HX.out]; simpa using HU3.out, by simp; omega, hbv3⟩
            case measure => simp [intOf]; omega
          · obtain rfl : nf = k := by omega
            have hkn : ¬ ((nf : Int) < (nf : Int)) := by omega
            have HTF := Lib.hid (show (Ts.drop p).take nf = Ts.drop p from List.take_of_length_le (by have h1 := HSF.out.len; have h2 := HAFF.out.1; omega))
            obtain ⟨A3, n3, c3, rfl, hn3, hlsp⟩ := LSP.ofRow famT HO.out HY.out
            rw [HTF.out] at hlsp
            have HL3 := Lib.hid hlsp
            clear hn3 hlsp
            go_wp2_with fail
            go_ret2
            rw [HQ.out, HRES.out]
            exact ⟨⟨A3, n3, c3, rfl, LTP.lt_ HL3.out⟩, hbA⟩
  case true =>
    obtain rfl : p + 1 = rr := by simpa using HRR.out
    push_cast at hslF
    clear HRR hi7
    go_wp2_with fail
    go_loopw [12, 46] (fun s i wr => ∃ (k : Nat) (xs : List Tv), k ≤ p ∧ i = .int .i64 k ∧ Ow wr W.heap.size 32 s xs ∧ Rowed TDP W.heap.size wr s xs ((Ts.take p).take k) ∧ xs.length ≤ 0 + k ∧ Below W.heap.size W wr) (fun _ i _ => p - (intOf i).toNat)
    case atStart => exact ⟨0, [], Nat.zero_le _, rfl, Ow.nil_ _ _ _, Rowed.nil_, by simp, hb13⟩
    case round =>
      obtain ⟨k, xs, hk, rfl, how, hrow, hxl, hbr⟩ := hrel
      have HO := Lib.hid how
      have HY := Lib.hid hrow
      clear how hrow
      have hzr := hbr.size
      have hbA := hbW.trans (hbr.mono hbW.size)
      by_cases hlt : k < p
      · obtain ⟨b, off, hAe, hbl, hcells⟩ := HST.out.baseIn hbA (by omega)
        obtain ⟨x, hx⟩ := HST.out.get hlt
        obtain ⟨X, hX, hXD⟩ := HAT.out.at_ hx
        subst hAe
        (have e0 : wr.cell? ⟨b, off + k * 7, none⟩ = some (.string x.name) := Sl.at_ hcells hx 0 rfl; have e1 : wr.cell? ⟨b, off + k * 7 + 1, none⟩ = some (.int .i64 x.from_) := Sl.at_ hcells hx 1 rfl; have e2 : wr.cell? ⟨b, off + k * 7 + 2, none⟩ = some (.bool x.split) := Sl.at_ hcells hx 2 rfl; have e3 : wr.cell? ⟨b, off + k * 7 + 3, none⟩ = some (.slice x.Az x.nz x.cz) := Sl.at_ hcells hx 3 rfl; have e4 : wr.cell? ⟨b, off + k * 7 + 4, none⟩ = some (.slice x.Ab x.nb x.cb) := Sl.at_ hcells hx 4 rfl; have e5 : wr.cell? ⟨b, off + k * 7 + 5, none⟩ = some (.slice x.Ar x.nr x.cr) := Sl.at_ hcells hx 5 rfl; have e6 : wr.cell? ⟨b, off + k * 7 + 6, none⟩ = some (.slice x.Ad x.nd x.cd) := Sl.at_ hcells hx 6 rfl)
        have HX := Lib.hid hX
        have HXD := Lib.hid hXD
        have HXW := Lib.hid ((fun X hX => HW.out X (List.mem_of_mem_take hX)) X (List.mem_of_getElem? hX))
        clear hcells hx hX hXD
        go_upto_region 18 with (fail)
        (obtain ⟨V, hWV, hbV, hzV, f1V, mfa⟩ := box1 wr #[.string x.name, .int .i64 x.from_, .bool x.split, .slice x.Az x.nz x.cz, .slice x.Ab x.nb x.cb, .slice x.Ar x.nr x.cr, .slice x.Ad x.nd x.cd] 32; rw [← hWV]; have ma0 : V.cell? ⟨wr.heap.size, 0, none⟩ = some (.string x.name) := f1V 0 _ rfl; have ma1 : V.cell? ⟨wr.heap.size, 1, none⟩ = some (.int .i64 x.from_) := f1V 1 _ rfl; have ma2 : V.cell? ⟨wr.heap.size, 2, none⟩ = some (.bool x.split) := f1V 2 _ rfl; have ma3 : V.cell? ⟨wr.heap.size, 3, none⟩ = some (.slice x.Az x.nz x.cz) := f1V 3 _ rfl; have ma4 : V.cell? ⟨wr.heap.size, 4, none⟩ = some (.slice x.Ab x.nb x.cb) := f1V 4 _ rfl; have ma5 : V.cell? ⟨wr.heap.size, 5, none⟩ = some (.slice x.Ar x.nr x.cr) := f1V 5 _ rfl; have ma6 : V.cell? ⟨wr.heap.size, 6, none⟩ = some (.slice x.Ad x.nd x.cd) := f1V 6 _ rfl; clear hWV f1V)
        have hbV2 := hbr.trans (hbV.mono hbr.size)
        have hcl := clone_any x X V (HXD.out.on (hbA.trans (hbV.mono hbA.size))) HXW.out
        unfold Tv.val at hcl
        have HC := Lib.hid hcl
        have HVL := Lib.hid HO.out.lt
        have HOV0 := Lib.hid (HO.out.below hbV)
        have HYV := Lib.hid (HY.out.below famT hbV)
        have hzV2 := hbV.size
        clear e0 e1 e2 e3 e4 e5 e6 mfa HO HY hcl hbV
        go_wp2_with fail
        refine HC.out.mono ?_
        rintro r w2 ⟨⟨t2, rfl, ht2⟩, hb2⟩
        have HSN := Lib.hid (Rowed.snoc famT (HYV.out.below famT hb2) (B := V.heap.size) (by omega) (fun g hg => by have := (HVL.out g hg).2; omega) ht2)
        have HOV := Lib.hid (HOV0.out.below hb2)
        have hbR2 := hbV2.trans (hb2.mono hbV2.size)
        have hg2 : W.heap.size ≤ w2.heap.size := by have := hb2.size; omega
        clear ht2 hb2 hbV2
        go_wp2_with (at_builtin; go_must (
          refine wpl_append1 _ rfl (.tmp 50) (.tmp 53) 22 rfl W.heap.size 32 _ 128 Try.underlying22 info_tar rfl _ xs rfl (HOV.out.alloc _) _ t2 rfl (fun j u hu => cells_new _ _ _ _ _ (by simp) u hu) (by omega) (by omega) (by rw [alloc_size]; omega) ?_
          intro v3 w3 hown3 hu3
          have hbv3 := hu3.belowBase (HOV.out.alloc _) (hbR2.alloc hg2 _) (by rw [alloc_size]; omega)
          have HO3 := Lib.hid hown3
          have HU3 := Lib.hid ((HSN.out.below famT ((Below.refl w2.heap.size w2).alloc (Nat.le_refl _) _)).upd famT hu3)
          clear hu3 hown3))
        go_roundw
        case rel => exact ⟨k + 1, xs ++ [t2], by omega, by go_num, HO3.out, by rw [List.take_add_one, HX.out]; simpa using HU3.out, by simp; omega, hbv3⟩
        case measure => simp [intOf]; omega
      · obtain rfl : p = k := by omega
        have hkn : ¬ ((p : Int) < (p : Int)) := by omega
        have HTT := Lib.hid (show (Ts.take p).take p = Ts.take p by rw [List.take_take, Nat.min_self])
        (have yqb0 := (hbr.cell (p := ⟨_, _, none⟩) (by (try dsimp only) <;> omega)).trans qb0; have yqb1 := (hbr.cell (p := ⟨_, _, none⟩) (by (try dsimp only) <;> omega)).trans qb1; have yqb2 := (hbr.cell (p := ⟨_, _, none⟩) (by (try dsimp only) <;> omega)).trans qb2; have yqb3 := (hbr.cell (p := ⟨_, _, none⟩) (by (try dsimp only) <;> omega)).trans qb3; have yqb4 := (hbr.cell (p := ⟨_, _, none⟩) (by (try dsimp only) <;> omega)).trans qb4; have yqb5 := (hbr.cell (p := ⟨_, _, none⟩) (by (try dsimp only) <;> omega)).trans qb5; have yqb6 := (hbr.cell (p := ⟨_, _, none⟩) (by (try dsimp only) <;> omega)).trans qb6)
        have hcl := clone_any t T wr (HTD.out.on hbA) HWT.out
        unfold Tv.val at hcl
        have HC := Lib.hid hcl
        have HVL := Lib.hid HO.out.lt
        have hxl2 : xs.length ≤ 1000 := by omega
        clear hcl hxl
        (have yqa0 := (hbr.cell (p := ⟨_, _, none⟩) (by (try dsimp only) <;> omega)).trans qa0)
        go_wp2_with fail
        refine HC.out.mono ?_
        rintro r w2 ⟨⟨t2, rfl, ht2⟩, hb2⟩
        have HSN := Lib.hid (Rowed.snoc famT (HY.out.below famT hb2) (B := wr.heap.size) (by omega) (fun g hg => by have := (HVL.out g hg).2; omega) ht2)
        have HOV := Lib.hid (HO.out.below hb2)
        have hbR2 := hbr.trans (hb2.mono hbr.size)
        have hg2 : W.heap.size ≤ w2.heap.size := by have := hb2.size; omega
        have yy := (hb2.cell (p := ⟨_, _, none⟩) (by (try dsimp only) <;> omega)).trans yqa0
        clear ht2 yqb0 yqb1 yqb2 yqb3 yqb4 yqb5 yqb6 yqa0 hb2
        go_wp2_with (at_builtin; go_must (
          refine wpl_append1 _ rfl (.tmp 56) (.tmp 59) 22 rfl W.heap.size 32 _ 128 Try.underlying22 info_tar rfl _ xs rfl (HOV.out.alloc _) _ t2 rfl (fun j u hu => cells_new _ _ _ _ _ (by simp) u hu) (by omega) (by omega) (by rw [alloc_size]; omega) ?_
          intro v3 w3 hown3 hu3
          have hbv3 := hu3.belowBase (HOV.out.alloc _) (hbR2.alloc hg2 _) (by rw [alloc_size]; omega)
          have HO3 := Lib.hid hown3
          have HU3 := Lib.hid ((HSN.out.below famT ((Below.refl w2.heap.size w2).alloc (Nat.le_refl _) _)).upd famT hu3)
          have zz := (hbv3.cell (p := ⟨w.heap.size, 0, none⟩) (by (try dsimp only) <;> omega)).trans qa0
          clear hu3 hown3))
        go_loopw [12, 65] (fun s i wr => ∃ (k : Nat) (xs : List Tv), k ≤ nf ∧ i = .int .i64 k ∧ Ow wr W.heap.size 32 s xs ∧ Rowed TDP W.heap.size wr s xs (Ts.take p ++ [T] ++ (Ts.drop (p + 1)).take k) ∧ xs.length ≤ 1001 + k ∧ Below W.heap.size W wr) (fun _ i _ => nf - (intOf i).toNat)
        case atStart => exact ⟨0, xs ++ [t2], Nat.zero_le _, rfl, HO3.out, by have := HU3.out; rw [HTT.out] at this; simpa using this, by simp; omega, hbv3⟩
        case round =>
          obtain ⟨k, xs, hk, rfl, how, hrow, hxl, hbr⟩ := hrel
          have HO := Lib.hid how
          have HY := Lib.hid hrow
          clear how hrow
          have hzr := hbr.size
          have hbA := hbW.trans (hbr.mono hbW.size)
          by_cases hlt : k < nf
          · obtain ⟨b, off, hAe, hbl, hcells⟩ := HSF.out.baseIn hbA (by omega)
            obtain ⟨x, hx⟩ := HSF.out.get hlt
            obtain ⟨X, hX, hXD⟩ := HAFF.out.at_ hx
            subst hAe
            (have e0 : wr.cell? ⟨b, off + k * 7, none⟩ = some (.string x.name) := Sl.at_ hcells hx 0 rfl; have e1 : wr.cell? ⟨b, off + k * 7 + 1, none⟩ = some (.int .i64 x.from_) := Sl.at_ hcells hx 1 rfl; have e2 : wr.cell? ⟨b, off + k * 7 + 2, none⟩ = some (.bool x.split) := Sl.at_ hcells hx 2 rfl; have e3 : wr.cell? ⟨b, off + k * 7 + 3, none⟩ = some (.slice x.Az x.nz x.cz) := Sl.at_ hcells hx 3 rfl; have e4 : wr.cell? ⟨b, off + k * 7 + 4, none⟩ = some (.slice x.Ab x.nb x.cb) := Sl.at_ hcells hx 4 rfl; have e5 : wr.cell? ⟨b, off + k * 7 + 5, none⟩ = some (.slice x.Ar x.nr x.cr) := Sl.at_ hcells hx 5 rfl; have e6 : wr.cell? ⟨b, off + k * 7 + 6, none⟩ = some (.slice x.Ad x.nd x.cd) := Sl.at_ hcells hx 6 rfl)
            have HX := Lib.hid hX
            have HXD := Lib.hid hXD
            have HXW := Lib.hid ((fun X hX => HW.out X (List.mem_of_mem_drop hX)) X (List.mem_of_getElem? hX))
            clear hcells hx hX hXD
            go_upto_region 24 with (fail)
            (obtain ⟨V, hWV, hbV, hzV, f1V, mfa⟩ := box1 wr #[.string x.name, .int .i64 x.from_, .bool x.split, .slice x.Az x.nz x.cz, .slice x.Ab x.nb x.cb, .slice x.Ar x.nr x.cr, .slice x.Ad x.nd x.cd] 32; rw [← hWV]; have ma0 : V.cell? ⟨wr.heap.size, 0, none⟩ = some (.string x.name) := f1V 0 _ rfl; have ma1 : V.cell? ⟨wr.heap.size, 1, none⟩ = some (.int .i64 x.from_) := f1V 1 _ rfl; have ma2 : V.cell? ⟨wr.heap.size, 2, none⟩ = some (.bool x.split) := f1V 2 _ rfl; have ma3 : V.cell? ⟨wr.heap.size, 3, none⟩ = some (.slice x.Az x.nz x.cz) := f1V 3 _ rfl; have ma4 : V.cell? ⟨wr.heap.size, 4, none⟩ = some (.slice x.Ab x.nb x.cb) := f1V 4 _ rfl; have ma5 : V.cell? ⟨wr.heap.size, 5, none⟩ = some (.slice x.Ar x.nr x.cr) := f1V 5 _ rfl; have ma6 : V.cell? ⟨wr.heap.size, 6, none⟩ = some (.slice x.Ad x.nd x.cd) := f1V 6 _ rfl; clear hWV f1V)
            have hbV2 := hbr.trans (hbV.mono hbr.size)
            have hcl := clone_any x X V (HXD.out.on (hbA.trans (hbV.mono hbA.size))) HXW.out
            unfold Tv.val at hcl
            have HC := Lib.hid hcl
            have HVL := Lib.hid HO.out.lt
            have HOV0 := Lib.hid (HO.out.below hbV)
            have HYV := Lib.hid (HY.out.below famT hbV)
            have hzV2 := hbV.size
            clear e0 e1 e2 e3 e4 e5 e6 mfa HO HY hcl hbV
            go_wp2_with fail
            refine HC.out.mono ?_
            rintro r w2 ⟨⟨t2, rfl, ht2⟩, hb2⟩
            have HSN := Lib.hid (Rowed.snoc famT (HYV.out.below famT hb2) (B := V.heap.size) (by omega) (fun g hg => by have := (HVL.out g hg).2; omega) ht2)
            have HOV := Lib.hid (HOV0.out.below hb2)
            have hbR2 := hbV2.trans (hb2.mono hbV2.size)
            have hg2 : W.heap.size ≤ w2.heap.size := by have := hb2.size; omega
            clear ht2 hb2 hbV2
            go_wp2_with (at_builtin; go_must (
              refine wpl_append1 _ rfl (.tmp 69) (.tmp 72) 22 rfl W.heap.size 32 _ 128 Try.underlying22 info_tar rfl _ xs rfl (HOV.out.alloc _) _ t2 rfl (fun j u hu => cells_new _ _ _ _ _ (by simp) u hu) (by omega) (by omega) (by rw [alloc_size]; omega) ?_
              intro v3 w3 hown3 hu3
              have hbv3 := hu3.belowBase (HOV.out.alloc _) (hbR2.alloc hg2 _) (by rw [alloc_size]; omega)
              have HO3 := Lib.hid hown3
              have HU3 := Lib.hid ((HSN.out.below famT ((Below.refl w2.heap.size w2).alloc (Nat.le_refl _) _)).upd famT hu3)
              clear hu3 hown3))
            go_roundw
            case rel => exact ⟨k + 1, xs ++ [t2], by omega, by go_num, HO3.out, by rw [List.take_add_one, HX.out]; simpa using HU3.out, by simp; omega, hbv3⟩
            case measure => simp [intOf]; omega
          · obtain rfl : nf = k := by omega
            have hkn : ¬ ((nf : Int) < (nf : Int)) := by omega
            have HTF := Lib.hid (show (Ts.drop (p + 1)).take nf = Ts.drop (p + 1) from List.take_of_length_le (by have h1 := HSF.out.len; have h2 := HAFF.out.1; omega))
            obtain ⟨A3, n3, c3, rfl, hn3, hlsp⟩ := LSP.ofRow famT HO.out HY.out
            rw [HTF.out] at hlsp
            have HL3 := Lib.hid hlsp
            clear hn3 hlsp
            go_wp2_with fail
            go_ret2
            rw [HQ.out, HRES.out]
            exact ⟨⟨A3, n3, c3, rfl, LTP.lt_ HL3.out⟩, hbA⟩
end Cv
end Go.Proofs.Ytdnnnajohdohaaa
