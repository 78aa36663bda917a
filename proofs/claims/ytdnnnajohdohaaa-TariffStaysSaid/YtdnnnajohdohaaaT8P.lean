/-
  Tariffs: both At; Tariffs: both Changes. No condition.
-/
import Derived.Test.YtdnnnajohdohaaaT8M
import Derived.BigQuiet
import Derived.StillTailTactics
import Derived.Lib.Overlaps
import Derived.Deep.DeepCutAuto
import Derived.Deep.RegionWith
import Derived.Laws.RangeAny
set_option maxRecDepth 100000
set_option linter.unusedVariables false
set_option linter.unusedSimpArgs false
namespace Go.Proofs.Ytdnnnajohdohaaa
open Go.RowKit

namespace Cv
open Xp Ck
def lastI (f : Nat → Bool) : Nat → Option Nat
  | 0 => none
  | k + 1 => if f k = true then some k else lastI f k
theorem lastI_yes {f : Nat → Bool} {k : Nat} (h : f k = true) : lastI f (k + 1) = some k := if_pos h
theorem lastI_no {f : Nat → Bool} {k : Nat} (h : f k = false) : lastI f (k + 1) = lastI f k := if_neg (by rw [h]; simp)
theorem lastI_lt {f : Nat → Bool} : ∀ {k i : Nat}, lastI f k = some i → i < k ∧ f i = true
  | 0, i, h => by cases h
  | k + 1, i, h => by
    unfold lastI at h
    split at h
    · cases h
      exact ⟨Nat.lt_succ_self _, by assumption⟩
    · have := lastI_lt h
      exact ⟨by omega, this.2⟩
def bestZ (f : Nat → Bool) (k : Nat) : Int := match lastI f k with
  | none => -1
  | some i => (i : Int)
/-- is it a version of that name that has begun? -/
def hitB (nm : ByteArray) (t : Int) (T : Td) : Bool := (T.name.toList == nm.toList) && decide (T.from_ ≤ t)
def hitI (Ts : List Td) (nm : ByteArray) (t : Int) (i : Nat) : Bool := match Ts[i]? with
  | none => false
  | some T => hitB nm t T
def zeroT : Td := ⟨⟨#[]⟩, 0, false, [], [], [], []⟩
def zeroV : Tv := ⟨⟨#[]⟩, 0, false, none, 0, 0, none, 0, 0, none, 0, 0, none, 0, 0⟩
theorem zero_td (w : World) : TD w zeroV zeroT := ⟨rfl, by decide, rfl, rfl, ⟨fun _ => rfl, [], Sl.nil_ _, All2.nil_⟩, ⟨fun _ => rfl, [], Sl.nil_ _, All2.nil_⟩, ⟨fun _ => rfl, [], Sl.nil_ _, All2.nil_⟩, ⟨fun _ => rfl, [], Sl.nil_ _, All2.nil_⟩⟩
/-- the version of a name at an instant, if there is one -/
def atK (Ts : List Td) (nm : ByteArray) (t : Int) (k : Nat) : Td × Bool := match lastI (hitI Ts nm t) k with
  | none => (zeroT, false)
  | some i => ((Ts[i]?).getD zeroT, true)
def atD (Ts : List Td) (nm : ByteArray) (t : Int) : Td × Bool := atK Ts nm t Ts.length
theorem hitI_at {Ts : List Td} {nm : ByteArray} {t : Int} {i : Nat} {T : Td} (h : Ts[i]? = some T) : hitI Ts nm t i = hitB nm t T := by simp only [hitI, h]
theorem atK_yes {Ts : List Td} {nm : ByteArray} {t : Int} {k : Nat} {T : Td} (h : Ts[k]? = some T) (hh : hitB nm t T = true) : atK Ts nm t (k + 1) = (T, true) := by
  unfold atK; rw [lastI_yes (by rw [hitI_at h]; exact hh)]; simp [h]
theorem atK_no {Ts : List Td} {nm : ByteArray} {t : Int} {k : Nat} {T : Td} (h : Ts[k]? = some T) (hh : hitB nm t T = false) : atK Ts nm t (k + 1) = atK Ts nm t k := by
  unfold atK; rw [lastI_no (by rw [hitI_at h]; exact hh)]
theorem bestZ_yes {Ts : List Td} {nm : ByteArray} {t : Int} {k : Nat} {T : Td} (h : Ts[k]? = some T) (hh : hitB nm t T = true) : bestZ (hitI Ts nm t) (k + 1) = (k : Int) := by
  unfold bestZ; rw [lastI_yes (by rw [hitI_at h]; exact hh)]
theorem bestZ_no {Ts : List Td} {nm : ByteArray} {t : Int} {k : Nat} {T : Td} (h : Ts[k]? = some T) (hh : hitB nm t T = false) : bestZ (hitI Ts nm t) (k + 1) = bestZ (hitI Ts nm t) k := by
  unfold bestZ; rw [lastI_no (by rw [hitI_at h]; exact hh)]
theorem best_cases (Ts : List Td) (nm : ByteArray) (t : Int) : (bestZ (hitI Ts nm t) Ts.length = -1 ∧ atD Ts nm t = (zeroT, false)) ∨ ∃ (i : Nat) (T : Td), bestZ (hitI Ts nm t) Ts.length = (i : Int) ∧ Ts[i]? = some T ∧ atD Ts nm t = (T, true) := by
  unfold bestZ atD atK
  cases h : lastI (hitI Ts nm t) Ts.length with
  | none => exact .inl ⟨rfl, rfl⟩
  | some i =>
    have hi := (lastI_lt h).1
    have e : Ts[i]? = some Ts[i] := List.getElem?_eq_getElem hi
    exact .inr ⟨i, Ts[i], rfl, e, by simp [e]⟩
theorem results_cells2 {P : Program} {fn : Func} {p u : Tmp} {ty : TypeId} (h : fn.results = #[.cell p ty, .tmp u]) (tmps : Array Value) (w : World) (g : Nat) (cs : Array Value) (d : TypeDesc)
    (hp : tmps.getD p undef = .pointer (some ⟨g, 0, none⟩)) (hc : ∀ j v, cs.toList[j]? = some v → w.cell? ⟨g, j, none⟩ = some v)
    (hu : P.underlying ty = some d) (hd : (match d with | .struct _ | .array _ _ => true | _ => false) = true) (hi : (P.info? ty).map (·.size) = some cs.size) :
    (results fn tmps).run P w = .ok (.tuple #[.agg cs, tmps.getD u undef]) w := by
  have hl : (loadCells ⟨g, 0, none⟩ cs.toList.length).run P w = .ok cs.toList.toArray w :=
    run_loadCells_list (P := P) w ⟨g, 0, none⟩ cs.toList (fun j v hv => by
      have hadd : (⟨g, 0, none⟩ : Addr).add j = ⟨g, j, none⟩ := by unfold Addr.add; split <;> simp_all
      rw [hadd]
      exact hc j v hv)
  cases hq : P.info? ty with
  | none => simp [hq] at hi
  | some i =>
    have hs : i.size = cs.size := by simpa [hq] using hi
    have hagg : (isAgg ty).run P w = .ok true w := by
      unfold isAgg
      rw [Sem.run_bind, run_underlying hu w]
      cases d <;> simp_all
    simp only [Array.length_toList, Array.toArray_toList] at hl
    have hrow : (loadVar ty ⟨g, 0, none⟩).run P w = .ok (.agg cs) w := by
      simp [loadVar, Sem.run_bind, hagg, sizeOf, typeInfo, hq, hs, hl]
    rw [results_cell_tmp h, hp]
    simp [asAddr, hrow, Result.andThen]
theorem cells7 {w : World} {g : Nat} {v0 v1 v2 v3 v4 v5 v6 : Value} (h0 : w.cell? ⟨g, 0, none⟩ = some v0) (h1 : w.cell? ⟨g, 1, none⟩ = some v1) (h2 : w.cell? ⟨g, 2, none⟩ = some v2) (h3 : w.cell? ⟨g, 3, none⟩ = some v3) (h4 : w.cell? ⟨g, 4, none⟩ = some v4) (h5 : w.cell? ⟨g, 5, none⟩ = some v5) (h6 : w.cell? ⟨g, 6, none⟩ = some v6) :
    ∀ j u, [v0, v1, v2, v3, v4, v5, v6][j]? = some u → w.cell? ⟨g, 0 + j, none⟩ = some u := fun j u hu => by
  match j, hu with
  | 0, hu => cases hu; exact h0
  | 1, hu => cases hu; exact h1
  | 2, hu => cases hu; exact h2
  | 3, hu => cases hu; exact h3
  | 4, hu => cases hu; exact h4
  | 5, hu => cases hu; exact h5
  | 6, hu => cases hu; exact h6
theorem setRun_frozen : ∀ (vs : List Value) (w : World) (g o b o' : Nat), (setRun w g o vs).frozen? ⟨b, o', none⟩ = w.frozen? ⟨b, o', none⟩
  | [], _, _, _, _, _ => rfl
  | v :: vs, w, g, o, b, o' => by
    unfold setRun
    rw [setRun_frozen vs]
    exact World.frozen?_setCell _ _ _ _
theorem setRun_is {w : World} {g : Nat} {old vs : List Value} (hold : ∀ j u, old[j]? = some u → w.cell? ⟨g, 0 + j, none⟩ = some u) (hl : vs.length ≤ old.length) : ∀ j v, vs[j]? = some v → (setRun w g 0 vs).cell? ⟨g, j, none⟩ = some v := fun j v hv => by
  have := setRun_at vs w g 0 old hold hl j v hv
  rw [Nat.zero_add] at this
  exact this
set_option maxHeartbeats 16000000 in
theorem at_any (A : Option Addr) (n c : Nat) (Ts : List Td) (nm : ByteArray) (t : Int) (w : World) (h : LT w A n c Ts) (hW : ∀ T ∈ Ts, Wide T) :
    Calls Try.prog 14 #[.slice A n c, .string nm, .int .i64 t] w fun e w' => (∃ v : Tv, e = .returned (.tuple #[v.val, .bool (atD Ts nm t).2]) ∧ TD w' v (atD Ts nm t).1) ∧ Below w.heap.size w w' := by
  obtain ⟨_, ts, hs, ha⟩ := h
  have hn := hs.nmax
  have HS := Lib.hid hs
  have HA := Lib.hid ha
  have HW := Lib.hid hW
  have HLen := Lib.hid (show Ts.length = n by rw [← ha.1, hs.len])
  clear hs ha hW
  go_enter Try.func14, Try.ntmps14
  go_upto_region 1 with (fail)
  (obtain ⟨W, hWW, hbW, hzW, f1W, qfa⟩ := box1 w #[.string ⟨#[]⟩, .int .i64 0, .bool false, .slice none 0 0, .slice none 0 0, .slice none 0 0, .slice none 0 0] 32; rw [← hWW]; have qa0 : W.cell? ⟨w.heap.size, 0, none⟩ = some (.string ⟨#[]⟩) := f1W 0 _ rfl; have qa1 : W.cell? ⟨w.heap.size, 1, none⟩ = some (.int .i64 0) := f1W 1 _ rfl; have qa2 : W.cell? ⟨w.heap.size, 2, none⟩ = some (.bool false) := f1W 2 _ rfl; have qa3 : W.cell? ⟨w.heap.size, 3, none⟩ = some (.slice none 0 0) := f1W 3 _ rfl; have qa4 : W.cell? ⟨w.heap.size, 4, none⟩ = some (.slice none 0 0) := f1W 4 _ rfl; have qa5 : W.cell? ⟨w.heap.size, 5, none⟩ = some (.slice none 0 0) := f1W 5 _ rfl; have qa6 : W.cell? ⟨w.heap.size, 6, none⟩ = some (.slice none 0 0) := f1W 6 _ rfl; clear hWW f1W)
  go_wp2_with fail
  go_loopw [8, 13] (fun s i wr => ∃ k : Nat, k ≤ n ∧ s = .int .i64 (bestZ (hitI Ts nm t) k) ∧ i = .int .i64 k ∧ Below W.heap.size W wr) (fun _ i _ => n - (intOf i).toNat)
  case atStart => exact ⟨0, Nat.zero_le _, rfl, rfl, Below.refl _ _⟩
  case round =>
    obtain ⟨k, hk, rfl, rfl, hbr⟩ := hrel
    have hzr := hbr.size
    have hbA := hbW.trans (hbr.mono hbW.size)
    by_cases hlt : k < n
    · obtain ⟨b, off, rfl, hbl, hcells⟩ := HS.out.baseIn hbA (by omega)
      obtain ⟨x, hx⟩ := HS.out.get hlt
      obtain ⟨T, hT, hTD⟩ := HA.out.at_ hx
      (have e0 : wr.cell? ⟨b, off + k * 7, none⟩ = some (.string x.name) := Sl.at_ hcells hx 0 rfl; have e1 : wr.cell? ⟨b, off + k * 7 + 1, none⟩ = some (.int .i64 x.from_) := Sl.at_ hcells hx 1 rfl; have e2 : wr.cell? ⟨b, off + k * 7 + 2, none⟩ = some (.bool x.split) := Sl.at_ hcells hx 2 rfl; have e3 : wr.cell? ⟨b, off + k * 7 + 3, none⟩ = some (.slice x.Az x.nz x.cz) := Sl.at_ hcells hx 3 rfl; have e4 : wr.cell? ⟨b, off + k * 7 + 4, none⟩ = some (.slice x.Ab x.nb x.cb) := Sl.at_ hcells hx 4 rfl; have e5 : wr.cell? ⟨b, off + k * 7 + 5, none⟩ = some (.slice x.Ar x.nr x.cr) := Sl.at_ hcells hx 5 rfl; have e6 : wr.cell? ⟨b, off + k * 7 + 6, none⟩ = some (.slice x.Ad x.nd x.cd) := Sl.at_ hcells hx 6 rfl)
      have HE := Lib.hid (show hitB nm t T = ((x.name.toList == nm.toList) && decide (x.from_ ≤ t)) by rw [hitB, hTD.name, hTD.from_])
      have HT := Lib.hid hT
      clear hcells hx hT hTD
      go_upto_region 5 with (fail)
      (obtain ⟨V, hWV, hbV, hzV, f1V, mfa⟩ := box1 wr #[.string x.name, .int .i64 x.from_, .bool x.split, .slice x.Az x.nz x.cz, .slice x.Ab x.nb x.cb, .slice x.Ar x.nr x.cr, .slice x.Ad x.nd x.cd] 32; rw [← hWV]; have ma0 : V.cell? ⟨wr.heap.size, 0, none⟩ = some (.string x.name) := f1V 0 _ rfl; have ma1 : V.cell? ⟨wr.heap.size, 1, none⟩ = some (.int .i64 x.from_) := f1V 1 _ rfl; have ma2 : V.cell? ⟨wr.heap.size, 2, none⟩ = some (.bool x.split) := f1V 2 _ rfl; have ma3 : V.cell? ⟨wr.heap.size, 3, none⟩ = some (.slice x.Az x.nz x.cz) := f1V 3 _ rfl; have ma4 : V.cell? ⟨wr.heap.size, 4, none⟩ = some (.slice x.Ab x.nb x.cb) := f1V 4 _ rfl; have ma5 : V.cell? ⟨wr.heap.size, 5, none⟩ = some (.slice x.Ar x.nr x.cr) := f1V 5 _ rfl; have ma6 : V.cell? ⟨wr.heap.size, 6, none⟩ = some (.slice x.Ad x.nd x.cd) := f1V 6 _ rfl; clear hWV f1V)
      have hbV2 := hbr.trans (hbV.mono hbr.size)
      clear e0 e1 e2 e3 e4 e5 e6 mfa
      cases hb1 : (x.name.toList == nm.toList)
      · have HF := Lib.hid (bestZ_no HT.out (HE.out.trans (by rw [hb1]; rfl)))
        go_wp2_with fail
        go_roundw
        case rel => exact ⟨k + 1, by omega, by rw [HF.out], by go_num, hbV2⟩
        case measure => simp [intOf]; omega
      · by_cases hb2 : x.from_ ≤ t
        · have HF := Lib.hid (bestZ_yes HT.out (HE.out.trans (by rw [hb1, decide_eq_true hb2]; rfl)))
          go_wp2_with fail
          go_roundw
          case rel => exact ⟨k + 1, by omega, by rw [HF.out], by go_num, hbV2⟩
          case measure => simp [intOf]; omega
        · have HF := Lib.hid (bestZ_no HT.out (HE.out.trans (by rw [hb1, decide_eq_false hb2]; rfl)))
          go_wp2_with fail
          go_roundw
          case rel => exact ⟨k + 1, by omega, by rw [HF.out], by go_num, hbV2⟩
          case measure => simp [intOf]; omega
    · obtain rfl : n = k := by omega
      have hkn : ¬ ((n : Int) < (n : Int)) := by omega
      have hbc := best_cases Ts nm t
      rw [HLen.out] at hbc
      (have eqa0 := (hbr.cell (p := ⟨_, _, none⟩) (by (try dsimp only) <;> omega)).trans qa0; have eqa1 := (hbr.cell (p := ⟨_, _, none⟩) (by (try dsimp only) <;> omega)).trans qa1; have eqa2 := (hbr.cell (p := ⟨_, _, none⟩) (by (try dsimp only) <;> omega)).trans qa2; have eqa3 := (hbr.cell (p := ⟨_, _, none⟩) (by (try dsimp only) <;> omega)).trans qa3; have eqa4 := (hbr.cell (p := ⟨_, _, none⟩) (by (try dsimp only) <;> omega)).trans qa4; have eqa5 := (hbr.cell (p := ⟨_, _, none⟩) (by (try dsimp only) <;> omega)).trans qa5; have eqa6 := (hbr.cell (p := ⟨_, _, none⟩) (by (try dsimp only) <;> omega)).trans qa6)
      have efa := fun j => (hbr.frozen (p := ⟨w.heap.size, j, none⟩) (by (try dsimp only) <;> omega)).trans (qfa j)
      clear qa0 qa1 qa2 qa3 qa4 qa5 qa6 qfa
      rcases hbc with ⟨h1, h2⟩ | ⟨i, T, h1, h2, h3⟩
      · rw [h1]
        have HQ := Lib.hid h2
        clear h1 h2
        go_wp2_with fail
        have hold := cells7 eqa0 eqa1 eqa2 eqa3 eqa4 eqa5 eqa6
        refine bodyPost_ret (results_cells2 rfl _ _ w.heap.size ⟨zeros7⟩ _ rfl (setRun_is (vs := zeros7) hold (Nat.le_refl _)) rfl rfl rfl) rfl ?_
        exact ⟨⟨zeroV, by rw [HQ.out]; rfl, by rw [HQ.out]; exact zero_td _⟩, setRun_below zeros7 w.heap.size 0 hbA (Nat.le_refl _)⟩
      · rw [h1]
        have hin : i < n := by have := (List.getElem?_eq_some_iff.1 h2).1; rw [HLen.out] at this; exact this
        obtain ⟨b, off, rfl, hbl, hcells⟩ := HS.out.baseIn hbA (by omega)
        obtain ⟨x, hx⟩ := HS.out.get hin
        (have c0 : wr.cell? ⟨b, off + i * 7, none⟩ = some (.string x.name) := Sl.at_ hcells hx 0 rfl; have c1 : wr.cell? ⟨b, off + i * 7 + 1, none⟩ = some (.int .i64 x.from_) := Sl.at_ hcells hx 1 rfl; have c2 : wr.cell? ⟨b, off + i * 7 + 2, none⟩ = some (.bool x.split) := Sl.at_ hcells hx 2 rfl; have c3 : wr.cell? ⟨b, off + i * 7 + 3, none⟩ = some (.slice x.Az x.nz x.cz) := Sl.at_ hcells hx 3 rfl; have c4 : wr.cell? ⟨b, off + i * 7 + 4, none⟩ = some (.slice x.Ab x.nb x.cb) := Sl.at_ hcells hx 4 rfl; have c5 : wr.cell? ⟨b, off + i * 7 + 5, none⟩ = some (.slice x.Ar x.nr x.cr) := Sl.at_ hcells hx 5 rfl; have c6 : wr.cell? ⟨b, off + i * 7 + 6, none⟩ = some (.slice x.Ad x.nd x.cd) := Sl.at_ hcells hx 6 rfl)
        have hcl := clone_any x T wr ((HA.out.2 i x T hx h2).on hbA) (HW.out T (List.mem_of_getElem? h2))
        unfold Tv.val at hcl
        have HC := Lib.hid hcl
        have HQ := Lib.hid h3
        have hge : ¬ ((i : Int) < 0) := by omega
        have hgr : w.heap.size < wr.heap.size := by omega
        clear h1 h2 h3 hcl hx hcells
        go_wp2_with fail
        refine HC.out.mono ?_
        rintro r w2 ⟨⟨t2, rfl, ht2⟩, hb2⟩
        have HT2 := Lib.hid ht2
        have hbT := hbA.trans (hb2.mono hbA.size)
        (have feqa0 := (hb2.cell (p := ⟨_, _, none⟩) (by (try dsimp only) <;> omega)).trans eqa0; have feqa1 := (hb2.cell (p := ⟨_, _, none⟩) (by (try dsimp only) <;> omega)).trans eqa1; have feqa2 := (hb2.cell (p := ⟨_, _, none⟩) (by (try dsimp only) <;> omega)).trans eqa2; have feqa3 := (hb2.cell (p := ⟨_, _, none⟩) (by (try dsimp only) <;> omega)).trans eqa3; have feqa4 := (hb2.cell (p := ⟨_, _, none⟩) (by (try dsimp only) <;> omega)).trans eqa4; have feqa5 := (hb2.cell (p := ⟨_, _, none⟩) (by (try dsimp only) <;> omega)).trans eqa5; have feqa6 := (hb2.cell (p := ⟨_, _, none⟩) (by (try dsimp only) <;> omega)).trans eqa6)
        have ffa := fun j => (hb2.frozen (p := ⟨w.heap.size, j, none⟩) (by (try dsimp only) <;> omega)).trans (efa j)
        clear eqa0 eqa1 eqa2 eqa3 eqa4 eqa5 eqa6 efa ht2 hb2
        go_wp2_with fail
        have hold := cells7 feqa0 feqa1 feqa2 feqa3 feqa4 feqa5 feqa6
        refine bodyPost_ret (results_cells2 rfl _ _ w.heap.size ⟨Flat.cells t2⟩ _ rfl (setRun_is (vs := Flat.cells t2) hold (Nat.le_refl _)) rfl rfl rfl) rfl ?_
        have hk1 : Keeps (fun b => wr.heap.size ≤ b) w2 (setRun w2 w.heap.size 0 (Flat.cells t2)) := setRun_keeps _ _ _ fun b hb => by omega
        refine ⟨⟨t2, by rw [HQ.out]; rfl, ?_⟩, setRun_below (Flat.cells t2) w.heap.size 0 hbT (Nat.le_refl _)⟩
        rw [HQ.out]
        exact (famT.keep HT2.out hk1).td
set_option maxHeartbeats 16000000 in
theorem refat_any (A : Option Addr) (n c : Nat) (Ts : List Td) (nm : ByteArray) (t : Int) (w : World) (h : LT w A n c Ts) :
    Calls Try.prog 15 #[.slice A n c, .string nm, .int .i64 t] w fun e w' => (∃ v : Tv, e = .returned (.tuple #[v.val, .bool (atD Ts nm t).2]) ∧ TD w' v (atD Ts nm t).1) ∧ Below w.heap.size w w' := by
  obtain ⟨_, ts, hs, ha⟩ := h
  have hn := hs.nmax
  have HS := Lib.hid hs
  have HA := Lib.hid ha
  have HLen := Lib.hid (show Ts.length = n by rw [← ha.1, hs.len])
  clear hs ha
  go_enter Try.func15, Try.ntmps15
  go_upto_region 2 with (fail)
  (obtain ⟨W, hWW, hbW, hzW, f1W, f2W, qfa, qfb⟩ := box2 w #[.string ⟨#[]⟩, .int .i64 0, .bool false, .slice none 0 0, .slice none 0 0, .slice none 0 0, .slice none 0 0] 32 #[.string ⟨#[]⟩, .int .i64 0, .bool false, .slice none 0 0, .slice none 0 0, .slice none 0 0, .slice none 0 0] 32; rw [← hWW]; have qa0 : W.cell? ⟨w.heap.size, 0, none⟩ = some (.string ⟨#[]⟩) := f1W 0 _ rfl; have qa1 : W.cell? ⟨w.heap.size, 1, none⟩ = some (.int .i64 0) := f1W 1 _ rfl; have qa2 : W.cell? ⟨w.heap.size, 2, none⟩ = some (.bool false) := f1W 2 _ rfl; have qa3 : W.cell? ⟨w.heap.size, 3, none⟩ = some (.slice none 0 0) := f1W 3 _ rfl; have qa4 : W.cell? ⟨w.heap.size, 4, none⟩ = some (.slice none 0 0) := f1W 4 _ rfl; have qa5 : W.cell? ⟨w.heap.size, 5, none⟩ = some (.slice none 0 0) := f1W 5 _ rfl; have qa6 : W.cell? ⟨w.heap.size, 6, none⟩ = some (.slice none 0 0) := f1W 6 _ rfl; have qb0 : W.cell? ⟨w.heap.size + 1, 0, none⟩ = some (.string ⟨#[]⟩) := f2W 0 _ rfl; have qb1 : W.cell? ⟨w.heap.size + 1, 1, none⟩ = some (.int .i64 0) := f2W 1 _ rfl; have qb2 : W.cell? ⟨w.heap.size + 1, 2, none⟩ = some (.bool false) := f2W 2 _ rfl; have qb3 : W.cell? ⟨w.heap.size + 1, 3, none⟩ = some (.slice none 0 0) := f2W 3 _ rfl; have qb4 : W.cell? ⟨w.heap.size + 1, 4, none⟩ = some (.slice none 0 0) := f2W 4 _ rfl; have qb5 : W.cell? ⟨w.heap.size + 1, 5, none⟩ = some (.slice none 0 0) := f2W 5 _ rfl; have qb6 : W.cell? ⟨w.heap.size + 1, 6, none⟩ = some (.slice none 0 0) := f2W 6 _ rfl; clear hWW f1W f2W)
  go_wp2_with fail
  go_loopw [9, 10] (fun s i wr => ∃ (k : Nat) (v : Tv), k ≤ n ∧ s = .bool (atK Ts nm t k).2 ∧ i = .int .i64 k ∧ Below w.heap.size w wr ∧ w.heap.size + 1 < wr.heap.size ∧ (∀ j u, (Flat.cells v)[j]? = some u → wr.cell? ⟨w.heap.size + 1, 0 + j, none⟩ = some u) ∧ (∀ j u, zeros7[j]? = some u → wr.cell? ⟨w.heap.size, 0 + j, none⟩ = some u) ∧ (∀ j, wr.frozen? ⟨w.heap.size, j, none⟩ = false) ∧ (∀ j, wr.frozen? ⟨w.heap.size + 1, j, none⟩ = false) ∧ TD w v (atK Ts nm t k).1) (fun _ i _ => n - (intOf i).toNat)
  case atStart => exact ⟨0, zeroV, Nat.zero_le _, rfl, rfl, hbW, hzW, cells7 qb0 qb1 qb2 qb3 qb4 qb5 qb6, cells7 qa0 qa1 qa2 qa3 qa4 qa5 qa6, qfa, qfb, zero_td w⟩
  case round =>
    clear qa0 qa1 qa2 qa3 qa4 qa5 qa6 qb0 qb1 qb2 qb3 qb4 qb5 qb6 qfa qfb hbW hzW
    obtain ⟨k, v, hk, rfl, rfl, hbA, hgr, hv, hz, hfa, hfb, htd⟩ := hrel
    have HV := Lib.hid hv
    have HZ := Lib.hid hz
    have HTD := Lib.hid htd
    have g0 := hv 0 _ rfl
    have g1 := hv 1 _ rfl
    have g2 := hv 2 _ rfl
    have g3 := hv 3 _ rfl
    have g4 := hv 4 _ rfl
    have g5 := hv 5 _ rfl
    have g6 := hv 6 _ rfl
    rw [Nat.zero_add] at g0 g1 g2 g3 g4 g5 g6
    clear hv hz htd
    by_cases hlt : k < n
    · obtain ⟨b, off, rfl, hbl, hcells⟩ := HS.out.baseIn hbA (by omega)
      obtain ⟨x, hx⟩ := HS.out.get hlt
      obtain ⟨T, hT, hXD⟩ := HA.out.at_ hx
      (have e0 : wr.cell? ⟨b, off + k * 7, none⟩ = some (.string x.name) := Sl.at_ hcells hx 0 rfl; have e1 : wr.cell? ⟨b, off + k * 7 + 1, none⟩ = some (.int .i64 x.from_) := Sl.at_ hcells hx 1 rfl; have e2 : wr.cell? ⟨b, off + k * 7 + 2, none⟩ = some (.bool x.split) := Sl.at_ hcells hx 2 rfl; have e3 : wr.cell? ⟨b, off + k * 7 + 3, none⟩ = some (.slice x.Az x.nz x.cz) := Sl.at_ hcells hx 3 rfl; have e4 : wr.cell? ⟨b, off + k * 7 + 4, none⟩ = some (.slice x.Ab x.nb x.cb) := Sl.at_ hcells hx 4 rfl; have e5 : wr.cell? ⟨b, off + k * 7 + 5, none⟩ = some (.slice x.Ar x.nr x.cr) := Sl.at_ hcells hx 5 rfl; have e6 : wr.cell? ⟨b, off + k * 7 + 6, none⟩ = some (.slice x.Ad x.nd x.cd) := Sl.at_ hcells hx 6 rfl)
      have HE := Lib.hid (show hitB nm t T = ((x.name.toList == nm.toList) && decide (x.from_ ≤ t)) by rw [hitB, hXD.name, hXD.from_])
      have HT := Lib.hid hT
      have HXD := Lib.hid hXD
      clear hcells hx hT hXD
      cases hb1 : (x.name.toList == nm.toList)
      · have HF := Lib.hid (atK_no HT.out (HE.out.trans (by rw [hb1]; rfl)))
        go_wp2_with fail
        go_roundw
        case rel => exact ⟨k + 1, v, by omega, by rw [HF.out], by go_num, hbA, hgr, HV.out, HZ.out, hfa, hfb, by rw [HF.out]; exact HTD.out⟩
        case measure => simp [intOf]; omega
      · by_cases hb2 : x.from_ ≤ t
        · have HF := Lib.hid (atK_yes HT.out (HE.out.trans (by rw [hb1, decide_eq_true hb2]; rfl)))
          go_wp2_with fail
          go_roundw
          case rel => exact ⟨k + 1, x, by omega, by rw [HF.out], by go_num, setRun_below (Flat.cells x) (w.heap.size + 1) 0 hbA (by omega), (show w.heap.size + 1 < (setRun wr (w.heap.size + 1) 0 (Flat.cells x)).heap.size by rw [setRun_size]; exact hgr), setRun_at (Flat.cells x) wr (w.heap.size + 1) 0 _ HV.out (Nat.le_refl _), fun j u hu => (setRun_far (Flat.cells x) wr (w.heap.size + 1) 0 w.heap.size (0 + j) (by omega)).trans (HZ.out j u hu), fun j => (setRun_frozen (Flat.cells x) wr _ 0 _ _).trans (hfa j), fun j => (setRun_frozen (Flat.cells x) wr _ 0 _ _).trans (hfb j), by rw [HF.out]; exact HXD.out⟩
          case measure => simp [intOf]; omega
        · have HF := Lib.hid (atK_no HT.out (HE.out.trans (by rw [hb1, decide_eq_false hb2]; rfl)))
          go_wp2_with fail
          go_roundw
          case rel => exact ⟨k + 1, v, by omega, by rw [HF.out], by go_num, hbA, hgr, HV.out, HZ.out, hfa, hfb, by rw [HF.out]; exact HTD.out⟩
          case measure => simp [intOf]; omega
    · obtain rfl : n = k := by omega
      have hkn : ¬ ((n : Int) < (n : Int)) := by omega
      have HQ := Lib.hid (show atD Ts nm t = atK Ts nm t n by rw [atD, HLen.out])
      obtain ⟨r, hr⟩ : ∃ r, (atK Ts nm t n).2 = r := ⟨_, rfl⟩
      rw [hr]
      have HR := Lib.hid hr
      have z0 := HZ.out 0 _ rfl
      have z1 := HZ.out 1 _ rfl
      have z2 := HZ.out 2 _ rfl
      have z3 := HZ.out 3 _ rfl
      have z4 := HZ.out 4 _ rfl
      have z5 := HZ.out 5 _ rfl
      have z6 := HZ.out 6 _ rfl
      rw [Nat.zero_add] at z0 z1 z2 z3 z4 z5 z6
      clear hr
      go_wp2_with fail
      refine bodyPost_ret (results_cells2 rfl _ _ w.heap.size ⟨Flat.cells v⟩ _ rfl (setRun_is (vs := Flat.cells v) HZ.out (Nat.le_refl _)) rfl rfl rfl) rfl ?_
      refine ⟨⟨v, by rw [HQ.out, HR.out]; rfl, ?_⟩, setRun_below (Flat.cells v) w.heap.size 0 hbA (Nat.le_refl _)⟩
      rw [HQ.out]
      exact HTD.out.on (setRun_below (Flat.cells v) w.heap.size 0 hbA (Nat.le_refl _))
end Cv
namespace Cv
open Xp Ck
def inP (nm : ByteArray) (f t : Int) (T : Td) : Bool := (T.name.toList == nm.toList) && (decide (f ≤ T.from_) && decide (T.from_ < t))
def chgL (Ts : List Td) (nm : ByteArray) (f t : Int) : List Int := (Ts.filter (inP nm f t)).map (·.from_)
def chgD (Ts : List Td) (nm : ByteArray) (f t : Int) : List Int := if f < 0 ∨ t ≤ f ∨ 12622780800 < t then [] else chgL Ts nm f t
theorem chgL_yes {Ts : List Td} {nm : ByteArray} {f t : Int} {k : Nat} {T : Td} (h : Ts[k]? = some T) (hh : inP nm f t T = true) : chgL (Ts.take (k + 1)) nm f t = chgL (Ts.take k) nm f t ++ [T.from_] := by
  unfold chgL; rw [List.take_add_one, h]; simp [List.filter_append, hh]
theorem chgL_no {Ts : List Td} {nm : ByteArray} {f t : Int} {k : Nat} {T : Td} (h : Ts[k]? = some T) (hh : inP nm f t T = false) : chgL (Ts.take (k + 1)) nm f t = chgL (Ts.take k) nm f t := by
  unfold chgL; rw [List.take_add_one, h]; simp [List.filter_append, hh]
theorem chgL_len (Ts : List Td) (nm : ByteArray) (f t : Int) : (chgL Ts nm f t).length ≤ Ts.length := by unfold chgL; rw [List.length_map]; exact List.length_filter_le _ _
theorem ret_sl {A : Option Addr} {n c : Nat} {w : World} {xs : List Int} {P : Prop} (h : Sl w A n c xs) (hp : P) : (∃ A' n' c', Ending.returned (.slice A n c) = .returned (.slice A' n' c') ∧ Sl w A' n' c' xs) ∧ P := ⟨⟨A, n, c, rfl, h⟩, hp⟩
set_option maxHeartbeats 16000000 in
theorem changes_any (A : Option Addr) (n c : Nat) (Ts : List Td) (nm : ByteArray) (f t : Int) (w : World) (h : LT w A n c Ts) (hn9 : n ≤ 1000) :
    Calls Try.prog 17 #[.slice A n c, .string nm, .agg #[.int .i64 f, .int .i64 t]] w fun e w' => (∃ A' n' c', e = .returned (.slice A' n' c') ∧ Sl w' A' n' c' (chgD Ts nm f t)) ∧ Below w.heap.size w w' := by
  obtain ⟨_, ts, hs, ha⟩ := h
  have hn := hs.nmax
  have HS := Lib.hid hs
  have HA := Lib.hid ha
  have HLen := Lib.hid (show Ts.length = n by rw [← ha.1, hs.len])
  clear hs ha
  by_cases hb : f < 0 ∨ t ≤ f ∨ 12622780800 < t
  · have HQ := Lib.hid (show chgD Ts nm f t = [] by rw [chgD, if_pos hb])
    rcases (show f < 0 ∨ (¬ f < 0 ∧ t ≤ f) ∨ (¬ f < 0 ∧ ¬ t ≤ f ∧ 12622780800 < t) by omega) with h1 | ⟨h1, h2⟩ | ⟨h1, h2, h3⟩
    all_goals
      clear hb
      go_enter Try.func17, Try.ntmps17
      go_wp2_with fail
      go_ret
      refine ret_sl ?_ ((Below.refl _ _).alloc (Nat.le_refl _) _)
      rw [HQ.out]
      exact Sl.nil_ _
  have HQ := Lib.hid (show chgD Ts nm f t = chgL Ts nm f t by rw [chgD, if_neg hb])
  have g1 : ¬ f < 0 := by omega
  have g2 : ¬ t ≤ f := by omega
  have g3 : ¬ 12622780800 < t := by omega
  clear hb
  go_enter Try.func17, Try.ntmps17
  go_upto_region 1 with (fail)
  (obtain ⟨W, hWW, hbW, hzW, f1W, qfa⟩ := box1 w #[.int .i64 f, .int .i64 t] 38; rw [← hWW]; have qa0 : W.cell? ⟨w.heap.size, 0, none⟩ = some (.int .i64 f) := f1W 0 _ rfl; have qa1 : W.cell? ⟨w.heap.size, 1, none⟩ = some (.int .i64 t) := f1W 1 _ rfl; clear hWW f1W)
  go_wp2_with fail
  go_loopw [7, 27] (fun s i wr => ∃ (k : Nat), k ≤ n ∧ i = .int .i64 k ∧ Ow wr W.heap.size 3 s (chgL (Ts.take k) nm f t) ∧ Below W.heap.size W wr) (fun _ i _ => n - (intOf i).toNat)
  case atStart => exact ⟨0, Nat.zero_le _, rfl, Ow.nil_ _ _ _, Below.refl _ _⟩
  case round =>
    obtain ⟨k, hk, rfl, how, hbr⟩ := hrel
    have HO := Lib.hid how
    have hlk : (chgL (Ts.take k) nm f t).length ≤ 1000 := by have h1 := chgL_len (Ts.take k) nm f t; have h2 := HLen.out; rw [List.length_take] at h1; omega
    have HLK := Lib.hid hlk
    clear how hlk
    have hzr := hbr.size
    have hbA := hbW.trans (hbr.mono hbW.size)
    by_cases hlt : k < n
    · obtain ⟨b, off, rfl, hbl, hcells⟩ := HS.out.baseIn hbA (by omega)
      obtain ⟨x, hx⟩ := HS.out.get hlt
      obtain ⟨T, hT, hXD⟩ := HA.out.at_ hx
      (have e0 : wr.cell? ⟨b, off + k * 7, none⟩ = some (.string x.name) := Sl.at_ hcells hx 0 rfl; have e1 : wr.cell? ⟨b, off + k * 7 + 1, none⟩ = some (.int .i64 x.from_) := Sl.at_ hcells hx 1 rfl; have e2 : wr.cell? ⟨b, off + k * 7 + 2, none⟩ = some (.bool x.split) := Sl.at_ hcells hx 2 rfl; have e3 : wr.cell? ⟨b, off + k * 7 + 3, none⟩ = some (.slice x.Az x.nz x.cz) := Sl.at_ hcells hx 3 rfl; have e4 : wr.cell? ⟨b, off + k * 7 + 4, none⟩ = some (.slice x.Ab x.nb x.cb) := Sl.at_ hcells hx 4 rfl; have e5 : wr.cell? ⟨b, off + k * 7 + 5, none⟩ = some (.slice x.Ar x.nr x.cr) := Sl.at_ hcells hx 5 rfl; have e6 : wr.cell? ⟨b, off + k * 7 + 6, none⟩ = some (.slice x.Ad x.nd x.cd) := Sl.at_ hcells hx 6 rfl)
      have HE := Lib.hid (show inP nm f t T = ((x.name.toList == nm.toList) && (decide (f ≤ x.from_) && decide (x.from_ < t))) by rw [inP, hXD.name, hXD.from_])
      have HFR := Lib.hid hXD.from_
      have HT := Lib.hid hT
      clear hcells hx hT hXD
      go_upto_region 7 with (fail)
      (obtain ⟨V, hWV, hbV, hzV, f1V, mfa⟩ := box1 wr #[.string x.name, .int .i64 x.from_, .bool x.split, .slice x.Az x.nz x.cz, .slice x.Ab x.nb x.cb, .slice x.Ar x.nr x.cr, .slice x.Ad x.nd x.cd] 32; rw [← hWV]; have ma0 : V.cell? ⟨wr.heap.size, 0, none⟩ = some (.string x.name) := f1V 0 _ rfl; have ma1 : V.cell? ⟨wr.heap.size, 1, none⟩ = some (.int .i64 x.from_) := f1V 1 _ rfl; have ma2 : V.cell? ⟨wr.heap.size, 2, none⟩ = some (.bool x.split) := f1V 2 _ rfl; have ma3 : V.cell? ⟨wr.heap.size, 3, none⟩ = some (.slice x.Az x.nz x.cz) := f1V 3 _ rfl; have ma4 : V.cell? ⟨wr.heap.size, 4, none⟩ = some (.slice x.Ab x.nb x.cb) := f1V 4 _ rfl; have ma5 : V.cell? ⟨wr.heap.size, 5, none⟩ = some (.slice x.Ar x.nr x.cr) := f1V 5 _ rfl; have ma6 : V.cell? ⟨wr.heap.size, 6, none⟩ = some (.slice x.Ad x.nd x.cd) := f1V 6 _ rfl; clear hWV f1V)
      have hbV2 := hbr.trans (hbV.mono hbr.size)
      have HOV := Lib.hid (HO.out.below hbV)
      have hv0 := (hbV2.cell (p := ⟨_, _, none⟩) (by (try dsimp only) <;> omega)).trans qa0
      have hv1 := (hbV2.cell (p := ⟨_, _, none⟩) (by (try dsimp only) <;> omega)).trans qa1
      have hzV2 := hbV2.size
      clear e0 e1 e2 e3 e4 e5 e6 mfa HO
      cases hb1 : (x.name.toList == nm.toList)
      case' true => by_cases hb2 : f ≤ x.from_
      case' pos => by_cases hb3 : x.from_ < t
      case pos =>
        have HF := Lib.hid (chgL_yes HT.out (HE.out.trans (by rw [hb1, decide_eq_true hb2, decide_eq_true hb3]; rfl)))
        go_wp2_with (at_builtin; go_must (
          refine wpl_append1 _ rfl (.tmp 49) (.tmp 52) 39 rfl W.heap.size 3 _ 8 Try.underlying39 info_int rfl _ (chgL (Ts.take k) nm f t) rfl (HOV.out.alloc _) _ x.from_ rfl (fun j u hu => cells_new _ _ _ _ _ (by simp) u hu) (by have := HLK.out; omega) (by omega) (by rw [alloc_size]; omega) ?_
          intro v3 w3 hown3 hu3
          have hbv3 := hu3.belowBase (HOV.out.alloc _) (hbV2.alloc hzV2 _) (by rw [alloc_size]; omega)
          have HO3 := Lib.hid hown3
          clear hu3 hown3))
        go_roundw
        case rel => exact ⟨k + 1, by omega, by go_num, by rw [HF.out, ← HFR.out]; exact HO3.out, hbv3⟩
        case measure => simp [intOf]; omega
      all_goals
        have HF := Lib.hid (chgL_no HT.out (HE.out.trans (by first | (rw [hb1]; rfl) | (rw [decide_eq_false hb2]; simp) | (rw [decide_eq_false hb3]; simp))))
        go_wp2_with fail
        go_roundw
        case rel => exact ⟨k + 1, by omega, by go_num, by rw [HF.out]; exact HOV.out, hbV2⟩
        case measure => simp [intOf]; omega
    · obtain rfl : n = k := by omega
      have hkn : ¬ ((n : Int) < (n : Int)) := by omega
      have HT := Lib.hid (show Ts.take n = Ts from List.take_of_length_le (by have := HLen.out; omega))
      obtain ⟨A', c', hv, hs'⟩ := HO.out.sl
      rw [HT.out] at hs' hv
      have HS' := Lib.hid hs'
      clear hs'
      subst hv
      go_wp2_with fail
      go_ret
      refine ret_sl ?_ hbA
      rw [HQ.out]
      exact HS'.out
set_option maxHeartbeats 16000000 in
theorem refchanges_any (A : Option Addr) (n c : Nat) (Ts : List Td) (nm : ByteArray) (f t : Int) (w : World) (h : LT w A n c Ts) (hn9 : n ≤ 1000) :
    Calls Try.prog 18 #[.slice A n c, .string nm, .agg #[.int .i64 f, .int .i64 t]] w fun e w' => (∃ A' n' c', e = .returned (.slice A' n' c') ∧ Sl w' A' n' c' (chgD Ts nm f t)) ∧ Below w.heap.size w w' := by
  obtain ⟨_, ts, hs, ha⟩ := h
  have hn := hs.nmax
  have HS := Lib.hid hs
  have HA := Lib.hid ha
  have HLen := Lib.hid (show Ts.length = n by rw [← ha.1, hs.len])
  clear hs ha
  by_cases hb : f < 0 ∨ t ≤ f ∨ 12622780800 < t
  · have HQ := Lib.hid (show chgD Ts nm f t = [] by rw [chgD, if_pos hb])
    rcases (show f < 0 ∨ (¬ f < 0 ∧ t ≤ f) ∨ (¬ f < 0 ∧ ¬ t ≤ f ∧ 12622780800 < t) by omega) with h1 | ⟨h1, h2⟩ | ⟨h1, h2, h3⟩
    all_goals
      clear hb
      go_enter Try.func18, Try.ntmps18
      go_wp2_with fail
      go_ret
      refine ret_sl ?_ ((Below.refl _ _).alloc (Nat.le_refl _) _)
      rw [HQ.out]
      exact Sl.nil_ _
  have HQ := Lib.hid (show chgD Ts nm f t = chgL Ts nm f t by rw [chgD, if_neg hb])
  have g1 : ¬ f < 0 := by omega
  have g2 : ¬ t ≤ f := by omega
  have g3 : ¬ 12622780800 < t := by omega
  clear hb
  go_enter Try.func18, Try.ntmps18
  go_upto_region 1 with (fail)
  (obtain ⟨W, hWW, hbW, hzW, f1W, qfa⟩ := box1 w #[.int .i64 f, .int .i64 t] 38; rw [← hWW]; have qa0 : W.cell? ⟨w.heap.size, 0, none⟩ = some (.int .i64 f) := f1W 0 _ rfl; have qa1 : W.cell? ⟨w.heap.size, 1, none⟩ = some (.int .i64 t) := f1W 1 _ rfl; clear hWW f1W)
  go_wp2_with fail
  go_loopw [7, 8] (fun s i wr => ∃ (k : Nat), k ≤ n ∧ i = .int .i64 k ∧ Ow wr W.heap.size 3 s (chgL (Ts.take k) nm f t) ∧ Below W.heap.size W wr) (fun _ i _ => n - (intOf i).toNat)
  case atStart => exact ⟨0, Nat.zero_le _, rfl, Ow.nil_ _ _ _, Below.refl _ _⟩
  case round =>
    obtain ⟨k, hk, rfl, how, hbr⟩ := hrel
    have HO := Lib.hid how
    have hlk : (chgL (Ts.take k) nm f t).length ≤ 1000 := by have h1 := chgL_len (Ts.take k) nm f t; have h2 := HLen.out; rw [List.length_take] at h1; omega
    have HLK := Lib.hid hlk
    clear how hlk
    have hzr := hbr.size
    have hbA := hbW.trans (hbr.mono hbW.size)
    by_cases hlt : k < n
    · obtain ⟨b, off, rfl, hbl, hcells⟩ := HS.out.baseIn hbA (by omega)
      obtain ⟨x, hx⟩ := HS.out.get hlt
      obtain ⟨T, hT, hXD⟩ := HA.out.at_ hx
      (have e0 : wr.cell? ⟨b, off + k * 7, none⟩ = some (.string x.name) := Sl.at_ hcells hx 0 rfl; have e1 : wr.cell? ⟨b, off + k * 7 + 1, none⟩ = some (.int .i64 x.from_) := Sl.at_ hcells hx 1 rfl; have e2 : wr.cell? ⟨b, off + k * 7 + 2, none⟩ = some (.bool x.split) := Sl.at_ hcells hx 2 rfl; have e3 : wr.cell? ⟨b, off + k * 7 + 3, none⟩ = some (.slice x.Az x.nz x.cz) := Sl.at_ hcells hx 3 rfl; have e4 : wr.cell? ⟨b, off + k * 7 + 4, none⟩ = some (.slice x.Ab x.nb x.cb) := Sl.at_ hcells hx 4 rfl; have e5 : wr.cell? ⟨b, off + k * 7 + 5, none⟩ = some (.slice x.Ar x.nr x.cr) := Sl.at_ hcells hx 5 rfl; have e6 : wr.cell? ⟨b, off + k * 7 + 6, none⟩ = some (.slice x.Ad x.nd x.cd) := Sl.at_ hcells hx 6 rfl)
      have HE := Lib.hid (show inP nm f t T = ((x.name.toList == nm.toList) && (decide (f ≤ x.from_) && decide (x.from_ < t))) by rw [inP, hXD.name, hXD.from_])
      have HFR := Lib.hid hXD.from_
      have HT := Lib.hid hT
      clear hcells hx hT hXD
      have hbV2 := hbr
      have HOV := HO
      have hv0 := (hbV2.cell (p := ⟨_, _, none⟩) (by (try dsimp only) <;> omega)).trans qa0
      have hv1 := (hbV2.cell (p := ⟨_, _, none⟩) (by (try dsimp only) <;> omega)).trans qa1
      have hzV2 := hbV2.size
      clear HO
      cases hb1 : (x.name.toList == nm.toList)
      case' true => by_cases hb2 : f ≤ x.from_
      case' pos => by_cases hb3 : x.from_ < t
      case pos =>
        have HF := Lib.hid (chgL_yes HT.out (HE.out.trans (by rw [hb1, decide_eq_true hb2, decide_eq_true hb3]; rfl)))
        go_upto_region 7 with (fail)
        ((with_reducible refine wp_region_quiet_lit ?_ ?_ ?_); kernel_rfl; kernel_rfl; (repeat (any_goals (first | go_big_quiet_step (fail) | (refine wpQuiet_step (fun K hK => ?_); go_simp; (first | (refine hK _ ?_; clear hK K) | (split <;> rename_i hg <;> (refine hK _ ?_; clear hK K) <;> (try simp only [Bool.not_eq_true] at hg) <;> (first | simp only [Int.not_lt.2 hg, decide_false] | simp only [Int.not_le.1 hg, decide_true] | simp only [hg, decide_true, decide_false] | skip))))))); all_goals (refine wpQuiet_nil ?_; intro _ hw'; obtain ⟨nq, hw''⟩ := hw'; subst hw''))
        replace HOV := Lib.hid (HOV.out.drewN nq)
        replace hbV2 := below_drewN hbV2 nq
        replace hzV2 : W.heap.size ≤ (wr.drewN nq).heap.size := hzV2
        go_wp2_with (at_builtin; go_must (
          refine wpl_append1 _ rfl (.tmp 57) (.tmp 63) 39 rfl W.heap.size 3 _ 8 Try.underlying39 info_int rfl _ (chgL (Ts.take k) nm f t) rfl (HOV.out.alloc _) _ x.from_ rfl (fun j u hu => cells_new _ _ _ _ _ (by simp) u hu) (by have := HLK.out; omega) (by omega) (by rw [alloc_size]; omega) ?_
          intro v3 w3 hown3 hu3
          have hbv3 := hu3.belowBase (HOV.out.alloc _) (hbV2.alloc hzV2 _) (by rw [alloc_size]; omega)
          have HO3 := Lib.hid hown3
          clear hu3 hown3))
        go_roundw
        case rel => exact ⟨k + 1, by omega, by go_num, by rw [HF.out, ← HFR.out]; exact HO3.out, hbv3⟩
        case measure => simp [intOf]; omega
      all_goals
        have HF := Lib.hid (chgL_no HT.out (HE.out.trans (by first | (rw [hb1]; rfl) | (rw [decide_eq_false hb2]; simp) | (rw [decide_eq_false hb3]; simp))))
        go_upto_region 7 with (fail)
        ((with_reducible refine wp_region_quiet_lit ?_ ?_ ?_); kernel_rfl; kernel_rfl; (repeat (any_goals (first | go_big_quiet_step (fail) | (refine wpQuiet_step (fun K hK => ?_); go_simp; (first | (refine hK _ ?_; clear hK K) | (split <;> rename_i hg <;> (refine hK _ ?_; clear hK K) <;> (try simp only [Bool.not_eq_true] at hg) <;> (first | simp only [Int.not_lt.2 hg, decide_false] | simp only [Int.not_le.1 hg, decide_true] | simp only [hg, decide_true, decide_false] | skip))))))); all_goals (refine wpQuiet_nil ?_; intro _ hw'; obtain ⟨nq, hw''⟩ := hw'; subst hw''))
        replace HOV := Lib.hid (HOV.out.drewN nq)
        replace hbV2 := below_drewN hbV2 nq
        go_wp2_with fail
        go_roundw
        case rel => exact ⟨k + 1, by omega, by go_num, by rw [HF.out]; exact HOV.out, hbV2⟩
        case measure => simp [intOf]; omega
    · obtain rfl : n = k := by omega
      have hkn : ¬ ((n : Int) < (n : Int)) := by omega
      have HT := Lib.hid (show Ts.take n = Ts from List.take_of_length_le (by have := HLen.out; omega))
      obtain ⟨A', c', hv, hs'⟩ := HO.out.sl
      rw [HT.out] at hs' hv
      have HS' := Lib.hid hs'
      clear hs'
      subst hv
      go_wp2_with fail
      go_ret
      refine ret_sl ?_ hbA
      rw [HQ.out]
      exact HS'.out
end Cv
end Go.Proofs.Ytdnnnajohdohaaa
