/-
  Tariffs: small. No condition.
-/
import Derived.Test.YtdnnnajohdohaaaT8C
import Derived.Test.YtdnnnajohdohaaaExY
import Derived.BigQuiet
import Derived.StillTailTactics
import Derived.Lib.Overlaps
import Derived.Deep.DeepCutAuto
import Derived.Deep.RegionWith
import Derived.Laws.RangeAny
set_option maxRecDepth 100000
set_option linter.unusedVariables false
set_option linter.unusedSimpArgs false
namespace Go.Proofs.Ytdnnnajohdohaaa
open Go.RowKit

namespace Cv
open Xp Ck
def SmP (e : Ending) (q : Prop) : Prop := ∃ m : Bool, e = .returned (.bool m) ∧ (m = true → q)
theorem SmP.no (q : Prop) : SmP (.returned (.bool false)) q := ⟨false, rfl, fun h => (by cases h)⟩
theorem SmP.mk' (m : Bool) {q : Prop} (h : q) : SmP (.returned (.bool m)) q := ⟨m, rfl, fun _ => h⟩
set_option maxHeartbeats 16000000 in
theorem tsmall_any (t : Tv) (zs bs : List Nm) (rs : List Rt) (ds : List Dq) (w : World) (h : Tok w t zs bs rs ds) :
    Calls Try.prog 22 #[t.val] w fun e w' => SmP e (t.nz ≤ 70 ∧ t.nb ≤ 70 ∧ t.nr ≤ 70 ∧ t.nd ≤ 70) ∧ Below w.heap.size w w' := by
  obtain ⟨hz, zk, hb, bk, hr, rk, hd, dk⟩ := h
  obtain ⟨name, from_, split, Az, nz, cz, Ab, nb, cb, Ar, nr, cr, Ad, nd, cd⟩ := t
  dsimp only at hz hb hr hd
  have hnz := hz.nmax
  have hnb := hb.nmax
  have hnr := hr.nmax
  have hnd := hd.nmax
  have HZ := Lib.hid hz
  have HB := Lib.hid hb
  have HR := Lib.hid hr
  have HD := Lib.hid hd
  have ZK := Lib.hid zk
  have DK := Lib.hid dk
  clear hz hb hr hd zk dk bk rk
  unfold Tv.val
  dsimp only at hnz hnb ⊢
  by_cases h1 : (70 : Int) < (nz : Int) ∨ (70 : Int) < (nb : Int) ∨ (70 : Int) < (nr : Int) ∨ (70 : Int) < (nd : Int)
  · by_cases g1 : (70 : Int) < (nz : Int) <;> by_cases g2 : (70 : Int) < (nb : Int) <;> by_cases g3 : (70 : Int) < (nr : Int) <;> by_cases g4 : (70 : Int) < (nd : Int)
    all_goals first
    | (exfalso; omega)
    | (clear h1
       go_enter Try.func22, Try.ntmps22
       go_wp2_with fail
       go_ret
       exact ⟨SmP.no _, (Below.refl _ _).alloc (Nat.le_refl _) _⟩)
  have g1 : ¬ (70 : Int) < (nz : Int) := by omega
  have g2 : ¬ (70 : Int) < (nb : Int) := by omega
  have g3 : ¬ (70 : Int) < (nr : Int) := by omega
  have g4 : ¬ (70 : Int) < (nd : Int) := by omega
  have HQ : Hid (nz ≤ 70 ∧ nb ≤ 70 ∧ nr ≤ 70 ∧ nd ≤ 70) := Lib.hid ⟨by omega, by omega, by omega, by omega⟩
  clear h1
  go_enter Try.func22, Try.ntmps22
  go_upto_region 1 with (fail)
  (obtain ⟨W, hWW, hbW, hzW, f1W, qfa⟩ := box1 w #[.string name, .int .i64 from_, .bool split, .slice Az nz cz, .slice Ab nb cb, .slice Ar nr cr, .slice Ad nd cd] 32; rw [← hWW]; have qa0 : W.cell? ⟨w.heap.size, 0, none⟩ = some (.string name) := f1W 0 _ rfl; have qa1 : W.cell? ⟨w.heap.size, 1, none⟩ = some (.int .i64 from_) := f1W 1 _ rfl; have qa2 : W.cell? ⟨w.heap.size, 2, none⟩ = some (.bool split) := f1W 2 _ rfl; have qa3 : W.cell? ⟨w.heap.size, 3, none⟩ = some (.slice Az nz cz) := f1W 3 _ rfl; have qa4 : W.cell? ⟨w.heap.size, 4, none⟩ = some (.slice Ab nb cb) := f1W 4 _ rfl; have qa5 : W.cell? ⟨w.heap.size, 5, none⟩ = some (.slice Ar nr cr) := f1W 5 _ rfl; have qa6 : W.cell? ⟨w.heap.size, 6, none⟩ = some (.slice Ad nd cd) := f1W 6 _ rfl; clear hWW f1W)
  go_wp2_with fail
  go_loopw [3, 4] (fun s i wr => ∃ (k : Nat) (m : Int), k ≤ nz ∧ s = .int .i64 m ∧ i = .int .i64 k ∧ Below W.heap.size W wr) (fun _ i _ => nz - (intOf i).toNat)
  case atStart => exact ⟨0, _, Nat.zero_le _, rfl, rfl, Below.refl _ _⟩
  case round =>
    obtain ⟨k, m, hk, rfl, rfl, hbr⟩ := hrel
    have hzr := hbr.size
    have hbA := hbW.trans (hbr.mono hbW.size)
    (have eqa3 := (hbr.cell (p := ⟨_, _, none⟩) (by (try dsimp only) <;> omega)).trans qa3; have eqa4 := (hbr.cell (p := ⟨_, _, none⟩) (by (try dsimp only) <;> omega)).trans qa4; have eqa5 := (hbr.cell (p := ⟨_, _, none⟩) (by (try dsimp only) <;> omega)).trans qa5; have eqa6 := (hbr.cell (p := ⟨_, _, none⟩) (by (try dsimp only) <;> omega)).trans qa6)
    by_cases hlt : k < nz
    · obtain ⟨b, off, rfl, hbl, hcells0⟩ := HZ.out.base (by omega)
      obtain ⟨x, hx⟩ := HZ.out.get hlt
      have d0 : w.cell? ⟨b, off + k * 2 + 1, none⟩ = some (.slice x.A x.n x.c) := Sl.at_ hcells0 hx 1 rfl
      have d1 := (hbA.cell (p := ⟨_, _, none⟩) (by (try dsimp only) <;> omega)).trans d0
      obtain ⟨ps, hps⟩ := ZK.out x (List.mem_of_getElem? hx)
      have hxn := hps.nmax
      have HP := Lib.hid hps
      clear hcells0 hx hps
      go_wp2_with fail
      go_loopw [5] (fun i wi => ∃ j : Nat, j ≤ x.n ∧ i = .int .i64 j ∧ Below W.heap.size W wi) (fun i _ => x.n - (intOf i).toNat)
      case atStart => exact ⟨0, Nat.zero_le _, rfl, hbr⟩
      case round =>
        clear hbr hbA d1
        obtain ⟨j, hj, rfl, hbr⟩ := hrel
        have hzr := hbr.size
        have hbA := hbW.trans (hbr.mono hbW.size)
        have d1 := (hbA.cell (p := ⟨_, _, none⟩) (by (try dsimp only) <;> omega)).trans d0
        (have eqa3 := (hbr.cell (p := ⟨_, _, none⟩) (by (try dsimp only) <;> omega)).trans qa3; have eqa4 := (hbr.cell (p := ⟨_, _, none⟩) (by (try dsimp only) <;> omega)).trans qa4; have eqa5 := (hbr.cell (p := ⟨_, _, none⟩) (by (try dsimp only) <;> omega)).trans qa5; have eqa6 := (hbr.cell (p := ⟨_, _, none⟩) (by (try dsimp only) <;> omega)).trans qa6)
        by_cases hltj : j < x.n
        · obtain ⟨A1, hA1⟩ : ∃ A1, x.A = A1 := ⟨_, rfl⟩
          rw [hA1] at HP d0 d1
          obtain ⟨b1, off1, rfl, hbl1, hcells⟩ := Sl.one rfl (HP.out.below hbA) (by omega)
          obtain ⟨y, hy⟩ := HP.out.get hltj
          have y0 : wr.cell? ⟨b1, off1 + j, none⟩ = some (.string y) := hcells j y _ hy rfl
          clear hcells hy
          by_cases h100 : (100 : Int) < (y.size : Int)
          · go_wp2_with fail
            go_ret
            exact ⟨SmP.no _, hbA⟩
          · go_wp2_with fail
            go_roundw
            case rel => exact ⟨j + 1, by omega, by go_num, hbr⟩
            case measure => simp [intOf]; omega
        · have hjn : ¬ ((j : Int) < (x.n : Int)) := by omega
          go_wp2_with fail
          go_roundw
          case rel => exact ⟨k + 1, _, by omega, rfl, by go_num, hbr⟩
          case measure => simp [intOf]; omega
    · obtain rfl : k = nz := by omega
      have hkn : ¬ ((k : Int) < (k : Int)) := by omega
      go_wp2_with fail
      go_loopw [3, 6] (fun s i wr => ∃ (k : Nat) (m : Int), k ≤ nb ∧ s = .int .i64 m ∧ i = .int .i64 k ∧ Below W.heap.size W wr) (fun _ i _ => nb - (intOf i).toNat)
      case atStart => exact ⟨0, _, Nat.zero_le _, rfl, rfl, hbr⟩
      case round =>
        clear hbr hbA
        obtain ⟨k, m, hk, rfl, rfl, hbr⟩ := hrel
        have hzr := hbr.size
        have hbA := hbW.trans (hbr.mono hbW.size)
        (have eqa3 := (hbr.cell (p := ⟨_, _, none⟩) (by (try dsimp only) <;> omega)).trans qa3; have eqa4 := (hbr.cell (p := ⟨_, _, none⟩) (by (try dsimp only) <;> omega)).trans qa4; have eqa5 := (hbr.cell (p := ⟨_, _, none⟩) (by (try dsimp only) <;> omega)).trans qa5; have eqa6 := (hbr.cell (p := ⟨_, _, none⟩) (by (try dsimp only) <;> omega)).trans qa6)
        by_cases hlt : k < nb
        · obtain ⟨b, off, rfl, hbl, hcells⟩ := HB.out.baseIn hbA (by omega)
          obtain ⟨x, hx⟩ := HB.out.get hlt
          have d1 : wr.cell? ⟨b, off + k * 2 + 1, none⟩ = some (.slice x.A x.n x.c) := Sl.at_ hcells hx 1 rfl
          clear hcells hx
          go_wp2_with fail
          go_roundw
          case rel => exact ⟨k + 1, _, by omega, rfl, by go_num, hbr⟩
          case measure => simp [intOf]; omega
        · obtain rfl : k = nb := by omega
          have hkn : ¬ ((k : Int) < (k : Int)) := by omega
          go_wp2_with fail
          go_loopw [3, 7] (fun s i wr => ∃ (k : Nat) (m : Int), k ≤ nr ∧ s = .int .i64 m ∧ i = .int .i64 k ∧ Below W.heap.size W wr) (fun _ i _ => nr - (intOf i).toNat)
          case atStart => exact ⟨0, _, Nat.zero_le _, rfl, rfl, hbr⟩
          case round =>
            clear hbr hbA
            obtain ⟨k, m, hk, rfl, rfl, hbr⟩ := hrel
            have hzr := hbr.size
            have hbA := hbW.trans (hbr.mono hbW.size)
            (have eqa3 := (hbr.cell (p := ⟨_, _, none⟩) (by (try dsimp only) <;> omega)).trans qa3; have eqa4 := (hbr.cell (p := ⟨_, _, none⟩) (by (try dsimp only) <;> omega)).trans qa4; have eqa5 := (hbr.cell (p := ⟨_, _, none⟩) (by (try dsimp only) <;> omega)).trans qa5; have eqa6 := (hbr.cell (p := ⟨_, _, none⟩) (by (try dsimp only) <;> omega)).trans qa6)
            by_cases hlt : k < nr
            · obtain ⟨b, off, rfl, hbl, hcells⟩ := HR.out.baseIn hbA (by omega)
              obtain ⟨x, hx⟩ := HR.out.get hlt
              have d1 : wr.cell? ⟨b, off + k * 5 + 4, none⟩ = some (.slice x.A x.n x.c) := Sl.at_ hcells hx 4 rfl
              clear hcells hx
              go_wp2_with fail
              go_roundw
              case rel => exact ⟨k + 1, _, by omega, rfl, by go_num, hbr⟩
              case measure => simp [intOf]; omega
            · obtain rfl : k = nr := by omega
              have hkn : ¬ ((k : Int) < (k : Int)) := by omega
              go_wp2_with fail
              go_loopw [8] (fun i wr => ∃ (k : Nat), k ≤ nd ∧ i = .int .i64 k ∧ Below W.heap.size W wr) (fun i _ => nd - (intOf i).toNat)
              case atStart => exact ⟨0, Nat.zero_le _, rfl, hbr⟩
              case round =>
                clear hbr hbA
                obtain ⟨k, hk, rfl, hbr⟩ := hrel
                have hzr := hbr.size
                have hbA := hbW.trans (hbr.mono hbW.size)
                (have eqa3 := (hbr.cell (p := ⟨_, _, none⟩) (by (try dsimp only) <;> omega)).trans qa3; have eqa4 := (hbr.cell (p := ⟨_, _, none⟩) (by (try dsimp only) <;> omega)).trans qa4; have eqa5 := (hbr.cell (p := ⟨_, _, none⟩) (by (try dsimp only) <;> omega)).trans qa5; have eqa6 := (hbr.cell (p := ⟨_, _, none⟩) (by (try dsimp only) <;> omega)).trans qa6)
                by_cases hlt : k < nd
                · obtain ⟨b, off, rfl, hbl, hcells⟩ := HD.out.baseIn hbA (by omega)
                  obtain ⟨x, hx⟩ := HD.out.get hlt
                  have d1 : wr.cell? ⟨b, off + k * 6 + 1, none⟩ = some (.int .i64 x.it.op) := Sl.at_ hcells hx 1 rfl
                  have d2 : wr.cell? ⟨b, off + k * 6 + 2, none⟩ = some (.int .i64 x.it.num) := Sl.at_ hcells hx 2 rfl
                  have d3 : wr.cell? ⟨b, off + k * 6 + 3, none⟩ = some (.string x.it.text) := Sl.at_ hcells hx 3 rfl
                  have d4 : wr.cell? ⟨b, off + k * 6 + 4, none⟩ = some (.slice x.it.A x.it.n x.it.c) := Sl.at_ hcells hx 4 rfl
                  obtain ⟨ex, hex⟩ := DK.out x (List.mem_of_getElem? hx)
                  have HE := Lib.hid (hex.on hbA)
                  clear hcells hx hex
                  go_wp2_with fail
                  refine (small_any HE.out).mono ?_
                  rintro r w2 ⟨⟨m2, rfl⟩, hb2⟩
                  replace hbr := hbr.trans (hb2.mono hbr.size)
                  replace hbA := hbA.trans (hb2.mono hbA.size)
                  cases m2
                  · go_wp2_with fail
                    go_ret
                    exact ⟨SmP.no _, hbA⟩
                  · go_wp2_with fail
                    go_roundw
                    case rel => exact ⟨k + 1, by omega, by go_num, hbr⟩
                    case measure => simp [intOf]; omega
                · obtain rfl : k = nd := by omega
                  have hkn : ¬ ((k : Int) < (k : Int)) := by omega
                  go_wp2_with fail
                  go_ret
                  exact ⟨SmP.mk' _ HQ.out, hbA⟩
end Cv
end Go.Proofs.Ytdnnnajohdohaaa
