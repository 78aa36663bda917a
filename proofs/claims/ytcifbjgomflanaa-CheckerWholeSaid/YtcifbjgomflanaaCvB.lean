/-
  Tariffs: both Covered. No condition.
-/
import Derived.Test.YtcifbjgomflanaaCvA
import Derived.BigQuiet
import Derived.StillTailTactics
import Derived.Lib.Overlaps
import Derived.Deep.DeepCutAuto
import Derived.Deep.RegionWith
import Derived.Laws.RangeAny
set_option maxRecDepth 100000
set_option linter.unusedVariables false
set_option linter.unusedSimpArgs false
namespace Go.Proofs.Ytcifbjgomflanaa
open Go.RowKit

namespace Cv
open Xp Ck
def bandB (zs : List Nm) (rs : List Rt) (kind : Int) (b : Nm) : Bool := ratedB rs kind ⟨#[]⟩ b.name && zs.all (fun z => ratedB rs kind z.name b.name)
def covB (zs bs : List Nm) (rs : List Rt) (kind : Int) : Bool := decide (1 ≤ kind) && decide (kind ≤ 4) && bs.all (bandB zs rs kind)
theorem all_take {α} {l : List α} {p : α → Bool} {k : Nat} {x : α} (h : (l.take k).all p = true) (hx : l[k]? = some x) (hp : p x = true) : (l.take (k + 1)).all p = true := by
  rw [List.take_add_one, hx, List.all_append, h]; simp [hp]
theorem all_bad {α} {l : List α} {p : α → Bool} {k : Nat} {x : α} (hx : l[k]? = some x) (hp : p x = false) : l.all p = false := by
  rw [List.all_eq_false]; exact ⟨x, List.mem_of_getElem? hx, by simp [hp]⟩
theorem covB_bad {zs bs : List Nm} {rs : List Rt} {kind : Int} {b : Nm} (hb : b ∈ bs) (h : bandB zs rs kind b = false) : covB zs bs rs kind = false := by
  unfold covB
  rw [Bool.and_eq_false_iff]; right; rw [List.all_eq_false]; exact ⟨b, hb, by simp [h]⟩
theorem covB_out {zs bs : List Nm} {rs : List Rt} {kind : Int} (h : kind < 1 ∨ 4 < kind) : covB zs bs rs kind = false := by
  unfold covB
  rcases h with h | h
  · rw [decide_eq_false (by omega : ¬ 1 ≤ kind)]; rfl
  · rw [decide_eq_false (by omega : ¬ kind ≤ 4)]; simp
set_option maxHeartbeats 8000000 in
theorem covered_any (t : Tv) (kind : Int) (zs bs : List Nm) (rs : List Rt) (w : World) (hz : Sl w t.Az t.nz t.cz zs) (hb : Sl w t.Ab t.nb t.cb bs) (h : Sl w t.Ar t.nr t.cr rs) :
    Calls Try.prog 19 #[t.val, .int .i64 kind] w fun e w' => e = .returned (.bool (covB zs bs rs kind)) ∧ Below w.heap.size w w' := by
  have hnz := hz.nmax
  have hnb := hb.nmax
  have HZ := Lib.hid hz
  have HB := Lib.hid hb
  have HR := Lib.hid h
  clear h hz hb
  obtain ⟨name, from_, split, Az, nz, cz, Ab, nb, cb, Ar, nr, cr, Ad, nd, cd⟩ := t
  unfold Tv.val
  dsimp only at hnz hnb HZ HB HR ⊢
  by_cases hk1 : kind < 1
  · go_enter Try.func19, Try.ntmps19
    go_wp2_with fail
    go_ret
    exact ⟨ret_bool (covB_out (.inl hk1)).symm, (Below.refl _ _).alloc (Nat.le_refl _) _⟩
  by_cases hk4 : 4 < kind
  · go_enter Try.func19, Try.ntmps19
    go_wp2_with fail
    go_ret
    exact ⟨ret_bool (covB_out (.inr hk4)).symm, (Below.refl _ _).alloc (Nat.le_refl _) _⟩
  go_enter Try.func19, Try.ntmps19
  go_upto_region 1 with (fail)
  (obtain ⟨W, hWW, hbW, hzW, f1W, qfa⟩ := box1 w #[.string name, .int .i64 from_, .bool split, .slice Az nz cz, .slice Ab nb cb, .slice Ar nr cr, .slice Ad nd cd] 39; rw [← hWW]; have qa0 : W.cell? ⟨w.heap.size, 0, none⟩ = some (.string name) := f1W 0 _ rfl; have qa1 : W.cell? ⟨w.heap.size, 1, none⟩ = some (.int .i64 from_) := f1W 1 _ rfl; have qa2 : W.cell? ⟨w.heap.size, 2, none⟩ = some (.bool split) := f1W 2 _ rfl; have qa3 : W.cell? ⟨w.heap.size, 3, none⟩ = some (.slice Az nz cz) := f1W 3 _ rfl; have qa4 : W.cell? ⟨w.heap.size, 4, none⟩ = some (.slice Ab nb cb) := f1W 4 _ rfl; have qa5 : W.cell? ⟨w.heap.size, 5, none⟩ = some (.slice Ar nr cr) := f1W 5 _ rfl; have qa6 : W.cell? ⟨w.heap.size, 6, none⟩ = some (.slice Ad nd cd) := f1W 6 _ rfl; clear hWW f1W)
  go_wp2_with fail
  go_loopw [18] (fun i wr => ∃ k : Nat, k ≤ nb ∧ i = .int .i64 k ∧ Below W.heap.size W wr ∧ (bs.take k).all (bandB zs rs kind) = true) (fun i _ => nb - (intOf i).toNat)
  case atStart => exact ⟨0, Nat.zero_le _, rfl, Below.refl _ _, by simp⟩
  case round =>
    obtain ⟨k, hk, rfl, hbr, ha⟩ := hrel
    have HA := Lib.hid ha
    clear ha
    have hzr := hbr.size
    have hbA := hbW.trans (hbr.mono hbW.size)
    by_cases hlt : k < nb
    · obtain ⟨b, off, rfl, hbl, hcells⟩ := HB.out.baseIn hbA (by omega)
      obtain ⟨x, hx⟩ := HB.out.get hlt
      have c0 : wr.cell? ⟨b, off + k * 2, none⟩ = some (.string x.name) := Sl.at_ hcells hx 0 rfl
      have c1 : wr.cell? ⟨b, off + k * 2 + 1, none⟩ = some (.slice x.A x.n x.c) := Sl.at_ hcells hx 1 rfl
      have HX := Lib.hid hx
      clear hcells hx
      go_upto_region 6 with (fail)
      (obtain ⟨V, hWV, hbV, hzV, f1V, mfa⟩ := box1 wr #[.string x.name, .slice x.A x.n x.c] 56; rw [← hWV]; have ma0 : V.cell? ⟨wr.heap.size, 0, none⟩ = some (.string x.name) := f1V 0 _ rfl; have ma1 : V.cell? ⟨wr.heap.size, 1, none⟩ = some (.slice x.A x.n x.c) := f1V 1 _ rfl; clear hWV f1V)
      replace hbr := hbr.trans (hbV.mono hbr.size)
      replace hbA := hbA.trans (hbV.mono hbA.size)
      clear c0 c1 hbV
      (have eqa0 := (hbr.cell (p := ⟨_, _, none⟩) (by (try dsimp only) <;> omega)).trans qa0; have eqa1 := (hbr.cell (p := ⟨_, _, none⟩) (by (try dsimp only) <;> omega)).trans qa1; have eqa2 := (hbr.cell (p := ⟨_, _, none⟩) (by (try dsimp only) <;> omega)).trans qa2; have eqa3 := (hbr.cell (p := ⟨_, _, none⟩) (by (try dsimp only) <;> omega)).trans qa3; have eqa4 := (hbr.cell (p := ⟨_, _, none⟩) (by (try dsimp only) <;> omega)).trans qa4; have eqa5 := (hbr.cell (p := ⟨_, _, none⟩) (by (try dsimp only) <;> omega)).trans qa5; have eqa6 := (hbr.cell (p := ⟨_, _, none⟩) (by (try dsimp only) <;> omega)).trans qa6)
      go_wp2_with fail
      refine (rated_any ⟨name, from_, split, Az, nz, cz, some ⟨b, off, none⟩, nb, cb, Ar, nr, cr, Ad, nd, cd⟩ kind ⟨#[]⟩ x.name rs _ (HR.out.below hbA)).mono ?_
      rintro r w2 ⟨rfl, hb2⟩
      replace hbr := hbr.trans (hb2.mono hbr.size)
      replace hbA := hbA.trans (hb2.mono hbA.size)
      replace ma0 := (hb2.cell (p := ⟨_, _, none⟩) (by (try dsimp only) <;> omega)).trans ma0
      have hzV2 := hb2.size
      clear eqa0 eqa1 eqa2 eqa3 eqa4 eqa5 eqa6 hb2
      cases hq : ratedB rs kind ⟨#[]⟩ x.name
      · have HQ := Lib.hid hq
        clear hq
        go_wp2_with fail
        go_ret
        exact ⟨ret_bool (covB_bad (List.mem_of_getElem? HX.out) (by rw [bandB, HQ.out]; rfl)).symm, hbA⟩
      · have HQ := Lib.hid hq
        clear hq
        (have eqa0 := (hbr.cell (p := ⟨_, _, none⟩) (by (try dsimp only) <;> omega)).trans qa0; have eqa1 := (hbr.cell (p := ⟨_, _, none⟩) (by (try dsimp only) <;> omega)).trans qa1; have eqa2 := (hbr.cell (p := ⟨_, _, none⟩) (by (try dsimp only) <;> omega)).trans qa2; have eqa3 := (hbr.cell (p := ⟨_, _, none⟩) (by (try dsimp only) <;> omega)).trans qa3; have eqa4 := (hbr.cell (p := ⟨_, _, none⟩) (by (try dsimp only) <;> omega)).trans qa4; have eqa5 := (hbr.cell (p := ⟨_, _, none⟩) (by (try dsimp only) <;> omega)).trans qa5; have eqa6 := (hbr.cell (p := ⟨_, _, none⟩) (by (try dsimp only) <;> omega)).trans qa6)
        go_wp2_with fail
        go_loopw [31] (fun i wi => ∃ j : Nat, j ≤ nz ∧ i = .int .i64 j ∧ Below w2.heap.size w2 wi ∧ (zs.take j).all (fun z => ratedB rs kind z.name x.name) = true) (fun i _ => nz - (intOf i).toNat)
        case atStart => exact ⟨0, Nat.zero_le _, rfl, Below.refl _ _, by simp⟩
        case round =>
          clear eqa0 eqa1 eqa2 eqa3 eqa4 eqa5 eqa6
          obtain ⟨j, hj, rfl, hbi, ha⟩ := hrel
          have HAI := Lib.hid ha
          clear ha
          have hzi := hbi.size
          replace hbr := hbr.trans (hbi.mono hbr.size)
          replace hbA := hbA.trans (hbi.mono hbA.size)
          replace ma0 := (hbi.cell (p := ⟨_, _, none⟩) (by (try dsimp only) <;> omega)).trans ma0
          by_cases hltj : j < nz
          · obtain ⟨b1, off1, rfl, hbl1, hcells⟩ := HZ.out.baseIn hbA (by omega)
            obtain ⟨y, hy⟩ := HZ.out.get hltj
            have c0 : wr.cell? ⟨b1, off1 + j * 2, none⟩ = some (.string y.name) := Sl.at_ hcells hy 0 rfl
            have c1 : wr.cell? ⟨b1, off1 + j * 2 + 1, none⟩ = some (.slice y.A y.n y.c) := Sl.at_ hcells hy 1 rfl
            have HY := Lib.hid hy
            clear hcells hy
            go_upto_region 11 with (fail)
            (obtain ⟨U, hWU, hbU, hzU, f1U, ufa⟩ := box1 wr #[.string y.name, .slice y.A y.n y.c] 53; rw [← hWU]; have ua0 : U.cell? ⟨wr.heap.size, 0, none⟩ = some (.string y.name) := f1U 0 _ rfl; have ua1 : U.cell? ⟨wr.heap.size, 1, none⟩ = some (.slice y.A y.n y.c) := f1U 1 _ rfl; clear hWU f1U)
            replace hbr := hbr.trans (hbU.mono hbr.size)
            replace hbA := hbA.trans (hbU.mono hbA.size)
            replace hbi := hbi.trans (hbU.mono hbi.size)
            replace ma0 := (hbU.cell (p := ⟨_, _, none⟩) (by (try dsimp only) <;> omega)).trans ma0
            clear c0 c1 hbU
            (have eqa0 := (hbr.cell (p := ⟨_, _, none⟩) (by (try dsimp only) <;> omega)).trans qa0; have eqa1 := (hbr.cell (p := ⟨_, _, none⟩) (by (try dsimp only) <;> omega)).trans qa1; have eqa2 := (hbr.cell (p := ⟨_, _, none⟩) (by (try dsimp only) <;> omega)).trans qa2; have eqa3 := (hbr.cell (p := ⟨_, _, none⟩) (by (try dsimp only) <;> omega)).trans qa3; have eqa4 := (hbr.cell (p := ⟨_, _, none⟩) (by (try dsimp only) <;> omega)).trans qa4; have eqa5 := (hbr.cell (p := ⟨_, _, none⟩) (by (try dsimp only) <;> omega)).trans qa5; have eqa6 := (hbr.cell (p := ⟨_, _, none⟩) (by (try dsimp only) <;> omega)).trans qa6)
            go_wp2_with fail
            refine (rated_any ⟨name, from_, split, some ⟨b1, off1, none⟩, nz, cz, some ⟨b, off, none⟩, nb, cb, Ar, nr, cr, Ad, nd, cd⟩ kind y.name x.name rs _ (HR.out.below hbA)).mono ?_
            rintro r w3 ⟨rfl, hb3⟩
            replace hbi := hbi.trans (hb3.mono hbi.size)
            replace hbA := hbA.trans (hb3.mono hbA.size)
            clear eqa0 eqa1 eqa2 eqa3 eqa4 eqa5 eqa6 hb3
            cases hq : ratedB rs kind y.name x.name
            · have HQ2 := Lib.hid hq
              clear hq
              go_wp2_with fail
              go_ret
              exact ⟨ret_bool (covB_bad (List.mem_of_getElem? HX.out) (by rw [bandB, all_bad HY.out (p := fun z => ratedB rs kind z.name x.name) HQ2.out]; simp)).symm, hbA⟩
            · have HQ2 := Lib.hid hq
              clear hq
              go_wp2_with fail
              go_roundw
              case rel => exact ⟨j + 1, by omega, by go_num, hbi, all_take HAI.out HY.out HQ2.out⟩
              case measure => simp [intOf]; omega
          · obtain rfl : nz = j := by omega
            have ha := HAI.out
            rw [List.take_of_length_le (by rw [HZ.out.len]; exact Nat.le_refl _)] at ha
            have HA2 := Lib.hid ha
            clear ha
            have hkn : ¬ ((nz : Int) < (nz : Int)) := by omega
            go_wp2_with fail
            go_roundw
            case rel => exact ⟨k + 1, by omega, by go_num, hbr, all_take HA.out HX.out (by rw [bandB, HQ.out, HA2.out]; rfl)⟩
            case measure => simp [intOf]; omega
    · obtain rfl : nb = k := by omega
      have ha := HA.out
      rw [List.take_of_length_le (by rw [HB.out.len]; exact Nat.le_refl _)] at ha
      have HA2 := Lib.hid ha
      clear ha
      have hkn : ¬ ((nb : Int) < (nb : Int)) := by omega
      go_wp2_with fail
      go_ret
      exact ⟨ret_bool (by rw [covB, HA2.out, decide_eq_true (by omega : 1 ≤ kind), decide_eq_true (by omega : kind ≤ 4)]; rfl), hbA⟩
end Cv
end Go.Proofs.Ytcifbjgomflanaa
