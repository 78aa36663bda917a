/-
  Disputes: few, alive. No condition.
-/
import Derived.Test.YthidlakkpdbeaaaDpH
import Derived.BigQuiet
import Derived.StillTailTactics
import Derived.Lib.Overlaps
import Derived.Deep.DeepCutAuto
import Derived.Deep.RegionWith
import Derived.Laws.Rows
set_option maxRecDepth 100000
set_option linter.unusedVariables false
set_option linter.unusedSimpArgs false
namespace Go.Proofs.Ythidlakkpdbeaaa
open Go.RowKit

namespace Dp
theorem accept_any (x cr t : Int) (A : Option Addr) (n c : Nat) (ds : List Dsp) (w : World) (h : Sl w A n c ds) (hA : NilOk A c) (hn1 : n ≤ 1000000) (hs : Srt ds) :
    Calls Try.prog 20 #[.slice A n c, .int .i64 x, .int .i64 cr, .int .i64 t] w fun r w' => ∃ u, r = .returned (.tuple #[u, .int .i64 (decP ds x 2 cr t).2]) ∧ Ow w' w.heap.size 24 u (decP ds x 2 cr t).1 ∧ Below w.heap.size w w' := by
  go_enter Try.func20, Try.ntmps20
  go_wp2_with fail
  refine (decide_any x 2 cr t A n c ds _ h hA hn1 hs).mono ?_
  rintro r w1 ⟨u, rfl, ho, hb⟩
  have HO := Lib.hid ho
  clear ho
  go_wp2_with fail
  go_ret2
  exact ⟨u, rfl, HO.out, hb⟩
theorem refuse_any (x t : Int) (A : Option Addr) (n c : Nat) (ds : List Dsp) (w : World) (h : Sl w A n c ds) (hA : NilOk A c) (hn1 : n ≤ 1000000) (hs : Srt ds) :
    Calls Try.prog 22 #[.slice A n c, .int .i64 x, .int .i64 t] w fun r w' => ∃ u, r = .returned (.tuple #[u, .int .i64 (decP ds x 3 0 t).2]) ∧ Ow w' w.heap.size 24 u (decP ds x 3 0 t).1 ∧ Below w.heap.size w w' := by
  go_enter Try.func22, Try.ntmps22
  go_wp2_with fail
  refine (decide_any x 3 0 t A n c ds _ h hA hn1 hs).mono ?_
  rintro r w1 ⟨u, rfl, ho, hb⟩
  have HO := Lib.hid ho
  clear ho
  go_wp2_with fail
  go_ret2
  exact ⟨u, rfl, HO.out, hb⟩
theorem Vd.prop {ds : List Dsp} (h : Vd ds) : ∀ (i : Nat) (d : Dsp), ds[i]? = some d → propB d = true := fun i d hd => (h i d hd).1
theorem Vd.srt {ds : List Dsp} (h : Vd ds) : Srt ds := by
  intro i j a b hij ha hb
  induction j generalizing b with
  | zero => exact absurd hij (by omega)
  | succ j ih =>
    have hj := (List.getElem?_eq_some_iff.1 hb).1
    obtain ⟨e, he⟩ : ∃ e, ds[j]? = some e := ⟨ds[j]'(by omega), List.getElem?_eq_getElem _⟩
    have h1 := (h (j + 1) b hb).2.1 e (by omega) he
    by_cases hji : i = j
    · subst hji
      have := ha.symm.trans he
      injection this with this
      subst this
      exact h1
    · have := ih e (by omega) he
      omega
theorem few_any (A : Option Addr) (n c : Nat) (ds : List Dsp) (w : World) (h : Sl w A n c ds) :
    Calls Try.prog 8 #[.slice A n c] w fun r w' => ∃ b : Bool, r = .returned (.bool b) ∧ (b = true → n ≤ 30 ∧ Vd ds) ∧ Below w.heap.size w w' := by
  have hn := h.nmax
  by_cases h30 : n ≤ 30
  · have hi : (n : Int) ≤ 30 := by omega
    go_enter Try.func8, Try.ntmps8
    go_wp2_with fail
    refine (valid_any A n c ds _ h).mono ?_
    rintro r w1 ⟨b, rfl, hb, hb1⟩
    have HB := Lib.hid hb
    clear hb
    go_wp2_with fail
    go_ret
    exact ⟨b, rfl, fun hb => ⟨h30, HB.out.1 hb⟩, hb1⟩
  · have hi : ¬ (n : Int) ≤ 30 := by omega
    go_enter Try.func8, Try.ntmps8
    go_wp2_with fail
    go_ret
    first | exact ⟨false, rfl, fun h => (by cases h), Below.refl _ _⟩ | exact .inl ⟨rfl, Below.refl _ _⟩ | exact ⟨rfl, Below.refl _ _⟩
def d0 : Dsp := ⟨1, 2, 3, 500, 1, 0, 0⟩
def d1 : Dsp := ⟨2, 2, 3, 500, 1, 0, 0⟩
def d2 : Dsp := ⟨1, 2, 3, 500, 2, 300, 5⟩
abbrev nService : ByteArray := ⟨#[115, 101, 114, 118, 105, 99, 101]⟩
theorem ev1 : openP [] d0 = ([d0], 0) := by rfl
theorem ev2 : openP [d0] d1 = ([], 22) := by rfl
theorem ev3 : pendF 2 0 [d0] = 500 := by rfl
theorem ev4 : decP [d0] 1 2 300 5 = ([d2], 0) := by rfl
theorem ev5 : openP [d2] d1 = ([d2, d1], 0) := by rfl
theorem ev6 : linesP 2 0 9 nService [d2] = [⟨4, 0, nCredit, nService, 1, 0, -300, 0⟩] := by rfl
theorem ev7 : pendF 2 0 [d2] = 0 := by rfl
theorem srt_nil : Srt [] := fun i j a b _ ha => by simp at ha
theorem srt_one (d : Dsp) : Srt [d] := fun i j a b hij ha hb => by
  have := (List.getElem?_eq_some_iff.1 hb).1
  simp at this
  omega
theorem prop_one {d : Dsp} (h : propB d = true) : ∀ (i : Nat) (e : Dsp), [d][i]? = some e → propB e = true := fun i e he => by
  cases i with
  | zero => cases he; exact h
  | succ i => simp at he
set_option maxHeartbeats 8000000 in
theorem alive_any (w : World) : Calls Try.prog 9 #[] w fun r w' => r = .returned (.bool true) ∧ Below w.heap.size w w' := by
  go_enter Try.func9, Try.ntmps9
  go_upto_region 2 with (fail)
  (obtain ⟨W, hWW, hbW, hzW, f1W, qfa⟩ := box1 w #[.int .i64 1, .int .i64 2, .int .i64 3, .int .i64 500, .int .i64 1, .int .i64 0, .int .i64 0] 24; rw [← hWW]; have qa0 : W.cell? ⟨w.heap.size, 0, none⟩ = some (.int .i64 1) := f1W 0 _ rfl; have qa1 : W.cell? ⟨w.heap.size, 1, none⟩ = some (.int .i64 2) := f1W 1 _ rfl; have qa2 : W.cell? ⟨w.heap.size, 2, none⟩ = some (.int .i64 3) := f1W 2 _ rfl; have qa3 : W.cell? ⟨w.heap.size, 3, none⟩ = some (.int .i64 500) := f1W 3 _ rfl; have qa4 : W.cell? ⟨w.heap.size, 4, none⟩ = some (.int .i64 1) := f1W 4 _ rfl; have qa5 : W.cell? ⟨w.heap.size, 5, none⟩ = some (.int .i64 0) := f1W 5 _ rfl; have qa6 : W.cell? ⟨w.heap.size, 6, none⟩ = some (.int .i64 0) := f1W 6 _ rfl; clear hWW f1W)
  have hT := hbW
  have hg0 : w.heap.size < W.heap.size := hzW
  clear hbW
  go_wp2_with fail
  refine (open_any [] d0 none 0 0 _ (Sl.nil_ _) (fun _ => rfl) (by omega) srt_nil).mono ?_
  rintro r w1 ⟨u1, rfl, ho1, hb1⟩
  rw [ev1] at ho1 ⊢
  (have hzhb1 := hb1.size; replace qa0 := (hb1.cell (p := ⟨_, _, none⟩) (by (try dsimp only) <;> omega)).trans qa0; replace qa1 := (hb1.cell (p := ⟨_, _, none⟩) (by (try dsimp only) <;> omega)).trans qa1; replace qa2 := (hb1.cell (p := ⟨_, _, none⟩) (by (try dsimp only) <;> omega)).trans qa2; replace qa3 := (hb1.cell (p := ⟨_, _, none⟩) (by (try dsimp only) <;> omega)).trans qa3; replace qa4 := (hb1.cell (p := ⟨_, _, none⟩) (by (try dsimp only) <;> omega)).trans qa4; replace qa5 := (hb1.cell (p := ⟨_, _, none⟩) (by (try dsimp only) <;> omega)).trans qa5; replace qa6 := (hb1.cell (p := ⟨_, _, none⟩) (by (try dsimp only) <;> omega)).trans qa6; replace qfa := fun j => (hb1.frozen (p := ⟨_, j, none⟩) (by (try dsimp only) <;> omega)).trans (qfa j); replace hT := Below.trans hT (Below.mono hb1 (by omega)))
  have hg1 : w.heap.size < w1.heap.size := by omega
  obtain ⟨A1, c1, rfl, hn1, hs1⟩ := Ow.slN ho1
  have HS1 := Lib.hid hs1
  have HN1 := Lib.hid hn1
  have HOF := Lib.hid (show ∀ b off, A1 = some ⟨b, off, none⟩ → b ≠ w.heap.size from fun b off e hb => by
    have := (ho1.lt b (by rw [e]; rfl)).1
    omega)
  clear ho1 hs1 hn1 hb1
  go_upto_region 4 with (fail)
  obtain ⟨X, hS, hnX, hfar, hfr, hbl, hszX⟩ := set1 w.heap.size 0 (u := .int .i64 2) qa0
  rw [← hS]
  clear hS
  replace qa0 := hnX
  replace qa1 := (hfar w.heap.size 1 (by omega)).trans qa1
  replace qa2 := (hfar w.heap.size 2 (by omega)).trans qa2
  replace qa3 := (hfar w.heap.size 3 (by omega)).trans qa3
  replace qa4 := (hfar w.heap.size 4 (by omega)).trans qa4
  replace qa5 := (hfar w.heap.size 5 (by omega)).trans qa5
  replace qa6 := (hfar w.heap.size 6 (by omega)).trans qa6
  replace qfa : ∀ j, X.frozen? ⟨w.heap.size, j, none⟩ = false := fun j => (hfr _ j).trans (qfa j)
  replace hT := hT.trans (hbl _ (Nat.le_refl _))
  replace HS1 : Hid (Sl X A1 [d0].length c1 [d0]) := by
    have h1 := HS1.out
    refine Lib.hid ⟨h1.1, h1.2.1, h1.2.2.1, fun h0 => ?_⟩
    obtain ⟨b, off, e, hb, hc⟩ := h1.base h0
    have hbw : b ≠ w.heap.size := HOF.out b off e
    exact ⟨b, off, e, by omega, fun i x hx j u hu => (hfar _ _ (.inl hbw)).trans (hc i x hx j u hu)⟩
  have hgX : w.heap.size < X.heap.size := by omega
  clear hnX hfar hfr hbl
  go_wp2_with fail
  refine (open_any [d0] d1 A1 1 c1 _ HS1.out HN1.out (by omega) (srt_one _)).mono ?_
  rintro r w2 ⟨u2, rfl, ho2, hb2⟩
  rw [ev2] at ho2 ⊢
  (have hzhb2 := hb2.size; replace qa0 := (hb2.cell (p := ⟨_, _, none⟩) (by (try dsimp only) <;> omega)).trans qa0; replace qa1 := (hb2.cell (p := ⟨_, _, none⟩) (by (try dsimp only) <;> omega)).trans qa1; replace qa2 := (hb2.cell (p := ⟨_, _, none⟩) (by (try dsimp only) <;> omega)).trans qa2; replace qa3 := (hb2.cell (p := ⟨_, _, none⟩) (by (try dsimp only) <;> omega)).trans qa3; replace qa4 := (hb2.cell (p := ⟨_, _, none⟩) (by (try dsimp only) <;> omega)).trans qa4; replace qa5 := (hb2.cell (p := ⟨_, _, none⟩) (by (try dsimp only) <;> omega)).trans qa5; replace qa6 := (hb2.cell (p := ⟨_, _, none⟩) (by (try dsimp only) <;> omega)).trans qa6; replace qfa := fun j => (hb2.frozen (p := ⟨_, j, none⟩) (by (try dsimp only) <;> omega)).trans (qfa j); replace hT := Below.trans hT (Below.mono hb2 (by omega)))
  have hg2 : w.heap.size < w2.heap.size := by omega
  replace HS1 := Lib.hid (HS1.out.below hb2)
  clear ho2 hb2
  go_wp2_with fail
  refine (pending_any 2 A1 1 c1 [d0] _ HS1.out (prop_one rfl)).mono ?_
  rintro r w3 ⟨rfl, hb3⟩
  rw [ev3]
  (have hzhb3 := hb3.size; replace qa0 := (hb3.cell (p := ⟨_, _, none⟩) (by (try dsimp only) <;> omega)).trans qa0; replace qa1 := (hb3.cell (p := ⟨_, _, none⟩) (by (try dsimp only) <;> omega)).trans qa1; replace qa2 := (hb3.cell (p := ⟨_, _, none⟩) (by (try dsimp only) <;> omega)).trans qa2; replace qa3 := (hb3.cell (p := ⟨_, _, none⟩) (by (try dsimp only) <;> omega)).trans qa3; replace qa4 := (hb3.cell (p := ⟨_, _, none⟩) (by (try dsimp only) <;> omega)).trans qa4; replace qa5 := (hb3.cell (p := ⟨_, _, none⟩) (by (try dsimp only) <;> omega)).trans qa5; replace qa6 := (hb3.cell (p := ⟨_, _, none⟩) (by (try dsimp only) <;> omega)).trans qa6; replace qfa := fun j => (hb3.frozen (p := ⟨_, j, none⟩) (by (try dsimp only) <;> omega)).trans (qfa j); replace hT := Below.trans hT (Below.mono hb3 (by omega)))
  have hg3 : w.heap.size < w3.heap.size := by omega
  replace HS1 := Lib.hid (HS1.out.below hb3)
  clear hb3
  go_wp2_with fail
  refine (accept_any 1 300 5 A1 1 c1 [d0] _ HS1.out HN1.out (by omega) (srt_one _)).mono ?_
  rintro r w4 ⟨u4, rfl, ho4, hb4⟩
  rw [ev4] at ho4 ⊢
  (have hzhb4 := hb4.size; replace qa0 := (hb4.cell (p := ⟨_, _, none⟩) (by (try dsimp only) <;> omega)).trans qa0; replace qa1 := (hb4.cell (p := ⟨_, _, none⟩) (by (try dsimp only) <;> omega)).trans qa1; replace qa2 := (hb4.cell (p := ⟨_, _, none⟩) (by (try dsimp only) <;> omega)).trans qa2; replace qa3 := (hb4.cell (p := ⟨_, _, none⟩) (by (try dsimp only) <;> omega)).trans qa3; replace qa4 := (hb4.cell (p := ⟨_, _, none⟩) (by (try dsimp only) <;> omega)).trans qa4; replace qa5 := (hb4.cell (p := ⟨_, _, none⟩) (by (try dsimp only) <;> omega)).trans qa5; replace qa6 := (hb4.cell (p := ⟨_, _, none⟩) (by (try dsimp only) <;> omega)).trans qa6; replace qfa := fun j => (hb4.frozen (p := ⟨_, j, none⟩) (by (try dsimp only) <;> omega)).trans (qfa j); replace hT := Below.trans hT (Below.mono hb4 (by omega)))
  have hg4 : w.heap.size < w4.heap.size := by omega
  obtain ⟨A4, c4, rfl, hn4, hs4⟩ := Ow.slN ho4
  have HS4 := Lib.hid hs4
  have HN4 := Lib.hid hn4
  clear ho4 hs4 hn4 hb4 HS1 HN1
  go_wp2_with fail
  refine (open_any [d2] d1 A4 1 c4 _ HS4.out HN4.out (by omega) (srt_one _)).mono ?_
  rintro r w5 ⟨u5, rfl, ho5, hb5⟩
  rw [ev5] at ho5 ⊢
  (have hzhb5 := hb5.size; replace qa0 := (hb5.cell (p := ⟨_, _, none⟩) (by (try dsimp only) <;> omega)).trans qa0; replace qa1 := (hb5.cell (p := ⟨_, _, none⟩) (by (try dsimp only) <;> omega)).trans qa1; replace qa2 := (hb5.cell (p := ⟨_, _, none⟩) (by (try dsimp only) <;> omega)).trans qa2; replace qa3 := (hb5.cell (p := ⟨_, _, none⟩) (by (try dsimp only) <;> omega)).trans qa3; replace qa4 := (hb5.cell (p := ⟨_, _, none⟩) (by (try dsimp only) <;> omega)).trans qa4; replace qa5 := (hb5.cell (p := ⟨_, _, none⟩) (by (try dsimp only) <;> omega)).trans qa5; replace qa6 := (hb5.cell (p := ⟨_, _, none⟩) (by (try dsimp only) <;> omega)).trans qa6; replace qfa := fun j => (hb5.frozen (p := ⟨_, j, none⟩) (by (try dsimp only) <;> omega)).trans (qfa j); replace hT := Below.trans hT (Below.mono hb5 (by omega)))
  have hg5 : w.heap.size < w5.heap.size := by omega
  replace HS4 := Lib.hid (HS4.out.below hb5)
  obtain ⟨A5, c5, rfl, hn5, hs5⟩ := Ow.slN ho5
  clear ho5 hs5 hn5 hb5
  go_wp2_with fail
  refine (lines_any 2 0 9 nService A4 1 c4 [d2] _ HS4.out (by omega) (prop_one rfl)).mono ?_
  rintro r w6 ⟨u6, rfl, ho6, hb6⟩
  rw [ev6] at ho6
  (have hzhb6 := hb6.size; replace qa0 := (hb6.cell (p := ⟨_, _, none⟩) (by (try dsimp only) <;> omega)).trans qa0; replace qa1 := (hb6.cell (p := ⟨_, _, none⟩) (by (try dsimp only) <;> omega)).trans qa1; replace qa2 := (hb6.cell (p := ⟨_, _, none⟩) (by (try dsimp only) <;> omega)).trans qa2; replace qa3 := (hb6.cell (p := ⟨_, _, none⟩) (by (try dsimp only) <;> omega)).trans qa3; replace qa4 := (hb6.cell (p := ⟨_, _, none⟩) (by (try dsimp only) <;> omega)).trans qa4; replace qa5 := (hb6.cell (p := ⟨_, _, none⟩) (by (try dsimp only) <;> omega)).trans qa5; replace qa6 := (hb6.cell (p := ⟨_, _, none⟩) (by (try dsimp only) <;> omega)).trans qa6; replace qfa := fun j => (hb6.frozen (p := ⟨_, j, none⟩) (by (try dsimp only) <;> omega)).trans (qfa j); replace hT := Below.trans hT (Below.mono hb6 (by omega)))
  have hg6 : w.heap.size < w6.heap.size := by omega
  replace HS4 := Lib.hid (HS4.out.below hb6)
  obtain ⟨A6, c6, rfl, hs6⟩ := ho6.sl
  have HS6 := Lib.hid hs6
  clear ho6 hs6 hb6
  go_wp2_with fail
  refine (pending_any 2 A4 1 c4 [d2] _ HS4.out (prop_one rfl)).mono ?_
  rintro r w7 ⟨rfl, hb7⟩
  rw [ev7]
  replace HS6 := Lib.hid (HS6.out.below hb7)
  replace hT := hT.trans (hb7.mono (by omega))
  clear hb7
  obtain ⟨b, off, hA6, hbl6, hcells6⟩ := HS6.out.baseIn (Below.refl _ _) (by decide)
  subst hA6
  have ga6 : w7.cell? ⟨b, off + 6, none⟩ = some (.int .i64 (-300)) := Sl.at_ hcells6 (i := 0) rfl 6 rfl
  clear hcells6
  go_wp2_with fail
  go_ret
  exact ⟨rfl, hT⟩
end Dp
end Go.Proofs.Ythidlakkpdbeaaa
