/-
  Disputes: Open. No condition.
-/
import Derived.Test.YthidlakkpdbeaaaDpB
import Derived.BigQuiet
import Derived.StillTailTactics
import Derived.Lib.Overlaps
import Derived.Deep.DeepCutAuto
import Derived.Deep.RegionWith
import Derived.Deep.RegionLaw
import Derived.Laws.Rows
set_option maxRecDepth 100000
set_option linter.unusedVariables false
set_option linter.unusedSimpArgs false
namespace Go.Proofs.Ythidlakkpdbeaaa
open Go.RowKit

namespace Dp
def hasB (ds : List Dsp) (x : Int) : Bool := ds.any fun d => decide (d.id = x)
def insP (ds : List Dsp) (d : Dsp) : List Dsp := ds.takeWhile (fun e => decide (e.id < d.id)) ++ d :: ds.dropWhile (fun e => decide (e.id < d.id))
def openP (ds : List Dsp) (d : Dsp) : List Dsp × Int :=
  if numB d = false then ([], 6) else if d.st ≠ 1 ∨ d.cr ≠ 0 then ([], 22) else if insB d.at_ = false then ([], 15)
  else if hasB ds d.id = true then ([], 10) else if ds.any (pendB d.use) = true then ([], 22) else if 4096 ≤ ds.length then ([], 5) else (insP ds d, 0)
theorem tw_take {α : Type} {p : α → Bool} : ∀ {l : List α} {i : Nat}, (∀ (k : Nat) (a : α), k < i → l[k]? = some a → p a = true) → (∀ a, l[i]? = some a → p a = false) → i ≤ l.length → l.takeWhile p = l.take i ∧ l.dropWhile p = l.drop i
  | [], i, _, _, hl => by simp
  | a :: l, 0, _, h2, _ => by
    have := h2 a rfl
    simp [List.takeWhile_cons, List.dropWhile_cons, this]
  | a :: l, i + 1, h1, h2, hl => by
    have h3 := h1 0 a (by omega) rfl
    have ih := tw_take (l := l) (i := i) (p := p) (fun k b hk hb => h1 (k + 1) b (by omega) (by simpa using hb)) (fun b hb => h2 b (by simpa using hb)) (by simpa using hl)
    simp [List.takeWhile_cons, List.dropWhile_cons, h3, ih.1, ih.2]
theorem At.ins {ds : List Dsp} {d : Dsp} {i : Nat} {is : Bool} (h : At ds d.id i is) : insP ds d = ds.take i ++ d :: ds.drop i := by
  obtain ⟨h1, h2⟩ := tw_take (p := fun e : Dsp => decide (e.id < d.id)) (l := ds) (i := i) (fun k a hk ha => by simpa using h.low k a hk ha) (fun a ha => by have := h.high i a (Nat.le_refl _) ha; simp; omega) h.le
  unfold insP
  rw [h1, h2]
theorem At.has {ds : List Dsp} {x : Int} {i : Nat} {is : Bool} (h : At ds x i is) (hs : Srt ds) : hasB ds x = is := by
  rw [Bool.eq_iff_iff, h.is_]
  unfold hasB
  rw [List.any_eq_true]
  constructor
  · rintro ⟨d, hd, hx⟩
    have hx : d.id = x := by simpa using hx
    obtain ⟨k, hk⟩ := List.getElem?_of_mem hd
    have hkl := (List.getElem?_eq_some_iff.1 hk).1
    rcases Nat.lt_trichotomy k i with hki | hki | hki
    · have := h.low k d hki hk
      omega
    · subst hki
      exact ⟨d, hk, hx⟩
    · obtain ⟨e, he⟩ : ∃ e, ds[i]? = some e := ⟨ds[i]'(by omega), List.getElem?_eq_getElem _⟩
      have h1 := hs i k e d hki he hk
      have h2 := h.high i e (Nat.le_refl _) he
      omega
  · rintro ⟨d, hd, hx⟩
    exact ⟨d, List.mem_of_getElem? hd, by simpa using hx⟩
theorem numB_no {d : Dsp} (h : numB d = false) : d.id < 1 ∨ (¬ d.id < 1 ∧ 999999999 < d.id) ∨ (¬ d.id < 1 ∧ ¬ 999999999 < d.id ∧ d.acc < 1) ∨ (¬ d.id < 1 ∧ ¬ 999999999 < d.id ∧ ¬ d.acc < 1 ∧ 9999 < d.acc) ∨ (¬ d.id < 1 ∧ ¬ 999999999 < d.id ∧ ¬ d.acc < 1 ∧ ¬ 9999 < d.acc ∧ d.use < 1) ∨ (¬ d.id < 1 ∧ ¬ 999999999 < d.id ∧ ¬ d.acc < 1 ∧ ¬ 9999 < d.acc ∧ ¬ d.use < 1 ∧ d.amt < 1) ∨ (¬ d.id < 1 ∧ ¬ 999999999 < d.id ∧ ¬ d.acc < 1 ∧ ¬ 9999 < d.acc ∧ ¬ d.use < 1 ∧ ¬ d.amt < 1 ∧ 1125899906842624 < d.amt) := by
  apply Decidable.byContradiction
  intro hn
  have : numB d = true := numB_iff.2 (by omega)
  rw [h] at this
  cases this
theorem heap_drew_size (w : World) : w.drew.heap.size = w.heap.size := rfl
theorem alloc_size2 (W : World) (o : Obj) : (W.alloc o).heap.size = W.heap.size + 1 := by simp
set_option maxHeartbeats 8000000 in
theorem open_any (ds : List Dsp) (d : Dsp) (A : Option Addr) (n c : Nat) (w : World) (h : Sl w A n c ds) (hA : NilOk A c) (hn1 : n ≤ 1000000) (hs : Srt ds) :
    Calls Try.prog 10 #[.slice A n c, d.val] w fun r w' => ∃ u, r = .returned (.tuple #[u, .int .i64 (openP ds d).2]) ∧ Ow w' w.heap.size 24 u (openP ds d).1 ∧ Below w.heap.size w w' := by
  have hlen := Lib.hid h.len
  have H := Lib.hid h
  have HS := Lib.hid hs
  have HA := Lib.hid hA
  clear h hs hA
  obtain ⟨nb, hnb⟩ : ∃ nb, numB d = nb := ⟨_, rfl⟩
  unfold Dsp.val
  cases nb
  · have HE := Lib.hid (show openP ds d = ([], 6) by unfold openP; rw [if_pos hnb])
    rcases numB_no hnb with h1 | ⟨h1, h2⟩ | ⟨h1, h2, h3⟩ | ⟨h1, h2, h3, h4⟩ | ⟨h1, h2, h3, h4, h5⟩ | ⟨h1, h2, h3, h4, h5, h6⟩ | ⟨h1, h2, h3, h4, h5, h6, h7⟩
    all_goals
      clear hnb
      go_enter Try.func10, Try.ntmps10
      go_upto_region 2 with (fail)
      (obtain ⟨W, hWW, hbW, hzW, f1W, f2W, qfa, qfb⟩ := box2 w #[.int .i64 d.id, .int .i64 d.acc, .int .i64 d.use, .int .i64 d.amt, .int .i64 d.st, .int .i64 d.cr, .int .i64 d.at_] 24 #[.int .i64 d.id, .int .i64 d.acc, .int .i64 d.use, .int .i64 d.amt, .int .i64 1, .int .i64 0, .int .i64 d.at_] 24; rw [← hWW]; have qa0 : W.cell? ⟨w.heap.size, 0, none⟩ = some (.int .i64 d.id) := f1W 0 _ rfl; have qa1 : W.cell? ⟨w.heap.size, 1, none⟩ = some (.int .i64 d.acc) := f1W 1 _ rfl; have qa2 : W.cell? ⟨w.heap.size, 2, none⟩ = some (.int .i64 d.use) := f1W 2 _ rfl; have qa3 : W.cell? ⟨w.heap.size, 3, none⟩ = some (.int .i64 d.amt) := f1W 3 _ rfl; have qa4 : W.cell? ⟨w.heap.size, 4, none⟩ = some (.int .i64 d.st) := f1W 4 _ rfl; have qa5 : W.cell? ⟨w.heap.size, 5, none⟩ = some (.int .i64 d.cr) := f1W 5 _ rfl; have qa6 : W.cell? ⟨w.heap.size, 6, none⟩ = some (.int .i64 d.at_) := f1W 6 _ rfl; have qb0 : W.cell? ⟨w.heap.size + 1, 0, none⟩ = some (.int .i64 d.id) := f2W 0 _ rfl; have qb1 : W.cell? ⟨w.heap.size + 1, 1, none⟩ = some (.int .i64 d.acc) := f2W 1 _ rfl; have qb2 : W.cell? ⟨w.heap.size + 1, 2, none⟩ = some (.int .i64 d.use) := f2W 2 _ rfl; have qb3 : W.cell? ⟨w.heap.size + 1, 3, none⟩ = some (.int .i64 d.amt) := f2W 3 _ rfl; have qb4 : W.cell? ⟨w.heap.size + 1, 4, none⟩ = some (.int .i64 1) := f2W 4 _ rfl; have qb5 : W.cell? ⟨w.heap.size + 1, 5, none⟩ = some (.int .i64 0) := f2W 5 _ rfl; have qb6 : W.cell? ⟨w.heap.size + 1, 6, none⟩ = some (.int .i64 d.at_) := f2W 6 _ rfl; clear hWW f1W f2W)
      have hg0 : w.heap.size < W.heap.size := by omega
      have hg1 : w.heap.size + 1 < W.heap.size := hzW
      go_wp2_with fail
      go_ret2
      rw [HE.out]
      exact ⟨_, rfl, Ow.nil_ _ _ _, hbW⟩
  · have hN := numB_iff.1 hnb
    have HNB := Lib.hid hnb
    obtain ⟨b1, b2, b3, b4, b5, b6, b7⟩ := hN
    have h1 : ¬ d.id < 1 := by omega
    have h2 : ¬ 999999999 < d.id := by omega
    have h3 : ¬ d.acc < 1 := by omega
    have h4 : ¬ 9999 < d.acc := by omega
    have h5 : ¬ d.use < 1 := by omega
    have h6 : ¬ d.amt < 1 := by omega
    have h7 : ¬ 1125899906842624 < d.amt := by omega
    have q0 : (d.id == d.id) = true := by simp
    have q1 : (d.acc == d.acc) = true := by simp
    have q2 : (d.use == d.use) = true := by simp
    have q3 : (d.amt == d.amt) = true := by simp
    have q6 : (d.at_ == d.at_) = true := by simp
    clear hnb b1 b2 b3 b4 b5 b6 b7
    by_cases hst : d.st ≠ 1 ∨ d.cr ≠ 0
    · have HE := Lib.hid (show openP ds d = ([], 22) by unfold openP; rw [if_neg (by rw [HNB.out]; decide), if_pos hst])
      rcases (show d.st ≠ 1 ∨ (d.st = 1 ∧ d.cr ≠ 0) by omega) with hs1 | ⟨hs1, hs2⟩
      · have q4 : (d.st == 1) = false := by simpa using hs1
        clear hst hs1
        go_enter Try.func10, Try.ntmps10
        go_upto_region 2 with (fail)
        (obtain ⟨W, hWW, hbW, hzW, f1W, f2W, qfa, qfb⟩ := box2 w #[.int .i64 d.id, .int .i64 d.acc, .int .i64 d.use, .int .i64 d.amt, .int .i64 d.st, .int .i64 d.cr, .int .i64 d.at_] 24 #[.int .i64 d.id, .int .i64 d.acc, .int .i64 d.use, .int .i64 d.amt, .int .i64 1, .int .i64 0, .int .i64 d.at_] 24; rw [← hWW]; have qa0 : W.cell? ⟨w.heap.size, 0, none⟩ = some (.int .i64 d.id) := f1W 0 _ rfl; have qa1 : W.cell? ⟨w.heap.size, 1, none⟩ = some (.int .i64 d.acc) := f1W 1 _ rfl; have qa2 : W.cell? ⟨w.heap.size, 2, none⟩ = some (.int .i64 d.use) := f1W 2 _ rfl; have qa3 : W.cell? ⟨w.heap.size, 3, none⟩ = some (.int .i64 d.amt) := f1W 3 _ rfl; have qa4 : W.cell? ⟨w.heap.size, 4, none⟩ = some (.int .i64 d.st) := f1W 4 _ rfl; have qa5 : W.cell? ⟨w.heap.size, 5, none⟩ = some (.int .i64 d.cr) := f1W 5 _ rfl; have qa6 : W.cell? ⟨w.heap.size, 6, none⟩ = some (.int .i64 d.at_) := f1W 6 _ rfl; have qb0 : W.cell? ⟨w.heap.size + 1, 0, none⟩ = some (.int .i64 d.id) := f2W 0 _ rfl; have qb1 : W.cell? ⟨w.heap.size + 1, 1, none⟩ = some (.int .i64 d.acc) := f2W 1 _ rfl; have qb2 : W.cell? ⟨w.heap.size + 1, 2, none⟩ = some (.int .i64 d.use) := f2W 2 _ rfl; have qb3 : W.cell? ⟨w.heap.size + 1, 3, none⟩ = some (.int .i64 d.amt) := f2W 3 _ rfl; have qb4 : W.cell? ⟨w.heap.size + 1, 4, none⟩ = some (.int .i64 1) := f2W 4 _ rfl; have qb5 : W.cell? ⟨w.heap.size + 1, 5, none⟩ = some (.int .i64 0) := f2W 5 _ rfl; have qb6 : W.cell? ⟨w.heap.size + 1, 6, none⟩ = some (.int .i64 d.at_) := f2W 6 _ rfl; clear hWW f1W f2W)
        have hg0 : w.heap.size < W.heap.size := by omega
        have hg1 : w.heap.size + 1 < W.heap.size := hzW
        go_wp2_with fail
        go_ret2
        rw [HE.out]
        exact ⟨_, rfl, Ow.nil_ _ _ _, hbW⟩
      · have q4 : (d.st == 1) = true := by simpa using hs1
        have q5 : (d.cr == 0) = false := by simpa using hs2
        clear hst hs1 hs2
        go_enter Try.func10, Try.ntmps10
        go_upto_region 2 with (fail)
        (obtain ⟨W, hWW, hbW, hzW, f1W, f2W, qfa, qfb⟩ := box2 w #[.int .i64 d.id, .int .i64 d.acc, .int .i64 d.use, .int .i64 d.amt, .int .i64 d.st, .int .i64 d.cr, .int .i64 d.at_] 24 #[.int .i64 d.id, .int .i64 d.acc, .int .i64 d.use, .int .i64 d.amt, .int .i64 1, .int .i64 0, .int .i64 d.at_] 24; rw [← hWW]; have qa0 : W.cell? ⟨w.heap.size, 0, none⟩ = some (.int .i64 d.id) := f1W 0 _ rfl; have qa1 : W.cell? ⟨w.heap.size, 1, none⟩ = some (.int .i64 d.acc) := f1W 1 _ rfl; have qa2 : W.cell? ⟨w.heap.size, 2, none⟩ = some (.int .i64 d.use) := f1W 2 _ rfl; have qa3 : W.cell? ⟨w.heap.size, 3, none⟩ = some (.int .i64 d.amt) := f1W 3 _ rfl; have qa4 : W.cell? ⟨w.heap.size, 4, none⟩ = some (.int .i64 d.st) := f1W 4 _ rfl; have qa5 : W.cell? ⟨w.heap.size, 5, none⟩ = some (.int .i64 d.cr) := f1W 5 _ rfl; have qa6 : W.cell? ⟨w.heap.size, 6, none⟩ = some (.int .i64 d.at_) := f1W 6 _ rfl; have qb0 : W.cell? ⟨w.heap.size + 1, 0, none⟩ = some (.int .i64 d.id) := f2W 0 _ rfl; have qb1 : W.cell? ⟨w.heap.size + 1, 1, none⟩ = some (.int .i64 d.acc) := f2W 1 _ rfl; have qb2 : W.cell? ⟨w.heap.size + 1, 2, none⟩ = some (.int .i64 d.use) := f2W 2 _ rfl; have qb3 : W.cell? ⟨w.heap.size + 1, 3, none⟩ = some (.int .i64 d.amt) := f2W 3 _ rfl; have qb4 : W.cell? ⟨w.heap.size + 1, 4, none⟩ = some (.int .i64 1) := f2W 4 _ rfl; have qb5 : W.cell? ⟨w.heap.size + 1, 5, none⟩ = some (.int .i64 0) := f2W 5 _ rfl; have qb6 : W.cell? ⟨w.heap.size + 1, 6, none⟩ = some (.int .i64 d.at_) := f2W 6 _ rfl; clear hWW f1W f2W)
        have hg0 : w.heap.size < W.heap.size := by omega
        have hg1 : w.heap.size + 1 < W.heap.size := hzW
        go_wp2_with fail
        go_ret2
        rw [HE.out]
        exact ⟨_, rfl, Ow.nil_ _ _ _, hbW⟩
    · have q4 : (d.st == 1) = true := by simp; omega
      have q5 : (d.cr == 0) = true := by simp; omega
      have HST := Lib.hid hst
      clear hst
      by_cases ht : 0 ≤ d.at_ ∧ d.at_ < 12622780800
      · obtain ⟨t1, t2⟩ := ht
        have HT := Lib.hid (insB_iff.2 ⟨t1, t2⟩)
        have t3 : ¬ d.at_ < 0 := by omega
        have t4 : ¬ 12622780800 ≤ d.at_ := by omega
        clear t1 t2
        have HE0 := Lib.hid (show openP ds d = if hasB ds d.id = true then ([], 10) else if ds.any (pendB d.use) = true then ([], 22) else if 4096 ≤ ds.length then ([], 5) else (insP ds d, 0) by unfold openP; rw [if_neg (by rw [HNB.out]; decide), if_neg HST.out, if_neg (by rw [HT.out]; decide)])
        go_enter Try.func10, Try.ntmps10
        go_upto_region 2 with (fail)
        (obtain ⟨W, hWW, hbW, hzW, f1W, f2W, qfa, qfb⟩ := box2 w #[.int .i64 d.id, .int .i64 d.acc, .int .i64 d.use, .int .i64 d.amt, .int .i64 d.st, .int .i64 d.cr, .int .i64 d.at_] 24 #[.int .i64 d.id, .int .i64 d.acc, .int .i64 d.use, .int .i64 d.amt, .int .i64 1, .int .i64 0, .int .i64 d.at_] 24; rw [← hWW]; have qa0 : W.cell? ⟨w.heap.size, 0, none⟩ = some (.int .i64 d.id) := f1W 0 _ rfl; have qa1 : W.cell? ⟨w.heap.size, 1, none⟩ = some (.int .i64 d.acc) := f1W 1 _ rfl; have qa2 : W.cell? ⟨w.heap.size, 2, none⟩ = some (.int .i64 d.use) := f1W 2 _ rfl; have qa3 : W.cell? ⟨w.heap.size, 3, none⟩ = some (.int .i64 d.amt) := f1W 3 _ rfl; have qa4 : W.cell? ⟨w.heap.size, 4, none⟩ = some (.int .i64 d.st) := f1W 4 _ rfl; have qa5 : W.cell? ⟨w.heap.size, 5, none⟩ = some (.int .i64 d.cr) := f1W 5 _ rfl; have qa6 : W.cell? ⟨w.heap.size, 6, none⟩ = some (.int .i64 d.at_) := f1W 6 _ rfl; have qb0 : W.cell? ⟨w.heap.size + 1, 0, none⟩ = some (.int .i64 d.id) := f2W 0 _ rfl; have qb1 : W.cell? ⟨w.heap.size + 1, 1, none⟩ = some (.int .i64 d.acc) := f2W 1 _ rfl; have qb2 : W.cell? ⟨w.heap.size + 1, 2, none⟩ = some (.int .i64 d.use) := f2W 2 _ rfl; have qb3 : W.cell? ⟨w.heap.size + 1, 3, none⟩ = some (.int .i64 d.amt) := f2W 3 _ rfl; have qb4 : W.cell? ⟨w.heap.size + 1, 4, none⟩ = some (.int .i64 1) := f2W 4 _ rfl; have qb5 : W.cell? ⟨w.heap.size + 1, 5, none⟩ = some (.int .i64 0) := f2W 5 _ rfl; have qb6 : W.cell? ⟨w.heap.size + 1, 6, none⟩ = some (.int .i64 d.at_) := f2W 6 _ rfl; clear hWW f1W f2W)
        have hg0 : w.heap.size < W.heap.size := by omega
        have hg1 : w.heap.size + 1 < W.heap.size := hzW
        go_wp2_with fail
        refine (find_any A n c ds d.id _ (H.out.below hbW) hn1 HS.out).mono ?_
        rintro r w1 ⟨i, is, rfl, hat, hb1⟩
        have HAT := Lib.hid hat
        clear hat
        have hT := hbW
        (have hzhb1 := hb1.size; replace qa0 := (hb1.cell (p := ⟨_, _, none⟩) (by (try dsimp only) <;> omega)).trans qa0; replace qa1 := (hb1.cell (p := ⟨_, _, none⟩) (by (try dsimp only) <;> omega)).trans qa1; replace qa2 := (hb1.cell (p := ⟨_, _, none⟩) (by (try dsimp only) <;> omega)).trans qa2; replace qa3 := (hb1.cell (p := ⟨_, _, none⟩) (by (try dsimp only) <;> omega)).trans qa3; replace qa4 := (hb1.cell (p := ⟨_, _, none⟩) (by (try dsimp only) <;> omega)).trans qa4; replace qa5 := (hb1.cell (p := ⟨_, _, none⟩) (by (try dsimp only) <;> omega)).trans qa5; replace qa6 := (hb1.cell (p := ⟨_, _, none⟩) (by (try dsimp only) <;> omega)).trans qa6; replace hT := Below.trans hT (Below.mono hb1 (by omega)))
        have hg2 : w.heap.size < w1.heap.size := by omega
        clear hb1
        cases is
        · have HE1 := Lib.hid (HE0.out.trans (if_neg (by rw [HAT.out.has HS.out]; decide)))
          go_wp2_with fail
          refine (contains_any w.heap.size d.use A n c ds _ (H.out.below hT) hg2 qa2).mono ?_
          rintro r w2 ⟨rfl, hb2⟩
          (have hzhb2 := hb2.size; replace qa0 := (hb2.cell (p := ⟨_, _, none⟩) (by (try dsimp only) <;> omega)).trans qa0; replace qa1 := (hb2.cell (p := ⟨_, _, none⟩) (by (try dsimp only) <;> omega)).trans qa1; replace qa2 := (hb2.cell (p := ⟨_, _, none⟩) (by (try dsimp only) <;> omega)).trans qa2; replace qa3 := (hb2.cell (p := ⟨_, _, none⟩) (by (try dsimp only) <;> omega)).trans qa3; replace qa4 := (hb2.cell (p := ⟨_, _, none⟩) (by (try dsimp only) <;> omega)).trans qa4; replace qa5 := (hb2.cell (p := ⟨_, _, none⟩) (by (try dsimp only) <;> omega)).trans qa5; replace qa6 := (hb2.cell (p := ⟨_, _, none⟩) (by (try dsimp only) <;> omega)).trans qa6; replace hT := Below.trans hT (Below.mono hb2 (by omega)))
          have hg3 : w.heap.size < w2.heap.size := by omega
          clear hb2
          obtain ⟨bb, hbb⟩ : ∃ bb, ds.any (pendB d.use) = bb := ⟨_, rfl⟩
          have HBB := Lib.hid hbb
          rw [hbb]
          clear hbb
          cases bb
          · have HE2 := Lib.hid (HE1.out.trans (if_neg (by rw [HBB.out]; decide)))
            by_cases h4096 : 4096 ≤ n
            · have HE := Lib.hid (HE2.out.trans (if_pos (by rw [hlen.out]; exact h4096)))
              have hi4 : (4096 : Int) ≤ (n : Int) := by omega
              go_wp2_with fail
              go_ret2
              rw [HE.out]
              exact ⟨_, rfl, Ow.nil_ _ _ _, hT⟩
            · have HE := Lib.hid (HE2.out.trans (if_neg (by rw [hlen.out]; exact h4096)))
              have hi4 : ¬ (4096 : Int) ≤ (n : Int) := by omega
              go_upto_region 16 with (fail)
              go_region_with (first
                | (go_at_call 30; refine (clone_any A n c ds _ (by first | exact (H.out.below hT).below (Below.refl _ _).drew | exact (H.out.below hT).below (((Below.refl _ _).alloc (Nat.le_refl _) _).drew)) HA.out (by omega)).mono ?_; rintro r wC ⟨vC, rfl, hoC, hbC⟩; have hzC : w2.heap.size ≤ wC.heap.size := (by have hzz := hbC.size; (try simp only [heap_drew_size, alloc_size2] at hzz); omega); have hoL : Ow wC w.heap.size 24 vC ds := hoC.lower (by (try simp only [heap_drew_size, alloc_size2]); omega); have eqa0 := (hbC.cell (p := ⟨w.heap.size, 0, none⟩) (by (try dsimp only); (try simp only [heap_drew_size, alloc_size2]); omega)).trans (by first | exact qa0 | exact (((Below.refl _ _).alloc (Nat.le_refl _) _).cell (p := ⟨w.heap.size, 0, none⟩) (by (try dsimp only); omega)).trans qa0); have eqa1 := (hbC.cell (p := ⟨w.heap.size, 1, none⟩) (by (try dsimp only); (try simp only [heap_drew_size, alloc_size2]); omega)).trans (by first | exact qa1 | exact (((Below.refl _ _).alloc (Nat.le_refl _) _).cell (p := ⟨w.heap.size, 1, none⟩) (by (try dsimp only); omega)).trans qa1); have eqa2 := (hbC.cell (p := ⟨w.heap.size, 2, none⟩) (by (try dsimp only); (try simp only [heap_drew_size, alloc_size2]); omega)).trans (by first | exact qa2 | exact (((Below.refl _ _).alloc (Nat.le_refl _) _).cell (p := ⟨w.heap.size, 2, none⟩) (by (try dsimp only); omega)).trans qa2); have eqa3 := (hbC.cell (p := ⟨w.heap.size, 3, none⟩) (by (try dsimp only); (try simp only [heap_drew_size, alloc_size2]); omega)).trans (by first | exact qa3 | exact (((Below.refl _ _).alloc (Nat.le_refl _) _).cell (p := ⟨w.heap.size, 3, none⟩) (by (try dsimp only); omega)).trans qa3); have eqa4 := (hbC.cell (p := ⟨w.heap.size, 4, none⟩) (by (try dsimp only); (try simp only [heap_drew_size, alloc_size2]); omega)).trans (by first | exact qa4 | exact (((Below.refl _ _).alloc (Nat.le_refl _) _).cell (p := ⟨w.heap.size, 4, none⟩) (by (try dsimp only); omega)).trans qa4); have eqa5 := (hbC.cell (p := ⟨w.heap.size, 5, none⟩) (by (try dsimp only); (try simp only [heap_drew_size, alloc_size2]); omega)).trans (by first | exact qa5 | exact (((Below.refl _ _).alloc (Nat.le_refl _) _).cell (p := ⟨w.heap.size, 5, none⟩) (by (try dsimp only); omega)).trans qa5); have eqa6 := (hbC.cell (p := ⟨w.heap.size, 6, none⟩) (by (try dsimp only); (try simp only [heap_drew_size, alloc_size2]); omega)).trans (by first | exact qa6 | exact (((Below.refl _ _).alloc (Nat.le_refl _) _).cell (p := ⟨w.heap.size, 6, none⟩) (by (try dsimp only); omega)).trans qa6))
                | (go_at_call 29; refine (insert_any w.heap.size vC ds d _ i _ (by first | exact hoL.alloc _ | exact hoL) (by first | exact heap_alloc_new _ _ | exact (hbC.block _ (by simp only [heap_drew_size, alloc_size2]; omega)).trans (heap_alloc_new _ _)) (fun e => by (have hlt := hoC.lt _ e; (try simp only [heap_drew_size, alloc_size2] at hlt); omega)) HAT.out.le (by have := hlen.out; omega) (by (try simp only [heap_drew_size, alloc_size2]); omega)).mono ?_; rintro r wI ⟨vI, rfl, hoI, huI⟩))
              all_goals
                have hbC2 : Below w2.heap.size w2 wC := by
                  first
                  | exact (Below.refl w2.heap.size w2).drew.trans hbC
                  | exact ((Below.refl w2.heap.size w2).alloc (Nat.le_refl _) _).drew.trans (Below.mono hbC (by simp only [heap_drew_size, alloc_size2]; omega))
                have hle : w.heap.size ≤ w2.heap.size := by omega
                have hbw : Below w.heap.size w wC := hT.trans (hbC2.mono hle)
                have hbI : Below w.heap.size w wI := by first | exact huI.belowBase (hoL.alloc _) (hbw.alloc (by omega) _) (by simp only [alloc_size2]; omega) | exact huI.belowBase hoL hbw (by omega)
                have hoI2 : Ow wI w.heap.size 24 vI (insP ds d) := by rw [HAT.out.ins]; exact hoI
                have HOI := Lib.hid hoI2
                have HBI := Lib.hid hbI
                clear hoI huI hoI2 hbw hbI hoC hoL
                go_wp2_with fail
                go_ret2
                rw [HE.out]
                exact ⟨_, rfl, HOI.out, HBI.out⟩
          · have HE := Lib.hid (HE1.out.trans (if_pos HBB.out))
            go_wp2_with fail
            go_ret2
            rw [HE.out]
            exact ⟨_, rfl, Ow.nil_ _ _ _, hT⟩
        · have HE := Lib.hid (HE0.out.trans (if_pos (by rw [HAT.out.has HS.out])))
          go_wp2_with fail
          go_ret2
          rw [HE.out]
          exact ⟨_, rfl, Ow.nil_ _ _ _, hT⟩
      · have HE := Lib.hid (show openP ds d = ([], 15) by unfold openP; rw [if_neg (by rw [HNB.out]; decide), if_neg HST.out, if_pos (by cases hq : insB d.at_; rfl; exact absurd (insB_iff.1 hq) ht)])
        rcases (show d.at_ < 0 ∨ (¬ d.at_ < 0 ∧ 12622780800 ≤ d.at_) by omega) with ht1 | ⟨ht1, ht2⟩
        all_goals
          clear ht
          go_enter Try.func10, Try.ntmps10
          go_upto_region 2 with (fail)
          (obtain ⟨W, hWW, hbW, hzW, f1W, f2W, qfa, qfb⟩ := box2 w #[.int .i64 d.id, .int .i64 d.acc, .int .i64 d.use, .int .i64 d.amt, .int .i64 d.st, .int .i64 d.cr, .int .i64 d.at_] 24 #[.int .i64 d.id, .int .i64 d.acc, .int .i64 d.use, .int .i64 d.amt, .int .i64 1, .int .i64 0, .int .i64 d.at_] 24; rw [← hWW]; have qa0 : W.cell? ⟨w.heap.size, 0, none⟩ = some (.int .i64 d.id) := f1W 0 _ rfl; have qa1 : W.cell? ⟨w.heap.size, 1, none⟩ = some (.int .i64 d.acc) := f1W 1 _ rfl; have qa2 : W.cell? ⟨w.heap.size, 2, none⟩ = some (.int .i64 d.use) := f1W 2 _ rfl; have qa3 : W.cell? ⟨w.heap.size, 3, none⟩ = some (.int .i64 d.amt) := f1W 3 _ rfl; have qa4 : W.cell? ⟨w.heap.size, 4, none⟩ = some (.int .i64 d.st) := f1W 4 _ rfl; have qa5 : W.cell? ⟨w.heap.size, 5, none⟩ = some (.int .i64 d.cr) := f1W 5 _ rfl; have qa6 : W.cell? ⟨w.heap.size, 6, none⟩ = some (.int .i64 d.at_) := f1W 6 _ rfl; have qb0 : W.cell? ⟨w.heap.size + 1, 0, none⟩ = some (.int .i64 d.id) := f2W 0 _ rfl; have qb1 : W.cell? ⟨w.heap.size + 1, 1, none⟩ = some (.int .i64 d.acc) := f2W 1 _ rfl; have qb2 : W.cell? ⟨w.heap.size + 1, 2, none⟩ = some (.int .i64 d.use) := f2W 2 _ rfl; have qb3 : W.cell? ⟨w.heap.size + 1, 3, none⟩ = some (.int .i64 d.amt) := f2W 3 _ rfl; have qb4 : W.cell? ⟨w.heap.size + 1, 4, none⟩ = some (.int .i64 1) := f2W 4 _ rfl; have qb5 : W.cell? ⟨w.heap.size + 1, 5, none⟩ = some (.int .i64 0) := f2W 5 _ rfl; have qb6 : W.cell? ⟨w.heap.size + 1, 6, none⟩ = some (.int .i64 d.at_) := f2W 6 _ rfl; clear hWW f1W f2W)
          have hg0 : w.heap.size < W.heap.size := by omega
          have hg1 : w.heap.size + 1 < W.heap.size := hzW
          go_wp2_with fail
          go_ret2
          rw [HE.out]
          exact ⟨_, rfl, Ow.nil_ _ _ _, hbW⟩
end Dp
end Go.Proofs.Ythidlakkpdbeaaa
