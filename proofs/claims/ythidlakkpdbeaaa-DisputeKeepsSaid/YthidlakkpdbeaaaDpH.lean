/-
  Disputes: decide. No condition.
-/
import Derived.Test.YthidlakkpdbeaaaDpG
import Derived.BigQuiet
import Derived.StillTailTactics
import Derived.Lib.Overlaps
import Derived.Deep.DeepCutAuto
import Derived.Deep.RegionWith
import Derived.Laws.Rows
set_option maxRecDepth 100000
set_option linter.unusedVariables false
set_option linter.unusedSimpArgs false
namespace Go.Proofs.Ythidlakkpdbeaaa
open Go.RowKit

namespace Dp
def posP (ds : List Dsp) (x : Int) : Nat := ds.findIdx fun d => decide (d.id = x)
def decP (ds : List Dsp) (x s c t : Int) : List Dsp × Int :=
  match ds[posP ds x]? with
  | none => ([], 11)
  | some d => if d.st ≠ 1 then ([], 22) else if s = 2 ∧ (c < 1 ∨ d.amt < c) then ([], 6) else if t < 0 ∨ 12622780800 ≤ t ∨ t < d.at_ then ([], 15)
    else (ds.set (posP ds x) ⟨d.id, d.acc, d.use, d.amt, s, c, t⟩, 0)
theorem pos_at {ds : List Dsp} {x : Int} {j : Nat} {d : Dsp} (hd : ds[j]? = some d) (hx : d.id = x) (hl : ∀ (k : Nat) (e : Dsp), k < j → ds[k]? = some e → e.id ≠ x) : posP ds x = j := by
  obtain ⟨hj, hd2⟩ := List.getElem?_eq_some_iff.1 hd
  unfold posP
  rw [List.findIdx_eq hj]
  refine ⟨by rw [hd2]; simpa using hx, fun k hk => ?_⟩
  simpa using hl k ds[k] hk (List.getElem?_eq_getElem _)
theorem pos_none {ds : List Dsp} {x : Int} (h : hasB ds x = false) : ds[posP ds x]? = none := by
  apply List.getElem?_eq_none
  have : posP ds x = ds.length := by
    unfold posP
    rw [List.findIdx_eq_length]
    intro d hd
    unfold hasB at h
    rw [List.any_eq_false] at h
    simpa using h d hd
  omega
theorem At.yes {ds : List Dsp} {x : Int} {i : Nat} (h : At ds x i true) : ∃ d, ds[i]? = some d ∧ d.id = x ∧ posP ds x = i := by
  obtain ⟨d, hd, hx⟩ := h.is_.1 rfl
  exact ⟨d, hd, hx, pos_at hd hx fun k e hk he => by have := h.low k e hk he; omega⟩
theorem get_set {α : Type} {l : List α} {i : Nat} {x y : α} (h : l[i]? = some x) : (l.set i y)[i]? = some y := by
  have := (List.getElem?_eq_some_iff.1 h).1
  rw [List.getElem?_set_self this]
theorem stored7 {w : World} {base : Nat} {e : TypeId} {g n cap i : Nat} {xs : List Dsp} {x : Dsp} (h : Ow w base e (.slice (some ⟨g, 0, none⟩) n cap) xs) (hx : xs[i]? = some x) (a0 a1 a2 a3 a4 a5 a6 : Int) :
    Ow (((((((w.setCell ⟨g, i * 7, none⟩ (.int .i64 a0)).setCell ⟨g, i * 7 + 1, none⟩ (.int .i64 a1)).setCell ⟨g, i * 7 + 2, none⟩ (.int .i64 a2)).setCell ⟨g, i * 7 + 3, none⟩ (.int .i64 a3)).setCell ⟨g, i * 7 + 4, none⟩ (.int .i64 a4)).setCell ⟨g, i * 7 + 5, none⟩ (.int .i64 a5)).setCell ⟨g, i * 7 + 6, none⟩ (.int .i64 a6)) base e (.slice (some ⟨g, 0, none⟩) n cap) (xs.set i ⟨a0, a1, a2, a3, a4, a5, a6⟩) := by
  have o0 := Ow.stored h hx (x' := ⟨a0, x.acc, x.use, x.amt, x.st, x.cr, x.at_⟩) 0 (.int .i64 a0) (by decide) rfl
  have x0 := get_set (y := (⟨a0, x.acc, x.use, x.amt, x.st, x.cr, x.at_⟩ : Dsp)) hx
  have o1 := Ow.stored o0 x0 (x' := ⟨a0, a1, x.use, x.amt, x.st, x.cr, x.at_⟩) 1 (.int .i64 a1) (by decide) rfl
  rw [List.set_set] at o1
  have x1 := get_set (y := (⟨a0, a1, x.use, x.amt, x.st, x.cr, x.at_⟩ : Dsp)) hx
  have o2 := Ow.stored o1 x1 (x' := ⟨a0, a1, a2, x.amt, x.st, x.cr, x.at_⟩) 2 (.int .i64 a2) (by decide) rfl
  rw [List.set_set] at o2
  have x2 := get_set (y := (⟨a0, a1, a2, x.amt, x.st, x.cr, x.at_⟩ : Dsp)) hx
  have o3 := Ow.stored o2 x2 (x' := ⟨a0, a1, a2, a3, x.st, x.cr, x.at_⟩) 3 (.int .i64 a3) (by decide) rfl
  rw [List.set_set] at o3
  have x3 := get_set (y := (⟨a0, a1, a2, a3, x.st, x.cr, x.at_⟩ : Dsp)) hx
  have o4 := Ow.stored o3 x3 (x' := ⟨a0, a1, a2, a3, a4, x.cr, x.at_⟩) 4 (.int .i64 a4) (by decide) rfl
  rw [List.set_set] at o4
  have x4 := get_set (y := (⟨a0, a1, a2, a3, a4, x.cr, x.at_⟩ : Dsp)) hx
  have o5 := Ow.stored o4 x4 (x' := ⟨a0, a1, a2, a3, a4, a5, x.at_⟩) 5 (.int .i64 a5) (by decide) rfl
  rw [List.set_set] at o5
  have x5 := get_set (y := (⟨a0, a1, a2, a3, a4, a5, x.at_⟩ : Dsp)) hx
  have o6 := Ow.stored o5 x5 (x' := ⟨a0, a1, a2, a3, a4, a5, a6⟩) 6 (.int .i64 a6) (by decide) rfl
  rw [List.set_set] at o6
  have x6 := get_set (y := (⟨a0, a1, a2, a3, a4, a5, a6⟩ : Dsp)) hx
  exact o6
set_option maxHeartbeats 16000000 in
theorem decide_any (x s cr t : Int) (A : Option Addr) (n c : Nat) (ds : List Dsp) (w : World) (h : Sl w A n c ds) (hA : NilOk A c) (hn1 : n ≤ 1000000) (hs : Srt ds) :
    Calls Try.prog 38 #[.slice A n c, .int .i64 x, .int .i64 s, .int .i64 cr, .int .i64 t] w fun r w' => ∃ u, r = .returned (.tuple #[u, .int .i64 (decP ds x s cr t).2]) ∧ Ow w' w.heap.size 24 u (decP ds x s cr t).1 ∧ Below w.heap.size w w' := by
  have hlen := Lib.hid h.len
  have H := Lib.hid h
  have HS := Lib.hid hs
  have HA := Lib.hid hA
  clear h hs hA
  go_enter Try.func38, Try.ntmps38
  go_wp2_with fail
  refine (find_any A n c ds x _ H.out hn1 HS.out).mono ?_
  rintro r w1 ⟨i, is, rfl, hat, hT⟩
  cases is
  · have HE := Lib.hid (show decP ds x s cr t = ([], 11) by unfold decP; rw [pos_none (by rw [hat.has HS.out])])
    clear hat
    go_wp2_with fail
    go_ret2
    rw [HE.out]
    exact ⟨_, rfl, Ow.nil_ _ _ _, hT⟩
  · obtain ⟨d, hr, hdx, hpos⟩ := hat.yes
    have hil : i < n := by have := (List.getElem?_eq_some_iff.1 hr).1; have := hlen.out; omega
    obtain ⟨b, off, rfl, hbw, hc⟩ := H.out.baseIn hT (by omega)
    (have c0 : w1.cell? ⟨b, off + i * 7, none⟩ = some (.int .i64 d.id) := Sl.at_ hc hr 0 rfl; have c1 : w1.cell? ⟨b, off + i * 7 + 1, none⟩ = some (.int .i64 d.acc) := Sl.at_ hc hr 1 rfl; have c2 : w1.cell? ⟨b, off + i * 7 + 2, none⟩ = some (.int .i64 d.use) := Sl.at_ hc hr 2 rfl; have c3 : w1.cell? ⟨b, off + i * 7 + 3, none⟩ = some (.int .i64 d.amt) := Sl.at_ hc hr 3 rfl; have c4 : w1.cell? ⟨b, off + i * 7 + 4, none⟩ = some (.int .i64 d.st) := Sl.at_ hc hr 4 rfl; have c5 : w1.cell? ⟨b, off + i * 7 + 5, none⟩ = some (.int .i64 d.cr) := Sl.at_ hc hr 5 rfl; have c6 : w1.cell? ⟨b, off + i * 7 + 6, none⟩ = some (.int .i64 d.at_) := Sl.at_ hc hr 6 rfl)
    have HR := Lib.hid hr
    have HE0 : decP ds x s cr t = if d.st ≠ 1 then ([], 22) else if s = 2 ∧ (cr < 1 ∨ d.amt < cr) then ([], 6) else if t < 0 ∨ 12622780800 ≤ t ∨ t < d.at_ then ([], 15) else (ds.set i ⟨d.id, d.acc, d.use, d.amt, s, cr, t⟩, 0) := by
      unfold decP
      rw [hpos, hr]
    have hz1 := hT.size
    have hnn := H.out.nmax
    have hile : ((i : Int)) < (n : Int) := by omega
    clear hr hc hdx hpos hat
    by_cases h1 : d.st = 1
    · have q1 : (d.st == 1) = true := by simpa using h1
      have HE1 := HE0.trans (if_neg (by omega : ¬ d.st ≠ 1))
      by_cases s1 : s = 2
      · have q2 : (s == 2) = true := by simpa using s1
        by_cases kc1 : cr < 1
        · have HE := Lib.hid (HE1.trans (if_pos ⟨s1, .inl kc1⟩))
          clear HE0 HE1 h1 s1
          go_upto_region 5 with (fail)
          (obtain ⟨V, hWV, hbV, hzV, f1V, qfa⟩ := box1 w1 #[.int .i64 d.id, .int .i64 d.acc, .int .i64 d.use, .int .i64 d.amt, .int .i64 d.st, .int .i64 d.cr, .int .i64 d.at_] 24; rw [← hWV]; have qa0 : V.cell? ⟨w1.heap.size, 0, none⟩ = some (.int .i64 d.id) := f1V 0 _ rfl; have qa1 : V.cell? ⟨w1.heap.size, 1, none⟩ = some (.int .i64 d.acc) := f1V 1 _ rfl; have qa2 : V.cell? ⟨w1.heap.size, 2, none⟩ = some (.int .i64 d.use) := f1V 2 _ rfl; have qa3 : V.cell? ⟨w1.heap.size, 3, none⟩ = some (.int .i64 d.amt) := f1V 3 _ rfl; have qa4 : V.cell? ⟨w1.heap.size, 4, none⟩ = some (.int .i64 d.st) := f1V 4 _ rfl; have qa5 : V.cell? ⟨w1.heap.size, 5, none⟩ = some (.int .i64 d.cr) := f1V 5 _ rfl; have qa6 : V.cell? ⟨w1.heap.size, 6, none⟩ = some (.int .i64 d.at_) := f1V 6 _ rfl; clear hWV f1V)
          (have hzhbV := hbV.size; replace hT := Below.trans hT (Below.mono hbV (by omega)))
          have hgV : w1.heap.size < V.heap.size := hzV
          clear c0 c1 c2 c3 c4 c5 c6 hbV
          go_wp2_with fail
          go_ret2
          rw [HE.out]
          exact ⟨_, rfl, Ow.nil_ _ _ _, hT⟩
        · by_cases kc2 : d.amt < cr
          · have HE := Lib.hid (HE1.trans (if_pos ⟨s1, .inr kc2⟩))
            clear HE0 HE1 h1 s1
            go_upto_region 5 with (fail)
            (obtain ⟨V, hWV, hbV, hzV, f1V, qfa⟩ := box1 w1 #[.int .i64 d.id, .int .i64 d.acc, .int .i64 d.use, .int .i64 d.amt, .int .i64 d.st, .int .i64 d.cr, .int .i64 d.at_] 24; rw [← hWV]; have qa0 : V.cell? ⟨w1.heap.size, 0, none⟩ = some (.int .i64 d.id) := f1V 0 _ rfl; have qa1 : V.cell? ⟨w1.heap.size, 1, none⟩ = some (.int .i64 d.acc) := f1V 1 _ rfl; have qa2 : V.cell? ⟨w1.heap.size, 2, none⟩ = some (.int .i64 d.use) := f1V 2 _ rfl; have qa3 : V.cell? ⟨w1.heap.size, 3, none⟩ = some (.int .i64 d.amt) := f1V 3 _ rfl; have qa4 : V.cell? ⟨w1.heap.size, 4, none⟩ = some (.int .i64 d.st) := f1V 4 _ rfl; have qa5 : V.cell? ⟨w1.heap.size, 5, none⟩ = some (.int .i64 d.cr) := f1V 5 _ rfl; have qa6 : V.cell? ⟨w1.heap.size, 6, none⟩ = some (.int .i64 d.at_) := f1V 6 _ rfl; clear hWV f1V)
            (have hzhbV := hbV.size; replace hT := Below.trans hT (Below.mono hbV (by omega)))
            have hgV : w1.heap.size < V.heap.size := hzV
            clear c0 c1 c2 c3 c4 c5 c6 hbV
            go_wp2_with fail
            go_ret2
            rw [HE.out]
            exact ⟨_, rfl, Ow.nil_ _ _ _, hT⟩
          · have HE2 := HE1.trans (if_neg (by omega))
            clear HE0 HE1 h1 s1
            by_cases t1 : t < 0
            · have HE := Lib.hid (HE2.trans (if_pos (.inl t1)))
              clear HE2
              go_upto_region 5 with (fail)
              (obtain ⟨V, hWV, hbV, hzV, f1V, qfa⟩ := box1 w1 #[.int .i64 d.id, .int .i64 d.acc, .int .i64 d.use, .int .i64 d.amt, .int .i64 d.st, .int .i64 d.cr, .int .i64 d.at_] 24; rw [← hWV]; have qa0 : V.cell? ⟨w1.heap.size, 0, none⟩ = some (.int .i64 d.id) := f1V 0 _ rfl; have qa1 : V.cell? ⟨w1.heap.size, 1, none⟩ = some (.int .i64 d.acc) := f1V 1 _ rfl; have qa2 : V.cell? ⟨w1.heap.size, 2, none⟩ = some (.int .i64 d.use) := f1V 2 _ rfl; have qa3 : V.cell? ⟨w1.heap.size, 3, none⟩ = some (.int .i64 d.amt) := f1V 3 _ rfl; have qa4 : V.cell? ⟨w1.heap.size, 4, none⟩ = some (.int .i64 d.st) := f1V 4 _ rfl; have qa5 : V.cell? ⟨w1.heap.size, 5, none⟩ = some (.int .i64 d.cr) := f1V 5 _ rfl; have qa6 : V.cell? ⟨w1.heap.size, 6, none⟩ = some (.int .i64 d.at_) := f1V 6 _ rfl; clear hWV f1V)
              (have hzhbV := hbV.size; replace hT := Below.trans hT (Below.mono hbV (by omega)))
              have hgV : w1.heap.size < V.heap.size := hzV
              clear c0 c1 c2 c3 c4 c5 c6 hbV
              go_wp2_with fail
              go_ret2
              rw [HE.out]
              exact ⟨_, rfl, Ow.nil_ _ _ _, hT⟩
            · by_cases t2 : 12622780800 ≤ t
              · have HE := Lib.hid (HE2.trans (if_pos (.inr (.inl t2))))
                clear HE2
                go_upto_region 5 with (fail)
                (obtain ⟨V, hWV, hbV, hzV, f1V, qfa⟩ := box1 w1 #[.int .i64 d.id, .int .i64 d.acc, .int .i64 d.use, .int .i64 d.amt, .int .i64 d.st, .int .i64 d.cr, .int .i64 d.at_] 24; rw [← hWV]; have qa0 : V.cell? ⟨w1.heap.size, 0, none⟩ = some (.int .i64 d.id) := f1V 0 _ rfl; have qa1 : V.cell? ⟨w1.heap.size, 1, none⟩ = some (.int .i64 d.acc) := f1V 1 _ rfl; have qa2 : V.cell? ⟨w1.heap.size, 2, none⟩ = some (.int .i64 d.use) := f1V 2 _ rfl; have qa3 : V.cell? ⟨w1.heap.size, 3, none⟩ = some (.int .i64 d.amt) := f1V 3 _ rfl; have qa4 : V.cell? ⟨w1.heap.size, 4, none⟩ = some (.int .i64 d.st) := f1V 4 _ rfl; have qa5 : V.cell? ⟨w1.heap.size, 5, none⟩ = some (.int .i64 d.cr) := f1V 5 _ rfl; have qa6 : V.cell? ⟨w1.heap.size, 6, none⟩ = some (.int .i64 d.at_) := f1V 6 _ rfl; clear hWV f1V)
                (have hzhbV := hbV.size; replace hT := Below.trans hT (Below.mono hbV (by omega)))
                have hgV : w1.heap.size < V.heap.size := hzV
                clear c0 c1 c2 c3 c4 c5 c6 hbV
                go_wp2_with fail
                go_ret2
                rw [HE.out]
                exact ⟨_, rfl, Ow.nil_ _ _ _, hT⟩
              · by_cases t3 : t < d.at_
                · have HE := Lib.hid (HE2.trans (if_pos (.inr (.inr t3))))
                  clear HE2
                  go_upto_region 5 with (fail)
                  (obtain ⟨V, hWV, hbV, hzV, f1V, qfa⟩ := box1 w1 #[.int .i64 d.id, .int .i64 d.acc, .int .i64 d.use, .int .i64 d.amt, .int .i64 d.st, .int .i64 d.cr, .int .i64 d.at_] 24; rw [← hWV]; have qa0 : V.cell? ⟨w1.heap.size, 0, none⟩ = some (.int .i64 d.id) := f1V 0 _ rfl; have qa1 : V.cell? ⟨w1.heap.size, 1, none⟩ = some (.int .i64 d.acc) := f1V 1 _ rfl; have qa2 : V.cell? ⟨w1.heap.size, 2, none⟩ = some (.int .i64 d.use) := f1V 2 _ rfl; have qa3 : V.cell? ⟨w1.heap.size, 3, none⟩ = some (.int .i64 d.amt) := f1V 3 _ rfl; have qa4 : V.cell? ⟨w1.heap.size, 4, none⟩ = some (.int .i64 d.st) := f1V 4 _ rfl; have qa5 : V.cell? ⟨w1.heap.size, 5, none⟩ = some (.int .i64 d.cr) := f1V 5 _ rfl; have qa6 : V.cell? ⟨w1.heap.size, 6, none⟩ = some (.int .i64 d.at_) := f1V 6 _ rfl; clear hWV f1V)
                  (have hzhbV := hbV.size; replace hT := Below.trans hT (Below.mono hbV (by omega)))
                  have hgV : w1.heap.size < V.heap.size := hzV
                  clear c0 c1 c2 c3 c4 c5 c6 hbV
                  go_wp2_with fail
                  go_ret2
                  rw [HE.out]
                  exact ⟨_, rfl, Ow.nil_ _ _ _, hT⟩
                · have HE := Lib.hid (HE2.trans (if_neg (by omega)))
                  clear HE2
                  go_upto_region 5 with (fail)
                  (obtain ⟨V, hWV, hbV, hzV, f1V, qfa⟩ := box1 w1 #[.int .i64 d.id, .int .i64 d.acc, .int .i64 d.use, .int .i64 d.amt, .int .i64 d.st, .int .i64 d.cr, .int .i64 d.at_] 24; rw [← hWV]; have qa0 : V.cell? ⟨w1.heap.size, 0, none⟩ = some (.int .i64 d.id) := f1V 0 _ rfl; have qa1 : V.cell? ⟨w1.heap.size, 1, none⟩ = some (.int .i64 d.acc) := f1V 1 _ rfl; have qa2 : V.cell? ⟨w1.heap.size, 2, none⟩ = some (.int .i64 d.use) := f1V 2 _ rfl; have qa3 : V.cell? ⟨w1.heap.size, 3, none⟩ = some (.int .i64 d.amt) := f1V 3 _ rfl; have qa4 : V.cell? ⟨w1.heap.size, 4, none⟩ = some (.int .i64 d.st) := f1V 4 _ rfl; have qa5 : V.cell? ⟨w1.heap.size, 5, none⟩ = some (.int .i64 d.cr) := f1V 5 _ rfl; have qa6 : V.cell? ⟨w1.heap.size, 6, none⟩ = some (.int .i64 d.at_) := f1V 6 _ rfl; clear hWV f1V)
                  (have hzhbV := hbV.size; replace hT := Below.trans hT (Below.mono hbV (by omega)))
                  have hgV : w1.heap.size < V.heap.size := hzV
                  clear c0 c1 c2 c3 c4 c5 c6 hbV
                  go_upto_region 12 with (fail)
                  obtain ⟨S0, hS, hn1, hfar, hfr, hbl, hsz2⟩ := set1 w1.heap.size 4 (u := .int .i64 s) qa4
                  rw [← hS]
                  clear hS
                  replace qa4 := hn1
                  replace qa0 := (hfar w1.heap.size 0 (by omega)).trans qa0
                  replace qa1 := (hfar w1.heap.size 1 (by omega)).trans qa1
                  replace qa2 := (hfar w1.heap.size 2 (by omega)).trans qa2
                  replace qa3 := (hfar w1.heap.size 3 (by omega)).trans qa3
                  replace qa5 := (hfar w1.heap.size 5 (by omega)).trans qa5
                  replace qa6 := (hfar w1.heap.size 6 (by omega)).trans qa6
                  replace qfa : ∀ j, S0.frozen? ⟨w1.heap.size, j, none⟩ = false := fun j => (hfr _ j).trans (qfa j)
                  replace hT := hT.trans (hbl _ (by omega))
                  have hgS0 : w1.heap.size < S0.heap.size := by omega
                  clear hn1 hfar hfr hbl
                  obtain ⟨S1, hS, hn1, hfar, hfr, hbl, hsz2⟩ := set1 w1.heap.size 5 (u := .int .i64 cr) qa5
                  rw [← hS]
                  clear hS
                  replace qa5 := hn1
                  replace qa0 := (hfar w1.heap.size 0 (by omega)).trans qa0
                  replace qa1 := (hfar w1.heap.size 1 (by omega)).trans qa1
                  replace qa2 := (hfar w1.heap.size 2 (by omega)).trans qa2
                  replace qa3 := (hfar w1.heap.size 3 (by omega)).trans qa3
                  replace qa4 := (hfar w1.heap.size 4 (by omega)).trans qa4
                  replace qa6 := (hfar w1.heap.size 6 (by omega)).trans qa6
                  replace qfa : ∀ j, S1.frozen? ⟨w1.heap.size, j, none⟩ = false := fun j => (hfr _ j).trans (qfa j)
                  replace hT := hT.trans (hbl _ (by omega))
                  have hgS1 : w1.heap.size < S1.heap.size := by omega
                  clear hn1 hfar hfr hbl
                  obtain ⟨S2, hS, hn1, hfar, hfr, hbl, hsz2⟩ := set1 w1.heap.size 6 (u := .int .i64 t) qa6
                  rw [← hS]
                  clear hS
                  replace qa6 := hn1
                  replace qa0 := (hfar w1.heap.size 0 (by omega)).trans qa0
                  replace qa1 := (hfar w1.heap.size 1 (by omega)).trans qa1
                  replace qa2 := (hfar w1.heap.size 2 (by omega)).trans qa2
                  replace qa3 := (hfar w1.heap.size 3 (by omega)).trans qa3
                  replace qa4 := (hfar w1.heap.size 4 (by omega)).trans qa4
                  replace qa5 := (hfar w1.heap.size 5 (by omega)).trans qa5
                  replace qfa : ∀ j, S2.frozen? ⟨w1.heap.size, j, none⟩ = false := fun j => (hfr _ j).trans (qfa j)
                  replace hT := hT.trans (hbl _ (by omega))
                  have hgS2 : w1.heap.size < S2.heap.size := by omega
                  clear hn1 hfar hfr hbl
                  have hIT : Dsp := ⟨d.id, d.acc, d.use, d.amt, s, cr, t⟩
                  go_wp2_with fail
                  refine (clone_any _ n c ds _ (H.out.below hT) HA.out hn1).mono ?_
                  rintro r w2 ⟨v2, rfl, hoC, hbC⟩
                  obtain ⟨g, cap, cur, rfl, hbg, hg, hnc, hcm, hcs, htk⟩ := hoC.whole (by rw [hlen.out]; omega)
                  rw [hlen.out] at hoC ⊢
                  have HOC := Lib.hid hoC
                  (have hzhbC := hbC.size; replace qa0 := (hbC.cell (p := ⟨_, _, none⟩) (by (try dsimp only) <;> omega)).trans qa0; replace qa1 := (hbC.cell (p := ⟨_, _, none⟩) (by (try dsimp only) <;> omega)).trans qa1; replace qa2 := (hbC.cell (p := ⟨_, _, none⟩) (by (try dsimp only) <;> omega)).trans qa2; replace qa3 := (hbC.cell (p := ⟨_, _, none⟩) (by (try dsimp only) <;> omega)).trans qa3; replace qa4 := (hbC.cell (p := ⟨_, _, none⟩) (by (try dsimp only) <;> omega)).trans qa4; replace qa5 := (hbC.cell (p := ⟨_, _, none⟩) (by (try dsimp only) <;> omega)).trans qa5; replace qa6 := (hbC.cell (p := ⟨_, _, none⟩) (by (try dsimp only) <;> omega)).trans qa6; replace hT := Below.trans hT (Below.mono hbC (by omega)))
                  clear hg hnc hcm hcs htk hbC
                  have hx0 : ds[i]? = some d := HR.out
                  have e0 : w2.cell? ⟨g, i * 7, none⟩ = some (.int .i64 d.id) := HOC.out.at_ hx0 0 rfl
                  have e1 : w2.cell? ⟨g, i * 7 + 1, none⟩ = some (.int .i64 d.acc) := HOC.out.at_ hx0 1 rfl
                  have e2 : w2.cell? ⟨g, i * 7 + 2, none⟩ = some (.int .i64 d.use) := HOC.out.at_ hx0 2 rfl
                  have e3 : w2.cell? ⟨g, i * 7 + 3, none⟩ = some (.int .i64 d.amt) := HOC.out.at_ hx0 3 rfl
                  have e4 : w2.cell? ⟨g, i * 7 + 4, none⟩ = some (.int .i64 d.st) := HOC.out.at_ hx0 4 rfl
                  have e5 : w2.cell? ⟨g, i * 7 + 5, none⟩ = some (.int .i64 d.cr) := HOC.out.at_ hx0 5 rfl
                  have e6 : w2.cell? ⟨g, i * 7 + 6, none⟩ = some (.int .i64 d.at_) := HOC.out.at_ hx0 6 rfl
                  have efa : ∀ j, w2.frozen? ⟨g, j, none⟩ = false := HOC.out.unfrozen
                  have hgg := HOC.out.ltG
                  have hwg : w.heap.size ≤ g := by omega
                  clear hoC hx0
                  go_wp2_with fail
                  go_ret2
                  rw [HE.out]
                  refine ⟨_, rfl, ?_, ?_⟩
                  · exact stored7 (HOC.out.lower (by omega : w.heap.size ≤ S2.heap.size)) HR.out _ _ _ _ _ _ _
                  · exact (((((((hT.setCell hwg _).setCell hwg _).setCell hwg _).setCell hwg _).setCell hwg _).setCell hwg _).setCell hwg _)
      · have q2 : (s == 2) = false := by simpa using s1
        have HE2 := HE1.trans (if_neg (by omega))
        clear HE0 HE1 h1 s1
        by_cases t1 : t < 0
        · have HE := Lib.hid (HE2.trans (if_pos (.inl t1)))
          clear HE2
          go_upto_region 5 with (fail)
          (obtain ⟨V, hWV, hbV, hzV, f1V, qfa⟩ := box1 w1 #[.int .i64 d.id, .int .i64 d.acc, .int .i64 d.use, .int .i64 d.amt, .int .i64 d.st, .int .i64 d.cr, .int .i64 d.at_] 24; rw [← hWV]; have qa0 : V.cell? ⟨w1.heap.size, 0, none⟩ = some (.int .i64 d.id) := f1V 0 _ rfl; have qa1 : V.cell? ⟨w1.heap.size, 1, none⟩ = some (.int .i64 d.acc) := f1V 1 _ rfl; have qa2 : V.cell? ⟨w1.heap.size, 2, none⟩ = some (.int .i64 d.use) := f1V 2 _ rfl; have qa3 : V.cell? ⟨w1.heap.size, 3, none⟩ = some (.int .i64 d.amt) := f1V 3 _ rfl; have qa4 : V.cell? ⟨w1.heap.size, 4, none⟩ = some (.int .i64 d.st) := f1V 4 _ rfl; have qa5 : V.cell? ⟨w1.heap.size, 5, none⟩ = some (.int .i64 d.cr) := f1V 5 _ rfl; have qa6 : V.cell? ⟨w1.heap.size, 6, none⟩ = some (.int .i64 d.at_) := f1V 6 _ rfl; clear hWV f1V)
          (have hzhbV := hbV.size; replace hT := Below.trans hT (Below.mono hbV (by omega)))
          have hgV : w1.heap.size < V.heap.size := hzV
          clear c0 c1 c2 c3 c4 c5 c6 hbV
          go_wp2_with fail
          go_ret2
          rw [HE.out]
          exact ⟨_, rfl, Ow.nil_ _ _ _, hT⟩
        · by_cases t2 : 12622780800 ≤ t
          · have HE := Lib.hid (HE2.trans (if_pos (.inr (.inl t2))))
            clear HE2
            go_upto_region 5 with (fail)
            (obtain ⟨V, hWV, hbV, hzV, f1V, qfa⟩ := box1 w1 #[.int .i64 d.id, .int .i64 d.acc, .int .i64 d.use, .int .i64 d.amt, .int .i64 d.st, .int .i64 d.cr, .int .i64 d.at_] 24; rw [← hWV]; have qa0 : V.cell? ⟨w1.heap.size, 0, none⟩ = some (.int .i64 d.id) := f1V 0 _ rfl; have qa1 : V.cell? ⟨w1.heap.size, 1, none⟩ = some (.int .i64 d.acc) := f1V 1 _ rfl; have qa2 : V.cell? ⟨w1.heap.size, 2, none⟩ = some (.int .i64 d.use) := f1V 2 _ rfl; have qa3 : V.cell? ⟨w1.heap.size, 3, none⟩ = some (.int .i64 d.amt) := f1V 3 _ rfl; have qa4 : V.cell? ⟨w1.heap.size, 4, none⟩ = some (.int .i64 d.st) := f1V 4 _ rfl; have qa5 : V.cell? ⟨w1.heap.size, 5, none⟩ = some (.int .i64 d.cr) := f1V 5 _ rfl; have qa6 : V.cell? ⟨w1.heap.size, 6, none⟩ = some (.int .i64 d.at_) := f1V 6 _ rfl; clear hWV f1V)
            (have hzhbV := hbV.size; replace hT := Below.trans hT (Below.mono hbV (by omega)))
            have hgV : w1.heap.size < V.heap.size := hzV
            clear c0 c1 c2 c3 c4 c5 c6 hbV
            go_wp2_with fail
            go_ret2
            rw [HE.out]
            exact ⟨_, rfl, Ow.nil_ _ _ _, hT⟩
          · by_cases t3 : t < d.at_
            · have HE := Lib.hid (HE2.trans (if_pos (.inr (.inr t3))))
              clear HE2
              go_upto_region 5 with (fail)
              (obtain ⟨V, hWV, hbV, hzV, f1V, qfa⟩ := box1 w1 #[.int .i64 d.id, .int .i64 d.acc, .int .i64 d.use, .int .i64 d.amt, .int .i64 d.st, .int .i64 d.cr, .int .i64 d.at_] 24; rw [← hWV]; have qa0 : V.cell? ⟨w1.heap.size, 0, none⟩ = some (.int .i64 d.id) := f1V 0 _ rfl; have qa1 : V.cell? ⟨w1.heap.size, 1, none⟩ = some (.int .i64 d.acc) := f1V 1 _ rfl; have qa2 : V.cell? ⟨w1.heap.size, 2, none⟩ = some (.int .i64 d.use) := f1V 2 _ rfl; have qa3 : V.cell? ⟨w1.heap.size, 3, none⟩ = some (.int .i64 d.amt) := f1V 3 _ rfl; have qa4 : V.cell? ⟨w1.heap.size, 4, none⟩ = some (.int .i64 d.st) := f1V 4 _ rfl; have qa5 : V.cell? ⟨w1.heap.size, 5, none⟩ = some (.int .i64 d.cr) := f1V 5 _ rfl; have qa6 : V.cell? ⟨w1.heap.size, 6, none⟩ = some (.int .i64 d.at_) := f1V 6 _ rfl; clear hWV f1V)
              (have hzhbV := hbV.size; replace hT := Below.trans hT (Below.mono hbV (by omega)))
              have hgV : w1.heap.size < V.heap.size := hzV
              clear c0 c1 c2 c3 c4 c5 c6 hbV
              go_wp2_with fail
              go_ret2
              rw [HE.out]
              exact ⟨_, rfl, Ow.nil_ _ _ _, hT⟩
            · have HE := Lib.hid (HE2.trans (if_neg (by omega)))
              clear HE2
              go_upto_region 5 with (fail)
              (obtain ⟨V, hWV, hbV, hzV, f1V, qfa⟩ := box1 w1 #[.int .i64 d.id, .int .i64 d.acc, .int .i64 d.use, .int .i64 d.amt, .int .i64 d.st, .int .i64 d.cr, .int .i64 d.at_] 24; rw [← hWV]; have qa0 : V.cell? ⟨w1.heap.size, 0, none⟩ = some (.int .i64 d.id) := f1V 0 _ rfl; have qa1 : V.cell? ⟨w1.heap.size, 1, none⟩ = some (.int .i64 d.acc) := f1V 1 _ rfl; have qa2 : V.cell? ⟨w1.heap.size, 2, none⟩ = some (.int .i64 d.use) := f1V 2 _ rfl; have qa3 : V.cell? ⟨w1.heap.size, 3, none⟩ = some (.int .i64 d.amt) := f1V 3 _ rfl; have qa4 : V.cell? ⟨w1.heap.size, 4, none⟩ = some (.int .i64 d.st) := f1V 4 _ rfl; have qa5 : V.cell? ⟨w1.heap.size, 5, none⟩ = some (.int .i64 d.cr) := f1V 5 _ rfl; have qa6 : V.cell? ⟨w1.heap.size, 6, none⟩ = some (.int .i64 d.at_) := f1V 6 _ rfl; clear hWV f1V)
              (have hzhbV := hbV.size; replace hT := Below.trans hT (Below.mono hbV (by omega)))
              have hgV : w1.heap.size < V.heap.size := hzV
              clear c0 c1 c2 c3 c4 c5 c6 hbV
              go_upto_region 12 with (fail)
              obtain ⟨S0, hS, hn1, hfar, hfr, hbl, hsz2⟩ := set1 w1.heap.size 4 (u := .int .i64 s) qa4
              rw [← hS]
              clear hS
              replace qa4 := hn1
              replace qa0 := (hfar w1.heap.size 0 (by omega)).trans qa0
              replace qa1 := (hfar w1.heap.size 1 (by omega)).trans qa1
              replace qa2 := (hfar w1.heap.size 2 (by omega)).trans qa2
              replace qa3 := (hfar w1.heap.size 3 (by omega)).trans qa3
              replace qa5 := (hfar w1.heap.size 5 (by omega)).trans qa5
              replace qa6 := (hfar w1.heap.size 6 (by omega)).trans qa6
              replace qfa : ∀ j, S0.frozen? ⟨w1.heap.size, j, none⟩ = false := fun j => (hfr _ j).trans (qfa j)
              replace hT := hT.trans (hbl _ (by omega))
              have hgS0 : w1.heap.size < S0.heap.size := by omega
              clear hn1 hfar hfr hbl
              obtain ⟨S1, hS, hn1, hfar, hfr, hbl, hsz2⟩ := set1 w1.heap.size 5 (u := .int .i64 cr) qa5
              rw [← hS]
              clear hS
              replace qa5 := hn1
              replace qa0 := (hfar w1.heap.size 0 (by omega)).trans qa0
              replace qa1 := (hfar w1.heap.size 1 (by omega)).trans qa1
              replace qa2 := (hfar w1.heap.size 2 (by omega)).trans qa2
              replace qa3 := (hfar w1.heap.size 3 (by omega)).trans qa3
              replace qa4 := (hfar w1.heap.size 4 (by omega)).trans qa4
              replace qa6 := (hfar w1.heap.size 6 (by omega)).trans qa6
              replace qfa : ∀ j, S1.frozen? ⟨w1.heap.size, j, none⟩ = false := fun j => (hfr _ j).trans (qfa j)
              replace hT := hT.trans (hbl _ (by omega))
              have hgS1 : w1.heap.size < S1.heap.size := by omega
              clear hn1 hfar hfr hbl
              obtain ⟨S2, hS, hn1, hfar, hfr, hbl, hsz2⟩ := set1 w1.heap.size 6 (u := .int .i64 t) qa6
              rw [← hS]
              clear hS
              replace qa6 := hn1
              replace qa0 := (hfar w1.heap.size 0 (by omega)).trans qa0
              replace qa1 := (hfar w1.heap.size 1 (by omega)).trans qa1
              replace qa2 := (hfar w1.heap.size 2 (by omega)).trans qa2
              replace qa3 := (hfar w1.heap.size 3 (by omega)).trans qa3
              replace qa4 := (hfar w1.heap.size 4 (by omega)).trans qa4
              replace qa5 := (hfar w1.heap.size 5 (by omega)).trans qa5
              replace qfa : ∀ j, S2.frozen? ⟨w1.heap.size, j, none⟩ = false := fun j => (hfr _ j).trans (qfa j)
              replace hT := hT.trans (hbl _ (by omega))
              have hgS2 : w1.heap.size < S2.heap.size := by omega
              clear hn1 hfar hfr hbl
              have hIT : Dsp := ⟨d.id, d.acc, d.use, d.amt, s, cr, t⟩
              go_wp2_with fail
              refine (clone_any _ n c ds _ (H.out.below hT) HA.out hn1).mono ?_
              rintro r w2 ⟨v2, rfl, hoC, hbC⟩
              obtain ⟨g, cap, cur, rfl, hbg, hg, hnc, hcm, hcs, htk⟩ := hoC.whole (by rw [hlen.out]; omega)
              rw [hlen.out] at hoC ⊢
              have HOC := Lib.hid hoC
              (have hzhbC := hbC.size; replace qa0 := (hbC.cell (p := ⟨_, _, none⟩) (by (try dsimp only) <;> omega)).trans qa0; replace qa1 := (hbC.cell (p := ⟨_, _, none⟩) (by (try dsimp only) <;> omega)).trans qa1; replace qa2 := (hbC.cell (p := ⟨_, _, none⟩) (by (try dsimp only) <;> omega)).trans qa2; replace qa3 := (hbC.cell (p := ⟨_, _, none⟩) (by (try dsimp only) <;> omega)).trans qa3; replace qa4 := (hbC.cell (p := ⟨_, _, none⟩) (by (try dsimp only) <;> omega)).trans qa4; replace qa5 := (hbC.cell (p := ⟨_, _, none⟩) (by (try dsimp only) <;> omega)).trans qa5; replace qa6 := (hbC.cell (p := ⟨_, _, none⟩) (by (try dsimp only) <;> omega)).trans qa6; replace hT := Below.trans hT (Below.mono hbC (by omega)))
              clear hg hnc hcm hcs htk hbC
              have hx0 : ds[i]? = some d := HR.out
              have e0 : w2.cell? ⟨g, i * 7, none⟩ = some (.int .i64 d.id) := HOC.out.at_ hx0 0 rfl
              have e1 : w2.cell? ⟨g, i * 7 + 1, none⟩ = some (.int .i64 d.acc) := HOC.out.at_ hx0 1 rfl
              have e2 : w2.cell? ⟨g, i * 7 + 2, none⟩ = some (.int .i64 d.use) := HOC.out.at_ hx0 2 rfl
              have e3 : w2.cell? ⟨g, i * 7 + 3, none⟩ = some (.int .i64 d.amt) := HOC.out.at_ hx0 3 rfl
              have e4 : w2.cell? ⟨g, i * 7 + 4, none⟩ = some (.int .i64 d.st) := HOC.out.at_ hx0 4 rfl
              have e5 : w2.cell? ⟨g, i * 7 + 5, none⟩ = some (.int .i64 d.cr) := HOC.out.at_ hx0 5 rfl
              have e6 : w2.cell? ⟨g, i * 7 + 6, none⟩ = some (.int .i64 d.at_) := HOC.out.at_ hx0 6 rfl
              have efa : ∀ j, w2.frozen? ⟨g, j, none⟩ = false := HOC.out.unfrozen
              have hgg := HOC.out.ltG
              have hwg : w.heap.size ≤ g := by omega
              clear hoC hx0
              go_wp2_with fail
              go_ret2
              rw [HE.out]
              refine ⟨_, rfl, ?_, ?_⟩
              · exact stored7 (HOC.out.lower (by omega : w.heap.size ≤ S2.heap.size)) HR.out _ _ _ _ _ _ _
              · exact (((((((hT.setCell hwg _).setCell hwg _).setCell hwg _).setCell hwg _).setCell hwg _).setCell hwg _).setCell hwg _)
    · have q1 : (d.st == 1) = false := by simpa using h1
      have HE := Lib.hid (HE0.trans (if_pos h1))
      clear HE0 h1
      go_upto_region 5 with (fail)
      (obtain ⟨V, hWV, hbV, hzV, f1V, qfa⟩ := box1 w1 #[.int .i64 d.id, .int .i64 d.acc, .int .i64 d.use, .int .i64 d.amt, .int .i64 d.st, .int .i64 d.cr, .int .i64 d.at_] 24; rw [← hWV]; have qa0 : V.cell? ⟨w1.heap.size, 0, none⟩ = some (.int .i64 d.id) := f1V 0 _ rfl; have qa1 : V.cell? ⟨w1.heap.size, 1, none⟩ = some (.int .i64 d.acc) := f1V 1 _ rfl; have qa2 : V.cell? ⟨w1.heap.size, 2, none⟩ = some (.int .i64 d.use) := f1V 2 _ rfl; have qa3 : V.cell? ⟨w1.heap.size, 3, none⟩ = some (.int .i64 d.amt) := f1V 3 _ rfl; have qa4 : V.cell? ⟨w1.heap.size, 4, none⟩ = some (.int .i64 d.st) := f1V 4 _ rfl; have qa5 : V.cell? ⟨w1.heap.size, 5, none⟩ = some (.int .i64 d.cr) := f1V 5 _ rfl; have qa6 : V.cell? ⟨w1.heap.size, 6, none⟩ = some (.int .i64 d.at_) := f1V 6 _ rfl; clear hWV f1V)
      (have hzhbV := hbV.size; replace hT := Below.trans hT (Below.mono hbV (by omega)))
      have hgV : w1.heap.size < V.heap.size := hzV
      clear c0 c1 c2 c3 c4 c5 c6 hbV
      go_wp2_with fail
      go_ret2
      rw [HE.out]
      exact ⟨_, rfl, Ow.nil_ _ _ _, hT⟩
end Dp
end Go.Proofs.Ythidlakkpdbeaaa
