/-
  Disputes: the reference's decide; law Decides. No condition.
-/
import Derived.Test.YthidlakkpdbeaaaDpL
import Derived.BigQuiet
import Derived.StillTailTactics
import Derived.Lib.Overlaps
import Derived.Deep.DeepCutAuto
import Derived.Deep.RegionWith
import Derived.Laws.Rows
set_option maxRecDepth 100000
set_option linter.unusedVariables false
set_option linter.unusedSimpArgs false
namespace Go.Proofs.Ythidlakkpdbeaaa
open Go.RowKit

namespace Dp
theorem stored3 {w : World} {base : Nat} {e : TypeId} {g n cap i : Nat} {xs : List Dsp} {x : Dsp} (h : Ow w base e (.slice (some ⟨g, 0, none⟩) n cap) xs) (hx : xs[i]? = some x) (a4 a5 a6 : Int) :
    Ow (((w.setCell ⟨g, i * 7 + 4, none⟩ (.int .i64 a4)).setCell ⟨g, i * 7 + 5, none⟩ (.int .i64 a5)).setCell ⟨g, i * 7 + 6, none⟩ (.int .i64 a6)) base e (.slice (some ⟨g, 0, none⟩) n cap) (xs.set i ⟨x.id, x.acc, x.use, x.amt, a4, a5, a6⟩) := by
  have o0 := Ow.stored h hx (x' := ⟨x.id, x.acc, x.use, x.amt, a4, x.cr, x.at_⟩) 4 (.int .i64 a4) (by decide) rfl
  have x0 := get_set (y := (⟨x.id, x.acc, x.use, x.amt, a4, x.cr, x.at_⟩ : Dsp)) hx
  have o1 := Ow.stored o0 x0 (x' := ⟨x.id, x.acc, x.use, x.amt, a4, a5, x.at_⟩) 5 (.int .i64 a5) (by decide) rfl
  rw [List.set_set] at o1
  have x1 := get_set (y := (⟨x.id, x.acc, x.use, x.amt, a4, a5, x.at_⟩ : Dsp)) hx
  have o2 := Ow.stored o1 x1 (x' := ⟨x.id, x.acc, x.use, x.amt, a4, a5, a6⟩) 6 (.int .i64 a6) (by decide) rfl
  rw [List.set_set] at o2
  have x2 := get_set (y := (⟨x.id, x.acc, x.use, x.amt, a4, a5, a6⟩ : Dsp)) hx
  exact o2
set_option maxHeartbeats 16000000 in
theorem refdecide_any (x s cr t : Int) (A : Option Addr) (n c : Nat) (ds : List Dsp) (w : World) (h : Sl w A n c ds) (hA : NilOk A c) (hn1 : n ≤ 1000000) (hs : Srt ds) :
    Calls Try.prog 39 #[.slice A n c, .int .i64 x, .int .i64 s, .int .i64 cr, .int .i64 t] w fun r w' => ∃ u, r = .returned (.tuple #[u, .int .i64 (decP ds x s cr t).2]) ∧ Ow w' w.heap.size 24 u (decP ds x s cr t).1 ∧ Below w.heap.size w w' := by
  have hlen := Lib.hid h.len
  have H := Lib.hid h
  have HS := Lib.hid hs
  have HA := Lib.hid hA
  clear h hs hA
  go_enter Try.func39, Try.ntmps39
  go_wp2_with fail
  refine (reffind_any x A n c ds _ H.out).mono ?_
  rintro r w1 ⟨k, rfl, hk, hT⟩
  rcases hk with ⟨rfl, hno⟩ | ⟨j, rfl, d, hr, hx⟩
  · have HE := Lib.hid (show decP ds x s cr t = ([], 11) by unfold decP; rw [pos_none hno])
    clear hno
    go_wp2_with fail
    go_ret2
    rw [HE.out]
    exact ⟨_, rfl, Ow.nil_ _ _ _, hT⟩
  · have hpos : posP ds x = j := pos_at hr hx fun k e hk he => by
      have := HS.out k j e d hk he hr
      omega
    have hil : j < n := by have := (List.getElem?_eq_some_iff.1 hr).1; have := hlen.out; omega
    obtain ⟨b, off, rfl, hbw, hc⟩ := H.out.baseIn hT (by omega)
    (have c0 : w1.cell? ⟨b, off + j * 7, none⟩ = some (.int .i64 d.id) := Sl.at_ hc hr 0 rfl; have c1 : w1.cell? ⟨b, off + j * 7 + 1, none⟩ = some (.int .i64 d.acc) := Sl.at_ hc hr 1 rfl; have c2 : w1.cell? ⟨b, off + j * 7 + 2, none⟩ = some (.int .i64 d.use) := Sl.at_ hc hr 2 rfl; have c3 : w1.cell? ⟨b, off + j * 7 + 3, none⟩ = some (.int .i64 d.amt) := Sl.at_ hc hr 3 rfl; have c4 : w1.cell? ⟨b, off + j * 7 + 4, none⟩ = some (.int .i64 d.st) := Sl.at_ hc hr 4 rfl; have c5 : w1.cell? ⟨b, off + j * 7 + 5, none⟩ = some (.int .i64 d.cr) := Sl.at_ hc hr 5 rfl; have c6 : w1.cell? ⟨b, off + j * 7 + 6, none⟩ = some (.int .i64 d.at_) := Sl.at_ hc hr 6 rfl)
    have HR := Lib.hid hr
    have HE0 : decP ds x s cr t = if d.st ≠ 1 then ([], 22) else if s = 2 ∧ (cr < 1 ∨ d.amt < cr) then ([], 6) else if t < 0 ∨ 12622780800 ≤ t ∨ t < d.at_ then ([], 15) else (ds.set j ⟨d.id, d.acc, d.use, d.amt, s, cr, t⟩, 0) := by
      unfold decP
      rw [hpos, hr]
    have hz1 := hT.size
    have hnn := H.out.nmax
    have hj0 : ¬ (j : Int) < 0 := by omega
    have hile : ((j : Int)) < (n : Int) := by omega
    replace H := Lib.hid (H.out.below hT)
    clear hr hc hx hpos
    by_cases h1 : d.st = 1
    · have q1 : (d.st == 1) = true := by simpa using h1
      have q1' : (d.st != 1) = false := by simpa using h1
      have HE1 := HE0.trans (if_neg (by omega : ¬ d.st ≠ 1))
      by_cases s1 : s = 2
      · have q2 : (s == 2) = true := by simpa using s1
        by_cases kc1 : cr < 1
        · have HE := Lib.hid (HE1.trans (if_pos ⟨s1, .inl kc1⟩))
          clear HE0 HE1 h1 s1
          go_wp2_with fail
          go_ret2
          rw [HE.out]
          exact ⟨_, rfl, Ow.nil_ _ _ _, hT⟩
        · by_cases kc2 : d.amt < cr
          · have HE := Lib.hid (HE1.trans (if_pos ⟨s1, .inr kc2⟩))
            clear HE0 HE1 h1 s1
            go_wp2_with fail
            go_ret2
            rw [HE.out]
            exact ⟨_, rfl, Ow.nil_ _ _ _, hT⟩
          · have HE2 := HE1.trans (if_neg (by omega))
            clear HE0 HE1 h1 s1
            obtain ⟨ib, hib⟩ : ∃ ib, insB t = ib := ⟨_, rfl⟩
            have HIB := Lib.hid hib
            cases ib
            · have HE := Lib.hid (HE2.trans (if_pos (by
                apply Decidable.byContradiction
                intro hn
                have : insB t = true := insB_iff.2 (by omega)
                rw [hib] at this
                cases this)))
              clear HE2 hib
              go_wp2_with fail
              refine (instant_any t _).mono ?_
              rintro r w' ⟨rfl, rfl⟩
              rw [HIB.out]
              go_wp2_with fail
              go_ret2
              rw [HE.out]
              exact ⟨_, rfl, Ow.nil_ _ _ _, hT⟩
            · have ht := insB_iff.1 hib
              clear hib
              by_cases t3 : t < d.at_
              · have HE := Lib.hid (HE2.trans (if_pos (.inr (.inr t3))))
                clear HE2 ht
                go_wp2_with fail
                refine (instant_any t _).mono ?_
                rintro r w' ⟨rfl, rfl⟩
                rw [HIB.out]
                go_wp2_with fail
                go_ret2
                rw [HE.out]
                exact ⟨_, rfl, Ow.nil_ _ _ _, hT⟩
              · have HE := Lib.hid (HE2.trans (if_neg (by omega)))
                clear HE2 ht
                go_wp2_with fail
                refine (instant_any t _).mono ?_
                rintro r w' ⟨rfl, rfl⟩
                rw [HIB.out]
                go_wp2_with (at_builtin; go_must (
                  refine wpl_appendS _ rfl (.tmp 56) (.tmp 57) 22 rfl w1.heap.size 24 _ 56 Try.underlying22 info_dsp rfl (.slice (some ⟨w1.heap.size, 0, none⟩) 0 0) ([] : List Dsp) rfl (World.ownsRow_lit w1 #[] 0 (Nat.le_refl _) (Nat.zero_le _) rfl) (some ⟨b, off, none⟩) n c ds rfl HA.out (H.out.below ((Below.refl _ _).alloc (Nat.le_refl _) _)) (by simp; omega) (by omega) (by simp) ?_
                  intro v2 w2 hown2 hu2
                  have hb2 : Below w1.heap.size w1 w2 := ((Below.refl _ _).alloc (Nat.le_refl _) _).grown hu2.grew (by simp) (by simp [Value.ownBlock])
                  rw [List.nil_append] at hown2
                  obtain ⟨g, cap, cur, hv2, hbg, hgr⟩ := hown2.whole (by rw [hlen.out]; omega)
                  subst hv2
                  rw [hlen.out] at hown2 ⊢
                  have HOC := Lib.hid hown2
                  have e4 : w2.cell? ⟨g, j * 7 + 4, none⟩ = some (.int .i64 d.st) := HOC.out.at_ HR.out 4 rfl
                  have e5 : w2.cell? ⟨g, j * 7 + 5, none⟩ = some (.int .i64 d.cr) := HOC.out.at_ HR.out 5 rfl
                  have e6 : w2.cell? ⟨g, j * 7 + 6, none⟩ = some (.int .i64 d.at_) := HOC.out.at_ HR.out 6 rfl
                  have efa : ∀ i, w2.frozen? ⟨g, i, none⟩ = false := HOC.out.unfrozen
                  have hgg := HOC.out.ltG
                  have hwg : w.heap.size ≤ g := by omega
                  replace hT := hT.trans (hb2.mono (by omega))
                  clear hu2 hown2 hgr hb2))
                go_ret2
                rw [HE.out]
                refine ⟨_, rfl, ?_, ?_⟩
                · exact stored3 (HOC.out.lower (by omega : w.heap.size ≤ w1.heap.size)) HR.out _ _ _
                · exact ((hT.setCell hwg _).setCell hwg _).setCell hwg _
      · have q2 : (s == 2) = false := by simpa using s1
        have HE2 := HE1.trans (if_neg (by omega))
        clear HE0 HE1 h1 s1
        obtain ⟨ib, hib⟩ : ∃ ib, insB t = ib := ⟨_, rfl⟩
        have HIB := Lib.hid hib
        cases ib
        · have HE := Lib.hid (HE2.trans (if_pos (by
            apply Decidable.byContradiction
            intro hn
            have : insB t = true := insB_iff.2 (by omega)
            rw [hib] at this
            cases this)))
          clear HE2 hib
          go_wp2_with fail
          refine (instant_any t _).mono ?_
          rintro r w' ⟨rfl, rfl⟩
          rw [HIB.out]
          go_wp2_with fail
          go_ret2
          rw [HE.out]
          exact ⟨_, rfl, Ow.nil_ _ _ _, hT⟩
        · have ht := insB_iff.1 hib
          clear hib
          by_cases t3 : t < d.at_
          · have HE := Lib.hid (HE2.trans (if_pos (.inr (.inr t3))))
            clear HE2 ht
            go_wp2_with fail
            refine (instant_any t _).mono ?_
            rintro r w' ⟨rfl, rfl⟩
            rw [HIB.out]
            go_wp2_with fail
            go_ret2
            rw [HE.out]
            exact ⟨_, rfl, Ow.nil_ _ _ _, hT⟩
          · have HE := Lib.hid (HE2.trans (if_neg (by omega)))
            clear HE2 ht
            go_wp2_with fail
            refine (instant_any t _).mono ?_
            rintro r w' ⟨rfl, rfl⟩
            rw [HIB.out]
            go_wp2_with (at_builtin; go_must (
              refine wpl_appendS _ rfl (.tmp 56) (.tmp 57) 22 rfl w1.heap.size 24 _ 56 Try.underlying22 info_dsp rfl (.slice (some ⟨w1.heap.size, 0, none⟩) 0 0) ([] : List Dsp) rfl (World.ownsRow_lit w1 #[] 0 (Nat.le_refl _) (Nat.zero_le _) rfl) (some ⟨b, off, none⟩) n c ds rfl HA.out (H.out.below ((Below.refl _ _).alloc (Nat.le_refl _) _)) (by simp; omega) (by omega) (by simp) ?_
              intro v2 w2 hown2 hu2
              have hb2 : Below w1.heap.size w1 w2 := ((Below.refl _ _).alloc (Nat.le_refl _) _).grown hu2.grew (by simp) (by simp [Value.ownBlock])
              rw [List.nil_append] at hown2
              obtain ⟨g, cap, cur, hv2, hbg, hgr⟩ := hown2.whole (by rw [hlen.out]; omega)
              subst hv2
              rw [hlen.out] at hown2 ⊢
              have HOC := Lib.hid hown2
              have e4 : w2.cell? ⟨g, j * 7 + 4, none⟩ = some (.int .i64 d.st) := HOC.out.at_ HR.out 4 rfl
              have e5 : w2.cell? ⟨g, j * 7 + 5, none⟩ = some (.int .i64 d.cr) := HOC.out.at_ HR.out 5 rfl
              have e6 : w2.cell? ⟨g, j * 7 + 6, none⟩ = some (.int .i64 d.at_) := HOC.out.at_ HR.out 6 rfl
              have efa : ∀ i, w2.frozen? ⟨g, i, none⟩ = false := HOC.out.unfrozen
              have hgg := HOC.out.ltG
              have hwg : w.heap.size ≤ g := by omega
              replace hT := hT.trans (hb2.mono (by omega))
              clear hu2 hown2 hgr hb2))
            go_ret2
            rw [HE.out]
            refine ⟨_, rfl, ?_, ?_⟩
            · exact stored3 (HOC.out.lower (by omega : w.heap.size ≤ w1.heap.size)) HR.out _ _ _
            · exact ((hT.setCell hwg _).setCell hwg _).setCell hwg _
    · have q1 : (d.st == 1) = false := by simpa using h1
      have q1' : (d.st != 1) = true := by simpa using h1
      have HE := Lib.hid (HE0.trans (if_pos h1))
      clear HE0 h1
      go_wp2_with fail
      go_ret2
      rw [HE.out]
      exact ⟨_, rfl, Ow.nil_ _ _ _, hT⟩
theorem refaccept_any (x cr t : Int) (A : Option Addr) (n c : Nat) (ds : List Dsp) (w : World) (h : Sl w A n c ds) (hA : NilOk A c) (hn1 : n ≤ 1000000) (hs : Srt ds) :
    Calls Try.prog 21 #[.slice A n c, .int .i64 x, .int .i64 cr, .int .i64 t] w fun r w' => ∃ u, r = .returned (.tuple #[u, .int .i64 (decP ds x 2 cr t).2]) ∧ Ow w' w.heap.size 24 u (decP ds x 2 cr t).1 ∧ Below w.heap.size w w' := by
  go_enter Try.func21, Try.ntmps21
  go_wp2_with fail
  refine (refdecide_any x 2 cr t A n c ds _ h hA hn1 hs).mono ?_
  rintro r w1 ⟨u, rfl, ho, hb⟩
  have HO := Lib.hid ho
  clear ho
  go_wp2_with fail
  go_ret2
  exact ⟨u, rfl, HO.out, hb⟩
theorem refrefuse_any (x t : Int) (A : Option Addr) (n c : Nat) (ds : List Dsp) (w : World) (h : Sl w A n c ds) (hA : NilOk A c) (hn1 : n ≤ 1000000) (hs : Srt ds) :
    Calls Try.prog 23 #[.slice A n c, .int .i64 x, .int .i64 t] w fun r w' => ∃ u, r = .returned (.tuple #[u, .int .i64 (decP ds x 3 0 t).2]) ∧ Ow w' w.heap.size 24 u (decP ds x 3 0 t).1 ∧ Below w.heap.size w w' := by
  go_enter Try.func23, Try.ntmps23
  go_wp2_with fail
  refine (refdecide_any x 3 0 t A n c ds _ h hA hn1 hs).mono ?_
  rintro r w1 ⟨u, rfl, ho, hb⟩
  have HO := Lib.hid ho
  clear ho
  go_wp2_with fail
  go_ret2
  exact ⟨u, rfl, HO.out, hb⟩
end Dp
end Go.Proofs.Ythidlakkpdbeaaa
