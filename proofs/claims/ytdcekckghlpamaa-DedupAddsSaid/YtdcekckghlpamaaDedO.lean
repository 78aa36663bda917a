/-
  Dedup, the law on Add: its walk. No condition.
-/
import Derived.Test.YtdcekckghlpamaaDedJ
import Derived.Test.YtdcekckghlpamaaDedM
import Derived.Test.YtdcekckghlpamaaComB
import Derived.BigQuiet
import Derived.StillTailTactics
import Derived.Lib.Overlaps
import Derived.Deep.DeepCutAuto
import Derived.ChangeKeysEq
set_option maxRecDepth 100000
set_option linter.unusedVariables false
set_option linter.unusedSimpArgs false
namespace Go.Proofs.Ytdcekckghlpamaa
open Go.RowKit

namespace Dd

theorem eql_two (a b c d : Int) (w : World) :
    (binOp .eql 32 (.agg #[.int .i64 a, .int .i64 b]) (.agg #[.int .i64 c, .int .i64 d])).run Try.prog w = .ok (.bool (decide (a = c) && decide (b = d))) w := by
  have u3 := Try.underlying3
  have ia := Try.isAgg3
  have z3 := Try.sizeOf3
  have hS : Try.prog.underlying 32 = some (.array 2 3) := by kernel_rfl
  obtain ⟨i, hi⟩ : ∃ i, Try.prog.info? 3 = some i := Option.isSome_iff_exists.1 (by kernel_rfl)
  have hc : Try.prog.cellsOf 3 = 1 := by kernel_rfl
  simp only [binOp, Op.equal, Op.maxDepth, Sem.run_bind]
  rw [show (10000 : Nat) = 9999 + 1 from rfl, run_equalIn_array w 9999 _ _ hS hi, hc]
  rw [show List.range 2 = [0, 1] from rfl]
  by_cases h1 : a = c <;> by_cases h2 : b = d <;> simp [Op.eqItems, h1, h2] <;> go_simp <;> simp [h1, h2]

def Box (w : World) (g : Nat) (x0 x1 y0 y1 : Int) : Prop :=
  w.cell? ⟨g, 0, none⟩ = some (.int .i64 x0) ∧ w.cell? ⟨g, 1, none⟩ = some (.int .i64 x1) ∧ w.cell? ⟨g + 1, 0, none⟩ = some (.int .i64 y0) ∧ w.cell? ⟨g + 1, 1, none⟩ = some (.int .i64 y1) ∧ g + 1 < w.heap.size
theorem Box.below {w w' : World} {g : Nat} {x0 x1 y0 y1 : Int} (h : Box w g x0 x1 y0 y1) (hb : Below w.heap.size w w') : Box w' g x0 x1 y0 y1 := by
  obtain ⟨h1, h2, h3, h4, h5⟩ := h
  have := hb.size
  exact ⟨(hb.cell (p := ⟨_, _, none⟩) (by simp; omega)).trans h1, (hb.cell (p := ⟨_, _, none⟩) (by simp; omega)).trans h2, (hb.cell (p := ⟨_, _, none⟩) (by simp; omega)).trans h3, (hb.cell (p := ⟨_, _, none⟩) (by simp; omega)).trans h4, by omega⟩
theorem Box.new (w : World) (x0 x1 y0 y1 : Int) (t u : TypeId) : Box ((w.alloc (.cells #[.int .i64 x0, .int .i64 x1] t)).alloc (.cells #[.int .i64 y0, .int .i64 y1] u)) w.heap.size x0 x1 y0 y1 := by
  have e1 := cells_new w #[.int .i64 x0, .int .i64 x1] t w.heap.size
  have e2 := cells_new (w.alloc (.cells #[.int .i64 x0, .int .i64 x1] t)) #[.int .i64 y0, .int .i64 y1] u (w.heap.size + 1)
  have hb : Below (w.alloc (.cells #[.int .i64 x0, .int .i64 x1] t)).heap.size (w.alloc (.cells #[.int .i64 x0, .int .i64 x1] t)) ((w.alloc (.cells #[.int .i64 x0, .int .i64 x1] t)).alloc (.cells #[.int .i64 y0, .int .i64 y1] u)) := (Below.refl _ _).alloc (Nat.le_refl _) _
  exact ⟨(hb.cell (p := ⟨_, _, none⟩) (by simp)).trans (e1 0 rfl _ rfl), (hb.cell (p := ⟨_, _, none⟩) (by simp)).trans (e1 1 rfl _ rfl), e2 0 (by simp) _ rfl, e2 1 (by simp) _ rfl, by simp⟩

/-- what the drawn region keeps -/
structure KeepA (A : Option Addr) (n c : Nat) (xs : List Rng) (A2 : Option Addr) (m c2 : Nat) (L : List Rng) (g : Nat) (x0 x1 y0 y1 : Int) (w4 w' : World) : Prop where
  s1 : Sl w' A n c xs
  s2 : Sl w' A2 m c2 L
  bl : Below w4.heap.size w4 w'
  bx : Box w' g x0 x1 y0 y1
theorem keepA_S {A : Option Addr} {n c : Nat} {xs : List Rng} {A2 : Option Addr} {m c2 : Nat} {L : List Rng} {g : Nat} {x0 x1 y0 y1 : Int} {w4 w' w1 : World} (h : KeepA A n c xs A2 m c2 L g x0 x1 y0 y1 w4 w') (hb : Below w'.heap.size w' w1) :
    w1.cell? ⟨g, 0, none⟩ = some (.int .i64 x0) ∧ w1.cell? ⟨g, 1, none⟩ = some (.int .i64 x1) ∧ w1.cell? ⟨g + 1, 0, none⟩ = some (.int .i64 y0) ∧ w1.cell? ⟨g + 1, 1, none⟩ = some (.int .i64 y1) ∧ KeepA A n c xs A2 m c2 L g x0 x1 y0 y1 w4 w1 := by
  have hbx := h.bx.below hb
  obtain ⟨q1, q2, q3, q4, q5⟩ := hbx
  exact ⟨q1, q2, q3, q4, h.s1.below hb, h.s2.below hb, h.bl.trans (hb.mono h.bl.size), ⟨q1, q2, q3, q4, q5⟩⟩
theorem Below.drew1 (w : World) : Below w.heap.size w w.drew := (Below.refl _ _).drew

set_option maxHeartbeats 1000000 in
theorem adds_law (A : Option Addr) (n c : Nat) (xs : List Rng) (x0 x1 y0 y1 : Int) (w : World) (h : Sl w A n c xs) (hA : NilOk A c) :
    Calls Try.prog 6 #[.slice A n c, .agg #[.int .i64 x0, .int .i64 x1], .agg #[.int .i64 y0, .int .i64 y1]] w fun e w' => e = .returned (.bool true) ∧ Below w.heap.size w w' := by
  have HLEN := Lib.hid h.len
  have H := Lib.hid h
  have HA := Lib.hid hA
  clear h hA
  have hbx0 : Below w.heap.size w ((w.alloc (.cells #[.int .i64 x0, .int .i64 x1] 32)).alloc (.cells #[.int .i64 y0, .int .i64 y1] 32)) := ((Below.refl _ _).alloc (Nat.le_refl _) _).alloc (by simp) _
  have H0 := Lib.hid (H.out.below hbx0)
  have HBX := Lib.hid hbx0
  have BX0 := Lib.hid (Box.new w x0 x1 y0 y1 32 32)
  clear hbx0
  by_cases hl : lightB xs = true
  · have LC := Lib.hid (light_can hl)
    have hn100 : n ≤ 100 := by have := LC.out.2; have := HLEN.out; omega
    go_enter Try.func6, Try.ntmps6
    go_wp2_with fail
    refine (light_any A n c xs _ H0.out).mono ?_
    rintro e w1 ⟨rfl, hb1⟩
    have BX1 := Lib.hid (BX0.out.below hb1)
    have H1 := Lib.hid (H0.out.below hb1)
    have HB1 := Lib.hid (HBX.out.trans (hb1.mono HBX.out.size))
    obtain ⟨q1, q2, q3, q4, q5⟩ := BX1.out
    clear hb1 BX0 H0 HBX
    go_wp2_with fail
    refine (add_any A n c xs x0 x1 _ H1.out HA.out LC.out.1 (by omega)).mono ?_
    rintro e w2 ⟨v2, rfl, ho2, hb2⟩
    obtain ⟨L, hL⟩ : ∃ L, addL xs x0 x1 = L := ⟨_, rfl⟩
    rw [hL] at ho2
    obtain ⟨A2, c2, rfl, hs2⟩ := ho2.sl
    obtain ⟨ok, hok⟩ : ∃ ok, addOk xs x0 x1 = ok := ⟨_, rfl⟩
    rw [hok]
    obtain ⟨m, hm⟩ : ∃ m, L.length = m := ⟨_, rfl⟩
    rw [hm] at hs2
    rw [hm]
    have HL := Lib.hid hL
    have HOK := Lib.hid hok
    have HM := Lib.hid hm
    have HS2 := Lib.hid hs2
    have BX2 := Lib.hid (BX1.out.below hb2)
    have H2 := Lib.hid (H1.out.below hb2)
    have HB2 := Lib.hid (HB1.out.trans (hb2.mono HB1.out.size))
    clear q1 q2 q3 q4 q5 BX1 H1 HB1 hs2 ho2 hb2 hL hok hm
    obtain ⟨q1, q2, q3, q4, q5⟩ := BX2.out
    go_wp2_with fail
    refine (refadd_any A n c xs x0 x1 _ H2.out LC.out.1 (by omega)).mono ?_
    rintro e w3 ⟨v3, rfl, ho3, hb3⟩
    rw [HL.out] at ho3
    rw [HOK.out]
    obtain ⟨A3, c3, rfl, hs3⟩ := ho3.sl
    rw [HM.out] at hs3
    rw [HM.out]
    have HS3 := Lib.hid hs3
    have HS23 := Lib.hid (HS2.out.below hb3)
    have BX3 := Lib.hid (BX2.out.below hb3)
    have H3 := Lib.hid (H2.out.below hb3)
    have HB3 := Lib.hid (HB2.out.trans (hb3.mono HB2.out.size))
    clear q1 q2 q3 q4 q5 BX2 H2 HB2 hs3 ho3 hb3 HS2
    obtain ⟨q1, q2, q3, q4, q5⟩ := BX3.out
    go_wp2_with fail
    refine (same_any A2 A3 m m c2 c3 L L _ HS23.out HS3.out).mono ?_
    rintro e w4 ⟨rfl, hb4⟩
    have HS4 := Lib.hid (HS23.out.below hb4)
    have BX4 := Lib.hid (BX3.out.below hb4)
    have H4 := Lib.hid (H3.out.below hb4)
    have HB4 := Lib.hid (HB3.out.trans (hb4.mono HB3.out.size))
    clear q1 q2 q3 q4 q5 BX3 H3 HB3 hb4 HS23 HS3
    obtain ⟨q1, q2, q3, q4, q5⟩ := BX4.out
    cases ok
    · go_wp2_with fail
      refine (awake_any _).mono ?_
      rintro e w5 ⟨rfl, hb5⟩
      have hbb := HB4.out.trans (hb5.mono HB4.out.size)
      go_wp2_with fail
      go_ret
      exact ⟨rfl, hbb⟩
    · have hok2 := HOK.out
      unfold addOk at hok2
      simp only [Bool.and_eq_true, Bool.not_eq_true'] at hok2
      obtain ⟨hid, hno⟩ := hok2
      have hL2 : L = refAdd xs x0 x1 := by rw [← HL.out, addL, if_pos HOK.out]
      have hcanL : Can L := by rw [hL2]; exact refAdd_can LC.out.1 hid hno
      have hlenL : m ≤ 101 := by have := refAdd_len LC.out.1 hid hno; rw [← hL2, HM.out] at this; have := LC.out.2; omega
      have hhas : ∀ s t, hasL L s t = (hasL xs s t || (decide (s = x0) && decide (t = x1))) := by intro s t; rw [hL2]; exact refAdd_has LC.out.1 hid hno s t
      have e1 : canon L = true := (canon_iff L).2 hcanL
      have e2 : hasL L x0 x1 = true := by rw [hhas]; simp
      have e3 := hhas y0 y1
      have HCL := Lib.hid hcanL
      have HC1 := Lib.hid e1
      have HC2 := Lib.hid e2
      have HC3 := Lib.hid e3
      clear hL2 hcanL hhas hid hno e1 e2 e3
      have et : ∀ w, (binOp .eql 32 (.agg #[.int .i64 x0, .int .i64 x1]) (.agg #[.int .i64 y0, .int .i64 y1])).run Try.prog w = .ok (.bool (decide (y0 = x0) && decide (y1 = x1))) w := by
        intro w; rw [eql_two]; congr 3 <;> (congr 1; exact propext eq_comm)
      have KA4 := Lib.hid (show KeepA A n c xs A2 m c2 L w.heap.size x0 x1 y0 y1 w4 w4 from ⟨H4.out, HS4.out, Below.refl _ _, BX4.out⟩)
      have hm6 : m ≤ 1000000 := by omega
      have hn6 : n ≤ 1000000 := by omega
      cases hsy : hasL xs y0 y1
      · have HSY := Lib.hid hsy
        clear hsy
        generalize hdd : (decide (y0 = x0) && decide (y1 = x1)) = dd at et HC3
        clear hdd
        rw [HSY.out, Bool.false_or] at HC3
        go_wp2_with fail
        ((with_reducible refine wp_region_class (KeepA A n c xs A2 m c2 L w.heap.size x0 x1 y0 y1 w4) ?_ ?_ ?_ ?_); kernel_rfl; kernel_rfl; (exact (keepA_S KA4.out (Below.drew1 _)).2.2.2.2); (intro hnonemp); (have r1 := fun z : Wd (KeepA A n c xs A2 m c2 L w.heap.size x0 x1 y0 y1 w4) => z.h.bx.1; have r2 := fun z : Wd (KeepA A n c xs A2 m c2 L w.heap.size x0 x1 y0 y1 w4) => z.h.bx.2.1; have r3 := fun z : Wd (KeepA A n c xs A2 m c2 L w.heap.size x0 x1 y0 y1 w4) => z.h.bx.2.2.1; have r4 := fun z : Wd (KeepA A n c xs A2 m c2 L w.heap.size x0 x1 y0 y1 w4) => z.h.bx.2.2.2.1); (repeat (any_goals (first | go_big_quiet_step (((first | (go_at_call 19; (with_reducible refine (check_any A2 m c2 L _ (KeepA.s2 (Wd.h _))).mono ?_); rw [HC1.out]; rintro e w' ⟨rfl, hbk⟩; exact ⟨rfl, ⟨w', (keepA_S (Wd.h _) hbk).2.2.2.2⟩, rfl⟩) | (go_at_call 12; (with_reducible refine (has_any A2 m c2 L x0 x1 _ (KeepA.s2 (Wd.h _)) HCL.out hm6).mono ?_); rw [HC2.out]; rintro e w' ⟨rfl, hbk⟩; exact ⟨rfl, ⟨w', (keepA_S (Wd.h _) hbk).2.2.2.2⟩, rfl⟩) | (go_at_call 12; (with_reducible refine (has_any A2 m c2 L y0 y1 _ (KeepA.s2 (Wd.h _)) HCL.out hm6).mono ?_); rw [HC3.out]; rintro e w' ⟨rfl, hbk⟩; exact ⟨rfl, ⟨w', (keepA_S (Wd.h _) hbk).2.2.2.2⟩, rfl⟩) | (go_at_call 12; (with_reducible refine (has_any A n c xs y0 y1 _ (KeepA.s1 (Wd.h _)) LC.out.1 hn6).mono ?_); rw [HSY.out]; rintro e w' ⟨rfl, hbk⟩; exact ⟨rfl, ⟨w', (keepA_S (Wd.h _) hbk).2.2.2.2⟩, rfl⟩) | (go_at_call 11; refine (awake_any _).mono ?_; rintro e w' ⟨rfl, hbk⟩; exact ⟨rfl, ⟨w', (keepA_S (Wd.h _) hbk).2.2.2.2⟩, rfl⟩)))) | (refine wpQuiet_step (fun K hK => ?_); go_simp; (first | (refine hK _ ?_; clear hK K) | (split <;> rename_i hg <;> (refine hK _ ?_; clear hK K) <;> (try simp only [Bool.not_eq_true] at hg) <;> (first | simp only [Int.not_lt.2 hg, decide_false] | simp only [Int.not_le.1 hg, decide_true] | simp only [hg, decide_true, decide_false] | skip)))))));  all_goals (refine wpQuiet_nil ?_; intro wq hgq))
        all_goals
          have hfin : Below w4.heap.size w4 wq := hgq.bl
          have hbb := HB4.out.trans (hfin.mono HB4.out.size)
          go_wp2_with fail
          go_ret
          exact ⟨rfl, hbb⟩
      · have HSY := Lib.hid hsy
        clear hsy
        rw [HSY.out, Bool.true_or] at HC3
        generalize hdd : (decide (y0 = x0) && decide (y1 = x1)) = dd at et
        clear hdd
        go_wp2_with fail
        ((with_reducible refine wp_region_class (KeepA A n c xs A2 m c2 L w.heap.size x0 x1 y0 y1 w4) ?_ ?_ ?_ ?_); kernel_rfl; kernel_rfl; (exact (keepA_S KA4.out (Below.drew1 _)).2.2.2.2); (intro hnonemp); (have r1 := fun z : Wd (KeepA A n c xs A2 m c2 L w.heap.size x0 x1 y0 y1 w4) => z.h.bx.1; have r2 := fun z : Wd (KeepA A n c xs A2 m c2 L w.heap.size x0 x1 y0 y1 w4) => z.h.bx.2.1; have r3 := fun z : Wd (KeepA A n c xs A2 m c2 L w.heap.size x0 x1 y0 y1 w4) => z.h.bx.2.2.1; have r4 := fun z : Wd (KeepA A n c xs A2 m c2 L w.heap.size x0 x1 y0 y1 w4) => z.h.bx.2.2.2.1); (repeat (any_goals (first | go_big_quiet_step (((first | (go_at_call 19; (with_reducible refine (check_any A2 m c2 L _ (KeepA.s2 (Wd.h _))).mono ?_); rw [HC1.out]; rintro e w' ⟨rfl, hbk⟩; exact ⟨rfl, ⟨w', (keepA_S (Wd.h _) hbk).2.2.2.2⟩, rfl⟩) | (go_at_call 12; (with_reducible refine (has_any A2 m c2 L x0 x1 _ (KeepA.s2 (Wd.h _)) HCL.out hm6).mono ?_); rw [HC2.out]; rintro e w' ⟨rfl, hbk⟩; exact ⟨rfl, ⟨w', (keepA_S (Wd.h _) hbk).2.2.2.2⟩, rfl⟩) | (go_at_call 12; (with_reducible refine (has_any A2 m c2 L y0 y1 _ (KeepA.s2 (Wd.h _)) HCL.out hm6).mono ?_); rw [HC3.out]; rintro e w' ⟨rfl, hbk⟩; exact ⟨rfl, ⟨w', (keepA_S (Wd.h _) hbk).2.2.2.2⟩, rfl⟩) | (go_at_call 12; (with_reducible refine (has_any A n c xs y0 y1 _ (KeepA.s1 (Wd.h _)) LC.out.1 hn6).mono ?_); rw [HSY.out]; rintro e w' ⟨rfl, hbk⟩; exact ⟨rfl, ⟨w', (keepA_S (Wd.h _) hbk).2.2.2.2⟩, rfl⟩) | (go_at_call 11; refine (awake_any _).mono ?_; rintro e w' ⟨rfl, hbk⟩; exact ⟨rfl, ⟨w', (keepA_S (Wd.h _) hbk).2.2.2.2⟩, rfl⟩)))) | (refine wpQuiet_step (fun K hK => ?_); go_simp; (first | (refine hK _ ?_; clear hK K) | (split <;> rename_i hg <;> (refine hK _ ?_; clear hK K) <;> (try simp only [Bool.not_eq_true] at hg) <;> (first | simp only [Int.not_lt.2 hg, decide_false] | simp only [Int.not_le.1 hg, decide_true] | simp only [hg, decide_true, decide_false] | skip)))))));  all_goals (refine wpQuiet_nil ?_; intro wq hgq))
        all_goals
          have hfin : Below w4.heap.size w4 wq := hgq.bl
          have hbb := HB4.out.trans (hfin.mono HB4.out.size)
          go_wp2_with fail
          go_ret
          exact ⟨rfl, hbb⟩
  · have hl' : lightB xs = false := by simpa using hl
    clear hl
    go_enter Try.func6, Try.ntmps6
    go_wp2_with fail
    refine (light_any A n c xs _ H0.out).mono ?_
    rintro e w1 ⟨rfl, hb1⟩
    have hz1 := hb1.size
    have hz0 := HBX.out.size
    go_wp2_with fail
    refine (awake_any _).mono ?_
    rintro e w2 ⟨rfl, hb2⟩
    have hbb := (HBX.out.trans (hb1.mono HBX.out.size)).trans (hb2.mono (by omega))
    go_wp2_with fail
    go_ret
    exact ⟨rfl, hbb⟩

end Dd
end Go.Proofs.Ytdcekckghlpamaa
