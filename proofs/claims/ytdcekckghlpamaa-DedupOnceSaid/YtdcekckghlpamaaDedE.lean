/-
  Dedup: place and Has. No condition.
-/
import Derived.Test.YtdcekckghlpamaaDedD
import Derived.BigQuiet
import Derived.StillTailTactics
import Derived.Lib.Overlaps
import Derived.Deep.DeepCutAuto
set_option maxRecDepth 100000
set_option linter.unusedVariables false
set_option linter.unusedSimpArgs false
namespace Go.Proofs.Ytdcekckghlpamaa
open Go.RowKit

namespace Dd

def pastR (src ser : Int) (r : Rng) : Bool := decide (src < r.src) || (r.src == src && decide (ser ≤ r.hi))

def PastPost (w : World) (xs : List Rng) (src ser : Int) (i : Nat) (w' : World) : Prop :=
  i ≤ xs.length ∧ (∀ x, 0 < i → xs[i-1]? = some x → pastR src ser x = false) ∧ (∀ x, xs[i]? = some x → pastR src ser x = true) ∧ Below w.heap.size w w'
def PastRet (w : World) (xs : List Rng) (src ser : Int) (e : Ending) (w' : World) : Prop := ∃ i : Nat, e = .returned (.int .i64 i) ∧ PastPost w xs src ser i w'

set_option maxHeartbeats 400000 in
theorem placefn_any (g1 g2 g3 : Nat) (b off n c : Nat) (k : Nat) (r : Rng) (src ser : Int) (w : World) (hn : n ≤ 9223372036854775807) (hk : k < n)
    (c1 : w.cell? ⟨g1, 0, none⟩ = some (.slice (some ⟨b, off, none⟩) n c)) (c2 : w.cell? ⟨g2, 0, none⟩ = some (.int .i64 src)) (c3 : w.cell? ⟨g3, 0, none⟩ = some (.int .i64 ser))
    (hg1 : g1 < w.heap.size) (hg2 : g2 < w.heap.size) (hg3 : g3 < w.heap.size) (hb : b < w.heap.size)
    (d0 : w.cell? ⟨b, off + k * 3, none⟩ = some (.int .i64 r.src)) (d1 : w.cell? ⟨b, off + k * 3 + 1, none⟩ = some (.int .i64 r.lo)) (d2 : w.cell? ⟨b, off + k * 3 + 2, none⟩ = some (.int .i64 r.hi)) :
    Calls Try.prog 36 #[.int .i64 k, .pointer (some ⟨g1, 0, none⟩), .pointer (some ⟨g2, 0, none⟩), .pointer (some ⟨g3, 0, none⟩)] w fun e w' => e = .returned (.bool (pastR src ser r)) ∧ Below w.heap.size w w' := by
  go_enter Try.func36, Try.ntmps36
  go_wp2
  all_goals (go_ret; refine ⟨ret_bool ?_, by (repeat (first | exact Below.refl _ _ | exact Below.refl _ _ | (refine Below.alloc ?_ (by (try simp) <;> omega) _) | (refine Below.setCell ?_ (by (try simp) <;> omega) _) | refine Below.drew ?_ | refine below_drewN ?_ _))⟩; clear c1 c2 c3 d0 d1 d2; simp_all [pastR]; try omega)

set_option maxHeartbeats 400000 in
theorem search_any (g1 g2 g3 : Nat) (A : Option Addr) (n c : Nat) (xs : List Rng) (src ser : Int) (w : World) (h : Sl w A n c xs) (hn : n ≤ 1000000)
    (c1 : w.cell? ⟨g1, 0, none⟩ = some (.slice A n c)) (c2 : w.cell? ⟨g2, 0, none⟩ = some (.int .i64 src)) (c3 : w.cell? ⟨g3, 0, none⟩ = some (.int .i64 ser))
    (hg1 : g1 < w.heap.size) (hg2 : g2 < w.heap.size) (hg3 : g3 < w.heap.size) :
    Calls Try.prog 35 #[.int .i64 n, .func (.func 36) #[] #[.pointer (some ⟨g1, 0, none⟩), .pointer (some ⟨g2, 0, none⟩), .pointer (some ⟨g3, 0, none⟩)]] w (PastRet w xs src ser) := by
  have hlen := Lib.hid h.len
  have C1 := Lib.hid c1
  have C2 := Lib.hid c2
  have C3 := Lib.hid c3
  clear c1 c2 c3
  go_enter Try.func35, Try.ntmps35
  go_wp2_with fail
  go_loopw [5, 6] (fun i j wr => ∃ a z : Nat, a ≤ z ∧ z ≤ n ∧ i = .int .i64 a ∧ j = .int .i64 z ∧ Below w.heap.size w wr ∧ (∀ x, 0 < a → xs[a-1]? = some x → pastR src ser x = false) ∧ (∀ x, xs[z]? = some x → pastR src ser x = true)) (fun i j _ => (intOf j - intOf i).toNat)
  case atStart => exact ⟨0, n, Nat.zero_le _, Nat.le_refl _, rfl, rfl, Below.refl _ _, fun _ h => absurd h (by omega), fun x hx => by
    have := (List.getElem?_eq_some_iff.1 hx).1
    have := hlen.out; omega⟩
  case round =>
    obtain ⟨a, z, haz, hz, rfl, rfl, hb, hA, hZ⟩ := hrel
    have HA := Lib.hid hA
    have HZ := Lib.hid hZ
    clear hA hZ
    have hs := hb.size
    by_cases hlt : a < z
    · obtain ⟨b, off, rfl, hbw, hc⟩ := h.baseIn hb (by omega)
      have hbr : b < wr.heap.size := by omega
      obtain ⟨m, hm⟩ : ∃ m : Nat, ((a : Int) + (z : Int)) / 2 = (m : Int) := ⟨(a + z) / 2, by omega⟩
      have hm1 : a ≤ m := by omega
      have hm2 : m < z := by omega
      obtain ⟨r, hr⟩ := h.get (k := m) (by omega)
      have e1 : wr.cell? ⟨g1, 0, none⟩ = some (.slice (some ⟨b, off, none⟩) n c) := (hb.cell (p := ⟨_, _, none⟩) hg1).trans C1.out
      have e2 : wr.cell? ⟨g2, 0, none⟩ = some (.int .i64 src) := (hb.cell (p := ⟨_, _, none⟩) hg2).trans C2.out
      have e3 : wr.cell? ⟨g3, 0, none⟩ = some (.int .i64 ser) := (hb.cell (p := ⟨_, _, none⟩) hg3).trans C3.out
      have HC := Lib.hid (placefn_any g1 g2 g3 b off n c m r src ser wr (by omega) (by omega) e1 e2 e3 (by omega) (by omega) (by omega) hbr (Sl.at_ hc hr 0 rfl) (Sl.at_ hc hr 1 rfl) (Sl.at_ hc hr 2 rfl))
      have HR := Lib.hid hr
      clear hr hc e1 e2 e3
      go_wp2_with (go_at_call 36; go_must (
        refine HC.out.mono ?_
        rintro e w1 ⟨rfl, hb1⟩))
      all_goals
        have hbb := hb.trans (hb1.mono hs)
      · go_roundw
        case rel =>
          refine ⟨m + 1, z, by omega, hz, by go_num, rfl, hbb, fun x _ hx => ?_, HZ.out⟩
          have hx : xs[m]? = some x := hx
          have : x = r := by have := HR.out; rw [hx] at this; exact Option.some.inj this
          subst this
          simp_all
        case measure => simp [intOf]; omega
      · go_roundw
        case rel =>
          refine ⟨a, m, by omega, by omega, rfl, rfl, hbb, HA.out, fun x hx => ?_⟩
          have : x = r := by have := HR.out; rw [hx] at this; exact Option.some.inj this
          subst this
          simp_all
        case measure => simp [intOf]; omega
    · obtain rfl : a = z := by omega
      go_wp2_with fail
      go_ret
      exact ⟨a, rfl, by have := hlen.out; omega, HA.out, HZ.out, hb⟩
set_option maxHeartbeats 400000 in
theorem place_any (A : Option Addr) (n c : Nat) (xs : List Rng) (src ser : Int) (w : World) (h : Sl w A n c xs) (hn : n ≤ 1000000) :
    Calls Try.prog 27 #[.slice A n c, .int .i64 src, .int .i64 ser] w (PastRet w xs src ser) := by
  go_enter Try.func27, Try.ntmps27
  have H := Lib.hid h
  clear h
  go_wp2_with (go_at_call 35; go_must (
    refine (search_any w.heap.size (w.heap.size + 1) (w.heap.size + 2) A n c xs src ser _ (H.out.below (by (repeat (first | exact Below.refl _ _ | exact Below.refl _ _ | (refine Below.alloc ?_ (by (try simp) <;> omega) _) | (refine Below.setCell ?_ (by (try simp) <;> omega) _) | refine Below.drew ?_ | refine below_drewN ?_ _)))) hn (by simp [go_sem]) (by simp [go_sem]) (by simp [go_sem]) (by (try simp) <;> omega) (by (try simp) <;> omega) (by (try simp) <;> omega)).mono ?_
    rintro e w1 ⟨i, rfl, h1, h2, h3, hb1⟩))
  go_ret
  exact ⟨i, rfl, h1, h2, h3, (show Below w.heap.size w _ from by (repeat (first | exact Below.refl _ _ | exact Below.refl _ _ | (refine Below.alloc ?_ (by (try simp) <;> omega) _) | (refine Below.setCell ?_ (by (try simp) <;> omega) _) | refine Below.drew ?_ | refine below_drewN ?_ _))).trans (hb1.mono (by simp; omega))⟩

/-- what lies behind the place is past it, what lies ahead is not: of a canonical list -/
def hasAt (xs : List Rng) (src ser : Int) (i : Nat) : Bool :=
  match xs[i]? with
  | none => false
  | some r => ident src ser && r.src == src && decide (r.lo ≤ ser)
set_option maxHeartbeats 400000 in
theorem has_at (A : Option Addr) (n c : Nat) (xs : List Rng) (src ser : Int) (w : World) (h : Sl w A n c xs) (hn : n ≤ 1000000) :
    Calls Try.prog 12 #[.slice A n c, .int .i64 src, .int .i64 ser] w fun e w' => ∃ i : Nat, PastPost w xs src ser i w' ∧ e = .returned (.bool (hasAt xs src ser i)) := by
  have hlen := Lib.hid h.len
  have H := Lib.hid h
  go_enter Try.func12, Try.ntmps12
  go_wp2_with fail
  refine (place_any A n c xs src ser _ H.out hn).mono ?_
  rintro e w1 ⟨i, rfl, hp⟩
  have hb1 := hp.2.2.2
  have hs1 := hb1.size
  have hin : i ≤ n := by have := hp.1; have := hlen.out; omega
  have HP := Lib.hid hp
  clear hp
  by_cases hlt : i < n
  · obtain ⟨b, off, rfl, hbw, hc⟩ := H.out.baseIn hb1 (by omega)
    have hbr : b < w1.heap.size := by omega
    obtain ⟨r, hr⟩ := H.out.get hlt
    (have c0 : w1.cell? ⟨b, off + i * 3, none⟩ = some (.int .i64 r.src) := Sl.at_ hc hr 0 rfl; have c1 : w1.cell? ⟨b, off + i * 3 + 1, none⟩ = some (.int .i64 r.lo) := Sl.at_ hc hr 1 rfl; have c2 : w1.cell? ⟨b, off + i * 3 + 2, none⟩ = some (.int .i64 r.hi) := Sl.at_ hc hr 2 rfl)
    have HR := Lib.hid hr
    clear hr hc h
    go_wp2_with (first | (go_at_call 28; refine (identity_any _ _ _).mono ?_; rintro e w' ⟨rfl, rfl⟩) | ((with_reducible refine wp_region_quiet_lit ?_ ?_ ?_); kernel_rfl; kernel_rfl; (repeat (any_goals (first | go_big_quiet_step (fail) | (refine wpQuiet_step (fun K hK => ?_); go_simp; (first | (refine hK _ ?_; clear hK K) | (split <;> rename_i hg <;> (refine hK _ ?_; clear hK K) <;> (try simp only [Bool.not_eq_true] at hg) <;> (first | simp only [Int.not_lt.2 hg, decide_false] | simp only [Int.not_le.1 hg, decide_true] | simp only [hg, decide_true, decide_false] | skip))))))); all_goals (refine wpQuiet_nil ?_; intro _ hw'; obtain ⟨nq, hw''⟩ := hw'; subst hw'')))
    skip
    all_goals
      go_ret
      refine ⟨i, ?_, ret_bool ?_⟩
      · obtain ⟨p1, p2, p3, p4⟩ := HP.out
        exact ⟨p1, p2, p3, by (repeat (first | exact hb1 | exact Below.refl _ _ | (refine Below.alloc ?_ (by (try simp) <;> omega) _) | (refine Below.setCell ?_ (by (try simp) <;> omega) _) | refine Below.drew ?_ | refine below_drewN ?_ _))⟩
      · rw [hasAt, HR.out]
        clear HR HP H hlen c0 c1 c2
        simp_all
  · have HR : Hid (xs[i]? = none) := Lib.hid (List.getElem?_eq_none (by have := hlen.out; omega))
    clear h
    go_wp2_with (first | (go_at_call 28; refine (identity_any _ _ _).mono ?_; rintro e w' ⟨rfl, rfl⟩) | ((with_reducible refine wp_region_quiet_lit ?_ ?_ ?_); kernel_rfl; kernel_rfl; (repeat (any_goals (first | go_big_quiet_step (fail) | (refine wpQuiet_step (fun K hK => ?_); go_simp; (first | (refine hK _ ?_; clear hK K) | (split <;> rename_i hg <;> (refine hK _ ?_; clear hK K) <;> (try simp only [Bool.not_eq_true] at hg) <;> (first | simp only [Int.not_lt.2 hg, decide_false] | simp only [Int.not_le.1 hg, decide_true] | simp only [hg, decide_true, decide_false] | skip))))))); all_goals (refine wpQuiet_nil ?_; intro _ hw'; obtain ⟨nq, hw''⟩ := hw'; subst hw'')))
    skip
    all_goals
      go_ret
      refine ⟨i, ?_, ret_bool ?_⟩
      · obtain ⟨p1, p2, p3, p4⟩ := HP.out
        exact ⟨p1, p2, p3, by (repeat (first | exact hb1 | exact Below.refl _ _ | (refine Below.alloc ?_ (by (try simp) <;> omega) _) | (refine Below.setCell ?_ (by (try simp) <;> omega) _) | refine Below.drew ?_ | refine below_drewN ?_ _))⟩
      · rw [hasAt, HR.out]
end Dd
end Go.Proofs.Ytdcekckghlpamaa
