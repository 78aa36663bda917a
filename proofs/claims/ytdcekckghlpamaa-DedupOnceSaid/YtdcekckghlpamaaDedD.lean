/-
  Dedup: Same, the reference's Has, touch, place and Has. No condition.
-/
import Derived.Test.YtdcekckghlpamaaDedC
import Derived.BigQuiet
import Derived.StillTailTactics
import Derived.Lib.Overlaps
import Derived.Deep.DeepCutAuto
set_option maxRecDepth 100000
set_option linter.unusedVariables false
set_option linter.unusedSimpArgs false
namespace Go.Proofs.Ytdcekckghlpamaa
open Go.RowKit

namespace Dd

/-- two ranges, field by field -/
def eqR (a1 a2 a3 b1 b2 b3 : Int) : Bool := a1 == b1 && a2 == b2 && a3 == b3
theorem eqR_iff (a b : Rng) : eqR a.src a.lo a.hi b.src b.lo b.hi = decide (a = b) := by
  rw [Bool.eq_iff_iff]; cases a; cases b; simp [eqR, and_assoc]
theorem neq_rng (a1 a2 a3 b1 b2 b3 : Int) (w : World) :
    (binOp .neq 30 (.agg #[.int .i64 a1, .int .i64 a2, .int .i64 a3]) (.agg #[.int .i64 b1, .int .i64 b2, .int .i64 b3])).run Try.prog w = .ok (.bool (!eqR a1 a2 a3 b1 b2 b3)) w := by
  have u3 := Try.underlying3
  have ia := Try.isAgg3
  have z3 := Try.sizeOf3
  have hS : Try.prog.underlying 30 = some (.struct (Try.prog.fieldsOf 30)) := by kernel_rfl
  have hp : Try.prog.stoodInHeld 30 = false := by kernel_rfl
  simp only [binOp, Op.equal, Op.maxDepth, Sem.run_bind]
  rw [show (10000 : Nat) = 9999 + 1 from rfl, run_equalIn_struct w 9999 30 _ _ hS hp]
  simp only [Program.fieldsOf, Try.underlying30]
  go_simp
  by_cases h1 : a1 = b1 <;> by_cases h2 : a2 = b2 <;> by_cases h3 : a3 = b3 <;> simp [h1, h2, h3, eqR]

def sameL (a b : List Rng) : Bool := decide (a = b)

set_option maxHeartbeats 400000 in
theorem same_any (A B : Option Addr) (n m c d : Nat) (xs ys : List Rng) (w : World) (h : Sl w A n c xs) (h2 : Sl w B m d ys) :
    Calls Try.prog 17 #[.slice A n c, .slice B m d] w fun e w' => e = .returned (.bool (decide (xs = ys))) ∧ Below w.heap.size w w' := by
  have hn := h.nmax
  have hm := h2.nmax
  have hlen := Lib.hid h.len
  have hlen2 := Lib.hid h2.len
  have hnq := neq_rng
  by_cases hnm : n = m
  · have hf : ((n : Int) == (m : Int)) = true := by simp [hnm]
    have hf2 : (n == m) = true := by simp [hnm]
    have hf3 : ((n : Int) != (m : Int)) = false := by simp [hnm]
    have HNM := Lib.hid hnm
    clear hnm
    go_enter Try.func17, Try.ntmps17
    go_wp2_with fail
    go_loopw [5] (fun i wr => ∃ k : Nat, k ≤ n ∧ i = .int .i64 k ∧ Below w.heap.size w wr ∧ ∀ j, j < k → xs[j]? = ys[j]?) (fun i _ => n - (intOf i).toNat)
    case atStart => exact ⟨0, Nat.zero_le _, rfl, Below.refl _ _, fun _ h => absurd h (by omega)⟩
    case round =>
      obtain ⟨k, hk, rfl, hb, hok⟩ := hrel
      have HOK := Lib.hid hok
      clear hok
      have hs := hb.size
      by_cases hlt : k < n
      · have hltm : k < m := by have := HNM.out; omega
        obtain ⟨b, off, rfl, hbw, hc⟩ := h.baseIn hb (by omega)
        obtain ⟨x, hx⟩ := h.get hlt
        (have c0 : wr.cell? ⟨b, off + k * 3, none⟩ = some (.int .i64 x.src) := Sl.at_ hc hx 0 rfl; have c1 : wr.cell? ⟨b, off + k * 3 + 1, none⟩ = some (.int .i64 x.lo) := Sl.at_ hc hx 1 rfl; have c2 : wr.cell? ⟨b, off + k * 3 + 2, none⟩ = some (.int .i64 x.hi) := Sl.at_ hc hx 2 rfl)
        obtain ⟨b2, off2, rfl, hbw2, hc2⟩ := h2.baseIn hb (by omega)
        obtain ⟨y, hy⟩ := h2.get hltm
        have d0 : wr.cell? ⟨b2, off2 + k * 3, none⟩ = some (.int .i64 y.src) := Sl.at_ hc2 hy 0 rfl
        have d1 : wr.cell? ⟨b2, off2 + k * 3 + 1, none⟩ = some (.int .i64 y.lo) := Sl.at_ hc2 hy 1 rfl
        have d2 : wr.cell? ⟨b2, off2 + k * 3 + 2, none⟩ = some (.int .i64 y.hi) := Sl.at_ hc2 hy 2 rfl
        have HX := Lib.hid hx
        have HY := Lib.hid hy
        clear hx hy hc hc2
        go_wp2_with ((with_reducible refine wp_region_quiet_lit ?_ ?_ ?_); kernel_rfl; kernel_rfl; (repeat (any_goals (first | go_big_quiet_step (fail) | (refine wpQuiet_step (fun K hK => ?_); go_simp; (first | (refine hK _ ?_; clear hK K) | (split <;> rename_i hg <;> (refine hK _ ?_; clear hK K) <;> (try simp only [Bool.not_eq_true] at hg) <;> (first | simp only [Int.not_lt.2 hg, decide_false] | simp only [Int.not_le.1 hg, decide_true] | simp only [hg, decide_true, decide_false] | skip))))))); all_goals (refine wpQuiet_nil ?_; intro _ hw'; obtain ⟨nq, hw''⟩ := hw'; subst hw''))
        skip
        all_goals first
          | (go_ret
             refine ⟨ret_bool ?_, by (repeat (first | exact hb | exact Below.refl _ _ | (refine Below.alloc ?_ (by (try simp) <;> omega) _) | (refine Below.setCell ?_ (by (try simp) <;> omega) _) | refine Below.drew ?_ | refine below_drewN ?_ _))⟩
             have hne : x ≠ y := by
               have q := eqR_iff x y
               intro he; simp [he, eqR] at *
             refine (decide_eq_false ?_).symm
             intro he; subst he
             exact hne (by have := HX.out; rw [HY.out] at this; exact (Option.some.inj this).symm))
          | (go_roundw
             case rel =>
               refine ⟨k + 1, by omega, by go_num, by (repeat (first | exact hb | exact Below.refl _ _ | (refine Below.alloc ?_ (by (try simp) <;> omega) _) | (refine Below.setCell ?_ (by (try simp) <;> omega) _) | refine Below.drew ?_ | refine below_drewN ?_ _)), fun j hj => ?_⟩
               by_cases hjk : j < k
               · exact HOK.out j hjk
               · obtain rfl : j = k := by omega
                 have he : x = y := by
                   have q := eqR_iff x y
                   have q2 : eqR x.src x.lo x.hi y.src y.lo y.hi = true := by simpa using (by assumption : (!eqR x.src x.lo x.hi y.src y.lo y.hi) = false)
                   rw [q2] at q
                   exact of_decide_eq_true q.symm
                 rw [HX.out, HY.out, he]
             case measure => simp [intOf]; omega)
      · obtain rfl : n = k := by omega
        go_wp2_with fail
        go_ret
        refine ⟨ret_bool (decide_eq_true ?_).symm, hb⟩
        apply List.ext_getElem?
        intro i
        by_cases hi : i < n
        · exact HOK.out i hi
        · rw [List.getElem?_eq_none (by rw [hlen.out]; omega), List.getElem?_eq_none (by rw [hlen2.out, ← HNM.out]; omega)]
  · have hf : ((n : Int) == (m : Int)) = false := by simp; omega
    have hf2 : (n == m) = false := by simp; omega
    have hf3 : ((n : Int) != (m : Int)) = true := by simp; omega
    go_enter Try.func17, Try.ntmps17
    go_wp2_with fail
    go_ret
    refine ⟨ret_bool (decide_eq_false ?_).symm, Below.refl _ _⟩
    intro he
    exact hnm (by rw [← hlen.out, ← hlen2.out, he])

set_option maxHeartbeats 400000 in
theorem touch_any (a1 a2 a3 b1 b2 b3 : Int) (w : World) (ha : -9223372036854775808 ≤ a3 ∧ a3 < 9223372036854775807) :
    Calls Try.prog 38 #[.agg #[.int .i64 a1, .int .i64 a2, .int .i64 a3], .agg #[.int .i64 b1, .int .i64 b2, .int .i64 b3]] w
      fun e w' => e = .returned (.bool (a1 == b1 && a3 + 1 == b2)) ∧ Below w.heap.size w w' := by
  obtain ⟨ha1, ha2⟩ := ha
  go_enter Try.func38, Try.ntmps38
  go_wp2
  all_goals (go_ret; refine ⟨ret_bool ?_, by (repeat (first | exact Below.refl _ _ | exact Below.refl _ _ | (refine Below.alloc ?_ (by (try simp) <;> omega) _) | (refine Below.setCell ?_ (by (try simp) <;> omega) _) | refine Below.drew ?_ | refine below_drewN ?_ _))⟩; simp_all)

def hitR (src ser : Int) (r : Rng) : Bool := r.src == src && decide (r.lo ≤ ser) && decide (ser ≤ r.hi)
def hasL (xs : List Rng) (src ser : Int) : Bool := xs.any (hitR src ser) && ident src ser
theorem any_false {α : Type} {xs : List α} {p : α → Bool} {n : Nat} (hn : xs.length = n) (h : ∀ j, j < n → ∀ x, xs[j]? = some x → p x = false) : xs.any p = false := by
  rw [List.any_eq_false]
  intro x hx
  obtain ⟨i, hi, rfl⟩ := List.mem_iff_getElem.1 hx
  simp [h i (by omega) _ (List.getElem?_eq_getElem hi)]
theorem any_true {α : Type} {xs : List α} {p : α → Bool} {k : Nat} {x : α} (h : xs[k]? = some x) (hp : p x = true) : xs.any p = true :=
  List.any_eq_true.2 ⟨x, List.mem_of_getElem? h, hp⟩

set_option maxHeartbeats 400000 in
theorem refhas_any (A : Option Addr) (n c : Nat) (xs : List Rng) (src ser : Int) (w : World) (h : Sl w A n c xs) :
    Calls Try.prog 13 #[.slice A n c, .int .i64 src, .int .i64 ser] w fun e w' => e = .returned (.bool (hasL xs src ser)) ∧ Below w.heap.size w w' := by
  have hn := h.nmax
  have hlen := Lib.hid h.len
  go_enter Try.func13, Try.ntmps13
  go_wp2_with fail
  go_loopw [7] (fun i wr => ∃ k : Nat, k ≤ n ∧ i = .int .i64 k ∧ Below w.heap.size w wr ∧ ∀ j, j < k → ∀ x, xs[j]? = some x → hitR src ser x = false) (fun i _ => n - (intOf i).toNat)
  case atStart => exact ⟨0, Nat.zero_le _, rfl, Below.refl _ _, fun _ h => absurd h (by omega)⟩
  case round =>
    obtain ⟨k, hk, rfl, hb, hok⟩ := hrel
    have HOK := Lib.hid hok
    clear hok
    have hs := hb.size
    by_cases hlt : k < n
    · obtain ⟨b, off, rfl, hbw, hc⟩ := h.baseIn hb (by omega)
      have hbr : b < wr.heap.size := by omega
      obtain ⟨r, hr⟩ := h.get hlt
      (have c0 : wr.cell? ⟨b, off + k * 3, none⟩ = some (.int .i64 r.src) := Sl.at_ hc hr 0 rfl; have c1 : wr.cell? ⟨b, off + k * 3 + 1, none⟩ = some (.int .i64 r.lo) := Sl.at_ hc hr 1 rfl; have c2 : wr.cell? ⟨b, off + k * 3 + 2, none⟩ = some (.int .i64 r.hi) := Sl.at_ hc hr 2 rfl)
      have HR := Lib.hid hr
      clear hr hc
      go_wp2_with (first | (go_at_call 29; refine (refidentity_any _ _ _).mono ?_; rintro e w' ⟨rfl, rfl⟩) | ((with_reducible refine wp_region_quiet_lit ?_ ?_ ?_); kernel_rfl; kernel_rfl; (repeat (any_goals (first | go_big_quiet_step (fail) | (refine wpQuiet_step (fun K hK => ?_); go_simp; (first | (refine hK _ ?_; clear hK K) | (split <;> rename_i hg <;> (refine hK _ ?_; clear hK K) <;> (try simp only [Bool.not_eq_true] at hg) <;> (first | simp only [Int.not_lt.2 hg, decide_false] | simp only [Int.not_le.1 hg, decide_true] | simp only [hg, decide_true, decide_false] | skip))))))); all_goals (refine wpQuiet_nil ?_; intro _ hw'; obtain ⟨nq, hw''⟩ := hw'; subst hw'')))
      skip
      all_goals first
        | (go_ret
           refine ⟨ret_bool ?_, by (repeat (first | exact hb | exact Below.refl _ _ | (refine Below.alloc ?_ (by (try simp) <;> omega) _) | (refine Below.setCell ?_ (by (try simp) <;> omega) _) | refine Below.drew ?_ | refine below_drewN ?_ _))⟩
           rw [hasL, any_true HR.out, Bool.true_and]
           simp_all [hitR])
        | (go_roundw
           case rel =>
             refine ⟨k + 1, by omega, by go_num, by (repeat (first | exact hb | exact Below.refl _ _ | (refine Below.alloc ?_ (by (try simp) <;> omega) _) | (refine Below.setCell ?_ (by (try simp) <;> omega) _) | refine Below.drew ?_ | refine below_drewN ?_ _)), fun j hj x hx => ?_⟩
             by_cases hjk : j < k
             · exact HOK.out j hjk x hx
             · obtain rfl : j = k := by omega
               have : x = r := by have := HR.out; rw [hx] at this; exact Option.some.inj this
               subst this
               clear hx HR HOK
               simp only [hitR, Bool.and_eq_false_iff, decide_eq_false_iff_not, beq_eq_false_iff_ne]; omega
           case measure => simp [intOf]; omega)
    · obtain rfl : n = k := by omega
      go_wp2_with fail
      go_ret
      refine ⟨ret_bool ?_, hb⟩
      rw [hasL, any_false hlen.out HOK.out, Bool.false_and]

end Dd
end Go.Proofs.Ytdcekckghlpamaa
