/-
  Dedup, the first walks: identity, Check, the reference's Check, light. No condition.
-/
import Derived.Test.YtdcekckghlpamaaRows
import Derived.Test.YtdcekckghlpamaaCom
import Derived.BigQuiet
namespace Go.Proofs.Ytdcekckghlpamaa
open Go.RowKit
namespace Dd

structure Rng where
  src : Int
  lo : Int
  hi : Int
  deriving DecidableEq, Inhabited

instance : Flat Rng where
  sz := 3
  cells r := [.int .i64 r.src, .int .i64 r.lo, .int .i64 r.hi]
  len _ := rfl
  one _ := by simp [Value.oneCell']
  pos := by decide

def ident (s n : Int) : Bool := decide (1 ≤ s) && decide (s ≤ 99) && decide (1 ≤ n) && decide (n ≤ 999999999)
theorem ident_iff {s n : Int} : ident s n = true ↔ 1 ≤ s ∧ s ≤ 99 ∧ 1 ≤ n ∧ n ≤ 999999999 := by simp [ident, and_assoc]

theorem identity_any (a b : Int) (w : World) :
    Calls Try.prog 28 #[.int .i64 a, .int .i64 b] w fun e w' => e = .returned (.bool (ident a b)) ∧ w = w' := by
  go_enter Try.func28, Try.ntmps28
  go_wp2
  all_goals (go_ret; refine ⟨ret_bool ?_, rfl⟩; simp [ident]; try omega)
theorem refidentity_any (a b : Int) (w : World) :
    Calls Try.prog 29 #[.int .i64 a, .int .i64 b] w fun e w' => e = .returned (.bool (ident a b)) ∧ w = w' := by
  go_enter Try.func29, Try.ntmps29
  go_wp2
  all_goals (go_ret; refine ⟨ret_bool ?_, rfl⟩; simp [ident]; try omega)

/-- a range alone, and behind the one before it -/
def okR (p : Option Rng) (r : Rng) : Bool :=
  ident r.src r.lo && ident r.src r.hi && decide (r.lo ≤ r.hi) &&
    match p with
    | none => true
    | some p => decide (p.src ≤ r.src) && (decide (p.src ≠ r.src) || decide (p.hi + 1 < r.lo))
def okAt (xs : List Rng) (i : Nat) : Bool :=
  match xs[i]? with
  | none => true
  | some r => okR (if i = 0 then none else xs[i-1]?) r
def canon (xs : List Rng) : Bool := allB xs.length (okAt xs)

theorem okAt_some {xs : List Rng} {i : Nat} {r : Rng} (h : xs[i]? = some r) : okAt xs i = okR (if i = 0 then none else xs[i-1]?) r := by
  simp only [okAt, h]
theorem okR_iff {p r : Rng} : okR (some p) r = true ↔ ident r.src r.lo = true ∧ ident r.src r.hi = true ∧ r.lo ≤ r.hi ∧ p.src ≤ r.src ∧ (p.src ≠ r.src ∨ p.hi + 1 < r.lo) := by
  simp [okR, and_assoc]
theorem okR_iff0 {r : Rng} : okR none r = true ↔ ident r.src r.lo = true ∧ ident r.src r.hi = true ∧ r.lo ≤ r.hi := by
  simp [okR, and_assoc]
theorem okR_hi {p : Option Rng} {r : Rng} (h : okR p r = true) : r.hi ≤ 999999999 ∧ 1 ≤ r.hi := by
  simp only [okR, Bool.and_eq_true, ident_iff] at h; omega

set_option maxHeartbeats 1000000 in
theorem check_any (A : Option Addr) (n c : Nat) (xs : List Rng) (w : World) (h : Sl w A n c xs) :
    Calls Try.prog 19 #[.slice A n c] w fun e w' => e = .returned (.bool (canon xs)) ∧ Below w.heap.size w w' := by
  have hn := h.nmax
  have hlen := Lib.hid h.len
  go_enter Try.func19, Try.ntmps19
  go_wp2_with fail
  go_loopw [8] (fun i wr => ∃ k : Nat, k ≤ n ∧ i = .int .i64 k ∧ Below w.heap.size w wr ∧ ∀ j, j < k → okAt xs j = true) (fun i _ => n - (intOf i).toNat)
  case atStart => exact ⟨0, Nat.zero_le _, rfl, Below.refl _ _, fun _ h => absurd h (by omega)⟩
  case round =>
    obtain ⟨k, hk, rfl, hb, hok⟩ := hrel
    have HOK := Lib.hid hok
    clear hok
    have hs := hb.size
    by_cases hlt : k < n
    · obtain ⟨b, off, rfl, hbw, hc⟩ := (h.below hb).base (by omega)
      obtain ⟨r, hr⟩ := h.get hlt
      have c0 : wr.cell? ⟨b, off + k * 3, none⟩ = some (.int .i64 r.src) := Sl.at_ hc hr 0 rfl
      have c1 : wr.cell? ⟨b, off + k * 3 + 1, none⟩ = some (.int .i64 r.lo) := Sl.at_ hc hr 1 rfl
      have c2 : wr.cell? ⟨b, off + k * 3 + 2, none⟩ = some (.int .i64 r.hi) := Sl.at_ hc hr 2 rfl
      by_cases h0 : 0 < k
      · obtain ⟨p, hp⟩ := h.get (k := k - 1) (by omega)
        have d0 : wr.cell? ⟨b, off + (k - 1) * 3, none⟩ = some (.int .i64 p.src) := Sl.at_ hc hp 0 rfl
        have d1 : wr.cell? ⟨b, off + (k - 1) * 3 + 1, none⟩ = some (.int .i64 p.lo) := Sl.at_ hc hp 1 rfl
        have d2 : wr.cell? ⟨b, off + (k - 1) * 3 + 2, none⟩ = some (.int .i64 p.hi) := Sl.at_ hc hp 2 rfl
        have hph : p.hi ≤ 999999999 ∧ 1 ≤ p.hi := by
          have := HOK.out (k - 1) (by omega)
          rw [okAt_some hp] at this
          exact okR_hi this
        obtain ⟨hp1, hp2⟩ := hph
        have hat : okAt xs k = okR (some p) r := by rw [okAt_some hr, if_neg (by omega), hp]
        have HAT := Lib.hid hat
        clear hat hp hr hc
        go_wp2_with (first | (go_at_call 28; refine (identity_any _ _ _).mono ?_; rintro e w' ⟨rfl, rfl⟩))
        all_goals first
          | (go_ret
             refine ⟨ret_bool (allB_false (k := k) (by rw [hlen.out]; exact hlt) ?_).symm, ?_⟩
             · rw [HAT.out, Bool.eq_false_iff]; intro hh; have hh := okR_iff.1 hh; clear HAT HOK; simp_all; try omega
             · (repeat (first | exact hb | exact Below.refl _ _ | (refine Below.alloc ?_ (by (try simp) <;> omega) _) | (refine Below.setCell ?_ (by (try simp) <;> omega) _) | refine Below.drew ?_ | refine below_drewN ?_ _)))
          | (go_roundw
             case rel =>
               refine ⟨k + 1, by omega, by go_num, ?_, fun j hj => ?_⟩
               · (repeat (first | exact hb | exact Below.refl _ _ | (refine Below.alloc ?_ (by (try simp) <;> omega) _) | (refine Below.setCell ?_ (by (try simp) <;> omega) _) | refine Below.drew ?_ | refine below_drewN ?_ _))
               · by_cases hjk : j < k
                 · exact HOK.out j hjk
                 · obtain rfl : j = k := by omega
                   rw [HAT.out]; exact okR_iff.2 ⟨by assumption, by assumption, by assumption, by omega, by omega⟩
             case measure => simp [intOf]; omega)
      · have hk0 : k ≤ 0 := by omega
        clear h0
        have hat : okAt xs k = okR none r := by rw [okAt_some hr, if_pos (by omega)]
        have HAT := Lib.hid hat
        clear hat hr hc
        go_wp2_with (first | (go_at_call 28; refine (identity_any _ _ _).mono ?_; rintro e w' ⟨rfl, rfl⟩))
        all_goals first
          | (go_ret
             refine ⟨ret_bool (allB_false (k := k) (by rw [hlen.out]; exact hlt) ?_).symm, ?_⟩
             · rw [HAT.out, Bool.eq_false_iff]; intro hh; have hh := okR_iff0.1 hh; clear HAT HOK; simp_all; try omega
             · (repeat (first | exact hb | exact Below.refl _ _ | (refine Below.alloc ?_ (by (try simp) <;> omega) _) | (refine Below.setCell ?_ (by (try simp) <;> omega) _) | refine Below.drew ?_ | refine below_drewN ?_ _)))
          | (go_roundw
             case rel =>
               refine ⟨k + 1, by omega, by go_num, ?_, fun j hj => ?_⟩
               · (repeat (first | exact hb | exact Below.refl _ _ | (refine Below.alloc ?_ (by (try simp) <;> omega) _) | (refine Below.setCell ?_ (by (try simp) <;> omega) _) | refine Below.drew ?_ | refine below_drewN ?_ _))
               · obtain rfl : j = k := by omega
                 rw [HAT.out]; exact okR_iff0.2 ⟨by assumption, by assumption, by assumption⟩
             case measure => simp [intOf]; omega)
    · obtain rfl : n = k := by omega
      go_wp2_with fail
      go_ret
      exact ⟨ret_bool (allB_true (by rw [hlen.out]; exact HOK.out)).symm, hb⟩

end Dd
end Go.Proofs.Ytdcekckghlpamaa
