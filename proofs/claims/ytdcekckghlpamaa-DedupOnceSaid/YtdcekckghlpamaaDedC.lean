/-
  Dedup: Count and Missing, and the reference's. No condition.
-/
import Derived.Test.YtdcekckghlpamaaDedA
import Derived.BigQuiet
import Derived.StillTailTactics
import Derived.Lib.Overlaps
import Derived.Deep.DeepCutAuto
set_option maxRecDepth 100000
set_option linter.unusedVariables false
set_option linter.unusedSimpArgs false
namespace Go.Proofs.Ytdcekckghlpamaa
open Go.RowKit

namespace Dd

def cnt : List Rng → Int
  | [] => 0
  | r :: l => (r.hi - r.lo + 1) + cnt l
theorem cnt_append (a b : List Rng) : cnt (a ++ b) = cnt a + cnt b := by
  induction a with
  | nil => simp [cnt]
  | cons x a ih => simp only [List.cons_append, cnt, ih]; omega
theorem take_succ {α : Type} {xs : List α} {k : Nat} {x : α} (h : xs[k]? = some x) : xs.take (k + 1) = xs.take k ++ [x] := by
  rw [List.take_add_one, h]; rfl
theorem cnt_succ {xs : List Rng} {k : Nat} {r : Rng} (h : xs[k]? = some r) : cnt (xs.take (k + 1)) = cnt (xs.take k) + (r.hi - r.lo + 1) := by
  rw [take_succ h, cnt_append]; simp [cnt]
/-- the bounds of a range alone -/
def Bd (r : Rng) : Prop := 1 ≤ r.lo ∧ r.lo ≤ r.hi ∧ r.hi ≤ 999999999
theorem cnt_bd {xs : List Rng} (h : ∀ (i : Nat) (r : Rng), xs[i]? = some r → Bd r) : ∀ k, k ≤ xs.length → 0 ≤ cnt (xs.take k) ∧ cnt (xs.take k) ≤ k * 999999999 := by
  intro k
  induction k with
  | zero => intro _; simp [cnt]
  | succ k ih =>
    intro hk
    obtain ⟨r, hr⟩ : ∃ r, xs[k]? = some r := ⟨xs[k], List.getElem?_eq_getElem (by omega)⟩
    have h1 := ih (by omega)
    have h2 := h k r hr
    unfold Bd at h2
    rw [cnt_succ hr]
    omega

set_option maxHeartbeats 400000 in
theorem count_any (A : Option Addr) (n c : Nat) (xs : List Rng) (w : World) (h : Sl w A n c xs) (hB : ∀ (i : Nat) (r : Rng), xs[i]? = some r → Bd r) (hn : n ≤ 1000000) :
    Calls Try.prog 14 #[.slice A n c] w fun e w' => e = .returned (.int .i64 (cnt xs)) ∧ Below w.heap.size w w' := by
  have hlen := Lib.hid h.len
  have HB := Lib.hid hB
  clear hB
  go_enter Try.func14, Try.ntmps14
  go_wp2_with fail
  go_loopw [3, 8] (fun s i wr => ∃ k : Nat, k ≤ n ∧ i = .int .i64 k ∧ s = .int .i64 (cnt (xs.take k)) ∧ Below w.heap.size w wr) (fun _ i _ => n - (intOf i).toNat)
  case atStart => exact ⟨0, Nat.zero_le _, rfl, rfl, Below.refl _ _⟩
  case round =>
    obtain ⟨k, hk, rfl, rfl, hb⟩ := hrel
    have hs := hb.size
    by_cases hlt : k < n
    · obtain ⟨b, off, rfl, hbw, hc⟩ := h.baseIn hb (by omega)
      have hbr : b < wr.heap.size := by omega
      obtain ⟨r, hr⟩ := h.get hlt
      (have c0 : wr.cell? ⟨b, off + k * 3, none⟩ = some (.int .i64 r.src) := Sl.at_ hc hr 0 rfl; have c1 : wr.cell? ⟨b, off + k * 3 + 1, none⟩ = some (.int .i64 r.lo) := Sl.at_ hc hr 1 rfl; have c2 : wr.cell? ⟨b, off + k * 3 + 2, none⟩ = some (.int .i64 r.hi) := Sl.at_ hc hr 2 rfl)
      obtain ⟨e1, e2, e3⟩ := HB.out k r hr
      have hcb := cnt_bd HB.out k (by rw [hlen.out]; omega)
      have HS := Lib.hid (cnt_succ hr)
      clear hr hc
      generalize cnt (xs.take k) = s at *
      obtain ⟨e4, e5⟩ := hcb
      go_wp2_with fail
      go_roundw
      case rel =>
        refine ⟨k + 1, by omega, by go_num, by rw [HS.out], ?_⟩
        (repeat (first | exact hb | exact Below.refl _ _ | (refine Below.alloc ?_ (by (try simp) <;> omega) _) | (refine Below.setCell ?_ (by (try simp) <;> omega) _) | refine Below.drew ?_ | refine below_drewN ?_ _))
      case measure => simp [intOf]; omega
    · obtain rfl : n = k := by omega
      go_wp2_with fail
      go_ret
      refine ⟨ret_int ?_, hb⟩
      rw [List.take_of_length_le (by rw [hlen.out]; omega)]

set_option maxHeartbeats 400000 in
theorem refcount_any (A : Option Addr) (n c : Nat) (xs : List Rng) (w : World) (h : Sl w A n c xs) (hB : ∀ (i : Nat) (r : Rng), xs[i]? = some r → Bd r) (hn : n ≤ 1000000) :
    Calls Try.prog 15 #[.slice A n c] w fun e w' => e = .returned (.int .i64 (cnt xs)) ∧ Below w.heap.size w w' := by
  have hlen := Lib.hid h.len
  have HB := Lib.hid hB
  clear hB
  go_enter Try.func15, Try.ntmps15
  go_wp2_with fail
  go_loopw [3, 4] (fun s i wr => ∃ k : Nat, k ≤ n ∧ i = .int .i64 k ∧ s = .int .i64 (cnt (xs.take k)) ∧ Below w.heap.size w wr) (fun _ i _ => n - (intOf i).toNat)
  case atStart => exact ⟨0, Nat.zero_le _, rfl, rfl, Below.refl _ _⟩
  case round =>
    obtain ⟨k, hk, rfl, rfl, hb⟩ := hrel
    have hs := hb.size
    by_cases hlt : k < n
    · obtain ⟨b, off, rfl, hbw, hc⟩ := h.baseIn hb (by omega)
      have hbr : b < wr.heap.size := by omega
      obtain ⟨r, hr⟩ := h.get hlt
      (have c0 : wr.cell? ⟨b, off + k * 3, none⟩ = some (.int .i64 r.src) := Sl.at_ hc hr 0 rfl; have c1 : wr.cell? ⟨b, off + k * 3 + 1, none⟩ = some (.int .i64 r.lo) := Sl.at_ hc hr 1 rfl; have c2 : wr.cell? ⟨b, off + k * 3 + 2, none⟩ = some (.int .i64 r.hi) := Sl.at_ hc hr 2 rfl)
      obtain ⟨e1, e2, e3⟩ := HB.out k r hr
      have hcb := cnt_bd HB.out k (by rw [hlen.out]; omega)
      have HS := Lib.hid (cnt_succ hr)
      clear hr hc
      generalize cnt (xs.take k) = s at *
      obtain ⟨e4, e5⟩ := hcb
      go_wp2_with ((with_reducible refine wp_region_quiet_lit ?_ ?_ ?_); kernel_rfl; kernel_rfl; (repeat (any_goals (first | go_big_quiet_step (fail) | (refine wpQuiet_step (fun K hK => ?_); go_simp; (first | (refine hK _ ?_; clear hK K) | (split <;> rename_i hg <;> (refine hK _ ?_; clear hK K) <;> (try simp only [Bool.not_eq_true] at hg) <;> (first | simp only [Int.not_lt.2 hg, decide_false] | simp only [Int.not_le.1 hg, decide_true] | simp only [hg, decide_true, decide_false] | skip))))))); all_goals (refine wpQuiet_nil ?_; intro _ hw'; obtain ⟨nq, hw''⟩ := hw'; subst hw''))
      go_roundw
      case rel =>
        refine ⟨k + 1, by omega, by go_num, by rw [HS.out]; go_num, ?_⟩
        (repeat (first | exact hb | exact Below.refl _ _ | (refine Below.alloc ?_ (by (try simp) <;> omega) _) | (refine Below.setCell ?_ (by (try simp) <;> omega) _) | refine Below.drew ?_ | refine below_drewN ?_ _))
      case measure => simp [intOf]; omega
    · obtain rfl : n = k := by omega
      go_wp2_with fail
      go_ret
      refine ⟨ret_int ?_, hb⟩
      rw [List.take_of_length_le (by rw [hlen.out]; omega)]

/-- the gaps of a source, from a number on -/
def gaps (src : Int) : Int → List Rng → List Rng
  | _, [] => []
  | next, r :: l => if r.src ≠ src then gaps src next l else if r.lo > next then ⟨src, next, r.lo - 1⟩ :: gaps src (r.hi + 1) l else gaps src (r.hi + 1) l
/-- the first rounds of it: what has been collected, and the next number -/
def gapsTo (src : Int) : Int × List Rng → List Rng → Int × List Rng
  | s, [] => s
  | s, r :: l => gapsTo src (if r.src ≠ src then s else (r.hi + 1, if r.lo > s.1 then s.2 ++ [⟨src, s.1, r.lo - 1⟩] else s.2)) l
theorem gapsTo_append (src : Int) (s : Int × List Rng) (a b : List Rng) : gapsTo src s (a ++ b) = gapsTo src (gapsTo src s a) b := by
  induction a generalizing s with
  | nil => rfl
  | cons x a ih => exact ih _
theorem gapsTo_eq (src : Int) (l : List Rng) : ∀ s : Int × List Rng, (gapsTo src s l).2 = s.2 ++ gaps src s.1 l := by
  induction l with
  | nil => intro s; simp [gapsTo, gaps]
  | cons r l ih =>
    intro s
    simp only [gapsTo, gaps]
    rw [ih]
    by_cases h : r.src ≠ src
    · simp only [if_pos h]
    · simp only [if_neg h]
      by_cases h2 : r.lo > s.1
      · simp only [if_pos h2]; simp
      · simp only [if_neg h2]
theorem gapsTo_succ {src : Int} {s : Int × List Rng} {xs : List Rng} {k : Nat} {r : Rng} (h : xs[k]? = some r) :
    gapsTo src s (xs.take (k + 1)) = (if r.src ≠ src then gapsTo src s (xs.take k) else (r.hi + 1, if r.lo > (gapsTo src s (xs.take k)).1 then (gapsTo src s (xs.take k)).2 ++ [⟨src, (gapsTo src s (xs.take k)).1, r.lo - 1⟩] else (gapsTo src s (xs.take k)).2)) := by
  rw [take_succ h, gapsTo_append]; rfl
theorem gapsTo_bd {src : Int} {xs : List Rng} (h : ∀ (i : Nat) (r : Rng), xs[i]? = some r → Bd r) : ∀ k, k ≤ xs.length → 1 ≤ (gapsTo src (1, []) (xs.take k)).1 ∧ (gapsTo src (1, []) (xs.take k)).1 ≤ 1000000000 ∧ (gapsTo src (1, []) (xs.take k)).2.length ≤ k := by
  intro k
  induction k with
  | zero => intro _; simp [gapsTo]
  | succ k ih =>
    intro hk
    obtain ⟨r, hr⟩ : ∃ r, xs[k]? = some r := ⟨xs[k], List.getElem?_eq_getElem (by omega)⟩
    have h1 := ih (by omega)
    have h2 := h k r hr
    unfold Bd at h2
    rw [gapsTo_succ hr]
    split
    · omega
    · refine ⟨by dsimp only; omega, by dsimp only; omega, ?_⟩
      dsimp only
      split
      · simp; omega
      · omega

theorem info_rng : (Try.prog.info? 30).map (fun i => (i.zero, i.size, i.bytes)) = some (some (.agg #[.int .i64 0, .int .i64 0, .int .i64 0]), 3, 24) := by kernel_rfl

set_option maxHeartbeats 400000 in
theorem missing_any (A : Option Addr) (n c : Nat) (xs : List Rng) (src : Int) (w : World) (h : Sl w A n c xs) (hB : ∀ (i : Nat) (r : Rng), xs[i]? = some r → Bd r) (hn : n ≤ 100000) :
    Calls Try.prog 16 #[.slice A n c, .int .i64 src] w fun e w' => ∃ v, e = .returned v ∧ Ow w' w.heap.size 30 v (gaps src 1 xs) ∧ Below w.heap.size w w' := by
  have hlen := Lib.hid h.len
  have HB := Lib.hid hB
  clear hB
  go_enter Try.func16, Try.ntmps16
  go_wp2_with fail
  go_loopw [5, 6, 11] (fun v nx i wr => ∃ k : Nat, k ≤ n ∧ i = .int .i64 k ∧ nx = .int .i64 (gapsTo src (1, []) (xs.take k)).1 ∧ Ow wr w.heap.size 30 v (gapsTo src (1, []) (xs.take k)).2 ∧ Below w.heap.size w wr) (fun _ _ i _ => n - (intOf i).toNat)
  case atStart => exact ⟨0, Nat.zero_le _, rfl, rfl, Ow.nil_ _ _ _, Below.refl _ _⟩
  case round =>
    obtain ⟨k, hk, rfl, rfl, hown, hb⟩ := hrel
    have hs := hb.size
    by_cases hlt : k < n
    · obtain ⟨b, off, rfl, hbw, hc⟩ := h.baseIn hb (by omega)
      have hbr : b < wr.heap.size := by omega
      obtain ⟨r, hr⟩ := h.get hlt
      (have c0 : wr.cell? ⟨b, off + k * 3, none⟩ = some (.int .i64 r.src) := Sl.at_ hc hr 0 rfl; have c1 : wr.cell? ⟨b, off + k * 3 + 1, none⟩ = some (.int .i64 r.lo) := Sl.at_ hc hr 1 rfl; have c2 : wr.cell? ⟨b, off + k * 3 + 2, none⟩ = some (.int .i64 r.hi) := Sl.at_ hc hr 2 rfl)
      obtain ⟨e1, e2, e3⟩ := HB.out k r hr
      have hgb := gapsTo_bd (src := src) HB.out k (by rw [hlen.out]; omega)
      have HS := Lib.hid (gapsTo_succ (src := src) (s := (1, [])) hr)
      clear hr hc
      generalize gapsTo src (1, []) (xs.take k) = s at *
      obtain ⟨nx, l⟩ := s
      dsimp only at *
      obtain ⟨e4, e5, e6⟩ := hgb
      go_wp2_with (at_builtin; go_must (
                   refine wpl_append1 _ rfl (.tmp 23) (.tmp 30) 22 rfl w.heap.size 30 _ 24 Try.underlying22 info_rng rfl u5 l rfl (((hown.alloc _).alloc _)) _ ⟨src, nx, r.lo - 1⟩ rfl (fun j u hu => cells_new _ _ _ _ _ (by simp) u hu) (by omega) (by omega) (by (try simp) <;> omega) ?_
                   intro v1 w1 hown1 hu1
                   have hg1 := hu1.grew
                   clear hu1
                   have hk1 := grown_fresh hown hg1 (Nat.le_refl _) (by (try simp) <;> omega)
                   have hz1 := hg1.size
                   simp at hz1
                   have hb1 := grown_below hown hg1 (w0 := w) (by (repeat (first | exact hb | exact Below.refl _ _ | (refine Below.alloc ?_ (by (try simp) <;> omega) _) | (refine Below.setCell ?_ (by (try simp) <;> omega) _) | refine Below.drew ?_ | refine below_drewN ?_ _))) (by (try simp) <;> omega)
                   clear hg1))
      all_goals
        go_roundw
        case rel =>
          refine ⟨k + 1, by omega, by go_num, ?_, ?_, ?_⟩
          · rw [HS.out]
            first
              | rw [if_pos (by simpa using ‹(r.src != src) = true›)]
              | rw [if_neg (by simpa using ‹(r.src != src) = false›)]
          · rw [HS.out]
            first
              | (rw [if_pos (by simpa using ‹(r.src != src) = true›)]; exact hown.alloc _)
              | (rw [if_neg (by simpa using ‹(r.src != src) = false›)]
                 dsimp only
                 first
                   | (rw [if_pos (by omega)]; exact hown1)
                   | (rw [if_neg (by omega)]; exact hown.alloc _))
          · first
              | exact hb1
              | (repeat (first | exact hb | exact Below.refl _ _ | (refine Below.alloc ?_ (by (try simp) <;> omega) _) | (refine Below.setCell ?_ (by (try simp) <;> omega) _) | refine Below.drew ?_ | refine below_drewN ?_ _))
        case measure => simp [intOf]; omega
    · obtain rfl : n = k := by omega
      go_wp2_with fail
      go_ret
      refine ⟨_, rfl, ?_, hb⟩
      rw [List.take_of_length_le (by rw [hlen.out]; omega), gapsTo_eq] at hown
      exact hown

set_option maxHeartbeats 400000 in
theorem refmissing_any (A : Option Addr) (n c : Nat) (xs : List Rng) (src : Int) (w : World) (h : Sl w A n c xs) (hB : ∀ (i : Nat) (r : Rng), xs[i]? = some r → Bd r) (hn : n ≤ 100000) :
    Calls Try.prog 18 #[.slice A n c, .int .i64 src] w fun e w' => ∃ v, e = .returned v ∧ Ow w' w.heap.size 30 v (gaps src 1 xs) ∧ Below w.heap.size w w' := by
  have hlen := Lib.hid h.len
  have HB := Lib.hid hB
  clear hB
  go_enter Try.func18, Try.ntmps18
  go_wp2_with fail
  go_loopw [5, 6, 7] (fun v nx i wr => ∃ k : Nat, k ≤ n ∧ i = .int .i64 k ∧ nx = .int .i64 (gapsTo src (1, []) (xs.take k)).1 ∧ Ow wr w.heap.size 30 v (gapsTo src (1, []) (xs.take k)).2 ∧ Below w.heap.size w wr) (fun _ _ i _ => n - (intOf i).toNat)
  case atStart => exact ⟨0, Nat.zero_le _, rfl, rfl, Ow.nil_ _ _ _, Below.refl _ _⟩
  case round =>
    obtain ⟨k, hk, rfl, rfl, hown, hb⟩ := hrel
    have hs := hb.size
    by_cases hlt : k < n
    · obtain ⟨b, off, rfl, hbw, hc⟩ := h.baseIn hb (by omega)
      have hbr : b < wr.heap.size := by omega
      obtain ⟨r, hr⟩ := h.get hlt
      (have c0 : wr.cell? ⟨b, off + k * 3, none⟩ = some (.int .i64 r.src) := Sl.at_ hc hr 0 rfl; have c1 : wr.cell? ⟨b, off + k * 3 + 1, none⟩ = some (.int .i64 r.lo) := Sl.at_ hc hr 1 rfl; have c2 : wr.cell? ⟨b, off + k * 3 + 2, none⟩ = some (.int .i64 r.hi) := Sl.at_ hc hr 2 rfl)
      obtain ⟨e1, e2, e3⟩ := HB.out k r hr
      have hgb := gapsTo_bd (src := src) HB.out k (by rw [hlen.out]; omega)
      have HS := Lib.hid (gapsTo_succ (src := src) (s := (1, [])) hr)
      clear hr hc
      generalize gapsTo src (1, []) (xs.take k) = s at *
      obtain ⟨nx, l⟩ := s
      dsimp only at *
      obtain ⟨e4, e5, e6⟩ := hgb
      go_wp2_with (first | (at_builtin; go_must (
                   refine wpl_append1 _ rfl (.tmp 28) (.tmp 38) 22 rfl w.heap.size 30 _ 24 Try.underlying22 info_rng rfl u5 l rfl ((hown.alloc _)) _ ⟨src, nx, r.lo - 1⟩ rfl (fun j u hu => cells_new _ _ _ _ _ (by simp) u hu) (by omega) (by omega) (by (try simp) <;> omega) ?_
                   intro v1 w1 hown1 hu1
                   have hg1 := hu1.grew
                   clear hu1
                   have hk1 := grown_old hown hg1 (by (try simp) <;> omega)
                   have hz1 := hg1.size
                   simp at hz1
                   have hb1 := grown_below hown hg1 (w0 := w) (by (repeat (first | exact hb | exact Below.refl _ _ | (refine Below.alloc ?_ (by (try simp) <;> omega) _) | (refine Below.setCell ?_ (by (try simp) <;> omega) _) | refine Below.drew ?_ | refine below_drewN ?_ _))) (by (try simp) <;> omega)
                   clear hg1)) | ((with_reducible refine wp_region_quiet_lit ?_ ?_ ?_); kernel_rfl; kernel_rfl; (repeat (any_goals (first | go_big_quiet_step (fail) | (refine wpQuiet_step (fun K hK => ?_); go_simp; (first | (refine hK _ ?_; clear hK K) | (split <;> rename_i hg <;> (refine hK _ ?_; clear hK K) <;> (try simp only [Bool.not_eq_true] at hg) <;> (first | simp only [Int.not_lt.2 hg, decide_false] | simp only [Int.not_le.1 hg, decide_true] | simp only [hg, decide_true, decide_false] | skip))))))); all_goals (refine wpQuiet_nil ?_; intro _ hw'; obtain ⟨nq, hw''⟩ := hw'; subst hw'')))
      all_goals
        go_roundw
        case rel =>
          refine ⟨k + 1, by omega, by go_num, ?_, ?_, ?_⟩
          · rw [HS.out]
            first
              | rw [if_pos (by simpa using ‹(r.src != src) = true›)]
              | rw [if_neg (by simpa using ‹(r.src != src) = false›)]
          · rw [HS.out]
            first
              | (rw [if_pos (by simpa using ‹(r.src != src) = true›)]; exact hown)
              | (rw [if_neg (by simpa using ‹(r.src != src) = false›)]
                 dsimp only
                 first
                   | (rw [if_pos (by omega)]; exact hown1)
                   | (rw [if_neg (by omega)]; exact hown))
          · first
              | exact hb1
              | (repeat (first | exact hb | exact Below.refl _ _ | (refine Below.alloc ?_ (by (try simp) <;> omega) _) | (refine Below.setCell ?_ (by (try simp) <;> omega) _) | refine Below.drew ?_ | refine below_drewN ?_ _))
        case measure => simp [intOf]; omega
    · obtain rfl : n = k := by omega
      go_wp2_with fail
      go_ret
      refine ⟨_, rfl, ?_, hb⟩
      rw [List.take_of_length_le (by rw [hlen.out]; omega), gapsTo_eq] at hown
      exact hown

end Dd
end Go.Proofs.Ytdcekckghlpamaa
