/-
  Dedup, the law on Missing: plain law and walk. No condition.
-/
import Derived.Test.YtdcekckghlpamaaDedM
import Derived.BigQuiet
import Derived.StillTailTactics
import Derived.Lib.Overlaps
import Derived.Deep.DeepCutAuto
set_option maxRecDepth 100000
set_option linter.unusedVariables false
set_option linter.unusedSimpArgs false
namespace Go.Proofs.Ytdcekckghlpamaa
open Go.RowKit

namespace Dd

def sumS (src : Int) : List Rng → Int
  | [] => 0
  | r :: l => (if r.src = src then r.hi - r.lo + 1 else 0) + sumS src l
def lastS (src : Int) : Int → List Rng → Int
  | d, [] => d
  | d, r :: l => lastS src (if r.src = src then r.hi else d) l
theorem sumS_append (src : Int) (a b : List Rng) : sumS src (a ++ b) = sumS src a + sumS src b := by
  induction a with
  | nil => simp [sumS]
  | cons x a ih => simp only [List.cons_append, sumS, ih]; omega
theorem lastS_append (src : Int) (a b : List Rng) : ∀ d, lastS src d (a ++ b) = lastS src (lastS src d a) b := by
  induction a with
  | nil => intro d; rfl
  | cons x a ih => intro d; simp only [List.cons_append, lastS, ih]
theorem gaps_sum (src : Int) : ∀ (xs : List Rng) (next : Int), (∀ r ∈ xs, Rg r ∧ (r.src = src → next ≤ r.lo)) → xs.Pairwise Lt → cnt (gaps src next xs) + sumS src xs = lastS src (next - 1) xs - (next - 1) := by
  intro xs
  induction xs with
  | nil => intro next _ _; simp [gaps, cnt, sumS, lastS]
  | cons r l ih =>
    intro next h hp
    obtain ⟨hp1, hp2⟩ := List.pairwise_cons.1 hp
    obtain ⟨hr, hn⟩ := h r (by simp)
    by_cases hq : r.src = src
    · have h3 : ∀ x ∈ l, Rg x ∧ (x.src = src → r.hi + 1 ≤ x.lo) := fun x hx => ⟨(h x (by simp [hx])).1, fun he => by
        have := hp1 x hx
        unfold Lt at this
        omega⟩
      have h4 := ih (r.hi + 1) h3 hp2
      have hn := hn hq
      unfold Rg at hr
      have e1 : lastS src (next - 1) (r :: l) = lastS src r.hi l := by simp only [lastS, if_pos hq]
      have e2 : sumS src (r :: l) = (r.hi - r.lo + 1) + sumS src l := by simp only [sumS, if_pos hq]
      have e3 : r.hi + 1 - 1 = r.hi := by omega
      rw [e3] at h4
      by_cases hlo : r.lo > next
      · have e4 : gaps src next (r :: l) = ⟨src, next, r.lo - 1⟩ :: gaps src (r.hi + 1) l := by simp only [gaps]; rw [if_neg (by simpa using hq), if_pos hlo]
        rw [e4, e1, e2]
        simp only [cnt]
        omega
      · have e4 : gaps src next (r :: l) = gaps src (r.hi + 1) l := by simp only [gaps]; rw [if_neg (by simpa using hq), if_neg hlo]
        rw [e4, e1, e2]
        omega
    · have h4 := ih next (fun x hx => h x (by simp [hx])) hp2
      have e1 : lastS src (next - 1) (r :: l) = lastS src (next - 1) l := by simp only [lastS, if_neg hq]
      have e2 : sumS src (r :: l) = sumS src l := by simp only [sumS, if_neg hq]; omega
      have e4 : gaps src next (r :: l) = gaps src next l := by simp only [gaps]; rw [if_pos hq]
      rw [e4, e1, e2]
      exact h4
theorem gaps_all {src : Int} {xs : List Rng} (h : Can xs) : sumS src xs + cnt (gaps src 1 xs) = lastS src 0 xs := by
  have := gaps_sum src xs 1 (fun r hr => ⟨h.rg r hr, fun _ => (h.rg r hr).2.2.1⟩) h.pw
  simp at this
  omega
theorem gaps_bd (src : Int) : ∀ (xs : List Rng) (next : Int), (∀ r ∈ xs, Rg r) → 1 ≤ next → (∀ g ∈ gaps src next xs, Bd g) ∧ (gaps src next xs).length ≤ xs.length := by
  intro xs
  induction xs with
  | nil => intro next _ _; simp [gaps]
  | cons r l ih =>
    intro next h hn
    have hr := h r (by simp)
    unfold Rg at hr
    have h1 := ih next (fun x hx => h x (by simp [hx])) hn
    have h2 := ih (r.hi + 1) (fun x hx => h x (by simp [hx])) (by omega)
    unfold gaps
    split
    · exact ⟨h1.1, by simp; omega⟩
    · split
      · refine ⟨fun g hg => ?_, by simp; omega⟩
        rcases List.mem_cons.1 hg with rfl | hg
        · unfold Bd; dsimp only; omega
        · exact h2.1 g hg
      · exact ⟨h2.1, by simp; omega⟩
theorem sumS_succ {src : Int} {xs : List Rng} {k : Nat} {r : Rng} (h : xs[k]? = some r) : sumS src (xs.take (k + 1)) = sumS src (xs.take k) + (if r.src = src then r.hi - r.lo + 1 else 0) := by
  rw [take_succ h, sumS_append]; simp [sumS]
theorem lastS_succ {src : Int} {xs : List Rng} {k : Nat} {r : Rng} (h : xs[k]? = some r) : lastS src 0 (xs.take (k + 1)) = (if r.src = src then r.hi else lastS src 0 (xs.take k)) := by
  rw [take_succ h, lastS_append]; simp [lastS]
theorem sumS_bd {src : Int} {xs : List Rng} (h : ∀ (i : Nat) (r : Rng), xs[i]? = some r → Bd r) : ∀ k, k ≤ xs.length → 0 ≤ sumS src (xs.take k) ∧ sumS src (xs.take k) ≤ k * 999999999 := by
  intro k
  induction k with
  | zero => intro _; simp [sumS]
  | succ k ih =>
    intro hk
    have h1 := ih (by omega)
    have hr := List.getElem?_eq_getElem (show k < xs.length by omega)
    have h2 := h k _ hr
    unfold Bd at h2
    rw [sumS_succ hr]
    split <;> omega

set_option maxHeartbeats 1000000 in
theorem missing_law (A : Option Addr) (n c : Nat) (xs : List Rng) (src : Int) (w : World) (h : Sl w A n c xs) :
    Calls Try.prog 4 #[.slice A n c, .int .i64 src] w fun e w' => e = .returned (.bool true) ∧ Below w.heap.size w w' := by
  have HLEN := Lib.hid h.len
  have H := Lib.hid h
  clear h
  by_cases hl : lightB xs = true
  · have LC := Lib.hid (light_can hl)
    have hn100 : n ≤ 100 := by have := LC.out.2; have := HLEN.out; omega
    go_enter Try.func4, Try.ntmps4
    go_wp2_with fail
    refine (light_any A n c xs _ H.out).mono ?_
    rintro e w1 ⟨rfl, hb1⟩
    have H1 := Lib.hid (H.out.below hb1)
    go_wp2_with fail
    refine (missing_any A n c xs src _ H1.out LC.out.1.bd (by omega)).mono ?_
    rintro e w2 ⟨v2, rfl, ho2, hb2⟩
    have H2 := Lib.hid (H1.out.below hb2)
    obtain ⟨g, hg⟩ : ∃ g, gaps src 1 xs = g := ⟨_, rfl⟩
    have hgb := gaps_bd src xs 1 LC.out.1.rg (by omega)
    have HGA := Lib.hid (gaps_all (src := src) LC.out.1)
    rw [hg] at ho2 hgb HGA
    have HG := Lib.hid hg
    clear hg
    obtain ⟨A2, c2, rfl, hs2⟩ := ho2.sl
    clear ho2
    obtain ⟨m, hm⟩ : ∃ m, g.length = m := ⟨_, rfl⟩
    have hm100 : m ≤ 100 := by have := hgb.2; have := HLEN.out; omega
    rw [hm] at hs2
    have HGB0 : ∀ (i : Nat) (r : Rng), g[i]? = some r → Bd r := fun i r hr => hgb.1 r (List.mem_of_getElem? hr)
    have HGB := Lib.hid HGB0
    clear HGB0
    have HS2 := Lib.hid hs2
    have HM := Lib.hid hm
    clear hs2 hgb
    rw [hm]
    clear hm
    go_wp2_with fail
    refine (refmissing_any A n c xs src _ H2.out LC.out.1.bd (by omega)).mono ?_
    rintro e w3 ⟨v3, rfl, ho3, hb3⟩
    rw [HG.out] at ho3
    obtain ⟨A3, c3, rfl, hs3⟩ := ho3.sl
    have HS3 := Lib.hid hs3
    have H3 := Lib.hid (H2.out.below hb3)
    have HS23 := Lib.hid (HS2.out.below hb3)
    clear ho3 hs3
    go_wp2_with fail
    refine (same_any A2 A3 _ _ c2 c3 g g _ HS23.out HS3.out).mono ?_
    rintro e w4 ⟨rfl, hb4⟩
    have H4 := Lib.hid (H3.out.below hb4)
    have HS4 := Lib.hid (HS23.out.below hb4)
    have hz1 := hb1.size
    have hz2 := hb2.size
    have hz3 := hb3.size
    have hz4 := hb4.size
    have hbb := ((hb1.trans (hb2.mono (by omega))).trans (hb3.mono (by omega))).trans (hb4.mono (by omega))
    clear hb1 hb2 hb3 hb4 HS3 HS23 H1 H2 H3 HS2
    go_wp2_with fail
    go_loopw [6, 7, 8] (fun s l i wr => ∃ k : Nat, k ≤ n ∧ i = .int .i64 k ∧ s = .int .i64 (sumS src (xs.take k)) ∧ l = .int .i64 (lastS src 0 (xs.take k)) ∧ Below w4.heap.size w4 wr) (fun _ _ i _ => n - (intOf i).toNat)
    case atStart => exact ⟨0, Nat.zero_le _, rfl, rfl, rfl, Below.refl _ _⟩
    case round =>
      obtain ⟨k, hk, rfl, rfl, rfl, hb⟩ := hrel
      have hs := hb.size
      by_cases hlt : k < n
      · obtain ⟨b, off, rfl, hbw, hc⟩ := H4.out.baseIn hb (by omega)
        have hbr : b < wr.heap.size := by omega
        obtain ⟨r, hr⟩ := H4.out.get hlt
        (have c0 : wr.cell? ⟨b, off + k * 3, none⟩ = some (.int .i64 r.src) := Sl.at_ hc hr 0 rfl; have c1 : wr.cell? ⟨b, off + k * 3 + 1, none⟩ = some (.int .i64 r.lo) := Sl.at_ hc hr 1 rfl; have c2 : wr.cell? ⟨b, off + k * 3 + 2, none⟩ = some (.int .i64 r.hi) := Sl.at_ hc hr 2 rfl)
        obtain ⟨e1, e2, e3⟩ := LC.out.1.bd k r hr
        have hcb := sumS_bd (src := src) LC.out.1.bd k (by rw [HLEN.out]; omega)
        have HS := Lib.hid (sumS_succ (src := src) hr)
        have HL := Lib.hid (lastS_succ (src := src) hr)
        clear hr hc
        generalize sumS src (xs.take k) = s at *
        generalize lastS src 0 (xs.take k) = l at *
        obtain ⟨e4, e5⟩ := hcb
        have hw1 : IntKind.i64.wrap (s + r.hi) = s + r.hi := IntWalk.i64_in _ (by omega)
        have hw2 : IntKind.i64.wrap (s + r.hi - r.lo) = s + r.hi - r.lo := IntWalk.i64_in _ (by omega)
        have hw3 : IntKind.i64.wrap (s + r.hi - r.lo + 1) = s + r.hi - r.lo + 1 := IntWalk.i64_in _ (by omega)
        by_cases hq : r.src = src
        · have fq : (r.src == src) = true := by simp [hq]
          have HQ := Lib.hid hq
          clear hq
          go_wp2_with ((with_reducible refine wp_region_quiet_lit ?_ ?_ ?_); kernel_rfl; kernel_rfl; (repeat (any_goals (first | go_big_quiet_step (fail) | (refine wpQuiet_step (fun K hK => ?_); go_simp; (first | (refine hK _ ?_; clear hK K) | (split <;> rename_i hg <;> (refine hK _ ?_; clear hK K) <;> (try simp only [Bool.not_eq_true] at hg) <;> (first | simp only [Int.not_lt.2 hg, decide_false] | simp only [Int.not_le.1 hg, decide_true] | simp only [hg, decide_true, decide_false] | skip))))))); all_goals (refine wpQuiet_nil ?_; intro _ hw'; obtain ⟨nq, hw''⟩ := hw'; subst hw''))
          go_roundw
          case rel =>
            refine ⟨k + 1, by omega, by go_num, by rw [HS.out, if_pos HQ.out]; exact (by congr 1; omega), by rw [HL.out, if_pos HQ.out], ?_⟩
            (repeat (first | exact hb | exact Below.refl _ _ | (refine Below.alloc ?_ (by (try simp) <;> omega) _) | (refine Below.setCell ?_ (by (try simp) <;> omega) _) | refine Below.drew ?_ | refine below_drewN ?_ _))
          case measure => simp [intOf]; omega
        · have fq : (r.src == src) = false := by simp [hq]
          have HQ := Lib.hid hq
          clear hq
          go_wp2_with ((with_reducible refine wp_region_quiet_lit ?_ ?_ ?_); kernel_rfl; kernel_rfl; (repeat (any_goals (first | go_big_quiet_step (fail) | (refine wpQuiet_step (fun K hK => ?_); go_simp; (first | (refine hK _ ?_; clear hK K) | (split <;> rename_i hg <;> (refine hK _ ?_; clear hK K) <;> (try simp only [Bool.not_eq_true] at hg) <;> (first | simp only [Int.not_lt.2 hg, decide_false] | simp only [Int.not_le.1 hg, decide_true] | simp only [hg, decide_true, decide_false] | skip))))))); all_goals (refine wpQuiet_nil ?_; intro _ hw'; obtain ⟨nq, hw''⟩ := hw'; subst hw''))
          go_roundw
          case rel =>
            refine ⟨k + 1, by omega, by go_num, by rw [HS.out, if_neg HQ.out, Int.add_zero], by rw [HL.out, if_neg HQ.out], ?_⟩
            (repeat (first | exact hb | exact Below.refl _ _ | (refine Below.alloc ?_ (by (try simp) <;> omega) _) | (refine Below.setCell ?_ (by (try simp) <;> omega) _) | refine Below.drew ?_ | refine below_drewN ?_ _))
          case measure => simp [intOf]; omega
      · obtain rfl : n = k := by omega
        have hcb := sumS_bd (src := src) LC.out.1.bd n (by rw [HLEN.out]; omega)
        have ht : List.take n xs = xs := List.take_of_length_le (by rw [HLEN.out]; omega)
        rw [ht] at hcb
        obtain ⟨e4, e5⟩ := hcb
        rw [ht]
        clear ht
        obtain ⟨S, hS⟩ : ∃ S, sumS src xs = S := ⟨_, rfl⟩
        obtain ⟨L, hL⟩ : ∃ L, lastS src 0 xs = L := ⟨_, rfl⟩
        rw [hS, hL] at HGA
        rw [hS] at e4 e5
        rw [hS, hL]
        clear hS hL
        have hbb2 := hbb.trans (hb.mono (by omega))
        have HG5 := Lib.hid (HS4.out.below hb)
        go_wp2_with fail
        go_loopw [6, 9] (fun s i wq => ∃ k : Nat, k ≤ m ∧ i = .int .i64 k ∧ s = .int .i64 (S + cnt (g.take k)) ∧ Below wr.heap.size wr wq) (fun _ i _ => m - (intOf i).toNat)
        case atStart => exact ⟨0, Nat.zero_le _, rfl, by simp [cnt], Below.refl _ _⟩
        case round =>
          obtain ⟨k, hk, rfl, rfl, hd⟩ := hrel
          have hds := hd.size
          by_cases hltm : k < m
          · obtain ⟨b, off, rfl, hbw, hc⟩ := HG5.out.baseIn hd (by omega)
            have hbr : b < wr.heap.size := by omega
            obtain ⟨r, hr⟩ := HG5.out.get hltm
            (have c0 : wr.cell? ⟨b, off + k * 3, none⟩ = some (.int .i64 r.src) := Sl.at_ hc hr 0 rfl; have c1 : wr.cell? ⟨b, off + k * 3 + 1, none⟩ = some (.int .i64 r.lo) := Sl.at_ hc hr 1 rfl; have c2 : wr.cell? ⟨b, off + k * 3 + 2, none⟩ = some (.int .i64 r.hi) := Sl.at_ hc hr 2 rfl)
            obtain ⟨e1, e2, e3⟩ := HGB.out k r hr
            have hcb := cnt_bd HGB.out k (by rw [HM.out]; omega)
            have HS := Lib.hid (cnt_succ hr)
            clear hr hc
            generalize cnt (g.take k) = t at *
            obtain ⟨e6, e7⟩ := hcb
            have hw1 : IntKind.i64.wrap (S + t + r.hi) = S + t + r.hi := IntWalk.i64_in _ (by omega)
            have hw2 : IntKind.i64.wrap (S + t + r.hi - r.lo) = S + t + r.hi - r.lo := IntWalk.i64_in _ (by omega)
            have hw3 : IntKind.i64.wrap (S + t + r.hi - r.lo + 1) = S + t + r.hi - r.lo + 1 := IntWalk.i64_in _ (by omega)
            go_wp2_with ((with_reducible refine wp_region_quiet_lit ?_ ?_ ?_); kernel_rfl; kernel_rfl; (repeat (any_goals (first | go_big_quiet_step (fail) | (refine wpQuiet_step (fun K hK => ?_); go_simp; (first | (refine hK _ ?_; clear hK K) | (split <;> rename_i hg <;> (refine hK _ ?_; clear hK K) <;> (try simp only [Bool.not_eq_true] at hg) <;> (first | simp only [Int.not_lt.2 hg, decide_false] | simp only [Int.not_le.1 hg, decide_true] | simp only [hg, decide_true, decide_false] | skip))))))); all_goals (refine wpQuiet_nil ?_; intro _ hw'; obtain ⟨nq, hw''⟩ := hw'; subst hw''))
            go_roundw
            case rel =>
              refine ⟨k + 1, by omega, by go_num, by rw [HS.out]; exact (by congr 1; omega), ?_⟩
              (repeat (first | exact hd | exact Below.refl _ _ | (refine Below.alloc ?_ (by (try simp) <;> omega) _) | (refine Below.setCell ?_ (by (try simp) <;> omega) _) | refine Below.drew ?_ | refine below_drewN ?_ _))
            case measure => simp [intOf]; omega
          · obtain rfl : m = k := by omega
            have ht2 : List.take m g = g := List.take_of_length_le (by rw [HM.out]; omega)
            rw [ht2]
            clear ht2
            have hf : ((S + cnt g) == L) = true := by simp; exact HGA.out
            go_wp2_with fail
            refine (awake_any _).mono ?_
            rintro e w7 ⟨rfl, hb7⟩
            have hbe := (hbb2.trans (hd.mono (by omega))).trans (hb7.mono (by omega))
            go_wp2_with fail
            go_ret
            exact ⟨rfl, hbe⟩
  · have hl' : lightB xs = false := by simpa using hl
    clear hl
    go_enter Try.func4, Try.ntmps4
    go_wp2_with fail
    refine (light_any A n c xs _ H.out).mono ?_
    rintro e w1 ⟨rfl, hb1⟩
    have hz1 := hb1.size
    go_wp2_with fail
    refine (awake_any _).mono ?_
    rintro e w2 ⟨rfl, hb2⟩
    have hbb := hb1.trans (hb2.mono (by omega))
    go_wp2_with fail
    go_ret
    exact ⟨rfl, hbb⟩

end Dd
end Go.Proofs.Ytdcekckghlpamaa
