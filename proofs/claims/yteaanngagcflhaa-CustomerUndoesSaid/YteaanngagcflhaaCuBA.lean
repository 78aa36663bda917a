/-
  Customers: the reference's Same of texts, accounts, subscriptions, customers, events. No condition.
-/
import Derived.Test.YteaanngagcflhaaCuAK
import Derived.Test.YteaanngagcflhaaCuAF
import Derived.BigQuiet
import Derived.StillTailTactics
import Derived.Lib.Overlaps
import Derived.Deep.DeepCutAuto
import Derived.Deep.RegionWith
import Derived.Laws.RangeAny
set_option maxRecDepth 100000
set_option linter.unusedVariables false
set_option linter.unusedSimpArgs false
namespace Go.Proofs.Yteaanngagcflhaa
open Go.RowKit

namespace Cu
/-- the answer of a function that says whether two things are equal -/
def SaysEq {α : Type} (r : Ending) (x y : α) : Prop := ∃ q : Bool, r = .returned (.bool q) ∧ (q = true ↔ x = y)
theorem tl_inj {a b : ByteArray} : a.toList = b.toList ↔ a = b := by
  constructor
  · intro h
    rw [Lib.toList_data, Lib.toList_data] at h
    exact ByteArray.ext (Array.ext' h)
  · intro h; rw [h]
theorem be_t {α : Type} [BEq α] [LawfulBEq α] {x y : α} (h : x = y) : (x == y) = true ∧ (x != y) = false := by subst h; simp
theorem be_f {α : Type} [BEq α] [LawfulBEq α] {x y : α} (h : ¬ x = y) : (x == y) = false ∧ (x != y) = true := by simp [h]
theorem bs_t {x y : ByteArray} (h : x = y) : (x.toList == y.toList) = true ∧ (x.toList != y.toList) = false := be_t (by rw [h])
theorem bs_f {x y : ByteArray} (h : ¬ x = y) : (x.toList == y.toList) = false ∧ (x.toList != y.toList) = true := be_f (fun e => h (tl_inj.1 e))
theorem take_ne {α : Type} {xs ys : List α} {k : Nat} {x y : α} (hx : xs[k]? = some x) (hy : ys[k]? = some y) (h : ¬ x = y) : ¬ xs = ys := fun e => by subst e; rw [hx] at hy; cases hy; exact h rfl
theorem take_eq {α : Type} {xs ys : List α} {k : Nat} {x y : α} (hx : xs[k]? = some x) (hy : ys[k]? = some y) (h : x = y) (ht : xs.take k = ys.take k) : xs.take (k + 1) = ys.take (k + 1) := by
  rw [List.take_add_one, List.take_add_one, hx, hy, ht, h]
theorem take_all {α : Type} {xs ys : List α} {k : Nat} (hx : xs.length = k) (hy : ys.length = k) (ht : xs.take k = ys.take k) : xs = ys := by
  rw [List.take_of_length_le (by omega), List.take_of_length_le (by omega)] at ht; exact ht
theorem len_ne {α : Type} {xs ys : List α} {n m : Nat} (hx : xs.length = n) (hy : ys.length = m) (h : ¬ n = m) : ¬ xs = ys := fun e => by subst e; omega
set_option maxHeartbeats 8000000 in
theorem SameTexts_any (A B : Option Addr) (n c m d : Nat) (xs ys : List ByteArray) (w : World) (h : Sl w A n c xs) (h2 : Sl w B m d ys) :
    Calls Try.prog 48 #[.slice A n c, .slice B m d] w fun r w' => SaysEq r xs ys ∧ Below w.heap.size w w' := by
  have hn := h.nmax
  have H := Lib.hid h
  have H2 := Lib.hid h2
  have HL := Lib.hid h.len
  have HL2 := Lib.hid h2.len
  clear h h2
  go_enter Try.func48, Try.ntmps48
  by_cases hnm : n = m
  case neg =>
    obtain ⟨bn, dn⟩ := be_f (show ¬ (n : Int) = (m : Int) by omega)
    have HQ := Lib.hid (len_ne HL.out HL2.out hnm)
    clear hnm
    go_wp2_with fail
    go_ret
    exact ⟨⟨false, rfl, by simp [HQ.out]⟩, Below.refl _ _⟩
  subst hnm
  go_wp2_with fail
  go_loopw [5] (fun i wr => ∃ (k : Nat), k ≤ n ∧ i = .int .i64 k ∧ xs.take k = ys.take k ∧ Below w.heap.size w wr) (fun i _ => n - (intOf i).toNat)
  case atStart => exact ⟨0, Nat.zero_le _, rfl, rfl, Below.refl _ _⟩
  case round =>
    obtain ⟨k, hk, rfl, ht, hb⟩ := hrel
    have HT := Lib.hid ht
    clear ht
    by_cases hlt : k < n
    · obtain ⟨b, off, rfl, hbl, hcells⟩ := H.out.baseIn hb (by omega)
      obtain ⟨b2, off2, rfl, hbl2, hcells2⟩ := H2.out.baseIn hb (by omega)
      obtain ⟨x, hx⟩ := H.out.get hlt
      obtain ⟨y, hy⟩ := H2.out.get hlt
      have e0 : wr.cell? ⟨b, off + k * 1, none⟩ = some (.string (x)) := Sl.at_ hcells hx 0 rfl
      have f0 : wr.cell? ⟨b2, off2 + k * 1, none⟩ = some (.string (y)) := Sl.at_ hcells2 hy 0 rfl
      rw [Nat.mul_one] at e0 f0
      have HNE := Lib.hid (take_ne hx hy)
      have HEQ := Lib.hid (fun h => take_eq hx hy h HT.out)
      clear hcells hcells2 hx hy
      by_cases q0 : x = y
      case neg =>
        obtain ⟨b0, d0⟩ := bs_f q0
        have HQ := Lib.hid (HNE.out (fun e => q0 (by rw [e])))
        clear q0 HEQ HNE
        go_upto_region 6 with (fail)
        go_still_tail 8, (by kernel_rfl)
        change wpList _ _ _ _ _ wr.drew
        go_wp2_with fail
        go_ret
        exact ⟨⟨false, rfl, by simp [HQ.out]⟩, hb.drew⟩
      obtain ⟨b0, d0⟩ := bs_t q0
      have Q0 := Lib.hid q0
      clear q0
      have HE := Lib.hid (HEQ.out (Q0.out))
      clear HEQ HNE
      go_upto_region 6 with (fail)
      go_still_tail 8, (by kernel_rfl)
      change wpList _ _ _ _ _ wr.drew
      go_wp2_with fail
      go_roundw
      case rel => exact ⟨k + 1, by omega, by go_num, HE.out, hb.drew⟩
      case measure => simp [intOf]; omega
    · obtain rfl : k = n := by omega
      have hkn : ¬ ((k : Int) < (k : Int)) := by omega
      go_wp2_with fail
      go_ret
      exact ⟨⟨true, rfl, by simp [take_all HL.out HL2.out HT.out]⟩, hb⟩
theorem ev_ext {x y : Ev} (h0 : x.at_ = y.at_) (h1 : x.kind = y.kind) (h2 : x.acc = y.acc) (h3 : x.sub = y.sub) (h4 : x.num = y.num) (h5 : x.name = y.name) (h6 : x.val = y.val) : x = y := by cases x; cases y; simp_all
set_option maxHeartbeats 8000000 in
theorem SameEvents_any (A B : Option Addr) (n c m d : Nat) (xs ys : List Ev) (w : World) (h : Sl w A n c xs) (h2 : Sl w B m d ys) :
    Calls Try.prog 31 #[.slice A n c, .slice B m d] w fun r w' => SaysEq r xs ys ∧ Below w.heap.size w w' := by
  have hn := h.nmax
  have H := Lib.hid h
  have H2 := Lib.hid h2
  have HL := Lib.hid h.len
  have HL2 := Lib.hid h2.len
  clear h h2
  go_enter Try.func31, Try.ntmps31
  by_cases hnm : n = m
  case neg =>
    obtain ⟨bn, dn⟩ := be_f (show ¬ (n : Int) = (m : Int) by omega)
    have HQ := Lib.hid (len_ne HL.out HL2.out hnm)
    clear hnm
    go_wp2_with fail
    go_ret
    exact ⟨⟨false, rfl, by simp [HQ.out]⟩, Below.refl _ _⟩
  subst hnm
  go_wp2_with fail
  go_loopw [5] (fun i wr => ∃ (k : Nat), k ≤ n ∧ i = .int .i64 k ∧ xs.take k = ys.take k ∧ Below w.heap.size w wr) (fun i _ => n - (intOf i).toNat)
  case atStart => exact ⟨0, Nat.zero_le _, rfl, rfl, Below.refl _ _⟩
  case round =>
    obtain ⟨k, hk, rfl, ht, hb⟩ := hrel
    have HT := Lib.hid ht
    clear ht
    by_cases hlt : k < n
    · obtain ⟨b, off, rfl, hbl, hcells⟩ := H.out.baseIn hb (by omega)
      obtain ⟨b2, off2, rfl, hbl2, hcells2⟩ := H2.out.baseIn hb (by omega)
      obtain ⟨x, hx⟩ := H.out.get hlt
      obtain ⟨y, hy⟩ := H2.out.get hlt
      have e0 : wr.cell? ⟨b, off + k * 7, none⟩ = some (.int .i64 (x.at_)) := Sl.at_ hcells hx 0 rfl
      have e1 : wr.cell? ⟨b, off + k * 7 + 1, none⟩ = some (.int .i64 (x.kind)) := Sl.at_ hcells hx 1 rfl
      have e2 : wr.cell? ⟨b, off + k * 7 + 2, none⟩ = some (.int .i64 (x.acc)) := Sl.at_ hcells hx 2 rfl
      have e3 : wr.cell? ⟨b, off + k * 7 + 3, none⟩ = some (.int .i64 (x.sub)) := Sl.at_ hcells hx 3 rfl
      have e4 : wr.cell? ⟨b, off + k * 7 + 4, none⟩ = some (.string (x.num)) := Sl.at_ hcells hx 4 rfl
      have e5 : wr.cell? ⟨b, off + k * 7 + 5, none⟩ = some (.string (x.name)) := Sl.at_ hcells hx 5 rfl
      have e6 : wr.cell? ⟨b, off + k * 7 + 6, none⟩ = some (.int .i64 (x.val)) := Sl.at_ hcells hx 6 rfl
      have f0 : wr.cell? ⟨b2, off2 + k * 7, none⟩ = some (.int .i64 (y.at_)) := Sl.at_ hcells2 hy 0 rfl
      have f1 : wr.cell? ⟨b2, off2 + k * 7 + 1, none⟩ = some (.int .i64 (y.kind)) := Sl.at_ hcells2 hy 1 rfl
      have f2 : wr.cell? ⟨b2, off2 + k * 7 + 2, none⟩ = some (.int .i64 (y.acc)) := Sl.at_ hcells2 hy 2 rfl
      have f3 : wr.cell? ⟨b2, off2 + k * 7 + 3, none⟩ = some (.int .i64 (y.sub)) := Sl.at_ hcells2 hy 3 rfl
      have f4 : wr.cell? ⟨b2, off2 + k * 7 + 4, none⟩ = some (.string (y.num)) := Sl.at_ hcells2 hy 4 rfl
      have f5 : wr.cell? ⟨b2, off2 + k * 7 + 5, none⟩ = some (.string (y.name)) := Sl.at_ hcells2 hy 5 rfl
      have f6 : wr.cell? ⟨b2, off2 + k * 7 + 6, none⟩ = some (.int .i64 (y.val)) := Sl.at_ hcells2 hy 6 rfl
      have HNE := Lib.hid (take_ne hx hy)
      have HEQ := Lib.hid (fun h => take_eq hx hy h HT.out)
      clear hcells hcells2 hx hy
      by_cases q0 : x.at_ = y.at_
      case neg =>
        obtain ⟨b0, d0⟩ := be_f q0
        have HQ := Lib.hid (HNE.out (fun e => q0 (by rw [e])))
        clear q0 HEQ HNE
        go_upto_region 6 with (fail)
        go_still_tail 8, (by kernel_rfl)
        change wpList _ _ _ _ _ wr.drew
        go_wp2_with fail
        go_ret
        exact ⟨⟨false, rfl, by simp [HQ.out]⟩, hb.drew⟩
      obtain ⟨b0, d0⟩ := be_t q0
      have Q0 := Lib.hid q0
      clear q0
      by_cases q1 : x.kind = y.kind
      case neg =>
        obtain ⟨b1, d1⟩ := be_f q1
        have HQ := Lib.hid (HNE.out (fun e => q1 (by rw [e])))
        clear q1 HEQ HNE
        go_upto_region 6 with (fail)
        go_still_tail 8, (by kernel_rfl)
        change wpList _ _ _ _ _ wr.drew
        go_wp2_with fail
        go_ret
        exact ⟨⟨false, rfl, by simp [HQ.out]⟩, hb.drew⟩
      obtain ⟨b1, d1⟩ := be_t q1
      have Q1 := Lib.hid q1
      clear q1
      by_cases q2 : x.acc = y.acc
      case neg =>
        obtain ⟨b2, d2⟩ := be_f q2
        have HQ := Lib.hid (HNE.out (fun e => q2 (by rw [e])))
        clear q2 HEQ HNE
        go_upto_region 6 with (fail)
        go_still_tail 8, (by kernel_rfl)
        change wpList _ _ _ _ _ wr.drew
        go_wp2_with fail
        go_ret
        exact ⟨⟨false, rfl, by simp [HQ.out]⟩, hb.drew⟩
      obtain ⟨b2, d2⟩ := be_t q2
      have Q2 := Lib.hid q2
      clear q2
      by_cases q3 : x.sub = y.sub
      case neg =>
        obtain ⟨b3, d3⟩ := be_f q3
        have HQ := Lib.hid (HNE.out (fun e => q3 (by rw [e])))
        clear q3 HEQ HNE
        go_upto_region 6 with (fail)
        go_still_tail 8, (by kernel_rfl)
        change wpList _ _ _ _ _ wr.drew
        go_wp2_with fail
        go_ret
        exact ⟨⟨false, rfl, by simp [HQ.out]⟩, hb.drew⟩
      obtain ⟨b3, d3⟩ := be_t q3
      have Q3 := Lib.hid q3
      clear q3
      by_cases q4 : x.num = y.num
      case neg =>
        obtain ⟨b4, d4⟩ := bs_f q4
        have HQ := Lib.hid (HNE.out (fun e => q4 (by rw [e])))
        clear q4 HEQ HNE
        go_upto_region 6 with (fail)
        go_still_tail 8, (by kernel_rfl)
        change wpList _ _ _ _ _ wr.drew
        go_wp2_with fail
        go_ret
        exact ⟨⟨false, rfl, by simp [HQ.out]⟩, hb.drew⟩
      obtain ⟨b4, d4⟩ := bs_t q4
      have Q4 := Lib.hid q4
      clear q4
      by_cases q5 : x.name = y.name
      case neg =>
        obtain ⟨b5, d5⟩ := bs_f q5
        have HQ := Lib.hid (HNE.out (fun e => q5 (by rw [e])))
        clear q5 HEQ HNE
        go_upto_region 6 with (fail)
        go_still_tail 8, (by kernel_rfl)
        change wpList _ _ _ _ _ wr.drew
        go_wp2_with fail
        go_ret
        exact ⟨⟨false, rfl, by simp [HQ.out]⟩, hb.drew⟩
      obtain ⟨b5, d5⟩ := bs_t q5
      have Q5 := Lib.hid q5
      clear q5
      by_cases q6 : x.val = y.val
      case neg =>
        obtain ⟨b6, d6⟩ := be_f q6
        have HQ := Lib.hid (HNE.out (fun e => q6 (by rw [e])))
        clear q6 HEQ HNE
        go_upto_region 6 with (fail)
        go_still_tail 8, (by kernel_rfl)
        change wpList _ _ _ _ _ wr.drew
        go_wp2_with fail
        go_ret
        exact ⟨⟨false, rfl, by simp [HQ.out]⟩, hb.drew⟩
      obtain ⟨b6, d6⟩ := be_t q6
      have Q6 := Lib.hid q6
      clear q6
      have HE := Lib.hid (HEQ.out (ev_ext Q0.out Q1.out Q2.out Q3.out Q4.out Q5.out Q6.out))
      clear HEQ HNE
      go_upto_region 6 with (fail)
      go_still_tail 8, (by kernel_rfl)
      change wpList _ _ _ _ _ wr.drew
      go_wp2_with fail
      go_roundw
      case rel => exact ⟨k + 1, by omega, by go_num, HE.out, hb.drew⟩
      case measure => simp [intOf]; omega
    · obtain rfl : k = n := by omega
      have hkn : ¬ ((k : Int) < (k : Int)) := by omega
      go_wp2_with fail
      go_ret
      exact ⟨⟨true, rfl, by simp [take_all HL.out HL2.out HT.out]⟩, hb⟩
set_option maxHeartbeats 16000000 in
theorem SameAccount_any (u v : Av) (x y : Ac × List Int) (w : World) (h : AR w u x) (h2 : AR w v y) :
    Calls Try.prog 36 #[u.val, v.val] w fun r w' => SaysEq r x y ∧ Below w.heap.size w w' := by
  obtain ⟨⟨xi, xs, xa, xp, xc⟩, xl⟩ := x
  obtain ⟨⟨yi, ys, ya, yp, yc⟩, yl⟩ := y
  obtain ⟨ui, us, ua, up, uc, A, n, c⟩ := u
  obtain ⟨vi, vs, va, vp, vc, B, m, d⟩ := v
  obtain ⟨h_0, h_1, h_2, h_3, h_4, h_n0, h_n⟩ := h
  obtain ⟨k_0, k_1, k_2, k_3, k_4, k_n0, k_n⟩ := h2
  dsimp only at h_0 h_1 h_2 h_3 h_4 h_n0 h_n k_0 k_1 k_2 k_3 k_4 k_n0 k_n
  subst h_0 h_1 h_2 h_3 h_4 k_0 k_1 k_2 k_3 k_4
  have hn := h_n.nmax
  have H := Lib.hid h_n
  have H2 := Lib.hid k_n
  have HL := Lib.hid h_n.len
  have HL2 := Lib.hid k_n.len
  clear h_n k_n h_n0 k_n0
  unfold Av.val
  go_enter Try.func36, Try.ntmps36
  go_upto_region 1 with (fail)
  (obtain ⟨W, hWW, hbW, hzW, f1W, f2W, qfa, qfb⟩ := box2 w #[.int .i64 ui, .int .i64 us, .int .i64 ua, .bool up, .bool uc, .slice A n c] 46 #[.int .i64 vi, .int .i64 vs, .int .i64 va, .bool vp, .bool vc, .slice B m d] 46; rw [← hWW]; have qa0 : W.cell? ⟨w.heap.size, 0, none⟩ = some (.int .i64 ui) := f1W 0 _ rfl; have qa1 : W.cell? ⟨w.heap.size, 1, none⟩ = some (.int .i64 us) := f1W 1 _ rfl; have qa2 : W.cell? ⟨w.heap.size, 2, none⟩ = some (.int .i64 ua) := f1W 2 _ rfl; have qa3 : W.cell? ⟨w.heap.size, 3, none⟩ = some (.bool up) := f1W 3 _ rfl; have qa4 : W.cell? ⟨w.heap.size, 4, none⟩ = some (.bool uc) := f1W 4 _ rfl; have qa5 : W.cell? ⟨w.heap.size, 5, none⟩ = some (.slice A n c) := f1W 5 _ rfl; have qb0 : W.cell? ⟨w.heap.size + 1, 0, none⟩ = some (.int .i64 vi) := f2W 0 _ rfl; have qb1 : W.cell? ⟨w.heap.size + 1, 1, none⟩ = some (.int .i64 vs) := f2W 1 _ rfl; have qb2 : W.cell? ⟨w.heap.size + 1, 2, none⟩ = some (.int .i64 va) := f2W 2 _ rfl; have qb3 : W.cell? ⟨w.heap.size + 1, 3, none⟩ = some (.bool vp) := f2W 3 _ rfl; have qb4 : W.cell? ⟨w.heap.size + 1, 4, none⟩ = some (.bool vc) := f2W 4 _ rfl; have qb5 : W.cell? ⟨w.heap.size + 1, 5, none⟩ = some (.slice B m d) := f2W 5 _ rfl; clear hWW f1W f2W)
  have HEQ : Hid ((ui = vi ∧ us = vs ∧ ua = va ∧ up = vp ∧ uc = vc ∧ xl = yl) → (((⟨ui, us, ua, up, uc⟩ : Ac), xl) = ((⟨vi, vs, va, vp, vc⟩ : Ac), yl))) := Lib.hid (by rintro ⟨rfl, rfl, rfl, rfl, rfl, rfl⟩; rfl)
  have HNE : Hid ((((⟨ui, us, ua, up, uc⟩ : Ac), xl) = ((⟨vi, vs, va, vp, vc⟩ : Ac), yl)) → (ui = vi ∧ us = vs ∧ ua = va ∧ up = vp ∧ uc = vc ∧ xl = yl)) := Lib.hid (by intro e; cases e; exact ⟨rfl, rfl, rfl, rfl, rfl, rfl⟩)
  by_cases q0 : ui = vi
  case neg =>
    obtain ⟨b0, d0⟩ := be_f q0
    have HQ : Hid (¬ (((⟨ui, us, ua, up, uc⟩ : Ac), xl) = ((⟨vi, vs, va, vp, vc⟩ : Ac), yl))) := Lib.hid (fun e => q0 (HNE.out e).1)
    clear q0 HEQ HNE
    go_wp2_with fail
    go_ret
    exact ⟨⟨false, rfl, by simp [HQ.out]⟩, hbW⟩
  obtain ⟨b0, d0⟩ := be_t q0
  have Q0 := Lib.hid q0
  clear q0
  by_cases q1 : us = vs
  case neg =>
    obtain ⟨b1, d1⟩ := be_f q1
    have HQ : Hid (¬ (((⟨ui, us, ua, up, uc⟩ : Ac), xl) = ((⟨vi, vs, va, vp, vc⟩ : Ac), yl))) := Lib.hid (fun e => q1 (HNE.out e).2.1)
    clear q1 HEQ HNE
    go_wp2_with fail
    go_ret
    exact ⟨⟨false, rfl, by simp [HQ.out]⟩, hbW⟩
  obtain ⟨b1, d1⟩ := be_t q1
  have Q1 := Lib.hid q1
  clear q1
  by_cases q2 : ua = va
  case neg =>
    obtain ⟨b2, d2⟩ := be_f q2
    have HQ : Hid (¬ (((⟨ui, us, ua, up, uc⟩ : Ac), xl) = ((⟨vi, vs, va, vp, vc⟩ : Ac), yl))) := Lib.hid (fun e => q2 (HNE.out e).2.2.1)
    clear q2 HEQ HNE
    go_wp2_with fail
    go_ret
    exact ⟨⟨false, rfl, by simp [HQ.out]⟩, hbW⟩
  obtain ⟨b2, d2⟩ := be_t q2
  have Q2 := Lib.hid q2
  clear q2
  by_cases q3 : up = vp
  case neg =>
    obtain ⟨b3, d3⟩ := be_f q3
    have HQ : Hid (¬ (((⟨ui, us, ua, up, uc⟩ : Ac), xl) = ((⟨vi, vs, va, vp, vc⟩ : Ac), yl))) := Lib.hid (fun e => q3 (HNE.out e).2.2.2.1)
    clear q3 HEQ HNE
    go_wp2_with fail
    go_ret
    exact ⟨⟨false, rfl, by simp [HQ.out]⟩, hbW⟩
  obtain ⟨b3, d3⟩ := be_t q3
  have Q3 := Lib.hid q3
  clear q3
  by_cases q4 : uc = vc
  case neg =>
    obtain ⟨b4, d4⟩ := be_f q4
    have HQ : Hid (¬ (((⟨ui, us, ua, up, uc⟩ : Ac), xl) = ((⟨vi, vs, va, vp, vc⟩ : Ac), yl))) := Lib.hid (fun e => q4 (HNE.out e).2.2.2.2.1)
    clear q4 HEQ HNE
    go_wp2_with fail
    go_ret
    exact ⟨⟨false, rfl, by simp [HQ.out]⟩, hbW⟩
  obtain ⟨b4, d4⟩ := be_t q4
  have Q4 := Lib.hid q4
  clear q4
  by_cases q5 : n = m
  case neg =>
    obtain ⟨b5, d5⟩ := be_f (show ¬ (n : Int) = (m : Int) by omega)
    have HQ : Hid (¬ (((⟨ui, us, ua, up, uc⟩ : Ac), xl) = ((⟨vi, vs, va, vp, vc⟩ : Ac), yl))) := Lib.hid (fun e => len_ne HL.out HL2.out q5 (HNE.out e).2.2.2.2.2)
    clear q5 HEQ HNE
    go_wp2_with fail
    go_ret
    exact ⟨⟨false, rfl, by simp [HQ.out]⟩, hbW⟩
  subst q5
  go_wp2_with fail
  go_loopw [5] (fun i wr => ∃ (k : Nat), k ≤ n ∧ i = .int .i64 k ∧ xl.take k = yl.take k ∧ Below W.heap.size W wr) (fun i _ => n - (intOf i).toNat)
  case atStart => exact ⟨0, Nat.zero_le _, rfl, rfl, Below.refl _ _⟩
  case round =>
    obtain ⟨k, hk, rfl, ht, hb⟩ := hrel
    have HT := Lib.hid ht
    clear ht
    replace qa5 := cl hb qa5
    replace qb5 := cl hb qb5
    by_cases hlt : k < n
    · obtain ⟨b, off, rfl, hbl, hcells⟩ := H.out.baseIn (hbW.trans (hb.mono hbW.size)) (by omega)
      obtain ⟨b2, off2, rfl, hbl2, hcells2⟩ := H2.out.baseIn (hbW.trans (hb.mono hbW.size)) (by omega)
      obtain ⟨x, hx⟩ := H.out.get hlt
      obtain ⟨y, hy⟩ := H2.out.get hlt
      have e0 : wr.cell? ⟨b, off + k * 1, none⟩ = some (.int .i64 x) := Sl.at_ hcells hx 0 rfl
      have f0 : wr.cell? ⟨b2, off2 + k * 1, none⟩ = some (.int .i64 y) := Sl.at_ hcells2 hy 0 rfl
      rw [Nat.mul_one] at e0 f0
      have HX := Lib.hid (take_ne hx hy)
      have HY := Lib.hid (fun h => take_eq hx hy h HT.out)
      clear hcells hcells2 hx hy
      by_cases q : x = y
      · obtain ⟨b9, d9⟩ := be_t q
        have HE := Lib.hid (HY.out q)
        clear q
        go_upto_region 6 with (fail)
        go_still_tail 10, (by kernel_rfl)
        change wpList _ _ _ _ _ wr.drew
        go_wp2_with fail
        go_roundw
        case rel => exact ⟨k + 1, by omega, by go_num, HE.out, hb.drew⟩
        case measure => simp [intOf]; omega
      · obtain ⟨b9, d9⟩ := be_f q
        have HE := Lib.hid (HX.out q)
        clear q
        go_upto_region 6 with (fail)
        go_still_tail 10, (by kernel_rfl)
        change wpList _ _ _ _ _ wr.drew
        go_wp2_with fail
        go_ret
        exact ⟨⟨false, rfl, by simp only [Bool.false_eq_true, false_iff]; exact fun e => HE.out (HNE.out e).2.2.2.2.2⟩, hbW.trans (hb.drew.mono hbW.size)⟩
    · obtain rfl : k = n := by omega
      have hkn : ¬ ((k : Int) < (k : Int)) := by omega
      go_wp2_with fail
      go_ret
      exact ⟨⟨true, rfl, by simp only [true_iff]; exact HEQ.out ⟨Q0.out, Q1.out, Q2.out, Q3.out, Q4.out, take_all HL.out HL2.out HT.out⟩⟩, hbW.trans (hb.mono hbW.size)⟩
set_option maxHeartbeats 16000000 in
theorem SameSub_any (u v : Sv) (x y : Sb) (w : World) (h : SR w u x) (h2 : SR w v y) :
    Calls Try.prog 37 #[u.val, v.val] w fun r w' => SaysEq r x y ∧ Below w.heap.size w w' := by
  obtain ⟨xi, xa, xs, xp, xn, xd, xu, xf⟩ := x
  obtain ⟨yi, ya, ys, yp, yn, yd, yu, yf⟩ := y
  obtain ⟨ui, ua, us, up, An, nn, cn, Ap, np, cp, uu, uf⟩ := u
  obtain ⟨vi, va, vs, vp, Bn, mn, dn, Bp, mp, dp, vu, vf⟩ := v
  obtain ⟨h_0, h_1, h_2, h_3, _, h_n, _, h_p, h_4, h_5⟩ := h
  obtain ⟨k_0, k_1, k_2, k_3, _, k_n, _, k_p, k_4, k_5⟩ := h2
  dsimp only at h_0 h_1 h_2 h_3 h_4 h_5 h_n h_p k_0 k_1 k_2 k_3 k_4 k_5 k_n k_p
  subst h_0 h_1 h_2 h_3 h_4 h_5 k_0 k_1 k_2 k_3 k_4 k_5
  have H := Lib.hid h_n
  have H2 := Lib.hid k_n
  have H3 := Lib.hid h_p
  have H4 := Lib.hid k_p
  clear h_n k_n h_p k_p
  unfold Sv.val
  go_enter Try.func37, Try.ntmps37
  go_upto_region 1 with (fail)
  (obtain ⟨W, hWW, hbW, hzW, f1W, f2W, qfa, qfb⟩ := box2 w #[.int .i64 ui, .int .i64 ua, .int .i64 us, .string up, .slice An nn cn, .slice Ap np cp, .bool uu, .bool uf] 51 #[.int .i64 vi, .int .i64 va, .int .i64 vs, .string vp, .slice Bn mn dn, .slice Bp mp dp, .bool vu, .bool vf] 51; rw [← hWW]; have qa0 : W.cell? ⟨w.heap.size, 0, none⟩ = some (.int .i64 ui) := f1W 0 _ rfl; have qa1 : W.cell? ⟨w.heap.size, 1, none⟩ = some (.int .i64 ua) := f1W 1 _ rfl; have qa2 : W.cell? ⟨w.heap.size, 2, none⟩ = some (.int .i64 us) := f1W 2 _ rfl; have qa3 : W.cell? ⟨w.heap.size, 3, none⟩ = some (.string up) := f1W 3 _ rfl; have qa4 : W.cell? ⟨w.heap.size, 4, none⟩ = some (.slice An nn cn) := f1W 4 _ rfl; have qa5 : W.cell? ⟨w.heap.size, 5, none⟩ = some (.slice Ap np cp) := f1W 5 _ rfl; have qa6 : W.cell? ⟨w.heap.size, 6, none⟩ = some (.bool uu) := f1W 6 _ rfl; have qa7 : W.cell? ⟨w.heap.size, 7, none⟩ = some (.bool uf) := f1W 7 _ rfl; have qb0 : W.cell? ⟨w.heap.size + 1, 0, none⟩ = some (.int .i64 vi) := f2W 0 _ rfl; have qb1 : W.cell? ⟨w.heap.size + 1, 1, none⟩ = some (.int .i64 va) := f2W 1 _ rfl; have qb2 : W.cell? ⟨w.heap.size + 1, 2, none⟩ = some (.int .i64 vs) := f2W 2 _ rfl; have qb3 : W.cell? ⟨w.heap.size + 1, 3, none⟩ = some (.string vp) := f2W 3 _ rfl; have qb4 : W.cell? ⟨w.heap.size + 1, 4, none⟩ = some (.slice Bn mn dn) := f2W 4 _ rfl; have qb5 : W.cell? ⟨w.heap.size + 1, 5, none⟩ = some (.slice Bp mp dp) := f2W 5 _ rfl; have qb6 : W.cell? ⟨w.heap.size + 1, 6, none⟩ = some (.bool vu) := f2W 6 _ rfl; have qb7 : W.cell? ⟨w.heap.size + 1, 7, none⟩ = some (.bool vf) := f2W 7 _ rfl; clear hWW f1W f2W)
  have HEQ : Hid ((ui = vi ∧ ua = va ∧ us = vs ∧ up = vp ∧ uu = vu ∧ uf = vf ∧ xn = yn ∧ xd = yd) → ((⟨ui, ua, us, up, xn, xd, uu, uf⟩ : Sb) = ⟨vi, va, vs, vp, yn, yd, vu, vf⟩)) := Lib.hid (by rintro ⟨rfl, rfl, rfl, rfl, rfl, rfl, rfl, rfl⟩; rfl)
  have HNE : Hid (((⟨ui, ua, us, up, xn, xd, uu, uf⟩ : Sb) = ⟨vi, va, vs, vp, yn, yd, vu, vf⟩) → (ui = vi ∧ ua = va ∧ us = vs ∧ up = vp ∧ uu = vu ∧ uf = vf ∧ xn = yn ∧ xd = yd)) := Lib.hid (by intro e; cases e; exact ⟨rfl, rfl, rfl, rfl, rfl, rfl, rfl, rfl⟩)
  by_cases q0 : ui = vi
  case neg =>
    obtain ⟨b0, d0⟩ := be_f q0
    have HQ : Hid (¬ ((⟨ui, ua, us, up, xn, xd, uu, uf⟩ : Sb) = ⟨vi, va, vs, vp, yn, yd, vu, vf⟩)) := Lib.hid (fun e => q0 (HNE.out e).1)
    clear q0 HEQ HNE
    go_wp2_with fail
    go_ret
    exact ⟨⟨false, rfl, by simp [HQ.out]⟩, hbW⟩
  obtain ⟨b0, d0⟩ := be_t q0
  have Q0 := Lib.hid q0
  clear q0
  by_cases q1 : ua = va
  case neg =>
    obtain ⟨b1, d1⟩ := be_f q1
    have HQ : Hid (¬ ((⟨ui, ua, us, up, xn, xd, uu, uf⟩ : Sb) = ⟨vi, va, vs, vp, yn, yd, vu, vf⟩)) := Lib.hid (fun e => q1 (HNE.out e).2.1)
    clear q1 HEQ HNE
    go_wp2_with fail
    go_ret
    exact ⟨⟨false, rfl, by simp [HQ.out]⟩, hbW⟩
  obtain ⟨b1, d1⟩ := be_t q1
  have Q1 := Lib.hid q1
  clear q1
  by_cases q2 : us = vs
  case neg =>
    obtain ⟨b2, d2⟩ := be_f q2
    have HQ : Hid (¬ ((⟨ui, ua, us, up, xn, xd, uu, uf⟩ : Sb) = ⟨vi, va, vs, vp, yn, yd, vu, vf⟩)) := Lib.hid (fun e => q2 (HNE.out e).2.2.1)
    clear q2 HEQ HNE
    go_wp2_with fail
    go_ret
    exact ⟨⟨false, rfl, by simp [HQ.out]⟩, hbW⟩
  obtain ⟨b2, d2⟩ := be_t q2
  have Q2 := Lib.hid q2
  clear q2
  by_cases q3 : up = vp
  case neg =>
    obtain ⟨b3, d3⟩ := bs_f q3
    have HQ : Hid (¬ ((⟨ui, ua, us, up, xn, xd, uu, uf⟩ : Sb) = ⟨vi, va, vs, vp, yn, yd, vu, vf⟩)) := Lib.hid (fun e => q3 (HNE.out e).2.2.2.1)
    clear q3 HEQ HNE
    go_wp2_with fail
    go_ret
    exact ⟨⟨false, rfl, by simp [HQ.out]⟩, hbW⟩
  obtain ⟨b3, d3⟩ := bs_t q3
  have Q3 := Lib.hid q3
  clear q3
  by_cases q4 : uu = vu
  case neg =>
    obtain ⟨b4, d4⟩ := be_f q4
    have HQ : Hid (¬ ((⟨ui, ua, us, up, xn, xd, uu, uf⟩ : Sb) = ⟨vi, va, vs, vp, yn, yd, vu, vf⟩)) := Lib.hid (fun e => q4 (HNE.out e).2.2.2.2.1)
    clear q4 HEQ HNE
    go_wp2_with fail
    go_ret
    exact ⟨⟨false, rfl, by simp [HQ.out]⟩, hbW⟩
  obtain ⟨b4, d4⟩ := be_t q4
  have Q4 := Lib.hid q4
  clear q4
  by_cases q5 : uf = vf
  case neg =>
    obtain ⟨b5, d5⟩ := be_f q5
    have HQ : Hid (¬ ((⟨ui, ua, us, up, xn, xd, uu, uf⟩ : Sb) = ⟨vi, va, vs, vp, yn, yd, vu, vf⟩)) := Lib.hid (fun e => q5 (HNE.out e).2.2.2.2.2.1)
    clear q5 HEQ HNE
    go_wp2_with fail
    go_ret
    exact ⟨⟨false, rfl, by simp [HQ.out]⟩, hbW⟩
  obtain ⟨b5, d5⟩ := be_t q5
  have Q5 := Lib.hid q5
  clear q5
  go_wp2_with fail
  refine (SameTexts_any An Bn nn cn mn dn xn yn _ (H.out.below hbW) (H2.out.below hbW)).mono ?_
  rintro r w2 ⟨⟨t1, rfl, ht1⟩, hb2⟩
  have HT1 := Lib.hid ht1
  have hbW2 := hbW.trans (hb2.mono hbW.size)
  replace qa5 := cl hb2 qa5
  replace qb5 := cl hb2 qb5
  clear ht1
  cases t1
  · go_wp2_with fail
    go_ret
    exact ⟨⟨false, rfl, by simp only [Bool.false_eq_true, false_iff]; exact fun e => absurd (HT1.out.2 (HNE.out e).2.2.2.2.2.2.1) (by decide)⟩, hbW2⟩
  · go_wp2_with fail
    refine (SameTexts_any Ap Bp np cp mp dp xd yd _ (H3.out.below hbW2) (H4.out.below hbW2)).mono ?_
    rintro r w3 ⟨⟨t2, rfl, ht2⟩, hb3⟩
    have HT2 := Lib.hid ht2
    clear ht2
    go_wp2_with fail
    go_ret
    refine ⟨⟨t2, rfl, ⟨fun e => HEQ.out ⟨Q0.out, Q1.out, Q2.out, Q3.out, Q4.out, Q5.out, HT1.out.1 (by simp), HT2.out.1 e⟩, fun e => HT2.out.2 (HNE.out e).2.2.2.2.2.2.2⟩⟩, hbW2.trans (hb3.mono hbW2.size)⟩
theorem SaysEq.t {α : Type} {r : Ending} {x y : α} (h : SaysEq r x y) (e : x = y) : r = .returned (.bool true) := by
  obtain ⟨q, rfl, hq⟩ := h; rw [hq.2 e]
theorem SaysEq.f {α : Type} {r : Ending} {x y : α} (h : SaysEq r x y) (e : ¬ x = y) : r = .returned (.bool false) := by
  obtain ⟨q, rfl, hq⟩ := h; cases q
  · rfl
  · exact absurd (hq.1 rfl) e
set_option maxHeartbeats 16000000 in
theorem Same_any (Aa : Option Addr) (na ca : Nat) (As : Option Addr) (ns cs : Nat) (Ba : Option Addr) (ma da : Nat) (Bs : Option Addr) (ms ds : Nat) (x1 y1 : List (Ac × List Int)) (x2 y2 : List Sb) (w : World) (ha : LAc w Aa na ca x1) (hs : LSb w As ns cs x2) (hb : LAc w Ba ma da y1) (ht : LSb w Bs ms ds y2) :
    Calls Try.prog 26 #[.agg #[.slice Aa na ca, .slice As ns cs], .agg #[.slice Ba ma da, .slice Bs ms ds]] w fun r w' => SaysEq r (x1, x2) (y1, y2) ∧ Below w.heap.size w w' := by
  have hl1 := ha.len
  have hl2 := hs.len
  have hl3 := hb.len
  have hl4 := ht.len
  obtain ⟨_, ua, hua, aua⟩ := ha
  obtain ⟨_, us, hus, aus⟩ := hs
  obtain ⟨_, va, hva, ava⟩ := hb
  obtain ⟨_, vs, hvs, avs⟩ := ht
  have hn := hua.nmax
  have hn2 := hus.nmax
  have H1 := Lib.hid hua
  have H2 := Lib.hid hus
  have H3 := Lib.hid hva
  have H4 := Lib.hid hvs
  have K1 := Lib.hid aua
  have K2 := Lib.hid aus
  have K3 := Lib.hid ava
  have K4 := Lib.hid avs
  have HL : Hid (x1.length = na ∧ x2.length = ns ∧ y1.length = ma ∧ y2.length = ms) := Lib.hid ⟨hl1, hl2, hl3, hl4⟩
  have HNE : Hid ((x1, x2) = (y1, y2) → x1 = y1 ∧ x2 = y2) := Lib.hid (by intro e; cases e; exact ⟨rfl, rfl⟩)
  clear hua hus hva hvs aua aus ava avs hl1 hl2 hl3 hl4
  go_enter Try.func26, Try.ntmps26
  go_upto_region 1 with (fail)
  (obtain ⟨W, hWW, hbW, hzW, f1W, f2W, qfa, qfb⟩ := box2 w #[.slice Aa na ca, .slice As ns cs] 32 #[.slice Ba ma da, .slice Bs ms ds] 32; rw [← hWW]; have qa0 : W.cell? ⟨w.heap.size, 0, none⟩ = some (.slice Aa na ca) := f1W 0 _ rfl; have qa1 : W.cell? ⟨w.heap.size, 1, none⟩ = some (.slice As ns cs) := f1W 1 _ rfl; have qb0 : W.cell? ⟨w.heap.size + 1, 0, none⟩ = some (.slice Ba ma da) := f2W 0 _ rfl; have qb1 : W.cell? ⟨w.heap.size + 1, 1, none⟩ = some (.slice Bs ms ds) := f2W 1 _ rfl; clear hWW f1W f2W)
  by_cases hnm : na = ma
  case neg =>
    obtain ⟨bn, dn⟩ := be_f (show ¬ (na : Int) = (ma : Int) by omega)
    have HQ : Hid (¬ (x1, x2) = (y1, y2)) := Lib.hid (fun e => len_ne HL.out.1 HL.out.2.2.1 hnm (HNE.out e).1)
    clear hnm
    go_wp2_with fail
    go_ret
    exact ⟨⟨false, rfl, by simp only [Bool.false_eq_true, false_iff]; exact HQ.out⟩, hbW⟩
  subst hnm
  by_cases hnm : ns = ms
  case neg =>
    obtain ⟨bn, dn⟩ := be_f (show ¬ (ns : Int) = (ms : Int) by omega)
    have HQ : Hid (¬ (x1, x2) = (y1, y2)) := Lib.hid (fun e => len_ne HL.out.2.1 HL.out.2.2.2 hnm (HNE.out e).2)
    clear hnm
    go_wp2_with fail
    go_ret
    exact ⟨⟨false, rfl, by simp only [Bool.false_eq_true, false_iff]; exact HQ.out⟩, hbW⟩
  subst hnm
  go_wp2_with fail
  have HBW := Lib.hid hbW
  clear hbW
  go_loopw [5] (fun i wr => ∃ (k : Nat), k ≤ na ∧ i = .int .i64 k ∧ x1.take k = y1.take k ∧ Below W.heap.size W wr) (fun i _ => na - (intOf i).toNat)
  case atStart => exact ⟨0, Nat.zero_le _, rfl, rfl, Below.refl _ _⟩
  case round =>
    obtain ⟨k, hk, rfl, ht, hb⟩ := hrel
    have HT := Lib.hid ht
    have hbA := HBW.out.trans (hb.mono HBW.out.size)
    have hsz1 := hbA.size
    have hsz2 := hb.size
    clear ht
    replace qa0 := cl hb qa0
    replace qa1 := cl hb qa1
    replace qb0 := cl hb qb0
    replace qb1 := cl hb qb1
    by_cases hlt : k < na
    · obtain ⟨b, off, rfl, hbl, hcells⟩ := H1.out.baseIn hbA (by omega)
      obtain ⟨b2, off2, rfl, hbl2, hcells2⟩ := H3.out.baseIn hbA (by omega)
      obtain ⟨u, hu⟩ := H1.out.get hlt
      obtain ⟨v, hv⟩ := H3.out.get hlt
      obtain ⟨x, hx⟩ : ∃ x, x1[k]? = some x := ⟨_, List.getElem?_eq_getElem (by have := HL.out; omega)⟩
      obtain ⟨y, hy⟩ : ∃ y, y1[k]? = some y := ⟨_, List.getElem?_eq_getElem (by have := HL.out; omega)⟩
      have hru := (K1.out.2 k u x hu hx).on hbA
      have hrv := (K3.out.2 k v y hv hy).on hbA
      have e0 : wr.cell? ⟨b, off + k * 6, none⟩ = some (.int .i64 u.id) := Sl.at_ hcells hu 0 rfl
      have e1 : wr.cell? ⟨b, off + k * 6 + 1, none⟩ = some (.int .i64 u.since) := Sl.at_ hcells hu 1 rfl
      have e2 : wr.cell? ⟨b, off + k * 6 + 2, none⟩ = some (.int .i64 u.anchor) := Sl.at_ hcells hu 2 rfl
      have e3 : wr.cell? ⟨b, off + k * 6 + 3, none⟩ = some (.bool u.prepaid) := Sl.at_ hcells hu 3 rfl
      have e4 : wr.cell? ⟨b, off + k * 6 + 4, none⟩ = some (.bool u.closed) := Sl.at_ hcells hu 4 rfl
      have e5 : wr.cell? ⟨b, off + k * 6 + 5, none⟩ = some (.slice u.A u.n u.c) := Sl.at_ hcells hu 5 rfl
      have f0 : wr.cell? ⟨b2, off2 + k * 6, none⟩ = some (.int .i64 v.id) := Sl.at_ hcells2 hv 0 rfl
      have f1 : wr.cell? ⟨b2, off2 + k * 6 + 1, none⟩ = some (.int .i64 v.since) := Sl.at_ hcells2 hv 1 rfl
      have f2 : wr.cell? ⟨b2, off2 + k * 6 + 2, none⟩ = some (.int .i64 v.anchor) := Sl.at_ hcells2 hv 2 rfl
      have f3 : wr.cell? ⟨b2, off2 + k * 6 + 3, none⟩ = some (.bool v.prepaid) := Sl.at_ hcells2 hv 3 rfl
      have f4 : wr.cell? ⟨b2, off2 + k * 6 + 4, none⟩ = some (.bool v.closed) := Sl.at_ hcells2 hv 4 rfl
      have f5 : wr.cell? ⟨b2, off2 + k * 6 + 5, none⟩ = some (.slice v.A v.n v.c) := Sl.at_ hcells2 hv 5 rfl
      have HX := Lib.hid (take_ne hx hy)
      have HY := Lib.hid (fun h => take_eq hx hy h HT.out)
      clear hcells hcells2 hx hy hu hv
      by_cases q : x = y
      · have HC : Hid (∀ w', Below wr.heap.size wr w' → Calls Try.prog 36 #[u.val, v.val] w' fun r w'' => r = .returned (.bool true) ∧ Below w'.heap.size w' w'') := Lib.hid (fun w' hk => (SameAccount_any u v x y w' (hru.on hk) (hrv.on hk)).mono fun r w'' h => ⟨h.1.t q, h.2⟩)
        have HE := Lib.hid (HY.out q)
        clear q HX HY hru hrv
        unfold Av.val at HC
        go_upto_region 6 with (fail)
        ((with_reducible refine wp_region_class (Below wr.heap.size wr) ?_ ?_ ?_ ?_); kernel_rfl; kernel_rfl; (exact (Below.refl _ _).drew); (intro hnonemp); (have zqa0 := fun z : Wd (Below wr.heap.size wr) => cl z.h qa0; have zqa1 := fun z : Wd (Below wr.heap.size wr) => cl z.h qa1; have zqb0 := fun z : Wd (Below wr.heap.size wr) => cl z.h qb0; have zqb1 := fun z : Wd (Below wr.heap.size wr) => cl z.h qb1; have ze0 := fun z : Wd (Below wr.heap.size wr) => cl z.h e0; have ze1 := fun z : Wd (Below wr.heap.size wr) => cl z.h e1; have ze2 := fun z : Wd (Below wr.heap.size wr) => cl z.h e2; have ze3 := fun z : Wd (Below wr.heap.size wr) => cl z.h e3; have ze4 := fun z : Wd (Below wr.heap.size wr) => cl z.h e4; have ze5 := fun z : Wd (Below wr.heap.size wr) => cl z.h e5; have zf0 := fun z : Wd (Below wr.heap.size wr) => cl z.h f0; have zf1 := fun z : Wd (Below wr.heap.size wr) => cl z.h f1; have zf2 := fun z : Wd (Below wr.heap.size wr) => cl z.h f2; have zf3 := fun z : Wd (Below wr.heap.size wr) => cl z.h f3; have zf4 := fun z : Wd (Below wr.heap.size wr) => cl z.h f4; have zf5 := fun z : Wd (Below wr.heap.size wr) => cl z.h f5); (repeat (any_goals (first | go_big_quiet_step (((first | (go_at_call 36; (with_reducible refine (HC.out _ (Wd.h _)).mono ?_); rintro e w' ⟨rfl, hbk⟩; exact ⟨rfl, ⟨w', Below.trans (Wd.h _) (hbk.mono (Below.size (Wd.h _)))⟩, rfl⟩)))) | (refine wpQuiet_step (fun K hK => ?_); go_simp; (first | (refine hK _ ?_; clear hK K) | (split <;> rename_i hg <;> (refine hK _ ?_; clear hK K) <;> (try simp only [Bool.not_eq_true] at hg) <;> (first | simp only [Int.not_lt.2 hg, decide_false] | simp only [Int.not_le.1 hg, decide_true] | simp only [hg, decide_true, decide_false] | skip)))))));  all_goals (refine wpQuiet_nil ?_; intro wq hgq))
        go_wp2_with fail
        go_roundw
        case rel => exact ⟨k + 1, by omega, by go_num, HE.out, hb.trans (hgq.mono hb.size)⟩
        case measure => simp [intOf]; omega
      · have HC : Hid (∀ w', Below wr.heap.size wr w' → Calls Try.prog 36 #[u.val, v.val] w' fun r w'' => r = .returned (.bool false) ∧ Below w'.heap.size w' w'') := Lib.hid (fun w' hk => (SameAccount_any u v x y w' (hru.on hk) (hrv.on hk)).mono fun r w'' h => ⟨h.1.f q, h.2⟩)
        have HE := Lib.hid (HX.out q)
        clear q HX HY hru hrv
        unfold Av.val at HC
        go_upto_region 6 with (fail)
        ((with_reducible refine wp_region_class (Below wr.heap.size wr) ?_ ?_ ?_ ?_); kernel_rfl; kernel_rfl; (exact (Below.refl _ _).drew); (intro hnonemp); (have zqa0 := fun z : Wd (Below wr.heap.size wr) => cl z.h qa0; have zqa1 := fun z : Wd (Below wr.heap.size wr) => cl z.h qa1; have zqb0 := fun z : Wd (Below wr.heap.size wr) => cl z.h qb0; have zqb1 := fun z : Wd (Below wr.heap.size wr) => cl z.h qb1; have ze0 := fun z : Wd (Below wr.heap.size wr) => cl z.h e0; have ze1 := fun z : Wd (Below wr.heap.size wr) => cl z.h e1; have ze2 := fun z : Wd (Below wr.heap.size wr) => cl z.h e2; have ze3 := fun z : Wd (Below wr.heap.size wr) => cl z.h e3; have ze4 := fun z : Wd (Below wr.heap.size wr) => cl z.h e4; have ze5 := fun z : Wd (Below wr.heap.size wr) => cl z.h e5; have zf0 := fun z : Wd (Below wr.heap.size wr) => cl z.h f0; have zf1 := fun z : Wd (Below wr.heap.size wr) => cl z.h f1; have zf2 := fun z : Wd (Below wr.heap.size wr) => cl z.h f2; have zf3 := fun z : Wd (Below wr.heap.size wr) => cl z.h f3; have zf4 := fun z : Wd (Below wr.heap.size wr) => cl z.h f4; have zf5 := fun z : Wd (Below wr.heap.size wr) => cl z.h f5); (repeat (any_goals (first | go_big_quiet_step (((first | (go_at_call 36; (with_reducible refine (HC.out _ (Wd.h _)).mono ?_); rintro e w' ⟨rfl, hbk⟩; exact ⟨rfl, ⟨w', Below.trans (Wd.h _) (hbk.mono (Below.size (Wd.h _)))⟩, rfl⟩)))) | (refine wpQuiet_step (fun K hK => ?_); go_simp; (first | (refine hK _ ?_; clear hK K) | (split <;> rename_i hg <;> (refine hK _ ?_; clear hK K) <;> (try simp only [Bool.not_eq_true] at hg) <;> (first | simp only [Int.not_lt.2 hg, decide_false] | simp only [Int.not_le.1 hg, decide_true] | simp only [hg, decide_true, decide_false] | skip)))))));  all_goals (refine wpQuiet_nil ?_; intro wq hgq))
        go_wp2_with fail
        go_ret
        exact ⟨⟨false, rfl, by simp only [Bool.false_eq_true, false_iff]; exact fun e => HE.out (HNE.out e).1⟩, hbA.trans (hgq.mono hbA.size)⟩
    · obtain rfl : k = na := by omega
      have hkn : ¬ ((k : Int) < (k : Int)) := by omega
      have HA : Hid (x1 = y1) := Lib.hid (take_all HL.out.1 HL.out.2.2.1 HT.out)
      have HA1 := HA
      clear HA
      have HB1 := Lib.hid hbA
      clear hbA hb HBW
      go_wp2_with fail
      have HBW := HB1
      have HAB := Lib.hid (Below.refl wr.heap.size wr)
      obtain ⟨V, hV⟩ : ∃ V, V = wr := ⟨_, rfl⟩
      rw [← hV] at HBW qa0 qa1 qb0 qb1 ⊢
      have hzV : W.heap.size ≤ V.heap.size := by rw [hV]; omega
      clear HB1 HAB hV
      go_loopw [6] (fun i wr => ∃ (k : Nat), k ≤ ns ∧ i = .int .i64 k ∧ x2.take k = y2.take k ∧ Below V.heap.size V wr) (fun i _ => ns - (intOf i).toNat)
      case atStart => exact ⟨0, Nat.zero_le _, rfl, rfl, Below.refl _ _⟩
      case round =>
        obtain ⟨k, hk, rfl, ht, hb⟩ := hrel
        have HT := Lib.hid ht
        have hbA := HBW.out.trans (hb.mono HBW.out.size)
        have hsz1 := hbA.size
        have hsz2 := hb.size
        clear ht
        replace qa1 := cl hb qa1
        replace qb1 := cl hb qb1
        by_cases hlt : k < ns
        · obtain ⟨b, off, rfl, hbl, hcells⟩ := H2.out.baseIn hbA (by omega)
          obtain ⟨b2, off2, rfl, hbl2, hcells2⟩ := H4.out.baseIn hbA (by omega)
          obtain ⟨u, hu⟩ := H2.out.get hlt
          obtain ⟨v, hv⟩ := H4.out.get hlt
          obtain ⟨x, hx⟩ : ∃ x, x2[k]? = some x := ⟨_, List.getElem?_eq_getElem (by have := HL.out; omega)⟩
          obtain ⟨y, hy⟩ : ∃ y, y2[k]? = some y := ⟨_, List.getElem?_eq_getElem (by have := HL.out; omega)⟩
          have hru := (K2.out.2 k u x hu hx).on hbA
          have hrv := (K4.out.2 k v y hv hy).on hbA
          have e0 : wr.cell? ⟨b, off + k * 8, none⟩ = some (.int .i64 u.id) := Sl.at_ hcells hu 0 rfl
          have e1 : wr.cell? ⟨b, off + k * 8 + 1, none⟩ = some (.int .i64 u.acc) := Sl.at_ hcells hu 1 rfl
          have e2 : wr.cell? ⟨b, off + k * 8 + 2, none⟩ = some (.int .i64 u.since) := Sl.at_ hcells hu 2 rfl
          have e3 : wr.cell? ⟨b, off + k * 8 + 3, none⟩ = some (.string u.plan) := Sl.at_ hcells hu 3 rfl
          have e4 : wr.cell? ⟨b, off + k * 8 + 4, none⟩ = some (.slice u.An u.nn u.cn) := Sl.at_ hcells hu 4 rfl
          have e5 : wr.cell? ⟨b, off + k * 8 + 5, none⟩ = some (.slice u.Ap u.np u.cp) := Sl.at_ hcells hu 5 rfl
          have e6 : wr.cell? ⟨b, off + k * 8 + 6, none⟩ = some (.bool u.susp) := Sl.at_ hcells hu 6 rfl
          have e7 : wr.cell? ⟨b, off + k * 8 + 7, none⟩ = some (.bool u.fam) := Sl.at_ hcells hu 7 rfl
          have f0 : wr.cell? ⟨b2, off2 + k * 8, none⟩ = some (.int .i64 v.id) := Sl.at_ hcells2 hv 0 rfl
          have f1 : wr.cell? ⟨b2, off2 + k * 8 + 1, none⟩ = some (.int .i64 v.acc) := Sl.at_ hcells2 hv 1 rfl
          have f2 : wr.cell? ⟨b2, off2 + k * 8 + 2, none⟩ = some (.int .i64 v.since) := Sl.at_ hcells2 hv 2 rfl
          have f3 : wr.cell? ⟨b2, off2 + k * 8 + 3, none⟩ = some (.string v.plan) := Sl.at_ hcells2 hv 3 rfl
          have f4 : wr.cell? ⟨b2, off2 + k * 8 + 4, none⟩ = some (.slice v.An v.nn v.cn) := Sl.at_ hcells2 hv 4 rfl
          have f5 : wr.cell? ⟨b2, off2 + k * 8 + 5, none⟩ = some (.slice v.Ap v.np v.cp) := Sl.at_ hcells2 hv 5 rfl
          have f6 : wr.cell? ⟨b2, off2 + k * 8 + 6, none⟩ = some (.bool v.susp) := Sl.at_ hcells2 hv 6 rfl
          have f7 : wr.cell? ⟨b2, off2 + k * 8 + 7, none⟩ = some (.bool v.fam) := Sl.at_ hcells2 hv 7 rfl
          have HX := Lib.hid (take_ne hx hy)
          have HY := Lib.hid (fun h => take_eq hx hy h HT.out)
          clear hcells hcells2 hx hy hu hv
          by_cases q : x = y
          · have HC : Hid (∀ w', Below wr.heap.size wr w' → Calls Try.prog 37 #[u.val, v.val] w' fun r w'' => r = .returned (.bool true) ∧ Below w'.heap.size w' w'') := Lib.hid (fun w' hk => (SameSub_any u v x y w' (hru.on hk) (hrv.on hk)).mono fun r w'' h => ⟨h.1.t q, h.2⟩)
            have HE := Lib.hid (HY.out q)
            clear q HX HY hru hrv
            unfold Sv.val at HC
            go_upto_region 11 with (fail)
            ((with_reducible refine wp_region_class (Below wr.heap.size wr) ?_ ?_ ?_ ?_); kernel_rfl; kernel_rfl; (exact (Below.refl _ _).drew); (intro hnonemp); (have zqa1 := fun z : Wd (Below wr.heap.size wr) => cl z.h qa1; have zqb1 := fun z : Wd (Below wr.heap.size wr) => cl z.h qb1; have ze0 := fun z : Wd (Below wr.heap.size wr) => cl z.h e0; have ze1 := fun z : Wd (Below wr.heap.size wr) => cl z.h e1; have ze2 := fun z : Wd (Below wr.heap.size wr) => cl z.h e2; have ze3 := fun z : Wd (Below wr.heap.size wr) => cl z.h e3; have ze4 := fun z : Wd (Below wr.heap.size wr) => cl z.h e4; have ze5 := fun z : Wd (Below wr.heap.size wr) => cl z.h e5; have ze6 := fun z : Wd (Below wr.heap.size wr) => cl z.h e6; have ze7 := fun z : Wd (Below wr.heap.size wr) => cl z.h e7; have zf0 := fun z : Wd (Below wr.heap.size wr) => cl z.h f0; have zf1 := fun z : Wd (Below wr.heap.size wr) => cl z.h f1; have zf2 := fun z : Wd (Below wr.heap.size wr) => cl z.h f2; have zf3 := fun z : Wd (Below wr.heap.size wr) => cl z.h f3; have zf4 := fun z : Wd (Below wr.heap.size wr) => cl z.h f4; have zf5 := fun z : Wd (Below wr.heap.size wr) => cl z.h f5; have zf6 := fun z : Wd (Below wr.heap.size wr) => cl z.h f6; have zf7 := fun z : Wd (Below wr.heap.size wr) => cl z.h f7); (repeat (any_goals (first | go_big_quiet_step (((first | (go_at_call 37; (with_reducible refine (HC.out _ (Wd.h _)).mono ?_); rintro e w' ⟨rfl, hbk⟩; exact ⟨rfl, ⟨w', Below.trans (Wd.h _) (hbk.mono (Below.size (Wd.h _)))⟩, rfl⟩)))) | (refine wpQuiet_step (fun K hK => ?_); go_simp; (first | (refine hK _ ?_; clear hK K) | (split <;> rename_i hg <;> (refine hK _ ?_; clear hK K) <;> (try simp only [Bool.not_eq_true] at hg) <;> (first | simp only [Int.not_lt.2 hg, decide_false] | simp only [Int.not_le.1 hg, decide_true] | simp only [hg, decide_true, decide_false] | skip)))))));  all_goals (refine wpQuiet_nil ?_; intro wq hgq))
            go_wp2_with fail
            go_roundw
            case rel => exact ⟨k + 1, by omega, by go_num, HE.out, hb.trans (hgq.mono hb.size)⟩
            case measure => simp [intOf]; omega
          · have HC : Hid (∀ w', Below wr.heap.size wr w' → Calls Try.prog 37 #[u.val, v.val] w' fun r w'' => r = .returned (.bool false) ∧ Below w'.heap.size w' w'') := Lib.hid (fun w' hk => (SameSub_any u v x y w' (hru.on hk) (hrv.on hk)).mono fun r w'' h => ⟨h.1.f q, h.2⟩)
            have HE := Lib.hid (HX.out q)
            clear q HX HY hru hrv
            unfold Sv.val at HC
            go_upto_region 11 with (fail)
            ((with_reducible refine wp_region_class (Below wr.heap.size wr) ?_ ?_ ?_ ?_); kernel_rfl; kernel_rfl; (exact (Below.refl _ _).drew); (intro hnonemp); (have zqa1 := fun z : Wd (Below wr.heap.size wr) => cl z.h qa1; have zqb1 := fun z : Wd (Below wr.heap.size wr) => cl z.h qb1; have ze0 := fun z : Wd (Below wr.heap.size wr) => cl z.h e0; have ze1 := fun z : Wd (Below wr.heap.size wr) => cl z.h e1; have ze2 := fun z : Wd (Below wr.heap.size wr) => cl z.h e2; have ze3 := fun z : Wd (Below wr.heap.size wr) => cl z.h e3; have ze4 := fun z : Wd (Below wr.heap.size wr) => cl z.h e4; have ze5 := fun z : Wd (Below wr.heap.size wr) => cl z.h e5; have ze6 := fun z : Wd (Below wr.heap.size wr) => cl z.h e6; have ze7 := fun z : Wd (Below wr.heap.size wr) => cl z.h e7; have zf0 := fun z : Wd (Below wr.heap.size wr) => cl z.h f0; have zf1 := fun z : Wd (Below wr.heap.size wr) => cl z.h f1; have zf2 := fun z : Wd (Below wr.heap.size wr) => cl z.h f2; have zf3 := fun z : Wd (Below wr.heap.size wr) => cl z.h f3; have zf4 := fun z : Wd (Below wr.heap.size wr) => cl z.h f4; have zf5 := fun z : Wd (Below wr.heap.size wr) => cl z.h f5; have zf6 := fun z : Wd (Below wr.heap.size wr) => cl z.h f6; have zf7 := fun z : Wd (Below wr.heap.size wr) => cl z.h f7); (repeat (any_goals (first | go_big_quiet_step (((first | (go_at_call 37; (with_reducible refine (HC.out _ (Wd.h _)).mono ?_); rintro e w' ⟨rfl, hbk⟩; exact ⟨rfl, ⟨w', Below.trans (Wd.h _) (hbk.mono (Below.size (Wd.h _)))⟩, rfl⟩)))) | (refine wpQuiet_step (fun K hK => ?_); go_simp; (first | (refine hK _ ?_; clear hK K) | (split <;> rename_i hg <;> (refine hK _ ?_; clear hK K) <;> (try simp only [Bool.not_eq_true] at hg) <;> (first | simp only [Int.not_lt.2 hg, decide_false] | simp only [Int.not_le.1 hg, decide_true] | simp only [hg, decide_true, decide_false] | skip)))))));  all_goals (refine wpQuiet_nil ?_; intro wq hgq))
            go_wp2_with fail
            go_ret
            exact ⟨⟨false, rfl, by simp only [Bool.false_eq_true, false_iff]; exact fun e => HE.out (HNE.out e).2⟩, hbA.trans (hgq.mono hbA.size)⟩
        · obtain rfl : k = ns := by omega
          have hkn : ¬ ((k : Int) < (k : Int)) := by omega
          have HA : Hid (x2 = y2) := Lib.hid (take_all HL.out.2.1 HL.out.2.2.2 HT.out)
          go_wp2_with fail
          go_ret
          exact ⟨⟨true, rfl, by simp only [true_iff]; rw [HA.out, HA1.out]⟩, hbA⟩
end Cu
end Go.Proofs.Yteaanngagcflhaa
