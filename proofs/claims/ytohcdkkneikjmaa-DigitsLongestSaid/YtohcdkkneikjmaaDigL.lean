/-
  Digits: the laws on Mask, Tells, Order, Normal: their walks. No condition.
-/
import Derived.Test.YtohcdkkneikjmaaDigK
import Derived.Test.YtohcdkkneikjmaaDigE
import Derived.Test.YtohcdkkneikjmaaDigJ
import Derived.Test.YtohcdkkneikjmaaLaw
import Derived.BigQuiet
import Derived.StillTailTactics
import Derived.Lib.Overlaps
import Derived.Deep.DeepCutAuto
import Derived.OpenShut
set_option maxRecDepth 100000
set_option linter.unusedVariables false
set_option linter.unusedSimpArgs false
namespace Go.Proofs.Ytohcdkkneikjmaa
open Go.RowKit

namespace Dg

theorem str_read {H : Type} {enc : TypeId × Value → H} {w : World} {base : Nat} {spare : Nat → Bool} {held : Bool} (n : Nat) (cs : List Value) (y : DataW H × List MemPlace) (hl : cs.length = Flat.sz ByteArray)
    (h : DataW.trod enc Try.prog w base spare held n 9 cs = some y) : ∃ x : ByteArray, cs = Flat.cells x := by
  obtain ⟨s, rfl, _, _⟩ := DataW.trod_string Try.underlying9 h
  exact ⟨s, rfl⟩
theorem u8_read {H : Type} {enc : TypeId × Value → H} {w : World} {base : Nat} {spare : Nat → Bool} {held : Bool} (n : Nat) (cs : List Value) (y : DataW H × List MemPlace) (hl : cs.length = Flat.sz UInt8)
    (h : DataW.trod enc Try.prog w base spare held n 5 cs = some y) : ∃ x : UInt8, cs = Flat.cells x := by
  obtain ⟨z, rfl, _, hw⟩ := DataW.trod_int Try.underlying5 h
  have hb := bounds_u8 hw
  exact ⟨UInt8.ofNat z.toNat, by
    show [Value.int .u8 z] = [Value.int .u8 ((UInt8.ofNat z.toNat).toNat : Int)]
    rw [UInt8.toNat_ofNat']
    congr 2
    omega⟩

theorem mask_law (s : ByteArray) (keep : Int) (w : World) (hk : (Lit.int .i64 keep).wf = true) :
    Calls Try.prog 7 #[.string s, .int .i64 keep] w fun e w' => e = .returned (.bool true) ∧ Below w.heap.size w w' := by
  have HK := Lib.hid hk
  clear hk
  by_cases h1 : 200 < s.size
  · have f1 : decide ((s.size : Int) > 200) = true := by simp; omega
    have f2 : decide (200 < (s.size : Int)) = true := by simp; omega
    go_enter Try.func7, Try.ntmps7
    go_wp2_with (go_at_call 10; go_must (refine (awake_any _).mono ?_; rintro e w1 ⟨rfl, hb1⟩))
    go_ret
    exact ⟨rfl, hb1⟩
  · have f1 : decide ((s.size : Int) > 200) = false := by simp; omega
    have f2 : decide (200 < (s.size : Int)) = false := by simp; omega
    go_enter Try.func7, Try.ntmps7
    go_wp2_with fail
    refine (mask_any s keep _ (by omega) HK.out).mono ?_
    rintro e w1 ⟨rfl, hb1⟩
    go_wp2_with fail
    refine (refmask_any s keep _ (by omega)).mono ?_
    rintro e w2 ⟨rfl, rfl⟩
    have hz1 := hb1.size
    go_wp2_with fail
    refine (awake_any _).mono ?_
    rintro e w3 ⟨rfl, hb3⟩
    have hbb := hb1.trans (hb3.mono hz1)
    go_wp2_with fail
    go_ret
    exact ⟨rfl, hbb⟩

set_option maxHeartbeats 1000000 in
theorem tells_law (a b : ByteArray) (w : World) (ha : a.size ≤ maxLen) (hb : b.size ≤ maxLen) :
    Calls Try.prog 8 #[.string a, .string b] w fun e w' => e = .returned (.bool true) ∧ Below w.heap.size w w' := by
  have HA := Lib.hid ha
  have HB := Lib.hid hb
  clear ha hb
  by_cases h1 : 200 < a.size
  · have f1 : decide ((a.size : Int) > 200) = true := by simp; omega
    have f2 : decide (200 < (a.size : Int)) = true := by simp; omega
    go_enter Try.func8, Try.ntmps8
    go_wp2_with (go_at_call 10; go_must (refine (awake_any _).mono ?_; rintro e w1 ⟨rfl, hb1⟩))
    go_ret
    exact ⟨rfl, hb1⟩
  · have f1 : decide ((a.size : Int) > 200) = false := by simp; omega
    have f2 : decide (200 < (a.size : Int)) = false := by simp; omega
    by_cases h2 : 200 < b.size
    · have f3 : decide ((b.size : Int) > 200) = true := by simp; omega
      have f4 : decide (200 < (b.size : Int)) = true := by simp; omega
      go_enter Try.func8, Try.ntmps8
      go_wp2_with (go_at_call 10; go_must (refine (awake_any _).mono ?_; rintro e w1 ⟨rfl, hb1⟩))
      go_ret
      exact ⟨rfl, hb1⟩
    · have f3 : decide ((b.size : Int) > 200) = false := by simp; omega
      have f4 : decide (200 < (b.size : Int)) = false := by simp; omega
      go_enter Try.func8, Try.ntmps8
      go_wp2_with fail
      refine (valid_any a _ HA.out).mono ?_
      rintro e w' ⟨rfl, rfl⟩
      go_wp2_with fail
      refine (refvalid_any a _ HA.out).mono ?_
      rintro e w' ⟨rfl, rfl⟩
      go_wp2_with fail
      refine (prefix_any a b _).mono ?_
      rintro e w' ⟨rfl, rfl⟩
      go_wp2_with fail
      refine (refprefix_any a b _).mono ?_
      rintro e w' ⟨rfl, rfl⟩
      go_wp2_with fail
      refine (compare_any a b _ HA.out HB.out).mono ?_
      rintro e w1 ⟨rfl, hb1⟩
      go_wp2_with fail
      refine (refcompare_any a b _ HA.out HB.out).mono ?_
      rintro e w' ⟨rfl, rfl⟩
      have hz1 := hb1.size
      go_wp2_with fail
      refine (awake_any _).mono ?_
      rintro e w3 ⟨rfl, hb3⟩
      have hbb := hb1.trans (hb3.mono hz1)
      go_wp2_with fail
      go_ret
      exact ⟨rfl, hbb⟩

set_option maxHeartbeats 1000000 in
theorem order_law (a b c : ByteArray) (w : World) (ha : a.size ≤ maxLen) (hb : b.size ≤ maxLen) (hc : c.size ≤ maxLen) :
    Calls Try.prog 9 #[.string a, .string b, .string c] w fun e w' => e = .returned (.bool true) ∧ Below w.heap.size w w' := by
  have HA := Lib.hid ha
  have HB := Lib.hid hb
  have HC := Lib.hid hc
  clear ha hb hc
  by_cases hs : 200 < a.size ∨ 200 < b.size ∨ 200 < c.size
  · have key : ∀ (fa fb fc : Bool), decide ((a.size : Int) > 200) = fa → decide (200 < (a.size : Int)) = fa → decide ((b.size : Int) > 200) = fb → decide (200 < (b.size : Int)) = fb → decide ((c.size : Int) > 200) = fc → decide (200 < (c.size : Int)) = fc → (fa || fb || fc) = true →
        Calls Try.prog 9 #[.string a, .string b, .string c] w fun e w' => e = .returned (.bool true) ∧ Below w.heap.size w w' := by
      intro fa fb fc g1 g2 g3 g4 g5 g6 hor
      clear hs
      cases fa
      · cases fb
        · cases fc
          · cases hor
          · clear hor
            go_enter Try.func9, Try.ntmps9
            go_wp2_with (go_at_call 10; go_must (refine (awake_any _).mono ?_; rintro e w1 ⟨rfl, hb1⟩))
            go_ret
            exact ⟨rfl, hb1⟩
        · clear hor
          go_enter Try.func9, Try.ntmps9
          go_wp2_with (go_at_call 10; go_must (refine (awake_any _).mono ?_; rintro e w1 ⟨rfl, hb1⟩))
          go_ret
          exact ⟨rfl, hb1⟩
      · clear hor
        go_enter Try.func9, Try.ntmps9
        go_wp2_with (go_at_call 10; go_must (refine (awake_any _).mono ?_; rintro e w1 ⟨rfl, hb1⟩))
        go_ret
        exact ⟨rfl, hb1⟩
    exact key _ _ _ rfl rfl rfl rfl rfl rfl (by simp; omega)
  · have f1 : decide ((a.size : Int) > 200) = false := by simp; omega
    have f2 : decide (200 < (a.size : Int)) = false := by simp; omega
    have f3 : decide ((b.size : Int) > 200) = false := by simp; omega
    have f4 : decide (200 < (b.size : Int)) = false := by simp; omega
    have f5 : decide ((c.size : Int) > 200) = false := by simp; omega
    have f6 : decide (200 < (c.size : Int)) = false := by simp; omega
    clear hs
    obtain ⟨x, hx⟩ : ∃ x, cmpL a.data.toList b.data.toList = x := ⟨_, rfl⟩
    obtain ⟨y, hy⟩ : ∃ y, cmpL b.data.toList c.data.toList = y := ⟨_, rfl⟩
    obtain ⟨z, hz⟩ : ∃ z, cmpL a.data.toList c.data.toList = z := ⟨_, rfl⟩
    obtain ⟨v, hv⟩ : ∃ v, cmpL b.data.toList a.data.toList = v := ⟨_, rfl⟩
    obtain ⟨q, hq⟩ : ∃ q, (a.toList == b.toList) = q := ⟨_, rfl⟩
    obtain ⟨p, hp⟩ : ∃ p, Lib.hasPrefix a.data.toList b.data.toList = p := ⟨_, rfl⟩
    have HX := Lib.hid hx
    have HY := Lib.hid hy
    have HZ := Lib.hid hz
    have HV := Lib.hid hv
    have HP := Lib.hid hp
    have k1 : v = -x := by rw [← hx, ← hv, cmp_neg a.data.toList]; omega
    have k2 : (decide (x = 0)) = q := by
      rw [← hq, Bool.eq_iff_iff, decide_eq_true_eq, ← hx, cmp_zero, beq_iff_eq, Lib.toList_data, Lib.toList_data]
    have k3 := cmp_bd a.data.toList b.data.toList
    rw [hx] at k3
    have k4 : x ≤ 0 → y ≤ 0 → z ≤ 0 := by rw [← hx, ← hy, ← hz]; exact cmp_trans _ _ _
    have k5 : 0 ≤ x → 0 ≤ y → 0 ≤ z := by
      intro h1 h2
      have h3 := cmp_trans c.data.toList b.data.toList a.data.toList
      rw [cmp_neg c.data.toList b.data.toList, cmp_neg b.data.toList a.data.toList, cmp_neg c.data.toList a.data.toList, hx, hy, hz] at h3
      have := h3 (by omega) (by omega)
      omega
    have k6 : p = true → q = true ∨ x = 1 := by
      intro h
      rcases cmp_prefix a.data.toList b.data.toList (by rw [hp]; exact h) with e | e
      · exact .inl (by rw [← hq, beq_iff_eq, Lib.toList_data, Lib.toList_data]; exact e)
      · exact .inr (by rw [← hx]; exact e)
    have HQ := Lib.hid hq
    have K4 := Lib.hid k4
    have K5 := Lib.hid k5
    have K6 := Lib.hid k6
    have hq2 : (a.toList == b.toList) = q := hq
    clear hx hy hz hv hp k4 k5 k6 hq
    obtain ⟨k31, k32⟩ := k3
    have hxp : (x = -1 ∧ q = false ∧ p = false) ∨ (x = 0 ∧ q = true) ∨ (x = 1 ∧ q = false) := by
      have hx3 : x = -1 ∨ x = 0 ∨ x = 1 := by omega
      rcases hx3 with rfl | rfl | rfl
      · refine .inl ⟨rfl, k2.symm, ?_⟩
        cases p
        · rfl
        · rcases K6.out rfl with h | h
          · rw [← k2] at h; exact absurd h (by decide)
          · exact absurd h (by decide)
      · exact .inr (.inl ⟨rfl, k2.symm⟩)
      · exact .inr (.inr ⟨rfl, k2.symm⟩)
    have hw2 : v = -x := k1
    clear k1 k2 k31 k32 hq2
    rcases hxp with ⟨rfl, rfl, rfl⟩ | ⟨rfl, rfl⟩ | ⟨rfl, rfl⟩
    all_goals
      have hw3 := hw2
      (try simp only [Int.neg_neg, Int.neg_zero] at hw3)
      subst hw3
      clear hw2
      have hq2 := HQ.out
      go_enter Try.func9, Try.ntmps9
      go_wp2_with fail
      refine (compare_any a b _ HA.out HB.out).mono ?_
      rw [HX.out]
      rintro e w1 ⟨rfl, hb1⟩
      go_wp2_with fail
      refine (compare_any b c _ HB.out HC.out).mono ?_
      rw [HY.out]
      rintro e w2 ⟨rfl, hb2⟩
      go_wp2_with fail
      refine (compare_any a c _ HA.out HC.out).mono ?_
      rw [HZ.out]
      rintro e w3 ⟨rfl, hb3⟩
      go_wp2_with fail
      refine (compare_any b a _ HB.out HA.out).mono ?_
      rw [HV.out]
      rintro e w4 ⟨rfl, hb4⟩
      have hz1 := hb1.size
      have hz2 := hb2.size
      have hz3 := hb3.size
      have hz4 := hb4.size
      have hbb := ((hb1.trans (hb2.mono hz1)).trans (hb3.mono (by omega))).trans (hb4.mono (by omega))
      clear hb1 hb2 hb3 hb4
      go_wp2_with fail
      all_goals first
        | (exfalso; first | omega | (have q1 := K4.out (by omega) (by omega); omega) | (have q1 := K5.out (by omega) (by omega); omega) | (have q1 := K4.out (by omega) (by omega); have q2 := K5.out (by omega) (by omega); omega))
        | (refine (prefix_any a b _).mono ?_
           rw [HP.out]
           rintro e w' ⟨rfl, rfl⟩
           (try cases p)
           all_goals
             go_wp2_with fail
             refine (awake_any _).mono ?_
             rintro e w5 ⟨rfl, hb5⟩
             have hbe := hbb.trans (hb5.mono (by omega))
             go_wp2_with fail
             go_ret
             exact ⟨rfl, hbe⟩)

end Dg
end Go.Proofs.Ytohcdkkneikjmaa
