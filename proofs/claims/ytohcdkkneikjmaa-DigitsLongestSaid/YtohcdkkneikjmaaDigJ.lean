/-
  Digits: the reference's Unpack. No condition.
-/
import Derived.Test.YtohcdkkneikjmaaDigG
import Derived.Test.YtohcdkkneikjmaaRow
import Derived.BigQuiet
import Derived.StillTailTactics
import Derived.Lib.Overlaps
import Derived.Deep.DeepCutAuto
set_option maxRecDepth 100000
set_option linter.unusedVariables false
set_option linter.unusedSimpArgs false
namespace Go.Proofs.Ytohcdkkneikjmaa
open Go.RowKit

namespace Dg

theorem conv_new (y : UInt8) (w : World) (g : Nat) (hg : g = w.heap.size) : (convert 31 9 (.slice (some ⟨g, 0, none⟩) 1 1)).run Try.prog (w.alloc (.cells #[.int .u8 (y.toNat : Int)] 5)) = .ok (.string (bs [y])) (w.alloc (.cells #[.int .u8 (y.toNat : Int)] 5)) :=
  conv_str (Sl.new w #[.int .u8 (y.toNat : Int)] 5 g hg [y] 1 rfl (by unfold maxLen; decide) rfl)
theorem bs1 (y : UInt8) : (bs [y]).size = 1 := rfl
def Txt (t : ByteArray) (l : List UInt8) (k : Nat) : Prop := t.data.toList = unpK l k
theorem Txt.size {t : ByteArray} {l : List UInt8} {k : Nat} (h : Txt t l k) : t.size = (unpK l k).length := by rw [← size_list, h]
theorem Txt.two {t : ByteArray} {l : List UInt8} {k : Nat} {x : UInt8} (h : Txt t l k) (hg : l.getD k 0 = x) (h2 : two l k = true) : Txt (t ++ bs [hiD x] ++ bs [loD x]) l (k + 1) := by
  unfold Txt; rw [unpK_succ1 h2, hg, ByteArray.data_append, ByteArray.data_append]; simp [bs]; exact h
theorem Txt.one {t : ByteArray} {l : List UInt8} {k : Nat} {x : UInt8} (h : Txt t l k) (hg : l.getD k 0 = x) (h2 : Dg.two l k = false) : Txt (t ++ bs [hiD x]) l (k + 1) := by
  unfold Txt; rw [unpK_succ0 h2, hg, ByteArray.data_append]; simp [bs]; exact h

set_option maxHeartbeats 1000000 in
theorem refunpack_any (A : Option Addr) (n c : Nat) (l : List UInt8) (w : World) (h : Sl w A n c l) (hn : n ≤ 1000) :
    Calls Try.prog 20 #[.slice A n c] w fun e w' => e = .returned (unpV l) ∧ Below w.heap.size w w' := by
  have H := Lib.hid h
  clear h
  have hc2 := bs1
  go_enter Try.func20, Try.ntmps20
  go_wp2_with fail
  go_loopw [4, 5] (fun v i wr => ∃ (k : Nat) (t : ByteArray), k ≤ n ∧ k ≤ 16 ∧ i = .int .i64 k ∧ v = .string t ∧ Hid (Txt t l k) ∧ t.size ≤ 2 * k ∧ Below w.heap.size w wr) (fun _ i _ => n - (intOf i).toNat)
  case atStart => exact ⟨0, _, by omega, by omega, rfl, rfl, Lib.hid rfl, by decide, Below.refl _ _⟩
  case round =>
    obtain ⟨k, t, hk, hk16, rfl, rfl, HT, hts, hb⟩ := hrel
    have hzs := hb.size
    have hlen := Lib.hid H.out.len
    by_cases hlt : k < n ∧ k ≤ 15
    · obtain ⟨hlt, hle⟩ := hlt
      obtain ⟨b, off, rfl, hbw, hc⟩ := Sl.one rfl (H.out.below hb) (by omega)
      obtain ⟨x, hx⟩ := H.out.get hlt
      have c0 : wr.cell? ⟨b, off + k, none⟩ = some (.int .u8 (x.toNat : Int)) := hc k x _ hx rfl
      have HG := Lib.hid (show l.getD k 0 = x by simp [List.getD, hx])
      have hxl : (x.toNat : Int) ≤ 255 := by have := x.toNat_lt; omega
      have hxa := bits_and x
      have hX1 : (48 : Int) + (x.toNat : Int) / 16 = ((hiD x).toNat : Int) := by rw [hiD_nat]; omega
      have hX2 : (48 : Int) + (x.toNat : Int) % 16 = ((loD x).toNat : Int) := by rw [loD_nat]; omega
      clear hx hc
      have hca : ∀ nq, (convert 31 9 (.slice (some ⟨wr.heap.size, 0, none⟩) 1 1)).run Try.prog ((wr.drewN nq).alloc (.cells #[.int .u8 ((hiD x).toNat : Int)] 5)) = .ok (.string (bs [hiD x])) ((wr.drewN nq).alloc (.cells #[.int .u8 ((hiD x).toNat : Int)] 5)) :=
        fun nq => conv_new _ (wr.drewN nq) _ rfl
      have hcb : ∀ nq, (convert 31 9 (.slice (some ⟨wr.heap.size + 1, 0, none⟩) 1 1)).run Try.prog (((wr.drewN nq).alloc (.cells #[.int .u8 ((hiD x).toNat : Int)] 5)).alloc (.cells #[.int .u8 ((loD x).toNat : Int)] 5)) = .ok (.string (bs [loD x])) (((wr.drewN nq).alloc (.cells #[.int .u8 ((hiD x).toNat : Int)] 5)).alloc (.cells #[.int .u8 ((loD x).toNat : Int)] 5)) :=
        fun nq => conv_new _ ((wr.drewN nq).alloc (.cells #[.int .u8 ((hiD x).toNat : Int)] 5)) _ (by simp)
      cases h2 : two l k
      · have HS := Lib.hid (HT.out.one HG.out h2)
        simp only [two, HG.out, Bool.or_eq_false_iff, decide_eq_false_iff_not] at h2
        have h3 : (x.toNat : Int) % 16 = 15 := by omega
        have h4 : (n : Int) ≤ k + 1 := by have := h2.2; have := hlen.out; omega
        clear h2 hX2
        go_wp2_with ((with_reducible refine wp_region_quiet_lit ?_ ?_ ?_); kernel_rfl; kernel_rfl; (repeat (any_goals (first | go_big_quiet_step (fail) | (refine wpQuiet_step (fun K hK => ?_); go_simp; (first | (refine hK _ ?_; clear hK K) | (split <;> rename_i hg <;> (refine hK _ ?_; clear hK K) <;> (try simp only [Bool.not_eq_true] at hg) <;> (first | simp only [Int.not_lt.2 hg, decide_false] | simp only [Int.not_le.1 hg, decide_true] | simp only [hg, decide_true, decide_false] | skip))))))); all_goals (refine wpQuiet_nil ?_; intro _ hw'; obtain ⟨nq, hw''⟩ := hw'; subst hw''))
        go_roundw
        case rel => exact ⟨k + 1, _, by omega, by omega, by go_num, rfl, Lib.hid HS.out, by have q1 := bs1 (hiD x); have q2 := bs1 (loD x); simp only [ByteArray.size_append]; omega, by (repeat (first | exact hb | exact Below.refl _ _ | (refine Below.alloc ?_ (by (try simp) <;> omega) _) | (refine Below.setCell ?_ (by (try simp) <;> omega) _) | refine Below.drew ?_ | refine below_drewN ?_ _))⟩
        case measure => simp [intOf]; omega
      · have HS := Lib.hid (HT.out.two HG.out h2)
        simp only [two, HG.out, Bool.or_eq_true, decide_eq_true_eq] at h2
        by_cases h3 : (x.toNat : Int) % 16 = 15
        · have h4 : (k : Int) < n - 1 := by have := hlen.out; omega
          rw [h3] at hX2
          clear h2
          go_wp2_with ((with_reducible refine wp_region_quiet_lit ?_ ?_ ?_); kernel_rfl; kernel_rfl; (repeat (any_goals (first | go_big_quiet_step (fail) | (refine wpQuiet_step (fun K hK => ?_); go_simp; (first | (refine hK _ ?_; clear hK K) | (split <;> rename_i hg <;> (refine hK _ ?_; clear hK K) <;> (try simp only [Bool.not_eq_true] at hg) <;> (first | simp only [Int.not_lt.2 hg, decide_false] | simp only [Int.not_le.1 hg, decide_true] | simp only [hg, decide_true, decide_false] | skip))))))); all_goals (refine wpQuiet_nil ?_; intro _ hw'; obtain ⟨nq, hw''⟩ := hw'; subst hw''))
          go_roundw
          case rel => exact ⟨k + 1, _, by omega, by omega, by go_num, rfl, Lib.hid HS.out, by have q1 := bs1 (hiD x); have q2 := bs1 (loD x); simp only [ByteArray.size_append]; omega, by (repeat (first | exact hb | exact Below.refl _ _ | (refine Below.alloc ?_ (by (try simp) <;> omega) _) | (refine Below.setCell ?_ (by (try simp) <;> omega) _) | refine Below.drew ?_ | refine below_drewN ?_ _))⟩
          case measure => simp [intOf]; omega
        · have h4 : ((x.toNat : Int) % 16 != 15) = true := by simpa using h3
          clear h2 h3
          go_wp2_with ((with_reducible refine wp_region_quiet_lit ?_ ?_ ?_); kernel_rfl; kernel_rfl; (repeat (any_goals (first | go_big_quiet_step (fail) | (refine wpQuiet_step (fun K hK => ?_); go_simp; (first | (refine hK _ ?_; clear hK K) | (split <;> rename_i hg <;> (refine hK _ ?_; clear hK K) <;> (try simp only [Bool.not_eq_true] at hg) <;> (first | simp only [Int.not_lt.2 hg, decide_false] | simp only [Int.not_le.1 hg, decide_true] | simp only [hg, decide_true, decide_false] | skip))))))); all_goals (refine wpQuiet_nil ?_; intro _ hw'; obtain ⟨nq, hw''⟩ := hw'; subst hw''))
          go_roundw
          case rel => exact ⟨k + 1, _, by omega, by omega, by go_num, rfl, Lib.hid HS.out, by have q1 := bs1 (hiD x); have q2 := bs1 (loD x); simp only [ByteArray.size_append]; omega, by (repeat (first | exact hb | exact Below.refl _ _ | (refine Below.alloc ?_ (by (try simp) <;> omega) _) | (refine Below.setCell ?_ (by (try simp) <;> omega) _) | refine Below.drew ?_ | refine below_drewN ?_ _))⟩
          case measure => simp [intOf]; omega
    · have HSZ : Hid (t.size ≤ maxLen) := Lib.hid (by unfold maxLen; omega)
      have HFL : Hid ((valid t.data.toList = false ∧ unpOk l = false) ∨ (t = bs (unpK l l.length) ∧ valid t.data.toList = unpOk l ∧ 2 * n ≤ t.size + 1)) := by
        by_cases h16 : n ≤ 16
        · have hkn : k = l.length := by have := hlen.out; omega
          have e1 : t.data.toList = unpK l l.length := by rw [← hkn]; exact HT.out
          refine Lib.hid (.inr ⟨ba_ext (by rw [bs_list]; exact e1), by rw [e1]; rfl, ?_⟩)
          have e2 := ((unpK_len l l.length).2 (Nat.le_refl _)).1
          rw [← size_list, e1, ← hlen.out]; exact e2
        · have hkn : k = 16 := by omega
          have e1 := ref_long l (by rw [hlen.out]; omega)
          have e2 : t.data.toList = unpK l 16 := by rw [← hkn]; exact HT.out
          exact Lib.hid (.inl ⟨by rw [e2]; exact e1.1, e1.2⟩)
      by_cases hkn : k < n
      · have hk15 : ¬ k ≤ 15 := by omega
        clear hlt
        rcases HFL.out with ⟨hv, hok⟩ | ⟨htl, hv, h2n⟩
        · have HV := Lib.hid hv
          have HN := Lib.hid (unp_no hok)
          clear hv hok
          go_wp2_with (go_at_call 23; (with_reducible refine (refvalid_any _ _ HSZ.out).mono ?_); rw [HV.out]; rintro e w' ⟨rfl, rfl⟩)
          go_ret2
          exact ⟨congrArg Ending.returned HN.out.symm, hb⟩
        · exfalso; omega
      · have hkn2 : n = k := by omega
        clear hlt
        have h2n0 : n ≤ k := by omega
        clear hkn2
        rcases HFL.out with ⟨hv, hok⟩ | ⟨htl, hv, h2n⟩
        · have HV := Lib.hid hv
          have HN := Lib.hid (unp_no hok)
          clear hv hok
          go_wp2_with (go_at_call 23; (with_reducible refine (refvalid_any _ _ HSZ.out).mono ?_); rw [HV.out]; rintro e w' ⟨rfl, rfl⟩)
          go_ret2
          exact ⟨congrArg Ending.returned HN.out.symm, hb⟩
        · cases hok : unpOk l
          · have HV := Lib.hid (hv.trans hok)
            have HN := Lib.hid (unp_no hok)
            clear hv hok htl
            go_wp2_with (go_at_call 23; (with_reducible refine (refvalid_any _ _ HSZ.out).mono ?_); rw [HV.out]; rintro e w' ⟨rfl, rfl⟩)
            go_ret2
            exact ⟨congrArg Ending.returned HN.out.symm, hb⟩
          · have HV := Lib.hid (hv.trans hok)
            have HN := Lib.hid (unp_yes hok)
            rw [← htl] at HN
            clear hv hok htl
            go_wp2_with (go_at_call 23; (with_reducible refine (refvalid_any _ _ HSZ.out).mono ?_); rw [HV.out]; rintro e w' ⟨rfl, rfl⟩)
            go_ret2
            exact ⟨congrArg Ending.returned HN.out.symm, hb⟩

end Dg
end Go.Proofs.Ytohcdkkneikjmaa
