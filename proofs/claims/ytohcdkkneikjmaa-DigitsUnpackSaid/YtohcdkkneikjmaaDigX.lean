/-
  Digits: the laws on Normal, Back, Unpack: their walks. No condition.
-/
import Derived.Test.YtohcdkkneikjmaaDigL
import Derived.BigQuiet
import Derived.StillTailTactics
import Derived.Lib.Overlaps
import Derived.Deep.DeepCutAuto
set_option maxRecDepth 100000
set_option linter.unusedVariables false
set_option linter.unusedSimpArgs false
namespace Go.Proofs.Ytohcdkkneikjmaa
open Go.RowKit

namespace Dg

set_option maxHeartbeats 1000000 in
theorem normal_law (s c : ByteArray) (w : World) :
    Calls Try.prog 4 #[.string s, .string c] w fun e w' => e = .returned (.bool true) ∧ Below w.heap.size w w' := by
  by_cases h1 : 200 < s.size
  · have f1 : decide ((s.size : Int) > 200) = true := by simp; omega
    have f2 : decide (200 < (s.size : Int)) = true := by simp; omega
    go_enter Try.func4, Try.ntmps4
    go_wp2_with (go_at_call 10; go_must (refine (awake_any _).mono ?_; rintro e w1 ⟨rfl, hb1⟩))
    go_ret
    exact ⟨rfl, hb1⟩
  · have f1 : decide ((s.size : Int) > 200) = false := by simp; omega
    have f2 : decide (200 < (s.size : Int)) = false := by simp; omega
    by_cases h2 : 200 < c.size
    · have f3 : decide ((c.size : Int) > 200) = true := by simp; omega
      have f4 : decide (200 < (c.size : Int)) = true := by simp; omega
      go_enter Try.func4, Try.ntmps4
      go_wp2_with (go_at_call 10; go_must (refine (awake_any _).mono ?_; rintro e w1 ⟨rfl, hb1⟩))
      go_ret
      exact ⟨rfl, hb1⟩
    · have f3 : decide ((c.size : Int) > 200) = false := by simp; omega
      have f4 : decide (200 < (c.size : Int)) = false := by simp; omega
      have hn1 : s.size ≤ 1000 := by omega
      have hn2 : c.size ≤ 1000 := by omega
      cases hok : normOk s.data.toList c.data.toList
      · have HN := Lib.hid (nrm_no hok)
        clear hok
        go_enter Try.func4, Try.ntmps4
        go_wp2_with fail
        refine (normal_any s c _ hn1 hn2).mono ?_
        rw [HN.out]
        rintro e w' ⟨rfl, rfl⟩
        go_wp2_with fail
        refine (refnormal_any s c _ hn1 hn2).mono ?_
        rw [HN.out]
        rintro e w' ⟨rfl, rfl⟩
        go_wp2_with fail
        refine (awake_any _).mono ?_
        rintro e w1 ⟨rfl, hb1⟩
        go_wp2_with fail
        go_ret
        exact ⟨rfl, hb1⟩
      · obtain ⟨t, ht⟩ : ∃ t, bs (norm s.data.toList c.data.toList) = t := ⟨_, rfl⟩
        obtain ⟨q1, q2, q3⟩ := norm_again hok
        have htl : t.data.toList = norm s.data.toList c.data.toList := by rw [← ht, bs_list]
        rw [← htl] at q1 q2 q3
        have HN : Hid (nrmV s c = .tuple #[.string t, .int .i64 0]) := by unfold nrmV nrmE; rw [hok, ht]; exact Lib.hid rfl
        have hpt : (⟨#[43]⟩ ++ t : ByteArray).data.toList = plus ++ t.data.toList := by rw [ByteArray.data_append, Array.toList_append]; rfl
        have HN2 : Hid (nrmV (⟨#[43]⟩ ++ t) c = .tuple #[.string t, .int .i64 0]) := by unfold nrmV nrmE; rw [hpt, q1, q2, bs_eta]; exact Lib.hid rfl
        have hts : t.size ≤ 15 := by rw [← size_list]; exact (valid_iff.1 q3).2.2
        have hps : (⟨#[43]⟩ ++ t : ByteArray).size ≤ 1000 := by rw [ByteArray.size_append]; have : (⟨#[43]⟩ : ByteArray).size = 1 := rfl; omega
        have HM : Hid (t.size ≤ maxLen) := Lib.hid (by unfold maxLen; omega)
        have HV := Lib.hid q3
        clear hok q1 q2 q3 htl hpt ht
        go_enter Try.func4, Try.ntmps4
        go_wp2_with fail
        refine (normal_any s c _ hn1 hn2).mono ?_
        rw [HN.out]
        rintro e w' ⟨rfl, rfl⟩
        go_wp2_with fail
        refine (refnormal_any s c _ hn1 hn2).mono ?_
        rw [HN.out]
        rintro e w' ⟨rfl, rfl⟩
        go_wp2_with fail
        refine (normal_any _ c _ hps hn2).mono ?_
        rw [HN2.out]
        rintro e w' ⟨rfl, rfl⟩
        go_wp2_with fail
        refine (valid_any t _ HM.out).mono ?_
        rw [HV.out]
        rintro e w' ⟨rfl, rfl⟩
        go_wp2_with fail
        refine (awake_any _).mono ?_
        rintro e w1 ⟨rfl, hb1⟩
        go_wp2_with fail
        go_ret
        exact ⟨rfl, hb1⟩

set_option maxHeartbeats 1000000 in
theorem back_law (s : ByteArray) (w : World) :
    Calls Try.prog 5 #[.string s] w fun e w' => e = .returned (.bool true) ∧ Below w.heap.size w w' := by
  by_cases h1 : 200 < s.size
  · have f1 : decide ((s.size : Int) > 200) = true := by simp; omega
    have f2 : decide (200 < (s.size : Int)) = true := by simp; omega
    go_enter Try.func5, Try.ntmps5
    go_wp2_with (go_at_call 10; go_must (refine (awake_any _).mono ?_; rintro e w1 ⟨rfl, hb1⟩))
    go_ret
    exact ⟨rfl, hb1⟩
  · have f1 : decide ((s.size : Int) > 200) = false := by simp; omega
    have f2 : decide (200 < (s.size : Int)) = false := by simp; omega
    obtain ⟨ok, hok⟩ : ∃ ok, valid s.data.toList = ok := ⟨_, rfl⟩
    obtain ⟨L, hL⟩ : ∃ L, (if valid s.data.toList = true then packL s.data.toList else []) = L := ⟨_, rfl⟩
    have HOK := Lib.hid hok
    have HL := Lib.hid hL
    have HLL : Hid (L.length ≤ 1000) := by
      rw [← hL]
      split
      · rw [packL, packK_len, size_list]; exact Lib.hid (by omega)
      · exact Lib.hid (by simp)
    clear hok hL
    have hn1 : s.size ≤ 1000 := by omega
    go_enter Try.func5, Try.ntmps5
    go_wp2_with fail
    refine (pack_any s _ hn1).mono ?_
    rintro e w1 ⟨v1, rfl, ho1, hb1⟩
    rw [HL.out] at ho1
    rw [HOK.out]
    obtain ⟨A1, c1, rfl, hs1⟩ := ho1.sl
    obtain ⟨n, hn⟩ : ∃ n, L.length = n := ⟨_, rfl⟩
    have hn3 : n ≤ 1000 := by rw [← hn]; exact HLL.out
    rw [hn] at hs1
    rw [hn]
    have HN := Lib.hid hn
    have HS1 := Lib.hid hs1
    clear ho1 hs1 hn
    go_wp2_with fail
    refine (refpack_any s _ hn1).mono ?_
    rintro e w2 ⟨v2, rfl, ho2, hb2⟩
    rw [HL.out] at ho2
    rw [HOK.out]
    obtain ⟨A2, c2, rfl, hs2⟩ := ho2.sl
    rw [HN.out] at hs2
    rw [HN.out]
    have hz1 := hb1.size
    have hz2 := hb2.size
    have hcv1 := conv_str (HS1.out.below hb2)
    have hcv2 := conv_str hs2
    have HS12 := Lib.hid (HS1.out.below hb2)
    have hbb := hb1.trans (hb2.mono hz1)
    clear ho2 hs2 hb1 hb2 HS1
    cases ok
    · have he0 : errE false = 12 := rfl
      go_wp2_with fail
      refine (awake_any _).mono ?_
      rintro e w3 ⟨rfl, hb3⟩
      have hbe := hbb.trans (hb3.mono (by omega))
      go_wp2_with fail
      go_ret
      exact ⟨rfl, hbe⟩
    · have he0 : errE true = 0 := rfl
      have HUB : Hid (unpV L = .tuple #[.string s, .int .i64 0]) := by
        have h1 := HL.out
        rw [if_pos HOK.out] at h1
        obtain ⟨q1, q2⟩ := unp_back HOK.out
        rw [h1] at q1 q2
        unfold unpV errE; rw [q1, q2, bs_eta]; exact Lib.hid rfl
      go_wp2_with fail
      refine (unpack_any A1 n c1 L _ HS12.out hn3).mono ?_
      rw [HUB.out]
      rintro e w3 ⟨rfl, hb3⟩
      have hbe := hbb.trans (hb3.mono (by omega))
      have hz3 := hb3.size
      go_wp2_with fail
      refine (awake_any _).mono ?_
      rintro e w4 ⟨rfl, hb4⟩
      have hbf := hbe.trans (hb4.mono (by omega))
      go_wp2_with fail
      go_ret
      exact ⟨rfl, hbf⟩

set_option maxHeartbeats 1000000 in
theorem unpack_law (A : Option Addr) (n c : Nat) (l : List UInt8) (w : World) (h : Sl w A n c l) (hA : A = none → c = 0) :
    Calls Try.prog 6 #[.slice A n c] w fun e w' => e = .returned (.bool true) ∧ Below w.heap.size w w' := by
  have H := Lib.hid h
  have HA := Lib.hid hA
  have hnx := h.nmax
  clear h hA
  by_cases h1 : 200 < n
  · have f1 : decide ((n : Int) > 200) = true := by simp; omega
    have f2 : decide (200 < (n : Int)) = true := by simp; omega
    go_enter Try.func6, Try.ntmps6
    go_wp2_with (go_at_call 10; go_must (refine (awake_any _).mono ?_; rintro e w1 ⟨rfl, hb1⟩))
    go_ret
    exact ⟨rfl, hb1⟩
  · have f1 : decide ((n : Int) > 200) = false := by simp; omega
    have f2 : decide (200 < (n : Int)) = false := by simp; omega
    have hn3 : n ≤ 1000 := by omega
    have hemp := Ow.empty (α := UInt8) w 5
    have HS0 := Lib.hid (H.out.below ((Below.refl _ _).alloc (Nat.le_refl _) (.cells #[] 5)))
    have HEM := Lib.hid hemp
    clear hemp
    go_enter Try.func6, Try.ntmps6
    go_wp2_with (at_builtin; go_must (refine wpl_appendS _ rfl (.tmp 12) (.tmp 13) 31 rfl w.heap.size 5 _ 1 Try.underlying31 info_u8 rfl _ ([] : List UInt8) rfl HEM.out A n c l rfl HA.out HS0.out (by simp; omega) (by omega) (by simp) ?_; intro v1 w1 hown1 hu1))
    rw [List.nil_append] at hown1
    have hb1 : Below w.heap.size w w1 := hu1.belowBase HEM.out ((Below.refl _ _).alloc (Nat.le_refl _) _) (by simp)
    obtain ⟨A1, c1, rfl, hs1⟩ := hown1.sl
    have hln := H.out.len
    rw [hln] at hs1
    rw [hln]
    have HS1 := Lib.hid hs1
    clear hu1 hown1 hs1 hln
    go_wp2_with fail
    refine (unpack_any A1 n c1 l _ HS1.out hn3).mono ?_
    obtain ⟨u, hu⟩ : ∃ u, bs (unpL l) = u := ⟨_, rfl⟩
    obtain ⟨er, her⟩ : ∃ er, errE (unpOk l) = er := ⟨_, rfl⟩
    have HU : Hid (unpV l = .tuple #[.string u, .int .i64 er]) := by unfold unpV; rw [hu, her]; exact Lib.hid rfl
    clear hu her
    rw [HU.out]
    rintro e w2 ⟨rfl, hb2⟩
    have hz1 := hb1.size
    have hz2 := hb2.size
    have hbb := hb1.trans (hb2.mono hz1)
    have HS2 := Lib.hid (H.out.below hbb)
    clear hb1 hb2
    go_wp2_with fail
    refine (refunpack_any A n c l _ HS2.out hn3).mono ?_
    rw [HU.out]
    rintro e w3 ⟨rfl, hb3⟩
    have hz3 := hb3.size
    have hbe := hbb.trans (hb3.mono (by omega))
    go_wp2_with fail
    refine (awake_any _).mono ?_
    rintro e w4 ⟨rfl, hb4⟩
    have hbf := hbe.trans (hb4.mono (by omega))
    go_wp2_with fail
    go_ret
    exact ⟨rfl, hbf⟩

end Dg
end Go.Proofs.Ytohcdkkneikjmaa
