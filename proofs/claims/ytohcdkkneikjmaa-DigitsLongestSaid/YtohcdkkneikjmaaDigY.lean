/-
  Digits: the law on Longest: its walk. No condition.
-/
import Derived.Test.YtohcdkkneikjmaaDigL
import Derived.BigQuiet
import Derived.StillTailTactics
import Derived.Lib.Overlaps
import Derived.Deep.DeepCutAuto
set_option maxRecDepth 100000
set_option linter.unusedVariables false
set_option linter.unusedSimpArgs false
namespace Go.Proofs.Ytohcdkkneikjmaa
open Go.RowKit

namespace Dg

theorem Lt_append (ps : List ByteArray) (q : ByteArray) : Lt (ps ++ [q]) = Lt ps ++ [q.data.toList] := by simp [Lt]
theorem Lt_len (ps : List ByteArray) : (Lt ps).length = ps.length := by simp [Lt]

set_option maxHeartbeats 1000000 in
theorem longest_law (s : ByteArray) (A : Option Addr) (n c : Nat) (ps : List ByteArray) (more : ByteArray) (w : World) (h : Sl w A n c ps) (hA : A = none → c = 0) :
    Calls Try.prog 3 #[.string s, .slice A n c, .string more] w fun e w' => e = .returned (.bool true) ∧ Below w.heap.size w w' := by
  have H := Lib.hid h
  have HA := Lib.hid hA
  have hnx := h.nmax
  clear h hA
  by_cases hs : 200 < s.size ∨ 200 < n ∨ 200 < more.size
  · have key : ∀ (fa fb fc : Bool), decide ((s.size : Int) > 200) = fa → decide (200 < (s.size : Int)) = fa → decide ((n : Int) > 200) = fb → decide (200 < (n : Int)) = fb → decide ((more.size : Int) > 200) = fc → decide (200 < (more.size : Int)) = fc → (fa || fb || fc) = true →
        Calls Try.prog 3 #[.string s, .slice A n c, .string more] w fun e w' => e = .returned (.bool true) ∧ Below w.heap.size w w' := by
      intro fa fb fc g1 g2 g3 g4 g5 g6 hor
      clear hs
      cases fa
      · cases fb
        · cases fc
          · cases hor
          · clear hor
            go_enter Try.func3, Try.ntmps3
            go_wp2_with (go_at_call 10; go_must (refine (awake_any _).mono ?_; rintro e w1 ⟨rfl, hb1⟩))
            go_ret
            exact ⟨rfl, hb1⟩
        · clear hor
          go_enter Try.func3, Try.ntmps3
          go_wp2_with (go_at_call 10; go_must (refine (awake_any _).mono ?_; rintro e w1 ⟨rfl, hb1⟩))
          go_ret
          exact ⟨rfl, hb1⟩
      · clear hor
        go_enter Try.func3, Try.ntmps3
        go_wp2_with (go_at_call 10; go_must (refine (awake_any _).mono ?_; rintro e w1 ⟨rfl, hb1⟩))
        go_ret
        exact ⟨rfl, hb1⟩
    exact key _ _ _ rfl rfl rfl rfl rfl rfl (by simp; omega)
  · have f1 : decide ((s.size : Int) > 200) = false := by simp; omega
    have f2 : decide (200 < (s.size : Int)) = false := by simp; omega
    have f3 : decide ((n : Int) > 200) = false := by simp; omega
    have f4 : decide (200 < (n : Int)) = false := by simp; omega
    have f5 : decide ((more.size : Int) > 200) = false := by simp; omega
    have f6 : decide (200 < (more.size : Int)) = false := by simp; omega
    have hn2 : n ≤ 200 := by omega
    clear hs
    have HLEN := Lib.hid H.out.len
    go_enter Try.func3, Try.ntmps3
    go_wp2_with fail
    go_loop [7] (fun i => ∃ k : Nat, k ≤ n ∧ i = .int .i64 k) (fun i => n - (intOf i).toNat)
    case atStart => exact ⟨0, Nat.zero_le _, rfl⟩
    case round =>
      obtain ⟨k, hk, rfl⟩ := hrel
      by_cases hlt : k < n
      · obtain ⟨b, off, rfl, hbw, hc⟩ := Sl.one rfl H.out (by omega)
        obtain ⟨p, hp⟩ := H.out.get hlt
        have c0 : w.cell? ⟨b, off + k, none⟩ = some (.string p) := hc k p _ hp rfl
        clear hp hc
        by_cases hps : 200 < p.size
        · have f7 : decide ((p.size : Int) > 200) = true := by simp; omega
          have f8 : decide (200 < (p.size : Int)) = true := by simp; omega
          go_wp2_with (go_at_call 10; go_must (refine (awake_any _).mono ?_; rintro e w1 ⟨rfl, hb1⟩))
          go_ret
          exact ⟨rfl, hb1⟩
        · have f7 : decide ((p.size : Int) > 200) = false := by simp; omega
          have f8 : decide (200 < (p.size : Int)) = false := by simp; omega
          go_wp2_with fail
          go_round
          case rel => exact ⟨k + 1, by omega, by go_num⟩
          case measure => simp [intOf]; omega
      · obtain rfl : n = k := by omega
        obtain ⟨N, hN⟩ : ∃ N, longK s.data.toList (Lt ps) n = N := ⟨_, rfl⟩
        obtain ⟨M, hM⟩ : ∃ M, longK s.data.toList (Lt (ps ++ [more])) (n + 1) = M := ⟨_, rfl⟩
        have hMN : M = N ∨ (M = n ∧ Lib.hasPrefix s.data.toList more.data.toList = true) := by
          have := longest_more s.data.toList (Lt ps) more.data.toList
          rw [Lt_len, HLEN.out, hN, ← Lt_append, hM] at this
          exact this
        have HN := Lib.hid hN
        have HM := Lib.hid hM
        clear hN hM
        -- the first copy
        have HEM := Lib.hid (Ow.empty (α := ByteArray) w 9)
        have HS0 := Lib.hid (H.out.below ((Below.refl _ _).alloc (Nat.le_refl _) (.cells #[] 9)))
        go_wp2_with (at_builtin; go_must (refine wpl_appendS _ rfl (.tmp 38) (.tmp 39) 22 rfl w.heap.size 9 _ 16 Try.underlying22 info_str rfl _ ([] : List ByteArray) rfl HEM.out A n c ps rfl HA.out HS0.out (by simp; omega) (by omega) (by simp) ?_; intro v1 w1 hown1 hu1))
        rw [List.nil_append] at hown1
        have hb1 : Below w.heap.size w w1 := hu1.belowBase HEM.out ((Below.refl _ _).alloc (Nat.le_refl _) _) (by simp)
        obtain ⟨A1, c1, rfl, hs1⟩ := hown1.sl
        rw [HLEN.out] at hs1
        rw [HLEN.out]
        have HS1 := Lib.hid hs1
        clear hu1 hown1 hs1 HEM HS0
        go_wp2_with fail
        refine (longest_any s A1 n c1 ps _ HS1.out).mono ?_
        rw [HN.out]
        rintro e w' ⟨rfl, rfl⟩
        have hz1 := hb1.size
        -- the second one, with one more
        have HEM2 := Lib.hid (Ow.empty (α := ByteArray) w1 9)
        have HS2 := Lib.hid ((H.out.below hb1).below ((Below.refl _ _).alloc (Nat.le_refl _) (.cells #[] 9)))
        go_wp2_with (first
          | (at_builtin; refine wpl_appendS _ rfl (.tmp 43) (.tmp 44) 22 rfl w1.heap.size 9 _ 16 Try.underlying22 info_str rfl _ ([] : List ByteArray) rfl HEM2.out A n c ps rfl HA.out HS2.out (by simp; omega) (by omega) (by simp) ?_; intro v2 w2 hown2 hu2; have hb2 : Below w1.heap.size w1 w2 := hu2.belowBase HEM2.out ((Below.refl _ _).alloc (Nat.le_refl _) _) (by simp); have hz2 := hb2.size; clear hu2)
          | (at_builtin; refine wpl_append1 _ rfl (.tmp 45) (.tmp 47) 22 rfl w1.heap.size 9 _ 16 Try.underlying22 info_str rfl v2 ps rfl (by exact hown2.alloc _) _ more rfl (fun j u hu => cells_new _ _ _ _ _ (by simp) u hu) (by rw [HLEN.out]; omega) (by omega) (by (try simp) <;> omega) ?_; intro v3 w3 hown3 hu3; have hb3 : Below w1.heap.size w1 w3 := hu3.belowBase (hown2.alloc _) (hb2.alloc hz2 _) (by (try simp) <;> omega); clear hu3))
        obtain ⟨A3, c3, rfl, hs3⟩ := hown3.sl
        have hl3 : (ps ++ [more]).length = n + 1 := by rw [List.length_append, HLEN.out]; rfl
        rw [hl3] at hs3
        rw [hl3]
        have HS3 := Lib.hid hs3
        clear hs3 hown3 hown2 hl3 hb2 HEM2 HS2
        refine (longest_any s A3 (n + 1) c3 (ps ++ [more]) _ HS3.out).mono ?_
        rw [HM.out]
        rintro e w' ⟨rfl, rfl⟩
        have hbb := hb1.trans (hb3.mono hz1)
        have hz3 := hbb.size
        have HS4 := Lib.hid (H.out.below hbb)
        clear hb1 hb3
        rcases hMN with rfl | ⟨rfl, hpre⟩
        · go_wp2_with fail
          refine (reflongest_any s A n c ps _ HS4.out).mono ?_
          rw [HN.out]
          rintro e w4 ⟨rfl, hb4⟩
          go_wp2_with fail
          refine (awake_any _).mono ?_
          rintro e w5 ⟨rfl, hb5⟩
          have hz4 := hb4.size
          have hbe := (hbb.trans (hb4.mono hz3)).trans (hb5.mono (by omega))
          go_wp2_with fail
          go_ret
          exact ⟨rfl, hbe⟩
        · have HP := Lib.hid hpre
          clear hpre
          have hNn : N < (n : Int) := by rw [← HN.out]; exact (longK_bd _ _ _).2
          have hq1 : ((n : Int) == N) = false := by simp; omega
          have hq2 : ((n : Int) != N) = true := by simp; omega
          go_wp2_with fail
          refine (reflongest_any s A n c ps _ HS4.out).mono ?_
          rw [HN.out]
          rintro e w4 ⟨rfl, hb4⟩
          go_wp2_with fail
          refine (prefix_any s more _).mono ?_
          rw [HP.out]
          rintro e w' ⟨rfl, rfl⟩
          go_wp2_with fail
          refine (awake_any _).mono ?_
          rintro e w5 ⟨rfl, hb5⟩
          have hz4 := hb4.size
          have hbe := (hbb.trans (hb4.mono hz3)).trans (hb5.mono (by omega))
          go_wp2_with fail
          go_ret
          exact ⟨rfl, hbe⟩

end Dg
end Go.Proofs.Ytohcdkkneikjmaa
