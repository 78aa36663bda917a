/-
  Tariffs: ascending; laws Checks, At, Changes, Replaces. No condition.
-/
import Derived.Test.YtdnnnajohdohaaaT9F
import Derived.BigQuiet
import Derived.StillTailTactics
import Derived.Lib.Overlaps
import Derived.Deep.DeepCutAuto
import Derived.Deep.RegionWith
import Derived.Laws.RangeAny
set_option maxRecDepth 100000
set_option linter.unusedVariables false
set_option linter.unusedSimpArgs false
namespace Go.Proofs.Ytdnnnajohdohaaa
open Go.RowKit

namespace Cv
open Xp Ck
def AscL (Ts : List Td) : Prop := ∀ (j : Nat) (a b : Td), Ts[j]? = some a → Ts[j + 1]? = some b → cmpT a b < 0
theorem asc_step {Ts : List Td} {k : Nat} {a b : Td} (h : ∀ (j : Nat) (a b : Td), j + 1 < k → Ts[j]? = some a → Ts[j + 1]? = some b → cmpT a b < 0) (ha : Ts[k - 1]? = some a) (hb : Ts[k]? = some b) (hk : 1 ≤ k) (hc : cmpT a b < 0) :
    ∀ (j : Nat) (a b : Td), j + 1 < k + 1 → Ts[j]? = some a → Ts[j + 1]? = some b → cmpT a b < 0 := fun j x y hj hx hy => by
  rcases Nat.lt_or_ge (j + 1) k with h1 | h1
  · exact h j x y h1 hx hy
  · obtain rfl : k = j + 1 := by omega
    rw [Nat.add_sub_cancel] at ha
    rw [ha] at hx; rw [hb] at hy
    cases hx; cases hy
    exact hc
theorem cmp_less {a b : Td} (h : Op.bytesLess a.name.toList b.name.toList = true) : cmpT a b < 0 := by unfold cmpT cmpN; rw [if_pos h]; decide
theorem cmp_from {a b : Td} (h : (a.name.toList == b.name.toList) = true) (h2 : a.from_ < b.from_) : cmpT a b < 0 := by
  have h' : a.name.toList = b.name.toList := by simpa using h
  unfold cmpT cmpN
  rw [if_pos h', if_pos h2]
  split <;> decide
set_option maxHeartbeats 8000000 in
theorem ascending_any (A : Option Addr) (n c : Nat) (Ts : List Td) (w : World) (h : LT w A n c Ts) :
    Calls Try.prog 13 #[.slice A n c] w fun e w' => SmP e (AscL Ts) ∧ Below w.heap.size w w' := by
  obtain ⟨_, ts, hs, ha⟩ := h
  have hn := hs.nmax
  have HS := Lib.hid hs
  have HA := Lib.hid ha
  have HLen := Lib.hid (show Ts.length = n by rw [← ha.1, hs.len])
  clear hs ha
  go_enter Try.func13, Try.ntmps13
  go_wp2_with fail
  go_loopw [3] (fun i wr => ∃ k : Nat, 1 ≤ k ∧ (k ≤ n ∨ k = 1) ∧ i = .int .i64 k ∧ (∀ (j : Nat) (a b : Td), j + 1 < k → Ts[j]? = some a → Ts[j + 1]? = some b → cmpT a b < 0) ∧ Below w.heap.size w wr) (fun i _ => n - (intOf i).toNat)
  case atStart => exact ⟨1, Nat.le_refl _, .inr rfl, rfl, fun j a b hj => absurd hj (by omega), Below.refl _ _⟩
  case round =>
    obtain ⟨k, hk1, hk, rfl, ho, hbr⟩ := hrel
    have HO := Lib.hid ho
    clear ho
    by_cases hlt : k < n
    · have hw1 : IntKind.i64.wrap ((k : Int) - 1) = ((k - 1 : Nat) : Int) := by rw [IntWalk.i64_in _ (by omega)]; omega
      have hw2 : 0 ≤ ((k - 1 : Nat) : Int) := by omega
      have hw3 : ((k - 1 : Nat) : Int).toNat = k - 1 := by omega
      have hw4 : ((k - 1 : Nat) : Int) < (n : Int) := by omega
      obtain ⟨b, off, rfl, hbl, hcells⟩ := HS.out.baseIn hbr (by omega)
      obtain ⟨t, hx⟩ := HS.out.get hlt
      obtain ⟨T, hT, hTD⟩ := HA.out.at_ hx
      (have e0 : wr.cell? ⟨b, off + k * 7, none⟩ = some (.string t.name) := Sl.at_ hcells hx 0 rfl; have e1 : wr.cell? ⟨b, off + k * 7 + 1, none⟩ = some (.int .i64 t.from_) := Sl.at_ hcells hx 1 rfl; have e2 : wr.cell? ⟨b, off + k * 7 + 2, none⟩ = some (.bool t.split) := Sl.at_ hcells hx 2 rfl; have e3 : wr.cell? ⟨b, off + k * 7 + 3, none⟩ = some (.slice t.Az t.nz t.cz) := Sl.at_ hcells hx 3 rfl; have e4 : wr.cell? ⟨b, off + k * 7 + 4, none⟩ = some (.slice t.Ab t.nb t.cb) := Sl.at_ hcells hx 4 rfl; have e5 : wr.cell? ⟨b, off + k * 7 + 5, none⟩ = some (.slice t.Ar t.nr t.cr) := Sl.at_ hcells hx 5 rfl; have e6 : wr.cell? ⟨b, off + k * 7 + 6, none⟩ = some (.slice t.Ad t.nd t.cd) := Sl.at_ hcells hx 6 rfl)
      obtain ⟨u, hu⟩ := HS.out.get (show k - 1 < n by omega)
      obtain ⟨U, hU, hUD⟩ := HA.out.at_ hu
      (have d0 : wr.cell? ⟨b, off + (k - 1) * 7, none⟩ = some (.string u.name) := Sl.at_ hcells hu 0 rfl; have d1 : wr.cell? ⟨b, off + (k - 1) * 7 + 1, none⟩ = some (.int .i64 u.from_) := Sl.at_ hcells hu 1 rfl; have d2 : wr.cell? ⟨b, off + (k - 1) * 7 + 2, none⟩ = some (.bool u.split) := Sl.at_ hcells hu 2 rfl; have d3 : wr.cell? ⟨b, off + (k - 1) * 7 + 3, none⟩ = some (.slice u.Az u.nz u.cz) := Sl.at_ hcells hu 3 rfl; have d4 : wr.cell? ⟨b, off + (k - 1) * 7 + 4, none⟩ = some (.slice u.Ab u.nb u.cb) := Sl.at_ hcells hu 4 rfl; have d5 : wr.cell? ⟨b, off + (k - 1) * 7 + 5, none⟩ = some (.slice u.Ar u.nr u.cr) := Sl.at_ hcells hu 5 rfl; have d6 : wr.cell? ⟨b, off + (k - 1) * 7 + 6, none⟩ = some (.slice u.Ad u.nd u.cd) := Sl.at_ hcells hu 6 rfl)
      have HST := Lib.hid (fun hc : cmpT U T < 0 => asc_step HO.out hU hT hk1 hc)
      have HN := Lib.hid (show u.name = U.name ∧ u.from_ = U.from_ ∧ t.name = T.name ∧ t.from_ = T.from_ from ⟨hUD.name, hUD.from_, hTD.name, hTD.from_⟩)
      clear hcells hx hT hTD hu hU hUD e2 e3 e4 e5 e6 d2 d3 d4 d5 d6
      cases hb1 : Op.bytesLess u.name.toList t.name.toList
      · cases hb2 : (u.name.toList == t.name.toList)
        · go_wp2_with (((with_reducible refine wp_region_quiet_lit ?_ ?_ ?_); kernel_rfl; kernel_rfl; (repeat (any_goals (first | go_big_quiet_step (fail) | (refine wpQuiet_step (fun K hK => ?_); go_simp; (first | (refine hK _ ?_; clear hK K) | (split <;> rename_i hg <;> (refine hK _ ?_; clear hK K) <;> (try simp only [Bool.not_eq_true] at hg) <;> (first | simp only [Int.not_lt.2 hg, decide_false] | simp only [Int.not_le.1 hg, decide_true] | simp only [hg, decide_true, decide_false] | skip))))))); all_goals (refine wpQuiet_nil ?_; intro _ hw'; obtain ⟨nq, hw''⟩ := hw'; subst hw'')))
          all_goals
            go_wp2_with fail
            go_ret
            exact ⟨SmP.no _, by first | exact hbr | exact below_drewN hbr _⟩
        · by_cases hf : t.from_ ≤ u.from_
          · go_wp2_with (((with_reducible refine wp_region_quiet_lit ?_ ?_ ?_); kernel_rfl; kernel_rfl; (repeat (any_goals (first | go_big_quiet_step (fail) | (refine wpQuiet_step (fun K hK => ?_); go_simp; (first | (refine hK _ ?_; clear hK K) | (split <;> rename_i hg <;> (refine hK _ ?_; clear hK K) <;> (try simp only [Bool.not_eq_true] at hg) <;> (first | simp only [Int.not_lt.2 hg, decide_false] | simp only [Int.not_le.1 hg, decide_true] | simp only [hg, decide_true, decide_false] | skip))))))); all_goals (refine wpQuiet_nil ?_; intro _ hw'; obtain ⟨nq, hw''⟩ := hw'; subst hw'')))
            all_goals
              go_wp2_with fail
              go_ret
              exact ⟨SmP.no _, by first | exact hbr | exact below_drewN hbr _⟩
          · have HF := Lib.hid (HST.out (cmp_from (by rw [← HN.out.1, ← HN.out.2.2.1]; exact hb2) (by rw [← HN.out.2.1, ← HN.out.2.2.2]; omega)))
            go_wp2_with (((with_reducible refine wp_region_quiet_lit ?_ ?_ ?_); kernel_rfl; kernel_rfl; (repeat (any_goals (first | go_big_quiet_step (fail) | (refine wpQuiet_step (fun K hK => ?_); go_simp; (first | (refine hK _ ?_; clear hK K) | (split <;> rename_i hg <;> (refine hK _ ?_; clear hK K) <;> (try simp only [Bool.not_eq_true] at hg) <;> (first | simp only [Int.not_lt.2 hg, decide_false] | simp only [Int.not_le.1 hg, decide_true] | simp only [hg, decide_true, decide_false] | skip))))))); all_goals (refine wpQuiet_nil ?_; intro _ hw'; obtain ⟨nq, hw''⟩ := hw'; subst hw'')))
            all_goals
              go_wp2_with fail
              go_roundw
              case rel => exact ⟨k + 1, by omega, .inl (by omega), by go_num, HF.out, by first | exact hbr | exact below_drewN hbr _⟩
              case measure => simp [intOf]; omega
      · have HF := Lib.hid (HST.out (cmp_less (by rw [← HN.out.1, ← HN.out.2.2.1]; exact hb1)))
        go_wp2_with (((with_reducible refine wp_region_quiet_lit ?_ ?_ ?_); kernel_rfl; kernel_rfl; (repeat (any_goals (first | go_big_quiet_step (fail) | (refine wpQuiet_step (fun K hK => ?_); go_simp; (first | (refine hK _ ?_; clear hK K) | (split <;> rename_i hg <;> (refine hK _ ?_; clear hK K) <;> (try simp only [Bool.not_eq_true] at hg) <;> (first | simp only [Int.not_lt.2 hg, decide_false] | simp only [Int.not_le.1 hg, decide_true] | simp only [hg, decide_true, decide_false] | skip))))))); all_goals (refine wpQuiet_nil ?_; intro _ hw'; obtain ⟨nq, hw''⟩ := hw'; subst hw'')))
        all_goals
          go_wp2_with fail
          first
          | (go_roundw
             case rel => exact ⟨k + 1, by omega, .inl (by omega), by go_num, HF.out, by first | exact hbr | exact below_drewN hbr _⟩
             case measure => simp [intOf]; omega)
          | (go_ret; exact ⟨SmP.no _, by first | exact hbr | exact below_drewN hbr _⟩)
    · have hkn : ¬ ((k : Int) < (n : Int)) := by omega
      have HQ : Hid (AscL Ts) := Lib.hid (fun j a b ha hb => HO.out j a b (by have := (List.getElem?_eq_some_iff.1 hb).1; have := HLen.out; omega) ha hb)
      go_wp2_with fail
      go_ret
      exact ⟨SmP.mk' _ HQ.out, hbr⟩
/-! ### the laws -/
set_option maxHeartbeats 8000000 in
theorem law_checks (A : Option Addr) (n c : Nat) (Ts : List Td) (w : World) (h : LT w A n c Ts) :
    Calls Try.prog 3 #[.slice A n c] w fun e w' => e = .returned (.bool true) ∧ Below w.heap.size w w' := by
  go_enter Try.func3, Try.ntmps3
  go_wp2_with fail
  refine (smallL_any A n c Ts w h).mono ?_
  rintro r w1 ⟨⟨m, rfl, -⟩, hb1⟩
  cases m
  · go_wp2_with fail
    refine (awake_any _).mono ?_
    rintro r w2 ⟨rfl, hb2⟩
    have hT := hb1.trans (hb2.mono hb1.size)
    clear hb2
    go_wp2_with fail
    go_ret
    exact ⟨rfl, hT⟩
  · go_wp2_with fail
    refine (check_any A n c Ts _ (h.on_ hb1)).mono ?_
    rintro r w2 ⟨rfl, hb2⟩
    have hT := hb1.trans (hb2.mono hb1.size)
    clear hb2
    go_wp2_with fail
    refine (refcheck_any A n c Ts _ (h.on_ hT)).mono ?_
    rintro r w3 ⟨rfl, hb3⟩
    replace hT := hT.trans (hb3.mono hT.size)
    clear hb3
    go_wp2_with fail
    refine (awake_any _).mono ?_
    rintro r w4 ⟨rfl, hb4⟩
    replace hT := hT.trans (hb4.mono hT.size)
    clear hb4
    go_wp2_with fail
    go_ret
    exact ⟨rfl, hT⟩
theorem wide_all {n : Nat} {Ts : List Td} (h : SmL n Ts) (hf : ∀ T ∈ Ts, Fits T) : ∀ T ∈ Ts, Wide T := fun T hT => Wide.of (h.o T hT) (hf T hT)
set_option maxHeartbeats 8000000 in
theorem law_at (A : Option Addr) (n c : Nat) (Ts : List Td) (nm : ByteArray) (t : Int) (w : World) (h : LT w A n c Ts) (hf : ∀ T ∈ Ts, Fits T) :
    Calls Try.prog 4 #[.slice A n c, .string nm, .int .i64 t] w fun e w' => e = .returned (.bool true) ∧ Below w.heap.size w w' := by
  have HLT := Lib.hid h
  have HFT := Lib.hid hf
  clear h hf
  go_enter Try.func4, Try.ntmps4
  go_wp2_with fail
  refine (smallL_any A n c Ts w HLT.out).mono ?_
  rintro r w1 ⟨⟨m, rfl, hm⟩, hT⟩
  have HM := Lib.hid hm
  clear hm
  cases m
  · go_wp2_with fail
    refine (awake_any _).mono ?_
    rintro r w2 ⟨rfl, hb2⟩
    replace hT := hT.trans (hb2.mono hT.size)
    clear hb2
    go_wp2_with fail
    go_ret
    exact ⟨rfl, hT⟩
  · have HW := Lib.hid (wide_all (HM.out rfl) HFT.out)
    clear HM
    by_cases h3 : (300 : Int) < (nm.size : Int)
    · go_wp2_with fail
      refine (awake_any _).mono ?_
      rintro r w2 ⟨rfl, hb2⟩
      replace hT := hT.trans (hb2.mono hT.size)
      clear hb2
      go_wp2_with fail
      go_ret
      exact ⟨rfl, hT⟩
    · go_wp2_with fail
      refine (ascending_any A n c Ts _ (HLT.out.on_ hT)).mono ?_
      rintro r w2 ⟨⟨m2, rfl, -⟩, hb2⟩
      replace hT := hT.trans (hb2.mono hT.size)
      clear hb2
      cases m2
      · go_wp2_with fail
        refine (awake_any _).mono ?_
        rintro r w3 ⟨rfl, hb3⟩
        replace hT := hT.trans (hb3.mono hT.size)
        clear hb3
        go_wp2_with fail
        go_ret
        exact ⟨rfl, hT⟩
      · go_wp2_with fail
        have c3 := at_any A n c Ts nm t _ (HLT.out.on_ hT) HW.out
        unfold Tv.val at c3
        refine c3.mono ?_
        clear c3
        rintro r w3 ⟨⟨a, rfl, ha⟩, hb3⟩
        replace hT := hT.trans (hb3.mono hT.size)
        clear hb3
        have HTA := Lib.hid ha
        clear ha
        obtain ⟨bx, hbx⟩ : ∃ b, (atD Ts nm t).2 = b := ⟨_, rfl⟩
        rw [hbx]
        have HB := Lib.hid hbx
        clear hbx
        go_wp2_with fail
        (obtain ⟨V, hWV, hbV, hzV, f1V, qfa⟩ := box1 w3 #[.string a.name, .int .i64 a.from_, .bool a.split, .slice a.Az a.nz a.cz, .slice a.Ab a.nb a.cb, .slice a.Ar a.nr a.cr, .slice a.Ad a.nd a.cd] 32; rw [← hWV]; have qa0 : V.cell? ⟨w3.heap.size, 0, none⟩ = some (.string a.name) := f1V 0 _ rfl; have qa1 : V.cell? ⟨w3.heap.size, 1, none⟩ = some (.int .i64 a.from_) := f1V 1 _ rfl; have qa2 : V.cell? ⟨w3.heap.size, 2, none⟩ = some (.bool a.split) := f1V 2 _ rfl; have qa3 : V.cell? ⟨w3.heap.size, 3, none⟩ = some (.slice a.Az a.nz a.cz) := f1V 3 _ rfl; have qa4 : V.cell? ⟨w3.heap.size, 4, none⟩ = some (.slice a.Ab a.nb a.cb) := f1V 4 _ rfl; have qa5 : V.cell? ⟨w3.heap.size, 5, none⟩ = some (.slice a.Ar a.nr a.cr) := f1V 5 _ rfl; have qa6 : V.cell? ⟨w3.heap.size, 6, none⟩ = some (.slice a.Ad a.nd a.cd) := f1V 6 _ rfl; clear hWV f1V)
        replace HTA := Lib.hid (HTA.out.on hbV)
        replace hT := hT.trans (hbV.mono hT.size)
        clear hbV qfa
        have c4 := refat_any A n c Ts nm t _ (HLT.out.on_ hT)
        unfold Tv.val at c4
        refine c4.mono ?_
        clear c4
        rintro r w4 ⟨⟨b, rfl, hb⟩, hb4⟩
        (have hzhb4 := hb4.size; replace qa0 := (hb4.cell (p := ⟨_, _, none⟩) (by (try dsimp only) <;> omega)).trans qa0; replace qa1 := (hb4.cell (p := ⟨_, _, none⟩) (by (try dsimp only) <;> omega)).trans qa1; replace qa2 := (hb4.cell (p := ⟨_, _, none⟩) (by (try dsimp only) <;> omega)).trans qa2; replace qa3 := (hb4.cell (p := ⟨_, _, none⟩) (by (try dsimp only) <;> omega)).trans qa3; replace qa4 := (hb4.cell (p := ⟨_, _, none⟩) (by (try dsimp only) <;> omega)).trans qa4; replace qa5 := (hb4.cell (p := ⟨_, _, none⟩) (by (try dsimp only) <;> omega)).trans qa5; replace qa6 := (hb4.cell (p := ⟨_, _, none⟩) (by (try dsimp only) <;> omega)).trans qa6)
        have hg4 : w3.heap.size < w4.heap.size := by omega
        replace HTA := Lib.hid (HTA.out.on hb4)
        replace hT := hT.trans (hb4.mono hT.size)
        clear hb4
        have HTB := Lib.hid hb
        clear hb
        rw [HB.out]
        go_upto_region 5 with (fail)
        (obtain ⟨U, hWU, hbU, hzU, f1U, pfa⟩ := box1 w4 #[.string b.name, .int .i64 b.from_, .bool b.split, .slice b.Az b.nz b.cz, .slice b.Ab b.nb b.cb, .slice b.Ar b.nr b.cr, .slice b.Ad b.nd b.cd] 32; rw [← hWU]; have pa0 : U.cell? ⟨w4.heap.size, 0, none⟩ = some (.string b.name) := f1U 0 _ rfl; have pa1 : U.cell? ⟨w4.heap.size, 1, none⟩ = some (.int .i64 b.from_) := f1U 1 _ rfl; have pa2 : U.cell? ⟨w4.heap.size, 2, none⟩ = some (.bool b.split) := f1U 2 _ rfl; have pa3 : U.cell? ⟨w4.heap.size, 3, none⟩ = some (.slice b.Az b.nz b.cz) := f1U 3 _ rfl; have pa4 : U.cell? ⟨w4.heap.size, 4, none⟩ = some (.slice b.Ab b.nb b.cb) := f1U 4 _ rfl; have pa5 : U.cell? ⟨w4.heap.size, 5, none⟩ = some (.slice b.Ar b.nr b.cr) := f1U 5 _ rfl; have pa6 : U.cell? ⟨w4.heap.size, 6, none⟩ = some (.slice b.Ad b.nd b.cd) := f1U 6 _ rfl; clear hWU f1U)
        (have hzhbU := hbU.size; replace qa0 := (hbU.cell (p := ⟨_, _, none⟩) (by (try dsimp only) <;> omega)).trans qa0; replace qa1 := (hbU.cell (p := ⟨_, _, none⟩) (by (try dsimp only) <;> omega)).trans qa1; replace qa2 := (hbU.cell (p := ⟨_, _, none⟩) (by (try dsimp only) <;> omega)).trans qa2; replace qa3 := (hbU.cell (p := ⟨_, _, none⟩) (by (try dsimp only) <;> omega)).trans qa3; replace qa4 := (hbU.cell (p := ⟨_, _, none⟩) (by (try dsimp only) <;> omega)).trans qa4; replace qa5 := (hbU.cell (p := ⟨_, _, none⟩) (by (try dsimp only) <;> omega)).trans qa5; replace qa6 := (hbU.cell (p := ⟨_, _, none⟩) (by (try dsimp only) <;> omega)).trans qa6)
        replace HTA := Lib.hid (HTA.out.on hbU)
        replace HTB := Lib.hid (HTB.out.on hbU)
        replace hT := hT.trans (hbU.mono hT.size)
        clear hbU pfa
        have c5 := sametariff_any a b _ U HTA.out HTB.out
        unfold Tv.val at c5
        have HC5 := Lib.hid c5
        clear c5 HTA HTB
        go_wp2_with fail
        refine HC5.out.mono ?_
        rintro r w5 ⟨rfl, hb5⟩
        replace hT := hT.trans (hb5.mono hT.size)
        clear hb5
        go_wp2_with fail
        refine (awake_any _).mono ?_
        rintro r w6 ⟨rfl, hb6⟩
        replace hT := hT.trans (hb6.mono hT.size)
        clear hb6
        go_wp2_with fail
        go_ret
        exact ⟨rfl, hT⟩
end Cv
end Go.Proofs.Ytdnnnajohdohaaa
