/-
  Customers: law Links. No condition.
-/
import Derived.Test.YteaanngagcflhaaCuAL
import Derived.Test.YteaanngagcflhaaCuAP
import Derived.Test.YteaanngagcflhaaCuBG
import Derived.Test.YteaanngagcflhaaCuBA
import Derived.Test.YteaanngagcflhaaCuAS
import Derived.BigQuiet
import Derived.StillTailTactics
import Derived.Lib.Overlaps
import Derived.Deep.DeepCutAuto
import Derived.Deep.RegionWith
import Derived.Laws.RangeAny
set_option maxRecDepth 100000
set_option linter.unusedVariables false
set_option linter.unusedSimpArgs false
namespace Go.Proofs.Yteaanngagcflhaa
open Go.RowKit

namespace Cu
theorem be_or {α : Type} [BEq α] [LawfulBEq α] [DecidableEq α] (x y : α) : (x = y ∧ (x == y) = true ∧ (x != y) = false) ∨ (¬ x = y ∧ (x == y) = false ∧ (x != y) = true) := by
  by_cases h : x = y
  · exact .inl ⟨h, be_t h⟩
  · exact .inr ⟨h, be_f h⟩
theorem any_succ {α : Type} {p : α → Bool} {l : List α} {k : Nat} {d : α} (hd : l[k]? = some d) : (l.take (k + 1)).any p = ((l.take k).any p || p d) := by
  rw [List.take_add_one, hd, List.any_append]; simp
set_option maxHeartbeats 8000000 in
theorem inside_any (A : Option Addr) (n c : Nat) (xs : List Int) (x : Int) (w : World) (hs : Sl w A n c xs) (hup : xs.Pairwise (· < ·)) :
    Calls Try.prog 38 #[.slice A n c, .int .i64 x] w fun r w' => r = .returned (.bool (xs.any (fun y => y == x))) ∧ Below w.heap.size w w' := by
  have H := Lib.hid hs
  have hn := hs.nmax
  have HUP := Lib.hid hup
  have HL := Lib.hid hs.len
  clear hs hup
  go_enter Try.func38, Try.ntmps38
  go_wp2_with fail
  go_loopw [5, 6] (fun v5 i wr => ∃ (k : Nat) (b : Bool), k ≤ n ∧ v5 = .bool b ∧ i = .int .i64 k ∧ b = (xs.take k).any (fun y => y == x) ∧ Below w.heap.size w wr) (fun _ i _ => n - (intOf i).toNat)
  case atStart => exact ⟨0, false, Nat.zero_le _, rfl, rfl, rfl, Below.refl _ _⟩
  case round =>
    obtain ⟨k, b, hk, rfl, rfl, hb0, hbr⟩ := hrel
    have hgr := hbr.size
    have HB := Lib.hid hb0
    clear hb0
    by_cases hlt : k < n
    · obtain ⟨g, off, hAe, hbl, hcells⟩ := H.out.baseIn hbr (by omega)
      obtain ⟨y, hy⟩ := H.out.get hlt
      have e0 : wr.cell? ⟨g, off + k * 1, none⟩ = some (.int .i64 y) := Sl.at_ hcells hy 0 rfl
      rw [Nat.mul_one] at e0
      have HC := Lib.hid @hcells
      have HY := Lib.hid hy
      have HSU := Lib.hid (any_succ (p := fun y => y == x) hy)
      subst hAe
      clear hcells hy
      go_upto_region 5 with (fail)
      go_cut [26] from 37 (fun v wx => v = .bool false ∧ Below wr.heap.size wr wx)
      case first =>
        rcases Nat.eq_zero_or_pos k with hk0 | hk0
        · subst hk0
          have kd : decide ((0 : Int) < 0) = false := rfl
          ((with_reducible refine wp_region_quiet_lit ?_ ?_ ?_); kernel_rfl; kernel_rfl; (repeat (any_goals (first | go_big_quiet_step (fail) | (refine wpQuiet_step (fun K hK => ?_); go_simp; (first | (refine hK _ ?_; clear hK K) | (split <;> rename_i hg <;> (refine hK _ ?_; clear hK K) <;> (try simp only [Bool.not_eq_true] at hg) <;> (first | simp only [Int.not_lt.2 hg, decide_false] | simp only [Int.not_le.1 hg, decide_true] | simp only [hg, decide_true, decide_false] | skip))))))); all_goals (refine wpQuiet_nil ?_; intro _ hw'; obtain ⟨nq, hw''⟩ := hw'; subst hw''))
          go_wp2_with fail
          go_meet
          exact ⟨rfl, below_drewN (Below.refl _ _) _⟩
        · obtain ⟨p, hp⟩ := H.out.get (show k - 1 < n by omega)
          have f0 : wr.cell? ⟨g, off + (k - 1) * 1, none⟩ = some (.int .i64 p) := Sl.at_ HC.out hp 0 rfl
          rw [Nat.mul_one] at f0
          have hpy : p < y := up_before (f := fun z : Int => z) HUP.out hk0 hp HY.out
          have n3 : ¬ y ≤ p := by omega
          have m3 : decide (y ≤ p) = false := decide_eq_false n3
          have kd : decide ((0 : Int) < (k : Int)) = true := decide_eq_true (by omega)
          have kn : decide (0 < k) = true := decide_eq_true hk0
          have hm1 : IntKind.i64.wrap ((k : Int) - 1) = ((k - 1 : Nat) : Int) := by rw [IntWalk.i64_in _ (by omega)]; omega
          have hkl : k - 1 < n := by omega
          clear hp hpy
          ((with_reducible refine wp_region_quiet_lit ?_ ?_ ?_); kernel_rfl; kernel_rfl; (repeat (any_goals (first | go_big_quiet_step (fail) | (refine wpQuiet_step (fun K hK => ?_); go_simp; (first | (refine hK _ ?_; clear hK K) | (split <;> rename_i hg <;> (refine hK _ ?_; clear hK K) <;> (try simp only [Bool.not_eq_true] at hg) <;> (first | simp only [Int.not_lt.2 hg, decide_false] | simp only [Int.not_le.1 hg, decide_true] | simp only [hg, decide_true, decide_false] | skip))))))); all_goals (refine wpQuiet_nil ?_; intro _ hw'; obtain ⟨nq, hw''⟩ := hw'; subst hw''))
          go_wp2_with fail
          go_meet
          exact ⟨rfl, below_drewN (Below.refl _ _) _⟩
      case rest =>
        obtain ⟨rfl, hbC⟩ := hcut
        replace e0 := cl hbC e0
        have hbr2 := hbr.trans (hbC.mono hbr.size)
        have hk1w : IntKind.i64.wrap ((k : Int) + 1) = (k : Int) + 1 := IntWalk.i64_in _ (by omega)
        clear hbC HC
        cases b
        · rcases be_or y x with ⟨h2, b2, d2⟩ | ⟨h2, b2, d2⟩
          · have HN : Hid (true = (xs.take (k + 1)).any (fun y => y == x)) := Lib.hid (by rw [HSU.out, ← HB.out, b2]; rfl)
            clear h2
            go_wp2_with fail
            go_roundw
            case rel => exact ⟨k + 1, true, by omega, rfl, by go_num, HN.out, hbr2⟩
            case measure => simp [intOf]; omega
          · have HN : Hid (false = (xs.take (k + 1)).any (fun y => y == x)) := Lib.hid (by rw [HSU.out, ← HB.out, b2]; rfl)
            clear h2
            go_wp2_with fail
            go_roundw
            case rel => exact ⟨k + 1, false, by omega, rfl, by go_num, HN.out, hbr2⟩
            case measure => simp [intOf]; omega
        · have HN : Hid (true = (xs.take (k + 1)).any (fun y => y == x)) := Lib.hid (by rw [HSU.out, ← HB.out]; rfl)
          go_wp2_with fail
          go_roundw
          case rel => exact ⟨k + 1, true, by omega, rfl, by go_num, HN.out, hbr2⟩
          case measure => simp [intOf]; omega
    · obtain rfl : n = k := by omega
      have hkn : ¬ ((n : Int) < (n : Int)) := by omega
      have HN : Hid (b = xs.any (fun y => y == x)) := Lib.hid (by rw [HB.out, List.take_of_length_le (by have := HL.out; omega)])
      go_wp2_with fail
      go_ret
      exact ⟨ret_bool HN.out, hbr⟩
set_option maxHeartbeats 32000000 in
theorem law_links (A : Option Addr) (n c : Nat) (l : List Ev) (t : Int) (w : World) (hs : Sl w A n c l) (hz : SzOk l) :
    Calls Try.prog 9 #[.slice A n c, .int .i64 t] w fun r w' => r = .returned (.bool true) ∧ Below w.heap.size w w' := by
  have HS := Lib.hid hs
  have HZ := Lib.hid hz
  clear hs hz
  go_enter Try.func9, Try.ntmps9
  cases hvl : vlB l
  · have HVB := Lib.hid hvl
    clear hvl
    go_wp2_with (first
      | (go_at_call 25; go_must (refine (rValid_any A n c l _ HS.out HZ.out).mono ?_; rintro r w1 ⟨rfl, hb1⟩; rw [HVB.out]))
      | (go_at_call 22; go_must (refine (awake_any _).mono ?_; rintro r w2 ⟨rfl, hb2⟩)))
    go_ret
    exact ⟨rfl, (hb1.trans (hb2.mono hb1.size))⟩
  have HVB := Lib.hid hvl
  have HV := Lib.hid (vlB_true hvl)
  have HBK := Lib.hid (at_inv HV.out t).2
  have HSZ := Lib.hid (bkAt_sz HV.out t)
  clear hvl
  go_upto_region 3 with (go_at_call 25; go_must (refine (rValid_any A n c l _ HS.out HZ.out).mono ?_; rintro r w1 ⟨rfl, hb1⟩; rw [HVB.out]))
  replace HS := Lib.hid (HS.out.below hb1)
  go_upto_region 4 with (go_at_call 27; go_must (refine (State_vl A n c l t _ HS.out HV.out HZ.out).mono ?_; rintro r w5 ⟨Aa, na, ca, As, ns, cs, rfl, hla, hls, hb5⟩; have HLA := Lib.hid hla; have HLS := Lib.hid hls; clear hla hls))
  replace HS := Lib.hid (HS.out.below hb5)
  (obtain ⟨W, hWW, hbW, hzW, f1W, pfa⟩ := box1 w5 #[.slice Aa na ca, .slice As ns cs] 32; rw [← hWW]; have pa0 : W.cell? ⟨w5.heap.size, 0, none⟩ = some (.slice Aa na ca) := f1W 0 _ rfl; have pa1 : W.cell? ⟨w5.heap.size, 1, none⟩ = some (.slice As ns cs) := f1W 1 _ rfl; clear hWW f1W)
  replace HS := Lib.hid (HS.out.below hbW)
  have hbwW := (hb1.trans (hb5.mono hb1.size)).trans (hbW.mono (by have := hb1.size; have := hb5.size; omega))
  obtain ⟨hN1, xa, hxa, halla⟩ := HLA.out
  have HXA := Lib.hid (hxa.below hbW)
  have HALLA := Lib.hid (halla.imp fun _ _ h => h.on hbW)
  have HLNA : Hid ((cAccs (bkAt l t)).length = na) := Lib.hid HLA.out.len
  have hnma := hxa.nmax
  obtain ⟨hN0, xs, hxs, hall⟩ := HLS.out
  have HXS := Lib.hid (hxs.below hbW)
  have HALL := Lib.hid (hall.imp fun _ _ h => h.on hbW)
  have HLN : Hid ((cSubs (bkAt l t)).length = ns) := Lib.hid HLS.out.len
  have hnm := hxs.nmax
  have hw5 : w5.heap.size < W.heap.size := hzW
  have hns : ns ≤ 40 := by
    have := subs_len HBK.out
    have := HSZ.out.s
    have := HLN.out
    unfold cSubs at this
    omega
  clear hN0 hN1 hxs hall hxa halla hb1 hb5 hbW HLA HLS
  go_wp2_with fail
  go_loopw [6, 7] (fun s6 i wr => ∃ (k : Nat) (z : Int), k ≤ na ∧ s6 = .int .i64 z ∧ i = .int .i64 k ∧ z = (lnk (cAccs (bkAt l t)) k : Int) ∧ Below W.heap.size W wr) (fun _ i _ => na - (intOf i).toNat)
  case atStart => exact ⟨0, 0, Nat.zero_le _, rfl, rfl, rfl, Below.refl _ _⟩
  case round =>
    obtain ⟨k, z, hk, rfl, rfl, hz0, hbr⟩ := hrel
    have HZZ := Lib.hid hz0
    have hgr := hbr.size
    replace pa0 := cl hbr pa0
    replace pa1 := cl hbr pa1
    have hzb : 0 ≤ z ∧ z ≤ 40 := by
      have := lnk_le HBK.out k
      have := HLN.out
      rw [hz0]; omega
    clear hz0
    by_cases hlt : k < na
    · obtain ⟨b0, off, hAe, hbl, hcells⟩ := HXA.out.baseIn hbr (by omega)
      obtain ⟨v, hv⟩ := HXA.out.get hlt
      obtain ⟨y, hy, har⟩ := HALLA.out.at_ hv
      have HSUC := Lib.hid (lnk_succ hy)
      have hym := List.mem_of_getElem? hy
      have hsince : y.1.since ≤ t := (since_at l t).1 y.1 (findA_id (cAccs_mem hym).1).1
      have hclosed : y.1.closed = true → y.2 = [] := closed_nil HBK.out hym
      have hlen := har.n.len
      have hlk : lnk (cAccs (bkAt l t)) k + y.2.length ≤ 40 := by
        rw [← lnk_succ hy]
        have := lnk_le HBK.out (k + 1)
        have := HLN.out
        omega
      obtain ⟨vi, vs, va, vp, vc, vA, vn, vk⟩ := v
      have hid := har.id
      have hsi := har.since
      have hcl := har.closed
      dsimp only at hid hsi hcl hlen
      have e0 : wr.cell? ⟨b0, off + k * 6, none⟩ = some (.int .i64 vi) := Sl.at_ hcells hv 0 rfl
      have e1 : wr.cell? ⟨b0, off + k * 6 + 1, none⟩ = some (.int .i64 vs) := Sl.at_ hcells hv 1 rfl
      have e2 : wr.cell? ⟨b0, off + k * 6 + 2, none⟩ = some (.int .i64 va) := Sl.at_ hcells hv 2 rfl
      have e3 : wr.cell? ⟨b0, off + k * 6 + 3, none⟩ = some (.bool vp) := Sl.at_ hcells hv 3 rfl
      have e4 : wr.cell? ⟨b0, off + k * 6 + 4, none⟩ = some (.bool vc) := Sl.at_ hcells hv 4 rfl
      have e5 : wr.cell? ⟨b0, off + k * 6 + 5, none⟩ = some (.slice vA vn vk) := Sl.at_ hcells hv 5 rfl
      have hcn : vc = true → vn = 0 := fun h => by rw [← hlen, hclosed (by rw [← hcl]; exact h)]; rfl
      have hvs : ¬ t < vs := by rw [hsi]; omega
      have HPREV : Hid (∀ u, 0 < k → xa[k - 1]? = some u → ¬ vi ≤ Av.id u) := Lib.hid fun u hk0 hu => by
        obtain ⟨y2, hy2, har2⟩ := HALLA.out.at_ hu
        have := up_before (f := fun x : Ac × List Int => x.1.id) (cAccs_up _) hk0 hy2 hy
        rw [hid, har2.id]; omega
      have HC := Lib.hid @hcells
      have hzz : z = (lnk (cAccs (bkAt l t)) k : Int) := HZZ.out
      have HZN : Hid (z + (vn : Int) = (lnk (cAccs (bkAt l t)) (k + 1) : Int)) := Lib.hid (by rw [HSUC.out, hlen, hzz]; omega)
      have hzw : IntKind.i64.wrap (z + (vn : Int)) = z + (vn : Int) := IntWalk.i64_in _ (by omega)
      subst hAe
      clear hcells hv hy har hid hsi hcl hsince hclosed hlk hlen hym hzz HSUC
      go_upto_region 9 with (fail)
      (obtain ⟨V, hWV, hbV, hzV, f1V, qfa⟩ := box1 wr #[.int .i64 vi, .int .i64 vs, .int .i64 va, .bool vp, .bool vc, .slice vA vn vk] 46; rw [← hWV]; have qa0 : V.cell? ⟨wr.heap.size, 0, none⟩ = some (.int .i64 vi) := f1V 0 _ rfl; have qa1 : V.cell? ⟨wr.heap.size, 1, none⟩ = some (.int .i64 vs) := f1V 1 _ rfl; have qa2 : V.cell? ⟨wr.heap.size, 2, none⟩ = some (.int .i64 va) := f1V 2 _ rfl; have qa3 : V.cell? ⟨wr.heap.size, 3, none⟩ = some (.bool vp) := f1V 3 _ rfl; have qa4 : V.cell? ⟨wr.heap.size, 4, none⟩ = some (.bool vc) := f1V 4 _ rfl; have qa5 : V.cell? ⟨wr.heap.size, 5, none⟩ = some (.slice vA vn vk) := f1V 5 _ rfl; clear hWV f1V)
      replace pa0 := cl hbV pa0
      replace pa1 := cl hbV pa1
      have hbrV := hbr.trans (hbV.mono hbr.size)
      have HBV := Lib.hid hbV
      clear e0 e1 e2 e3 e4 e5 hbV hbr
      go_cut [63] from 153 (fun v wx => v = .bool false ∧ Below V.heap.size V wx)
      case first =>
        have m1 : decide (t < vs) = false := decide_eq_false hvs
        clear HZN HZZ hzw
        cases vc
        · rcases Nat.eq_zero_or_pos k with hk0 | hk0
          · subst hk0
            have kd : decide ((0 : Int) < 0) = false := rfl
            clear HPREV HC hcn
            ((with_reducible refine wp_region_quiet_lit ?_ ?_ ?_); kernel_rfl; kernel_rfl; (repeat (any_goals (first | go_big_quiet_step (fail) | (refine wpQuiet_step (fun K hK => ?_); go_simp; (first | (refine hK _ ?_; clear hK K) | (split <;> rename_i hg <;> (refine hK _ ?_; clear hK K) <;> (try simp only [Bool.not_eq_true] at hg) <;> (first | simp only [Int.not_lt.2 hg, decide_false] | simp only [Int.not_le.1 hg, decide_true] | simp only [hg, decide_true, decide_false] | skip))))))); all_goals (refine wpQuiet_nil ?_; intro _ hw'; obtain ⟨nq, hw''⟩ := hw'; subst hw''))
            go_wp2_with fail
            go_meet
            exact ⟨rfl, below_drewN (Below.refl _ _) _⟩
          · obtain ⟨u, hu⟩ := HXA.out.get (show k - 1 < na by omega)
            have f0 : V.cell? ⟨b0, off + (k - 1) * 6, none⟩ = some (.int .i64 (Av.id u)) := cl HBV.out (Sl.at_ HC.out hu 0 rfl)
            have n3 := HPREV.out u hk0 hu
            have m3 : decide (vi ≤ Av.id u) = false := decide_eq_false n3
            have kd : decide ((0 : Int) < (k : Int)) = true := decide_eq_true (by omega)
            have kn : decide (0 < k) = true := decide_eq_true hk0
            have hm1 : IntKind.i64.wrap ((k : Int) - 1) = ((k - 1 : Nat) : Int) := by rw [IntWalk.i64_in _ (by omega)]; omega
            have hkl : k - 1 < na := by omega
            clear HPREV HC hu hcn
            ((with_reducible refine wp_region_quiet_lit ?_ ?_ ?_); kernel_rfl; kernel_rfl; (repeat (any_goals (first | go_big_quiet_step (fail) | (refine wpQuiet_step (fun K hK => ?_); go_simp; (first | (refine hK _ ?_; clear hK K) | (split <;> rename_i hg <;> (refine hK _ ?_; clear hK K) <;> (try simp only [Bool.not_eq_true] at hg) <;> (first | simp only [Int.not_lt.2 hg, decide_false] | simp only [Int.not_le.1 hg, decide_true] | simp only [hg, decide_true, decide_false] | skip))))))); all_goals (refine wpQuiet_nil ?_; intro _ hw'; obtain ⟨nq, hw''⟩ := hw'; subst hw''))
            go_wp2_with fail
            go_meet
            exact ⟨rfl, below_drewN (Below.refl _ _) _⟩
        · obtain rfl := hcn rfl
          have kv : decide ((0 : Int) < 0) = false := rfl
          clear hcn
          rcases Nat.eq_zero_or_pos k with hk0 | hk0
          · subst hk0
            clear HPREV HC
            ((with_reducible refine wp_region_quiet_lit ?_ ?_ ?_); kernel_rfl; kernel_rfl; (repeat (any_goals (first | go_big_quiet_step (fail) | (refine wpQuiet_step (fun K hK => ?_); go_simp; (first | (refine hK _ ?_; clear hK K) | (split <;> rename_i hg <;> (refine hK _ ?_; clear hK K) <;> (try simp only [Bool.not_eq_true] at hg) <;> (first | simp only [Int.not_lt.2 hg, decide_false] | simp only [Int.not_le.1 hg, decide_true] | simp only [hg, decide_true, decide_false] | skip))))))); all_goals (refine wpQuiet_nil ?_; intro _ hw'; obtain ⟨nq, hw''⟩ := hw'; subst hw''))
            go_wp2_with fail
            go_meet
            exact ⟨rfl, below_drewN (Below.refl _ _) _⟩
          · obtain ⟨u, hu⟩ := HXA.out.get (show k - 1 < na by omega)
            have f0 : V.cell? ⟨b0, off + (k - 1) * 6, none⟩ = some (.int .i64 (Av.id u)) := cl HBV.out (Sl.at_ HC.out hu 0 rfl)
            have n3 := HPREV.out u hk0 hu
            have m3 : decide (vi ≤ Av.id u) = false := decide_eq_false n3
            have kd : decide ((0 : Int) < (k : Int)) = true := decide_eq_true (by omega)
            have kn : decide (0 < k) = true := decide_eq_true hk0
            have hm1 : IntKind.i64.wrap ((k : Int) - 1) = ((k - 1 : Nat) : Int) := by rw [IntWalk.i64_in _ (by omega)]; omega
            have hkl : k - 1 < na := by omega
            clear HPREV HC hu
            ((with_reducible refine wp_region_quiet_lit ?_ ?_ ?_); kernel_rfl; kernel_rfl; (repeat (any_goals (first | go_big_quiet_step (fail) | (refine wpQuiet_step (fun K hK => ?_); go_simp; (first | (refine hK _ ?_; clear hK K) | (split <;> rename_i hg <;> (refine hK _ ?_; clear hK K) <;> (try simp only [Bool.not_eq_true] at hg) <;> (first | simp only [Int.not_lt.2 hg, decide_false] | simp only [Int.not_le.1 hg, decide_true] | simp only [hg, decide_true, decide_false] | skip))))))); all_goals (refine wpQuiet_nil ?_; intro _ hw'; obtain ⟨nq, hw''⟩ := hw'; subst hw''))
            go_wp2_with fail
            go_meet
            exact ⟨rfl, below_drewN (Below.refl _ _) _⟩
      case rest =>
        obtain ⟨rfl, hbC⟩ := hcut
        replace qa5 := cl hbC qa5
        replace hbrV := hbrV.trans (hbC.mono hbrV.size)
        have hk1w : IntKind.i64.wrap ((k : Int) + 1) = (k : Int) + 1 := IntWalk.i64_in _ (by omega)
        clear hbC HPREV HC HBV hcn hvs
        go_wp2_with fail
        go_roundw
        case rel => exact ⟨k + 1, z + (vn : Int), by omega, rfl, by go_num, HZN.out, hbrV⟩
        case measure => simp [intOf]; omega
    · obtain rfl : na = k := by omega
      have hkn : ¬ ((na : Int) < (na : Int)) := by omega
      have HZE : Hid (z = (ns : Int)) := Lib.hid (by rw [HZZ.out, ← HLN.out, ← lnk_all HBK.out, HLNA.out])
      have hzn : z = (ns : Int) := HZE.out
      subst hzn
      clear HZZ HZE hzb
      replace HXS := Lib.hid (HXS.out.below hbr)
      replace HALL := Lib.hid (HALL.out.imp fun _ _ h => SR.on h hbr)
      replace HS := Lib.hid (HS.out.below hbr)
      replace hbwW := hbwW.trans (hbr.mono hbwW.size)
      clear HXA HALLA hbr HLNA
      obtain ⟨W2, hW2⟩ : ∃ x, x = wr := ⟨_, rfl⟩
      rw [← hW2] at pa0 pa1 HXS HALL HS hbwW hgr ⊢
      clear hW2
      go_wp2_with fail
      go_loopw [9] (fun i wr => ∃ k : Nat, k ≤ ns ∧ i = .int .i64 k ∧ Below W2.heap.size W2 wr) (fun i _ => ns - (intOf i).toNat)
      case atStart => exact ⟨0, Nat.zero_le _, rfl, Below.refl _ _⟩
      case round =>
        obtain ⟨k, hk, rfl, hbr⟩ := hrel
        have hgr2 := hbr.size
        replace pa1 := cl hbr pa1
        by_cases hlt : k < ns
        · obtain ⟨b0, off, hAe, hbl, hcells⟩ := HXS.out.baseIn hbr (by omega)
          obtain ⟨v, hv⟩ := HXS.out.get hlt
          obtain ⟨y, hy, hsr⟩ := HALL.out.at_ hv
          have hym := List.mem_of_getElem? hy
          obtain ⟨ac, hac⟩ := acc_find HBK.out hym
          have HAP : Hid (∀ (j m : Nat) (y2 : Sb) (x : ByteArray), j < k → (cSubs (bkAt l t))[j]? = some y2 → y.nums[m]? = some x → hasS y2.nums x = false) := Lib.hid fun j m y2 x hj h2 hx => nums_apart HBK.out hy h2 hj hx
          have HIN0 : Hid ((cOf (cSubs (bkAt l t)) y.acc).any (fun x => x == y.id) = true) := Lib.hid (cOf_has hym)
          have hsince : y.since ≤ t := (since_at l t).2 y (findS_id (cSubs_live hym).1).1
          obtain ⟨vi, va, vs, vp, An, nn, cn, Ap, np, cp, vu, vf⟩ := v
          have hid := hsr.id
          have hsi := hsr.since
          have hva := hsr.acc
          dsimp only at hid hsi hva
          subst hva hid
          have e0 : wr.cell? ⟨b0, off + k * 8, none⟩ = some (.int .i64 y.id) := Sl.at_ hcells hv 0 rfl
          have e1 : wr.cell? ⟨b0, off + k * 8 + 1, none⟩ = some (.int .i64 y.acc) := Sl.at_ hcells hv 1 rfl
          have e2 : wr.cell? ⟨b0, off + k * 8 + 2, none⟩ = some (.int .i64 vs) := Sl.at_ hcells hv 2 rfl
          have e3 : wr.cell? ⟨b0, off + k * 8 + 3, none⟩ = some (.string vp) := Sl.at_ hcells hv 3 rfl
          have e4 : wr.cell? ⟨b0, off + k * 8 + 4, none⟩ = some (.slice An nn cn) := Sl.at_ hcells hv 4 rfl
          have e5 : wr.cell? ⟨b0, off + k * 8 + 5, none⟩ = some (.slice Ap np cp) := Sl.at_ hcells hv 5 rfl
          have e6 : wr.cell? ⟨b0, off + k * 8 + 6, none⟩ = some (.bool vu) := Sl.at_ hcells hv 6 rfl
          have e7 : wr.cell? ⟨b0, off + k * 8 + 7, none⟩ = some (.bool vf) := Sl.at_ hcells hv 7 rfl
          have hvs : ¬ t < vs := by rw [hsi]; omega
          have m1 : decide (t < vs) = false := decide_eq_false hvs
          have HPREV : Hid (∀ u, 0 < k → xs[k - 1]? = some u → ¬ y.id ≤ Sv.id u) := Lib.hid fun u hk0 hu => by
            obtain ⟨y2, hy2, hsr2⟩ := HALL.out.at_ hu
            have := up_before (f := fun x : Sb => x.id) (cSubs_up _) hk0 hy2 hy
            rw [hsr2.id]; omega
          have HC := Lib.hid @hcells
          have HNM : Hid (Sl W2 An nn cn y.nums) := Lib.hid hsr.n
          have HAC := Lib.hid hac
          have hnn := hsr.n.nmax
          dsimp only at hnn
          subst hAe
          clear hcells hv hy hsr hsi hsince hym hac
          go_upto_region 16 with (fail)
          (obtain ⟨V, hWV, hbV, hzV, f1V, qfa⟩ := box1 wr #[.int .i64 y.id, .int .i64 y.acc, .int .i64 vs, .string vp, .slice An nn cn, .slice Ap np cp, .bool vu, .bool vf] 51; rw [← hWV]; have qa0 : V.cell? ⟨wr.heap.size, 0, none⟩ = some (.int .i64 y.id) := f1V 0 _ rfl; have qa1 : V.cell? ⟨wr.heap.size, 1, none⟩ = some (.int .i64 y.acc) := f1V 1 _ rfl; have qa2 : V.cell? ⟨wr.heap.size, 2, none⟩ = some (.int .i64 vs) := f1V 2 _ rfl; have qa3 : V.cell? ⟨wr.heap.size, 3, none⟩ = some (.string vp) := f1V 3 _ rfl; have qa4 : V.cell? ⟨wr.heap.size, 4, none⟩ = some (.slice An nn cn) := f1V 4 _ rfl; have qa5 : V.cell? ⟨wr.heap.size, 5, none⟩ = some (.slice Ap np cp) := f1V 5 _ rfl; have qa6 : V.cell? ⟨wr.heap.size, 6, none⟩ = some (.bool vu) := f1V 6 _ rfl; have qa7 : V.cell? ⟨wr.heap.size, 7, none⟩ = some (.bool vf) := f1V 7 _ rfl; clear hWV f1V)
          replace pa1 := cl hbV pa1
          replace hbr := hbr.trans (hbV.mono hbr.size)
          have HBV := Lib.hid hbV
          clear e0 e1 e2 e3 e4 e5 e6 e7 hbV qa3 qa5 qa6 qa7
          have hgV := hbr.size
          go_upto_region 17 with (go_at_call 32; go_must (refine (Account_any A n c l y.acc t _ (HS.out.below hbr) HV.out HZ.out).mono ?_; rintro r w6 ⟨⟨u, rfl, har⟩, hb6⟩; rw [HAC.out] at har ⊢; have HAR := Lib.hid har; clear har; obtain ⟨ui, us, ua, up, uc, uA, un, uk⟩ := u; dsimp only [Av.val, Option.isSome]))
          have hul : Sl w6 uA un uk (cOf (cSubs (bkAt l t)) y.acc) := HAR.out.n
          have HUL := Lib.hid hul
          clear hul HAR qa1
          replace pa1 := cl hb6 pa1
          replace qa0 := cl hb6 qa0
          replace qa2 := cl hb6 qa2
          replace qa4 := cl hb6 qa4
          replace hbr := hbr.trans (hb6.mono hbr.size)
          replace HBV := Lib.hid (HBV.out.trans (hb6.mono HBV.out.size))
          have hs6 := hb6.size
          clear hb6
          (obtain ⟨X, hWX, hbX, hzX, f1X, zfa⟩ := box1 w6 #[.int .i64 ui, .int .i64 us, .int .i64 ua, .bool up, .bool uc, .slice uA un uk] 46; rw [← hWX]; have za0 : X.cell? ⟨w6.heap.size, 0, none⟩ = some (.int .i64 ui) := f1X 0 _ rfl; have za1 : X.cell? ⟨w6.heap.size, 1, none⟩ = some (.int .i64 us) := f1X 1 _ rfl; have za2 : X.cell? ⟨w6.heap.size, 2, none⟩ = some (.int .i64 ua) := f1X 2 _ rfl; have za3 : X.cell? ⟨w6.heap.size, 3, none⟩ = some (.bool up) := f1X 3 _ rfl; have za4 : X.cell? ⟨w6.heap.size, 4, none⟩ = some (.bool uc) := f1X 4 _ rfl; have za5 : X.cell? ⟨w6.heap.size, 5, none⟩ = some (.slice uA un uk) := f1X 5 _ rfl; clear hWX f1X)
          replace pa1 := cl hbX pa1
          replace qa0 := cl hbX qa0
          replace qa2 := cl hbX qa2
          replace qa4 := cl hbX qa4
          replace hbr := hbr.trans (hbX.mono hbr.size)
          replace HBV := Lib.hid (HBV.out.trans (hbX.mono HBV.out.size))
          have HIN : Hid (∀ x, Below X.heap.size X x → Calls Try.prog 38 #[.slice uA un uk, .int .i64 y.id] x fun r w' => r = .returned (.bool true) ∧ Below x.heap.size x w') := Lib.hid fun x hx => by
            have h := inside_any uA un uk _ y.id x ((HUL.out.below hbX).below hx) (cOf_up _ _)
            rw [HIN0.out] at h
            exact h
          clear hbX za0 za1 za2 za3 za4 HUL HIN0
          go_cut [120] from 153 (fun v wx => v = .bool false ∧ Below X.heap.size X wx)
          case first =>
            clear HAP HNM HAC
            rcases Nat.eq_zero_or_pos k with hk0 | hk0
            · subst hk0
              have kd : decide ((0 : Int) < 0) = false := rfl
              clear HPREV HC
              ((with_reducible refine wp_region_class (Below X.heap.size X) ?_ ?_ ?_ ?_); kernel_rfl; kernel_rfl; (exact (Below.refl _ _).drew); (intro hnonemp); (have zpa1 := fun z : Wd (Below X.heap.size X) => cl z.h pa1; have zqa0 := fun z : Wd (Below X.heap.size X) => cl z.h qa0; have zqa2 := fun z : Wd (Below X.heap.size X) => cl z.h qa2; have zza5 := fun z : Wd (Below X.heap.size X) => cl z.h za5); (repeat (any_goals (first | go_big_quiet_step (((first | (go_at_call 38; (with_reducible refine (HIN.out _ (Wd.h _)).mono ?_); rintro e w' ⟨rfl, hbk⟩; exact ⟨rfl, ⟨w', Below.trans (Wd.h _) (hbk.mono (Below.size (Wd.h _)))⟩, rfl⟩)))) | (refine wpQuiet_step (fun K hK => ?_); go_simp; (first | (refine hK _ ?_; clear hK K) | (split <;> rename_i hg <;> (refine hK _ ?_; clear hK K) <;> (try simp only [Bool.not_eq_true] at hg) <;> (first | simp only [Int.not_lt.2 hg, decide_false] | simp only [Int.not_le.1 hg, decide_true] | simp only [hg, decide_true, decide_false] | skip)))))));  all_goals (refine wpQuiet_nil ?_; intro wq hgq))
              go_wp2_with fail
              go_meet
              exact ⟨rfl, hgq⟩
            · obtain ⟨u, hu⟩ := HXS.out.get (show k - 1 < ns by omega)
              have f0 : X.cell? ⟨b0, off + (k - 1) * 8, none⟩ = some (.int .i64 (Sv.id u)) := cl HBV.out (Sl.at_ HC.out hu 0 rfl)
              have n3 := HPREV.out u hk0 hu
              have m3 : decide (y.id ≤ Sv.id u) = false := decide_eq_false n3
              have kd : decide ((0 : Int) < (k : Int)) = true := decide_eq_true (by omega)
              have kn : decide (0 < k) = true := decide_eq_true hk0
              have hm1 : IntKind.i64.wrap ((k : Int) - 1) = ((k - 1 : Nat) : Int) := by rw [IntWalk.i64_in _ (by omega)]; omega
              have hkl : k - 1 < ns := by omega
              clear HPREV HC hu
              ((with_reducible refine wp_region_class (Below X.heap.size X) ?_ ?_ ?_ ?_); kernel_rfl; kernel_rfl; (exact (Below.refl _ _).drew); (intro hnonemp); (have zpa1 := fun z : Wd (Below X.heap.size X) => cl z.h pa1; have zqa0 := fun z : Wd (Below X.heap.size X) => cl z.h qa0; have zqa2 := fun z : Wd (Below X.heap.size X) => cl z.h qa2; have zza5 := fun z : Wd (Below X.heap.size X) => cl z.h za5; have zf0 := fun z : Wd (Below X.heap.size X) => cl z.h f0); (repeat (any_goals (first | go_big_quiet_step (((first | (go_at_call 38; (with_reducible refine (HIN.out _ (Wd.h _)).mono ?_); rintro e w' ⟨rfl, hbk⟩; exact ⟨rfl, ⟨w', Below.trans (Wd.h _) (hbk.mono (Below.size (Wd.h _)))⟩, rfl⟩)))) | (refine wpQuiet_step (fun K hK => ?_); go_simp; (first | (refine hK _ ?_; clear hK K) | (split <;> rename_i hg <;> (refine hK _ ?_; clear hK K) <;> (try simp only [Bool.not_eq_true] at hg) <;> (first | simp only [Int.not_lt.2 hg, decide_false] | simp only [Int.not_le.1 hg, decide_true] | simp only [hg, decide_true, decide_false] | skip)))))));  all_goals (refine wpQuiet_nil ?_; intro wq hgq))
              go_wp2_with fail
              go_meet
              exact ⟨rfl, hgq⟩
          case rest =>
            obtain ⟨rfl, hbC⟩ := hcut
            replace pa1 := cl hbC pa1
            replace qa4 := cl hbC qa4
            replace hbr := hbr.trans (hbC.mono hbr.size)
            have hgX := hbC.size
            clear hbC HIN HPREV HC HBV qa0 qa2 za5 m1 hvs HAC
            obtain ⟨Y, hY⟩ : ∃ x, x = wc := ⟨_, rfl⟩
            rw [← hY] at pa1 qa4 hbr hgX ⊢
            clear hY
            have hgY := hbr.size
            go_wp2_with fail
            go_loopw [13] (fun i wr => ∃ j : Nat, j ≤ k ∧ i = .int .i64 j ∧ Below Y.heap.size Y wr) (fun i _ => k - (intOf i).toNat)
            case atStart => exact ⟨0, Nat.zero_le _, rfl, Below.refl _ _⟩
            case round =>
              obtain ⟨j, hj, rfl, hb3⟩ := hrel
              have hg3 := hb3.size
              replace pa1 := cl hb3 pa1
              replace qa4 := cl hb3 qa4
              by_cases hjk : j < k
              · obtain ⟨g2, off2, hAe2, hbl2, hcells2⟩ := HXS.out.baseIn (hbr.trans (hb3.mono hbr.size)) (by omega)
                obtain ⟨v2, hv2⟩ := HXS.out.get (show j < ns by omega)
                obtain ⟨y2, hy2, hsr2⟩ := HALL.out.at_ hv2
                obtain ⟨Bn, mn, dn, hBn, hBs⟩ : ∃ Bn mn dn, wr.cell? ⟨g2, off2 + j * 8 + 4, none⟩ = some (.slice Bn mn dn) ∧ Sl W2 Bn mn dn y2.nums := ⟨_, _, _, Sl.at_ hcells2 hv2 4 rfl, hsr2.n⟩
                have HBS := Lib.hid hBs
                have HA2 : Hid (∀ (m : Nat) (x : ByteArray), y.nums[m]? = some x → hasS y2.nums x = false) := Lib.hid fun m x hx => HAP.out j m y2 x hjk hy2 hx
                have hb23 := hbr.trans (hb3.mono hbr.size)
                injection hAe2 with hAe2
                injection hAe2 with hg1 hg2
                subst hg1 hg2
                clear hcells2 hv2 hy2 hsr2 hBs
                obtain ⟨U, hU⟩ : ∃ x, x = wr := ⟨_, rfl⟩
                rw [← hU] at pa1 qa4 hBn hb3 hb23 hg3 ⊢
                clear hU
                go_wp2_with fail
                go_loopw [14] (fun i wr => ∃ m : Nat, m ≤ nn ∧ i = .int .i64 m ∧ Below U.heap.size U wr) (fun i _ => nn - (intOf i).toNat)
                case atStart => exact ⟨0, Nat.zero_le _, rfl, Below.refl _ _⟩
                case round =>
                  obtain ⟨m, hm, rfl, hb4⟩ := hrel
                  have hg4 := hb4.size
                  replace pa1 := cl hb4 pa1
                  replace qa4 := cl hb4 qa4
                  replace hBn := cl hb4 hBn
                  by_cases hmn : m < nn
                  · obtain ⟨g3, off3, hAe3, hbl3, hcells3⟩ := HNM.out.baseIn (hb23.trans (hb4.mono hb23.size)) (by omega)
                    obtain ⟨x, hx⟩ := HNM.out.get hmn
                    have h0 : wr.cell? ⟨g3, off3 + m * 1, none⟩ = some (.string x) := Sl.at_ hcells3 hx 0 rfl
                    rw [Nat.mul_one] at h0
                    have hno := HA2.out m x hx
                    have HHAS : Hid (∀ z, Below wr.heap.size wr z → Calls Try.prog 39 #[.slice Bn mn dn, .string x] z fun r w' => r = .returned (.bool false) ∧ Below z.heap.size z w') := Lib.hid fun z hz => by
                      have h := Has_any Bn mn dn y2.nums x z (((HBS.out.below (hb23.trans (hb4.mono hb23.size))).below hz))
                      rw [hno] at h
                      exact h.mono fun r w' ⟨h1, h2⟩ => ⟨h1, by rw [← h2]; exact Below.refl _ _⟩
                    subst hAe3
                    have hjn : j < ns := by omega
                    clear hcells3 hx hno
                    go_upto_region 25 with (fail)
                    ((with_reducible refine wp_region_class (Below wr.heap.size wr) ?_ ?_ ?_ ?_); kernel_rfl; kernel_rfl; (exact (Below.refl _ _).drew); (intro hnonemp); (have zpa1 := fun z : Wd (Below wr.heap.size wr) => cl z.h pa1; have zqa4 := fun z : Wd (Below wr.heap.size wr) => cl z.h qa4; have zhBn := fun z : Wd (Below wr.heap.size wr) => cl z.h hBn; have zh0 := fun z : Wd (Below wr.heap.size wr) => cl z.h h0); (repeat (any_goals (first | go_big_quiet_step (((first | (go_at_call 39; (with_reducible refine (HHAS.out _ (Wd.h _)).mono ?_); rintro e w' ⟨rfl, hbk⟩; exact ⟨rfl, ⟨w', Below.trans (Wd.h _) (hbk.mono (Below.size (Wd.h _)))⟩, rfl⟩)))) | (refine wpQuiet_step (fun K hK => ?_); go_simp; (first | (refine hK _ ?_; clear hK K) | (split <;> rename_i hg <;> (refine hK _ ?_; clear hK K) <;> (try simp only [Bool.not_eq_true] at hg) <;> (first | simp only [Int.not_lt.2 hg, decide_false] | simp only [Int.not_le.1 hg, decide_true] | simp only [hg, decide_true, decide_false] | skip)))))));  all_goals (refine wpQuiet_nil ?_; intro wq hgq))
                    go_wp2_with fail
                    go_roundw
                    case rel => exact ⟨m + 1, by omega, by go_num, hb4.trans (hgq.mono hb4.size)⟩
                    case measure => simp [intOf]; omega
                  · obtain rfl : nn = m := by omega
                    have hkn : ¬ ((nn : Int) < (nn : Int)) := by omega
                    go_wp2_with fail
                    go_roundw
                    case rel => exact ⟨j + 1, by omega, by go_num, hb3.trans (hb4.mono hb3.size)⟩
                    case measure => simp [intOf]; omega
              · obtain rfl : j = k := by omega
                have hkn : ¬ ((j : Int) < (j : Int)) := by omega
                go_wp2_with fail
                go_roundw
                case rel => exact ⟨j + 1, by omega, by go_num, hbr.trans (hb3.mono hbr.size)⟩
                case measure => simp [intOf]; omega
        · obtain rfl : ns = k := by omega
          have hkn : ¬ ((ns : Int) < (ns : Int)) := by omega
          have hbwr := hbwW.trans (hbr.mono hbwW.size)
          go_wp2_with (go_at_call 22; go_must (refine (awake_any _).mono ?_; rintro r w8 ⟨rfl, hb8⟩))
          go_ret
          exact ⟨rfl, hbwr.trans (hb8.mono hbwr.size)⟩
end Cu
end Go.Proofs.Yteaanngagcflhaa
