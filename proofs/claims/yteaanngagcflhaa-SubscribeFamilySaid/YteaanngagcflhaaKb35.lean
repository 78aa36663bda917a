/-
  Subscriptions: At. No condition.
-/
import Derived.Test.YteaanngagcflhaaKb25
import Derived.Test.YteaanngagcflhaaKb30
import Derived.Test.YteaanngagcflhaaKb34
import Derived.Test.YteaanngagcflhaaKb33
import Derived.Test.YteaanngagcflhaaKb00
import Derived.Test.YteaanngagcflhaaKb17
import Derived.BigQuiet
import Derived.StillTailTactics
import Derived.Lib.Overlaps
import Derived.Deep.DeepCutAuto
import Derived.Deep.RegionWith
import Derived.Laws.RangeAny
import Derived.ProofKit
import Derived.WideKeyArgs
import Derived.Deep.Slices
import Derived.Deep.Fields
import Derived.ChangeMaps5
set_option maxRecDepth 100000
set_option linter.unusedVariables false
set_option linter.unusedSimpArgs false
namespace Go.Proofs.Yteaanngagcflhaa
open Go.RowKit
namespace Ss
open Cu
set_option maxHeartbeats 8000000 in
theorem At_any (A : Option Addr) (n c : Nat) (l : List Ev) (x t : Int) (w : World) (hs : Sl w A n c l) (hv : Vl l) :
    Calls Try.prog 52 #[.slice A n c, .int .i64 x, .int .i64 t] w fun r w' => (∃ v : Lv, r = .returned (.tuple #[v.val, .bool (atI (spE l x) t).isSome]) ∧ LR w' v ((atI (spE l x) t).getD iv0)) ∧ Below w.heap.size w w' := by
  have HS := Lib.hid hs
  have HV := Lib.hid hv
  have h1000 : n ≤ 1000 := by have := hs.len; have := hv.1; omega
  clear hs hv
  obtain ⟨AT, hAT⟩ : ∃ AT, atI (spE l x) t = AT := ⟨_, rfl⟩
  rw [hAT]
  have HFIND : Hid (AT = (spE l x).find? (inV t)) := Lib.hid hAT.symm
  clear hAT
  go_enter Try.func52, Try.ntmps52
  go_upto_region 1 with (fail)
  (obtain ⟨V, hWV, hbV, hzV, f1V, qfa⟩ := box1 w #[.int .i64 0, .int .i64 0, .string ⟨#[]⟩, .slice none 0 0, .bool false, .bool false] 76; rw [← hWV]; have qa0 : V.cell? ⟨w.heap.size, 0, none⟩ = some (.int .i64 0) := f1V 0 _ rfl; have qa1 : V.cell? ⟨w.heap.size, 1, none⟩ = some (.int .i64 0) := f1V 1 _ rfl; have qa2 : V.cell? ⟨w.heap.size, 2, none⟩ = some (.string ⟨#[]⟩) := f1V 2 _ rfl; have qa3 : V.cell? ⟨w.heap.size, 3, none⟩ = some (.slice none 0 0) := f1V 3 _ rfl; have qa4 : V.cell? ⟨w.heap.size, 4, none⟩ = some (.bool false) := f1V 4 _ rfl; have qa5 : V.cell? ⟨w.heap.size, 5, none⟩ = some (.bool false) := f1V 5 _ rfl; clear hWV f1V)
  go_wp2_with (go_at_call 55; go_must (refine (Spells_any A n c l x _ (HS.out.below hbV) h1000).mono ?_; rintro r w5 ⟨⟨A2, n2, c2, rfl, h2⟩, hb5⟩; skip; have hbw5 := hbV.trans (hb5.mono hbV.size); have hgV : w.heap.size < w5.heap.size := Nat.lt_of_lt_of_le hzV hb5.size; replace qa0 := cl hb5 qa0; replace qa1 := cl hb5 qa1; replace qa2 := cl hb5 qa2; replace qa3 := cl hb5 qa3; replace qa4 := cl hb5 qa4; replace qa5 := cl hb5 qa5; replace qfa := cz hb5 qfa; have H2 := Lib.hid h2; clear h2 hb5))
  obtain ⟨_, xs, hxs, hall⟩ := H2.out
  have HX := Lib.hid hxs
  have HA := Lib.hid hall
  have HXL := Lib.hid hxs.len
  have hnm := hxs.nmax
  have HNE : Hid (∀ d ∈ spE l x, NeS d.q.prods) := Lib.hid fun d h => spE_ne HV.out h
  have HGD : Hid (∀ d ∈ spE l x, 0 ≤ d.from_ ∧ d.from_ < d.to_ ∧ d.to_ ≤ 12622780800) := Lib.hid fun d h => spE_good HV.out h
  obtain ⟨SP, hSP⟩ : ∃ SP, spE l x = SP := ⟨_, rfl⟩
  rw [hSP] at HA HNE HGD HFIND
  clear hxs hall hSP H2
  go_loopw [14] (fun i wr => ∃ k : Nat, k ≤ n2 ∧ i = .int .i64 k ∧ Below w5.heap.size w5 wr ∧ ∀ (m : Nat) y, m < k → SP[m]? = some y → inV t y = false) (fun i _ => n2 - (intOf i).toNat)
  case atStart => exact ⟨0, Nat.zero_le _, rfl, Below.refl _ _, fun m y hm => absurd hm (Nat.not_lt_zero _)⟩
  case round =>
    obtain ⟨k, hk, rfl, hbr, hno⟩ := hrel
    have HN := Lib.hid hno
    have hgr := Nat.lt_of_lt_of_le hgV hbr.size
    have hbwr := hbw5.trans (hbr.mono hbw5.size)
    clear hno
    replace qa0 := cl hbr qa0
    replace qa1 := cl hbr qa1
    replace qa2 := cl hbr qa2
    replace qa3 := cl hbr qa3
    replace qa4 := cl hbr qa4
    replace qa5 := cl hbr qa5
    replace qfa := cz hbr qfa
    by_cases hlt : k < n2
    · obtain ⟨b, off, hAe, hbl, hcells⟩ := HX.out.baseIn hbr (by omega)
      obtain ⟨v, hv⟩ := HX.out.get hlt
      obtain ⟨y, hy, hlr⟩ := HA.out.at_ hv
      have hbl2 : b < wr.heap.size := Nat.lt_of_lt_of_le hbl hbr.size
      have e0 : wr.cell? ⟨b, off + k * 6, none⟩ = some (.int .i64 v.f) := Sl.at_ hcells hv 0 rfl
      have e1 : wr.cell? ⟨b, off + k * 6 + 1, none⟩ = some (.int .i64 v.t) := Sl.at_ hcells hv 1 rfl
      have e2 : wr.cell? ⟨b, off + k * 6 + 2, none⟩ = some (.string v.plan) := Sl.at_ hcells hv 2 rfl
      have e3 : wr.cell? ⟨b, off + k * 6 + 3, none⟩ = some (.slice v.A v.n v.c) := Sl.at_ hcells hv 3 rfl
      have e4 : wr.cell? ⟨b, off + k * 6 + 4, none⟩ = some (.bool v.susp) := Sl.at_ hcells hv 4 rfl
      have e5 : wr.cell? ⟨b, off + k * 6 + 5, none⟩ = some (.bool v.fam) := Sl.at_ hcells hv 5 rfl
      have HLR := Lib.hid hlr
      have HY := Lib.hid hy
      have HYN := Lib.hid (HNE.out y (List.mem_of_getElem? hy))
      have hgd : 0 ≤ v.f ∧ v.f < v.t ∧ v.t ≤ 12622780800 := by rw [hlr.f, hlr.t]; exact HGD.out y (List.mem_of_getElem? hy)
      have HFT : Hid (v.f = y.from_ ∧ v.t = y.to_) := Lib.hid ⟨hlr.f, hlr.t⟩
      have hkw : IntKind.i64.wrap ((k : Int) + 1) = (k : Int) + 1 := IntWalk.i64_in _ (by omega)
      subst hAe
      clear hcells hv hy hlr
      go_upto_region 4 with (fail)
      (obtain ⟨X, hWX, hbX, hzX, f1X, efa⟩ := box1 wr #[.int .i64 v.f, .int .i64 v.t, .string v.plan, .slice v.A v.n v.c, .bool v.susp, .bool v.fam] 76; rw [← hWX]; have ea0 : X.cell? ⟨wr.heap.size, 0, none⟩ = some (.int .i64 v.f) := f1X 0 _ rfl; have ea1 : X.cell? ⟨wr.heap.size, 1, none⟩ = some (.int .i64 v.t) := f1X 1 _ rfl; have ea2 : X.cell? ⟨wr.heap.size, 2, none⟩ = some (.string v.plan) := f1X 2 _ rfl; have ea3 : X.cell? ⟨wr.heap.size, 3, none⟩ = some (.slice v.A v.n v.c) := f1X 3 _ rfl; have ea4 : X.cell? ⟨wr.heap.size, 4, none⟩ = some (.bool v.susp) := f1X 4 _ rfl; have ea5 : X.cell? ⟨wr.heap.size, 5, none⟩ = some (.bool v.fam) := f1X 5 _ rfl; clear hWX f1X)
      replace qa0 := cl hbX qa0
      replace qa1 := cl hbX qa1
      replace qa2 := cl hbX qa2
      replace qa3 := cl hbX qa3
      replace qa4 := cl hbX qa4
      replace qa5 := cl hbX qa5
      replace qfa := cz hbX qfa
      have hbrX := hbr.trans (hbX.mono hbr.size)
      have hgX := Nat.lt_of_lt_of_le hgr hbX.size
      clear e0 e1 e2 e3 e4 e5 hbX
      by_cases c1 : v.f ≤ t
      · by_cases c2 : t < v.t
        · go_upto_region 5 with (go_at_call 82; go_must (refine (icont_any v.f v.t t true _ hgd.1 hgd.2.1 hgd.2.2 (by rw [decide_eq_true c1, decide_eq_true c2]; rfl)).mono ?_; rintro r w6 ⟨rfl, hb6⟩; have za0 := cl hb6 qa0; have za1 := cl hb6 qa1; have za2 := cl hb6 qa2; have za3 := cl hb6 qa3; have za4 := cl hb6 qa4; have za5 := cl hb6 qa5; have y0 := cl hb6 ea0; have y1 := cl hb6 ea1; have y2 := cl hb6 ea2; have y3 := cl hb6 ea3; have y4 := cl hb6 ea4; have y5 := cl hb6 ea5; have zf := cz hb6 qfa; have hbr6 := hbrX.trans (hb6.mono hbrX.size); have hg6 := Nat.lt_of_lt_of_le hgX hb6.size; have hx6 := Nat.lt_of_lt_of_le hzX hb6.size; clear hb6))
          have hbw6 := hbw5.trans (hbr6.mono hbw5.size)
          have HF := Lib.hid (HFIND.out.trans (findAt HY.out (inV_t (by rw [← HFT.out.1]; exact c1) (by rw [← HFT.out.2]; exact c2)) HN.out))
          go_wp2_with fail
          have hr := setRun_is (vs := [.int .i64 v.f, .int .i64 v.t, .string v.plan, .slice v.A v.n v.c, .bool v.susp, .bool v.fam]) (six za0 za1 za2 za3 za4 za5) (Nat.le_refl _)
          refine bodyPost_ret (results_cells2 (fn := Try.f52) (P := Try.prog) (p := 6) (u := 7) (ty := 76) rfl _ _ w.heap.size ⟨[.int .i64 v.f, .int .i64 v.t, .string v.plan, .slice v.A v.n v.c, .bool v.susp, .bool v.fam]⟩ _ ?a1 ?a2 rfl rfl rfl) ?a3 ?_
          case a1 => rfl
          case a2 => exact hr
          case a3 => rfl
          rw [HF.out]
          exact ⟨⟨v, rfl, LR.setRunNe [.int .i64 v.f, .int .i64 v.t, .string v.plan, .slice v.A v.n v.c, .bool v.susp, .bool v.fam] 0 (HLR.out.on hbr6) (oldL HYN.out za0 za1 za2 za3 za4 za5)⟩, setRun_below [.int .i64 v.f, .int .i64 v.t, .string v.plan, .slice v.A v.n v.c, .bool v.susp, .bool v.fam] _ _ hbw6 (Nat.le_refl _)⟩
        · have HNO := Lib.hid (inV_f2 (d := y) (by rw [← HFT.out.2]; exact c2))
          go_wp2_with (go_at_call 82; go_must (refine (icont_any v.f v.t t false _ hgd.1 hgd.2.1 hgd.2.2 (by rw [decide_eq_false c2, Bool.and_false])).mono ?_; rintro r w6 ⟨rfl, hb6⟩; have za0 := cl hb6 qa0; have za1 := cl hb6 qa1; have za2 := cl hb6 qa2; have za3 := cl hb6 qa3; have za4 := cl hb6 qa4; have za5 := cl hb6 qa5; have y0 := cl hb6 ea0; have y1 := cl hb6 ea1; have y2 := cl hb6 ea2; have y3 := cl hb6 ea3; have y4 := cl hb6 ea4; have y5 := cl hb6 ea5; have zf := cz hb6 qfa; have hbr6 := hbrX.trans (hb6.mono hbrX.size); have hg6 := Nat.lt_of_lt_of_le hgX hb6.size; have hx6 := Nat.lt_of_lt_of_le hzX hb6.size; clear hb6))
          go_roundw
          case rel =>
            refine ⟨k + 1, by omega, by go_num, hbr6, fun m z hm hz => ?_⟩
            by_cases hmk : m = k
            · subst hmk
              have h2 := HY.out
              rw [hz] at h2
              cases h2
              exact HNO.out
            · exact HN.out m z (by omega) hz
          case measure => simp [intOf]; omega
      · have HNO := Lib.hid (inV_f1 (d := y) (by rw [← HFT.out.1]; exact c1))
        go_wp2_with (go_at_call 82; go_must (refine (icont_any v.f v.t t false _ hgd.1 hgd.2.1 hgd.2.2 (by rw [decide_eq_false c1]; rfl)).mono ?_; rintro r w6 ⟨rfl, hb6⟩; have za0 := cl hb6 qa0; have za1 := cl hb6 qa1; have za2 := cl hb6 qa2; have za3 := cl hb6 qa3; have za4 := cl hb6 qa4; have za5 := cl hb6 qa5; have y0 := cl hb6 ea0; have y1 := cl hb6 ea1; have y2 := cl hb6 ea2; have y3 := cl hb6 ea3; have y4 := cl hb6 ea4; have y5 := cl hb6 ea5; have zf := cz hb6 qfa; have hbr6 := hbrX.trans (hb6.mono hbrX.size); have hg6 := Nat.lt_of_lt_of_le hgX hb6.size; have hx6 := Nat.lt_of_lt_of_le hzX hb6.size; clear hb6))
        go_roundw
        case rel =>
          refine ⟨k + 1, by omega, by go_num, hbr6, fun m z hm hz => ?_⟩
          by_cases hmk : m = k
          · subst hmk
            have h2 := HY.out
            rw [hz] at h2
            cases h2
            exact HNO.out
          · exact HN.out m z (by omega) hz
        case measure => simp [intOf]; omega
    · obtain rfl : n2 = k := by omega
      have hkn : ¬ ((n2 : Int) < (n2 : Int)) := by omega
      have HF := Lib.hid (HFIND.out.trans (findNone fun m y hy => HN.out m y (by have := (List.getElem?_eq_some_iff.1 hy).1; have := HA.out.1; have := HXL.out; omega) hy))
      go_wp2_with fail
      have hr := setRun_is (vs := [.int .i64 0, .int .i64 0, .string ⟨#[]⟩, .slice none 0 0, .bool false, .bool false]) (six qa0 qa1 qa2 qa3 qa4 qa5) (Nat.le_refl _)
      refine bodyPost_ret (results_cells2 (fn := Try.f52) (P := Try.prog) (p := 6) (u := 7) (ty := 76) rfl _ _ w.heap.size ⟨[.int .i64 0, .int .i64 0, .string ⟨#[]⟩, .slice none 0 0, .bool false, .bool false]⟩ _ ?a1 ?a2 rfl rfl rfl) ?a3 ?_
      case a1 => rfl
      case a2 => exact hr
      case a3 => rfl
      rw [HF.out]
      exact ⟨⟨lv0, rfl, lv0_lr _⟩, setRun_below [.int .i64 0, .int .i64 0, .string ⟨#[]⟩, .slice none 0 0, .bool false, .bool false] _ _ hbwr (Nat.le_refl _)⟩
end Ss
end Go.Proofs.Yteaanngagcflhaa
namespace Go.Proofs.Yteaanngagcflhaa
open Go.RowKit
namespace Ss
open Cu
set_option maxHeartbeats 16000000 in
theorem awake20_any (w : World) : Calls Try.prog 51 #[] w fun e w' => e = .returned (.bool true) ∧ Below w.heap.size w w' := by
  go_enter Try.func51, Try.ntmps51
  go_upto_region 2 with (fail)
  have hS0 : Sl (w.alloc (.cells #[.int .i64 0, .int .i64 1, .int .i64 1, .int .i64 0, .string ⟨#[]⟩, .string ⟨#[112, 111, 115, 116, 112, 97, 105, 100]⟩, .int .i64 1, .int .i64 100, .int .i64 3, .int .i64 1, .int .i64 7, .string ⟨#[]⟩, .string ⟨#[98, 97, 115, 105, 99]⟩, .int .i64 0, .int .i64 200, .int .i64 8, .int .i64 0, .int .i64 7, .string ⟨#[]⟩, .string ⟨#[102, 108, 97, 116]⟩, .int .i64 0, .int .i64 300, .int .i64 10, .int .i64 0, .int .i64 7, .string ⟨#[]⟩, .string ⟨#[]⟩, .int .i64 0, .int .i64 400, .int .i64 11, .int .i64 0, .int .i64 7, .string ⟨#[]⟩, .string ⟨#[]⟩, .int .i64 0, .int .i64 400, .int .i64 7, .int .i64 0, .int .i64 7, .string ⟨#[]⟩, .string ⟨#[112, 108, 117, 115]⟩, .int .i64 0] 36)) (some ⟨w.heap.size, 0, none⟩) 6 6 lz := Sl.new w #[.int .i64 0, .int .i64 1, .int .i64 1, .int .i64 0, .string ⟨#[]⟩, .string ⟨#[112, 111, 115, 116, 112, 97, 105, 100]⟩, .int .i64 1, .int .i64 100, .int .i64 3, .int .i64 1, .int .i64 7, .string ⟨#[]⟩, .string ⟨#[98, 97, 115, 105, 99]⟩, .int .i64 0, .int .i64 200, .int .i64 8, .int .i64 0, .int .i64 7, .string ⟨#[]⟩, .string ⟨#[102, 108, 97, 116]⟩, .int .i64 0, .int .i64 300, .int .i64 10, .int .i64 0, .int .i64 7, .string ⟨#[]⟩, .string ⟨#[]⟩, .int .i64 0, .int .i64 400, .int .i64 11, .int .i64 0, .int .i64 7, .string ⟨#[]⟩, .string ⟨#[]⟩, .int .i64 0, .int .i64 400, .int .i64 7, .int .i64 0, .int .i64 7, .string ⟨#[]⟩, .string ⟨#[112, 108, 117, 115]⟩, .int .i64 0] _ w.heap.size rfl lz 6 rfl (by unfold maxLen; omega) rfl
  obtain ⟨V, hV⟩ : ∃ V, V = w.alloc (.cells #[.int .i64 0, .int .i64 1, .int .i64 1, .int .i64 0, .string ⟨#[]⟩, .string ⟨#[112, 111, 115, 116, 112, 97, 105, 100]⟩, .int .i64 1, .int .i64 100, .int .i64 3, .int .i64 1, .int .i64 7, .string ⟨#[]⟩, .string ⟨#[98, 97, 115, 105, 99]⟩, .int .i64 0, .int .i64 200, .int .i64 8, .int .i64 0, .int .i64 7, .string ⟨#[]⟩, .string ⟨#[102, 108, 97, 116]⟩, .int .i64 0, .int .i64 300, .int .i64 10, .int .i64 0, .int .i64 7, .string ⟨#[]⟩, .string ⟨#[]⟩, .int .i64 0, .int .i64 400, .int .i64 11, .int .i64 0, .int .i64 7, .string ⟨#[]⟩, .string ⟨#[]⟩, .int .i64 0, .int .i64 400, .int .i64 7, .int .i64 0, .int .i64 7, .string ⟨#[]⟩, .string ⟨#[112, 108, 117, 115]⟩, .int .i64 0] 36) := ⟨_, rfl⟩
  have hbV : Below w.heap.size w V := by rw [hV]; exact (Below.refl _ _).alloc (Nat.le_refl _) _
  rw [← hV] at hS0 ⊢
  have HS := Lib.hid hS0
  clear hV hS0
  go_upto_region 3 with (go_at_call 55; go_must (refine (Spells_any _ 6 6 lz 7 _ HS.out (by omega)).mono ?_; rintro r w5 ⟨⟨A1, n1, c1, rfl, h5⟩, hb5⟩; rw [spz] at h5))
  have hn1 : n1 = 4 := by have := LS.len h5; simpa using this.symm
  subst hn1
  obtain ⟨_, us, hus, hall⟩ := h5
  obtain ⟨b, off, rfl, hbl, hcells⟩ := hus.base (by omega)
  obtain ⟨v1, hv1⟩ := hus.get (k := 0) (by omega)
  obtain ⟨v4, hv4⟩ := hus.get (k := 3) (by omega)
  have r1 := hall.2 0 v1 p1 hv1 rfl
  have r4 := hall.2 3 v4 p4 hv4 rfl
  have x0 := hcells 0 v1 hv1 0 _ rfl
  have x1 := hcells 0 v1 hv1 1 _ rfl
  have y0 := hcells 3 v4 hv4 0 _ rfl
  have y1 := hcells 3 v4 hv4 1 _ rfl
  have y2 := hcells 3 v4 hv4 2 _ rfl
  rw [show v1.f = 100 from r1.f] at x0
  rw [show v1.t = 200 from r1.t] at x1
  rw [show v4.f = 400 from r4.f] at y0
  rw [show v4.t = 12622780800 from r4.t] at y1
  rw [show v4.plan = nPlu from r4.plan] at y2
  have c0 : w5.cell? ⟨b, off, none⟩ = some (.int .i64 100) := by simpa using x0
  have c1' : w5.cell? ⟨b, off + 1, none⟩ = some (.int .i64 200) := by simpa using x1
  have d0 : w5.cell? ⟨b, off + 18, none⟩ = some (.int .i64 400) := y0
  have d1 : w5.cell? ⟨b, off + 19, none⟩ = some (.int .i64 12622780800) := y1
  have d2 : w5.cell? ⟨b, off + 20, none⟩ = some (.string ⟨#[112, 108, 117, 115]⟩) := y2
  have hbw5 := hbV.trans (hb5.mono hbV.size)
  replace HS := Lib.hid (HS.out.below hb5)
  clear hcells hus hall hv1 hv4 r1 r4 x0 x1 y0 y1 y2 hb5 hbV
  go_upto_region 4 with (go_at_call 52; go_must (refine (At_any _ 6 6 lz 7 399 _ HS.out vz).mono ?_; rintro r w6 ⟨⟨v, rfl, hv⟩, hb6⟩; rw [atz] at hv ⊢; obtain ⟨vf, vt, vp, vA, vn, vc, vs, va⟩ := v; have hvs : vs = true := hv.susp; subst hvs; clear hv; dsimp only [Lv.val, Option.isSome]))
  (obtain ⟨W, hWW, hbW, hzW, f1W, qfa⟩ := box1 w6 #[.int .i64 vf, .int .i64 vt, .string vp, .slice vA vn vc, .bool true, .bool va] 76; rw [← hWW]; have qa0 : W.cell? ⟨w6.heap.size, 0, none⟩ = some (.int .i64 vf) := f1W 0 _ rfl; have qa1 : W.cell? ⟨w6.heap.size, 1, none⟩ = some (.int .i64 vt) := f1W 1 _ rfl; have qa2 : W.cell? ⟨w6.heap.size, 2, none⟩ = some (.string vp) := f1W 2 _ rfl; have qa3 : W.cell? ⟨w6.heap.size, 3, none⟩ = some (.slice vA vn vc) := f1W 3 _ rfl; have qa4 : W.cell? ⟨w6.heap.size, 4, none⟩ = some (.bool true) := f1W 4 _ rfl; have qa5 : W.cell? ⟨w6.heap.size, 5, none⟩ = some (.bool va) := f1W 5 _ rfl; clear hWW f1W)
  have hb6W := hb6.trans (hbW.mono hb6.size)
  replace HS := Lib.hid (HS.out.below hb6W)
  replace c0 := cl hb6W c0
  replace c1' := cl hb6W c1'
  replace d0 := cl hb6W d0
  replace d1 := cl hb6W d1
  replace d2 := cl hb6W d2
  have hbwW := hbw5.trans (hb6W.mono hbw5.size)
  have hblW := Nat.lt_of_lt_of_le hbl hb6W.size
  clear hb6 hbW hb6W qa0 qa1 qa2 qa3 qa5
  go_upto_region 5 with (first
    | (go_at_call 59; go_must (refine (Active_any _ 6 6 lz 7 nFla _ HS.out vz).mono ?_; rintro r w7 ⟨⟨A7, n7, c7, rfl, h7⟩, hb7⟩; rw [acz] at h7; have H7 := Lib.hid h7.2; clear h7))
    | (go_at_call 61; go_must (refine (Served_any _ 6 6 lz 7 _ (HS.out.below hb7) vz).mono ?_; rintro r w8 ⟨⟨A8, n8, c8, rfl, h8⟩, hb8⟩; rw [sez] at h8; have H8 := Lib.hid h8.2; clear h8)))
  have hb78 := hb7.trans (hb8.mono hb7.size)
  replace HS := Lib.hid (HS.out.below hb78)
  replace c0 := cl hb78 c0
  replace c1' := cl hb78 c1'
  replace d0 := cl hb78 d0
  replace d1 := cl hb78 d1
  replace d2 := cl hb78 d2
  replace qa4 := cl hb78 qa4
  have hn7 : n7 = 1 := by have := H7.out.len; simpa using this.symm
  have hn8 : n8 = 2 := by have := H8.out.len; simpa using this.symm
  subst hn7 hn8
  have hbw8 := hbwW.trans (hb78.mono hbwW.size)
  obtain ⟨b7, o7, rfl, hl7, hc7⟩ := (H7.out.below hb8).base (by omega)
  obtain ⟨b8, o8, rfl, hl8, hc8⟩ := H8.out.base (by omega)
  have f0 : w8.cell? ⟨b7, o7, none⟩ = some (.int .i64 200) := by have := hc7 0 ⟨200, 12622780800⟩ rfl 0 _ rfl; simpa using this
  have f1 : w8.cell? ⟨b7, o7 + 1, none⟩ = some (.int .i64 12622780800) := by have := hc7 0 ⟨200, 12622780800⟩ rfl 1 _ rfl; simpa using this
  have g0 : w8.cell? ⟨b8, o8, none⟩ = some (.int .i64 100) := by have := hc8 0 ⟨100, 300⟩ rfl 0 _ rfl; simpa using this
  have g1 : w8.cell? ⟨b8, o8 + 1, none⟩ = some (.int .i64 300) := by have := hc8 0 ⟨100, 300⟩ rfl 1 _ rfl; simpa using this
  clear hc7 hc8 H7 H8 hb7 hb8 hb78
  go_wp2_with (go_at_call 64; go_must (refine (Family_any _ 6 6 lz 1 500 _ HS.out vz szz).mono ?_; rintro r w9 ⟨⟨A9, n9, c9, rfl, h9⟩, hb9⟩; rw [faz] at h9; (obtain rfl : n9 = 0 := by have := h9.2.len; simpa using this.symm); clear h9))
  go_ret
  exact ⟨rfl, hbw8.trans (hb9.mono hbw8.size)⟩
end Ss
end Go.Proofs.Yteaanngagcflhaa
namespace Go.Proofs.Yteaanngagcflhaa
open Go.RowKit
namespace Ss
open Cu
set_option maxHeartbeats 8000000 in
theorem rAt_any (A : Option Addr) (n c : Nat) (l : List Ev) (x t : Int) (w : World) (hs : Sl w A n c l) (hv : Vl l) :
    Calls Try.prog 53 #[.slice A n c, .int .i64 x, .int .i64 t] w fun r w' => (∃ v : Lv, r = .returned (.tuple #[v.val, .bool (atI (spE l x) t).isSome]) ∧ LR w' v ((atI (spE l x) t).getD iv0)) ∧ Below w.heap.size w w' := by
  have HS := Lib.hid hs
  have HV := Lib.hid hv
  have h1000 : n ≤ 1000 := by have := hs.len; have := hv.1; omega
  clear hs hv
  obtain ⟨AT, hAT⟩ : ∃ AT, atI (spE l x) t = AT := ⟨_, rfl⟩
  rw [hAT]
  have HFIND : Hid (AT = (spE l x).find? (inV t)) := Lib.hid hAT.symm
  clear hAT
  go_enter Try.func53, Try.ntmps53
  go_upto_region 1 with (fail)
  (obtain ⟨V, hWV, hbV, hzV, f1V, qfa⟩ := box1 w #[.int .i64 0, .int .i64 0, .string ⟨#[]⟩, .slice none 0 0, .bool false, .bool false] 76; rw [← hWV]; have qa0 : V.cell? ⟨w.heap.size, 0, none⟩ = some (.int .i64 0) := f1V 0 _ rfl; have qa1 : V.cell? ⟨w.heap.size, 1, none⟩ = some (.int .i64 0) := f1V 1 _ rfl; have qa2 : V.cell? ⟨w.heap.size, 2, none⟩ = some (.string ⟨#[]⟩) := f1V 2 _ rfl; have qa3 : V.cell? ⟨w.heap.size, 3, none⟩ = some (.slice none 0 0) := f1V 3 _ rfl; have qa4 : V.cell? ⟨w.heap.size, 4, none⟩ = some (.bool false) := f1V 4 _ rfl; have qa5 : V.cell? ⟨w.heap.size, 5, none⟩ = some (.bool false) := f1V 5 _ rfl; clear hWV f1V)
  go_wp2_with (go_at_call 56; go_must (refine (rSpells_any A n c l x _ (HS.out.below hbV) HV.out).mono ?_; rintro r w5 ⟨⟨A2, n2, c2, rfl, h2⟩, hb5⟩; skip; have hbw5 := hbV.trans (hb5.mono hbV.size); have hgV : w.heap.size < w5.heap.size := Nat.lt_of_lt_of_le hzV hb5.size; replace qa0 := cl hb5 qa0; replace qa1 := cl hb5 qa1; replace qa2 := cl hb5 qa2; replace qa3 := cl hb5 qa3; replace qa4 := cl hb5 qa4; replace qa5 := cl hb5 qa5; replace qfa := cz hb5 qfa; have H2 := Lib.hid h2; clear h2 hb5))
  obtain ⟨_, xs, hxs, hall⟩ := H2.out
  have HX := Lib.hid hxs
  have HA := Lib.hid hall
  have HXL := Lib.hid hxs.len
  have hnm := hxs.nmax
  have HNE : Hid (∀ d ∈ spE l x, NeS d.q.prods) := Lib.hid fun d h => spE_ne HV.out h
  have HGD : Hid (∀ d ∈ spE l x, 0 ≤ d.from_ ∧ d.from_ < d.to_ ∧ d.to_ ≤ 12622780800) := Lib.hid fun d h => spE_good HV.out h
  obtain ⟨SP, hSP⟩ : ∃ SP, spE l x = SP := ⟨_, rfl⟩
  rw [hSP] at HA HNE HGD HFIND
  clear hxs hall hSP H2
  go_loopw [9] (fun i wr => ∃ k : Nat, k ≤ n2 ∧ i = .int .i64 k ∧ Below w5.heap.size w5 wr ∧ ∀ (m : Nat) y, m < k → SP[m]? = some y → inV t y = false) (fun i _ => n2 - (intOf i).toNat)
  case atStart => exact ⟨0, Nat.zero_le _, rfl, Below.refl _ _, fun m y hm => absurd hm (Nat.not_lt_zero _)⟩
  case round =>
    obtain ⟨k, hk, rfl, hbr, hno⟩ := hrel
    have HN := Lib.hid hno
    have hgr := Nat.lt_of_lt_of_le hgV hbr.size
    have hbwr := hbw5.trans (hbr.mono hbw5.size)
    clear hno
    replace qa0 := cl hbr qa0
    replace qa1 := cl hbr qa1
    replace qa2 := cl hbr qa2
    replace qa3 := cl hbr qa3
    replace qa4 := cl hbr qa4
    replace qa5 := cl hbr qa5
    replace qfa := cz hbr qfa
    by_cases hlt : k < n2
    · obtain ⟨b, off, hAe, hbl, hcells⟩ := HX.out.baseIn hbr (by omega)
      obtain ⟨v, hv⟩ := HX.out.get hlt
      obtain ⟨y, hy, hlr⟩ := HA.out.at_ hv
      have hbl2 : b < wr.heap.size := Nat.lt_of_lt_of_le hbl hbr.size
      have e0 : wr.cell? ⟨b, off + k * 6, none⟩ = some (.int .i64 v.f) := Sl.at_ hcells hv 0 rfl
      have e1 : wr.cell? ⟨b, off + k * 6 + 1, none⟩ = some (.int .i64 v.t) := Sl.at_ hcells hv 1 rfl
      have e2 : wr.cell? ⟨b, off + k * 6 + 2, none⟩ = some (.string v.plan) := Sl.at_ hcells hv 2 rfl
      have e3 : wr.cell? ⟨b, off + k * 6 + 3, none⟩ = some (.slice v.A v.n v.c) := Sl.at_ hcells hv 3 rfl
      have e4 : wr.cell? ⟨b, off + k * 6 + 4, none⟩ = some (.bool v.susp) := Sl.at_ hcells hv 4 rfl
      have e5 : wr.cell? ⟨b, off + k * 6 + 5, none⟩ = some (.bool v.fam) := Sl.at_ hcells hv 5 rfl
      have HLR := Lib.hid hlr
      have HY := Lib.hid hy
      have HYN := Lib.hid (HNE.out y (List.mem_of_getElem? hy))
      have hgd : 0 ≤ v.f ∧ v.f < v.t ∧ v.t ≤ 12622780800 := by rw [hlr.f, hlr.t]; exact HGD.out y (List.mem_of_getElem? hy)
      have HFT : Hid (v.f = y.from_ ∧ v.t = y.to_) := Lib.hid ⟨hlr.f, hlr.t⟩
      have hkw : IntKind.i64.wrap ((k : Int) + 1) = (k : Int) + 1 := IntWalk.i64_in _ (by omega)
      subst hAe
      clear hcells hv hy hlr
      by_cases c1 : v.f ≤ t
      · have d1 : decide (v.f ≤ t) = true := decide_eq_true c1
        by_cases c2 : t < v.t
        · have d2 : decide (t < v.t) = true := decide_eq_true c2
          have HF := Lib.hid (HFIND.out.trans (findAt HY.out (inV_t (by rw [← HFT.out.1]; exact c1) (by rw [← HFT.out.2]; exact c2)) HN.out))
          go_wp2_with fail
          have hr := setRun_is (vs := [.int .i64 v.f, .int .i64 v.t, .string v.plan, .slice v.A v.n v.c, .bool v.susp, .bool v.fam]) (six qa0 qa1 qa2 qa3 qa4 qa5) (Nat.le_refl _)
          refine bodyPost_ret (results_cells2 (fn := Try.f53) (P := Try.prog) (p := 6) (u := 7) (ty := 76) rfl _ _ w.heap.size ⟨[.int .i64 v.f, .int .i64 v.t, .string v.plan, .slice v.A v.n v.c, .bool v.susp, .bool v.fam]⟩ _ ?a1 ?a2 rfl rfl rfl) ?a3 ?_
          case a1 => rfl
          case a2 => exact hr
          case a3 => rfl
          rw [HF.out]
          exact ⟨⟨v, rfl, LR.setRunNe [.int .i64 v.f, .int .i64 v.t, .string v.plan, .slice v.A v.n v.c, .bool v.susp, .bool v.fam] 0 (HLR.out.on hbr) (oldL HYN.out qa0 qa1 qa2 qa3 qa4 qa5)⟩, setRun_below [.int .i64 v.f, .int .i64 v.t, .string v.plan, .slice v.A v.n v.c, .bool v.susp, .bool v.fam] _ _ hbwr (Nat.le_refl _)⟩
        · have d2 : decide (t < v.t) = false := decide_eq_false c2
          have HNO := Lib.hid (inV_f2 (d := y) (by rw [← HFT.out.2]; exact c2))
          go_wp2_with fail
          go_roundw
          case rel =>
            refine ⟨k + 1, by omega, by go_num, hbr, fun m z hm hz => ?_⟩
            by_cases hmk : m = k
            · subst hmk
              have h2 := HY.out
              rw [hz] at h2
              cases h2
              exact HNO.out
            · exact HN.out m z (by omega) hz
          case measure => simp [intOf]; omega
      · have d1 : decide (v.f ≤ t) = false := decide_eq_false c1
        have HNO := Lib.hid (inV_f1 (d := y) (by rw [← HFT.out.1]; exact c1))
        go_wp2_with fail
        go_roundw
        case rel =>
          refine ⟨k + 1, by omega, by go_num, hbr, fun m z hm hz => ?_⟩
          by_cases hmk : m = k
          · subst hmk
            have h2 := HY.out
            rw [hz] at h2
            cases h2
            exact HNO.out
          · exact HN.out m z (by omega) hz
        case measure => simp [intOf]; omega
    · obtain rfl : n2 = k := by omega
      have hkn : ¬ ((n2 : Int) < (n2 : Int)) := by omega
      have HF := Lib.hid (HFIND.out.trans (findNone fun m y hy => HN.out m y (by have := (List.getElem?_eq_some_iff.1 hy).1; have := HA.out.1; have := HXL.out; omega) hy))
      go_wp2_with fail
      have hr := setRun_is (vs := [.int .i64 0, .int .i64 0, .string ⟨#[]⟩, .slice none 0 0, .bool false, .bool false]) (six qa0 qa1 qa2 qa3 qa4 qa5) (Nat.le_refl _)
      refine bodyPost_ret (results_cells2 (fn := Try.f53) (P := Try.prog) (p := 6) (u := 7) (ty := 76) rfl _ _ w.heap.size ⟨[.int .i64 0, .int .i64 0, .string ⟨#[]⟩, .slice none 0 0, .bool false, .bool false]⟩ _ ?a1 ?a2 rfl rfl rfl) ?a3 ?_
      case a1 => rfl
      case a2 => exact hr
      case a3 => rfl
      rw [HF.out]
      exact ⟨⟨lv0, rfl, lv0_lr _⟩, setRun_below [.int .i64 0, .int .i64 0, .string ⟨#[]⟩, .slice none 0 0, .bool false, .bool false] _ _ hbwr (Nat.le_refl _)⟩
end Ss
end Go.Proofs.Yteaanngagcflhaa
namespace Go.Proofs.Yteaanngagcflhaa
open Go.ChangeShapes Go.WideShapes Go.ChangeAt Go.RowKit
theorem lt_of_cell {w : World} {a : Addr} {v : Value} (h : w.cell? a = some v) : a.block < w.heap.size := by
  apply Decidable.byContradiction
  intro hn
  have h1 : w.heap[a.block]? = none := Array.getElem?_eq_none (by omega)
  simp [World.cell?, h1] at h
section
variable {H : Type} {enc : TypeId × Value → H} {P : Program}
theorem trodAll_stays (hl : laidOutB P = true) {W W' : World} {sp : Nat → Bool} : ∀ {ts : List TypeId} {vs : List Value} {ds : List (DataW H)} {ps : List MemPlace},
    (∀ t ∈ ts, P.readableRec t = true ∧ t < P.types.size) → DataW.TrodAll enc P W 0 (fun _ => true) true ts vs ds ps → (∀ p ∈ ps, W.sameAt W' p) → (∀ p ∈ ps, sp p.block = true) → DataW.TrodAll enc P W' 0 sp true ts vs ds ps
  | [], [], [], _, _, h, _, _ => h
  | t :: ts, v :: vs, d :: ds, _, hT, ⟨p, q, h1, h2, e⟩, hs, hp => by
    subst e
    exact ⟨p, q, WideElems.Trod_stays hl (hT t (List.mem_cons.2 (.inl rfl))).1 (hT t (List.mem_cons.2 (.inl rfl))).2 h1 (fun x hx => hs x (List.mem_append_left _ hx)) (fun x hx => hp x (List.mem_append_left _ hx)),
      trodAll_stays hl (fun t ht => hT t (List.mem_cons.2 (.inr ht))) h2 (fun x hx => hs x (List.mem_append_right _ hx)) (fun x hx => hp x (List.mem_append_right _ hx)), rfl⟩
theorem post_true {f : Func} {s : ChangeSpec} {W W' : World} {args : Array Value} {ds gs : List (DataW H)} {before : List MemPlace} {tb : TypeId}
    (hl : laidOutB P = true) (htb : P.underlying tb = some .bool) (hr : f.resultTypes = #[tb]) (hts : ∀ t ∈ f.params.toList, P.readableRec t = true ∧ t < P.types.size) (hsv : s.vars = [])
    (hW : DataW.Whole enc P f.params.toList s.vars false W args.toList ds gs before)
    (h1 : (s.fn H (ds ++ gs)).results = [.lit (.bool true)]) (h2 : (s.fn H (ds ++ gs)).args = ds) (h3 : (s.fn H (ds ++ gs)).vars = []) (hb : Below W.heap.size W W') :
    s.post enc P f false true false false W args (.bool true) W' := by
  have hlt : ∀ p ∈ before, p.block < W.heap.size := fun p hp => hW.lt p hp
  have hW0 := hW
  obtain ⟨p, q, hA, hV, hps, hz, hn⟩ := hW
  rw [hsv] at hV
  have hq : q = [] := by cases gs <;> simp [DataW.TrodVars] at hV; exact hV
  subst hq
  rw [List.append_nil] at hps
  subst hps
  have hres : ∀ (b : Nat) (sp : Nat → Bool) (hd : Bool), DataW.TrodAll enc P W' b sp hd f.resultTypes.toList ((Value.bool true).resultList f.resultTypes.size) (s.fn H (ds ++ gs)).results [] := by
    intro b sp hd
    rw [h1, hr]
    exact trodAll_mk1 (shut_bool htb _)
  have hargs : ∀ sp : Nat → Bool, (∀ x ∈ before, sp x.block = true) → DataW.TrodAll enc P W' 0 sp true f.params.toList args.toList (s.fn H (ds ++ gs)).args before := by
    intro sp hsp
    rw [h2]
    exact trodAll_stays hl hts hA (fun x hx => hb.same (hlt x hx)) hsp
  have hvars : ∀ sp : Nat → Bool, (∀ x ∈ before, sp x.block = true) → DataW.TrodVars enc P W' sp s.vars (s.fn H (ds ++ gs)).vars [] := by
    intro sp _
    rw [h3, hsv]
    rfl
  have hold : ∀ x ∈ before, (fun b => decide (b < W.heap.size)) x.block = true := fun x hx => by simpa using hlt x hx
  refine ⟨ds, gs, before, [], before, [], hW0, hres _ _ _, hargs _ hold, hvars _ hold, World.keptBut_mono (fun x hx => ⟨hx, .inr (by simpa using hx)⟩) (hb.frame (· ∈ before)), fun _ => ?_⟩
  refine ⟨ok_one hr rfl (okWide_bool_mk htb true), _, _, [] ++ before, ⟨[] ++ before, [], trodAll_append (hargs _ (fun _ _ => rfl)) (hres _ _ _), hvars _ (fun _ _ => rfl), by simp, ?_, ?_⟩, ?_⟩
  · intro b off hp
    have hin : MemPlace.cell b off ∈ before := by simpa using hp
    rw [hb.frozen (hlt _ hin)]
    exact hz b off hin
  · intro ha
    cases ha
  · intro x hx _
    simpa using hx
variable {w : World} {base : Nat} {spare : Nat → Bool} {held : Bool}
end
end Go.Proofs.Yteaanngagcflhaa
namespace Go.Proofs.Yteaanngagcflhaa
open Go.ChangeShapes Go.WideShapes Go.ChangeAt Go.RowKit
end Go.Proofs.Yteaanngagcflhaa
namespace Go.Proofs.Yteaanngagcflhaa
open Go.ChangeShapes Go.WideShapes Go.ChangeAt Go.RowKit
section
variable {H : Type} {enc : TypeId × Value → H} {P : Program} {w : World} {base : Nat} {spare : Nat → Bool} {held : Bool}
theorem sub_cells {e : TypeId} {fs : Array Field} {n : Nat} {cs : List Value} {y : DataW H × List MemPlace} (he : P.underlying e = some (.struct fs))
    (h : DataW.trod enc P w base spare held n e cs = some y) {i : Nat} {f : Field} (hf : fs[i]? = some f) : ∃ (m : Nat) (z : DataW H × List MemPlace), n = m + 1 ∧ DataW.trod enc P w base spare held m f.type ((cs.drop f.offset).take (P.cellsOf f.type)) = some z := by
  obtain ⟨ys, m, hm, _, _, hyl, hat⟩ := DataW.trod_struct he h
  have hil : i < fs.size := (Array.getElem?_eq_some_iff.1 hf).1
  exact ⟨m, ys[i]'(by omega), hm, (hat i f hf).trans (List.getElem?_eq_getElem (by omega))⟩
theorem sub_cell {e : TypeId} {fs : Array Field} {n : Nat} {cs : List Value} {y : DataW H × List MemPlace} (he : P.underlying e = some (.struct fs))
    (h : DataW.trod enc P w base spare held n e cs = some y) {i : Nat} {f : Field} (hf : fs[i]? = some f) {o : Nat} (ho : f.offset = o) (hc : P.cellsOf f.type = 1) (hi : o < cs.length) : ∃ (v : Value) (m : Nat) (z : DataW H × List MemPlace), n = m + 1 ∧ cs[o]? = some v ∧ DataW.trod enc P w base spare held m f.type [v] = some z := by
  obtain ⟨m, z, hm, hz⟩ := sub_cells he h hf
  rw [ho, hc, List.drop_eq_getElem_cons hi] at hz
  exact ⟨cs[o], m, z, hm, List.getElem?_eq_getElem hi, hz⟩
theorem sub_int {e : TypeId} {fs : Array Field} {n : Nat} {cs : List Value} {y : DataW H × List MemPlace} {k : IntKind} (he : P.underlying e = some (.struct fs))
    (h : DataW.trod enc P w base spare held n e cs = some y) {i : Nat} {f : Field} (hf : fs[i]? = some f) {o : Nat} (ho : f.offset = o) (hc : P.cellsOf f.type = 1) (hi : o < cs.length) (hk : P.underlying f.type = some (.int k)) : ∃ z : Int, cs[o]? = some (.int k z) ∧ (Lit.int k z).wf = true := by
  obtain ⟨v, m, y', _, hv, ht⟩ := sub_cell he h hf ho hc hi
  obtain ⟨z, hz, _, hw⟩ := DataW.trod_int hk ht
  cases hz
  exact ⟨z, hv, hw⟩
theorem sub_str {e : TypeId} {fs : Array Field} {n : Nat} {cs : List Value} {y : DataW H × List MemPlace} (he : P.underlying e = some (.struct fs))
    (h : DataW.trod enc P w base spare held n e cs = some y) {i : Nat} {f : Field} (hf : fs[i]? = some f) {o : Nat} (ho : f.offset = o) (hc : P.cellsOf f.type = 1) (hi : o < cs.length) (hk : P.underlying f.type = some .string) : ∃ s : ByteArray, cs[o]? = some (.string s) ∧ s.size ≤ maxLen := by
  obtain ⟨v, m, y', _, hv, ht⟩ := sub_cell he h hf ho hc hi
  obtain ⟨s, hs, _, hw⟩ := DataW.trod_string hk ht
  cases hs
  exact ⟨s, hv, hw⟩
end
end Go.Proofs.Yteaanngagcflhaa
namespace Go.Proofs.Yteaanngagcflhaa
open Go.RowKit
open Go.ChangeShapes Go.WideShapes Go.ChangeAt
section
variable {H : Type} {enc : TypeId × Value → H} {P : Program} {w : World} {base : Nat} {spare : Nat → Bool} {held : Bool}
theorem open_flatK {α : Type} [Flat α] (K : α → Prop) {t e : TypeId} {v : Value} {d : DataW H} {p : List MemPlace} {r : Reach} {b0 : Nat} (ht : P.underlying t = some (.slice e)) (hC : P.cellsOf e = Flat.sz α)
    (hread : ∀ (n : Nat) (cs : List Value) (y : DataW H × List MemPlace), cs.length = Flat.sz α → DataW.trod enc P w base spare held n e cs = some y → ∃ x : α, cs = Flat.cells x ∧ K x)
    (hv : Value.okWide P w r b0 t v) (h : DataW.Trod enc P w base spare held t v d p) : ∃ (A : Option Addr) (n c : Nat) (xs : List α), v = .slice A n c ∧ (A = none → c = 0) ∧ Sl w A n c xs ∧ ∀ x ∈ xs, K x := by
  obtain ⟨a0, n0, c0, rfl⟩ := okWide_slice ht hv
  obtain ⟨fuel, hf⟩ := h
  rcases Go.Deep.open_slice ht hf with ⟨h0, _⟩ | ⟨a, len, cap, m, n, D, Pl, hcs, hb, hl, hm, hmm, hx, hi⟩
  · simp [Value.cells] at h0
    obtain ⟨rfl, rfl, rfl⟩ := h0
    exact ⟨none, 0, 0, [], rfl, fun _ => rfl, Sl.nil_ _, fun x hx => by cases hx⟩
  · simp [Value.cells] at hcs
    obtain ⟨rfl, rfl, rfl⟩ := hcs
    have hlm : n0 ≤ m := by rw [hmm]; split <;> omega
    have key : ∀ i, i < n0 → ∃ x : α, (∀ j u, (Flat.cells x)[j]? = some u → w.cell? (a.add (i * Flat.sz α + j)) = some u) ∧ K x := by
      intro i hin
      obtain ⟨cs', hc, ht'⟩ := hi i (by omega)
      rw [hC] at hc
      obtain ⟨_, hcl, hat⟩ := World.cells?_some hc
      obtain ⟨x, hx, hK⟩ := hread _ _ _ hcl ht'
      refine ⟨x, fun j u hu => ?_, hK⟩
      have hj : j < Flat.sz α := by rw [← Flat.len x]; exact (List.getElem?_eq_some_iff.1 hu).1
      have h1 := hat j hj
      rw [Go.Deep.add_add, hx, hu] at h1
      exact h1
    by_cases hn : n0 = 0
    · subst hn
      exact ⟨some a, 0, c0, [], rfl, fun h => (by cases h), ⟨rfl, by omega, hm, fun h => absurd h (by omega)⟩, fun x hx => by cases hx⟩
    · have h0 : ∃ u, w.cell? a = some u := by
        obtain ⟨x, hx, _⟩ := key 0 (by omega)
        have hp := Flat.pos (α := α)
        have hl0 := Flat.len x
        have h1 := hx 0 _ (List.getElem?_eq_getElem (show 0 < (Flat.cells x).length by omega))
        exact ⟨(Flat.cells x)[0]'(by omega), by simpa [Addr.add] using h1⟩
      obtain ⟨u0, h0⟩ := h0
      have hsp := World.cell?_spot h0
      have hbl := lt_of_cell h0
      obtain ⟨b, off, spot⟩ := a
      dsimp only at hsp hbl
      subst hsp
      refine ⟨some ⟨b, off, none⟩, n0, c0, List.ofFn (fun i : Fin n0 => Classical.choose (key i.1 i.2)), rfl, fun h => (by cases h), ⟨by simp, hl, hm, fun _ => ⟨b, off, rfl, hbl, fun i x hx j u hu => ?_⟩⟩, ?_⟩
      · rw [List.getElem?_ofFn] at hx
        split at hx
        · rename_i hin
          cases hx
          have h1 := (Classical.choose_spec (key i hin)).1 j u hu
          rw [add_mk] at h1
          rw [Nat.add_assoc]
          exact h1
        · cases hx
      · intro x hx
        obtain ⟨i, rfl⟩ := List.mem_ofFn.1 hx
        exact (Classical.choose_spec (key i.1 i.2)).2
end
namespace Cu
def evOk (e : Ev) : Prop := e.num.size ≤ maxLen ∧ e.name.size ≤ maxLen
section
variable {H : Type} {enc : TypeId × Value → H} {w : World} {base : Nat} {spare : Nat → Bool} {held : Bool}
theorem ev_read (n : Nat) (cs : List Value) (y : DataW H × List MemPlace) (hl : cs.length = Flat.sz Ev)
    (h : DataW.trod enc Try.prog w base spare held n 36 cs = some y) : ∃ x : Ev, cs = Flat.cells x ∧ evOk x := by
  have h7 : cs.length = 7 := hl
  obtain ⟨a0, h0, _⟩ := sub_int Try.underlying36 h (i := 0) rfl (o := 0) rfl (by kernel_rfl) (by omega) Try.underlying3
  obtain ⟨a1, h1, _⟩ := sub_int Try.underlying36 h (i := 1) rfl (o := 1) rfl (by kernel_rfl) (by omega) Try.underlying3
  obtain ⟨a2, h2, _⟩ := sub_int Try.underlying36 h (i := 2) rfl (o := 2) rfl (by kernel_rfl) (by omega) Try.underlying3
  obtain ⟨a3, h3, _⟩ := sub_int Try.underlying36 h (i := 3) rfl (o := 3) rfl (by kernel_rfl) (by omega) Try.underlying3
  obtain ⟨a4, h4, k4⟩ := sub_str Try.underlying36 h (i := 4) rfl (o := 4) rfl (by kernel_rfl) (by omega) Try.underlying9
  obtain ⟨a5, h5, k5⟩ := sub_str Try.underlying36 h (i := 5) rfl (o := 5) rfl (by kernel_rfl) (by omega) Try.underlying9
  obtain ⟨a6, h6, _⟩ := sub_int Try.underlying36 h (i := 6) rfl (o := 6) rfl (by kernel_rfl) (by omega) Try.underlying3
  refine ⟨⟨a0, a1, a2, a3, a4, a5, a6⟩, ?_, k4, k5⟩
  match cs, h7 with
  | [_, _, _, _, _, _, _], _ =>
    cases h0; cases h1; cases h2; cases h3; cases h4; cases h5; cases h6
    rfl
theorem open_evs {v : Value} {d : DataW H} {p : List MemPlace} {r : Reach} {b0 : Nat} (hv : Value.okWide Try.prog w r b0 22 v) (h : DataW.Trod enc Try.prog w base spare held 22 v d p) :
    ∃ (A : Option Addr) (n c : Nat) (l : List Ev), v = .slice A n c ∧ (A = none → c = 0) ∧ Sl w A n c l ∧ SzOk l :=
  open_flatK evOk Try.underlying22 (by kernel_rfl) ev_read hv h
end
end Cu
end Go.Proofs.Yteaanngagcflhaa
