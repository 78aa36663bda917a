/-
  Tariffs: law Stays. No condition.
-/
import Derived.Test.YtdnnnajohdohaaaT9J
import Derived.BigQuiet
import Derived.StillTailTactics
import Derived.Lib.Overlaps
import Derived.Deep.DeepCutAuto
import Derived.Deep.RegionWith
import Derived.Laws.RangeAny
set_option maxRecDepth 100000
set_option linter.unusedVariables false
set_option linter.unusedSimpArgs false
namespace Go.Proofs.Ytdnnnajohdohaaa
open Go.RowKit

namespace Cv
open Xp Ck
set_option maxHeartbeats 16000000 in
theorem law_stays (A : Option Addr) (n c : Nat) (Ts : List Td) (nm : ByteArray) (f t : Int) (w : World) (h : LT w A n c Ts) (hf : ∀ T ∈ Ts, Fits T) :
    Calls Try.prog 8 #[.slice A n c, .string nm, .agg #[.int .i64 f, .int .i64 t]] w fun e w' => e = .returned (.bool true) ∧ Below w.heap.size w w' := by
  have HLT := Lib.hid h
  have HFT := Lib.hid hf
  clear h hf
  go_enter Try.func8, Try.ntmps8
  go_upto_region 1 with (fail)
  (obtain ⟨W, hWW, hbW, hzW, f1W, qfa⟩ := box1 w #[.int .i64 f, .int .i64 t] 38; rw [← hWW]; have qa0 : W.cell? ⟨w.heap.size, 0, none⟩ = some (.int .i64 f) := f1W 0 _ rfl; have qa1 : W.cell? ⟨w.heap.size, 1, none⟩ = some (.int .i64 t) := f1W 1 _ rfl; clear hWW f1W)
  have hT := hbW
  have hg : w.heap.size < W.heap.size := hzW
  clear hbW qfa hzW
  go_wp2_with fail
  refine (smallL_any A n c Ts W (HLT.out.on_ hT)).mono ?_
  rintro r w1 ⟨⟨m, rfl, hm⟩, hb1⟩
  (have hzhb1 := hb1.size; replace qa0 := (hb1.cell (p := ⟨_, _, none⟩) (by (try dsimp only) <;> omega)).trans qa0; replace qa1 := (hb1.cell (p := ⟨_, _, none⟩) (by (try dsimp only) <;> omega)).trans qa1)
  have hg1 : w.heap.size < w1.heap.size := by omega
  replace hT := hT.trans (hb1.mono hT.size)
  have HM := Lib.hid hm
  clear hm hb1
  cases m
  · go_wp2_with fail
    refine (awake_any _).mono ?_
    rintro r w9 ⟨rfl, hb9⟩
    replace hT := hT.trans (hb9.mono hT.size)
    clear hb9
    go_wp2_with fail
    go_ret
    exact ⟨rfl, hT⟩
  · have HW := Lib.hid (wide_all (HM.out rfl) HFT.out)
    have hn8 := (HM.out rfl).n8
    clear HM
    by_cases h3 : (300 : Int) < (nm.size : Int)
    · go_wp2_with fail
      refine (awake_any _).mono ?_
      rintro r w9 ⟨rfl, hb9⟩
      replace hT := hT.trans (hb9.mono hT.size)
      clear hb9
      go_wp2_with fail
      go_ret
      exact ⟨rfl, hT⟩
    · by_cases h4 : f < 0
      · go_wp2_with fail
        refine (awake_any _).mono ?_
        rintro r w9 ⟨rfl, hb9⟩
        replace hT := hT.trans (hb9.mono hT.size)
        clear hb9
        go_wp2_with fail
        go_ret
        exact ⟨rfl, hT⟩
      · by_cases h5 : t ≤ f
        · go_wp2_with fail
          refine (awake_any _).mono ?_
          rintro r w9 ⟨rfl, hb9⟩
          replace hT := hT.trans (hb9.mono hT.size)
          clear hb9
          go_wp2_with fail
          go_ret
          exact ⟨rfl, hT⟩
        · by_cases h6 : 12622780800 < t
          · go_wp2_with fail
            refine (awake_any _).mono ?_
            rintro r w9 ⟨rfl, hb9⟩
            replace hT := hT.trans (hb9.mono hT.size)
            clear hb9
            go_wp2_with fail
            go_ret
            exact ⟨rfl, hT⟩
          · go_wp2_with fail
            refine (ascending_any A n c Ts _ (HLT.out.on_ hT)).mono ?_
            rintro r w2 ⟨⟨m, rfl, hm⟩, hb2⟩
            (have hzhb2 := hb2.size; replace qa0 := (hb2.cell (p := ⟨_, _, none⟩) (by (try dsimp only) <;> omega)).trans qa0; replace qa1 := (hb2.cell (p := ⟨_, _, none⟩) (by (try dsimp only) <;> omega)).trans qa1)
            have hg2 : w.heap.size < w2.heap.size := by omega
            replace hT := hT.trans (hb2.mono hT.size)
            have HM := Lib.hid hm
            clear hm hb2
            cases m
            · go_wp2_with fail
              refine (awake_any _).mono ?_
              rintro r w9 ⟨rfl, hb9⟩
              replace hT := hT.trans (hb9.mono hT.size)
              clear hb9
              go_wp2_with fail
              go_ret
              exact ⟨rfl, hT⟩
            · have HP := Lib.hid (pw_of_asc (HM.out rfl))
              have hcd : chgD Ts nm f t = chgL Ts nm f t := by unfold chgD; rw [if_neg (by omega)]
              obtain ⟨cs, hcs⟩ : ∃ cs, chgL Ts nm f t = cs := ⟨_, rfl⟩
              have hcl : cs.length ≤ 8 := by have := chgL_len Ts nm f t; rw [hcs] at this; have := HLT.out.len; omega
              have HST := Lib.hid (fun i (hi : i ≤ cs.length) => show atD Ts nm (frS cs f i) = atD Ts nm (toS cs t i - 1) ∨ toS cs t i ≤ frS cs f i from by rw [← hcs] at hi ⊢; exact (stays HP.out i hi).imp id Int.not_lt.1)
              have HFR := Lib.hid (fun i (hi : i ≤ cs.length) (h0 : 0 < i) => show (atD Ts nm (frS cs f i)).2 = true ∧ (atD Ts nm (frS cs f i)).1.from_ = frS cs f i from by rw [← hcs] at hi ⊢; exact stays_from HP.out i hi h0)
              have HTO := Lib.hid (fun i => show f ≤ toS cs t i ∧ toS cs t i ≤ t from by rw [← hcs]; exact toS_bound i (by omega))
              have c3 := fun W' (hb : Below w.heap.size w W') => changes_any A n c Ts nm f t W' (HLT.out.on_ hb) (by omega)
              rw [hcd, hcs] at c3
              have HC3 := Lib.hid c3
              clear HM HP hcd hcs c3
              go_wp2_with fail
              refine (HC3.out _ hT).mono ?_
              rintro r w3 ⟨⟨A1, n1, c1, rfl, hs1⟩, hb3⟩
              (have hzhb3 := hb3.size; replace qa0 := (hb3.cell (p := ⟨_, _, none⟩) (by (try dsimp only) <;> omega)).trans qa0; replace qa1 := (hb3.cell (p := ⟨_, _, none⟩) (by (try dsimp only) <;> omega)).trans qa1)
              have hg3 : w.heap.size < w3.heap.size := by omega
              replace hT := hT.trans (hb3.mono hT.size)
              have HS1 := Lib.hid hs1
              have HLc := Lib.hid hs1.len
              have hn1 := hs1.nmax
              clear hs1 hb3 HC3
              have hl1 : n1 ≤ 8 := by have := HLc.out; omega
              go_wp2_with fail
              go_loopw [8, 9] (fun fr i wr => ∃ k : Nat, k ≤ n1 + 1 ∧ (fr = .int .i64 (frS cs f k) ∨ k = n1 + 1) ∧ (∃ z : Int, fr = .int .i64 z) ∧ i = .int .i64 k ∧ Below w3.heap.size w3 wr) (fun _ i _ => n1 + 1 - (intOf i).toNat)
              case atStart => exact ⟨0, Nat.zero_le _, .inl rfl, ⟨f, rfl⟩, rfl, Below.refl _ _⟩
              case round =>
                obtain ⟨k, hk, hfr, ⟨z, rfl⟩, rfl, hbr⟩ := hrel
                (have hzhbr := hbr.size; replace qa0 := (hbr.cell (p := ⟨_, _, none⟩) (by (try dsimp only) <;> omega)).trans qa0; replace qa1 := (hbr.cell (p := ⟨_, _, none⟩) (by (try dsimp only) <;> omega)).trans qa1)
                have hgr : w.heap.size < wr.heap.size := by omega
                replace hT := hT.trans (hbr.mono hT.size)
                replace HS1 := Lib.hid (HS1.out.below hbr)
                by_cases hle : k ≤ n1
                · have hle2 : (k : Int) ≤ (n1 : Int) := by omega
                  obtain rfl : z = frS cs f k := by rcases hfr with h | h; (injection h with _ h); omega
                  clear hfr
                  obtain ⟨fr, hfr⟩ : ∃ fr, frS cs f k = fr := ⟨_, rfl⟩
                  obtain ⟨tz, hto⟩ : ∃ tz, toS cs t k = tz := ⟨_, rfl⟩
                  have HTOk : f ≤ tz ∧ tz ≤ t := by rw [← hto]; exact HTO.out k
                  obtain ⟨ht1, ht2⟩ := HTOk
                  have HSTk := Lib.hid (show atD Ts nm fr = atD Ts nm (tz - 1) ∨ tz ≤ fr from by rw [← hfr, ← hto]; exact HST.out k (by rw [HLc.out]; exact hle))
                  have HFRk := Lib.hid (show 0 < k → (atD Ts nm fr).2 = true ∧ (atD Ts nm fr).1.from_ = fr from by rw [← hfr]; exact HFR.out k (by rw [HLc.out]; exact hle))
                  have HNX := Lib.hid (show k < n1 → frS cs f (k + 1) = tz from fun h => by rw [← hto]; exact frS_next (by rw [HLc.out]; exact h))
                  rw [hfr]
                  clear HST HFR HTO hfr
                  by_cases hlt : k < n1
                  · obtain ⟨b1, o1, rfl, hbl1, hc1⟩ := HS1.out.base (by omega)
                    obtain ⟨x, hx⟩ := HS1.out.get hlt
                    have e1 : wr.cell? ⟨b1, o1 + k * 1, none⟩ = some (.int .i64 x) := Sl.at_ hc1 hx 0 rfl
                    rw [Nat.mul_one] at e1
                    obtain rfl : x = tz := by rw [← hto]; unfold toS; rw [hx]; rfl
                    clear hc1 hx hto
                    have hlt2 : (k : Int) < (n1 : Int) := by omega
                    have hw1 : IntKind.i64.wrap (x - 1) = x - 1 := IntWalk.i64_in _ (by omega)
                    by_cases hft : fr < x
                    · have HEQ := Lib.hid (HSTk.out.resolve_right (fun h => absurd hft (Int.not_lt.2 h)))
                      obtain ⟨X, hX⟩ : ∃ X, (atD Ts nm fr).1 = X := ⟨_, rfl⟩
                      obtain ⟨bx, hbx⟩ : ∃ b, (atD Ts nm fr).2 = b := ⟨_, rfl⟩
                      have HFX := Lib.hid (show 0 < k → bx = true ∧ X.from_ = fr from by rw [← hX, ← hbx]; exact HFRk.out)
                      have c5 := fun W' hb => at_any A n c Ts nm fr W' (HLT.out.on_ hb) HW.out
                      have c6 := fun W' hb => at_any A n c Ts nm (x - 1) W' (HLT.out.on_ hb) HW.out
                      rw [hX, hbx] at c5
                      rw [← HEQ.out, hX, hbx] at c6
                      unfold Tv.val at c5 c6
                      have HC5 := Lib.hid c5
                      have HC6 := Lib.hid c6
                      clear c5 c6 hX hbx HEQ HSTk HFRk
                      go_wp2_with fail
                      refine (HC5.out _ hT).mono ?_
                      rintro r w5 ⟨⟨a, rfl, ha⟩, hb5⟩
                      (have hzhb5 := hb5.size; replace qa0 := (hb5.cell (p := ⟨_, _, none⟩) (by (try dsimp only) <;> omega)).trans qa0; replace qa1 := (hb5.cell (p := ⟨_, _, none⟩) (by (try dsimp only) <;> omega)).trans qa1)
                      replace HS1 := Lib.hid (HS1.out.below hb5)
                      replace hT := hT.trans (hb5.mono hT.size)
                      replace hbr := hbr.trans (hb5.mono hbr.size)
                      have hg5 : w.heap.size < w5.heap.size := by omega
                      clear hb5
                      have HTA := Lib.hid ha
                      clear ha
                      go_wp2_with fail
                      (obtain ⟨V, hWV, hbV, hzV, f1V, pfa⟩ := box1 w5 #[.string a.name, .int .i64 a.from_, .bool a.split, .slice a.Az a.nz a.cz, .slice a.Ab a.nb a.cb, .slice a.Ar a.nr a.cr, .slice a.Ad a.nd a.cd] 32; rw [← hWV]; have pa0 : V.cell? ⟨w5.heap.size, 0, none⟩ = some (.string a.name) := f1V 0 _ rfl; have pa1 : V.cell? ⟨w5.heap.size, 1, none⟩ = some (.int .i64 a.from_) := f1V 1 _ rfl; have pa2 : V.cell? ⟨w5.heap.size, 2, none⟩ = some (.bool a.split) := f1V 2 _ rfl; have pa3 : V.cell? ⟨w5.heap.size, 3, none⟩ = some (.slice a.Az a.nz a.cz) := f1V 3 _ rfl; have pa4 : V.cell? ⟨w5.heap.size, 4, none⟩ = some (.slice a.Ab a.nb a.cb) := f1V 4 _ rfl; have pa5 : V.cell? ⟨w5.heap.size, 5, none⟩ = some (.slice a.Ar a.nr a.cr) := f1V 5 _ rfl; have pa6 : V.cell? ⟨w5.heap.size, 6, none⟩ = some (.slice a.Ad a.nd a.cd) := f1V 6 _ rfl; clear hWV f1V)
                      (have hzhbV := hbV.size; replace qa0 := (hbV.cell (p := ⟨_, _, none⟩) (by (try dsimp only) <;> omega)).trans qa0; replace qa1 := (hbV.cell (p := ⟨_, _, none⟩) (by (try dsimp only) <;> omega)).trans qa1)
                      replace HTA := Lib.hid (HTA.out.on hbV)
                      replace HS1 := Lib.hid (HS1.out.below hbV)
                      replace hT := hT.trans (hbV.mono hT.size)
                      replace hbr := hbr.trans (hbV.mono hbr.size)
                      have hgV : w.heap.size < V.heap.size := by omega
                      clear hbV pfa
                      refine (HC6.out _ hT).mono ?_
                      rintro r w6 ⟨⟨b, rfl, hb⟩, hb6⟩
                      (have hzhb6 := hb6.size; replace qa0 := (hb6.cell (p := ⟨_, _, none⟩) (by (try dsimp only) <;> omega)).trans qa0; replace qa1 := (hb6.cell (p := ⟨_, _, none⟩) (by (try dsimp only) <;> omega)).trans qa1; replace pa0 := (hb6.cell (p := ⟨_, _, none⟩) (by (try dsimp only) <;> omega)).trans pa0; replace pa1 := (hb6.cell (p := ⟨_, _, none⟩) (by (try dsimp only) <;> omega)).trans pa1; replace pa2 := (hb6.cell (p := ⟨_, _, none⟩) (by (try dsimp only) <;> omega)).trans pa2; replace pa3 := (hb6.cell (p := ⟨_, _, none⟩) (by (try dsimp only) <;> omega)).trans pa3; replace pa4 := (hb6.cell (p := ⟨_, _, none⟩) (by (try dsimp only) <;> omega)).trans pa4; replace pa5 := (hb6.cell (p := ⟨_, _, none⟩) (by (try dsimp only) <;> omega)).trans pa5; replace pa6 := (hb6.cell (p := ⟨_, _, none⟩) (by (try dsimp only) <;> omega)).trans pa6)
                      replace HTA := Lib.hid (HTA.out.on hb6)
                      replace HS1 := Lib.hid (HS1.out.below hb6)
                      replace hT := hT.trans (hb6.mono hT.size)
                      replace hbr := hbr.trans (hb6.mono hbr.size)
                      have hg6 : w.heap.size < w6.heap.size := by omega
                      have hg6b : w5.heap.size < w6.heap.size := by omega
                      clear hb6
                      have HTB := Lib.hid hb
                      clear hb HC5 HC6
                      go_upto_region 14 with (fail)
                      (obtain ⟨U2, hWU2, hbU2, hzU2, f1U2, ofa⟩ := box1 w6 #[.string b.name, .int .i64 b.from_, .bool b.split, .slice b.Az b.nz b.cz, .slice b.Ab b.nb b.cb, .slice b.Ar b.nr b.cr, .slice b.Ad b.nd b.cd] 32; rw [← hWU2]; have oa0 : U2.cell? ⟨w6.heap.size, 0, none⟩ = some (.string b.name) := f1U2 0 _ rfl; have oa1 : U2.cell? ⟨w6.heap.size, 1, none⟩ = some (.int .i64 b.from_) := f1U2 1 _ rfl; have oa2 : U2.cell? ⟨w6.heap.size, 2, none⟩ = some (.bool b.split) := f1U2 2 _ rfl; have oa3 : U2.cell? ⟨w6.heap.size, 3, none⟩ = some (.slice b.Az b.nz b.cz) := f1U2 3 _ rfl; have oa4 : U2.cell? ⟨w6.heap.size, 4, none⟩ = some (.slice b.Ab b.nb b.cb) := f1U2 4 _ rfl; have oa5 : U2.cell? ⟨w6.heap.size, 5, none⟩ = some (.slice b.Ar b.nr b.cr) := f1U2 5 _ rfl; have oa6 : U2.cell? ⟨w6.heap.size, 6, none⟩ = some (.slice b.Ad b.nd b.cd) := f1U2 6 _ rfl; clear hWU2 f1U2)
                      (have hzhbU2 := hbU2.size; replace qa0 := (hbU2.cell (p := ⟨_, _, none⟩) (by (try dsimp only) <;> omega)).trans qa0; replace qa1 := (hbU2.cell (p := ⟨_, _, none⟩) (by (try dsimp only) <;> omega)).trans qa1; replace pa0 := (hbU2.cell (p := ⟨_, _, none⟩) (by (try dsimp only) <;> omega)).trans pa0; replace pa1 := (hbU2.cell (p := ⟨_, _, none⟩) (by (try dsimp only) <;> omega)).trans pa1; replace pa2 := (hbU2.cell (p := ⟨_, _, none⟩) (by (try dsimp only) <;> omega)).trans pa2; replace pa3 := (hbU2.cell (p := ⟨_, _, none⟩) (by (try dsimp only) <;> omega)).trans pa3; replace pa4 := (hbU2.cell (p := ⟨_, _, none⟩) (by (try dsimp only) <;> omega)).trans pa4; replace pa5 := (hbU2.cell (p := ⟨_, _, none⟩) (by (try dsimp only) <;> omega)).trans pa5; replace pa6 := (hbU2.cell (p := ⟨_, _, none⟩) (by (try dsimp only) <;> omega)).trans pa6)
                      replace HTA := Lib.hid (HTA.out.on hbU2)
                      replace HTB := Lib.hid (HTB.out.on hbU2)
                      replace HS1 := Lib.hid (HS1.out.below hbU2)
                      replace hT := hT.trans (hbU2.mono hT.size)
                      replace hbr := hbr.trans (hbU2.mono hbr.size)
                      clear hbU2 ofa
                      have cs5 := sametariff_any a b _ U2 HTA.out HTB.out
                      unfold Tv.val at cs5
                      have HCS := Lib.hid cs5
                      have HFA := Lib.hid HTA.out.from_
                      clear cs5 HTA HTB
                      have hbb : (bx != bx) = false := by simp
                      by_cases hk0 : 0 < k
                      · have hk0i : (0 : Int) < (k : Int) := by omega
                        obtain ⟨hb1, hx1⟩ := HFX.out hk0
                        have hne : (a.from_ != fr) = false := by rw [HFA.out, hx1]; simp
                        subst hb1
                        clear hx1
                        go_wp2_with fail
                        refine HCS.out.mono ?_
                        rintro r w7 ⟨rfl, hb7⟩
                        (have hzhb7 := hb7.size; replace pa0 := (hb7.cell (p := ⟨_, _, none⟩) (by (try dsimp only) <;> omega)).trans pa0; replace pa1 := (hb7.cell (p := ⟨_, _, none⟩) (by (try dsimp only) <;> omega)).trans pa1; replace pa2 := (hb7.cell (p := ⟨_, _, none⟩) (by (try dsimp only) <;> omega)).trans pa2; replace pa3 := (hb7.cell (p := ⟨_, _, none⟩) (by (try dsimp only) <;> omega)).trans pa3; replace pa4 := (hb7.cell (p := ⟨_, _, none⟩) (by (try dsimp only) <;> omega)).trans pa4; replace pa5 := (hb7.cell (p := ⟨_, _, none⟩) (by (try dsimp only) <;> omega)).trans pa5; replace pa6 := (hb7.cell (p := ⟨_, _, none⟩) (by (try dsimp only) <;> omega)).trans pa6)
                        replace hbr := hbr.trans (hb7.mono hbr.size)
                        clear hb7 HCS HFX HFA
                        go_wp2_with fail
                        go_roundw
                        case rel => exact ⟨k + 1, by omega, .inl (by rw [HNX.out hlt]), ⟨_, rfl⟩, by go_num, hbr⟩
                        case measure => simp [intOf] <;> omega
                      · have hk0i : ¬ (0 : Int) < (k : Int) := by omega
                        go_wp2_with fail
                        refine HCS.out.mono ?_
                        rintro r w7 ⟨rfl, hb7⟩
                        (have hzhb7 := hb7.size; replace pa0 := (hb7.cell (p := ⟨_, _, none⟩) (by (try dsimp only) <;> omega)).trans pa0; replace pa1 := (hb7.cell (p := ⟨_, _, none⟩) (by (try dsimp only) <;> omega)).trans pa1; replace pa2 := (hb7.cell (p := ⟨_, _, none⟩) (by (try dsimp only) <;> omega)).trans pa2; replace pa3 := (hb7.cell (p := ⟨_, _, none⟩) (by (try dsimp only) <;> omega)).trans pa3; replace pa4 := (hb7.cell (p := ⟨_, _, none⟩) (by (try dsimp only) <;> omega)).trans pa4; replace pa5 := (hb7.cell (p := ⟨_, _, none⟩) (by (try dsimp only) <;> omega)).trans pa5; replace pa6 := (hb7.cell (p := ⟨_, _, none⟩) (by (try dsimp only) <;> omega)).trans pa6)
                        replace hbr := hbr.trans (hb7.mono hbr.size)
                        clear hb7 HCS HFX HFA
                        go_wp2_with fail
                        go_roundw
                        case rel => exact ⟨k + 1, by omega, .inl (by rw [HNX.out hlt]), ⟨_, rfl⟩, by go_num, hbr⟩
                        case measure => simp [intOf] <;> omega
                    · go_wp2_with fail
                      go_roundw
                      case rel => exact ⟨k + 1, by omega, .inl (by rw [HNX.out hlt]), ⟨_, rfl⟩, by go_num, hbr⟩
                      case measure => simp [intOf] <;> omega
                  · obtain rfl : n1 = k := by omega
                    obtain rfl : t = tz := by rw [← hto]; unfold toS; rw [List.getElem?_eq_none (by rw [HLc.out]; exact Nat.le_refl _)]; rfl
                    clear hto
                    have hlt2 : ¬ ((n1 : Int) < (n1 : Int)) := by omega
                    have hw1 : IntKind.i64.wrap (t - 1) = t - 1 := IntWalk.i64_in _ (by omega)
                    by_cases hft : fr < t
                    · have HEQ := Lib.hid (HSTk.out.resolve_right (fun h => absurd hft (Int.not_lt.2 h)))
                      obtain ⟨X, hX⟩ : ∃ X, (atD Ts nm fr).1 = X := ⟨_, rfl⟩
                      obtain ⟨bx, hbx⟩ : ∃ b, (atD Ts nm fr).2 = b := ⟨_, rfl⟩
                      have HFX := Lib.hid (show 0 < n1 → bx = true ∧ X.from_ = fr from by rw [← hX, ← hbx]; exact HFRk.out)
                      have c5 := fun W' hb => at_any A n c Ts nm fr W' (HLT.out.on_ hb) HW.out
                      have c6 := fun W' hb => at_any A n c Ts nm (t - 1) W' (HLT.out.on_ hb) HW.out
                      rw [hX, hbx] at c5
                      rw [← HEQ.out, hX, hbx] at c6
                      unfold Tv.val at c5 c6
                      have HC5 := Lib.hid c5
                      have HC6 := Lib.hid c6
                      clear c5 c6 hX hbx HEQ HSTk HFRk
                      go_wp2_with fail
                      refine (HC5.out _ hT).mono ?_
                      rintro r w5 ⟨⟨a, rfl, ha⟩, hb5⟩
                      (have hzhb5 := hb5.size; replace qa0 := (hb5.cell (p := ⟨_, _, none⟩) (by (try dsimp only) <;> omega)).trans qa0; replace qa1 := (hb5.cell (p := ⟨_, _, none⟩) (by (try dsimp only) <;> omega)).trans qa1)
                      replace HS1 := Lib.hid (HS1.out.below hb5)
                      replace hT := hT.trans (hb5.mono hT.size)
                      replace hbr := hbr.trans (hb5.mono hbr.size)
                      have hg5 : w.heap.size < w5.heap.size := by omega
                      clear hb5
                      have HTA := Lib.hid ha
                      clear ha
                      go_wp2_with fail
                      (obtain ⟨V, hWV, hbV, hzV, f1V, pfa⟩ := box1 w5 #[.string a.name, .int .i64 a.from_, .bool a.split, .slice a.Az a.nz a.cz, .slice a.Ab a.nb a.cb, .slice a.Ar a.nr a.cr, .slice a.Ad a.nd a.cd] 32; rw [← hWV]; have pa0 : V.cell? ⟨w5.heap.size, 0, none⟩ = some (.string a.name) := f1V 0 _ rfl; have pa1 : V.cell? ⟨w5.heap.size, 1, none⟩ = some (.int .i64 a.from_) := f1V 1 _ rfl; have pa2 : V.cell? ⟨w5.heap.size, 2, none⟩ = some (.bool a.split) := f1V 2 _ rfl; have pa3 : V.cell? ⟨w5.heap.size, 3, none⟩ = some (.slice a.Az a.nz a.cz) := f1V 3 _ rfl; have pa4 : V.cell? ⟨w5.heap.size, 4, none⟩ = some (.slice a.Ab a.nb a.cb) := f1V 4 _ rfl; have pa5 : V.cell? ⟨w5.heap.size, 5, none⟩ = some (.slice a.Ar a.nr a.cr) := f1V 5 _ rfl; have pa6 : V.cell? ⟨w5.heap.size, 6, none⟩ = some (.slice a.Ad a.nd a.cd) := f1V 6 _ rfl; clear hWV f1V)
                      (have hzhbV := hbV.size; replace qa0 := (hbV.cell (p := ⟨_, _, none⟩) (by (try dsimp only) <;> omega)).trans qa0; replace qa1 := (hbV.cell (p := ⟨_, _, none⟩) (by (try dsimp only) <;> omega)).trans qa1)
                      replace HTA := Lib.hid (HTA.out.on hbV)
                      replace HS1 := Lib.hid (HS1.out.below hbV)
                      replace hT := hT.trans (hbV.mono hT.size)
                      replace hbr := hbr.trans (hbV.mono hbr.size)
                      have hgV : w.heap.size < V.heap.size := by omega
                      clear hbV pfa
                      refine (HC6.out _ hT).mono ?_
                      rintro r w6 ⟨⟨b, rfl, hb⟩, hb6⟩
                      (have hzhb6 := hb6.size; replace qa0 := (hb6.cell (p := ⟨_, _, none⟩) (by (try dsimp only) <;> omega)).trans qa0; replace qa1 := (hb6.cell (p := ⟨_, _, none⟩) (by (try dsimp only) <;> omega)).trans qa1; replace pa0 := (hb6.cell (p := ⟨_, _, none⟩) (by (try dsimp only) <;> omega)).trans pa0; replace pa1 := (hb6.cell (p := ⟨_, _, none⟩) (by (try dsimp only) <;> omega)).trans pa1; replace pa2 := (hb6.cell (p := ⟨_, _, none⟩) (by (try dsimp only) <;> omega)).trans pa2; replace pa3 := (hb6.cell (p := ⟨_, _, none⟩) (by (try dsimp only) <;> omega)).trans pa3; replace pa4 := (hb6.cell (p := ⟨_, _, none⟩) (by (try dsimp only) <;> omega)).trans pa4; replace pa5 := (hb6.cell (p := ⟨_, _, none⟩) (by (try dsimp only) <;> omega)).trans pa5; replace pa6 := (hb6.cell (p := ⟨_, _, none⟩) (by (try dsimp only) <;> omega)).trans pa6)
                      replace HTA := Lib.hid (HTA.out.on hb6)
                      replace HS1 := Lib.hid (HS1.out.below hb6)
                      replace hT := hT.trans (hb6.mono hT.size)
                      replace hbr := hbr.trans (hb6.mono hbr.size)
                      have hg6 : w.heap.size < w6.heap.size := by omega
                      have hg6b : w5.heap.size < w6.heap.size := by omega
                      clear hb6
                      have HTB := Lib.hid hb
                      clear hb HC5 HC6
                      go_upto_region 14 with (fail)
                      (obtain ⟨U2, hWU2, hbU2, hzU2, f1U2, ofa⟩ := box1 w6 #[.string b.name, .int .i64 b.from_, .bool b.split, .slice b.Az b.nz b.cz, .slice b.Ab b.nb b.cb, .slice b.Ar b.nr b.cr, .slice b.Ad b.nd b.cd] 32; rw [← hWU2]; have oa0 : U2.cell? ⟨w6.heap.size, 0, none⟩ = some (.string b.name) := f1U2 0 _ rfl; have oa1 : U2.cell? ⟨w6.heap.size, 1, none⟩ = some (.int .i64 b.from_) := f1U2 1 _ rfl; have oa2 : U2.cell? ⟨w6.heap.size, 2, none⟩ = some (.bool b.split) := f1U2 2 _ rfl; have oa3 : U2.cell? ⟨w6.heap.size, 3, none⟩ = some (.slice b.Az b.nz b.cz) := f1U2 3 _ rfl; have oa4 : U2.cell? ⟨w6.heap.size, 4, none⟩ = some (.slice b.Ab b.nb b.cb) := f1U2 4 _ rfl; have oa5 : U2.cell? ⟨w6.heap.size, 5, none⟩ = some (.slice b.Ar b.nr b.cr) := f1U2 5 _ rfl; have oa6 : U2.cell? ⟨w6.heap.size, 6, none⟩ = some (.slice b.Ad b.nd b.cd) := f1U2 6 _ rfl; clear hWU2 f1U2)
                      (have hzhbU2 := hbU2.size; replace qa0 := (hbU2.cell (p := ⟨_, _, none⟩) (by (try dsimp only) <;> omega)).trans qa0; replace qa1 := (hbU2.cell (p := ⟨_, _, none⟩) (by (try dsimp only) <;> omega)).trans qa1; replace pa0 := (hbU2.cell (p := ⟨_, _, none⟩) (by (try dsimp only) <;> omega)).trans pa0; replace pa1 := (hbU2.cell (p := ⟨_, _, none⟩) (by (try dsimp only) <;> omega)).trans pa1; replace pa2 := (hbU2.cell (p := ⟨_, _, none⟩) (by (try dsimp only) <;> omega)).trans pa2; replace pa3 := (hbU2.cell (p := ⟨_, _, none⟩) (by (try dsimp only) <;> omega)).trans pa3; replace pa4 := (hbU2.cell (p := ⟨_, _, none⟩) (by (try dsimp only) <;> omega)).trans pa4; replace pa5 := (hbU2.cell (p := ⟨_, _, none⟩) (by (try dsimp only) <;> omega)).trans pa5; replace pa6 := (hbU2.cell (p := ⟨_, _, none⟩) (by (try dsimp only) <;> omega)).trans pa6)
                      replace HTA := Lib.hid (HTA.out.on hbU2)
                      replace HTB := Lib.hid (HTB.out.on hbU2)
                      replace HS1 := Lib.hid (HS1.out.below hbU2)
                      replace hT := hT.trans (hbU2.mono hT.size)
                      replace hbr := hbr.trans (hbU2.mono hbr.size)
                      clear hbU2 ofa
                      have cs5 := sametariff_any a b _ U2 HTA.out HTB.out
                      unfold Tv.val at cs5
                      have HCS := Lib.hid cs5
                      have HFA := Lib.hid HTA.out.from_
                      clear cs5 HTA HTB
                      have hbb : (bx != bx) = false := by simp
                      by_cases hk0 : 0 < n1
                      · have hk0i : (0 : Int) < (n1 : Int) := by omega
                        obtain ⟨hb1, hx1⟩ := HFX.out hk0
                        have hne : (a.from_ != fr) = false := by rw [HFA.out, hx1]; simp
                        subst hb1
                        clear hx1
                        go_wp2_with fail
                        refine HCS.out.mono ?_
                        rintro r w7 ⟨rfl, hb7⟩
                        (have hzhb7 := hb7.size; replace pa0 := (hb7.cell (p := ⟨_, _, none⟩) (by (try dsimp only) <;> omega)).trans pa0; replace pa1 := (hb7.cell (p := ⟨_, _, none⟩) (by (try dsimp only) <;> omega)).trans pa1; replace pa2 := (hb7.cell (p := ⟨_, _, none⟩) (by (try dsimp only) <;> omega)).trans pa2; replace pa3 := (hb7.cell (p := ⟨_, _, none⟩) (by (try dsimp only) <;> omega)).trans pa3; replace pa4 := (hb7.cell (p := ⟨_, _, none⟩) (by (try dsimp only) <;> omega)).trans pa4; replace pa5 := (hb7.cell (p := ⟨_, _, none⟩) (by (try dsimp only) <;> omega)).trans pa5; replace pa6 := (hb7.cell (p := ⟨_, _, none⟩) (by (try dsimp only) <;> omega)).trans pa6)
                        replace hbr := hbr.trans (hb7.mono hbr.size)
                        clear hb7 HCS HFX HFA
                        go_wp2_with fail
                        go_roundw
                        case rel => exact ⟨n1 + 1, by omega, .inr rfl, ⟨_, rfl⟩, by go_num, hbr⟩
                        case measure => simp [intOf] <;> omega
                      · have hk0i : ¬ (0 : Int) < (n1 : Int) := by omega
                        go_wp2_with fail
                        refine HCS.out.mono ?_
                        rintro r w7 ⟨rfl, hb7⟩
                        (have hzhb7 := hb7.size; replace pa0 := (hb7.cell (p := ⟨_, _, none⟩) (by (try dsimp only) <;> omega)).trans pa0; replace pa1 := (hb7.cell (p := ⟨_, _, none⟩) (by (try dsimp only) <;> omega)).trans pa1; replace pa2 := (hb7.cell (p := ⟨_, _, none⟩) (by (try dsimp only) <;> omega)).trans pa2; replace pa3 := (hb7.cell (p := ⟨_, _, none⟩) (by (try dsimp only) <;> omega)).trans pa3; replace pa4 := (hb7.cell (p := ⟨_, _, none⟩) (by (try dsimp only) <;> omega)).trans pa4; replace pa5 := (hb7.cell (p := ⟨_, _, none⟩) (by (try dsimp only) <;> omega)).trans pa5; replace pa6 := (hb7.cell (p := ⟨_, _, none⟩) (by (try dsimp only) <;> omega)).trans pa6)
                        replace hbr := hbr.trans (hb7.mono hbr.size)
                        clear hb7 HCS HFX HFA
                        go_wp2_with fail
                        go_roundw
                        case rel => exact ⟨n1 + 1, by omega, .inr rfl, ⟨_, rfl⟩, by go_num, hbr⟩
                        case measure => simp [intOf] <;> omega
                    · go_wp2_with fail
                      go_roundw
                      case rel => exact ⟨n1 + 1, by omega, .inr rfl, ⟨_, rfl⟩, by go_num, hbr⟩
                      case measure => simp [intOf] <;> omega
                · have hle2 : ¬ ((k : Int) ≤ (n1 : Int)) := by omega
                  go_wp2_with fail
                  refine (awake_any _).mono ?_
                  rintro r w9 ⟨rfl, hb9⟩
                  replace hT := hT.trans (hb9.mono hT.size)
                  clear hb9
                  go_wp2_with fail
                  go_ret
                  exact ⟨rfl, hT⟩
end Cv
end Go.Proofs.Ytdnnnajohdohaaa
