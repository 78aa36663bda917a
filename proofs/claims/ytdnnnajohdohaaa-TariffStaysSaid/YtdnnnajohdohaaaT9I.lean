/-
  Tariffs: laws Changes, Replaces; Tariffs: a period, a question, opened. No condition.
-/
import Derived.Test.YtdnnnajohdohaaaT9G
import Derived.Test.YtdnnnajohdohaaaMixK
import Derived.BigQuiet
import Derived.StillTailTactics
import Derived.Lib.Overlaps
import Derived.Deep.DeepCutAuto
import Derived.Deep.RegionWith
import Derived.Laws.RangeAny
set_option maxRecDepth 100000
set_option linter.unusedVariables false
set_option linter.unusedSimpArgs false
namespace Go.Proofs.Ytdnnnajohdohaaa
open Go.RowKit

namespace Cv
open Xp Ck
def SlF (xs : List Int) : Value → World → Prop := fun v w => ∃ A n c, v = .slice A n c ∧ Sl w A n c xs
theorem SlF.on {xs : List Int} {v : Value} {w w' : World} (hb : Below w.heap.size w w') (h : SlF xs v w) : SlF xs v w' := by
  obtain ⟨A, n, c, e, hs⟩ := h
  exact ⟨A, n, c, e, hs.below hb⟩
set_option maxHeartbeats 8000000 in
theorem law_changes (A : Option Addr) (n c : Nat) (Ts : List Td) (nm : ByteArray) (f t : Int) (w : World) (h : LT w A n c Ts) :
    Calls Try.prog 5 #[.slice A n c, .string nm, .agg #[.int .i64 f, .int .i64 t]] w fun e w' => e = .returned (.bool true) ∧ Below w.heap.size w w' := by
  have HLT := Lib.hid h
  clear h
  go_enter Try.func5, Try.ntmps5
  go_upto_region 1 with (fail)
  (obtain ⟨W, hWW, hbW, hzW, f1W, qfa⟩ := box1 w #[.int .i64 f, .int .i64 t] 38; rw [← hWW]; have qa0 : W.cell? ⟨w.heap.size, 0, none⟩ = some (.int .i64 f) := f1W 0 _ rfl; have qa1 : W.cell? ⟨w.heap.size, 1, none⟩ = some (.int .i64 t) := f1W 1 _ rfl; clear hWW f1W)
  have hT := hbW
  have hg : w.heap.size < W.heap.size := hzW
  clear hbW qfa hzW
  go_wp2_with fail
  refine (smallL_any A n c Ts W (HLT.out.on_ hT)).mono ?_
  rintro r w1 ⟨⟨m, rfl, hm⟩, hb1⟩
  (have hzhb1 := hb1.size; replace qa0 := (hb1.cell (p := ⟨_, _, none⟩) (by (try dsimp only) <;> omega)).trans qa0; replace qa1 := (hb1.cell (p := ⟨_, _, none⟩) (by (try dsimp only) <;> omega)).trans qa1)
  have hg1 : w.heap.size < w1.heap.size := by omega
  replace hT := hT.trans (hb1.mono hT.size)
  have HM := Lib.hid hm
  clear hm hb1
  cases m
  · go_wp2_with fail
    refine (awake_any _).mono ?_
    rintro r w2 ⟨rfl, hb2⟩
    replace hT := hT.trans (hb2.mono hT.size)
    clear hb2
    go_wp2_with fail
    go_ret
    exact ⟨rfl, hT⟩
  · have hn8 := (HM.out rfl).n8
    clear HM
    by_cases h3 : (300 : Int) < (nm.size : Int)
    · go_wp2_with fail
      refine (awake_any _).mono ?_
      rintro r w2 ⟨rfl, hb2⟩
      replace hT := hT.trans (hb2.mono hT.size)
      clear hb2
      go_wp2_with fail
      go_ret
      exact ⟨rfl, hT⟩
    · obtain ⟨xs, hxs⟩ : ∃ xs, chgD Ts nm f t = xs := ⟨_, rfl⟩
      have HX := Lib.hid hxs
      clear hxs
      go_upto_region 3 with (fail)
      ((with_reducible refine region_known ([(22, SlF xs), (26, SlF xs), (7, SlF xs), (8, SlF xs)]) ?_ ?_ ?_ ?_ ?_ ?_); kernel_rfl; kernel_rfl; rfl; rfl; (exact stays_cons (fun x w w' hb h => SlF.on hb h) (stays_cons (fun x w w' hb h => SlF.on hb h) (stays_cons (fun x w w' hb h => SlF.on hb h) (stays_cons (fun x w w' hb h => SlF.on hb h) stays_nil)))); intro hnonemp hcr; (repeat (first | (refine mix_plain rfl rfl rfl ?_; (first | go_big_quiet_skip | (go_big_quiet_want; go_big_quiet_op; go_big_quiet_on)); refine wpQuiet_nil ?_) | (refine kn_copy (.inl rfl) rfl rfl rfl rfl (by simp only [Act.put, List.setIfInBounds_toArray, List.set_cons_succ, List.set_cons_zero]; rfl) ?_) | (refine kn_copy (.inr rfl) rfl rfl rfl rfl (by simp only [Act.put, List.setIfInBounds_toArray, List.set_cons_succ, List.set_cons_zero]; rfl) ?_) | (refine kn_part rfl rfl rfl rfl rfl (by simp only [Act.put, List.setIfInBounds_toArray, List.set_cons_succ, List.set_cons_zero]; rfl) (fun _ _ => rfl) ?_) | (refine kn_skip rfl rfl (by simp only [Act.put, List.setIfInBounds_toArray, List.set_cons_succ, List.set_cons_zero]; rfl) ?_) | (refine kn_call 22 _ rfl Try.func17 (by kernel_rfl) rfl rfl rfl rfl (by simp only [Act.put, List.setIfInBounds_toArray, List.set_cons_succ, List.set_cons_zero]; rfl) (fun z vals hv => ?_) ?_; (have hc := changes_any A n c Ts nm f t z.w (HLT.out.on_ (hT.trans (Below.mono z.h hT.size))) (by omega); rw [HX.out] at hc; exact ⟨_, (by first | (simp [ev, Act.eval] <;> rfl) | (simp [ev, Act.eval, It.val]; done)), hc.mono fun r w' ⟨⟨A', n', c', e, hs⟩, hb⟩ => ⟨_, e, hb, _, _, _, rfl, hs⟩⟩)) | (refine kn_call 26 _ rfl Try.func18 (by kernel_rfl) rfl rfl rfl rfl (by simp only [Act.put, List.setIfInBounds_toArray, List.set_cons_succ, List.set_cons_zero]; rfl) (fun z vals hv => ?_) ?_; (have hc := refchanges_any A n c Ts nm f t z.w (HLT.out.on_ (hT.trans (Below.mono z.h hT.size))) (by omega); rw [HX.out] at hc; exact ⟨_, (by first | (simp [ev, Act.eval] <;> rfl) | (simp [ev, Act.eval, It.val]; done)), hc.mono fun r w' ⟨⟨A', n', c', e, hs⟩, hb⟩ => ⟨_, e, hb, _, _, _, rfl, hs⟩⟩)))); intro wq vals hgq hkn; simp only [over, Nk, List.map_cons, List.map_nil, List.foldl_cons, List.foldl_nil, Act.put, List.setIfInBounds_toArray, List.set_cons_succ, List.set_cons_zero]; clear hcr)
      have hk7 : SlF xs (vals 7) wq := hkn 8 _ _ rfl rfl _ rfl
      have hk8 : SlF xs (vals 8) wq := hkn 9 _ _ rfl rfl _ rfl
      clear hkn
      obtain ⟨A1, n1, c1, e1, hs1⟩ := hk7
      obtain ⟨A2, n2, c2, e2, hs2⟩ := hk8
      rw [e1, e2]
      obtain rfl : n1 = n2 := by rw [← hs1.len, hs2.len]
      have HS1 := Lib.hid hs1
      have HS2 := Lib.hid hs2
      replace hT := hT.trans (hgq.mono hT.size)
      have hn1 := hs1.nmax
      clear e1 e2 hs1 hs2 hgq qa0 qa1 HX
      have hne : (n1 != n1) = false := by simp
      go_wp2_with fail
      go_loopw [9] (fun i wr => ∃ k : Nat, k ≤ n1 ∧ i = .int .i64 k ∧ Below wq.heap.size wq wr) (fun i _ => n1 - (intOf i).toNat)
      case atStart => exact ⟨0, Nat.zero_le _, rfl, Below.refl _ _⟩
      case round =>
        obtain ⟨k, hk, rfl, hbr⟩ := hrel
        by_cases hlt : k < n1
        · obtain ⟨b1, o1, rfl, hbl1, hc1⟩ := HS1.out.baseIn hbr (by omega)
          obtain ⟨b2, o2, rfl, hbl2, hc2⟩ := HS2.out.baseIn hbr (by omega)
          obtain ⟨x, hx⟩ := HS1.out.get hlt
          have e1 : wr.cell? ⟨b1, o1 + k * 1, none⟩ = some (.int .i64 x) := Sl.at_ hc1 hx 0 rfl
          have e2 : wr.cell? ⟨b2, o2 + k * 1, none⟩ = some (.int .i64 x) := Sl.at_ hc2 hx 0 rfl
          rw [Nat.mul_one] at e1 e2
          have hxx : (x != x) = false := by simp
          clear hc1 hc2 hx
          go_wp2_with (((with_reducible refine wp_region_quiet_lit ?_ ?_ ?_); kernel_rfl; kernel_rfl; (repeat (any_goals (first | go_big_quiet_step (fail) | (refine wpQuiet_step (fun K hK => ?_); go_simp; (first | (refine hK _ ?_; clear hK K) | (split <;> rename_i hg <;> (refine hK _ ?_; clear hK K) <;> (try simp only [Bool.not_eq_true] at hg) <;> (first | simp only [Int.not_lt.2 hg, decide_false] | simp only [Int.not_le.1 hg, decide_true] | simp only [hg, decide_true, decide_false] | skip))))))); all_goals (refine wpQuiet_nil ?_; intro _ hw'; obtain ⟨nq, hw''⟩ := hw'; subst hw'')))
          all_goals
            go_roundw
            case rel => exact ⟨k + 1, by omega, by go_num, by first | exact hbr | exact below_drewN hbr _⟩
            case measure => simp [intOf]; omega
        · have hkn : ¬ ((k : Int) < (n1 : Int)) := by omega
          go_wp2_with fail
          refine (awake_any _).mono ?_
          rintro r w2 ⟨rfl, hb2⟩
          replace hT := hT.trans ((hbr.trans (hb2.mono hbr.size)).mono hT.size)
          clear hb2
          go_wp2_with fail
          go_ret
          exact ⟨rfl, hT⟩
theorem one_lt {w : World} {t : Tv} {T : Td} (h : TD w t T) (e : TypeId) : LT (w.alloc (.cells ⟨Flat.cells t⟩ e)) (some ⟨w.heap.size, 0, none⟩) 1 1 [T] :=
  ⟨fun h => (by cases h), [t], Sl.new _ _ _ _ rfl _ 1 rfl (by decide) (by simp), All2.nil_.snoc (h.on ((Below.refl _ _).alloc (Nat.le_refl _) _))⟩
set_option maxHeartbeats 8000000 in
theorem law_replaces (A : Option Addr) (n c : Nat) (Ts : List Td) (t : Tv) (T : Td) (w : World) (h : LT w A n c Ts) (hf : ∀ T ∈ Ts, Fits T) (ht : TD w t T) (htf : Fits T) :
    Calls Try.prog 6 #[.slice A n c, t.val] w fun e w' => e = .returned (.bool true) ∧ Below w.heap.size w w' := by
  have HLT := Lib.hid h
  have HFT := Lib.hid hf
  have HTD := Lib.hid ht
  have HTF := Lib.hid htf
  clear h hf ht htf
  unfold Tv.val
  go_enter Try.func6, Try.ntmps6
  go_upto_region 1 with (fail)
  (obtain ⟨W, hWW, hbW, hzW, f1W, qfa⟩ := box1 w #[.string t.name, .int .i64 t.from_, .bool t.split, .slice t.Az t.nz t.cz, .slice t.Ab t.nb t.cb, .slice t.Ar t.nr t.cr, .slice t.Ad t.nd t.cd] 32; rw [← hWW]; have qa0 : W.cell? ⟨w.heap.size, 0, none⟩ = some (.string t.name) := f1W 0 _ rfl; have qa1 : W.cell? ⟨w.heap.size, 1, none⟩ = some (.int .i64 t.from_) := f1W 1 _ rfl; have qa2 : W.cell? ⟨w.heap.size, 2, none⟩ = some (.bool t.split) := f1W 2 _ rfl; have qa3 : W.cell? ⟨w.heap.size, 3, none⟩ = some (.slice t.Az t.nz t.cz) := f1W 3 _ rfl; have qa4 : W.cell? ⟨w.heap.size, 4, none⟩ = some (.slice t.Ab t.nb t.cb) := f1W 4 _ rfl; have qa5 : W.cell? ⟨w.heap.size, 5, none⟩ = some (.slice t.Ar t.nr t.cr) := f1W 5 _ rfl; have qa6 : W.cell? ⟨w.heap.size, 6, none⟩ = some (.slice t.Ad t.nd t.cd) := f1W 6 _ rfl; clear hWW f1W)
  have hT := hbW
  have hg : w.heap.size < W.heap.size := hzW
  clear hbW qfa hzW
  go_wp2_with fail
  refine (smallL_any A n c Ts W (HLT.out.on_ hT)).mono ?_
  rintro r w1 ⟨⟨m, rfl, hm⟩, hb1⟩
  (have hzhb1 := hb1.size; replace qa0 := (hb1.cell (p := ⟨_, _, none⟩) (by (try dsimp only) <;> omega)).trans qa0; replace qa1 := (hb1.cell (p := ⟨_, _, none⟩) (by (try dsimp only) <;> omega)).trans qa1; replace qa2 := (hb1.cell (p := ⟨_, _, none⟩) (by (try dsimp only) <;> omega)).trans qa2; replace qa3 := (hb1.cell (p := ⟨_, _, none⟩) (by (try dsimp only) <;> omega)).trans qa3; replace qa4 := (hb1.cell (p := ⟨_, _, none⟩) (by (try dsimp only) <;> omega)).trans qa4; replace qa5 := (hb1.cell (p := ⟨_, _, none⟩) (by (try dsimp only) <;> omega)).trans qa5; replace qa6 := (hb1.cell (p := ⟨_, _, none⟩) (by (try dsimp only) <;> omega)).trans qa6)
  have hg1 : w.heap.size < w1.heap.size := by omega
  replace hT := hT.trans (hb1.mono hT.size)
  have HM := Lib.hid hm
  clear hm hb1
  cases m
  · go_wp2_with fail
    refine (awake_any _).mono ?_
    rintro r w9 ⟨rfl, hb9⟩
    replace hT := hT.trans (hb9.mono hT.size)
    clear hb9
    go_wp2_with fail
    go_ret
    exact ⟨rfl, hT⟩
  · have HW := Lib.hid (wide_all (HM.out rfl) HFT.out)
    have hn8 := (HM.out rfl).n8
    clear HM
    go_wp2_with fail
    obtain ⟨U, hU, hbU⟩ : ∃ U, U = w1.alloc (.cells #[.string t.name, .int .i64 t.from_, .bool t.split, .slice t.Az t.nz t.cz, .slice t.Ab t.nb t.cb, .slice t.Ar t.nr t.cr, .slice t.Ad t.nd t.cd] 32) ∧ Below w1.heap.size w1 U := ⟨_, rfl, (Below.refl _ _).alloc (Nat.le_refl _) _⟩
    have hO : LT U (some ⟨w1.heap.size, 0, none⟩) 1 1 [T] := by rw [hU]; exact one_lt (HTD.out.on hT) _
    rw [← hU]
    clear hU
    (have hzhbU := hbU.size; replace qa0 := (hbU.cell (p := ⟨_, _, none⟩) (by (try dsimp only) <;> omega)).trans qa0; replace qa1 := (hbU.cell (p := ⟨_, _, none⟩) (by (try dsimp only) <;> omega)).trans qa1; replace qa2 := (hbU.cell (p := ⟨_, _, none⟩) (by (try dsimp only) <;> omega)).trans qa2; replace qa3 := (hbU.cell (p := ⟨_, _, none⟩) (by (try dsimp only) <;> omega)).trans qa3; replace qa4 := (hbU.cell (p := ⟨_, _, none⟩) (by (try dsimp only) <;> omega)).trans qa4; replace qa5 := (hbU.cell (p := ⟨_, _, none⟩) (by (try dsimp only) <;> omega)).trans qa5; replace qa6 := (hbU.cell (p := ⟨_, _, none⟩) (by (try dsimp only) <;> omega)).trans qa6)
    replace hT := hT.trans (hbU.mono hT.size)
    have hgU : w.heap.size < U.heap.size := by omega
    clear hbU
    refine (smallL_any _ 1 1 [T] U hO).mono ?_
    clear hO
    rintro r w2 ⟨⟨m, rfl, hm⟩, hb2⟩
    (have hzhb2 := hb2.size; replace qa0 := (hb2.cell (p := ⟨_, _, none⟩) (by (try dsimp only) <;> omega)).trans qa0; replace qa1 := (hb2.cell (p := ⟨_, _, none⟩) (by (try dsimp only) <;> omega)).trans qa1; replace qa2 := (hb2.cell (p := ⟨_, _, none⟩) (by (try dsimp only) <;> omega)).trans qa2; replace qa3 := (hb2.cell (p := ⟨_, _, none⟩) (by (try dsimp only) <;> omega)).trans qa3; replace qa4 := (hb2.cell (p := ⟨_, _, none⟩) (by (try dsimp only) <;> omega)).trans qa4; replace qa5 := (hb2.cell (p := ⟨_, _, none⟩) (by (try dsimp only) <;> omega)).trans qa5; replace qa6 := (hb2.cell (p := ⟨_, _, none⟩) (by (try dsimp only) <;> omega)).trans qa6)
    replace hT := hT.trans (hb2.mono hT.size)
    have hg2 : w.heap.size < w2.heap.size := by omega
    have HM := Lib.hid hm
    clear hm hb2
    cases m
    · go_wp2_with fail
      refine (awake_any _).mono ?_
      rintro r w9 ⟨rfl, hb9⟩
      replace hT := hT.trans (hb9.mono hT.size)
      clear hb9
      go_wp2_with fail
      go_ret
      exact ⟨rfl, hT⟩
    · have HWT := Lib.hid (wide_all (Ts := [T]) (HM.out rfl) (fun X hX => by rw [List.mem_singleton] at hX; subst hX; exact HTF.out) T (List.mem_singleton.2 rfl))
      clear HM
      obtain ⟨l, hl⟩ : ∃ l, (repD Ts T).1 = l := ⟨_, rfl⟩
      obtain ⟨v, hv⟩ : ∃ v, (repD Ts T).2 = v := ⟨_, rfl⟩
      have HL := Lib.hid hl
      have HV := Lib.hid hv
      clear hl hv
      have c3 := fun W' (hb : Below w.heap.size w W') => replace_any A n c Ts t T W' (HLT.out.on_ hb) (HTD.out.on hb) HW.out HWT.out (by omega)
      have c4 := fun W' (hb : Below w.heap.size w W') => refreplace_any A n c Ts t T W' (HLT.out.on_ hb) (HTD.out.on hb) (by omega)
      rw [HL.out, HV.out] at c3 c4
      unfold Tv.val at c3 c4
      have HC3 := Lib.hid c3
      have HC4 := Lib.hid c4
      clear c3 c4
      go_wp2_with fail
      refine (HC3.out _ hT).mono ?_
      rintro r w3 ⟨⟨A1, n1, c1, rfl, hl1⟩, hb3⟩
      (have hzhb3 := hb3.size; replace qa0 := (hb3.cell (p := ⟨_, _, none⟩) (by (try dsimp only) <;> omega)).trans qa0; replace qa1 := (hb3.cell (p := ⟨_, _, none⟩) (by (try dsimp only) <;> omega)).trans qa1; replace qa2 := (hb3.cell (p := ⟨_, _, none⟩) (by (try dsimp only) <;> omega)).trans qa2; replace qa3 := (hb3.cell (p := ⟨_, _, none⟩) (by (try dsimp only) <;> omega)).trans qa3; replace qa4 := (hb3.cell (p := ⟨_, _, none⟩) (by (try dsimp only) <;> omega)).trans qa4; replace qa5 := (hb3.cell (p := ⟨_, _, none⟩) (by (try dsimp only) <;> omega)).trans qa5; replace qa6 := (hb3.cell (p := ⟨_, _, none⟩) (by (try dsimp only) <;> omega)).trans qa6)
      replace hT := hT.trans (hb3.mono hT.size)
      have hg3 : w.heap.size < w3.heap.size := by omega
      have HL1 := Lib.hid hl1
      clear hl1 hb3
      go_wp2_with fail
      refine (HC4.out _ hT).mono ?_
      rintro r w4 ⟨⟨A2, n2, c2, rfl, hl2⟩, hb4⟩
      replace HL1 := Lib.hid (HL1.out.on_ hb4)
      replace hT := hT.trans (hb4.mono hT.size)
      have HL2 := Lib.hid hl2
      clear hl2 hb4
      go_wp2_with fail
      refine (same_any A1 n1 c1 A2 n2 c2 l _ HL1.out HL2.out).mono ?_
      rintro r w5 ⟨rfl, hb5⟩
      replace hT := hT.trans (hb5.mono hT.size)
      clear hb5
      go_wp2_with fail
      refine (awake_any _).mono ?_
      rintro r w9 ⟨rfl, hb9⟩
      replace hT := hT.trans (hb9.mono hT.size)
      clear hb9
      go_wp2_with fail
      go_ret
      exact ⟨rfl, hT⟩
end Cv
open Go.ChangeShapes Go.WideShapes Go.ChangeAt Go.RowKit
namespace Cv
section
variable {H : Type} {enc : TypeId × Value → H} {w : World} {base : Nat} {spare : Nat → Bool} {held : Bool}
theorem open_tarsV {v : Value} {d : DataW H} {p : List MemPlace} {r : Reach} {b0 : Nat} (hv : Value.okWide Try.prog w r b0 22 v) (h : DataW.Trod enc Try.prog w base spare held 22 v d p) (hF : Fit Try.prog 22 d) :
    ∃ (A : Option Addr) (n c : Nat) (Ts : List Td), v = .slice A n c ∧ LT w A n c Ts ∧ ∀ T ∈ Ts, Fits T := by
  obtain ⟨a0, n0, c0, rfl⟩ := okWide_slice Try.underlying22 hv
  exact open_tars h hF rfl
theorem open_per {v : Value} {d : DataW H} {p : List MemPlace} {r : Reach} {b0 : Nat} (hv : Value.okWide Try.prog w r b0 38 v) (h : DataW.Trod enc Try.prog w base spare held 38 v d p) :
    ∃ f t : Int, v = .agg #[.int .i64 f, .int .i64 t] ∧ (Lit.int IntKind.i64 f).wf = true ∧ (Lit.int IntKind.i64 t).wf = true := by
  obtain ⟨cs, rfl, hsz⟩ := okWide_struct Try.underlying38 hv
  obtain ⟨fuel, hf⟩ := h
  have hf' : DataW.trod enc Try.prog w base spare held fuel 38 cs.toList = some (d, p) := by simpa [Value.cells] using hf
  have hl : cs.toList.length = 2 := by rw [Array.length_toList, hsz]; kernel_rfl
  obtain ⟨f, h0, w0⟩ := sub_int Try.underlying38 hf' (i := 0) rfl (o := 0) rfl (by kernel_rfl) (by omega) Try.underlying3
  obtain ⟨t, h1, w1⟩ := sub_int Try.underlying38 hf' (i := 1) rfl (o := 1) rfl (by kernel_rfl) (by omega) Try.underlying3
  refine ⟨f, t, congrArg Value.agg (Array.toList_inj.1 ?_), w0, w1⟩
  clear hf hf' hsz hv
  generalize cs.toList = l at h0 h1 hl ⊢
  match l, hl with
  | [_, _], _ => cases h0; cases h1; rfl
theorem open_ask {v : Value} {d : DataW H} {p : List MemPlace} {r : Reach} {b0 : Nat} (hv : Value.okWide Try.prog w r b0 47 v) (h : DataW.Trod enc Try.prog w base spare held 47 v d p) :
    ∃ (s : ByteArray) (t : Int), v = .agg #[.string s, .int .i64 t] ∧ s.size ≤ maxLen := by
  obtain ⟨cs, rfl, hsz⟩ := okWide_struct Try.underlying47 hv
  obtain ⟨fuel, hf⟩ := h
  have hf' : DataW.trod enc Try.prog w base spare held fuel 47 cs.toList = some (d, p) := by simpa [Value.cells] using hf
  have hl : cs.toList.length = 2 := by rw [Array.length_toList, hsz]; kernel_rfl
  obtain ⟨f, h0, w0⟩ := sub_str Try.underlying47 hf' (i := 0) rfl (o := 0) rfl (by kernel_rfl) (by omega) Try.underlying9
  obtain ⟨t, h1, w1⟩ := sub_int Try.underlying47 hf' (i := 1) rfl (o := 1) rfl (by kernel_rfl) (by omega) Try.underlying3
  refine ⟨f, t, congrArg Value.agg (Array.toList_inj.1 ?_), w0⟩
  clear hf hf' hsz hv
  generalize cs.toList = l at h0 h1 hl ⊢
  match l, hl with
  | [_, _], _ => cases h0; cases h1; rfl
end
end Cv
end Go.Proofs.Ytdnnnajohdohaaa
