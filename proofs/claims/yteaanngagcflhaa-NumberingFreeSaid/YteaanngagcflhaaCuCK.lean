/-
  Numbers: laws Owners, Spells, Free. No condition.
-/
import Derived.Test.YteaanngagcflhaaCuCJ
import Derived.Test.YteaanngagcflhaaCuAS
import Derived.Test.YteaanngagcflhaaCuAI
import Derived.BigQuiet
import Derived.StillTailTactics
import Derived.Lib.Overlaps
import Derived.Deep.DeepCutAuto
import Derived.Deep.RegionWith
import Derived.Laws.RangeAny
import Derived.Laws.IdiomArrays
set_option maxRecDepth 100000
set_option linter.unusedVariables false
set_option linter.unusedSimpArgs false
namespace Go.Proofs.Yteaanngagcflhaa
open Go.RowKit

namespace Nb
open Cu
set_option maxHeartbeats 8000000 in
theorem law_owners (A : Option Addr) (n c : Nat) (l : List Ev) (x : ByteArray) (t : Int) (w : World) (hs : Sl w A n c l) (hz : SzOk l) (hx : x.size ≤ maxLen) :
    Calls Try.prog 10 #[.slice A n c, .string x, .int .i64 t] w fun r w' => r = .returned (.bool true) ∧ Below w.heap.size w w' := by
  have HS0 := Lib.hid hs
  have HZ := Lib.hid hz
  have HX := Lib.hid hx
  clear hs hz hx
  go_enter Try.func10, Try.ntmps10
  have HS := HS0
  cases hvl : vlB l
  · have HVB := Lib.hid hvl
    clear hvl
    go_wp2_with (first
      | (go_at_call 25; go_must (refine (rValid_any A n c l _ HS.out HZ.out).mono ?_; rintro r w1 ⟨rfl, hb1⟩; rw [HVB.out]))
      | (go_at_call 40; go_must (refine (awake18_any _).mono ?_; rintro r w2 ⟨rfl, hb2⟩)))
    go_ret
    exact ⟨rfl, (hb1.trans (hb2.mono hb1.size))⟩
  have HVB := Lib.hid hvl
  have HV := Lib.hid (vlB_true hvl)
  have h1000 : n ≤ 1000 := by have := HS.out.len; have := HV.out.1; omega
  clear hvl
  go_upto_region 3 with (go_at_call 25; go_must (refine (rValid_any A n c l _ HS.out HZ.out).mono ?_; rintro r w1 ⟨rfl, hb1⟩; rw [HVB.out]))
  replace HS := Lib.hid (HS.out.below hb1)
  obtain ⟨ow, how⟩ : ∃ o, ownB (bkAt l t) x = o := ⟨_, rfl⟩
  have HOW := Lib.hid how
  clear how
  go_upto_region 4 with (go_at_call 41; go_must (refine (Owner_any A n c l x t _ HS.out HV.out HZ.out HX.out).mono ?_; rintro r w2 ⟨rfl, hb2⟩; rw [HOW.out]))
  go_upto_region 5 with (go_at_call 42; go_must (refine (rOwner_any A n c l x t _ (HS.out.below hb2) HV.out).mono ?_; rintro r w3 ⟨rfl, hb3⟩; rw [HOW.out]))
  obtain ⟨z, hz⟩ : ∃ z, ow.getD 0 = z := ⟨_, rfl⟩
  obtain ⟨q, hq⟩ : ∃ q, ow.isSome = q := ⟨_, rfl⟩
  rw [hz, hq]
  have hzz : (z == z) = true := by simp
  have hqq : (q == q) = true := by simp
  clear hz hq
  go_wp2_with (go_at_call 40; go_must (refine (awake18_any _).mono ?_; rintro r w4 ⟨rfl, hb4⟩))
  go_ret
  exact ⟨rfl, hb1.trans ((hb2.trans ((hb3.trans (hb4.mono hb3.size)).mono hb2.size)).mono hb1.size)⟩
set_option maxHeartbeats 8000000 in
theorem law_spells (A : Option Addr) (n c : Nat) (l : List Ev) (x : ByteArray) (w : World) (hs : Sl w A n c l) (hz : SzOk l) (hx : x.size ≤ maxLen) :
    Calls Try.prog 11 #[.slice A n c, .string x] w fun r w' => r = .returned (.bool true) ∧ Below w.heap.size w w' := by
  have HS0 := Lib.hid hs
  have HZ := Lib.hid hz
  have HX := Lib.hid hx
  clear hs hz hx
  go_enter Try.func11, Try.ntmps11
  have HS := HS0
  cases hvl : vlB l
  · have HVB := Lib.hid hvl
    clear hvl
    go_wp2_with (first
      | (go_at_call 25; go_must (refine (rValid_any A n c l _ HS.out HZ.out).mono ?_; rintro r w1 ⟨rfl, hb1⟩; rw [HVB.out]))
      | (go_at_call 40; go_must (refine (awake18_any _).mono ?_; rintro r w2 ⟨rfl, hb2⟩)))
    go_ret
    exact ⟨rfl, (hb1.trans (hb2.mono hb1.size))⟩
  have HVB := Lib.hid hvl
  have HV := Lib.hid (vlB_true hvl)
  have h1000 : n ≤ 1000 := by have := HS.out.len; have := HV.out.1; omega
  clear hvl
  go_upto_region 3 with (go_at_call 25; go_must (refine (rValid_any A n c l _ HS.out HZ.out).mono ?_; rintro r w1 ⟨rfl, hb1⟩; rw [HVB.out]))
  replace HS := Lib.hid (HS.out.below hb1)
  have HSP := Lib.hid (sp_eq HV.out x)
  go_wp2_with (first
    | (go_at_call 44; go_must (refine (Spells_any A n c l x _ HS.out h1000).mono ?_; rintro r w2 ⟨⟨A1, n1, c1, rfl, _, h1⟩, hb2⟩; have H1 := Lib.hid h1; clear h1))
    | (go_at_call 45; go_must (refine (rSpells_any A n c l x _ (HS.out.below hb2) HV.out).mono ?_; rintro r w3 ⟨⟨A2, n2, c2, rfl, _, h2⟩, hb3⟩; rw [← HSP.out] at h2; have H2 := Lib.hid h2; clear h2))
    | (go_at_call 43; go_must (refine (SameOd_any A1 A2 n1 c1 n2 c2 _ _ _ (H1.out.below hb3) H2.out).mono ?_; rintro r w4 ⟨hr, hb4⟩; obtain rfl := hr.t rfl; clear hr))
    | (go_at_call 40; go_must (refine (awake18_any _).mono ?_; rintro r w5 ⟨rfl, hb5⟩)))
  go_ret
  exact ⟨rfl, hb1.trans ((hb2.trans ((hb3.trans ((hb4.trans (hb5.mono hb4.size)).mono hb3.size)).mono hb2.size)).mono hb1.size)⟩
/-- strings in memory -/
def txF (xs : List ByteArray) (v : Value) (w : World) : Prop := ∃ A n c, v = .slice A n c ∧ Sl w A n c xs
theorem txF_on (xs : List ByteArray) : stays (txF xs) := fun v w w' hb ⟨A, n, c, e, h⟩ => ⟨A, n, c, e, h.below hb⟩
set_option maxHeartbeats 8000000 in
theorem law_free (A : Option Addr) (n c : Nat) (l : List Ev) (x : ByteArray) (p q s : Int) (w : World) (hs : Sl w A n c l) (hz : SzOk l) (hx : x.size ≤ maxLen) :
    Calls Try.prog 12 #[.slice A n c, .string x, .agg #[.int .i64 p, .int .i64 q, .int .i64 s]] w fun r w' => r = .returned (.bool true) ∧ Below w.heap.size w w' := by
  have HS0 := Lib.hid hs
  have HZ := Lib.hid hz
  have HX := Lib.hid hx
  clear hs hz hx
  go_enter Try.func12, Try.ntmps12
  go_upto_region 1 with (fail)
  (obtain ⟨P, hWP, hbP, hzP, f1P, bfa⟩ := box1 w #[.int .i64 p, .int .i64 q, .int .i64 s] 66; rw [← hWP]; have ba0 : P.cell? ⟨w.heap.size, 0, none⟩ = some (.int .i64 p) := f1P 0 _ rfl; have ba1 : P.cell? ⟨w.heap.size, 1, none⟩ = some (.int .i64 q) := f1P 1 _ rfl; have ba2 : P.cell? ⟨w.heap.size, 2, none⟩ = some (.int .i64 s) := f1P 2 _ rfl; clear hWP f1P)
  have hbP := hbP
  have HS := Lib.hid (HS0.out.below hbP)
  cases hvl : vlB l
  · have HVB := Lib.hid hvl
    clear hvl
    go_wp2_with (first
      | (go_at_call 25; go_must (refine (rValid_any A n c l _ HS.out HZ.out).mono ?_; rintro r w1 ⟨rfl, hb1⟩; rw [HVB.out]))
      | (go_at_call 40; go_must (refine (awake18_any _).mono ?_; rintro r w2 ⟨rfl, hb2⟩)))
    go_ret
    exact ⟨rfl, hbP.trans ((hb1.trans (hb2.mono hb1.size)).mono hbP.size)⟩
  have HVB := Lib.hid hvl
  have HV := Lib.hid (vlB_true hvl)
  have h1000 : n ≤ 1000 := by have := HS.out.len; have := HV.out.1; omega
  clear hvl
  go_upto_region 3 with (go_at_call 25; go_must (refine (rValid_any A n c l _ HS.out HZ.out).mono ?_; rintro r w1 ⟨rfl, hb1⟩; rw [HVB.out]))
  replace HS := Lib.hid (HS.out.below hb1)
  replace ba0 := cl hb1 ba0
  replace ba1 := cl hb1 ba1
  replace ba2 := cl hb1 ba2
  have hsz1 := hb1.size
  have HFR := Lib.hid (show frB p q (spR l x l.length) = frB p q (spE l x) by rw [sp_eq HV.out x])
  obtain ⟨fr, hfr⟩ : ∃ z, frB p q (spE l x) = z := ⟨_, rfl⟩
  obtain ⟨ns, hns⟩ : ∃ z, (((cSubs (bkAt l p)).find? (fun y => y.id == s)).getD sb0).nums = z := ⟨_, rfl⟩
  rw [hfr] at HFR
  have HFE := Lib.hid hfr
  have HNS := Lib.hid hns
  clear hfr hns
  go_upto_region 4 with (fail)
  (obtain ⟨V, hWV, hbV, hzV, f1V, vfa⟩ := box1 w1 #[.int .i64 p, .int .i64 q] 68; rw [← hWV]; have va0 : V.cell? ⟨w1.heap.size, 0, none⟩ = some (.int .i64 p) := f1V 0 _ rfl; have va1 : V.cell? ⟨w1.heap.size, 1, none⟩ = some (.int .i64 q) := f1V 1 _ rfl; clear hWV f1V)
  replace ba0 := cl hbV ba0
  replace ba1 := cl hbV ba1
  replace ba2 := cl hbV ba2
  replace HS := Lib.hid (HS.out.below hbV)
  have hbw := (hbP.trans (hb1.mono hbP.size)).trans (hbV.mono (by have := hbP.size; omega))
  have hff : (fr == fr) = true := by simp
  have hlP : w.heap.size < V.heap.size := by omega
  have hl1 : w1.heap.size < V.heap.size := by omega
  ((with_reducible refine region_known ([(32, txF ns), (38, txF ns)]) ?_ ?_ ?_ ?_ ?_ ?_); kernel_rfl; kernel_rfl; rfl; rfl; (exact stays_cons (txF_on ns) (stays_cons (txF_on ns) stays_nil)); intro hnonemp hcr; (repeat (first | (refine mix_plain rfl rfl rfl ?_; (first | go_big_quiet_skip | (go_big_quiet_want; go_big_quiet_op; go_big_quiet_on)); refine wpQuiet_nil ?_) | (refine kn_copy (.inl rfl) rfl rfl rfl rfl (by simp only [Act.put, List.setIfInBounds_toArray, List.set_cons_succ, List.set_cons_zero]; rfl) ?_) | (refine kn_copy (.inr rfl) rfl rfl rfl rfl (by simp only [Act.put, List.setIfInBounds_toArray, List.set_cons_succ, List.set_cons_zero]; rfl) ?_) | (refine kn_part rfl rfl rfl rfl rfl (by simp only [Act.put, List.setIfInBounds_toArray, List.set_cons_succ, List.set_cons_zero]; rfl) (fun _ _ => rfl) ?_) | (refine kn_skip rfl rfl (by simp only [Act.put, List.setIfInBounds_toArray, List.set_cons_succ, List.set_cons_zero]; rfl) ?_) | (refine kn_one (.bool fr) Try.func46 (by kernel_rfl) rfl rfl rfl rfl (by simp only [Act.put, List.setIfInBounds_toArray, List.set_cons_succ, List.set_cons_zero]; rfl) (fun z vals hv => ?_) ?_; (have hc := Free_any A n c l x p q z.w (Sl.below HS.out z.h) h1000; rw [HFE.out] at hc; exact ⟨_, (by first | (simp [ev, Act.eval] <;> rfl) | (simp [ev, Act.eval, It.val]; done)), hc⟩)) | (refine kn_one (.bool fr) Try.func47 (by kernel_rfl) rfl rfl rfl rfl (by simp only [Act.put, List.setIfInBounds_toArray, List.set_cons_succ, List.set_cons_zero]; rfl) (fun z vals hv => ?_) ?_; (have hc := rFree_any A n c l x p q z.w (Sl.below HS.out z.h) HV.out; rw [HFR.out] at hc; exact ⟨_, (by first | (simp [ev, Act.eval] <;> rfl) | (simp [ev, Act.eval, It.val]; done)), hc⟩)) | (refine kn_call 32 _ rfl Try.func49 (by kernel_rfl) rfl rfl rfl rfl (by simp only [Act.put, List.setIfInBounds_toArray, List.set_cons_succ, List.set_cons_zero]; rfl) (fun z vals hv => ?_) ?_; (have hc := Numbers_any A n c l s p z.w (Sl.below HS.out z.h) HV.out HZ.out; rw [HNS.out] at hc; exact ⟨_, (by first | (simp [ev, Act.eval] <;> rfl) | (simp [ev, Act.eval, It.val]; done)), hc.mono fun r w' ⟨⟨A', n', c', e, h⟩, hb⟩ => ⟨_, e, hb, ⟨A', n', c', rfl, h⟩⟩⟩)) | (refine kn_call 38 _ rfl Try.func50 (by kernel_rfl) rfl rfl rfl rfl (by simp only [Act.put, List.setIfInBounds_toArray, List.set_cons_succ, List.set_cons_zero]; rfl) (fun z vals hv => ?_) ?_; (have hc := rNumbers_any A n c l s p z.w (Sl.below HS.out z.h) HV.out HZ.out; rw [HNS.out] at hc; exact ⟨_, (by first | (simp [ev, Act.eval] <;> rfl) | (simp [ev, Act.eval, It.val]; done)), hc.mono fun r w' ⟨⟨A', n', c', e, h⟩, hb⟩ => ⟨_, e, hb, ⟨A', n', c', rfl, h⟩⟩⟩)) | (refine kn_one (.bool true) Try.func48 (by kernel_rfl) rfl rfl rfl rfl (by simp only [Act.put, List.setIfInBounds_toArray, List.set_cons_succ, List.set_cons_zero]; rfl) (fun z vals hv => ?_) ?_; (obtain ⟨Aa, na, ca, e1, h1⟩ := hv 32 _ rfl (by simp); obtain ⟨Ba, nb, cb, e2, h2⟩ := hv 38 _ rfl (by simp); exact ⟨_, (by first | (simp [ev, Act.eval, e1, e2] <;> rfl) | (simp [ev, Act.eval, It.val, e1, e2]; done)), (SameTexts_any Aa Ba na ca nb cb ns ns z.w h1 h2).mono fun r w' h => ⟨h.1.t rfl, h.2⟩⟩)) | (refine kn_one (.bool true) Try.func40 (by kernel_rfl) rfl rfl rfl rfl (by simp only [Act.put, List.setIfInBounds_toArray, List.set_cons_succ, List.set_cons_zero]; rfl) (fun z vals hv => ?_) ?_; (exact ⟨_, (by first | (simp [ev, Act.eval] <;> rfl) | (simp [ev, Act.eval, It.val]; done)), awake18_any z.w⟩)))); intro wq vals hgq hkn; simp only [over, Nk, List.map_cons, List.map_nil, List.foldl_cons, List.foldl_nil, Act.put, List.setIfInBounds_toArray, List.set_cons_succ, List.set_cons_zero]; clear hcr)
  clear hkn
  replace hbw := hbw.trans (hgq.mono hbw.size)
  go_wp2_with fail
  go_ret
  exact ⟨rfl, hbw⟩
section
open Go.ChangeShapes Go.WideShapes Go.ChangeAt
variable {H : Type} {enc : TypeId × Value → H} {w : World} {base : Nat} {spare : Nat → Bool} {held : Bool}
theorem open_arr3 {v : Value} {d : DataW H} {p : List MemPlace} {r : Reach} {b0 : Nat} (hv : Value.okWide Try.prog w r b0 66 v) (h : DataW.Trod enc Try.prog w base spare held 66 v d p) : ∃ (f m t : Int), v = .agg #[.int .i64 f, .int .i64 m, .int .i64 t] := by
  simp only [Value.okWide, Try.underlying66] at hv
  obtain ⟨cs, rfl, hsz, _⟩ := hv
  obtain ⟨fuel, hf⟩ := h
  have hf' : DataW.trod enc Try.prog w base spare held fuel 66 cs.toList = some (d, p) := by simpa [Value.cells] using hf
  have hl : cs.toList.length = 3 := by rw [Array.length_toList, hsz]; kernel_rfl
  have key : ∃ f m t : Int, cs.toList = [.int .i64 f, .int .i64 m, .int .i64 t] := by
    match hcl : cs.toList, hl with
    | [c0, c1, c2], _ =>
      rw [hcl] at hf'
      obtain ⟨y0, y1, y2, n, _, t0, t1, t2⟩ := trod_array3 Try.underlying66 (by kernel_rfl) hf'
      obtain ⟨z0, e0, _⟩ := DataW.trod_int Try.underlying3 t0
      obtain ⟨z1, e1, _⟩ := DataW.trod_int Try.underlying3 t1
      obtain ⟨z2, e2, _⟩ := DataW.trod_int Try.underlying3 t2
      cases e0
      cases e1
      cases e2
      exact ⟨z0, z1, z2, rfl⟩
  obtain ⟨f, m, t, e⟩ := key
  exact ⟨f, m, t, congrArg Value.agg (Array.toList_inj.1 e)⟩
end
end Nb
end Go.Proofs.Yteaanngagcflhaa
