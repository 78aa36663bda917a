/-
  Customers: the examples of the laws, in plain words. No condition.
-/
import Derived.Test.YteaanngagcflhaaKc03
import Derived.Test.YteaanngagcflhaaKc18
import Derived.Test.YteaanngagcflhaaKc28
import Derived.Test.YteaanngagcflhaaKc19
import Derived.Test.YteaanngagcflhaaKc04
import Derived.Test.YteaanngagcflhaaKc05
import Derived.Test.YteaanngagcflhaaKc14
import Derived.Test.YteaanngagcflhaaKc31
import Derived.Test.YteaanngagcflhaaKc20
import Derived.Test.YteaanngagcflhaaKc30
import Derived.Lib.Hide
import Derived.BigQuiet
import Derived.StillTailTactics
import Derived.Lib.Overlaps
import Derived.Deep.DeepCutAuto
import Derived.Deep.RegionWith
import Derived.Laws.RangeAny
set_option maxRecDepth 100000
set_option linter.unusedVariables false
set_option linter.unusedSimpArgs false
namespace Go.Proofs.Yteaanngagcflhaa
open Go Go.RowKit
namespace Cu
def nBasic : ByteArray := ⟨#[98, 97, 115, 105, 99]⟩
def n4915 : ByteArray := ⟨#[52, 57, 49, 53]⟩
def x1 : Ev := ⟨0, 1, 1, 0, nEmpty, nPre, 15⟩
def x2 : Ev := ⟨0, 3, 1, 7, nEmpty, nBasic, 0⟩
def x3 : Ev := ⟨0, 5, 0, 7, n4915, nEmpty, 0⟩
def xC : Ev := ⟨0, 2, 1, 0, nEmpty, nEmpty, 0⟩
def l3 : List Ev := [x1, x2, x3]
def sbX : Sb := ⟨7, 1, 0, nBasic, [n4915], [], false, false⟩
def bk3 : Bk := ⟨[⟨1, 0, 15, true, false⟩], [sbX], []⟩
theorem sq (a b : ByteArray) : seq_ a b = (a.data.toList == b.data.toList) := by unfold seq_; rw [Lib.toList_data, Lib.toList_data]
theorem f1 (last : Int) (h : last = 0) : faultR bk0 x1 last = 0 := by
  subst h
  simp [faultR, formR, formT, fldBad, idBad, nameBad, uA, uS, uN, uM, uV, idB, valB, nmB, nmC, sq, ofAcc, findA, bk0, x1, nPre, nPost, nEmpty]
theorem b1 : applyR bk0 x1 = ⟨[⟨1, 0, 15, true, false⟩], [], []⟩ := by
  simp [applyR, bk0, x1, sq, nPre]
theorem f2 : faultR ⟨[⟨1, 0, 15, true, false⟩], [], []⟩ x2 0 = 0 := by
  simp [faultR, formR, formT, fldBad, idBad, nameBad, uA, uS, uN, uM, uV, idB, valB, nmB, nmC, sq, ofAcc, findA, findS, x2, nPre, nPost, nEmpty, nBasic]
theorem b2 : applyR ⟨[⟨1, 0, 15, true, false⟩], [], []⟩ x2 = ⟨[⟨1, 0, 15, true, false⟩], [⟨7, 1, 0, nBasic, [], [], false, false⟩], []⟩ := by
  simp [applyR, x2]
theorem f3 : faultR ⟨[⟨1, 0, 15, true, false⟩], [⟨7, 1, 0, nBasic, [], [], false, false⟩], []⟩ x3 0 = 0 := by
  have hv : Dg.valid n4915.data.toList = true := by decide
  simp [faultR, formR, formT, fldBad, idBad, nameBad, uA, uS, uN, uM, uV, idB, valB, sq, ofSub, findS, endedB, takenB, hasS, x3, nEmpty, hv]
theorem b3 : applyR ⟨[⟨1, 0, 15, true, false⟩], [⟨7, 1, 0, nBasic, [], [], false, false⟩], []⟩ x3 = bk3 := by
  simp [applyR, mapFirst, chgR, insS, x3, bk3, sbX]
theorem f4 : faultR bk3 x3 0 = 12 := by
  have hv : Dg.valid n4915.data.toList = true := by decide
  simp [faultR, formR, formT, fldBad, idBad, nameBad, uA, uS, uN, uM, uV, idB, valB, sq, ofSub, findS, endedB, takenB, hasS, x3, nEmpty, hv, bk3, sbX]
theorem f5 : faultR bk3 xC 0 = 22 := by
  simp [faultR, formR, formT, fldBad, idBad, nameBad, uA, uS, uN, uM, uV, idB, valB, sq, ofAcc, findA, busyB, endedB, xC, nEmpty, bk3, sbX]
theorem k0 (l : List Ev) : bkN (l3 ++ l) 0 = bk0 := rfl
theorem k1 (l : List Ev) : bkN (l3 ++ l) 1 = ⟨[⟨1, 0, 15, true, false⟩], [], []⟩ := b1
theorem k2 (l : List Ev) : bkN (l3 ++ l) 2 = ⟨[⟨1, 0, 15, true, false⟩], [⟨7, 1, 0, nBasic, [], [], false, false⟩], []⟩ := by
  show applyR (applyR bk0 x1) x2 = _
  rw [b1, b2]
theorem k3 (l : List Ev) : bkN (l3 ++ l) 3 = bk3 := by
  show applyR (applyR (applyR bk0 x1) x2) x3 = _
  rw [b1, b2, b3]
theorem t0 (l : List Ev) : fltN (l3 ++ l) 0 = 0 := f1 _ rfl
theorem t1 (l : List Ev) : fltN (l3 ++ l) 1 = 0 := by show faultR (bkN (l3 ++ l) 1) x2 0 = 0; rw [k1, f2]
theorem t2 (l : List Ev) : fltN (l3 ++ l) 2 = 0 := by show faultR (bkN (l3 ++ l) 2) x3 0 = 0; rw [k2, f3]
theorem t012 (l : List Ev) : ∀ j, j < 3 → fltN (l3 ++ l) j = 0 := fun j hj => by
  have : j = 0 ∨ j = 1 ∨ j = 2 := by omega
  rcases this with rfl | rfl | rfl
  · exact t0 l
  · exact t1 l
  · exact t2 l
theorem l3e : l3 ++ [] = l3 := List.append_nil _
theorem w1 : chkL l3 = (0, 0) := chkL_ok (by decide) fun j hj => by have := t012 [] j hj; rw [l3e] at this; exact this
theorem v3 : Vl l3 := ⟨by decide, fun j hj => by have := t012 [] j hj; rw [l3e] at this; exact this⟩
theorem w3 : chkL (l3 ++ [x3]) = (3, 12) := by
  have h : fltN (l3 ++ [x3]) 3 = 12 := by show faultR (bkN (l3 ++ [x3]) 3) x3 0 = 12; rw [k3, f4]
  rw [chkL_bad (m := 3) (by decide) (by decide) (t012 _) (by rw [h]; decide), h]; rfl
theorem w4 : chkL (l3 ++ [xC]) = (3, 22) := by
  have h : fltN (l3 ++ [xC]) 3 = 22 := by show faultR (bkN (l3 ++ [xC]) 3) xC 0 = 22; rw [k3, f5]
  rw [chkL_bad (m := 3) (by decide) (by decide) (t012 _) (by rw [h]; decide), h]; rfl
theorem live3 (n : Int) : liveS bk3 n = if n = 7 then some sbX else none := by
  unfold liveS endedB findS bk3
  by_cases h : n = 7
  · subst h; simp [sbX]
  · have : ¬ (7 : Int) = n := fun e => h e.symm
    simp [sbX, h, this]
theorem c3 : cSubs bk3 = [sbX] := by
  unfold cSubs
  have h : (rngK 9999).filterMap (liveS bk3) = [7].filterMap (liveS bk3) := (fm_asc _ _ _ (rngK_asc _) (by simp) (fun x hx => by simp at hx; subst hx; exact rngK_mem.2 (by omega)) (fun x _ hx => by rw [live3, if_neg (by simpa using hx)])).symm
  rw [h]
  simp [live3]
theorem d3 : cAccs bk3 = [(⟨1, 0, 15, true, false⟩, [7])] := by
  unfold cAccs
  have hc : ∀ n, cAcc bk3 n = if n = 1 then some (⟨1, 0, 15, true, false⟩, [7]) else none := fun n => by
    unfold cAcc
    rw [c3]
    by_cases h : n = 1
    · subst h; simp [findA, bk3, cOf, sbX]
    · have : ¬ (1 : Int) = n := fun e => h e.symm
      simp [findA, bk3, h, this]
  have h : (rngK 9999).filterMap (cAcc bk3) = [1].filterMap (cAcc bk3) := (fm_asc _ _ _ (rngK_asc _) (by simp) (fun x hx => by simp at hx; subst hx; exact rngK_mem.2 (by omega)) (fun x _ hx => by rw [hc, if_neg (by simpa using hx)])).symm
  rw [h]
  simp [hc]
end Cu
end Go.Proofs.Yteaanngagcflhaa
namespace Go.Proofs.Yteaanngagcflhaa
open Go.RowKit
namespace Cu
theorem kn_at {P : Program} {ops : Array Oper} {C : World → Prop} {R : World → World → Prop} {N : List Tmp} {F : Tmp → Value → World → Prop} {Q : Act → Prop} {o : Oper} {rest : List Oper} {a : Act} (d : Tmp) (hd : o.dst = some d) (h : wpMix P ops C R N F Q (o :: rest) a) : wpMix P ops C R N F Q (o :: rest) a := h
end Cu
end Go.Proofs.Yteaanngagcflhaa
namespace Go.Proofs.Yteaanngagcflhaa
open Go.RowKit
namespace Ss
open Cu
def piF (P : List Pd) (v : Value) (w : World) : Prop := ∃ A n c, v = .slice A n c ∧ PI_ w A n c P
theorem piF_on (P : List Pd) : stays (piF P) := fun v w w' hb ⟨A, n, c, e, h⟩ => ⟨A, n, c, e, h.on hb⟩
section
open Go.ChangeShapes Go.WideShapes Go.ChangeAt
variable {H : Type} {enc : TypeId × Value → H} {w : World} {base : Nat} {spare : Nat → Bool} {held : Bool}
theorem open_ask {v : Value} {d : DataW H} {p : List MemPlace} {r : Reach} {b0 : Nat} (hv : Value.okWide Try.prog w r b0 91 v) (h : DataW.Trod enc Try.prog w base spare held 91 v d p) :
    ∃ (s : ByteArray) (t : Int), v = .agg #[.string s, .int .i64 t] := by
  obtain ⟨cs, rfl, hsz⟩ := okWide_struct Try.underlying91 hv
  obtain ⟨fuel, hf⟩ := h
  have hf' : DataW.trod enc Try.prog w base spare held fuel 91 cs.toList = some (d, p) := by simpa [Value.cells] using hf
  have hl : cs.toList.length = 2 := by rw [Array.length_toList, hsz]; kernel_rfl
  obtain ⟨s0, h0, _⟩ := sub_str Try.underlying91 hf' (i := 0) rfl (o := 0) rfl (by kernel_rfl) (by omega) Try.underlying9
  obtain ⟨i1, h1, _⟩ := sub_int Try.underlying91 hf' (i := 1) rfl (o := 1) rfl (by kernel_rfl) (by omega) Try.underlying3
  refine ⟨s0, i1, congrArg Value.agg (Array.toList_inj.1 ?_)⟩
  match hcl : cs.toList, hl with
  | [_, _], _ =>
    rw [hcl] at h0 h1
    cases h0; cases h1
    rfl
end
set_option maxHeartbeats 16000000 in
theorem law_spells (A : Option Addr) (n c : Nat) (l : List Ev) (x : Int) (p : ByteArray) (t : Int) (w : World) (hs : Sl w A n c l) (hz : SzOk l) :
    Calls Try.prog 18 #[.slice A n c, .int .i64 x, .agg #[.string p, .int .i64 t]] w fun r w' => r = .returned (.bool true) ∧ Below w.heap.size w w' := by
  have HS0 := Lib.hid hs
  have HZ := Lib.hid hz
  clear hs hz
  go_enter Try.func18, Try.ntmps18
  go_upto_region 1 with (fail)
  (obtain ⟨P, hWP, hbP, hzP, f1P, bfa⟩ := box1 w #[.string p, .int .i64 t] 91; rw [← hWP]; have ba0 : P.cell? ⟨w.heap.size, 0, none⟩ = some (.string p) := f1P 0 _ rfl; have ba1 : P.cell? ⟨w.heap.size, 1, none⟩ = some (.int .i64 t) := f1P 1 _ rfl; clear hWP f1P)
  have hbP := hbP
  have HS := Lib.hid (HS0.out.below hbP)
  cases hvl : vlB l
  · have HVB := Lib.hid hvl
    clear hvl
    go_wp2_with (first
      | (go_at_call 25; go_must (refine (rValid_any A n c l _ HS.out HZ.out).mono ?_; rintro r w1 ⟨rfl, hb1⟩; rw [HVB.out]; replace ba0 := cl hb1 ba0; replace ba1 := cl hb1 ba1))
      | (go_at_call 51; go_must (refine (awake20_any _).mono ?_; rintro r w2 ⟨rfl, hb2⟩)))
    go_ret
    exact ⟨rfl, hbP.trans ((hb1.trans (hb2.mono hb1.size)).mono hbP.size)⟩
  have HVB := Lib.hid hvl
  have HV := Lib.hid (vlB_true hvl)
  have h1000 : n ≤ 1000 := by have := HS.out.len; have := HV.out.1; omega
  clear hvl
  by_cases h0 : t < 0
  · have d0 : decide (t < 0) = true := decide_eq_true h0
    go_wp2_with (first
      | (go_at_call 25; go_must (refine (rValid_any A n c l _ HS.out HZ.out).mono ?_; rintro r w1 ⟨rfl, hb1⟩; rw [HVB.out]; replace ba0 := cl hb1 ba0; replace ba1 := cl hb1 ba1))
      | (go_at_call 51; go_must (refine (awake20_any _).mono ?_; rintro r w2 ⟨rfl, hb2⟩)))
    go_ret
    exact ⟨rfl, hbP.trans ((hb1.trans (hb2.mono hb1.size)).mono hbP.size)⟩
  have d0 : decide (t < 0) = false := decide_eq_false h0
  by_cases hF : 12622780800 ≤ t
  · have dF : decide (12622780800 ≤ t) = true := decide_eq_true hF
    go_wp2_with (first
      | (go_at_call 25; go_must (refine (rValid_any A n c l _ HS.out HZ.out).mono ?_; rintro r w1 ⟨rfl, hb1⟩; rw [HVB.out]; replace ba0 := cl hb1 ba0; replace ba1 := cl hb1 ba1))
      | (go_at_call 51; go_must (refine (awake20_any _).mono ?_; rintro r w2 ⟨rfl, hb2⟩)))
    go_ret
    exact ⟨rfl, hbP.trans ((hb1.trans (hb2.mono hb1.size)).mono hbP.size)⟩
  have dF : decide (12622780800 ≤ t) = false := decide_eq_false hF
  go_upto_region 3 with (go_at_call 25; go_must (refine (rValid_any A n c l _ HS.out HZ.out).mono ?_; rintro r w1 ⟨rfl, hb1⟩; rw [HVB.out]; replace ba0 := cl hb1 ba0; replace ba1 := cl hb1 ba1))
  replace HS := Lib.hid (HS.out.below hb1)
  have hsz1 := hb1.size
  obtain ⟨os, hos⟩ : ∃ os, (cSubs (bkAt l t)).find? (fun y => y.id == x) = os := ⟨_, rfl⟩
  obtain ⟨od, hod⟩ : ∃ od, atI (spE l x) t = od := ⟨_, rfl⟩
  obtain ⟨bo, hbo⟩ : ∃ bo, os.isSome = bo := ⟨_, rfl⟩
  have HQO : Hid (stQ l x t = os.map qOf) := Lib.hid (by rw [← hos, find_st HV.out])
  have hrel : od.map (·.q) = os.map qOf := by rw [← hod, ← hos, at_q HV.out (by omega) (by omega), find_st HV.out]
  have hbd : od.isSome = bo := by
    rw [← hbo]
    cases od <;> cases os <;> first | rfl | cases hrel
  have HOS := Lib.hid hos
  have HOD := Lib.hid hod
  have HBO := Lib.hid hbo
  have HBD := Lib.hid hbd
  have HREL := Lib.hid hrel
  have hboo : (bo == bo) = true ∧ (bo != bo) = false := be_t rfl
  obtain ⟨hbo1, hbo2⟩ := hboo
  clear hos hod hbo hbd hrel
  go_upto_region 4 with (go_at_call 34; go_must (refine (Sub_any _ n c l x t _ HS.out HV.out HZ.out).mono ?_; rintro r w3 ⟨⟨z, rfl, hz⟩, hb3⟩; rw [HOS.out] at hz ⊢; rw [HBO.out]; have HZR := Lib.hid hz; clear hz; unfold Sv.val))
  (obtain ⟨X, hWX, hbX, hzX, f1X, yfa⟩ := box1 w3 #[.int .i64 z.id, .int .i64 z.acc, .int .i64 z.since, .string z.plan, .slice z.An z.nn z.cn, .slice z.Ap z.np z.cp, .bool z.susp, .bool z.fam] 51; rw [← hWX]; have ya0 : X.cell? ⟨w3.heap.size, 0, none⟩ = some (.int .i64 z.id) := f1X 0 _ rfl; have ya1 : X.cell? ⟨w3.heap.size, 1, none⟩ = some (.int .i64 z.acc) := f1X 1 _ rfl; have ya2 : X.cell? ⟨w3.heap.size, 2, none⟩ = some (.int .i64 z.since) := f1X 2 _ rfl; have ya3 : X.cell? ⟨w3.heap.size, 3, none⟩ = some (.string z.plan) := f1X 3 _ rfl; have ya4 : X.cell? ⟨w3.heap.size, 4, none⟩ = some (.slice z.An z.nn z.cn) := f1X 4 _ rfl; have ya5 : X.cell? ⟨w3.heap.size, 5, none⟩ = some (.slice z.Ap z.np z.cp) := f1X 5 _ rfl; have ya6 : X.cell? ⟨w3.heap.size, 6, none⟩ = some (.bool z.susp) := f1X 6 _ rfl; have ya7 : X.cell? ⟨w3.heap.size, 7, none⟩ = some (.bool z.fam) := f1X 7 _ rfl; clear hWX f1X)
  have hb3X := hb3.trans (hbX.mono hb3.size)
  replace HS := Lib.hid (HS.out.below hb3X)
  replace HZR := Lib.hid (HZR.out.on hbX)
  replace ba0 := cl hb3X ba0; replace ba1 := cl hb3X ba1
  have hbwX := hb1.trans (hb3X.mono hb1.size)
  have hsX := hb3X.size
  clear hb1 hb3 hbX hb3X ya0 ya1 ya2 ya4
  go_upto_region 5 with (go_at_call 52; go_must (refine (At_any _ n c l x t _ HS.out HV.out).mono ?_; rintro r w2 ⟨⟨v, rfl, hv⟩, hb2⟩; rw [HOD.out] at hv ⊢; rw [HBD.out]; have HLR := Lib.hid hv; clear hv; unfold Lv.val))
  (obtain ⟨W, hWW, hbW, hzW, f1W, pfa⟩ := box1 w2 #[.int .i64 v.f, .int .i64 v.t, .string v.plan, .slice v.A v.n v.c, .bool v.susp, .bool v.fam] 76; rw [← hWW]; have pa0 : W.cell? ⟨w2.heap.size, 0, none⟩ = some (.int .i64 v.f) := f1W 0 _ rfl; have pa1 : W.cell? ⟨w2.heap.size, 1, none⟩ = some (.int .i64 v.t) := f1W 1 _ rfl; have pa2 : W.cell? ⟨w2.heap.size, 2, none⟩ = some (.string v.plan) := f1W 2 _ rfl; have pa3 : W.cell? ⟨w2.heap.size, 3, none⟩ = some (.slice v.A v.n v.c) := f1W 3 _ rfl; have pa4 : W.cell? ⟨w2.heap.size, 4, none⟩ = some (.bool v.susp) := f1W 4 _ rfl; have pa5 : W.cell? ⟨w2.heap.size, 5, none⟩ = some (.bool v.fam) := f1W 5 _ rfl; clear hWW f1W)
  have hb2W := hb2.trans (hbW.mono hb2.size)
  have hsW := hb2W.size
  replace HS := Lib.hid (HS.out.below hb2W)
  replace HZR := Lib.hid (HZR.out.on hb2W)
  replace HLR := Lib.hid (HLR.out.on hbW)
  replace ba0 := cl hb2W ba0; replace ba1 := cl hb2W ba1; replace ya3 := cl hb2W ya3; replace ya5 := cl hb2W ya5; replace ya6 := cl hb2W ya6; replace ya7 := cl hb2W ya7
  have hbwW := hbP.trans ((hbwX.trans (hb2W.mono hbwX.size)).mono hbP.size)
  have hlP : w.heap.size < W.heap.size := by omega
  have hlX : w3.heap.size < W.heap.size := by omega
  clear hb2 hbW hb2W hbwX hsX
  have HIA0 : Hid (insB (duI (kA p) (spE l x)) t = keepO (kA p) (os.map qOf)) := Lib.hid (by rw [du_in HV.out _ (by omega) (by omega), HQO.out])
  have HIS0 : Hid (insB (duI kS (spE l x)) t = keepO kS (os.map qOf)) := Lib.hid (by rw [du_in HV.out _ (by omega) (by omega), HQO.out])
  cases bo
  · have hno : os = none := by have := HBO.out; cases os with | none => rfl | some s => cases this
    subst hno
    have HIA : Hid (insB (duI (kA p) (spE l x)) t = false) := Lib.hid HIA0.out
    have HIS : Hid (insB (duI kS (spE l x)) t = false) := Lib.hid HIS0.out
    clear HIA0 HIS0 HQO HREL HOS HOD HZR HLR hbo1 hbo2
    go_upto_region 8 with (fail)
    ((with_reducible refine region_known ([(105, piF (duI (kA p) (spE l x))), (114, piF (duI kS (spE l x)))]) ?_ ?_ ?_ ?_ ?_ ?_); kernel_rfl; kernel_rfl; rfl; rfl; (exact stays_cons (piF_on _) (stays_cons (piF_on _) stays_nil)); intro hnonemp hcr; (repeat (first | (refine mix_plain rfl rfl rfl ?_; (first | go_big_quiet_skip | (go_big_quiet_want; go_big_quiet_op; go_big_quiet_on)); refine wpQuiet_nil ?_) | (refine kn_copy (.inl rfl) rfl rfl rfl rfl (by simp only [Act.put, List.setIfInBounds_toArray, List.set_cons_succ, List.set_cons_zero]; rfl) ?_) | (refine kn_copy (.inr rfl) rfl rfl rfl rfl (by simp only [Act.put, List.setIfInBounds_toArray, List.set_cons_succ, List.set_cons_zero]; rfl) ?_) | (refine kn_part rfl rfl rfl rfl rfl (by simp only [Act.put, List.setIfInBounds_toArray, List.set_cons_succ, List.set_cons_zero]; rfl) (fun _ _ => rfl) ?_) | (refine kn_skip rfl rfl (by simp only [Act.put, List.setIfInBounds_toArray, List.set_cons_succ, List.set_cons_zero]; rfl) ?_) | (refine kn_call 105 _ rfl Try.func59 (by kernel_rfl) rfl rfl rfl rfl (by simp only [Act.put, List.setIfInBounds_toArray, List.set_cons_succ, List.set_cons_zero]; rfl) (fun z vals hv => ?_) ?_; (have hc := Active_any A n c l x p z.w (Sl.below HS.out z.h) HV.out; exact ⟨_, (by first | (simp [ev, Act.eval] <;> rfl) | (simp [ev, Act.eval, It.val]; done)), hc.mono fun r w' ⟨⟨A', n', c', e, h⟩, hb⟩ => ⟨_, e, hb, ⟨A', n', c', rfl, h⟩⟩⟩)) | (refine kn_call 114 _ rfl Try.func61 (by kernel_rfl) rfl rfl rfl rfl (by simp only [Act.put, List.setIfInBounds_toArray, List.set_cons_succ, List.set_cons_zero]; rfl) (fun z vals hv => ?_) ?_; (have hc := Served_any A n c l x z.w (Sl.below HS.out z.h) HV.out; exact ⟨_, (by first | (simp [ev, Act.eval] <;> rfl) | (simp [ev, Act.eval, It.val]; done)), hc.mono fun r w' ⟨⟨A', n', c', e, h⟩, hb⟩ => ⟨_, e, hb, ⟨A', n', c', rfl, h⟩⟩⟩)) | (refine kn_at 108 rfl ?_; (refine kn_one (.bool false) Try.func66 (by kernel_rfl) rfl rfl rfl rfl (by simp only [Act.put, List.setIfInBounds_toArray, List.set_cons_succ, List.set_cons_zero]; rfl) (fun z vals hv => ?_) ?_; (obtain ⟨Aa, na, ca, e1, h1⟩ := hv 105 _ rfl (by simp); have hc := inside_any Aa na ca _ t z.w h1; rw [HIA.out] at hc; exact ⟨_, (by first | (simp [ev, Act.eval, e1] <;> rfl) | (simp [ev, Act.eval, It.val, e1]; done)), hc⟩))) | (refine kn_at 117 rfl ?_; (refine kn_one (.bool false) Try.func66 (by kernel_rfl) rfl rfl rfl rfl (by simp only [Act.put, List.setIfInBounds_toArray, List.set_cons_succ, List.set_cons_zero]; rfl) (fun z vals hv => ?_) ?_; (obtain ⟨Aa, na, ca, e1, h1⟩ := hv 114 _ rfl (by simp); have hc := inside_any Aa na ca _ t z.w h1; rw [HIS.out] at hc; exact ⟨_, (by first | (simp [ev, Act.eval, e1] <;> rfl) | (simp [ev, Act.eval, It.val, e1]; done)), hc⟩))) | (refine kn_one (.bool true) Try.func51 (by kernel_rfl) rfl rfl rfl rfl (by simp only [Act.put, List.setIfInBounds_toArray, List.set_cons_succ, List.set_cons_zero]; rfl) (fun z vals hv => ?_) ?_; (exact ⟨_, (by first | (simp [ev, Act.eval] <;> rfl) | (simp [ev, Act.eval, It.val]; done)), awake20_any z.w⟩)))); intro wq vals hgq hkn; simp only [over, Nk, List.map_cons, List.map_nil, List.foldl_cons, List.foldl_nil, Act.put, List.setIfInBounds_toArray, List.set_cons_succ, List.set_cons_zero]; clear hcr)
    clear hkn
    replace hbwW := hbwW.trans (hgq.mono hbwW.size)
    go_wp2_with fail
    go_ret
    exact ⟨rfl, hbwW⟩
  obtain ⟨s, rfl⟩ : ∃ s, os = some s := by have := HBO.out; cases os with | none => cases this | some s => exact ⟨s, rfl⟩
  obtain ⟨d, rfl⟩ : ∃ d, od = some d := by have := HBD.out; cases od with | none => cases this | some s => exact ⟨s, rfl⟩
  have hq : d.q = qOf s := Option.some.inj HREL.out
  have hzr : SR W z s := HZR.out
  have hlr : LR W v d := HLR.out
  obtain ⟨hdm, hdf, hdt⟩ := at_in HOD.out
  have e1 : v.plan = z.plan := by rw [hlr.plan, hzr.plan, hq]; rfl
  have e2 : v.susp = z.susp := by rw [hlr.susp, hzr.susp, hq]; rfl
  have e3 : v.fam = z.fam := by rw [hlr.fam, hzr.fam, hq]; rfl
  obtain ⟨b1, c1⟩ := bs_t e1
  obtain ⟨b2, c2⟩ := be_t e2
  obtain ⟨b3, c3⟩ := be_t e3
  have n1 : ¬ t < v.f := by rw [hlr.f]; omega
  have n2 : ¬ v.t ≤ t := by rw [hlr.t]; omega
  have d1 : decide (t < v.f) = false := decide_eq_false n1
  have d2 : decide (v.t ≤ t) = false := decide_eq_false n2
  have HP1 : Hid (Sl W v.A v.n v.c s.prods) := Lib.hid (by have := hlr.a; rw [hq] at this; exact this)
  have HP2 : Hid (Sl W z.Ap z.np z.cp s.prods) := Lib.hid hzr.p
  have HZS : Hid (z.susp = s.susp) := Lib.hid hzr.susp
  obtain ⟨ac, hac⟩ : ∃ ac, hasS s.prods p = ac := ⟨_, rfl⟩
  have HAC := Lib.hid hac
  have HIA : Hid (insB (duI (kA p) (spE l x)) t = ac) := Lib.hid (by rw [HIA0.out]; exact hac)
  have HIS : Hid (insB (duI kS (spE l x)) t = !z.susp) := Lib.hid (by rw [HIS0.out, hzr.susp]; rfl)
  have haa : (ac == ac) = true := by simp
  clear hac hq hzr hlr hdm hdf hdt e1 e2 e3 HIA0 HIS0 HQO HREL HOS HOD HZR HLR hbo1 hbo2 HBO HBD
  go_upto_region 8 with (first
    | (go_at_call 48; go_must (refine (SameTexts_any v.A z.Ap v.n v.c z.np z.cp s.prods s.prods _ HP1.out HP2.out).mono ?_; rintro r w4 ⟨hr, hb4⟩; obtain rfl := hr.t rfl; clear hr; replace ba0 := cl hb4 ba0; replace ba1 := cl hb4 ba1; replace ya3 := cl hb4 ya3; replace ya5 := cl hb4 ya5; replace ya6 := cl hb4 ya6; replace ya7 := cl hb4 ya7; replace pa0 := cl hb4 pa0; replace pa1 := cl hb4 pa1; replace HP2 := Lib.hid (HP2.out.below hb4)))
    | (go_at_call 39; go_must (refine (Has_any z.Ap z.np z.cp s.prods p _ HP2.out).mono ?_; rintro r w5 ⟨rfl, rfl⟩; rw [HAC.out])))
  replace HS := Lib.hid (HS.out.below hb4)
  replace hbwW := hbwW.trans (hb4.mono hbwW.size)
  have hs4 := hb4.size
  replace hlP : w.heap.size < w4.heap.size := by omega
  replace hlX : w3.heap.size < w4.heap.size := by omega
  clear hb4 HP1 HP2 HAC b1 c1 b2 c2 b3 c3 pa0 pa1 pa2 pa3 pa4 pa5
  obtain ⟨su, hsu⟩ : ∃ su, z.susp = su := ⟨_, rfl⟩
  rw [hsu] at ya6 HIS
  clear hsu HZS
  cases su
  · replace HIS : Hid (insB (duI kS (spE l x)) t = true) := Lib.hid HIS.out
    ((with_reducible refine region_known ([(105, piF (duI (kA p) (spE l x))), (114, piF (duI kS (spE l x)))]) ?_ ?_ ?_ ?_ ?_ ?_); kernel_rfl; kernel_rfl; rfl; rfl; (exact stays_cons (piF_on _) (stays_cons (piF_on _) stays_nil)); intro hnonemp hcr; (repeat (first | (refine mix_plain rfl rfl rfl ?_; (first | go_big_quiet_skip | (go_big_quiet_want; go_big_quiet_op; go_big_quiet_on)); refine wpQuiet_nil ?_) | (refine kn_copy (.inl rfl) rfl rfl rfl rfl (by simp only [Act.put, List.setIfInBounds_toArray, List.set_cons_succ, List.set_cons_zero]; rfl) ?_) | (refine kn_copy (.inr rfl) rfl rfl rfl rfl (by simp only [Act.put, List.setIfInBounds_toArray, List.set_cons_succ, List.set_cons_zero]; rfl) ?_) | (refine kn_part rfl rfl rfl rfl rfl (by simp only [Act.put, List.setIfInBounds_toArray, List.set_cons_succ, List.set_cons_zero]; rfl) (fun _ _ => rfl) ?_) | (refine kn_skip rfl rfl (by simp only [Act.put, List.setIfInBounds_toArray, List.set_cons_succ, List.set_cons_zero]; rfl) ?_) | (refine kn_call 105 _ rfl Try.func59 (by kernel_rfl) rfl rfl rfl rfl (by simp only [Act.put, List.setIfInBounds_toArray, List.set_cons_succ, List.set_cons_zero]; rfl) (fun z vals hv => ?_) ?_; (have hc := Active_any A n c l x p z.w (Sl.below HS.out z.h) HV.out; exact ⟨_, (by first | (simp [ev, Act.eval] <;> rfl) | (simp [ev, Act.eval, It.val]; done)), hc.mono fun r w' ⟨⟨A', n', c', e, h⟩, hb⟩ => ⟨_, e, hb, ⟨A', n', c', rfl, h⟩⟩⟩)) | (refine kn_call 114 _ rfl Try.func61 (by kernel_rfl) rfl rfl rfl rfl (by simp only [Act.put, List.setIfInBounds_toArray, List.set_cons_succ, List.set_cons_zero]; rfl) (fun z vals hv => ?_) ?_; (have hc := Served_any A n c l x z.w (Sl.below HS.out z.h) HV.out; exact ⟨_, (by first | (simp [ev, Act.eval] <;> rfl) | (simp [ev, Act.eval, It.val]; done)), hc.mono fun r w' ⟨⟨A', n', c', e, h⟩, hb⟩ => ⟨_, e, hb, ⟨A', n', c', rfl, h⟩⟩⟩)) | (refine kn_at 108 rfl ?_; (refine kn_one (.bool ac) Try.func66 (by kernel_rfl) rfl rfl rfl rfl (by simp only [Act.put, List.setIfInBounds_toArray, List.set_cons_succ, List.set_cons_zero]; rfl) (fun z vals hv => ?_) ?_; (obtain ⟨Aa, na, ca, e1, h1⟩ := hv 105 _ rfl (by simp); have hc := inside_any Aa na ca _ t z.w h1; rw [HIA.out] at hc; exact ⟨_, (by first | (simp [ev, Act.eval, e1] <;> rfl) | (simp [ev, Act.eval, It.val, e1]; done)), hc⟩))) | (refine kn_at 117 rfl ?_; (refine kn_one (.bool true) Try.func66 (by kernel_rfl) rfl rfl rfl rfl (by simp only [Act.put, List.setIfInBounds_toArray, List.set_cons_succ, List.set_cons_zero]; rfl) (fun z vals hv => ?_) ?_; (obtain ⟨Aa, na, ca, e1, h1⟩ := hv 114 _ rfl (by simp); have hc := inside_any Aa na ca _ t z.w h1; rw [HIS.out] at hc; exact ⟨_, (by first | (simp [ev, Act.eval, e1] <;> rfl) | (simp [ev, Act.eval, It.val, e1]; done)), hc⟩))) | (refine kn_one (.bool true) Try.func51 (by kernel_rfl) rfl rfl rfl rfl (by simp only [Act.put, List.setIfInBounds_toArray, List.set_cons_succ, List.set_cons_zero]; rfl) (fun z vals hv => ?_) ?_; (exact ⟨_, (by first | (simp [ev, Act.eval] <;> rfl) | (simp [ev, Act.eval, It.val]; done)), awake20_any z.w⟩)))); intro wq vals hgq hkn; simp only [over, Nk, List.map_cons, List.map_nil, List.foldl_cons, List.foldl_nil, Act.put, List.setIfInBounds_toArray, List.set_cons_succ, List.set_cons_zero]; clear hcr)
    clear hkn
    replace hbwW := hbwW.trans (hgq.mono hbwW.size)
    go_wp2_with fail
    go_ret
    exact ⟨rfl, hbwW⟩
  · replace HIS : Hid (insB (duI kS (spE l x)) t = false) := Lib.hid HIS.out
    ((with_reducible refine region_known ([(105, piF (duI (kA p) (spE l x))), (114, piF (duI kS (spE l x)))]) ?_ ?_ ?_ ?_ ?_ ?_); kernel_rfl; kernel_rfl; rfl; rfl; (exact stays_cons (piF_on _) (stays_cons (piF_on _) stays_nil)); intro hnonemp hcr; (repeat (first | (refine mix_plain rfl rfl rfl ?_; (first | go_big_quiet_skip | (go_big_quiet_want; go_big_quiet_op; go_big_quiet_on)); refine wpQuiet_nil ?_) | (refine kn_copy (.inl rfl) rfl rfl rfl rfl (by simp only [Act.put, List.setIfInBounds_toArray, List.set_cons_succ, List.set_cons_zero]; rfl) ?_) | (refine kn_copy (.inr rfl) rfl rfl rfl rfl (by simp only [Act.put, List.setIfInBounds_toArray, List.set_cons_succ, List.set_cons_zero]; rfl) ?_) | (refine kn_part rfl rfl rfl rfl rfl (by simp only [Act.put, List.setIfInBounds_toArray, List.set_cons_succ, List.set_cons_zero]; rfl) (fun _ _ => rfl) ?_) | (refine kn_skip rfl rfl (by simp only [Act.put, List.setIfInBounds_toArray, List.set_cons_succ, List.set_cons_zero]; rfl) ?_) | (refine kn_call 105 _ rfl Try.func59 (by kernel_rfl) rfl rfl rfl rfl (by simp only [Act.put, List.setIfInBounds_toArray, List.set_cons_succ, List.set_cons_zero]; rfl) (fun z vals hv => ?_) ?_; (have hc := Active_any A n c l x p z.w (Sl.below HS.out z.h) HV.out; exact ⟨_, (by first | (simp [ev, Act.eval] <;> rfl) | (simp [ev, Act.eval, It.val]; done)), hc.mono fun r w' ⟨⟨A', n', c', e, h⟩, hb⟩ => ⟨_, e, hb, ⟨A', n', c', rfl, h⟩⟩⟩)) | (refine kn_call 114 _ rfl Try.func61 (by kernel_rfl) rfl rfl rfl rfl (by simp only [Act.put, List.setIfInBounds_toArray, List.set_cons_succ, List.set_cons_zero]; rfl) (fun z vals hv => ?_) ?_; (have hc := Served_any A n c l x z.w (Sl.below HS.out z.h) HV.out; exact ⟨_, (by first | (simp [ev, Act.eval] <;> rfl) | (simp [ev, Act.eval, It.val]; done)), hc.mono fun r w' ⟨⟨A', n', c', e, h⟩, hb⟩ => ⟨_, e, hb, ⟨A', n', c', rfl, h⟩⟩⟩)) | (refine kn_at 108 rfl ?_; (refine kn_one (.bool ac) Try.func66 (by kernel_rfl) rfl rfl rfl rfl (by simp only [Act.put, List.setIfInBounds_toArray, List.set_cons_succ, List.set_cons_zero]; rfl) (fun z vals hv => ?_) ?_; (obtain ⟨Aa, na, ca, e1, h1⟩ := hv 105 _ rfl (by simp); have hc := inside_any Aa na ca _ t z.w h1; rw [HIA.out] at hc; exact ⟨_, (by first | (simp [ev, Act.eval, e1] <;> rfl) | (simp [ev, Act.eval, It.val, e1]; done)), hc⟩))) | (refine kn_at 117 rfl ?_; (refine kn_one (.bool false) Try.func66 (by kernel_rfl) rfl rfl rfl rfl (by simp only [Act.put, List.setIfInBounds_toArray, List.set_cons_succ, List.set_cons_zero]; rfl) (fun z vals hv => ?_) ?_; (obtain ⟨Aa, na, ca, e1, h1⟩ := hv 114 _ rfl (by simp); have hc := inside_any Aa na ca _ t z.w h1; rw [HIS.out] at hc; exact ⟨_, (by first | (simp [ev, Act.eval, e1] <;> rfl) | (simp [ev, Act.eval, It.val, e1]; done)), hc⟩))) | (refine kn_one (.bool true) Try.func51 (by kernel_rfl) rfl rfl rfl rfl (by simp only [Act.put, List.setIfInBounds_toArray, List.set_cons_succ, List.set_cons_zero]; rfl) (fun z vals hv => ?_) ?_; (exact ⟨_, (by first | (simp [ev, Act.eval] <;> rfl) | (simp [ev, Act.eval, It.val]; done)), awake20_any z.w⟩)))); intro wq vals hgq hkn; simp only [over, Nk, List.map_cons, List.map_nil, List.foldl_cons, List.foldl_nil, Act.put, List.setIfInBounds_toArray, List.set_cons_succ, List.set_cons_zero]; clear hcr)
    clear hkn
    replace hbwW := hbwW.trans (hgq.mono hbwW.size)
    go_wp2_with fail
    go_ret
    exact ⟨rfl, hbwW⟩
end Ss
end Go.Proofs.Yteaanngagcflhaa
