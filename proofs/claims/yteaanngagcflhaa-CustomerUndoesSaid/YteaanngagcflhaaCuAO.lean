/-
  Customers: the examples of the laws, in plain words. No condition.
-/
import Derived.Test.YteaanngagcflhaaCuT
import Derived.Test.YteaanngagcflhaaCuAK
import Derived.Lib.Hide
set_option maxRecDepth 100000
set_option linter.unusedVariables false
set_option linter.unusedSimpArgs false
namespace Go.Proofs.Yteaanngagcflhaa
open Go Go.RowKit
namespace Cu
def nBasic : ByteArray := ⟨#[98, 97, 115, 105, 99]⟩
def n4915 : ByteArray := ⟨#[52, 57, 49, 53]⟩
def x1 : Ev := ⟨0, 1, 1, 0, nEmpty, nPre, 15⟩
def x2 : Ev := ⟨0, 3, 1, 7, nEmpty, nBasic, 0⟩
def x3 : Ev := ⟨0, 5, 0, 7, n4915, nEmpty, 0⟩
def xC : Ev := ⟨0, 2, 1, 0, nEmpty, nEmpty, 0⟩
def l3 : List Ev := [x1, x2, x3]
def sbX : Sb := ⟨7, 1, 0, nBasic, [n4915], [], false, false⟩
def bk3 : Bk := ⟨[⟨1, 0, 15, true, false⟩], [sbX], []⟩
theorem sq (a b : ByteArray) : seq_ a b = (a.data.toList == b.data.toList) := by unfold seq_; rw [Lib.toList_data, Lib.toList_data]
theorem f1 (last : Int) (h : last = 0) : faultR bk0 x1 last = 0 := by
  subst h
  simp [faultR, formR, formT, fldBad, idBad, nameBad, uA, uS, uN, uM, uV, idB, valB, nmB, nmC, sq, ofAcc, findA, bk0, x1, nPre, nPost, nEmpty]
theorem b1 : applyR bk0 x1 = ⟨[⟨1, 0, 15, true, false⟩], [], []⟩ := by
  simp [applyR, bk0, x1, sq, nPre]
theorem f2 : faultR ⟨[⟨1, 0, 15, true, false⟩], [], []⟩ x2 0 = 0 := by
  simp [faultR, formR, formT, fldBad, idBad, nameBad, uA, uS, uN, uM, uV, idB, valB, nmB, nmC, sq, ofAcc, findA, findS, x2, nPre, nPost, nEmpty, nBasic]
theorem b2 : applyR ⟨[⟨1, 0, 15, true, false⟩], [], []⟩ x2 = ⟨[⟨1, 0, 15, true, false⟩], [⟨7, 1, 0, nBasic, [], [], false, false⟩], []⟩ := by
  simp [applyR, x2]
theorem f3 : faultR ⟨[⟨1, 0, 15, true, false⟩], [⟨7, 1, 0, nBasic, [], [], false, false⟩], []⟩ x3 0 = 0 := by
  have hv : Dg.valid n4915.data.toList = true := by decide
  simp [faultR, formR, formT, fldBad, idBad, nameBad, uA, uS, uN, uM, uV, idB, valB, sq, ofSub, findS, endedB, takenB, hasS, x3, nEmpty, hv]
theorem b3 : applyR ⟨[⟨1, 0, 15, true, false⟩], [⟨7, 1, 0, nBasic, [], [], false, false⟩], []⟩ x3 = bk3 := by
  simp [applyR, mapFirst, chgR, insS, x3, bk3, sbX]
theorem f4 : faultR bk3 x3 0 = 12 := by
  have hv : Dg.valid n4915.data.toList = true := by decide
  simp [faultR, formR, formT, fldBad, idBad, nameBad, uA, uS, uN, uM, uV, idB, valB, sq, ofSub, findS, endedB, takenB, hasS, x3, nEmpty, hv, bk3, sbX]
theorem f5 : faultR bk3 xC 0 = 22 := by
  simp [faultR, formR, formT, fldBad, idBad, nameBad, uA, uS, uN, uM, uV, idB, valB, sq, ofAcc, findA, busyB, endedB, xC, nEmpty, bk3, sbX]
theorem k0 (l : List Ev) : bkN (l3 ++ l) 0 = bk0 := rfl
theorem k1 (l : List Ev) : bkN (l3 ++ l) 1 = ⟨[⟨1, 0, 15, true, false⟩], [], []⟩ := b1
theorem k2 (l : List Ev) : bkN (l3 ++ l) 2 = ⟨[⟨1, 0, 15, true, false⟩], [⟨7, 1, 0, nBasic, [], [], false, false⟩], []⟩ := by
  show applyR (applyR bk0 x1) x2 = _
  rw [b1, b2]
theorem k3 (l : List Ev) : bkN (l3 ++ l) 3 = bk3 := by
  show applyR (applyR (applyR bk0 x1) x2) x3 = _
  rw [b1, b2, b3]
theorem t0 (l : List Ev) : fltN (l3 ++ l) 0 = 0 := f1 _ rfl
theorem t1 (l : List Ev) : fltN (l3 ++ l) 1 = 0 := by show faultR (bkN (l3 ++ l) 1) x2 0 = 0; rw [k1, f2]
theorem t2 (l : List Ev) : fltN (l3 ++ l) 2 = 0 := by show faultR (bkN (l3 ++ l) 2) x3 0 = 0; rw [k2, f3]
theorem t012 (l : List Ev) : ∀ j, j < 3 → fltN (l3 ++ l) j = 0 := fun j hj => by
  have : j = 0 ∨ j = 1 ∨ j = 2 := by omega
  rcases this with rfl | rfl | rfl
  · exact t0 l
  · exact t1 l
  · exact t2 l
theorem l3e : l3 ++ [] = l3 := List.append_nil _
theorem w1 : chkL l3 = (0, 0) := chkL_ok (by decide) fun j hj => by have := t012 [] j hj; rw [l3e] at this; exact this
theorem v3 : Vl l3 := ⟨by decide, fun j hj => by have := t012 [] j hj; rw [l3e] at this; exact this⟩
theorem w3 : chkL (l3 ++ [x3]) = (3, 12) := by
  have h : fltN (l3 ++ [x3]) 3 = 12 := by show faultR (bkN (l3 ++ [x3]) 3) x3 0 = 12; rw [k3, f4]
  rw [chkL_bad (m := 3) (by decide) (by decide) (t012 _) (by rw [h]; decide), h]; rfl
theorem w4 : chkL (l3 ++ [xC]) = (3, 22) := by
  have h : fltN (l3 ++ [xC]) 3 = 22 := by show faultR (bkN (l3 ++ [xC]) 3) xC 0 = 22; rw [k3, f5]
  rw [chkL_bad (m := 3) (by decide) (by decide) (t012 _) (by rw [h]; decide), h]; rfl
theorem bk3_at (t : Int) (h : 0 ≤ t) : bkAt l3 t = bk3 := by
  have hf : l3.filter (atB t) = l3 := List.filter_eq_self.2 fun x hx => by
    have : x = x1 ∨ x = x2 ∨ x = x3 := by simpa [l3] using hx
    rcases this with rfl | rfl | rfl <;> exact decide_eq_true h
  unfold bkAt
  rw [hf]
  exact k3 []
theorem live3 (n : Int) : liveS bk3 n = if n = 7 then some sbX else none := by
  unfold liveS endedB findS bk3
  by_cases h : n = 7
  · subst h; simp [sbX]
  · have : ¬ (7 : Int) = n := fun e => h e.symm
    simp [sbX, h, this]
theorem c3 : cSubs bk3 = [sbX] := by
  unfold cSubs
  have h : (rngK 9999).filterMap (liveS bk3) = [7].filterMap (liveS bk3) := (fm_asc _ _ _ (rngK_asc _) (by simp) (fun x hx => by simp at hx; subst hx; exact rngK_mem.2 (by omega)) (fun x _ hx => by rw [live3, if_neg (by simpa using hx)])).symm
  rw [h]
  simp [live3]
theorem d3 : cAccs bk3 = [(⟨1, 0, 15, true, false⟩, [7])] := by
  unfold cAccs
  have hc : ∀ n, cAcc bk3 n = if n = 1 then some (⟨1, 0, 15, true, false⟩, [7]) else none := fun n => by
    unfold cAcc
    rw [c3]
    by_cases h : n = 1
    · subst h; simp [findA, bk3, cOf, sbX]
    · have : ¬ (1 : Int) = n := fun e => h e.symm
      simp [findA, bk3, h, this]
  have h : (rngK 9999).filterMap (cAcc bk3) = [1].filterMap (cAcc bk3) := (fm_asc _ _ _ (rngK_asc _) (by simp) (fun x hx => by simp at hx; subst hx; exact rngK_mem.2 (by omega)) (fun x _ hx => by rw [hc, if_neg (by simpa using hx)])).symm
  rw [h]
  simp [hc]
end Cu
end Go.Proofs.Yteaanngagcflhaa
