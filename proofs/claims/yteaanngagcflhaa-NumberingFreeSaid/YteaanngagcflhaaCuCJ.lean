/-
  Numbers: the document's example, in plain words; Numbers: awake of chapter 18. No condition.
-/
import Derived.Test.YteaanngagcflhaaCuCH
import Derived.BigQuiet
import Derived.StillTailTactics
import Derived.Lib.Overlaps
import Derived.Deep.DeepCutAuto
import Derived.Deep.RegionWith
import Derived.Laws.RangeAny
set_option maxRecDepth 100000
set_option linter.unusedVariables false
set_option linter.unusedSimpArgs false
namespace Go.Proofs.Yteaanngagcflhaa
open Go.RowKit

namespace Nb
open Cu
theorem sq (a b : ByteArray) : seq_ a b = (a.data.toList == b.data.toList) := by unfold seq_; rw [Lib.toList_data, Lib.toList_data]
def nA : ByteArray := ⟨#[97]⟩
def n49 : ByteArray := ⟨#[52, 57]⟩
def y1 : Ev := ⟨0, 1, 1, 0, nEmpty, nPost, 1⟩
def y2 : Ev := ⟨0, 3, 1, 7, nEmpty, nA, 0⟩
def y3 : Ev := ⟨0, 3, 1, 8, nEmpty, nA, 0⟩
def y4 : Ev := ⟨100, 5, 0, 7, n49, nEmpty, 0⟩
def y5 : Ev := ⟨200, 6, 0, 7, n49, nEmpty, 0⟩
def y6 : Ev := ⟨200, 5, 0, 8, n49, nEmpty, 0⟩
def l6 : List Ev := [y1, y2, y3, y4, y5, y6]
def a1 : Ac := ⟨1, 0, 1, false, false⟩
def s7 : Sb := ⟨7, 1, 0, nA, [], [], false, false⟩
def s7n : Sb := ⟨7, 1, 0, nA, [n49], [], false, false⟩
def s8 : Sb := ⟨8, 1, 0, nA, [], [], false, false⟩
def s8n : Sb := ⟨8, 1, 0, nA, [n49], [], false, false⟩
theorem hv49 : Dg.valid n49.data.toList = true := by decide
theorem g1 : faultR bk0 y1 0 = 0 := by
  simp [faultR, formR, formT, fldBad, idBad, nameBad, uA, uS, uN, uM, uV, idB, valB, nmB, nmC, sq, ofAcc, findA, bk0, y1, nPre, nPost, nEmpty]
theorem h1 : applyR bk0 y1 = ⟨[a1], [], []⟩ := by simp [applyR, bk0, y1, sq, nPre, nPost, a1]
theorem g2 : faultR ⟨[a1], [], []⟩ y2 0 = 0 := by
  simp [faultR, formR, formT, fldBad, idBad, nameBad, uA, uS, uN, uM, uV, idB, valB, nmB, nmC, sq, ofAcc, findA, findS, y2, nPre, nPost, nEmpty, nA, a1]
theorem h2 : applyR ⟨[a1], [], []⟩ y2 = ⟨[a1], [s7], []⟩ := by simp [applyR, y2, s7]
theorem g3 : faultR ⟨[a1], [s7], []⟩ y3 0 = 0 := by
  simp [faultR, formR, formT, fldBad, idBad, nameBad, uA, uS, uN, uM, uV, idB, valB, nmB, nmC, sq, ofAcc, findA, findS, y3, nPre, nPost, nEmpty, nA, a1, s7]
theorem h3 : applyR ⟨[a1], [s7], []⟩ y3 = ⟨[a1], [s7, s8], []⟩ := by simp [applyR, y3, s8]
theorem g4 : faultR ⟨[a1], [s7, s8], []⟩ y4 0 = 0 := by
  simp [faultR, formR, formT, fldBad, idBad, nameBad, uA, uS, uN, uM, uV, idB, valB, sq, ofSub, findS, endedB, takenB, hasS, y4, nEmpty, hv49, s7, s8]
theorem h4 : applyR ⟨[a1], [s7, s8], []⟩ y4 = ⟨[a1], [s7n, s8], []⟩ := by simp [applyR, mapFirst, chgR, insS, y4, s7, s7n, s8]
theorem g5 : faultR ⟨[a1], [s7n, s8], []⟩ y5 100 = 0 := by
  simp [faultR, formR, formT, fldBad, idBad, nameBad, uA, uS, uN, uM, uV, idB, valB, sq, ofSub, findS, endedB, takenB, hasS, y5, nEmpty, hv49, s7n, s8]
theorem h5 : applyR ⟨[a1], [s7n, s8], []⟩ y5 = ⟨[a1], [s7, s8], []⟩ := by simp [applyR, mapFirst, chgR, remS, sq, y5, s7, s7n, s8]
theorem g6 : faultR ⟨[a1], [s7, s8], []⟩ y6 200 = 0 := by
  simp [faultR, formR, formT, fldBad, idBad, nameBad, uA, uS, uN, uM, uV, idB, valB, sq, ofSub, findS, endedB, takenB, hasS, y6, nEmpty, hv49, s7, s8]
theorem h6 : applyR ⟨[a1], [s7, s8], []⟩ y6 = ⟨[a1], [s7, s8n], []⟩ := by simp [applyR, mapFirst, chgR, insS, y6, s7, s8, s8n]
theorem e1 : bkN l6 1 = ⟨[a1], [], []⟩ := h1
theorem e2 : bkN l6 2 = ⟨[a1], [s7], []⟩ := by show applyR (applyR bk0 y1) y2 = _; rw [h1, h2]
theorem e3 : bkN l6 3 = ⟨[a1], [s7, s8], []⟩ := by show applyR (applyR (applyR bk0 y1) y2) y3 = _; rw [h1, h2, h3]
theorem e4 : bkN l6 4 = ⟨[a1], [s7n, s8], []⟩ := by show applyR (applyR (applyR (applyR bk0 y1) y2) y3) y4 = _; rw [h1, h2, h3, h4]
theorem e5 : bkN l6 5 = ⟨[a1], [s7, s8], []⟩ := by show applyR (applyR (applyR (applyR (applyR bk0 y1) y2) y3) y4) y5 = _; rw [h1, h2, h3, h4, h5]
theorem e6 : bkN l6 6 = ⟨[a1], [s7, s8n], []⟩ := by show applyR (applyR (applyR (applyR (applyR (applyR bk0 y1) y2) y3) y4) y5) y6 = _; rw [h1, h2, h3, h4, h5, h6]
theorem v6 : Vl l6 := by
  refine ⟨by decide, fun j hj => ?_⟩
  have hj' : j < 6 := hj
  have : j = 0 ∨ j = 1 ∨ j = 2 ∨ j = 3 ∨ j = 4 ∨ j = 5 := by omega
  rcases this with rfl | rfl | rfl | rfl | rfl | rfl
  · exact g1
  · show faultR (bkN l6 1) y2 0 = 0; rw [e1]; exact g2
  · show faultR (bkN l6 2) y3 0 = 0; rw [e2]; exact g3
  · show faultR (bkN l6 3) y4 0 = 0; rw [e3]; exact g4
  · show faultR (bkN l6 4) y5 100 = 0; rw [e4]; exact g5
  · show faultR (bkN l6 5) y6 200 = 0; rw [e5]; exact g6
theorem sz6 : SzOk l6 := fun e he => by
  have h : e = y1 ∨ e = y2 ∨ e = y3 ∨ e = y4 ∨ e = y5 ∨ e = y6 := by simpa [l6] using he
  have m : (8 : Nat) ≤ maxLen := by unfold maxLen; omega
  rcases h with rfl | rfl | rfl | rfl | rfl | rfl <;> exact ⟨Nat.le_trans (by decide) m, Nat.le_trans (by decide) m⟩
theorem at199 : bkAt l6 199 = ⟨[a1], [s7n, s8], []⟩ := by
  rw [(bkAt_N v6 199).1, show cutN l6 199 = 4 by simp [cutN, l6, y1, y2, y3, y4, y5, y6], e4]
theorem at150 : bkAt l6 150 = ⟨[a1], [s7n, s8], []⟩ := by
  rw [(bkAt_N v6 150).1, show cutN l6 150 = 4 by simp [cutN, l6, y1, y2, y3, y4, y5, y6], e4]
theorem at200 : bkAt l6 200 = ⟨[a1], [s7, s8n], []⟩ := by
  rw [(bkAt_N v6 200).1, show cutN l6 200 = 6 by simp [cutN, l6, y1, y2, y3, y4, y5, y6], e6]
theorem own199 : ownB (bkAt l6 199) n49 = some 7 := by
  refine (ownB_some (at_inv v6 199).2).2 ⟨s7n, ?_, by simp [hasS, s7n, sq]⟩
  rw [at199]; simp [findS, s7n]
theorem own200 : ownB (bkAt l6 200) n49 = some 8 := by
  refine (ownB_some (at_inv v6 200).2).2 ⟨s8n, ?_, by simp [hasS, s8n, sq]⟩
  rw [at200]; simp [findS, s7, s8n]
theorem nums150 : ((cSubs (bkAt l6 150)).find? (fun y => y.id == 7)).getD sb0 = s7n := by
  rw [find_cSubs (at_inv v6 150).2, at150]
  simp [liveS, endedB, findS, s7n]
theorem sp6 : spE l6 n49 = [⟨7, 100, 200⟩, ⟨8, 200, 12622780800⟩] := by
  simp [spE, spP, stepP, nxt, toN, pend, l6, y1, y2, y3, y4, y5, y6, sq, n49]
theorem fr100 : frB 0 100 (spE l6 n49) = true := by rw [sp6]; simp [frB, ovB]
theorem fr101 : frB 0 101 (spE l6 n49) = false := by rw [sp6]; simp [frB, ovB]
end Nb
namespace Nb
open Cu
set_option maxHeartbeats 16000000 in
theorem awake18_any (w : World) : Calls Try.prog 40 #[] w fun e w' => e = .returned (.bool true) ∧ Below w.heap.size w w' := by
  go_enter Try.func40, Try.ntmps40
  go_upto_region 2 with (fail)
  have hS0 : Sl (w.alloc (.cells #[.int .i64 0, .int .i64 1, .int .i64 1, .int .i64 0, .string ⟨#[]⟩, .string ⟨#[112, 111, 115, 116, 112, 97, 105, 100]⟩, .int .i64 1, .int .i64 0, .int .i64 3, .int .i64 1, .int .i64 7, .string ⟨#[]⟩, .string ⟨#[97]⟩, .int .i64 0, .int .i64 0, .int .i64 3, .int .i64 1, .int .i64 8, .string ⟨#[]⟩, .string ⟨#[97]⟩, .int .i64 0, .int .i64 100, .int .i64 5, .int .i64 0, .int .i64 7, .string ⟨#[52, 57]⟩, .string ⟨#[]⟩, .int .i64 0, .int .i64 200, .int .i64 6, .int .i64 0, .int .i64 7, .string ⟨#[52, 57]⟩, .string ⟨#[]⟩, .int .i64 0, .int .i64 200, .int .i64 5, .int .i64 0, .int .i64 8, .string ⟨#[52, 57]⟩, .string ⟨#[]⟩, .int .i64 0] 36)) (some ⟨w.heap.size, 0, none⟩) 6 6 l6 := Sl.new w #[.int .i64 0, .int .i64 1, .int .i64 1, .int .i64 0, .string ⟨#[]⟩, .string ⟨#[112, 111, 115, 116, 112, 97, 105, 100]⟩, .int .i64 1, .int .i64 0, .int .i64 3, .int .i64 1, .int .i64 7, .string ⟨#[]⟩, .string ⟨#[97]⟩, .int .i64 0, .int .i64 0, .int .i64 3, .int .i64 1, .int .i64 8, .string ⟨#[]⟩, .string ⟨#[97]⟩, .int .i64 0, .int .i64 100, .int .i64 5, .int .i64 0, .int .i64 7, .string ⟨#[52, 57]⟩, .string ⟨#[]⟩, .int .i64 0, .int .i64 200, .int .i64 6, .int .i64 0, .int .i64 7, .string ⟨#[52, 57]⟩, .string ⟨#[]⟩, .int .i64 0, .int .i64 200, .int .i64 5, .int .i64 0, .int .i64 8, .string ⟨#[52, 57]⟩, .string ⟨#[]⟩, .int .i64 0] _ w.heap.size rfl l6 6 rfl (by unfold maxLen; omega) rfl
  obtain ⟨V, hV⟩ : ∃ V, V = w.alloc (.cells #[.int .i64 0, .int .i64 1, .int .i64 1, .int .i64 0, .string ⟨#[]⟩, .string ⟨#[112, 111, 115, 116, 112, 97, 105, 100]⟩, .int .i64 1, .int .i64 0, .int .i64 3, .int .i64 1, .int .i64 7, .string ⟨#[]⟩, .string ⟨#[97]⟩, .int .i64 0, .int .i64 0, .int .i64 3, .int .i64 1, .int .i64 8, .string ⟨#[]⟩, .string ⟨#[97]⟩, .int .i64 0, .int .i64 100, .int .i64 5, .int .i64 0, .int .i64 7, .string ⟨#[52, 57]⟩, .string ⟨#[]⟩, .int .i64 0, .int .i64 200, .int .i64 6, .int .i64 0, .int .i64 7, .string ⟨#[52, 57]⟩, .string ⟨#[]⟩, .int .i64 0, .int .i64 200, .int .i64 5, .int .i64 0, .int .i64 8, .string ⟨#[52, 57]⟩, .string ⟨#[]⟩, .int .i64 0] 36) := ⟨_, rfl⟩
  have hbV : Below w.heap.size w V := by rw [hV]; exact (Below.refl _ _).alloc (Nat.le_refl _) _
  rw [← hV] at hS0 ⊢
  have HS := Lib.hid hS0
  clear hV hS0
  go_upto_region 3 with (go_at_call 44; go_must (refine (Spells_any _ 6 6 l6 n49 _ HS.out (by omega)).mono ?_; rintro r w5 ⟨⟨A1, n1, c1, rfl, _, hs5⟩, hb5⟩; rw [sp6] at hs5))
  have hn1 : n1 = 2 := by have := hs5.len; simpa using this.symm
  subst hn1
  obtain ⟨b, off, rfl, hbl, hcells⟩ := hs5.base (by omega)
  have c0 : w5.cell? ⟨b, off, none⟩ = some (.int .i64 7) := by have := hcells 0 ⟨7, 100, 200⟩ rfl 0 _ rfl; simpa using this
  have c1' : w5.cell? ⟨b, off + 1, none⟩ = some (.int .i64 100) := by have := hcells 0 ⟨7, 100, 200⟩ rfl 1 _ rfl; simpa using this
  have c2 : w5.cell? ⟨b, off + 2, none⟩ = some (.int .i64 200) := by have := hcells 0 ⟨7, 100, 200⟩ rfl 2 _ rfl; simpa using this
  have c3' : w5.cell? ⟨b, off + 3, none⟩ = some (.int .i64 8) := hcells 1 ⟨8, 200, 12622780800⟩ rfl 0 _ rfl
  have c4 : w5.cell? ⟨b, off + 4, none⟩ = some (.int .i64 200) := hcells 1 ⟨8, 200, 12622780800⟩ rfl 1 _ rfl
  have c5 : w5.cell? ⟨b, off + 5, none⟩ = some (.int .i64 12622780800) := hcells 1 ⟨8, 200, 12622780800⟩ rfl 2 _ rfl
  have hbw5 := hbV.trans (hb5.mono hbV.size)
  have HS5 := Lib.hid (HS.out.below hb5)
  clear hcells hs5 hb5
  go_upto_region 4 with (go_at_call 41; go_must (refine (Owner_any _ 6 6 l6 n49 199 _ HS5.out v6 sz6 (by unfold maxLen; decide)).mono ?_; rintro r w6 ⟨rfl, hb6⟩; rw [own199]))
  have HS6 := Lib.hid (HS5.out.below hb6)
  have hs6 := hb6.size
  go_upto_region 5 with (go_at_call 41; go_must (refine (Owner_any _ 6 6 l6 n49 200 _ HS6.out v6 sz6 (by unfold maxLen; decide)).mono ?_; rintro r w7 ⟨rfl, hb7⟩; rw [own200]))
  have HS7 := Lib.hid (HS6.out.below hb7)
  have hb57 := hb6.trans (hb7.mono hs6)
  have hbw7 := hbw5.trans (hb57.mono hbw5.size)
  replace c0 := cl hb57 c0
  replace c1' := cl hb57 c1'
  replace c2 := cl hb57 c2
  replace c3' := cl hb57 c3'
  replace c4 := cl hb57 c4
  replace c5 := cl hb57 c5
  clear hb6 hb7 hb57
  go_wp2_with fail
  refine (Free_any _ 6 6 l6 n49 0 100 _ HS7.out (by omega)).mono ?_
  rintro r w8 ⟨rfl, hb8⟩
  rw [fr100]
  have HS8 := Lib.hid (HS7.out.below hb8)
  have hbw8 := hbw7.trans (hb8.mono hbw7.size)
  go_wp2_with fail
  refine (Free_any _ 6 6 l6 n49 0 101 _ HS8.out (by omega)).mono ?_
  rintro r w9 ⟨rfl, hb9⟩
  rw [fr101]
  have HS9 := Lib.hid (HS8.out.below hb9)
  have hbw9 := hbw8.trans (hb9.mono hbw8.size)
  go_wp2_with fail
  refine (Numbers_any _ 6 6 l6 7 150 _ HS9.out v6 sz6).mono ?_
  rintro r wA ⟨⟨A', n', c', rfl, hsA⟩, hbA⟩
  rw [nums150] at hsA
  have hn' : n' = 1 := by have := hsA.len; simpa [s7n] using this.symm
  subst hn'
  clear hsA
  go_wp2_with fail
  go_ret
  exact ⟨rfl, hbw9.trans (hbA.mono hbw9.size)⟩
end Nb
end Go.Proofs.Yteaanngagcflhaa
