/-
  Expressions: the reference's Arity, Has, attribute, own, result. No condition.
-/
import Derived.Test.YtdnnnajohdohaaaExC
import Derived.BigQuiet
import Derived.StillTailTactics
import Derived.Lib.Overlaps
import Derived.Deep.DeepCutAuto
set_option maxRecDepth 100000
set_option linter.unusedVariables false
set_option linter.unusedSimpArgs false
namespace Go.Proofs.Ytdnnnajohdohaaa
open Go.RowKit

namespace Xp

theorem refarity_any (op : Int) (w : World) : Calls Try.prog 88 #[.int .i64 op] w fun e w' => e = .returned (.int .i64 (arity op)) ∧ w = w' := by
  go_enter Try.func88, Try.ntmps88
  go_wp2
  all_goals (go_ret; refine ⟨ret_int ?_, rfl⟩; unfold arity; (repeat' split) <;> simp_all <;> omega)

instance : Flat ByteArray where
  sz := 1
  cells s := [.string s]
  len _ := rfl
  one _ := by simp [Value.oneCell']
  pos := by decide
def hasS (ps : List ByteArray) (s : ByteArray) : Bool := ps.any (fun p => p.toList == s.toList)
theorem beq_bytes (p s : ByteArray) : (p.toList == s.toList) = decide (p = s) := by
  rw [Bool.eq_iff_iff, beq_iff_eq, decide_eq_true_eq, Lib.toList_data, Lib.toList_data]
  constructor
  · intro h; cases p; cases s; simp at h; rw [h]
  · rintro rfl; rfl
set_option maxHeartbeats 400000 in
theorem has_any (A : Option Addr) (n c : Nat) (ps : List ByteArray) (s : ByteArray) (w : World) (h : Sl w A n c ps) :
    Calls Try.prog 90 #[.slice A n c, .string s] w fun e w' => e = .returned (.bool (hasS ps s)) ∧ w = w' := by
  have hn := h.nmax
  have H := Lib.hid h
  clear h
  go_enter Try.func90, Try.ntmps90
  go_wp2_with fail
  go_loop [5] (fun i => ∃ k : Nat, k ≤ n ∧ i = .int .i64 k ∧ (ps.take k).any (fun p => p.toList == s.toList) = false) (fun i => n - (intOf i).toNat)
  case atStart => exact ⟨0, Nat.zero_le _, rfl, by simp⟩
  case round =>
    obtain ⟨k, hk, rfl, ha⟩ := hrel
    have HA := Lib.hid ha
    clear ha
    by_cases hlt : k < n
    · obtain ⟨b, off, rfl, hbw, hc⟩ := Sl.one rfl H.out (by omega)
      obtain ⟨x, hx⟩ := H.out.get hlt
      have c0 : w.cell? ⟨b, off + k, none⟩ = some (.string x) := hc k x _ hx rfl
      have HX := Lib.hid hx
      clear hx hc
      cases hq : (x.toList == s.toList)
      · have HQ := Lib.hid hq
        go_wp2_with fail
        go_round
        case rel =>
          refine ⟨k + 1, by omega, by go_num, ?_⟩
          rw [List.take_add_one, HX.out, List.any_append, HA.out]
          simp [HQ.out]
        case measure => simp [intOf]; omega
      · have HQ := Lib.hid hq
        go_wp2_with fail
        go_ret
        refine ⟨ret_bool ?_, rfl⟩
        rw [eq_comm, hasS, List.any_eq_true]
        exact ⟨x, List.mem_of_getElem? HX.out, HQ.out⟩
    · obtain rfl : n = k := by omega
      have ha := HA.out
      rw [List.take_of_length_le (by rw [H.out.len]; exact Nat.le_refl _)] at ha
      have HA2 := Lib.hid ha
      clear ha
      go_wp2_with fail
      go_ret
      exact ⟨ret_bool HA2.out.symm, rfl⟩

def six : List ByteArray := [nKind, nUnits, nWeekday, nMinute, nTotal, nSpent]
def duo : List ByteArray := [nZone, nBand]
theorem has_six (t : ByteArray) : hasS six t = decide (attrSort t = 1) := by
  unfold hasS six
  simp only [List.any_cons, List.any_nil, beq_bytes]
  rw [Bool.eq_iff_iff]
  simp only [Bool.or_eq_true, decide_eq_true_eq, Bool.false_eq_true, or_false]
  unfold attrSort
  constructor
  · rintro (h | h | h | h | h | h) <;> rw [← h] <;> rfl
  · intro h
    split at h
    · rename_i h1; rcases h1 with h1 | h1 | h1 | h1 | h1 | h1 <;> simp [h1]
    · split at h
      · simp at h
      · split at h <;> simp at h
theorem has_duo (t : ByteArray) : hasS duo t = decide (attrSort t = 2) := by
  unfold hasS duo
  simp only [List.any_cons, List.any_nil, beq_bytes]
  rw [Bool.eq_iff_iff]
  simp only [Bool.or_eq_true, decide_eq_true_eq, Bool.false_eq_true, or_false]
  constructor
  · rintro (h | h) <;> rw [← h] <;> rfl
  · intro h
    unfold attrSort at h
    split at h
    · simp at h
    · split at h
      · rename_i h1; rcases h1 with h1 | h1 <;> simp [h1]
      · split at h <;> simp at h
theorem has_fam (t : ByteArray) : (t.toList == [102, 97, 109, 105, 108, 121]) = decide (attrSort t = 3) := by
  have e : (t.toList == [102, 97, 109, 105, 108, 121]) = (t.toList == nFamily.toList) := by
    rw [show nFamily.toList = [102, 97, 109, 105, 108, 121] by rw [Lib.toList_data]; rfl]
  rw [e, beq_bytes, Bool.eq_iff_iff, decide_eq_true_eq, decide_eq_true_eq]
  constructor
  · rintro rfl; rfl
  · intro h
    unfold attrSort at h
    split at h
    · simp at h
    · split at h
      · simp at h
      · split at h
        · assumption
        · simp at h
theorem attr_four (t : ByteArray) : attrSort t = 0 ∨ attrSort t = 1 ∨ attrSort t = 2 ∨ attrSort t = 3 := by
  by_cases h : attrSort t = 0
  · exact .inl h
  · exact .inr (attr_pos h)
set_option maxHeartbeats 1000000 in
theorem refattr_any (t : ByteArray) (w : World) : Calls Try.prog 89 #[.string t] w fun e w' => e = .returned (.int .i64 (attrSort t)) ∧ Below w.heap.size w w' := by
  have h6 := Lib.hid (has_six t)
  have h2 := Lib.hid (has_duo t)
  have hf := has_fam t
  have hs6 : Sl (w.alloc (.cells #[.string nKind, .string nUnits, .string nWeekday, .string nMinute, .string nTotal, .string nSpent] 9)) (some ⟨w.heap.size, 0, none⟩) 6 6 six := Sl.new w _ 9 w.heap.size rfl six 6 rfl (by unfold maxLen; decide) rfl
  have HS6 := Lib.hid hs6
  clear hs6
  obtain ⟨a, ha⟩ : ∃ a, attrSort t = a := ⟨_, rfl⟩
  have ha4 := attr_four t
  rw [ha] at hf h6 h2 ha4
  have HA := Lib.hid ha
  clear ha
  rcases ha4 with rfl | rfl | rfl | rfl
  all_goals
    simp only [show decide ((0 : Int) = 3) = false from rfl, show decide ((1 : Int) = 3) = false from rfl, show decide ((2 : Int) = 3) = false from rfl, show decide ((3 : Int) = 3) = true from rfl] at hf
    go_enter Try.func89, Try.ntmps89
    go_wp2_with fail
    refine (has_any _ 6 6 six t _ HS6.out).mono ?_
    rw [h6.out]
    rintro e w' ⟨rfl, rfl⟩
    go_wp2_with fail
    first
      | (go_ret
         exact ⟨ret_int HA.out.symm, by (repeat (first | exact Below.refl _ _ | exact Below.refl _ _ | (refine Below.alloc ?_ (by (try simp) <;> omega) _) | (refine Below.setCell ?_ (by (try simp) <;> omega) _) | refine Below.drew ?_ | refine below_drewN ?_ _))⟩)
      | (have hs2 : Sl ((w.alloc (.cells #[.string nKind, .string nUnits, .string nWeekday, .string nMinute, .string nTotal, .string nSpent] 9)).alloc (.cells #[.string nZone, .string nBand] 9)) (some ⟨w.heap.size + 1, 0, none⟩) 2 2 duo := Sl.new _ _ 9 (w.heap.size + 1) (by simp) duo 2 rfl (by unfold maxLen; decide) rfl
         refine (has_any _ 2 2 duo t _ hs2).mono ?_
         rw [h2.out]
         rintro e w' ⟨rfl, rfl⟩
         clear hs2
         go_wp2_with fail
         go_ret
         exact ⟨ret_int HA.out.symm, by (repeat (first | exact Below.refl _ _ | exact Below.refl _ _ | (refine Below.alloc ?_ (by (try simp) <;> omega) _) | (refine Below.setCell ?_ (by (try simp) <;> omega) _) | refine Below.drew ?_ | refine below_drewN ?_ _))⟩)

/-- the error of an expression without its operands -/
def ownE (op num : Int) (text : ByteArray) (n : Nat) : Int :=
  if arity op ≠ (n : Int) then 7 else if op = 1 ∧ (num < 0 ∨ 1099511627776 < num) then 6 else if op = 2 ∧ 200 < text.size then 5 else if op = 3 ∧ attrSort text = 0 then 11 else 0
set_option maxHeartbeats 4000000 in
theorem own_any (x : It) (w : World) : Calls Try.prog 86 #[x.val] w fun r w' => r = .returned (.int .i64 (ownE x.op x.num x.text x.n)) ∧ Below w.heap.size w w' := by
  obtain ⟨op, num, text, A, n, c⟩ := x
  unfold It.val
  dsimp only
  obtain ⟨R, hR⟩ : ∃ R, ownE op num text n = R := ⟨_, rfl⟩
  rw [hR]
  have HR := Lib.hid hR
  clear hR
  by_cases ha : arity op = (n : Int)
  · have hq : ((arity op) != (n : Int)) = false := by rw [ha]; exact bne_self_eq_false _
    have HRR : Hid (R = if op = 1 ∧ (num < 0 ∨ 1099511627776 < num) then 6 else if op = 2 ∧ 200 < text.size then 5 else if op = 3 ∧ attrSort text = 0 then 11 else 0) := Lib.hid (by rw [← HR.out, ownE, if_neg (by simpa using ha)])
    clear ha HR
    have hops : op = 1 ∨ op = 2 ∨ op = 3 ∨ ((op == 1) = false ∧ (op == 2) = false ∧ (op == 3) = false) := by simp; omega
    rcases hops with rfl | rfl | rfl | ⟨o1, o2, o3⟩
    · have hnum : num < 0 ∨ (0 ≤ num ∧ 1099511627776 < num) ∨ (0 ≤ num ∧ num ≤ 1099511627776) := by omega
      rcases hnum with h1 | ⟨h1, h2⟩ | ⟨h1, h2⟩
      all_goals
        have HF := Lib.hid HRR.out
        go_enter Try.func86, Try.ntmps86
        go_upto_region 1 with (fail)
        (obtain ⟨W, hWW, hbW, hzW, f1W, qfa⟩ := box1 w #[.int .i64 1, .int .i64 num, .string text, .slice A n c] 60; rw [← hWW]; have qa0 : W.cell? ⟨w.heap.size, 0, none⟩ = some (.int .i64 1) := f1W 0 _ rfl; have qa1 : W.cell? ⟨w.heap.size, 1, none⟩ = some (.int .i64 num) := f1W 1 _ rfl; have qa2 : W.cell? ⟨w.heap.size, 2, none⟩ = some (.string text) := f1W 2 _ rfl; have qa3 : W.cell? ⟨w.heap.size, 3, none⟩ = some (.slice A n c) := f1W 3 _ rfl; clear hWW f1W)
        ((with_reducible refine wp_region_class (Below W.heap.size W) ?_ ?_ ?_ ?_); kernel_rfl; kernel_rfl; (exact (Below.refl _ _).drew); (intro hnonemp); (have rz := fun z : Wd (Below W.heap.size W) => z.cells); (repeat (any_goals (first | go_big_quiet_step (((go_at_call 88; (refine (refarity_any _ _).mono ?_); rintro e w' ⟨rfl, rfl⟩; exact ⟨rfl, ⟨_, Wd.h _⟩, rfl⟩))) | (refine wpQuiet_step (fun K hK => ?_); go_simp; (first | (refine hK _ ?_; clear hK K) | (split <;> rename_i hg <;> (refine hK _ ?_; clear hK K) <;> (try simp only [Bool.not_eq_true] at hg) <;> (first | simp only [Int.not_lt.2 hg, decide_false] | simp only [Int.not_le.1 hg, decide_true] | simp only [hg, decide_true, decide_false] | skip)))))));  all_goals (refine wpQuiet_nil ?_; intro wq hgq))
        (have hzhgq := hgq.size; replace qa0 := (hgq.cell (p := ⟨_, _, none⟩) (by (try dsimp only) <;> omega)).trans qa0; replace qa1 := (hgq.cell (p := ⟨_, _, none⟩) (by (try dsimp only) <;> omega)).trans qa1; replace qa2 := (hgq.cell (p := ⟨_, _, none⟩) (by (try dsimp only) <;> omega)).trans qa2; replace qa3 := (hgq.cell (p := ⟨_, _, none⟩) (by (try dsimp only) <;> omega)).trans qa3; replace hbW := Below.trans hbW (Below.mono hgq (by omega)))
        go_wp2_with fail
        go_ret
        refine ⟨ret_int ?_, hbW⟩
        rw [HRR.out]
        simp; omega
    · by_cases ht : 200 < text.size
      all_goals
        have f1 : decide ((text.size : Int) > 200) = decide (200 < text.size) := by simp; omega
        have f2 : decide (200 < (text.size : Int)) = decide (200 < text.size) := by simp; omega
        simp only [ht, decide_true, decide_false] at f1 f2
        go_enter Try.func86, Try.ntmps86
        go_upto_region 1 with (fail)
        (obtain ⟨W, hWW, hbW, hzW, f1W, qfa⟩ := box1 w #[.int .i64 2, .int .i64 num, .string text, .slice A n c] 60; rw [← hWW]; have qa0 : W.cell? ⟨w.heap.size, 0, none⟩ = some (.int .i64 2) := f1W 0 _ rfl; have qa1 : W.cell? ⟨w.heap.size, 1, none⟩ = some (.int .i64 num) := f1W 1 _ rfl; have qa2 : W.cell? ⟨w.heap.size, 2, none⟩ = some (.string text) := f1W 2 _ rfl; have qa3 : W.cell? ⟨w.heap.size, 3, none⟩ = some (.slice A n c) := f1W 3 _ rfl; clear hWW f1W)
        ((with_reducible refine wp_region_class (Below W.heap.size W) ?_ ?_ ?_ ?_); kernel_rfl; kernel_rfl; (exact (Below.refl _ _).drew); (intro hnonemp); (have rz := fun z : Wd (Below W.heap.size W) => z.cells); (repeat (any_goals (first | go_big_quiet_step (((go_at_call 88; (refine (refarity_any _ _).mono ?_); rintro e w' ⟨rfl, rfl⟩; exact ⟨rfl, ⟨_, Wd.h _⟩, rfl⟩))) | (refine wpQuiet_step (fun K hK => ?_); go_simp; (first | (refine hK _ ?_; clear hK K) | (split <;> rename_i hg <;> (refine hK _ ?_; clear hK K) <;> (try simp only [Bool.not_eq_true] at hg) <;> (first | simp only [Int.not_lt.2 hg, decide_false] | simp only [Int.not_le.1 hg, decide_true] | simp only [hg, decide_true, decide_false] | skip)))))));  all_goals (refine wpQuiet_nil ?_; intro wq hgq))
        (have hzhgq := hgq.size; replace qa0 := (hgq.cell (p := ⟨_, _, none⟩) (by (try dsimp only) <;> omega)).trans qa0; replace qa1 := (hgq.cell (p := ⟨_, _, none⟩) (by (try dsimp only) <;> omega)).trans qa1; replace qa2 := (hgq.cell (p := ⟨_, _, none⟩) (by (try dsimp only) <;> omega)).trans qa2; replace qa3 := (hgq.cell (p := ⟨_, _, none⟩) (by (try dsimp only) <;> omega)).trans qa3; replace hbW := Below.trans hbW (Below.mono hgq (by omega)))
        go_wp2_with fail
        go_ret
        refine ⟨ret_int ?_, hbW⟩
        rw [HRR.out]
        simp [ht]
    · by_cases ht : attrSort text = 0
      all_goals
        have f1 : (attrSort text == 0) = decide (attrSort text = 0) := rfl
        simp only [ht, decide_true, decide_false] at f1
        have HT := Lib.hid ht
        clear ht
        go_enter Try.func86, Try.ntmps86
        go_upto_region 1 with (fail)
        (obtain ⟨W, hWW, hbW, hzW, f1W, qfa⟩ := box1 w #[.int .i64 3, .int .i64 num, .string text, .slice A n c] 60; rw [← hWW]; have qa0 : W.cell? ⟨w.heap.size, 0, none⟩ = some (.int .i64 3) := f1W 0 _ rfl; have qa1 : W.cell? ⟨w.heap.size, 1, none⟩ = some (.int .i64 num) := f1W 1 _ rfl; have qa2 : W.cell? ⟨w.heap.size, 2, none⟩ = some (.string text) := f1W 2 _ rfl; have qa3 : W.cell? ⟨w.heap.size, 3, none⟩ = some (.slice A n c) := f1W 3 _ rfl; clear hWW f1W)
        ((with_reducible refine wp_region_class (Below W.heap.size W) ?_ ?_ ?_ ?_); kernel_rfl; kernel_rfl; (exact (Below.refl _ _).drew); (intro hnonemp); (have rz := fun z : Wd (Below W.heap.size W) => z.cells); (repeat (any_goals (first | go_big_quiet_step (((go_at_call 88; (refine (refarity_any _ _).mono ?_); rintro e w' ⟨rfl, rfl⟩; exact ⟨rfl, ⟨_, Wd.h _⟩, rfl⟩))) | (refine wpQuiet_step (fun K hK => ?_); go_simp; (first | (refine hK _ ?_; clear hK K) | (split <;> rename_i hg <;> (refine hK _ ?_; clear hK K) <;> (try simp only [Bool.not_eq_true] at hg) <;> (first | simp only [Int.not_lt.2 hg, decide_false] | simp only [Int.not_le.1 hg, decide_true] | simp only [hg, decide_true, decide_false] | skip)))))));  all_goals (refine wpQuiet_nil ?_; intro wq hgq))
        (have hzhgq := hgq.size; replace qa0 := (hgq.cell (p := ⟨_, _, none⟩) (by (try dsimp only) <;> omega)).trans qa0; replace qa1 := (hgq.cell (p := ⟨_, _, none⟩) (by (try dsimp only) <;> omega)).trans qa1; replace qa2 := (hgq.cell (p := ⟨_, _, none⟩) (by (try dsimp only) <;> omega)).trans qa2; replace qa3 := (hgq.cell (p := ⟨_, _, none⟩) (by (try dsimp only) <;> omega)).trans qa3; replace hbW := Below.trans hbW (Below.mono hgq (by omega)))
        go_wp2_with fail
        refine (refattr_any text _).mono ?_
        (try rw [HT.out])
        rintro e w5 ⟨rfl, hb5⟩
        have hbe := hbW.trans (hb5.mono hbW.size)
        go_wp2_with fail
        go_ret
        refine ⟨ret_int ?_, hbe⟩
        rw [HRR.out]
        simp [HT.out]
    · go_enter Try.func86, Try.ntmps86
      go_upto_region 1 with (fail)
      (obtain ⟨W, hWW, hbW, hzW, f1W, qfa⟩ := box1 w #[.int .i64 op, .int .i64 num, .string text, .slice A n c] 60; rw [← hWW]; have qa0 : W.cell? ⟨w.heap.size, 0, none⟩ = some (.int .i64 op) := f1W 0 _ rfl; have qa1 : W.cell? ⟨w.heap.size, 1, none⟩ = some (.int .i64 num) := f1W 1 _ rfl; have qa2 : W.cell? ⟨w.heap.size, 2, none⟩ = some (.string text) := f1W 2 _ rfl; have qa3 : W.cell? ⟨w.heap.size, 3, none⟩ = some (.slice A n c) := f1W 3 _ rfl; clear hWW f1W)
      ((with_reducible refine wp_region_class (Below W.heap.size W) ?_ ?_ ?_ ?_); kernel_rfl; kernel_rfl; (exact (Below.refl _ _).drew); (intro hnonemp); (have rz := fun z : Wd (Below W.heap.size W) => z.cells); (repeat (any_goals (first | go_big_quiet_step (((go_at_call 88; (refine (refarity_any _ _).mono ?_); rintro e w' ⟨rfl, rfl⟩; exact ⟨rfl, ⟨_, Wd.h _⟩, rfl⟩))) | (refine wpQuiet_step (fun K hK => ?_); go_simp; (first | (refine hK _ ?_; clear hK K) | (split <;> rename_i hg <;> (refine hK _ ?_; clear hK K) <;> (try simp only [Bool.not_eq_true] at hg) <;> (first | simp only [Int.not_lt.2 hg, decide_false] | simp only [Int.not_le.1 hg, decide_true] | simp only [hg, decide_true, decide_false] | skip)))))));  all_goals (refine wpQuiet_nil ?_; intro wq hgq))
      (have hzhgq := hgq.size; replace qa0 := (hgq.cell (p := ⟨_, _, none⟩) (by (try dsimp only) <;> omega)).trans qa0; replace qa1 := (hgq.cell (p := ⟨_, _, none⟩) (by (try dsimp only) <;> omega)).trans qa1; replace qa2 := (hgq.cell (p := ⟨_, _, none⟩) (by (try dsimp only) <;> omega)).trans qa2; replace qa3 := (hgq.cell (p := ⟨_, _, none⟩) (by (try dsimp only) <;> omega)).trans qa3; replace hbW := Below.trans hbW (Below.mono hgq (by omega)))
      go_wp2_with fail
      go_ret
      refine ⟨ret_int ?_, hbW⟩
      rw [HRR.out]
      simp at o1 o2 o3
      simp [o1, o2, o3]
  · have hq : ((arity op) != (n : Int)) = true := by rw [bne_iff_ne]; exact ha
    have HF : Hid (R = 7) := Lib.hid (by rw [← HR.out, ownE, if_pos (by simpa using ha)])
    clear ha HR
    go_enter Try.func86, Try.ntmps86
    go_upto_region 1 with (fail)
    (obtain ⟨W, hWW, hbW, hzW, f1W, qfa⟩ := box1 w #[.int .i64 op, .int .i64 num, .string text, .slice A n c] 60; rw [← hWW]; have qa0 : W.cell? ⟨w.heap.size, 0, none⟩ = some (.int .i64 op) := f1W 0 _ rfl; have qa1 : W.cell? ⟨w.heap.size, 1, none⟩ = some (.int .i64 num) := f1W 1 _ rfl; have qa2 : W.cell? ⟨w.heap.size, 2, none⟩ = some (.string text) := f1W 2 _ rfl; have qa3 : W.cell? ⟨w.heap.size, 3, none⟩ = some (.slice A n c) := f1W 3 _ rfl; clear hWW f1W)
    ((with_reducible refine wp_region_class (Below W.heap.size W) ?_ ?_ ?_ ?_); kernel_rfl; kernel_rfl; (exact (Below.refl _ _).drew); (intro hnonemp); (have rz := fun z : Wd (Below W.heap.size W) => z.cells); (repeat (any_goals (first | go_big_quiet_step (((go_at_call 88; (refine (refarity_any _ _).mono ?_); rintro e w' ⟨rfl, rfl⟩; exact ⟨rfl, ⟨_, Wd.h _⟩, rfl⟩))) | (refine wpQuiet_step (fun K hK => ?_); go_simp; (first | (refine hK _ ?_; clear hK K) | (split <;> rename_i hg <;> (refine hK _ ?_; clear hK K) <;> (try simp only [Bool.not_eq_true] at hg) <;> (first | simp only [Int.not_lt.2 hg, decide_false] | simp only [Int.not_le.1 hg, decide_true] | simp only [hg, decide_true, decide_false] | skip)))))));  all_goals (refine wpQuiet_nil ?_; intro wq hgq))
    (have hzhgq := hgq.size; replace qa0 := (hgq.cell (p := ⟨_, _, none⟩) (by (try dsimp only) <;> omega)).trans qa0; replace qa1 := (hgq.cell (p := ⟨_, _, none⟩) (by (try dsimp only) <;> omega)).trans qa1; replace qa2 := (hgq.cell (p := ⟨_, _, none⟩) (by (try dsimp only) <;> omega)).trans qa2; replace qa3 := (hgq.cell (p := ⟨_, _, none⟩) (by (try dsimp only) <;> omega)).trans qa3; replace hbW := Below.trans hbW (Below.mono hgq (by omega)))
    go_wp2_with fail
    go_ret
    exact ⟨ret_int HF.out.symm, hbW⟩

end Xp
end Go.Proofs.Ytdnnnajohdohaaa
