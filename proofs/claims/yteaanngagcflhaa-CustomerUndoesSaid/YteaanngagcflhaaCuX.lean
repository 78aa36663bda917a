/-
  Customers: Check. No condition.
-/
import Derived.Test.YteaanngagcflhaaCuW
import Derived.Test.YteaanngagcflhaaCuK
import Derived.Test.YteaanngagcflhaaCuE
import Derived.BigQuiet
import Derived.StillTailTactics
import Derived.Lib.Overlaps
import Derived.Deep.DeepCutAuto
import Derived.Deep.RegionWith
import Derived.Laws.RangeAny
set_option maxRecDepth 100000
set_option linter.unusedVariables false
set_option linter.unusedSimpArgs false
namespace Go.Proofs.Yteaanngagcflhaa
open Go.RowKit

namespace Cu
open Go.Maps
def SzOk (l : List Ev) : Prop := ∀ e ∈ l, e.num.size ≤ maxLen ∧ e.name.size ≤ maxLen
theorem formR_fit {e : Ev} {last : Int} (h : formR e last = 0) : (1 ≤ e.kind ∧ e.kind ≤ 15) ∧ (Lit.int .i64 e.acc).wf = true ∧ (Lit.int .i64 e.sub).wf = true := by
  have wf : ∀ z : Int, 0 ≤ z → z ≤ 9999 → (Lit.int .i64 z).wf = true := fun z h1 h2 => by
    show (decide (IntKind.i64.min ≤ z) && decide (z ≤ IntKind.i64.max)) = true
    have e1 : IntKind.i64.min = -9223372036854775808 := by decide
    have e2 : IntKind.i64.max = 9223372036854775807 := by decide
    rw [e1, e2]
    simp
    omega
  unfold formR at h
  split at h
  · omega
  split at h
  · omega
  split at h
  · omega
  unfold formT at h
  split at h
  · omega
  split at h
  · omega
  rename_i hk _ _ hf hi
  have hk' : 1 ≤ e.kind ∧ e.kind ≤ 15 := by omega
  have ha : 0 ≤ e.acc ∧ e.acc ≤ 9999 := by
    by_cases hu : uA e.kind = true
    · have : idB e.acc = true := by
        cases hb : idB e.acc with
        | true => rfl
        | false => exact absurd (by unfold idBad; simp [hu, hb]) hi
      unfold idB at this; simp at this; omega
    · have : e.acc = 0 := by
        by_cases h0 : e.acc = 0
        · exact h0
        · exact absurd (by unfold fldBad; simp [hu, h0]) hf
      omega
  have hs : 0 ≤ e.sub ∧ e.sub ≤ 9999 := by
    by_cases hu : uS e.kind = true
    · have : idB e.sub = true := by
        cases hb : idB e.sub with
        | true => rfl
        | false => exact absurd (by unfold idBad; simp [hu, hb]) hi
      unfold idB at this; simp at this; omega
    · have : e.sub = 0 := by
        by_cases h0 : e.sub = 0
        · exact h0
        · exact absurd (by unfold fldBad; simp [hu, h0]) hf
      omega
  exact ⟨hk', wf _ ha.1 ha.2, wf _ hs.1 hs.2⟩
theorem check_any (e : Ev) (B M NN : Nat) (k : Bl) (s : St) (w : World) (h : Rep w B M NN k s) (wa : (Lit.int .i64 e.acc).wf = true) (ws : (Lit.int .i64 e.sub).wf = true) (hnm : e.num.size ≤ maxLen) (h1 : 1 ≤ e.kind) (h15 : e.kind ≤ 15) :
    Calls Try.prog 70 #[.pointer (some ⟨k.p, 0, none⟩), .agg #[.int .i64 e.at_, .int .i64 e.kind, .int .i64 e.acc, .int .i64 e.sub, .string e.num, .string e.name, .int .i64 e.val]] w fun r w' => r = .returned (.int .i64 (checkP s e)) ∧ Below w.heap.size w w' := by
  obtain ⟨at_, K, acc, sub, num, name, val⟩ := e
  dsimp only at wa ws hnm h1 h15 ⊢
  have hK : K = 1 ∨ K = 2 ∨ K = 3 ∨ K = 14 ∨ K = 15 ∨ (4 ≤ K ∧ K ≤ 13) := by omega
  rcases hK with rfl | rfl | rfl | rfl | rfl | ⟨h4, h13⟩
  · exact check_1 at_ acc sub val num name B M NN k s w h wa ws hnm
  · exact check_2 at_ acc sub val num name B M NN k s w h wa ws hnm
  · exact check_3 at_ acc sub val num name B M NN k s w h wa ws hnm
  · exact check_14 at_ acc sub val num name B M NN k s w h wa ws hnm
  · exact check_15 at_ acc sub val num name B M NN k s w h wa ws hnm
  · exact check_sub at_ K acc sub val num name B M NN k s w h wa ws hnm h4 h13
theorem form_at (e : Ev) (w : World) (hn : e.num.size ≤ maxLen) (hm : e.name.size ≤ maxLen) :
    Calls Try.prog 69 #[.agg #[.int .i64 e.at_, .int .i64 e.kind, .int .i64 e.acc, .int .i64 e.sub, .string e.num, .string e.name, .int .i64 e.val]] w fun r w' => r = .returned (.int .i64 (formP e)) ∧ Below w.heap.size w w' := form_any e w hn hm (fun W => cname_any e.name W hm)
theorem fltN_at {l : List Ev} {k : Nat} {e : Ev} (he : l[k]? = some e) : fltN l k = faultR (bkN l k) e (lastN l k) := by unfold fltN; rw [he]
theorem lastN_succ {l : List Ev} {k : Nat} {e : Ev} (he : l[k]? = some e) : lastN l (k + 1) = e.at_ := by unfold lastN; simp [he]
theorem flt_form {l : List Ev} {k : Nat} {e : Ev} (he : l[k]? = some e) (h : formR e (lastN l k) ≠ 0) : fltN l k = formR e (lastN l k) := by rw [fltN_at he]; unfold faultR; rw [if_pos h]
theorem flt_check {l : List Ev} {k : Nat} {e : Ev} (he : l[k]? = some e) (hk : k ≤ l.length) (h0 : ∀ j, j < k → fltN l j = 0) (h : formR e (lastN l k) = 0) : fltN l k = checkP (stN l k) e := by
  obtain ⟨hi, hb⟩ := inv_upto k hk h0
  obtain ⟨⟨k1, k15⟩, _⟩ := formR_fit h
  rw [fltN_at he, check_eq hi hb e k1 k15]
  unfold faultR
  rw [if_neg (by omega)]
theorem Check_any (A : Option Addr) (n c : Nat) (l : List Ev) (w : World) (hs : Sl w A n c l) (hsz : SzOk l) :
    Calls Try.prog 23 #[.slice A n c] w fun r w' => r = .returned (.tuple #[.int .i64 (chkL l).1, .int .i64 (chkL l).2]) ∧ Below w.heap.size w w' := by
  have HS := Lib.hid hs
  have HZ := Lib.hid hsz
  have hln := hs.len
  have hnm := hs.nmax
  clear hs hsz
  by_cases hlong : 4096 < n
  · have hq : (4096 : Int) < (n : Int) := by omega
    have HQ := Lib.hid (chkL_long (l := l) (by omega))
    go_enter Try.func23, Try.ntmps23
    go_wp2_with fail
    go_ret2
    exact ⟨by rw [HQ.out]; rfl, Below.refl _ _⟩
  · have hq : ¬ (4096 : Int) < (n : Int) := by omega
    go_enter Try.func23, Try.ntmps23
    go_wp2_with (go_at_call 68; go_must (refine (begin_any _).mono ?_; rintro r w4 ⟨k, rfl, hrep, hb4⟩; have HR4 := Lib.hid hrep; have HB4 := Lib.hid hb4; have hs4 := hb4.size; clear hrep hb4))
    obtain ⟨M, hM⟩ : ∃ M, M = w4.heap.size := ⟨_, rfl⟩
    replace HR4 := Lib.hid (show Rep w4 w.heap.size M 0 k st0 by rw [hM]; exact HR4.out)
    go_loopw [14] (fun i wr => ∃ j : Nat, j ≤ n ∧ i = .int .i64 j ∧ Rep wr w.heap.size M (4 * j) k (stN l j) ∧ Below w.heap.size w wr ∧ ∀ m, m < j → fltN l m = 0) (fun i _ => n - (intOf i).toNat)
    case atStart =>
      exact ⟨0, Nat.zero_le _, rfl, HR4.out, HB4.out, fun m hm => absurd hm (Nat.not_lt_zero _)⟩
    case round =>
      obtain ⟨j, hj, rfl, hrep, hbr, hz⟩ := hrel
      have HRr := Lib.hid hrep
      have HZr := Lib.hid hz
      clear hrep hz
      by_cases hlt : j < n
      · obtain ⟨b, off, hAe, hbl, hcells⟩ := HS.out.baseIn hbr (by omega)
        obtain ⟨e, he⟩ := HS.out.get hlt
        have hes := HZ.out e (List.mem_of_getElem? he)
        have hbl2 : b < wr.heap.size := Nat.lt_of_lt_of_le hbl hbr.size
        have hbw : b < w.heap.size := hbl
        have c0 : wr.cell? ⟨b, off + j * 7, none⟩ = some (.int .i64 e.at_) := Sl.at_ hcells he 0 rfl
        have c1 : wr.cell? ⟨b, off + j * 7 + 1, none⟩ = some (.int .i64 e.kind) := Sl.at_ hcells he 1 rfl
        have c2 : wr.cell? ⟨b, off + j * 7 + 2, none⟩ = some (.int .i64 e.acc) := Sl.at_ hcells he 2 rfl
        have c3 : wr.cell? ⟨b, off + j * 7 + 3, none⟩ = some (.int .i64 e.sub) := Sl.at_ hcells he 3 rfl
        have c4 : wr.cell? ⟨b, off + j * 7 + 4, none⟩ = some (.string e.num) := Sl.at_ hcells he 4 rfl
        have c5 : wr.cell? ⟨b, off + j * 7 + 5, none⟩ = some (.string e.name) := Sl.at_ hcells he 5 rfl
        have c6 : wr.cell? ⟨b, off + j * 7 + 6, none⟩ = some (.int .i64 e.val) := Sl.at_ hcells he 6 rfl
        have HC := Lib.hid hcells
        clear hcells
        subst hAe
        go_upto_region 7 with (fail)
        (obtain ⟨V, hWV, hbV, hzV, f1V, qfa⟩ := box1 wr #[.int .i64 e.at_, .int .i64 e.kind, .int .i64 e.acc, .int .i64 e.sub, .string e.num, .string e.name, .int .i64 e.val] 36; rw [← hWV]; have qa0 : V.cell? ⟨wr.heap.size, 0, none⟩ = some (.int .i64 e.at_) := f1V 0 _ rfl; have qa1 : V.cell? ⟨wr.heap.size, 1, none⟩ = some (.int .i64 e.kind) := f1V 1 _ rfl; have qa2 : V.cell? ⟨wr.heap.size, 2, none⟩ = some (.int .i64 e.acc) := f1V 2 _ rfl; have qa3 : V.cell? ⟨wr.heap.size, 3, none⟩ = some (.int .i64 e.sub) := f1V 3 _ rfl; have qa4 : V.cell? ⟨wr.heap.size, 4, none⟩ = some (.string e.num) := f1V 4 _ rfl; have qa5 : V.cell? ⟨wr.heap.size, 5, none⟩ = some (.string e.name) := f1V 5 _ rfl; have qa6 : V.cell? ⟨wr.heap.size, 6, none⟩ = some (.int .i64 e.val) := f1V 6 _ rfl; clear hWV f1V)
        have hbwV : Below w.heap.size w V := hbr.trans (hbV.mono hbr.size)
        have hgV : wr.heap.size < V.heap.size := hzV
        have hbV2 : b < V.heap.size := by omega
        replace HRr := Lib.hid (HRr.out.below hbV)
        clear hzV qfa c0 c1 c2 c3 c4 c5 c6
        obtain ⟨x, hx⟩ : ∃ x, formP e = x := ⟨_, rfl⟩
        have HX := Lib.hid hx
        clear hx
        go_upto_region 8 with (go_at_call 69; go_must (refine (form_at e _ hes.1 hes.2).mono ?_; rintro r w5 ⟨rfl, hb5⟩; rw [HX.out]; have hbw5 : Below w.heap.size w w5 := hbwV.trans (hb5.mono hbwV.size); have HR5 := Lib.hid (HRr.out.below hb5); have hb45 : Below wr.heap.size wr w5 := hbV.trans (hb5.mono hbV.size); have hg5 : wr.heap.size < w5.heap.size := Nat.lt_of_lt_of_le hgV hb5.size; have zq0 := (hb5.cell (p := ⟨wr.heap.size, 0, none⟩) hgV).trans qa0; have zq1 := (hb5.cell (p := ⟨wr.heap.size, 1, none⟩) hgV).trans qa1; have zq2 := (hb5.cell (p := ⟨wr.heap.size, 2, none⟩) hgV).trans qa2; have zq3 := (hb5.cell (p := ⟨wr.heap.size, 3, none⟩) hgV).trans qa3; have zq4 := (hb5.cell (p := ⟨wr.heap.size, 4, none⟩) hgV).trans qa4; have zq5 := (hb5.cell (p := ⟨wr.heap.size, 5, none⟩) hgV).trans qa5; have zq6 := (hb5.cell (p := ⟨wr.heap.size, 6, none⟩) hgV).trans qa6; clear hb5))
        clear hbwV hgV hbV2 hbV HRr qa0 qa1 qa2 qa3 qa4 qa5 qa6
        by_cases hj0 : j = 0
        · have hj9 : ¬ 0 < j := by omega
          have HF := Lib.hid (show formR e (lastN l j) = x by rw [← HX.out, form_first, hj0]; rfl)
          clear hj0
          go_upto_region 8 with (fail)
          have hb5 : b < w5.heap.size := by omega
          refine wp_region_held_drew (S := fun w' => Below w5.heap.size w5 w') (by kernel_rfl) ((Below.refl _ _).drew) (fun hHeld => ?_)
          refine tk 0 (v := ?_) ?_ ?_
          rotate_left
          · intro w' hSw; go_simp; (try with_reducible rfl)
          refine tk 1 (v := ?_) ?_ ?_
          rotate_left
          · intro w' hSw; go_simp; (try with_reducible rfl)
          refine tk 2 (v := ?_) ?_ ?_
          rotate_left
          · intro w' hSw; go_simp; (try with_reducible rfl)
          (try simp only [List.getElem_toArray, List.getElem_cons_succ, List.getElem_cons_zero, Act.put, List.setIfInBounds_toArray, List.set_cons_zero, List.set_cons_succ])
          refine tko 3 ?_
          (try simp only [List.getElem_toArray, List.getElem_cons_succ, List.getElem_cons_zero, Act.put, List.setIfInBounds_toArray, List.set_cons_zero, List.set_cons_succ])
          refine tko 4 ?_
          refine tk 5 (v := ?_) ?_ ?_
          rotate_left
          · intro w' hSw; go_simp; (try with_reducible rfl)
          refine tk 6 (v := ?_) ?_ ?_
          rotate_left
          · intro w' hSw; go_simp; (try with_reducible rfl)
          (try simp only [List.getElem_toArray, List.getElem_cons_succ, List.getElem_cons_zero, Act.put, List.setIfInBounds_toArray, List.set_cons_zero, List.set_cons_succ])
          refine tko 7 ?_
          (try simp only [List.getElem_toArray, List.getElem_cons_succ, List.getElem_cons_zero, Act.put, List.setIfInBounds_toArray, List.set_cons_zero, List.set_cons_succ])
          refine tko 8 ?_
          refine tk 9 (v := ?_) ?_ ?_
          rotate_left
          · intro w' hSw; go_simp; (try with_reducible rfl)
          refine tk 10 (v := ?_) ?_ ?_
          rotate_left
          · intro w' hSw; go_simp; (try with_reducible rfl)
          (try simp only [List.getElem_toArray, List.getElem_cons_succ, List.getElem_cons_zero, Act.put, List.setIfInBounds_toArray, List.set_cons_zero, List.set_cons_succ])
          refine tko 11 ?_
          (try simp only [List.getElem_toArray, List.getElem_cons_succ, List.getElem_cons_zero, Act.put, List.setIfInBounds_toArray, List.set_cons_zero, List.set_cons_succ])
          refine tko 12 ?_
          (try simp only [List.getElem_toArray, List.getElem_cons_succ, List.getElem_cons_zero, Act.put, List.setIfInBounds_toArray, List.set_cons_zero, List.set_cons_succ])
          refine tko 13 ?_
          (try simp only [List.getElem_toArray, List.getElem_cons_succ, List.getElem_cons_zero, Act.put, List.setIfInBounds_toArray, List.set_cons_zero, List.set_cons_succ])
          refine tko 14 ?_
          (try simp only [List.getElem_toArray, List.getElem_cons_succ, List.getElem_cons_zero, Act.put, List.setIfInBounds_toArray, List.set_cons_zero, List.set_cons_succ])
          refine tko 15 ?_
          (try simp only [List.getElem_toArray, List.getElem_cons_succ, List.getElem_cons_zero, Act.put, List.setIfInBounds_toArray, List.set_cons_zero, List.set_cons_succ])
          refine tko 16 ?_
          (try simp only [List.getElem_toArray, List.getElem_cons_succ, List.getElem_cons_zero, Act.put, List.setIfInBounds_toArray, List.set_cons_zero, List.set_cons_succ])
          refine tko 17 ?_
          (try simp only [List.getElem_toArray, List.getElem_cons_succ, List.getElem_cons_zero, Act.put, List.setIfInBounds_toArray, List.set_cons_zero, List.set_cons_succ])
          refine tko 18 ?_
          (try simp only [List.getElem_toArray, List.getElem_cons_succ, List.getElem_cons_zero, Act.put, List.setIfInBounds_toArray, List.set_cons_zero, List.set_cons_succ])
          refine tko 19 ?_
          refine tk 20 (v := ?_) ?_ ?_
          rotate_left
          · intro w' hSw; go_simp; (try with_reducible rfl)
          (try simp only [List.getElem_toArray, List.getElem_cons_succ, List.getElem_cons_zero, Act.put, List.setIfInBounds_toArray, List.set_cons_zero, List.set_cons_succ])
          refine wpAnyH_done (by kernel_rfl) ?_ _
          (try simp only [List.getElem_toArray, List.getElem_cons_succ, List.getElem_cons_zero, Act.put, List.setIfInBounds_toArray, List.set_cons_zero, List.set_cons_succ])
          have hbD := (Below.refl w5.heap.size w5).drew
          clear hHeld
          replace HR5 := Lib.hid (HR5.out.below hbD)
          replace hbw5 := hbw5.trans (hbD.mono hbw5.size)
          replace zq0 := (hbD.cell (p := ⟨wr.heap.size, 0, none⟩) hg5).trans zq0
          replace zq1 := (hbD.cell (p := ⟨wr.heap.size, 1, none⟩) hg5).trans zq1
          replace zq2 := (hbD.cell (p := ⟨wr.heap.size, 2, none⟩) hg5).trans zq2
          replace zq3 := (hbD.cell (p := ⟨wr.heap.size, 3, none⟩) hg5).trans zq3
          replace zq4 := (hbD.cell (p := ⟨wr.heap.size, 4, none⟩) hg5).trans zq4
          replace zq5 := (hbD.cell (p := ⟨wr.heap.size, 5, none⟩) hg5).trans zq5
          replace zq6 := (hbD.cell (p := ⟨wr.heap.size, 6, none⟩) hg5).trans zq6
          replace hg5 : wr.heap.size < w5.drew.heap.size := Nat.lt_of_lt_of_le hg5 hbD.size
          obtain ⟨w6, hw6⟩ : ∃ w6, w6 = w5.drew := ⟨_, rfl⟩
          rw [← hw6] at zq0 zq1 zq2 zq3 zq4 zq5 zq6 HR5 hbw5 hg5 ⊢
          clear hw6 hbD hb5 hb45
          by_cases x0 : x = 0
          · obtain ⟨⟨k1, k15⟩, wa, ws⟩ := formR_fit (HF.out.trans x0)
            obtain ⟨y, hy⟩ : ∃ y, checkP (stN l j) e = y := ⟨_, rfl⟩
            have HY := Lib.hid hy
            clear hy
            have HFL := Lib.hid (show fltN l j = y by rw [flt_check he (by omega) HZr.out (HF.out.trans x0), HY.out])
            go_upto_region 12 with (go_at_call 70; go_must (refine (check_any e _ M (4 * j) k (stN l j) _ HR5.out wa ws hes.1 k1 k15).mono ?_; rintro r w8 ⟨rfl, hb6⟩; rw [HY.out]; have HR6 := Lib.hid (HR5.out.below hb6); have hbw6 : Below w.heap.size w w8 := hbw5.trans (hb6.mono hbw5.size); have hg6 : wr.heap.size < w8.heap.size := Nat.lt_of_lt_of_le hg5 hb6.size; have qa0 := (hb6.cell (p := ⟨wr.heap.size, 0, none⟩) hg5).trans zq0; have qa1 := (hb6.cell (p := ⟨wr.heap.size, 1, none⟩) hg5).trans zq1; have qa2 := (hb6.cell (p := ⟨wr.heap.size, 2, none⟩) hg5).trans zq2; have qa3 := (hb6.cell (p := ⟨wr.heap.size, 3, none⟩) hg5).trans zq3; have qa4 := (hb6.cell (p := ⟨wr.heap.size, 4, none⟩) hg5).trans zq4; have qa5 := (hb6.cell (p := ⟨wr.heap.size, 5, none⟩) hg5).trans zq5; have qa6 := (hb6.cell (p := ⟨wr.heap.size, 6, none⟩) hg5).trans zq6; clear hb6))
            clear zq0 zq1 zq2 zq3 zq4 zq5 zq6
            by_cases y0 : y = 0
            · go_wp2_with (go_at_call 71; go_must (refine (apply_any e.at_ e.kind e.acc e.sub e.val e.num e.name w.heap.size M (4 * j) k (stN l j) _ HR6.out wa ws hes.1 (by omega) k1 k15).mono ?_; rintro r w7 ⟨⟨u, rfl⟩, hr7, ht7⟩; have HR7 := Lib.hid hr7; have hbw7 : Below w.heap.size w w7 := hbw6.trans ht7.1; clear hr7 ht7))
              go_roundw
              case rel =>
                refine ⟨j + 1, by omega, by go_num, ?_, hbw7, fun m hm => ?_⟩
                · rw [stN_succ he]; exact HR7.out
                · by_cases hmj : m = j
                  · rw [hmj, HFL.out]; exact y0
                  · exact HZr.out m (by omega)
              case measure => simp [intOf]; omega
            · go_wp2_with fail
              go_ret2
              exact ⟨by rw [chkL_bad (by omega) (by omega) HZr.out (by rw [HFL.out]; exact y0), HFL.out]; rfl, hbw6⟩
          · go_wp2_with fail
            go_ret2
            have hf := flt_form he (by rw [HF.out]; omega)
            exact ⟨by rw [chkL_bad (by omega) (by omega) HZr.out (by rw [hf, HF.out]; omega), hf, HF.out]; rfl, hbw5⟩
        · obtain ⟨m, hm⟩ : ∃ m, j = m + 1 := ⟨j - 1, by omega⟩
          obtain ⟨p, hp⟩ := HS.out.get (show m < n by omega)
          have p0 : wr.cell? ⟨b, off + m * 7, none⟩ = some (.int .i64 p.at_) := Sl.at_ HC.out hp 0 rfl
          replace p0 := (hb45.cell (p := ⟨b, off + m * 7, none⟩) hbl2).trans p0
          have hlast : lastN l j = p.at_ := by rw [hm]; exact lastN_succ hp
          have HE := Lib.hid (form_eq e p.at_)
          have hj1 : 0 < j := by omega
          have hj2 : IntKind.i64.wrap ((j : Int) - 1) = (m : Int) := by rw [IntWalk.i64_in _ (by omega)]; omega
          have hmn : m < n := by omega
          clear hm hp
          by_cases hlt2 : x ≠ 7 ∧ x ≠ 15 ∧ e.at_ < p.at_
          · obtain ⟨x7, x15, hless⟩ := hlt2
            have HF := Lib.hid (show formR e (lastN l j) = 9 by rw [hlast, ← HE.out, HX.out, if_pos ⟨x7, x15, hless⟩])
            clear HE hlast
            have b7 : (x != 7) = true := by simp [x7]
            have b15 : (x != 15) = true := by simp [x15]
            go_upto_region 8 with (fail)
            have hb5 : b < w5.heap.size := by omega
            refine wp_region_held_drew (S := fun w' => Below w5.heap.size w5 w') (by kernel_rfl) ((Below.refl _ _).drew) (fun hHeld => ?_)
            refine tk 0 (v := ?_) ?_ ?_
            rotate_left
            · intro w' hSw; go_simp; (try with_reducible rfl)
            refine tk 1 (v := ?_) ?_ ?_
            rotate_left
            · intro w' hSw; go_simp; (try with_reducible rfl)
            refine tk 2 (v := ?_) ?_ ?_
            rotate_left
            · intro w' hSw; go_simp; (try with_reducible rfl)
            (try simp only [List.getElem_toArray, List.getElem_cons_succ, List.getElem_cons_zero, Act.put, List.setIfInBounds_toArray, List.set_cons_zero, List.set_cons_succ])
            refine tk 3 (v := ?_) ?_ ?_
            rotate_left
            · intro w' hSw; go_simp; (try with_reducible rfl)
            (try simp only [List.getElem_toArray, List.getElem_cons_succ, List.getElem_cons_zero, Act.put, List.setIfInBounds_toArray, List.set_cons_zero, List.set_cons_succ])
            refine tk 4 (v := ?_) ?_ ?_
            rotate_left
            · intro w' hSw; go_simp; (try with_reducible rfl)
            refine tk 5 (v := ?_) ?_ ?_
            rotate_left
            · intro w' hSw; go_simp; (try with_reducible rfl)
            refine tk 6 (v := ?_) ?_ ?_
            rotate_left
            · intro w' hSw; go_simp; (try with_reducible rfl)
            (try simp only [List.getElem_toArray, List.getElem_cons_succ, List.getElem_cons_zero, Act.put, List.setIfInBounds_toArray, List.set_cons_zero, List.set_cons_succ])
            refine tk 7 (v := ?_) ?_ ?_
            rotate_left
            · intro w' hSw; go_simp; (try with_reducible rfl)
            (try simp only [List.getElem_toArray, List.getElem_cons_succ, List.getElem_cons_zero, Act.put, List.setIfInBounds_toArray, List.set_cons_zero, List.set_cons_succ])
            refine tk 8 (v := ?_) ?_ ?_
            rotate_left
            · intro w' hSw; go_simp; (try with_reducible rfl)
            refine tk 9 (v := ?_) ?_ ?_
            rotate_left
            · intro w' hSw; go_simp; (try with_reducible rfl)
            refine tk 10 (v := ?_) ?_ ?_
            rotate_left
            · intro w' hSw; go_simp; (try with_reducible rfl)
            (try simp only [List.getElem_toArray, List.getElem_cons_succ, List.getElem_cons_zero, Act.put, List.setIfInBounds_toArray, List.set_cons_zero, List.set_cons_succ])
            refine tk 11 (v := ?_) ?_ ?_
            rotate_left
            · intro w' hSw; go_simp; (try with_reducible rfl)
            (try simp only [List.getElem_toArray, List.getElem_cons_succ, List.getElem_cons_zero, Act.put, List.setIfInBounds_toArray, List.set_cons_zero, List.set_cons_succ])
            refine tk 12 (v := ?_) ?_ ?_
            rotate_left
            · intro w' hSw; have ze0 := (hSw.cell (p := ⟨wr.heap.size, 0, none⟩) hg5).trans zq0; have zp0 := (hSw.cell (p := ⟨b, off + m * 7, none⟩) hb5).trans p0; go_simp; (try with_reducible rfl)
            (try simp only [List.getElem_toArray, List.getElem_cons_succ, List.getElem_cons_zero, Act.put, List.setIfInBounds_toArray, List.set_cons_zero, List.set_cons_succ])
            refine tk 13 (v := ?_) ?_ ?_
            rotate_left
            · intro w' hSw; go_simp; (try with_reducible rfl)
            (try simp only [List.getElem_toArray, List.getElem_cons_succ, List.getElem_cons_zero, Act.put, List.setIfInBounds_toArray, List.set_cons_zero, List.set_cons_succ])
            refine tk 14 (v := ?_) ?_ ?_
            rotate_left
            · intro w' hSw; go_simp; (try with_reducible rfl)
            (try simp only [List.getElem_toArray, List.getElem_cons_succ, List.getElem_cons_zero, Act.put, List.setIfInBounds_toArray, List.set_cons_zero, List.set_cons_succ])
            refine tk 15 (v := ?_) ?_ ?_
            rotate_left
            · intro w' hSw; go_simp; (try with_reducible rfl)
            (try simp only [List.getElem_toArray, List.getElem_cons_succ, List.getElem_cons_zero, Act.put, List.setIfInBounds_toArray, List.set_cons_zero, List.set_cons_succ])
            refine tk 16 (v := ?_) ?_ ?_
            rotate_left
            · intro w' hSw; go_simp; (try with_reducible rfl)
            (try simp only [List.getElem_toArray, List.getElem_cons_succ, List.getElem_cons_zero, Act.put, List.setIfInBounds_toArray, List.set_cons_zero, List.set_cons_succ])
            refine tk 17 (v := ?_) ?_ ?_
            rotate_left
            · intro w' hSw; go_simp; (try with_reducible rfl)
            (try simp only [List.getElem_toArray, List.getElem_cons_succ, List.getElem_cons_zero, Act.put, List.setIfInBounds_toArray, List.set_cons_zero, List.set_cons_succ])
            refine tk 18 (v := ?_) ?_ ?_
            rotate_left
            · intro w' hSw; have ze0 := (hSw.cell (p := ⟨wr.heap.size, 0, none⟩) hg5).trans zq0; have zp0 := (hSw.cell (p := ⟨b, off + m * 7, none⟩) hb5).trans p0; go_simp; (try with_reducible rfl)
            (try simp only [List.getElem_toArray, List.getElem_cons_succ, List.getElem_cons_zero, Act.put, List.setIfInBounds_toArray, List.set_cons_zero, List.set_cons_succ])
            refine tk 19 (v := ?_) ?_ ?_
            rotate_left
            · intro w' hSw; go_simp; (try with_reducible rfl)
            refine tk 20 (v := ?_) ?_ ?_
            rotate_left
            · intro w' hSw; go_simp; (try with_reducible rfl)
            (try simp only [List.getElem_toArray, List.getElem_cons_succ, List.getElem_cons_zero, Act.put, List.setIfInBounds_toArray, List.set_cons_zero, List.set_cons_succ])
            refine wpAnyH_done (by kernel_rfl) ?_ _
            (try simp only [List.getElem_toArray, List.getElem_cons_succ, List.getElem_cons_zero, Act.put, List.setIfInBounds_toArray, List.set_cons_zero, List.set_cons_succ])
            have hbD := (Below.refl w5.heap.size w5).drew
            clear hHeld
            replace HR5 := Lib.hid (HR5.out.below hbD)
            replace hbw5 := hbw5.trans (hbD.mono hbw5.size)
            replace zq0 := (hbD.cell (p := ⟨wr.heap.size, 0, none⟩) hg5).trans zq0
            replace zq1 := (hbD.cell (p := ⟨wr.heap.size, 1, none⟩) hg5).trans zq1
            replace zq2 := (hbD.cell (p := ⟨wr.heap.size, 2, none⟩) hg5).trans zq2
            replace zq3 := (hbD.cell (p := ⟨wr.heap.size, 3, none⟩) hg5).trans zq3
            replace zq4 := (hbD.cell (p := ⟨wr.heap.size, 4, none⟩) hg5).trans zq4
            replace zq5 := (hbD.cell (p := ⟨wr.heap.size, 5, none⟩) hg5).trans zq5
            replace zq6 := (hbD.cell (p := ⟨wr.heap.size, 6, none⟩) hg5).trans zq6
            replace hg5 : wr.heap.size < w5.drew.heap.size := Nat.lt_of_lt_of_le hg5 hbD.size
            obtain ⟨w6, hw6⟩ : ∃ w6, w6 = w5.drew := ⟨_, rfl⟩
            rw [← hw6] at zq0 zq1 zq2 zq3 zq4 zq5 zq6 HR5 hbw5 hg5 ⊢
            clear hw6 hbD hb5 hb45 p0
            go_wp2_with fail
            go_ret2
            have hf := flt_form he (by rw [HF.out]; omega)
            exact ⟨by rw [chkL_bad (by omega) (by omega) HZr.out (by rw [hf, HF.out]; omega), hf, HF.out]; rfl, hbw5⟩
          · have HF := Lib.hid (show formR e (lastN l j) = x by rw [hlast, ← HE.out, HX.out, if_neg hlt2])
            clear HE hlast
            by_cases x7 : x = 7
            · have x0 : ¬ x = 0 := by omega
              have b7 : (x != 7) = false := by simp [x7]
              clear x7 hlt2
              go_upto_region 8 with (fail)
              have hb5 : b < w5.heap.size := by omega
              refine wp_region_held_drew (S := fun w' => Below w5.heap.size w5 w') (by kernel_rfl) ((Below.refl _ _).drew) (fun hHeld => ?_)
              refine tk 0 (v := ?_) ?_ ?_
              rotate_left
              · intro w' hSw; go_simp; (try with_reducible rfl)
              refine tk 1 (v := ?_) ?_ ?_
              rotate_left
              · intro w' hSw; go_simp; (try with_reducible rfl)
              refine tk 2 (v := ?_) ?_ ?_
              rotate_left
              · intro w' hSw; go_simp; (try with_reducible rfl)
              (try simp only [List.getElem_toArray, List.getElem_cons_succ, List.getElem_cons_zero, Act.put, List.setIfInBounds_toArray, List.set_cons_zero, List.set_cons_succ])
              refine tk 3 (v := ?_) ?_ ?_
              rotate_left
              · intro w' hSw; go_simp; (try with_reducible rfl)
              (try simp only [List.getElem_toArray, List.getElem_cons_succ, List.getElem_cons_zero, Act.put, List.setIfInBounds_toArray, List.set_cons_zero, List.set_cons_succ])
              refine tk 4 (v := ?_) ?_ ?_
              rotate_left
              · intro w' hSw; go_simp; (try with_reducible rfl)
              refine tk 5 (v := ?_) ?_ ?_
              rotate_left
              · intro w' hSw; go_simp; (try with_reducible rfl)
              refine tk 6 (v := ?_) ?_ ?_
              rotate_left
              · intro w' hSw; go_simp; (try with_reducible rfl)
              (try simp only [List.getElem_toArray, List.getElem_cons_succ, List.getElem_cons_zero, Act.put, List.setIfInBounds_toArray, List.set_cons_zero, List.set_cons_succ])
              refine tko 7 ?_
              (try simp only [List.getElem_toArray, List.getElem_cons_succ, List.getElem_cons_zero, Act.put, List.setIfInBounds_toArray, List.set_cons_zero, List.set_cons_succ])
              refine tko 8 ?_
              refine tk 9 (v := ?_) ?_ ?_
              rotate_left
              · intro w' hSw; go_simp; (try with_reducible rfl)
              refine tk 10 (v := ?_) ?_ ?_
              rotate_left
              · intro w' hSw; go_simp; (try with_reducible rfl)
              (try simp only [List.getElem_toArray, List.getElem_cons_succ, List.getElem_cons_zero, Act.put, List.setIfInBounds_toArray, List.set_cons_zero, List.set_cons_succ])
              refine tko 11 ?_
              (try simp only [List.getElem_toArray, List.getElem_cons_succ, List.getElem_cons_zero, Act.put, List.setIfInBounds_toArray, List.set_cons_zero, List.set_cons_succ])
              refine tko 12 ?_
              (try simp only [List.getElem_toArray, List.getElem_cons_succ, List.getElem_cons_zero, Act.put, List.setIfInBounds_toArray, List.set_cons_zero, List.set_cons_succ])
              refine tko 13 ?_
              (try simp only [List.getElem_toArray, List.getElem_cons_succ, List.getElem_cons_zero, Act.put, List.setIfInBounds_toArray, List.set_cons_zero, List.set_cons_succ])
              refine tko 14 ?_
              (try simp only [List.getElem_toArray, List.getElem_cons_succ, List.getElem_cons_zero, Act.put, List.setIfInBounds_toArray, List.set_cons_zero, List.set_cons_succ])
              refine tko 15 ?_
              (try simp only [List.getElem_toArray, List.getElem_cons_succ, List.getElem_cons_zero, Act.put, List.setIfInBounds_toArray, List.set_cons_zero, List.set_cons_succ])
              refine tko 16 ?_
              (try simp only [List.getElem_toArray, List.getElem_cons_succ, List.getElem_cons_zero, Act.put, List.setIfInBounds_toArray, List.set_cons_zero, List.set_cons_succ])
              refine tko 17 ?_
              (try simp only [List.getElem_toArray, List.getElem_cons_succ, List.getElem_cons_zero, Act.put, List.setIfInBounds_toArray, List.set_cons_zero, List.set_cons_succ])
              refine tko 18 ?_
              (try simp only [List.getElem_toArray, List.getElem_cons_succ, List.getElem_cons_zero, Act.put, List.setIfInBounds_toArray, List.set_cons_zero, List.set_cons_succ])
              refine tko 19 ?_
              refine tk 20 (v := ?_) ?_ ?_
              rotate_left
              · intro w' hSw; go_simp; (try with_reducible rfl)
              (try simp only [List.getElem_toArray, List.getElem_cons_succ, List.getElem_cons_zero, Act.put, List.setIfInBounds_toArray, List.set_cons_zero, List.set_cons_succ])
              refine wpAnyH_done (by kernel_rfl) ?_ _
              (try simp only [List.getElem_toArray, List.getElem_cons_succ, List.getElem_cons_zero, Act.put, List.setIfInBounds_toArray, List.set_cons_zero, List.set_cons_succ])
              have hbD := (Below.refl w5.heap.size w5).drew
              clear hHeld
              replace HR5 := Lib.hid (HR5.out.below hbD)
              replace hbw5 := hbw5.trans (hbD.mono hbw5.size)
              replace zq0 := (hbD.cell (p := ⟨wr.heap.size, 0, none⟩) hg5).trans zq0
              replace zq1 := (hbD.cell (p := ⟨wr.heap.size, 1, none⟩) hg5).trans zq1
              replace zq2 := (hbD.cell (p := ⟨wr.heap.size, 2, none⟩) hg5).trans zq2
              replace zq3 := (hbD.cell (p := ⟨wr.heap.size, 3, none⟩) hg5).trans zq3
              replace zq4 := (hbD.cell (p := ⟨wr.heap.size, 4, none⟩) hg5).trans zq4
              replace zq5 := (hbD.cell (p := ⟨wr.heap.size, 5, none⟩) hg5).trans zq5
              replace zq6 := (hbD.cell (p := ⟨wr.heap.size, 6, none⟩) hg5).trans zq6
              replace hg5 : wr.heap.size < w5.drew.heap.size := Nat.lt_of_lt_of_le hg5 hbD.size
              obtain ⟨w6, hw6⟩ : ∃ w6, w6 = w5.drew := ⟨_, rfl⟩
              rw [← hw6] at zq0 zq1 zq2 zq3 zq4 zq5 zq6 HR5 hbw5 hg5 ⊢
              clear hw6 hbD hb5 hb45
              go_wp2_with fail
              go_ret2
              have hf := flt_form he (by rw [HF.out]; omega)
              exact ⟨by rw [chkL_bad (by omega) (by omega) HZr.out (by rw [hf, HF.out]; omega), hf, HF.out]; rfl, hbw5⟩
            · by_cases x15 : x = 15
              · have x0 : ¬ x = 0 := by omega
                have b7 : (x != 7) = true := by simp [x7]
                have b15 : (x != 15) = false := by simp [x15]
                clear x7 x15 hlt2
                go_upto_region 8 with (fail)
                have hb5 : b < w5.heap.size := by omega
                refine wp_region_held_drew (S := fun w' => Below w5.heap.size w5 w') (by kernel_rfl) ((Below.refl _ _).drew) (fun hHeld => ?_)
                refine tk 0 (v := ?_) ?_ ?_
                rotate_left
                · intro w' hSw; go_simp; (try with_reducible rfl)
                refine tk 1 (v := ?_) ?_ ?_
                rotate_left
                · intro w' hSw; go_simp; (try with_reducible rfl)
                refine tk 2 (v := ?_) ?_ ?_
                rotate_left
                · intro w' hSw; go_simp; (try with_reducible rfl)
                (try simp only [List.getElem_toArray, List.getElem_cons_succ, List.getElem_cons_zero, Act.put, List.setIfInBounds_toArray, List.set_cons_zero, List.set_cons_succ])
                refine tk 3 (v := ?_) ?_ ?_
                rotate_left
                · intro w' hSw; go_simp; (try with_reducible rfl)
                (try simp only [List.getElem_toArray, List.getElem_cons_succ, List.getElem_cons_zero, Act.put, List.setIfInBounds_toArray, List.set_cons_zero, List.set_cons_succ])
                refine tk 4 (v := ?_) ?_ ?_
                rotate_left
                · intro w' hSw; go_simp; (try with_reducible rfl)
                refine tk 5 (v := ?_) ?_ ?_
                rotate_left
                · intro w' hSw; go_simp; (try with_reducible rfl)
                refine tk 6 (v := ?_) ?_ ?_
                rotate_left
                · intro w' hSw; go_simp; (try with_reducible rfl)
                (try simp only [List.getElem_toArray, List.getElem_cons_succ, List.getElem_cons_zero, Act.put, List.setIfInBounds_toArray, List.set_cons_zero, List.set_cons_succ])
                refine tk 7 (v := ?_) ?_ ?_
                rotate_left
                · intro w' hSw; go_simp; (try with_reducible rfl)
                (try simp only [List.getElem_toArray, List.getElem_cons_succ, List.getElem_cons_zero, Act.put, List.setIfInBounds_toArray, List.set_cons_zero, List.set_cons_succ])
                refine tk 8 (v := ?_) ?_ ?_
                rotate_left
                · intro w' hSw; go_simp; (try with_reducible rfl)
                refine tk 9 (v := ?_) ?_ ?_
                rotate_left
                · intro w' hSw; go_simp; (try with_reducible rfl)
                refine tk 10 (v := ?_) ?_ ?_
                rotate_left
                · intro w' hSw; go_simp; (try with_reducible rfl)
                (try simp only [List.getElem_toArray, List.getElem_cons_succ, List.getElem_cons_zero, Act.put, List.setIfInBounds_toArray, List.set_cons_zero, List.set_cons_succ])
                refine tko 11 ?_
                (try simp only [List.getElem_toArray, List.getElem_cons_succ, List.getElem_cons_zero, Act.put, List.setIfInBounds_toArray, List.set_cons_zero, List.set_cons_succ])
                refine tko 12 ?_
                (try simp only [List.getElem_toArray, List.getElem_cons_succ, List.getElem_cons_zero, Act.put, List.setIfInBounds_toArray, List.set_cons_zero, List.set_cons_succ])
                refine tko 13 ?_
                (try simp only [List.getElem_toArray, List.getElem_cons_succ, List.getElem_cons_zero, Act.put, List.setIfInBounds_toArray, List.set_cons_zero, List.set_cons_succ])
                refine tko 14 ?_
                (try simp only [List.getElem_toArray, List.getElem_cons_succ, List.getElem_cons_zero, Act.put, List.setIfInBounds_toArray, List.set_cons_zero, List.set_cons_succ])
                refine tko 15 ?_
                (try simp only [List.getElem_toArray, List.getElem_cons_succ, List.getElem_cons_zero, Act.put, List.setIfInBounds_toArray, List.set_cons_zero, List.set_cons_succ])
                refine tko 16 ?_
                (try simp only [List.getElem_toArray, List.getElem_cons_succ, List.getElem_cons_zero, Act.put, List.setIfInBounds_toArray, List.set_cons_zero, List.set_cons_succ])
                refine tko 17 ?_
                (try simp only [List.getElem_toArray, List.getElem_cons_succ, List.getElem_cons_zero, Act.put, List.setIfInBounds_toArray, List.set_cons_zero, List.set_cons_succ])
                refine tko 18 ?_
                (try simp only [List.getElem_toArray, List.getElem_cons_succ, List.getElem_cons_zero, Act.put, List.setIfInBounds_toArray, List.set_cons_zero, List.set_cons_succ])
                refine tko 19 ?_
                refine tk 20 (v := ?_) ?_ ?_
                rotate_left
                · intro w' hSw; go_simp; (try with_reducible rfl)
                (try simp only [List.getElem_toArray, List.getElem_cons_succ, List.getElem_cons_zero, Act.put, List.setIfInBounds_toArray, List.set_cons_zero, List.set_cons_succ])
                refine wpAnyH_done (by kernel_rfl) ?_ _
                (try simp only [List.getElem_toArray, List.getElem_cons_succ, List.getElem_cons_zero, Act.put, List.setIfInBounds_toArray, List.set_cons_zero, List.set_cons_succ])
                have hbD := (Below.refl w5.heap.size w5).drew
                clear hHeld
                replace HR5 := Lib.hid (HR5.out.below hbD)
                replace hbw5 := hbw5.trans (hbD.mono hbw5.size)
                replace zq0 := (hbD.cell (p := ⟨wr.heap.size, 0, none⟩) hg5).trans zq0
                replace zq1 := (hbD.cell (p := ⟨wr.heap.size, 1, none⟩) hg5).trans zq1
                replace zq2 := (hbD.cell (p := ⟨wr.heap.size, 2, none⟩) hg5).trans zq2
                replace zq3 := (hbD.cell (p := ⟨wr.heap.size, 3, none⟩) hg5).trans zq3
                replace zq4 := (hbD.cell (p := ⟨wr.heap.size, 4, none⟩) hg5).trans zq4
                replace zq5 := (hbD.cell (p := ⟨wr.heap.size, 5, none⟩) hg5).trans zq5
                replace zq6 := (hbD.cell (p := ⟨wr.heap.size, 6, none⟩) hg5).trans zq6
                replace hg5 : wr.heap.size < w5.drew.heap.size := Nat.lt_of_lt_of_le hg5 hbD.size
                obtain ⟨w6, hw6⟩ : ∃ w6, w6 = w5.drew := ⟨_, rfl⟩
                rw [← hw6] at zq0 zq1 zq2 zq3 zq4 zq5 zq6 HR5 hbw5 hg5 ⊢
                clear hw6 hbD hb5 hb45
                go_wp2_with fail
                go_ret2
                have hf := flt_form he (by rw [HF.out]; omega)
                exact ⟨by rw [chkL_bad (by omega) (by omega) HZr.out (by rw [hf, HF.out]; omega), hf, HF.out]; rfl, hbw5⟩
              · have hless : ¬ e.at_ < p.at_ := fun h => hlt2 ⟨x7, x15, h⟩
                have b7 : (x != 7) = true := by simp [x7]
                have b15 : (x != 15) = true := by simp [x15]
                clear x7 x15 hlt2
                go_upto_region 8 with (fail)
                have hb5 : b < w5.heap.size := by omega
                refine wp_region_held_drew (S := fun w' => Below w5.heap.size w5 w') (by kernel_rfl) ((Below.refl _ _).drew) (fun hHeld => ?_)
                refine tk 0 (v := ?_) ?_ ?_
                rotate_left
                · intro w' hSw; go_simp; (try with_reducible rfl)
                refine tk 1 (v := ?_) ?_ ?_
                rotate_left
                · intro w' hSw; go_simp; (try with_reducible rfl)
                refine tk 2 (v := ?_) ?_ ?_
                rotate_left
                · intro w' hSw; go_simp; (try with_reducible rfl)
                (try simp only [List.getElem_toArray, List.getElem_cons_succ, List.getElem_cons_zero, Act.put, List.setIfInBounds_toArray, List.set_cons_zero, List.set_cons_succ])
                refine tk 3 (v := ?_) ?_ ?_
                rotate_left
                · intro w' hSw; go_simp; (try with_reducible rfl)
                (try simp only [List.getElem_toArray, List.getElem_cons_succ, List.getElem_cons_zero, Act.put, List.setIfInBounds_toArray, List.set_cons_zero, List.set_cons_succ])
                refine tk 4 (v := ?_) ?_ ?_
                rotate_left
                · intro w' hSw; go_simp; (try with_reducible rfl)
                refine tk 5 (v := ?_) ?_ ?_
                rotate_left
                · intro w' hSw; go_simp; (try with_reducible rfl)
                refine tk 6 (v := ?_) ?_ ?_
                rotate_left
                · intro w' hSw; go_simp; (try with_reducible rfl)
                (try simp only [List.getElem_toArray, List.getElem_cons_succ, List.getElem_cons_zero, Act.put, List.setIfInBounds_toArray, List.set_cons_zero, List.set_cons_succ])
                refine tk 7 (v := ?_) ?_ ?_
                rotate_left
                · intro w' hSw; go_simp; (try with_reducible rfl)
                (try simp only [List.getElem_toArray, List.getElem_cons_succ, List.getElem_cons_zero, Act.put, List.setIfInBounds_toArray, List.set_cons_zero, List.set_cons_succ])
                refine tk 8 (v := ?_) ?_ ?_
                rotate_left
                · intro w' hSw; go_simp; (try with_reducible rfl)
                refine tk 9 (v := ?_) ?_ ?_
                rotate_left
                · intro w' hSw; go_simp; (try with_reducible rfl)
                refine tk 10 (v := ?_) ?_ ?_
                rotate_left
                · intro w' hSw; go_simp; (try with_reducible rfl)
                (try simp only [List.getElem_toArray, List.getElem_cons_succ, List.getElem_cons_zero, Act.put, List.setIfInBounds_toArray, List.set_cons_zero, List.set_cons_succ])
                refine tk 11 (v := ?_) ?_ ?_
                rotate_left
                · intro w' hSw; go_simp; (try with_reducible rfl)
                (try simp only [List.getElem_toArray, List.getElem_cons_succ, List.getElem_cons_zero, Act.put, List.setIfInBounds_toArray, List.set_cons_zero, List.set_cons_succ])
                refine tk 12 (v := ?_) ?_ ?_
                rotate_left
                · intro w' hSw; have ze0 := (hSw.cell (p := ⟨wr.heap.size, 0, none⟩) hg5).trans zq0; have zp0 := (hSw.cell (p := ⟨b, off + m * 7, none⟩) hb5).trans p0; go_simp; (try with_reducible rfl)
                (try simp only [List.getElem_toArray, List.getElem_cons_succ, List.getElem_cons_zero, Act.put, List.setIfInBounds_toArray, List.set_cons_zero, List.set_cons_succ])
                refine tk 13 (v := ?_) ?_ ?_
                rotate_left
                · intro w' hSw; go_simp; (try with_reducible rfl)
                (try simp only [List.getElem_toArray, List.getElem_cons_succ, List.getElem_cons_zero, Act.put, List.setIfInBounds_toArray, List.set_cons_zero, List.set_cons_succ])
                refine tk 14 (v := ?_) ?_ ?_
                rotate_left
                · intro w' hSw; go_simp; (try with_reducible rfl)
                (try simp only [List.getElem_toArray, List.getElem_cons_succ, List.getElem_cons_zero, Act.put, List.setIfInBounds_toArray, List.set_cons_zero, List.set_cons_succ])
                refine tk 15 (v := ?_) ?_ ?_
                rotate_left
                · intro w' hSw; go_simp; (try with_reducible rfl)
                (try simp only [List.getElem_toArray, List.getElem_cons_succ, List.getElem_cons_zero, Act.put, List.setIfInBounds_toArray, List.set_cons_zero, List.set_cons_succ])
                refine tk 16 (v := ?_) ?_ ?_
                rotate_left
                · intro w' hSw; go_simp; (try with_reducible rfl)
                (try simp only [List.getElem_toArray, List.getElem_cons_succ, List.getElem_cons_zero, Act.put, List.setIfInBounds_toArray, List.set_cons_zero, List.set_cons_succ])
                refine tk 17 (v := ?_) ?_ ?_
                rotate_left
                · intro w' hSw; go_simp; (try with_reducible rfl)
                (try simp only [List.getElem_toArray, List.getElem_cons_succ, List.getElem_cons_zero, Act.put, List.setIfInBounds_toArray, List.set_cons_zero, List.set_cons_succ])
                refine tk 18 (v := ?_) ?_ ?_
                rotate_left
                · intro w' hSw; have ze0 := (hSw.cell (p := ⟨wr.heap.size, 0, none⟩) hg5).trans zq0; have zp0 := (hSw.cell (p := ⟨b, off + m * 7, none⟩) hb5).trans p0; go_simp; (try with_reducible rfl)
                (try simp only [List.getElem_toArray, List.getElem_cons_succ, List.getElem_cons_zero, Act.put, List.setIfInBounds_toArray, List.set_cons_zero, List.set_cons_succ])
                refine tk 19 (v := ?_) ?_ ?_
                rotate_left
                · intro w' hSw; go_simp; (try with_reducible rfl)
                refine tk 20 (v := ?_) ?_ ?_
                rotate_left
                · intro w' hSw; go_simp; (try with_reducible rfl)
                (try simp only [List.getElem_toArray, List.getElem_cons_succ, List.getElem_cons_zero, Act.put, List.setIfInBounds_toArray, List.set_cons_zero, List.set_cons_succ])
                refine wpAnyH_done (by kernel_rfl) ?_ _
                (try simp only [List.getElem_toArray, List.getElem_cons_succ, List.getElem_cons_zero, Act.put, List.setIfInBounds_toArray, List.set_cons_zero, List.set_cons_succ])
                have hbD := (Below.refl w5.heap.size w5).drew
                clear hHeld
                replace HR5 := Lib.hid (HR5.out.below hbD)
                replace hbw5 := hbw5.trans (hbD.mono hbw5.size)
                replace zq0 := (hbD.cell (p := ⟨wr.heap.size, 0, none⟩) hg5).trans zq0
                replace zq1 := (hbD.cell (p := ⟨wr.heap.size, 1, none⟩) hg5).trans zq1
                replace zq2 := (hbD.cell (p := ⟨wr.heap.size, 2, none⟩) hg5).trans zq2
                replace zq3 := (hbD.cell (p := ⟨wr.heap.size, 3, none⟩) hg5).trans zq3
                replace zq4 := (hbD.cell (p := ⟨wr.heap.size, 4, none⟩) hg5).trans zq4
                replace zq5 := (hbD.cell (p := ⟨wr.heap.size, 5, none⟩) hg5).trans zq5
                replace zq6 := (hbD.cell (p := ⟨wr.heap.size, 6, none⟩) hg5).trans zq6
                replace hg5 : wr.heap.size < w5.drew.heap.size := Nat.lt_of_lt_of_le hg5 hbD.size
                obtain ⟨w6, hw6⟩ : ∃ w6, w6 = w5.drew := ⟨_, rfl⟩
                rw [← hw6] at zq0 zq1 zq2 zq3 zq4 zq5 zq6 HR5 hbw5 hg5 ⊢
                clear hw6 hbD hb5 hb45 p0
                by_cases x0 : x = 0
                · obtain ⟨⟨k1, k15⟩, wa, ws⟩ := formR_fit (HF.out.trans x0)
                  obtain ⟨y, hy⟩ : ∃ y, checkP (stN l j) e = y := ⟨_, rfl⟩
                  have HY := Lib.hid hy
                  clear hy
                  have HFL := Lib.hid (show fltN l j = y by rw [flt_check he (by omega) HZr.out (HF.out.trans x0), HY.out])
                  go_upto_region 12 with (go_at_call 70; go_must (refine (check_any e _ M (4 * j) k (stN l j) _ HR5.out wa ws hes.1 k1 k15).mono ?_; rintro r w8 ⟨rfl, hb6⟩; rw [HY.out]; have HR6 := Lib.hid (HR5.out.below hb6); have hbw6 : Below w.heap.size w w8 := hbw5.trans (hb6.mono hbw5.size); have hg6 : wr.heap.size < w8.heap.size := Nat.lt_of_lt_of_le hg5 hb6.size; have qa0 := (hb6.cell (p := ⟨wr.heap.size, 0, none⟩) hg5).trans zq0; have qa1 := (hb6.cell (p := ⟨wr.heap.size, 1, none⟩) hg5).trans zq1; have qa2 := (hb6.cell (p := ⟨wr.heap.size, 2, none⟩) hg5).trans zq2; have qa3 := (hb6.cell (p := ⟨wr.heap.size, 3, none⟩) hg5).trans zq3; have qa4 := (hb6.cell (p := ⟨wr.heap.size, 4, none⟩) hg5).trans zq4; have qa5 := (hb6.cell (p := ⟨wr.heap.size, 5, none⟩) hg5).trans zq5; have qa6 := (hb6.cell (p := ⟨wr.heap.size, 6, none⟩) hg5).trans zq6; clear hb6))
                  clear zq0 zq1 zq2 zq3 zq4 zq5 zq6
                  by_cases y0 : y = 0
                  · go_wp2_with (go_at_call 71; go_must (refine (apply_any e.at_ e.kind e.acc e.sub e.val e.num e.name w.heap.size M (4 * j) k (stN l j) _ HR6.out wa ws hes.1 (by omega) k1 k15).mono ?_; rintro r w7 ⟨⟨u, rfl⟩, hr7, ht7⟩; have HR7 := Lib.hid hr7; have hbw7 : Below w.heap.size w w7 := hbw6.trans ht7.1; clear hr7 ht7))
                    go_roundw
                    case rel =>
                      refine ⟨j + 1, by omega, by go_num, ?_, hbw7, fun m hm => ?_⟩
                      · rw [stN_succ he]; exact HR7.out
                      · by_cases hmj : m = j
                        · rw [hmj, HFL.out]; exact y0
                        · exact HZr.out m (by omega)
                    case measure => simp [intOf]; omega
                  · go_wp2_with fail
                    go_ret2
                    exact ⟨by rw [chkL_bad (by omega) (by omega) HZr.out (by rw [HFL.out]; exact y0), HFL.out]; rfl, hbw6⟩
                · go_wp2_with fail
                  go_ret2
                  have hf := flt_form he (by rw [HF.out]; omega)
                  exact ⟨by rw [chkL_bad (by omega) (by omega) HZr.out (by rw [hf, HF.out]; omega), hf, HF.out]; rfl, hbw5⟩
      · obtain rfl : n = j := by omega
        have hkn : ¬ ((n : Int) < (n : Int)) := by omega
        have HQ := Lib.hid (chkL_ok (l := l) (by omega) (fun m hm => HZr.out m (by omega)))
        go_wp2_with fail
        go_ret2
        exact ⟨by rw [HQ.out]; rfl, hbr⟩
end Cu
end Go.Proofs.Yteaanngagcflhaa
