/-
  Customers: the reference's book in memory; account, sub, ended, taken, busy. No condition.
-/
import Derived.Test.YteaanngagcflhaaCuH
import Derived.Test.YteaanngagcflhaaCuD
import Derived.BigQuiet
import Derived.StillTailTactics
import Derived.Lib.Overlaps
import Derived.Deep.DeepCutAuto
import Derived.Deep.RegionWith
import Derived.Laws.RangeAny
import Derived.Deep.RegionHeld
import Derived.Deep.RegionHeldLaw
set_option maxRecDepth 100000
set_option linter.unusedVariables false
set_option linter.unusedSimpArgs false
namespace Go.Proofs.Yteaanngagcflhaa
open Go.RowKit

namespace Cu
instance : Flat Ac where
  sz := 6
  pos := by decide
  cells t := [.int .i64 t.id, .int .i64 t.since, .int .i64 t.anchor, .bool t.prepaid, .bool t.closed, .slice none 0 0]
  len _ := rfl
  one _ := by simp [Value.oneCell']
structure BR (w : World) (Aa : Option Addr) (na ca : Nat) (As : Option Addr) (ns cs : Nat) (Ae : Option Addr) (ne ce : Nat) (b : Bk) : Prop where
  a0 : Aa = none → ca = 0
  a : Sl w Aa na ca b.accs
  s : LSb w As ns cs b.subs
  e0 : Ae = none → ce = 0
  e : Sl w Ae ne ce b.ended
theorem BR.on {w w' : World} {Aa : Option Addr} {na ca : Nat} {As : Option Addr} {ns cs : Nat} {Ae : Option Addr} {ne ce : Nat} {b : Bk} (h : BR w Aa na ca As ns cs Ae ne ce b) (hb : Below w.heap.size w w') : BR w' Aa na ca As ns cs Ae ne ce b :=
  ⟨h.a0, h.a.below hb, LS.on (R := SR) (fun _ _ _ _ k x => SR.on k x) h.s hb, h.e0, h.e.below hb⟩
/-! ### the first of a name -/
def idxL {α : Type} (f : α → Int) (l : List α) (n : Int) : Int := match l.findIdx? (fun x => f x == n) with
  | some k => (k : Int)
  | none => -1
theorem idxL_none {α : Type} {f : α → Int} {l : List α} {n : Int} (h : ∀ (m : Nat) x, l[m]? = some x → f x ≠ n) : idxL f l n = -1 := by
  unfold idxL
  rw [List.findIdx?_eq_none_iff.2 fun x hx => by
    obtain ⟨m, hm⟩ := List.getElem?_of_mem hx
    simpa using h m x hm]
theorem idxL_some {α : Type} {f : α → Int} {l : List α} {n : Int} {k : Nat} {x : α} (hx : l[k]? = some x) (hf : f x = n) (h : ∀ (m : Nat) y, m < k → l[m]? = some y → f y ≠ n) : idxL f l n = (k : Int) := by
  unfold idxL
  have hk := (List.getElem?_eq_some_iff.1 hx)
  obtain ⟨hk, he⟩ := hk
  rw [List.findIdx?_eq_some_iff_getElem.2 ⟨hk, by rw [he]; simpa using hf, fun j hj => by
    have := h j _ hj (List.getElem?_eq_getElem (by omega))
    simpa using this⟩]
theorem idxL_cases {α : Type} (f : α → Int) (l : List α) (n : Int) : (idxL f l n = -1 ∧ l.find? (fun x => f x == n) = none) ∨ ∃ (k : Nat) (x : α), idxL f l n = (k : Int) ∧ k < l.length ∧ l[k]? = some x ∧ l.find? (fun x => f x == n) = some x ∧ f x = n ∧ ∀ (m : Nat) y, m < k → l[m]? = some y → f y ≠ n := by
  induction l with
  | nil => exact .inl ⟨rfl, rfl⟩
  | cons a l ih =>
    by_cases ha : f a = n
    · refine .inr ⟨0, a, idxL_some rfl ha (fun m y hm => absurd hm (Nat.not_lt_zero _)), Nat.succ_pos _, rfl, ?_, ha, fun m y hm => absurd hm (Nat.not_lt_zero _)⟩
      rw [List.find?_cons_of_pos (by simpa using ha)]
    · rw [List.find?_cons_of_neg (by simpa using ha)]
      rcases ih with ⟨h1, h2⟩ | ⟨k, x, h1, h2, h3, h4, h5, h6⟩
      · refine .inl ⟨idxL_none fun m y hm => ?_, h2⟩
        cases m with
        | zero => cases hm; exact ha
        | succ m =>
          have hy : y ∈ l := List.mem_of_getElem? (by simpa using hm)
          have := List.find?_eq_none.1 h2 y hy
          simpa using this
      · refine .inr ⟨k + 1, x, idxL_some (by simpa using h3) h5 ?_, by simpa using h2, by simpa using h3, h4, h5, ?_⟩ <;>
        · intro m y hm hy
          cases m with
          | zero => cases hy; exact ha
          | succ m => exact h6 m y (by omega) (by simpa using hy)
set_option maxHeartbeats 4000000 in
theorem raccount_any (Aa : Option Addr) (na ca : Nat) (As : Option Addr) (ns cs : Nat) (Ae : Option Addr) (ne ce : Nat) (b : Bk) (x : Int) (w : World) (h : BR w Aa na ca As ns cs Ae ne ce b) :
    Calls Try.prog 79 #[.agg #[.slice Aa na ca, .slice As ns cs, .slice Ae ne ce], .int .i64 x] w fun e w' => e = .returned (.int .i64 (idxL Ac.id b.accs x)) ∧ Below w.heap.size w w' := by
  have HB := Lib.hid h
  have hnm : na ≤ 9223372036854775807 := h.a.nmax
  clear h
  go_enter Try.func79, Try.ntmps79
  go_upto_region 1 with (fail)
  (obtain ⟨V, hWV, hbV, hzV, f1V, qfa⟩ := box1 w #[.slice Aa na ca, .slice As ns cs, .slice Ae ne ce] 99; rw [← hWV]; have qa0 : V.cell? ⟨w.heap.size, 0, none⟩ = some (.slice Aa na ca) := f1V 0 _ rfl; have qa1 : V.cell? ⟨w.heap.size, 1, none⟩ = some (.slice As ns cs) := f1V 1 _ rfl; have qa2 : V.cell? ⟨w.heap.size, 2, none⟩ = some (.slice Ae ne ce) := f1V 2 _ rfl; clear hWV f1V)
  go_wp2_with fail
  go_loop [5] (fun i => ∃ k : Nat, k ≤ na ∧ i = .int .i64 k ∧ ∀ (m : Nat) y, m < k → b.accs[m]? = some y → y.id ≠ x) (fun i => na - (intOf i).toNat)
  case atStart => exact ⟨0, Nat.zero_le _, rfl, fun m y hm => absurd hm (Nat.not_lt_zero _)⟩
  case round =>
    obtain ⟨k, hk, rfl, hn⟩ := hrel
    have HN := Lib.hid hn
    clear hn
    by_cases hlt : k < na
    · obtain ⟨b0, off, hAe, hbl, hcells⟩ := HB.out.a.baseIn hbV (by omega)
      obtain ⟨y, hy⟩ := HB.out.a.get hlt
      have e0 : V.cell? ⟨b0, off + k * 6, none⟩ = some (.int .i64 y.id) := Sl.at_ hcells hy 0 rfl
      clear hcells
      have hbl2 : b0 < V.heap.size := Nat.lt_of_lt_of_le hbl hbV.size
      have HY := Lib.hid hy
      subst hAe
      clear hy
      by_cases heq : y.id = x
      · have HR := Lib.hid (idxL_some (f := Ac.id) HY.out heq HN.out)
        go_wp2_with fail
        go_ret
        exact ⟨by rw [HR.out]; rfl, hbV⟩
      · go_wp2_with fail
        go_round
        case rel =>
          refine ⟨k + 1, by omega, by go_num, fun m z hm hz => ?_⟩
          by_cases hmk : m = k
          · subst hmk
            have h2 := HY.out
            rw [hz] at h2
            cases h2
            exact heq
          · exact HN.out m z (by omega) hz
        case measure => simp [intOf]; omega
    · obtain rfl : na = k := by omega
      have hkn : ¬ ((na : Int) < (na : Int)) := by omega
      have hln := HB.out.a.len
      have hal : ∀ (m : Nat) z, b.accs[m]? = some z → z.id ≠ x := fun m z hz => HN.out m z (by have := (List.getElem?_eq_some_iff.1 hz).1; omega) hz
      have HR := Lib.hid (idxL_none (f := Ac.id) hal)
      clear hal hln
      go_wp2_with fail
      go_ret
      exact ⟨by rw [HR.out]; rfl, hbV⟩
set_option maxHeartbeats 4000000 in
theorem rsub_any (Aa : Option Addr) (na ca : Nat) (As : Option Addr) (ns cs : Nat) (Ae : Option Addr) (ne ce : Nat) (b : Bk) (x : Int) (w : World) (h : BR w Aa na ca As ns cs Ae ne ce b) :
    Calls Try.prog 77 #[.agg #[.slice Aa na ca, .slice As ns cs, .slice Ae ne ce], .int .i64 x] w fun e w' => e = .returned (.int .i64 (idxL Sb.id b.subs x)) ∧ Below w.heap.size w w' := by
  have HB := Lib.hid h
  have hnm : ns ≤ 9223372036854775807 := h.s.2.choose_spec.1.nmax
  clear h
  go_enter Try.func77, Try.ntmps77
  go_upto_region 1 with (fail)
  (obtain ⟨V, hWV, hbV, hzV, f1V, qfa⟩ := box1 w #[.slice Aa na ca, .slice As ns cs, .slice Ae ne ce] 99; rw [← hWV]; have qa0 : V.cell? ⟨w.heap.size, 0, none⟩ = some (.slice Aa na ca) := f1V 0 _ rfl; have qa1 : V.cell? ⟨w.heap.size, 1, none⟩ = some (.slice As ns cs) := f1V 1 _ rfl; have qa2 : V.cell? ⟨w.heap.size, 2, none⟩ = some (.slice Ae ne ce) := f1V 2 _ rfl; clear hWV f1V)
  go_wp2_with fail
  go_loop [5] (fun i => ∃ k : Nat, k ≤ ns ∧ i = .int .i64 k ∧ ∀ (m : Nat) y, m < k → b.subs[m]? = some y → y.id ≠ x) (fun i => ns - (intOf i).toNat)
  case atStart => exact ⟨0, Nat.zero_le _, rfl, fun m y hm => absurd hm (Nat.not_lt_zero _)⟩
  case round =>
    obtain ⟨k, hk, rfl, hn⟩ := hrel
    have HN := Lib.hid hn
    clear hn
    by_cases hlt : k < ns
    · obtain ⟨_, xs, hsl, hall⟩ := HB.out.s
      obtain ⟨b0, off, hAe, hbl, hcells⟩ := hsl.baseIn hbV (by omega)
      obtain ⟨t, ht⟩ := hsl.get hlt
      obtain ⟨y, hy, hsr⟩ := hall.at_ ht
      have e0 : V.cell? ⟨b0, off + k * 8, none⟩ = some (.int .i64 t.id) := Sl.at_ hcells ht 0 rfl
      rw [hsr.id] at e0
      clear hcells hsl hall ht hsr
      have hbl2 : b0 < V.heap.size := Nat.lt_of_lt_of_le hbl hbV.size
      have HY := Lib.hid hy
      subst hAe
      clear hy
      by_cases heq : y.id = x
      · have HR := Lib.hid (idxL_some (f := Sb.id) HY.out heq HN.out)
        go_wp2_with fail
        go_ret
        exact ⟨by rw [HR.out]; rfl, hbV⟩
      · go_wp2_with fail
        go_round
        case rel =>
          refine ⟨k + 1, by omega, by go_num, fun m z hm hz => ?_⟩
          by_cases hmk : m = k
          · subst hmk
            have h2 := HY.out
            rw [hz] at h2
            cases h2
            exact heq
          · exact HN.out m z (by omega) hz
        case measure => simp [intOf]; omega
    · obtain rfl : ns = k := by omega
      have hkn : ¬ ((ns : Int) < (ns : Int)) := by omega
      have hln := HB.out.s.len
      have hal : ∀ (m : Nat) z, b.subs[m]? = some z → z.id ≠ x := fun m z hz => HN.out m z (by have := (List.getElem?_eq_some_iff.1 hz).1; omega) hz
      have HR := Lib.hid (idxL_none (f := Sb.id) hal)
      clear hal hln
      go_wp2_with fail
      go_ret
      exact ⟨by rw [HR.out]; rfl, hbV⟩
set_option maxHeartbeats 4000000 in
theorem rended_any (Aa : Option Addr) (na ca : Nat) (As : Option Addr) (ns cs : Nat) (Ae : Option Addr) (ne ce : Nat) (b : Bk) (x : Int) (w : World) (h : BR w Aa na ca As ns cs Ae ne ce b) :
    Calls Try.prog 78 #[.agg #[.slice Aa na ca, .slice As ns cs, .slice Ae ne ce], .int .i64 x] w fun e w' => e = .returned (.bool (endedB b x)) ∧ Below w.heap.size w w' := by
  have HB := Lib.hid h
  have hnm : ne ≤ 9223372036854775807 := h.e.nmax
  clear h
  go_enter Try.func78, Try.ntmps78
  go_upto_region 1 with (fail)
  (obtain ⟨V, hWV, hbV, hzV, f1V, qfa⟩ := box1 w #[.slice Aa na ca, .slice As ns cs, .slice Ae ne ce] 99; rw [← hWV]; have qa0 : V.cell? ⟨w.heap.size, 0, none⟩ = some (.slice Aa na ca) := f1V 0 _ rfl; have qa1 : V.cell? ⟨w.heap.size, 1, none⟩ = some (.slice As ns cs) := f1V 1 _ rfl; have qa2 : V.cell? ⟨w.heap.size, 2, none⟩ = some (.slice Ae ne ce) := f1V 2 _ rfl; clear hWV f1V)
  go_wp2_with fail
  go_loop [5] (fun i => ∃ k : Nat, k ≤ ne ∧ i = .int .i64 k ∧ ∀ (m : Nat) y, m < k → b.ended[m]? = some y → y ≠ x) (fun i => ne - (intOf i).toNat)
  case atStart => exact ⟨0, Nat.zero_le _, rfl, fun m y hm => absurd hm (Nat.not_lt_zero _)⟩
  case round =>
    obtain ⟨k, hk, rfl, hn⟩ := hrel
    have HN := Lib.hid hn
    clear hn
    by_cases hlt : k < ne
    · obtain ⟨b0, off, hAe, hbl, hcells⟩ := HB.out.e.baseIn hbV (by omega)
      obtain ⟨y, hy⟩ := HB.out.e.get hlt
      have e0 : V.cell? ⟨b0, off + k * 1, none⟩ = some (.int .i64 y) := Sl.at_ hcells hy 0 rfl
      rw [Nat.mul_one] at e0
      clear hcells
      have hbl2 : b0 < V.heap.size := Nat.lt_of_lt_of_le hbl hbV.size
      have HY := Lib.hid hy
      subst hAe
      clear hy
      by_cases heq : y = x
      · have HR := Lib.hid (show endedB b x = true by unfold endedB; rw [List.any_eq_true]; exact ⟨y, List.mem_of_getElem? HY.out, by simpa using heq⟩)
        go_wp2_with fail
        go_ret
        exact ⟨by rw [HR.out]; rfl, hbV⟩
      · go_wp2_with fail
        go_round
        case rel =>
          refine ⟨k + 1, by omega, by go_num, fun m z hm hz => ?_⟩
          by_cases hmk : m = k
          · subst hmk
            have h2 := HY.out
            rw [hz] at h2
            cases h2
            exact heq
          · exact HN.out m z (by omega) hz
        case measure => simp [intOf]; omega
    · obtain rfl : ne = k := by omega
      have hkn : ¬ ((ne : Int) < (ne : Int)) := by omega
      have hln := HB.out.e.len
      have hal : ∀ (m : Nat) z, b.ended[m]? = some z → z ≠ x := fun m z hz => HN.out m z (by have := (List.getElem?_eq_some_iff.1 hz).1; omega) hz
      have HR := Lib.hid (show endedB b x = false by
        unfold endedB
        rw [List.any_eq_false]
        intro z hz
        obtain ⟨m, hm⟩ := List.getElem?_of_mem hz
        simpa using hal m z hm)
      clear hal hln
      go_wp2_with fail
      go_ret
      exact ⟨by rw [HR.out]; rfl, hbV⟩
set_option maxHeartbeats 4000000 in
theorem rtaken_any (Aa : Option Addr) (na ca : Nat) (As : Option Addr) (ns cs : Nat) (Ae : Option Addr) (ne ce : Nat) (b : Bk) (x : ByteArray) (w : World) (h : BR w Aa na ca As ns cs Ae ne ce b) :
    Calls Try.prog 123 #[.agg #[.slice Aa na ca, .slice As ns cs, .slice Ae ne ce], .string x] w fun e w' => e = .returned (.bool (takenB b x)) ∧ Below w.heap.size w w' := by
  have HB := Lib.hid h
  have hnm : ns ≤ 9223372036854775807 := h.s.2.choose_spec.1.nmax
  clear h
  go_enter Try.func123, Try.ntmps123
  go_upto_region 1 with (fail)
  (obtain ⟨V, hWV, hbV, hzV, f1V, qfa⟩ := box1 w #[.slice Aa na ca, .slice As ns cs, .slice Ae ne ce] 99; rw [← hWV]; have qa0 : V.cell? ⟨w.heap.size, 0, none⟩ = some (.slice Aa na ca) := f1V 0 _ rfl; have qa1 : V.cell? ⟨w.heap.size, 1, none⟩ = some (.slice As ns cs) := f1V 1 _ rfl; have qa2 : V.cell? ⟨w.heap.size, 2, none⟩ = some (.slice Ae ne ce) := f1V 2 _ rfl; clear hWV f1V)
  go_wp2_with fail
  go_loopw [5] (fun i wr => ∃ k : Nat, k ≤ ns ∧ i = .int .i64 k ∧ Below V.heap.size V wr ∧ ∀ (m : Nat) (y : Sb), m < k → b.subs[m]? = some y → hasS y.nums x = false) (fun i _ => ns - (intOf i).toNat)
  case atStart => exact ⟨0, Nat.zero_le _, rfl, Below.refl _ _, fun m y hm => absurd hm (Nat.not_lt_zero _)⟩
  case round =>
    obtain ⟨k, hk, rfl, hbr, hn⟩ := hrel
    have HN := Lib.hid hn
    have hbw := hbV.trans (hbr.mono hbV.size)
    have hgr : w.heap.size < wr.heap.size := Nat.lt_of_lt_of_le hzV hbr.size
    clear hn
    replace qa0 := (hbr.cell (p := ⟨w.heap.size, 0, none⟩) hzV).trans qa0
    replace qa1 := (hbr.cell (p := ⟨w.heap.size, 1, none⟩) hzV).trans qa1
    replace qa2 := (hbr.cell (p := ⟨w.heap.size, 2, none⟩) hzV).trans qa2
    by_cases hlt : k < ns
    · obtain ⟨_, xs, hsl, hall⟩ := HB.out.s
      obtain ⟨b0, off, hAe, hbl, hcells⟩ := hsl.baseIn hbw (by omega)
      obtain ⟨t, ht⟩ := hsl.get hlt
      obtain ⟨y, hy, hsr⟩ := hall.at_ ht
      have hbl2 : b0 < wr.heap.size := Nat.lt_of_lt_of_le hbl hbw.size
      have HY := Lib.hid hy
      have e4 : wr.cell? ⟨b0, off + k * 8 + 4, none⟩ = some (.slice t.An t.nn t.cn) := Sl.at_ hcells ht 4 rfl
      have HSR := Lib.hid hsr
      subst hAe
      clear hcells hsl hall ht hsr hy
      obtain ⟨p, hp⟩ : ∃ p, hasS y.nums x = p := ⟨_, rfl⟩
      have HP := Lib.hid hp
      clear hp
      cases p
      · go_wp2_with (go_at_call 39; go_must (refine (Has_any _ _ _ y.nums x _ (HSR.out.n.below hbw)).mono ?_; rintro r w5 ⟨rfl, hb5⟩; rw [HP.out]))
        go_roundw
        case rel =>
          refine ⟨k + 1, by omega, by go_num, ?_, fun m z hm hz => ?_⟩
          · first | exact hbr | exact hbr.trans (hb5.mono hbr.size) | (rw [← hb5]; exact hbr)
          · by_cases hmk : m = k
            · subst hmk
              have h2 := HY.out
              rw [hz] at h2
              cases h2
              exact HP.out
            · exact HN.out m z (by omega) hz
        case measure => simp [intOf]; omega
      · have HR := Lib.hid (show takenB b x = true by unfold takenB; rw [List.any_eq_true]; exact ⟨y, List.mem_of_getElem? HY.out, HP.out⟩)
        go_wp2_with (go_at_call 39; go_must (refine (Has_any _ _ _ y.nums x _ (HSR.out.n.below hbw)).mono ?_; rintro r w5 ⟨rfl, hb5⟩; rw [HP.out]))
        go_ret
        exact ⟨by rw [HR.out]; rfl, by first | exact hbw | (rw [← hb5]; exact hbw) | exact hbw.trans (hb5.mono hbw.size)⟩
    · obtain rfl : ns = k := by omega
      have hkn : ¬ ((ns : Int) < (ns : Int)) := by omega
      have hln := HB.out.s.len
      have HR := Lib.hid (show takenB b x = false by
        unfold takenB
        rw [List.any_eq_false]
        intro z hz
        obtain ⟨m, hm⟩ := List.getElem?_of_mem hz
        rw [HN.out m z (by have := (List.getElem?_eq_some_iff.1 hm).1; omega) hm]
        decide)
      clear hln
      go_wp2_with fail
      go_ret
      exact ⟨by rw [HR.out]; rfl, hbw⟩
set_option maxHeartbeats 4000000 in
theorem rbusy_any (Aa : Option Addr) (na ca : Nat) (As : Option Addr) (ns cs : Nat) (Ae : Option Addr) (ne ce : Nat) (b : Bk) (x : Int) (w : World) (h : BR w Aa na ca As ns cs Ae ne ce b) :
    Calls Try.prog 122 #[.agg #[.slice Aa na ca, .slice As ns cs, .slice Ae ne ce], .int .i64 x] w fun e w' => e = .returned (.bool (busyB b x)) ∧ Below w.heap.size w w' := by
  have HB := Lib.hid h
  have hnm : ns ≤ 9223372036854775807 := h.s.2.choose_spec.1.nmax
  clear h
  go_enter Try.func122, Try.ntmps122
  go_upto_region 1 with (fail)
  (obtain ⟨V, hWV, hbV, hzV, f1V, qfa⟩ := box1 w #[.slice Aa na ca, .slice As ns cs, .slice Ae ne ce] 99; rw [← hWV]; have qa0 : V.cell? ⟨w.heap.size, 0, none⟩ = some (.slice Aa na ca) := f1V 0 _ rfl; have qa1 : V.cell? ⟨w.heap.size, 1, none⟩ = some (.slice As ns cs) := f1V 1 _ rfl; have qa2 : V.cell? ⟨w.heap.size, 2, none⟩ = some (.slice Ae ne ce) := f1V 2 _ rfl; clear hWV f1V)
  go_wp2_with fail
  go_loopw [5] (fun i wr => ∃ k : Nat, k ≤ ns ∧ i = .int .i64 k ∧ Below V.heap.size V wr ∧ ∀ (m : Nat) (y : Sb), m < k → b.subs[m]? = some y → (y.acc == x && !endedB b y.id) = false) (fun i _ => ns - (intOf i).toNat)
  case atStart => exact ⟨0, Nat.zero_le _, rfl, Below.refl _ _, fun m y hm => absurd hm (Nat.not_lt_zero _)⟩
  case round =>
    obtain ⟨k, hk, rfl, hbr, hn⟩ := hrel
    have HN := Lib.hid hn
    have hbw := hbV.trans (hbr.mono hbV.size)
    have hgr : w.heap.size < wr.heap.size := Nat.lt_of_lt_of_le hzV hbr.size
    clear hn
    replace qa0 := (hbr.cell (p := ⟨w.heap.size, 0, none⟩) hzV).trans qa0
    replace qa1 := (hbr.cell (p := ⟨w.heap.size, 1, none⟩) hzV).trans qa1
    replace qa2 := (hbr.cell (p := ⟨w.heap.size, 2, none⟩) hzV).trans qa2
    by_cases hlt : k < ns
    · obtain ⟨_, xs, hsl, hall⟩ := HB.out.s
      obtain ⟨b0, off, hAe, hbl, hcells⟩ := hsl.baseIn hbw (by omega)
      obtain ⟨t, ht⟩ := hsl.get hlt
      obtain ⟨y, hy, hsr⟩ := hall.at_ ht
      have hbl2 : b0 < wr.heap.size := Nat.lt_of_lt_of_le hbl hbw.size
      have HY := Lib.hid hy
      have e0 : wr.cell? ⟨b0, off + k * 8, none⟩ = some (.int .i64 t.id) := Sl.at_ hcells ht 0 rfl
      have e1 : wr.cell? ⟨b0, off + k * 8 + 1, none⟩ = some (.int .i64 t.acc) := Sl.at_ hcells ht 1 rfl
      rw [hsr.id] at e0
      rw [hsr.acc] at e1
      subst hAe
      clear hcells hsl hall ht hsr hy
      obtain ⟨p, hp⟩ : ∃ p, (y.acc == x && !endedB b y.id) = p := ⟨_, rfl⟩
      have HP := Lib.hid hp
      clear hp
      by_cases hac : y.acc = x
      · cases hen : endedB b y.id
        · have HQ := Lib.hid (show (y.acc == x && !endedB b y.id) = true by simp [hac, hen])
          have HEN := Lib.hid hen
          clear hen
          go_upto_region 4 with (fail)
          refine wp_region_held_drew (S := fun w' => Below wr.heap.size wr w') (by kernel_rfl) ((Below.refl _ _).drew) (fun hHeld => ?_)
          refine tk 0 (v := ?_) ?_ ?_
          rotate_left
          · intro w' hSw; go_simp; (try with_reducible rfl)
          refine tk 1 (v := ?_) ?_ ?_
          rotate_left
          · intro w' hSw; have zq0 := (hSw.cell (p := ⟨w.heap.size, 0, none⟩) hgr).trans qa0; have zq1 := (hSw.cell (p := ⟨w.heap.size, 1, none⟩) hgr).trans qa1; have zq2 := (hSw.cell (p := ⟨w.heap.size, 2, none⟩) hgr).trans qa2; have ze0 := (hSw.cell (p := ⟨b0, off + k * 8, none⟩) hbl2).trans e0; have ze1 := (hSw.cell (p := ⟨b0, off + k * 8 + 1, none⟩) hbl2).trans e1; go_simp; (try with_reducible rfl)
          refine tk 2 (v := ?_) ?_ ?_
          rotate_left
          · intro w' hSw; go_simp; (try with_reducible rfl)
          refine tk 3 (v := ?_) ?_ ?_
          rotate_left
          · intro w' hSw; go_simp; (try with_reducible rfl)
          refine tk 4 (v := ?_) ?_ ?_
          rotate_left
          · intro w' hSw; go_simp; (try with_reducible rfl)
          refine tk 5 (v := ?_) ?_ ?_
          rotate_left
          · intro w' hSw; have zq0 := (hSw.cell (p := ⟨w.heap.size, 0, none⟩) hgr).trans qa0; have zq1 := (hSw.cell (p := ⟨w.heap.size, 1, none⟩) hgr).trans qa1; have zq2 := (hSw.cell (p := ⟨w.heap.size, 2, none⟩) hgr).trans qa2; have ze0 := (hSw.cell (p := ⟨b0, off + k * 8, none⟩) hbl2).trans e0; have ze1 := (hSw.cell (p := ⟨b0, off + k * 8 + 1, none⟩) hbl2).trans e1; go_simp; (try with_reducible rfl)
          refine tk 6 (v := ?_) ?_ ?_
          rotate_left
          · intro w' hSw; go_simp; (try with_reducible rfl)
          refine tk 7 (v := ?_) ?_ ?_
          rotate_left
          · intro w' hSw; go_simp; (try with_reducible rfl)
          refine tk 8 (v := ?_) ?_ ?_
          rotate_left
          · intro w' hSw; go_simp; (try with_reducible rfl)
          (try simp only [List.getElem_toArray, List.getElem_cons_succ, List.getElem_cons_zero, Act.put, List.setIfInBounds_toArray, List.set_cons_zero, List.set_cons_succ])
          refine tk 9 (v := ?_) ?_ ?_
          rotate_left
          · intro w' hSw; have zq0 := (hSw.cell (p := ⟨w.heap.size, 0, none⟩) hgr).trans qa0; have zq1 := (hSw.cell (p := ⟨w.heap.size, 1, none⟩) hgr).trans qa1; have zq2 := (hSw.cell (p := ⟨w.heap.size, 2, none⟩) hgr).trans qa2; have ze0 := (hSw.cell (p := ⟨b0, off + k * 8, none⟩) hbl2).trans e0; have ze1 := (hSw.cell (p := ⟨b0, off + k * 8 + 1, none⟩) hbl2).trans e1; go_simp; (try with_reducible rfl)
          (try simp only [List.getElem_toArray, List.getElem_cons_succ, List.getElem_cons_zero, Act.put, List.setIfInBounds_toArray, List.set_cons_zero, List.set_cons_succ])
          refine tk 10 (v := ?_) ?_ ?_
          rotate_left
          · intro w' hSw; go_simp; (try with_reducible rfl)
          (try simp only [List.getElem_toArray, List.getElem_cons_succ, List.getElem_cons_zero, Act.put, List.setIfInBounds_toArray, List.set_cons_zero, List.set_cons_succ])
          refine tk 11 (v := ?_) ?_ ?_
          rotate_left
          · intro w' hSw; have zq0 := (hSw.cell (p := ⟨w.heap.size, 0, none⟩) hgr).trans qa0; have zq1 := (hSw.cell (p := ⟨w.heap.size, 1, none⟩) hgr).trans qa1; have zq2 := (hSw.cell (p := ⟨w.heap.size, 2, none⟩) hgr).trans qa2; have ze0 := (hSw.cell (p := ⟨b0, off + k * 8, none⟩) hbl2).trans e0; have ze1 := (hSw.cell (p := ⟨b0, off + k * 8 + 1, none⟩) hbl2).trans e1; go_simp; (try with_reducible rfl)
          (try simp only [List.getElem_toArray, List.getElem_cons_succ, List.getElem_cons_zero, Act.put, List.setIfInBounds_toArray, List.set_cons_zero, List.set_cons_succ])
          refine tk 12 (v := ?_) ?_ ?_
          rotate_left
          · intro w' hSw; go_simp; (try with_reducible rfl)
          (try simp only [List.getElem_toArray, List.getElem_cons_succ, List.getElem_cons_zero, Act.put, List.setIfInBounds_toArray, List.set_cons_zero, List.set_cons_succ])
          refine tk 13 (v := ?_) ?_ ?_
          rotate_left
          · intro w' hSw; go_simp; (try with_reducible rfl)
          (try simp only [List.getElem_toArray, List.getElem_cons_succ, List.getElem_cons_zero, Act.put, List.setIfInBounds_toArray, List.set_cons_zero, List.set_cons_succ])
          refine tk 14 (v := ?_) ?_ ?_
          rotate_left
          · intro w' hSw; go_simp; (try with_reducible rfl)
          (try simp only [List.getElem_toArray, List.getElem_cons_succ, List.getElem_cons_zero, Act.put, List.setIfInBounds_toArray, List.set_cons_zero, List.set_cons_succ])
          refine tk 15 (v := ?_) ?_ ?_
          rotate_left
          · intro w' hSw; have zq0 := (hSw.cell (p := ⟨w.heap.size, 0, none⟩) hgr).trans qa0; have zq1 := (hSw.cell (p := ⟨w.heap.size, 1, none⟩) hgr).trans qa1; have zq2 := (hSw.cell (p := ⟨w.heap.size, 2, none⟩) hgr).trans qa2; have ze0 := (hSw.cell (p := ⟨b0, off + k * 8, none⟩) hbl2).trans e0; have ze1 := (hSw.cell (p := ⟨b0, off + k * 8 + 1, none⟩) hbl2).trans e1; go_simp; (try with_reducible rfl)
          (try simp only [List.getElem_toArray, List.getElem_cons_succ, List.getElem_cons_zero, Act.put, List.setIfInBounds_toArray, List.set_cons_zero, List.set_cons_succ])
          refine wpAnyH_ready (rs := [16]) (by kernel_rfl) (by simp) ?_
          refine AllReadyH.cons rfl (fun K' hK => ?_) AllReadyH.nil
          go_simp
          (go_at_call 78; refine (rended_any _ _ _ _ _ _ _ _ _ b y.id _ (HB.out.on (hbw.trans ((Below.refl _ _).drew.mono hbw.size)))).mono ?_; rintro r w5 ⟨rfl, hb5⟩)
          refine hK.out _ _ (hHeld.trans (hb5.mono hHeld.size)) (fun hHeld => ?_)
          clear hK K'
          (try simp only [List.getElem_toArray, List.getElem_cons_succ, List.getElem_cons_zero, Act.put, List.setIfInBounds_toArray, List.set_cons_zero, List.set_cons_succ])
          refine tk 17 (v := ?_) ?_ ?_
          rotate_left
          · intro w' hSw; go_simp; (try with_reducible rfl)
          refine tk 18 (v := ?_) ?_ ?_
          rotate_left
          · intro w' hSw; go_simp; (try with_reducible rfl)
          (try simp only [List.getElem_toArray, List.getElem_cons_succ, List.getElem_cons_zero, Act.put, List.setIfInBounds_toArray, List.set_cons_zero, List.set_cons_succ])
          refine wpAnyH_done (by kernel_rfl) ?_ _
          (try simp only [List.getElem_toArray, List.getElem_cons_succ, List.getElem_cons_zero, Act.put, List.setIfInBounds_toArray, List.set_cons_zero, List.set_cons_succ])
          have HR := Lib.hid (show busyB b x = true by unfold busyB; rw [List.any_eq_true]; exact ⟨y, List.mem_of_getElem? HY.out, HQ.out⟩)
          rw [HEN.out]
          go_wp2_with fail
          go_ret
          exact ⟨by rw [HR.out]; rfl, hbw.trans (hHeld.mono hbw.size)⟩
        · have HQ := Lib.hid (show (y.acc == x && !endedB b y.id) = false by simp [hen])
          have HEN := Lib.hid hen
          clear hen
          go_upto_region 4 with (fail)
          refine wp_region_held_drew (S := fun w' => Below wr.heap.size wr w') (by kernel_rfl) ((Below.refl _ _).drew) (fun hHeld => ?_)
          refine tk 0 (v := ?_) ?_ ?_
          rotate_left
          · intro w' hSw; go_simp; (try with_reducible rfl)
          refine tk 1 (v := ?_) ?_ ?_
          rotate_left
          · intro w' hSw; have zq0 := (hSw.cell (p := ⟨w.heap.size, 0, none⟩) hgr).trans qa0; have zq1 := (hSw.cell (p := ⟨w.heap.size, 1, none⟩) hgr).trans qa1; have zq2 := (hSw.cell (p := ⟨w.heap.size, 2, none⟩) hgr).trans qa2; have ze0 := (hSw.cell (p := ⟨b0, off + k * 8, none⟩) hbl2).trans e0; have ze1 := (hSw.cell (p := ⟨b0, off + k * 8 + 1, none⟩) hbl2).trans e1; go_simp; (try with_reducible rfl)
          refine tk 2 (v := ?_) ?_ ?_
          rotate_left
          · intro w' hSw; go_simp; (try with_reducible rfl)
          refine tk 3 (v := ?_) ?_ ?_
          rotate_left
          · intro w' hSw; go_simp; (try with_reducible rfl)
          refine tk 4 (v := ?_) ?_ ?_
          rotate_left
          · intro w' hSw; go_simp; (try with_reducible rfl)
          refine tk 5 (v := ?_) ?_ ?_
          rotate_left
          · intro w' hSw; have zq0 := (hSw.cell (p := ⟨w.heap.size, 0, none⟩) hgr).trans qa0; have zq1 := (hSw.cell (p := ⟨w.heap.size, 1, none⟩) hgr).trans qa1; have zq2 := (hSw.cell (p := ⟨w.heap.size, 2, none⟩) hgr).trans qa2; have ze0 := (hSw.cell (p := ⟨b0, off + k * 8, none⟩) hbl2).trans e0; have ze1 := (hSw.cell (p := ⟨b0, off + k * 8 + 1, none⟩) hbl2).trans e1; go_simp; (try with_reducible rfl)
          refine tk 6 (v := ?_) ?_ ?_
          rotate_left
          · intro w' hSw; go_simp; (try with_reducible rfl)
          refine tk 7 (v := ?_) ?_ ?_
          rotate_left
          · intro w' hSw; go_simp; (try with_reducible rfl)
          refine tk 8 (v := ?_) ?_ ?_
          rotate_left
          · intro w' hSw; go_simp; (try with_reducible rfl)
          (try simp only [List.getElem_toArray, List.getElem_cons_succ, List.getElem_cons_zero, Act.put, List.setIfInBounds_toArray, List.set_cons_zero, List.set_cons_succ])
          refine tk 9 (v := ?_) ?_ ?_
          rotate_left
          · intro w' hSw; have zq0 := (hSw.cell (p := ⟨w.heap.size, 0, none⟩) hgr).trans qa0; have zq1 := (hSw.cell (p := ⟨w.heap.size, 1, none⟩) hgr).trans qa1; have zq2 := (hSw.cell (p := ⟨w.heap.size, 2, none⟩) hgr).trans qa2; have ze0 := (hSw.cell (p := ⟨b0, off + k * 8, none⟩) hbl2).trans e0; have ze1 := (hSw.cell (p := ⟨b0, off + k * 8 + 1, none⟩) hbl2).trans e1; go_simp; (try with_reducible rfl)
          (try simp only [List.getElem_toArray, List.getElem_cons_succ, List.getElem_cons_zero, Act.put, List.setIfInBounds_toArray, List.set_cons_zero, List.set_cons_succ])
          refine tk 10 (v := ?_) ?_ ?_
          rotate_left
          · intro w' hSw; go_simp; (try with_reducible rfl)
          (try simp only [List.getElem_toArray, List.getElem_cons_succ, List.getElem_cons_zero, Act.put, List.setIfInBounds_toArray, List.set_cons_zero, List.set_cons_succ])
          refine tk 11 (v := ?_) ?_ ?_
          rotate_left
          · intro w' hSw; have zq0 := (hSw.cell (p := ⟨w.heap.size, 0, none⟩) hgr).trans qa0; have zq1 := (hSw.cell (p := ⟨w.heap.size, 1, none⟩) hgr).trans qa1; have zq2 := (hSw.cell (p := ⟨w.heap.size, 2, none⟩) hgr).trans qa2; have ze0 := (hSw.cell (p := ⟨b0, off + k * 8, none⟩) hbl2).trans e0; have ze1 := (hSw.cell (p := ⟨b0, off + k * 8 + 1, none⟩) hbl2).trans e1; go_simp; (try with_reducible rfl)
          (try simp only [List.getElem_toArray, List.getElem_cons_succ, List.getElem_cons_zero, Act.put, List.setIfInBounds_toArray, List.set_cons_zero, List.set_cons_succ])
          refine tk 12 (v := ?_) ?_ ?_
          rotate_left
          · intro w' hSw; go_simp; (try with_reducible rfl)
          (try simp only [List.getElem_toArray, List.getElem_cons_succ, List.getElem_cons_zero, Act.put, List.setIfInBounds_toArray, List.set_cons_zero, List.set_cons_succ])
          refine tk 13 (v := ?_) ?_ ?_
          rotate_left
          · intro w' hSw; go_simp; (try with_reducible rfl)
          (try simp only [List.getElem_toArray, List.getElem_cons_succ, List.getElem_cons_zero, Act.put, List.setIfInBounds_toArray, List.set_cons_zero, List.set_cons_succ])
          refine tk 14 (v := ?_) ?_ ?_
          rotate_left
          · intro w' hSw; go_simp; (try with_reducible rfl)
          (try simp only [List.getElem_toArray, List.getElem_cons_succ, List.getElem_cons_zero, Act.put, List.setIfInBounds_toArray, List.set_cons_zero, List.set_cons_succ])
          refine tk 15 (v := ?_) ?_ ?_
          rotate_left
          · intro w' hSw; have zq0 := (hSw.cell (p := ⟨w.heap.size, 0, none⟩) hgr).trans qa0; have zq1 := (hSw.cell (p := ⟨w.heap.size, 1, none⟩) hgr).trans qa1; have zq2 := (hSw.cell (p := ⟨w.heap.size, 2, none⟩) hgr).trans qa2; have ze0 := (hSw.cell (p := ⟨b0, off + k * 8, none⟩) hbl2).trans e0; have ze1 := (hSw.cell (p := ⟨b0, off + k * 8 + 1, none⟩) hbl2).trans e1; go_simp; (try with_reducible rfl)
          (try simp only [List.getElem_toArray, List.getElem_cons_succ, List.getElem_cons_zero, Act.put, List.setIfInBounds_toArray, List.set_cons_zero, List.set_cons_succ])
          refine wpAnyH_ready (rs := [16]) (by kernel_rfl) (by simp) ?_
          refine AllReadyH.cons rfl (fun K' hK => ?_) AllReadyH.nil
          go_simp
          (go_at_call 78; refine (rended_any _ _ _ _ _ _ _ _ _ b y.id _ (HB.out.on (hbw.trans ((Below.refl _ _).drew.mono hbw.size)))).mono ?_; rintro r w5 ⟨rfl, hb5⟩)
          refine hK.out _ _ (hHeld.trans (hb5.mono hHeld.size)) (fun hHeld => ?_)
          clear hK K'
          (try simp only [List.getElem_toArray, List.getElem_cons_succ, List.getElem_cons_zero, Act.put, List.setIfInBounds_toArray, List.set_cons_zero, List.set_cons_succ])
          refine tk 17 (v := ?_) ?_ ?_
          rotate_left
          · intro w' hSw; go_simp; (try with_reducible rfl)
          refine tk 18 (v := ?_) ?_ ?_
          rotate_left
          · intro w' hSw; go_simp; (try with_reducible rfl)
          (try simp only [List.getElem_toArray, List.getElem_cons_succ, List.getElem_cons_zero, Act.put, List.setIfInBounds_toArray, List.set_cons_zero, List.set_cons_succ])
          refine wpAnyH_done (by kernel_rfl) ?_ _
          (try simp only [List.getElem_toArray, List.getElem_cons_succ, List.getElem_cons_zero, Act.put, List.setIfInBounds_toArray, List.set_cons_zero, List.set_cons_succ])
          rw [HEN.out]
          go_wp2_with fail
          go_roundw
          case rel =>
            refine ⟨k + 1, by omega, by go_num, hbr.trans (hHeld.mono hbr.size), fun m z hm hz => ?_⟩
            by_cases hmk : m = k
            · subst hmk
              have h2 := HY.out
              rw [hz] at h2
              cases h2
              exact HQ.out
            · exact HN.out m z (by omega) hz
          case measure => simp [intOf]; omega
      · have HQ := Lib.hid (show (y.acc == x && !endedB b y.id) = false by simp [hac])
        have hac1 : (y.acc == x) = false := by simpa using hac
        go_upto_region 4 with (fail)
        refine wp_region_held_drew (S := fun w' => Below wr.heap.size wr w') (by kernel_rfl) ((Below.refl _ _).drew) (fun hHeld => ?_)
        refine tk 0 (v := ?_) ?_ ?_
        rotate_left
        · intro w' hSw; go_simp; (try with_reducible rfl)
        refine tk 1 (v := ?_) ?_ ?_
        rotate_left
        · intro w' hSw; have zq0 := (hSw.cell (p := ⟨w.heap.size, 0, none⟩) hgr).trans qa0; have zq1 := (hSw.cell (p := ⟨w.heap.size, 1, none⟩) hgr).trans qa1; have zq2 := (hSw.cell (p := ⟨w.heap.size, 2, none⟩) hgr).trans qa2; have ze0 := (hSw.cell (p := ⟨b0, off + k * 8, none⟩) hbl2).trans e0; have ze1 := (hSw.cell (p := ⟨b0, off + k * 8 + 1, none⟩) hbl2).trans e1; go_simp; (try with_reducible rfl)
        refine tk 2 (v := ?_) ?_ ?_
        rotate_left
        · intro w' hSw; go_simp; (try with_reducible rfl)
        refine tk 3 (v := ?_) ?_ ?_
        rotate_left
        · intro w' hSw; go_simp; (try with_reducible rfl)
        refine tk 4 (v := ?_) ?_ ?_
        rotate_left
        · intro w' hSw; go_simp; (try with_reducible rfl)
        refine tk 5 (v := ?_) ?_ ?_
        rotate_left
        · intro w' hSw; have zq0 := (hSw.cell (p := ⟨w.heap.size, 0, none⟩) hgr).trans qa0; have zq1 := (hSw.cell (p := ⟨w.heap.size, 1, none⟩) hgr).trans qa1; have zq2 := (hSw.cell (p := ⟨w.heap.size, 2, none⟩) hgr).trans qa2; have ze0 := (hSw.cell (p := ⟨b0, off + k * 8, none⟩) hbl2).trans e0; have ze1 := (hSw.cell (p := ⟨b0, off + k * 8 + 1, none⟩) hbl2).trans e1; go_simp; (try with_reducible rfl)
        refine tk 6 (v := ?_) ?_ ?_
        rotate_left
        · intro w' hSw; go_simp; (try with_reducible rfl)
        refine tk 7 (v := ?_) ?_ ?_
        rotate_left
        · intro w' hSw; go_simp; (try with_reducible rfl)
        refine tk 8 (v := ?_) ?_ ?_
        rotate_left
        · intro w' hSw; go_simp; (try with_reducible rfl)
        (try simp only [List.getElem_toArray, List.getElem_cons_succ, List.getElem_cons_zero, Act.put, List.setIfInBounds_toArray, List.set_cons_zero, List.set_cons_succ])
        refine tko 9 ?_
        (try simp only [List.getElem_toArray, List.getElem_cons_succ, List.getElem_cons_zero, Act.put, List.setIfInBounds_toArray, List.set_cons_zero, List.set_cons_succ])
        refine tko 10 ?_
        (try simp only [List.getElem_toArray, List.getElem_cons_succ, List.getElem_cons_zero, Act.put, List.setIfInBounds_toArray, List.set_cons_zero, List.set_cons_succ])
        refine tko 11 ?_
        (try simp only [List.getElem_toArray, List.getElem_cons_succ, List.getElem_cons_zero, Act.put, List.setIfInBounds_toArray, List.set_cons_zero, List.set_cons_succ])
        refine tko 12 ?_
        (try simp only [List.getElem_toArray, List.getElem_cons_succ, List.getElem_cons_zero, Act.put, List.setIfInBounds_toArray, List.set_cons_zero, List.set_cons_succ])
        refine tko 13 ?_
        (try simp only [List.getElem_toArray, List.getElem_cons_succ, List.getElem_cons_zero, Act.put, List.setIfInBounds_toArray, List.set_cons_zero, List.set_cons_succ])
        refine tko 14 ?_
        (try simp only [List.getElem_toArray, List.getElem_cons_succ, List.getElem_cons_zero, Act.put, List.setIfInBounds_toArray, List.set_cons_zero, List.set_cons_succ])
        refine tko 15 ?_
        (try simp only [List.getElem_toArray, List.getElem_cons_succ, List.getElem_cons_zero, Act.put, List.setIfInBounds_toArray, List.set_cons_zero, List.set_cons_succ])
        refine tko 16 ?_
        (try simp only [List.getElem_toArray, List.getElem_cons_succ, List.getElem_cons_zero, Act.put, List.setIfInBounds_toArray, List.set_cons_zero, List.set_cons_succ])
        refine tko 17 ?_
        refine tk 18 (v := ?_) ?_ ?_
        rotate_left
        · intro w' hSw; go_simp; (try with_reducible rfl)
        (try simp only [List.getElem_toArray, List.getElem_cons_succ, List.getElem_cons_zero, Act.put, List.setIfInBounds_toArray, List.set_cons_zero, List.set_cons_succ])
        refine wpAnyH_done (by kernel_rfl) ?_ _
        (try simp only [List.getElem_toArray, List.getElem_cons_succ, List.getElem_cons_zero, Act.put, List.setIfInBounds_toArray, List.set_cons_zero, List.set_cons_succ])
        go_wp2_with fail
        go_roundw
        case rel =>
          refine ⟨k + 1, by omega, by go_num, hbr.trans (hHeld.mono hbr.size), fun m z hm hz => ?_⟩
          by_cases hmk : m = k
          · subst hmk
            have h2 := HY.out
            rw [hz] at h2
            cases h2
            exact HQ.out
          · exact HN.out m z (by omega) hz
        case measure => simp [intOf]; omega
    · obtain rfl : ns = k := by omega
      have hkn : ¬ ((ns : Int) < (ns : Int)) := by omega
      have hln := HB.out.s.len
      have HR := Lib.hid (show busyB b x = false by
        unfold busyB
        rw [List.any_eq_false]
        intro z hz
        obtain ⟨m, hm⟩ := List.getElem?_of_mem hz
        rw [HN.out m z (by have := (List.getElem?_eq_some_iff.1 hm).1; omega) hm]
        decide)
      clear hln
      go_wp2_with fail
      go_ret
      exact ⟨by rw [HR.out]; rfl, hbw⟩
end Cu
end Go.Proofs.Yteaanngagcflhaa
