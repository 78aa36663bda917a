/-
  Dedup: insert. No condition.
-/
import Derived.Test.YtdcekckghlpamaaDedG
import Derived.BigQuiet
import Derived.StillTailTactics
import Derived.Lib.Overlaps
import Derived.Deep.DeepCutAuto
set_option maxRecDepth 100000
set_option linter.unusedVariables false
set_option linter.unusedSimpArgs false
namespace Go.Proofs.Ytdcekckghlpamaa
open Go.RowKit

namespace Dd

/-- two neighbours that touch become one -/
def mergeAt (l : List Rng) (i : Nat) : List Rng :=
  match l[i]?, l[i+1]? with
  | some a, some b => if a.src == b.src && a.hi + 1 == b.lo then (l.set i ⟨a.src, a.lo, b.hi⟩).take (i + 1) ++ (l.set i ⟨a.src, a.lo, b.hi⟩).drop (i + 1 + 1) else l
  | _, _ => l
theorem mergeAt_yes {l : List Rng} {i : Nat} {a b : Rng} (ha : l[i]? = some a) (hb : l[i+1]? = some b) (h : (a.src == b.src && a.hi + 1 == b.lo) = true) :
    mergeAt l i = (l.set i ⟨a.src, a.lo, b.hi⟩).take (i + 1) ++ (l.set i ⟨a.src, a.lo, b.hi⟩).drop (i + 1 + 1) := by
  simp only [mergeAt, ha, hb]; rw [if_pos h]
theorem mergeAt_no {l : List Rng} {i : Nat} {a b : Rng} (ha : l[i]? = some a) (hb : l[i+1]? = some b) (h : (a.src == b.src && a.hi + 1 == b.lo) = false) : mergeAt l i = l := by
  simp only [mergeAt, ha, hb]; rw [if_neg (by simp [h])]
theorem mergeAt_end {l : List Rng} {i : Nat} (h : l.length ≤ i + 1) : mergeAt l i = l := by
  simp only [mergeAt]
  rw [List.getElem?_eq_none h]
  cases l[i]? <;> rfl
def insL (xs : List Rng) (i : Nat) (y : Rng) : List Rng :=
  if 0 < i then mergeAt (mergeAt (xs.take i ++ y :: xs.drop i) i) (i - 1) else mergeAt (xs.take i ++ y :: xs.drop i) i
/-- bounds that a merge keeps -/
def Bh (l : List Rng) : Prop := ∀ x ∈ l, 0 ≤ x.hi ∧ x.hi ≤ 999999999
theorem Bh.get {l : List Rng} (h : Bh l) {i : Nat} {x : Rng} (hx : l[i]? = some x) : -9223372036854775808 ≤ x.hi ∧ x.hi < 9223372036854775807 := by
  have := h x (List.mem_of_getElem? hx); omega
theorem Bh.merge {l : List Rng} (h : Bh l) (i : Nat) : Bh (mergeAt l i) := by
  intro x hx
  cases ha : l[i]? with
  | none => simp only [mergeAt, ha] at hx; exact h x hx
  | some a =>
    cases hb : l[i+1]? with
    | none => simp only [mergeAt, ha, hb] at hx; exact h x hx
    | some b =>
      simp only [mergeAt, ha, hb] at hx
      split at hx
      · have h2 : x ∈ l.set i ⟨a.src, a.lo, b.hi⟩ := by
          rcases List.mem_append.1 hx with h1 | h1
          · exact List.mem_of_mem_take h1
          · exact List.mem_of_mem_drop h1
        rcases List.mem_or_eq_of_mem_set h2 with h3 | rfl
        · exact h x h3
        · exact h b (List.mem_of_getElem? hb)
      · exact h x hx
theorem merge_len {l : List Rng} (i : Nat) : (mergeAt l i).length ≤ l.length ∧ l.length ≤ (mergeAt l i).length + 1 := by
  unfold mergeAt
  split
  · split
    · simp; omega
    · omega
  · omega

theorem delete_int (base : Nat) (v : Value) (xs : List Rng) (i : Nat) (a b : Int) (ha : a = (i : Int)) (hb : b = (i : Int) + 1) (w : World) (hown : Ow w base 30 v xs) (hi : i < xs.length) (hlen : xs.length ≤ 100000) :
    Calls Try.prog 39 #[v, .int .i64 a, .int .i64 b] w fun e w' => ∃ v', e = .returned v' ∧ Ow w' base 30 v' (xs.take i ++ xs.drop (i + 1)) ∧ Upd w w' v v' := by
  subst ha hb
  exact delete_any base v xs i w hown hi hlen

def InsRet (w : World) (base : Nat) (v : Value) (l : List Rng) (e : Ending) (w' : World) : Prop := ∃ v', e = .returned v' ∧ Ow w' base 30 v' l ∧ Upd w w' v v'

def MergeTest (base : Nat) (w : World) (v : Value) (l : List Rng) (i g cap : Nat) (s : Value) (wx : World) : Prop :=
  ∃ t : Bool, s = .bool t ∧ (t = true → ∃ a b, l[i]? = some a ∧ l[i+1]? = some b ∧ (a.src == b.src && a.hi + 1 == b.lo) = true) ∧ (t = false → mergeAt l i = l) ∧
    Ow wx base 30 (.slice (some ⟨g, 0, none⟩) l.length cap) l ∧ Upd w wx v (.slice (some ⟨g, 0, none⟩) l.length cap)
def MergeDone (base : Nat) (w : World) (v : Value) (l : List Rng) (s : Value) (wx : World) : Prop :=
  ∃ g cap, s = .slice (some ⟨g, 0, none⟩) l.length cap ∧ Ow wx base 30 (.slice (some ⟨g, 0, none⟩) l.length cap) l ∧ Upd w wx v (.slice (some ⟨g, 0, none⟩) l.length cap) ∧ cap ≤ 2 ^ 63 - 1

theorem MergeDone.mk_ {base : Nat} {w w' : World} {v v' : Value} {l : List Rng} (ho : Ow w' base 30 v' l) (hu : Upd w w' v v') (hpos : 0 < l.length) : MergeDone base w v l v' w' := by
  obtain ⟨g, cap, cur, rfl, _, _, _, hcm, _⟩ := ho.whole hpos
  exact ⟨g, cap, rfl, ho, hu, by unfold maxLen at hcm; exact hcm⟩
theorem merge_pos {l : List Rng} {i : Nat} (h : i < l.length) : i < (mergeAt l i).length := by
  by_cases h2 : i + 1 < l.length
  · have := (merge_len (l := l) i).2; omega
  · rw [mergeAt_end (by omega)]; exact h

set_option maxHeartbeats 400000 in
theorem ins_any (base : Nat) (v : Value) (xs : List Rng) (src ser : Int) (w : World) (hown : Ow w base 30 v xs) (hB : Bh xs) (hser : 0 ≤ ser ∧ ser ≤ 999999999) (hlen : xs.length ≤ 10000) (hbase : base ≤ w.heap.size) :
    Calls Try.prog 30 #[v, .int .i64 src, .int .i64 ser] w fun e w' => ∃ i, i ≤ xs.length ∧ (∀ x, 0 < i → xs[i-1]? = some x → pastR src ser x = false) ∧ (∀ x, xs[i]? = some x → pastR src ser x = true) ∧ InsRet w base v (insL xs i ⟨src, ser, ser⟩) e w' := by
  obtain ⟨A, c, rfl, hsl⟩ := hown.sl
  obtain ⟨hs1, hs2⟩ := hser
  have HOWN := Lib.hid hown
  have HSL := Lib.hid hsl
  have HB := Lib.hid hB
  clear hown hsl hB
  have hvlt : ∀ g, (Value.slice A xs.length c).ownBlock = some g → g < w.heap.size := fun g h => (HOWN.out.lt g h).2
  have HVLT := Lib.hid hvlt
  clear hvlt
  go_enter Try.func30, Try.ntmps30
  go_wp2_with fail
  refine (place_any A xs.length c xs src ser _ HSL.out (by omega)).mono ?_
  rintro e w1 ⟨i, rfl, hp1, hp2, hp3, hb1⟩
  have HP := Lib.hid (And.intro hp2 hp3)
  clear hp2 hp3
  have hz1 := hb1.size
  go_wp2_with fail
  refine (insert_any base _ xs ⟨src, ser, ser⟩ w1.heap.size i _ ((HOWN.out.below hb1).alloc _) (heap_alloc_new w1 _) (fun h => by have := HVLT.out _ h; omega) hp1 (by omega) (by simp; omega)).mono ?_
  rintro e w2 ⟨v2, rfl, hown2, hu2⟩
  have hu2' : Upd w w2 (.slice A xs.length c) v2 := Upd.ofBelow (hb1.alloc hz1 _) hu2 HVLT.out
  have hl2 : (xs.take i ++ (⟨src, ser, ser⟩ : Rng) :: xs.drop i).length = xs.length + 1 := by simp; omega
  have hB2 : Bh (xs.take i ++ (⟨src, ser, ser⟩ : Rng) :: xs.drop i) := by
    intro x hx
    rcases List.mem_append.1 hx with h | h
    · exact HB.out x (List.mem_of_mem_take h)
    · rcases List.mem_cons.1 h with rfl | h
      · exact ⟨hs1, hs2⟩
      · exact HB.out x (List.mem_of_mem_drop h)
  have hbase2 : base ≤ w2.heap.size := by have := hu2'.size; omega
  have hy2 : (xs.take i ++ (⟨src, ser, ser⟩ : Rng) :: xs.drop i)[i]? = some ⟨src, ser, ser⟩ := by
    rw [List.getElem?_append_right (by simp; omega), List.length_take, Nat.min_eq_left hp1]; simp
  have HFIN : Hid (∀ l : List Rng, l = xs.take i ++ (⟨src, ser, ser⟩ : Rng) :: xs.drop i → insL xs i ⟨src, ser, ser⟩ = if 0 < i then mergeAt (mergeAt l i) (i - 1) else mergeAt l i) := Lib.hid (fun l hl => by rw [hl]; rfl)
  generalize hl : xs.take i ++ (⟨src, ser, ser⟩ : Rng) :: xs.drop i = l at *
  have hF := HFIN.out l rfl
  have HF := Lib.hid hF
  clear HFIN hF hl hu2
  obtain ⟨g2, cap2, cur2, rfl, hbg2, _, hnc2, hcm2, _⟩ := hown2.whole (by omega)
  have HL2 := Lib.hid hl2
  have hl2a : l.length ≤ 10001 := by omega
  have hl2b : i < l.length := by omega
  have hl2c : xs.length + 1 ≤ l.length := by omega
  have hl2d : l.length ≤ xs.length + 1 := by omega
  unfold maxLen at hcm2
  have HOWN2 := Lib.hid hown2
  have HY2 := Lib.hid hy2
  have HB2 := Lib.hid hB2
  have HU2 := Lib.hid hu2'
  clear hl2 hown2 hy2 hB2 hu2' hb1 HVLT HSL HOWN HB
  go_upto_if 36 with fail
  go_cut [36] (fun s wx => MergeTest base w (.slice A xs.length c) l i g2 cap2 s wx)
  case first =>
    by_cases hin : i < xs.length
    · obtain ⟨q, hq⟩ : ∃ q, l[i+1]? = some q := ⟨l[i+1]'(by omega), List.getElem?_eq_getElem (by omega)⟩
      have c0 : w2.cell? ⟨g2, i * 3, none⟩ = some (.int .i64 src) := HOWN2.out.at_ HY2.out 0 rfl
      have c1 : w2.cell? ⟨g2, i * 3 + 1, none⟩ = some (.int .i64 ser) := HOWN2.out.at_ HY2.out 1 rfl
      have c2 : w2.cell? ⟨g2, i * 3 + 2, none⟩ = some (.int .i64 ser) := HOWN2.out.at_ HY2.out 2 rfl
      have d0 : w2.cell? ⟨g2, (i + 1) * 3, none⟩ = some (.int .i64 q.src) := HOWN2.out.at_ hq 0 rfl
      have d1 : w2.cell? ⟨g2, (i + 1) * 3 + 1, none⟩ = some (.int .i64 q.lo) := HOWN2.out.at_ hq 1 rfl
      have d2 : w2.cell? ⟨g2, (i + 1) * 3 + 2, none⟩ = some (.int .i64 q.hi) := HOWN2.out.at_ hq 2 rfl
      have HQ := Lib.hid hq
      clear hq
      obtain ⟨t, ht⟩ : ∃ t, t = (src == q.src && ser + 1 == q.lo) := ⟨_, rfl⟩
      have htc : ∀ W, Calls Try.prog 38 #[.agg #[.int .i64 src, .int .i64 ser, .int .i64 ser], .agg #[.int .i64 q.src, .int .i64 q.lo, .int .i64 q.hi]] W fun e w' => e = .returned (.bool t) ∧ Below W.heap.size W w' :=
        fun W => (touch_any src ser ser q.src q.lo q.hi W (by omega)).mono fun e w' ⟨he, hb⟩ => ⟨he.trans (by rw [ht]), hb⟩
      have HTC := Lib.hid htc
      have HT := Lib.hid ht
      clear htc ht
      have hw1 : IntKind.i64.wrap ((i : Int) + 1) = (i : Int) + 1 := IntWalk.i64_in _ (by omega)
      have hw2 : 0 ≤ (i : Int) + 1 := by omega
      have hw3 : (i : Int) + 1 < (l.length : Int) := by omega
      have hw4 : ((i : Int) + 1).toNat = i + 1 := by omega
      have hw5 : (i : Int) < (l.length : Int) := by omega
      have hw6 : i + 1 < l.length := by omega
      go_still_tail 15, (by kernel_rfl)
      change wpList _ _ _ _ _ w2.drew
      go_wp2_with fail
      refine (HTC.out _).mono ?_
      rintro e w3 ⟨rfl, hb3⟩
      go_wp2_with fail
      go_meet
      refine ⟨t, rfl, fun h => ⟨_, _, HY2.out, HQ.out, ?_⟩, fun h => mergeAt_no HY2.out HQ.out ?_, (HOWN2.out.drew).below hb3, (HU2.out.drew).below hb3⟩
      · rw [← h]; exact HT.out.symm
      · rw [← h]; exact HT.out.symm
    · have hw1 : IntKind.i64.wrap ((i : Int) + 1) = (i : Int) + 1 := IntWalk.i64_in _ (by omega)
      have hw3 : decide ((i : Int) + 1 < (l.length : Int)) = false := decide_eq_false (by omega)
      have hw6 : decide (i + 1 < l.length) = false := decide_eq_false (by omega)
      ((with_reducible refine wp_region_quiet_lit ?_ ?_ ?_); kernel_rfl; kernel_rfl; (repeat (any_goals (first | go_big_quiet_step (fail) | (refine wpQuiet_step (fun K hK => ?_); go_simp; (first | (refine hK _ ?_; clear hK K) | (split <;> rename_i hg <;> (refine hK _ ?_; clear hK K) <;> (try simp only [Bool.not_eq_true] at hg) <;> (first | simp only [Int.not_lt.2 hg, decide_false] | simp only [Int.not_le.1 hg, decide_true] | simp only [hg, decide_true, decide_false] | skip))))))); all_goals (refine wpQuiet_nil ?_; intro _ hw'; obtain ⟨nq, hw''⟩ := hw'; subst hw''))
      go_wp2_with fail
      go_meet
      exact ⟨false, rfl, fun h => by simp at h, fun _ => mergeAt_end (by omega), HOWN2.out.drewN _, HU2.out.drewN _⟩
  case rest =>
    obtain ⟨t, rfl, h1, h2, ho3, hu3⟩ := hcut
    have H1 := Lib.hid h1
    have H2 := Lib.hid h2
    have HO3 := Lib.hid ho3
    have HU3 := Lib.hid hu3
    clear h1 h2 ho3 hu3 HOWN2 HU2 HY2
    have hz3 : w.heap.size ≤ wc.heap.size := HU3.out.size
    go_upto_if 36 with fail
    go_cut [0] (fun s wx => MergeDone base w (.slice A xs.length c) (mergeAt l i) s wx)
    case first =>
      cases t with
      | false =>
        go_wp2_with fail
        go_meet
        have h2 : mergeAt l i = l := H2.out (by simp)
        rw [h2]
        exact ⟨g2, cap2, rfl, HO3.out, HU3.out, hcm2⟩
      | true =>
        obtain ⟨a, q, ha, hq, htq⟩ := H1.out rfl
        have c2 : wc.cell? ⟨g2, i * 3 + 2, none⟩ = some (.int .i64 a.hi) := HO3.out.at_ ha 2 rfl
        have d2 : wc.cell? ⟨g2, (i + 1) * 3 + 2, none⟩ = some (.int .i64 q.hi) := HO3.out.at_ hq 2 rfl
        have f2 : wc.frozen? ⟨g2, i * 3 + 2, none⟩ = false := HO3.out.unfrozen _
        have HM := Lib.hid (mergeAt_yes ha hq htq)
        have HO4 := Lib.hid (HO3.out.stored (x' := ⟨a.src, a.lo, q.hi⟩) ha 2 (.int .i64 q.hi) (by decide) rfl)
        have HLL : Hid ((l.set i (⟨a.src, a.lo, q.hi⟩ : Rng)).length = l.length) := Lib.hid (by simp)
        have hq1 := (List.getElem?_eq_some_iff.1 hq).1
        clear ha hq htq
        go_wp2_with fail
        refine (delete_int base _ (l.set i (⟨a.src, a.lo, q.hi⟩ : Rng)) (i + 1) _ _ (by omega) (by omega) _ HO4.out (by rw [HLL.out]; omega) (by rw [HLL.out]; omega)).mono ?_
        rintro e w4 ⟨v4, rfl, hown4, hu4⟩
        rw [← HM.out] at hown4
        have hu5 := (HU3.out.stored (i * 3 + 2) (.int .i64 q.hi)).trans hu4
        go_wp2_with fail
        go_meet
        exact MergeDone.mk_ hown4 hu5 (by have := merge_pos hl2b; omega)
    case rest =>
      obtain ⟨g3, cap3, rfl, ho3, hu3, hcm3⟩ := hcut
      have hp3 := merge_pos hl2b
      have hB3 := HB2.out.merge i
      have hl3 := (merge_len (l := l) i).1
      have HINS : Hid (insL xs i ⟨src, ser, ser⟩ = if 0 < i then mergeAt (mergeAt l i) (i - 1) else mergeAt l i) := HF
      generalize hg : mergeAt l i = l2 at *
      have HO3 := Lib.hid ho3
      have HU3 := Lib.hid hu3
      have HB3 := Lib.hid hB3
      clear hg ho3 hu3 hB3 H1 H2 HF HB2 HL2
      have hl4 : l2.length ≤ 10001 := by omega
      clear hl3
      go_upto_if 66 with fail
      go_cut [66] (fun s wx => (i = 0 → s = .bool false ∧ Ow wx base 30 (.slice (some ⟨g3, 0, none⟩) l2.length cap3) l2 ∧ Upd w wx (.slice A xs.length c) (.slice (some ⟨g3, 0, none⟩) l2.length cap3)) ∧ (0 < i → MergeTest base w (.slice A xs.length c) l2 (i - 1) g3 cap3 s wx))
      case first =>
        by_cases h0 : 0 < i
        · obtain ⟨p, hp⟩ : ∃ p, l2[i-1]? = some p := ⟨l2[i-1]'(by omega), List.getElem?_eq_getElem (by omega)⟩
          obtain ⟨y, hy⟩ : ∃ y, l2[i-1+1]? = some y := ⟨l2[i-1+1]'(by omega), List.getElem?_eq_getElem (by omega)⟩
          have hpb := HB3.out.get hp
          have hi1 : i - 1 + 1 = i := by omega
          have hy' : l2[i]? = some y := by rw [← hi1]; exact hy
          have c0 : wc.cell? ⟨g3, (i - 1) * 3, none⟩ = some (.int .i64 p.src) := HO3.out.at_ hp 0 rfl
          have c1 : wc.cell? ⟨g3, (i - 1) * 3 + 1, none⟩ = some (.int .i64 p.lo) := HO3.out.at_ hp 1 rfl
          have c2 : wc.cell? ⟨g3, (i - 1) * 3 + 2, none⟩ = some (.int .i64 p.hi) := HO3.out.at_ hp 2 rfl
          have d0 : wc.cell? ⟨g3, i * 3, none⟩ = some (.int .i64 y.src) := HO3.out.at_ hy' 0 rfl
          have d1 : wc.cell? ⟨g3, i * 3 + 1, none⟩ = some (.int .i64 y.lo) := HO3.out.at_ hy' 1 rfl
          have d2 : wc.cell? ⟨g3, i * 3 + 2, none⟩ = some (.int .i64 y.hi) := HO3.out.at_ hy' 2 rfl
          have HY := Lib.hid hy
          have HPP := Lib.hid hp
          clear hy hp hy' hi1
          obtain ⟨t, ht⟩ : ∃ t, t = (p.src == y.src && p.hi + 1 == y.lo) := ⟨_, rfl⟩
          have htc : ∀ W, Calls Try.prog 38 #[.agg #[.int .i64 p.src, .int .i64 p.lo, .int .i64 p.hi], .agg #[.int .i64 y.src, .int .i64 y.lo, .int .i64 y.hi]] W fun e w' => e = .returned (.bool t) ∧ Below W.heap.size W w' :=
            fun W => (touch_any p.src p.lo p.hi y.src y.lo y.hi W hpb).mono fun e w' ⟨he, hb⟩ => ⟨he.trans (by rw [ht]), hb⟩
          have HTC := Lib.hid htc
          have HT := Lib.hid ht
          clear htc ht hpb
          have hw1 : IntKind.i64.wrap ((i : Int) - 1) = (i : Int) - 1 := IntWalk.i64_in _ (by omega)
          have hw2 : 0 ≤ (i : Int) - 1 := by omega
          have hw2' : 1 ≤ (i : Int) := by omega
          have hw3 : (i : Int) - 1 < (l2.length : Int) := by omega
          have hw4 : ((i : Int) - 1).toNat = i - 1 := by omega
          have hw5 : (i : Int) < (l2.length : Int) := by omega
          have hw6 : i - 1 < l2.length := by omega
          go_still_tail 12, (by kernel_rfl)
          change wpList _ _ _ _ _ wc.drew
          go_wp2_with fail
          refine (HTC.out _).mono ?_
          rintro e w3 ⟨rfl, hb3⟩
          go_wp2_with fail
          go_meet
          refine ⟨fun h => by omega, fun _ => ⟨t, rfl, fun h => ⟨_, _, HPP.out, HY.out, ?_⟩, fun h => mergeAt_no HPP.out HY.out ?_, (HO3.out.drew).below hb3, (HU3.out.drew).below hb3⟩⟩
          · rw [← h]; exact HT.out.symm
          · rw [← h]; exact HT.out.symm
        · have hd0 : decide (0 < i) = false := decide_eq_false h0
          ((with_reducible refine wp_region_quiet_lit ?_ ?_ ?_); kernel_rfl; kernel_rfl; (repeat (any_goals (first | go_big_quiet_step (fail) | (refine wpQuiet_step (fun K hK => ?_); go_simp; (first | (refine hK _ ?_; clear hK K) | (split <;> rename_i hg <;> (refine hK _ ?_; clear hK K) <;> (try simp only [Bool.not_eq_true] at hg) <;> (first | simp only [Int.not_lt.2 hg, decide_false] | simp only [Int.not_le.1 hg, decide_true] | simp only [hg, decide_true, decide_false] | skip))))))); all_goals (refine wpQuiet_nil ?_; intro _ hw'; obtain ⟨nq, hw''⟩ := hw'; subst hw''))
          go_wp2_with fail
          go_meet
          exact ⟨fun _ => ⟨rfl, HO3.out.drewN _, HU3.out.drewN _⟩, fun h => absurd h h0⟩
      case rest =>
        obtain ⟨hc1, hc2⟩ := hcut
        have HC1 := Lib.hid hc1
        have HC2 := Lib.hid hc2
        clear hc1 hc2 HO3 HU3
        by_cases h0 : 0 < i
        · obtain ⟨t, rfl, h1, h2, ho4, hu4⟩ := HC2.out h0
          clear HC1 HC2
          cases t with
          | false =>
            have H2 := Lib.hid (h2 rfl)
            have HO4 := Lib.hid ho4
            have HU4 := Lib.hid hu4
            clear h1 h2 ho4 hu4
            go_wp2_with fail
            go_ret
            refine ⟨i, hp1, HP.out.1, HP.out.2, _, rfl, ?_, HU4.out⟩
            rw [HINS.out, if_pos h0, H2.out]
            exact HO4.out
          | true =>
            obtain ⟨a, q, ha, hq, htq⟩ := h1 rfl
            have hi1 : i - 1 + 1 = i := by omega
            have hq' : l2[i]? = some q := by rw [← hi1]; exact hq
            have c2 : wc.cell? ⟨g3, (i - 1) * 3 + 2, none⟩ = some (.int .i64 a.hi) := ho4.at_ ha 2 rfl
            have d2 : wc.cell? ⟨g3, i * 3 + 2, none⟩ = some (.int .i64 q.hi) := ho4.at_ hq' 2 rfl
            have f2 : wc.frozen? ⟨g3, (i - 1) * 3 + 2, none⟩ = false := ho4.unfrozen _
            have HM := Lib.hid (mergeAt_yes ha hq htq)
            have HO4 := Lib.hid (ho4.stored (x' := ⟨a.src, a.lo, q.hi⟩) ha 2 (.int .i64 q.hi) (by decide) rfl)
            have HU4 := Lib.hid (hu4.stored ((i - 1) * 3 + 2) (.int .i64 q.hi))
            have HLL : Hid ((l2.set (i - 1) (⟨a.src, a.lo, q.hi⟩ : Rng)).length = l2.length) := Lib.hid (by simp)
            clear ha hq htq h1 h2 ho4 hu4 hi1 hq'
            go_wp2_with fail
            skip
            refine (delete_int base _ (l2.set (i - 1) (⟨a.src, a.lo, q.hi⟩ : Rng)) i _ _ (by omega) (by omega) _ HO4.out (by rw [HLL.out]; omega) (by rw [HLL.out]; omega)).mono ?_
            rintro e w4 ⟨v4, rfl, hown4, hu4⟩
            have HH : Hid (Ow w4 base 30 v4 (insL xs i ⟨src, ser, ser⟩) ∧ Upd w w4 (.slice A xs.length c) v4) := by
              refine Lib.hid ⟨?_, HU4.out.trans hu4⟩
              rw [HINS.out, if_pos h0, HM.out, show i - 1 + 1 = i from by omega]
              exact hown4
            clear hown4 hu4
            go_wp2_with fail
            go_ret
            exact ⟨i, hp1, HP.out.1, HP.out.2, _, rfl, HH.out.1, HH.out.2⟩
        · obtain ⟨rfl, ho4, hu4⟩ := HC1.out (by omega)
          have HO4 := Lib.hid ho4
          have HU4 := Lib.hid hu4
          clear HC1 HC2 ho4 hu4
          go_wp2_with fail
          go_ret
          refine ⟨i, hp1, HP.out.1, HP.out.2, _, rfl, ?_, HU4.out⟩
          rw [HINS.out, if_neg h0]
          exact HO4.out

end Dd
end Go.Proofs.Ytdcekckghlpamaa
