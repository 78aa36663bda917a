/-
  Numbers, in plain words: when. No condition.
-/
import Derived.Test.YteaanngagcflhaaKa24
import Derived.Test.YteaanngagcflhaaKa21
import Derived.BigQuiet
import Derived.StillTailTactics
import Derived.Lib.Overlaps
import Derived.Deep.DeepCutAuto
import Derived.Deep.RegionWith
import Derived.Laws.RangeAny
import Derived.Laws.IdiomArrays
set_option maxRecDepth 100000
set_option linter.unusedVariables false
set_option linter.unusedSimpArgs false
namespace Go.Proofs.Yteaanngagcflhaa
open Go.RowKit
namespace Nb
open Cu
theorem bk_between {l : List Ev} (hv : Vl l) {k : Nat} {e : Ev} (h : l[k]? = some e) {t : Int} (h1 : e.at_ ≤ t) (h2 : t < toN l (k + 1)) : bkAt l t = bkN l (k + 1) := by
  have hk := (List.getElem?_eq_some_iff.1 h).1
  rw [(bkAt_N hv t).1]
  congr 1
  refine cutN_eq (by omega) (fun m y hm hy => ?_) (fun y hy => ?_)
  · have := hv.asc m k y e (by omega) hy h; omega
  · rw [toN_at hy] at h2; omega
theorem bk_before {l : List Ev} (hv : Vl l) {t : Int} (h2 : t < toN l 0) : bkAt l t = bk0 := by
  rw [(bkAt_N hv t).1, show cutN l t = 0 from cutN_eq (Nat.zero_le _) (fun m y hm => absurd hm (Nat.not_lt_zero _)) (fun y hy => by rw [toN_at hy] at h2; omega)]
  rfl
structure CH (l : List Ev) (x : ByteArray) (T : Int) (out : List Od) : Prop where
  good : ∀ d ∈ out, 0 ≤ d.from_ ∧ d.from_ < d.to_ ∧ d.to_ ≤ 12622780800 ∧ d.to_ ≤ T
  nb : ∀ (i : Nat) (a b : Od), out[i]? = some a → out[i + 1]? = some b → a.to_ ≤ b.from_ ∧ ¬ (a.to_ = b.from_ ∧ a.sub = b.sub)
  cov : ∀ t n, 0 ≤ t → t < T → ((∃ d ∈ out, d.from_ ≤ t ∧ t < d.to_ ∧ d.sub = n) ↔ ownB (bkAt l t) x = some n)
theorem ch_0 {l : List Ev} (hv : Vl l) (x : ByteArray) : CH l x (toN l 0) [] :=
  ⟨fun d hd => (by cases hd), fun i a b h => (by simp at h), fun t n _ h => (by rw [bk_before hv h, ownB_0]; simp)⟩
theorem ch_none {l : List Ev} {x : ByteArray} {T T' : Int} {out : List Od} (h : CH l x T out) (hT : T ≤ T') (hn : ∀ t, T ≤ t → t < T' → ownB (bkAt l t) x = none) : CH l x T' out :=
  ⟨fun d hd => by have := h.good d hd; omega, h.nb, fun t n h0 ht => by
    by_cases hlt : t < T
    · exact h.cov t n h0 hlt
    · rw [hn t (by omega) ht]
      constructor
      · rintro ⟨d, hd, h1, h2, _⟩
        have := h.good d hd; omega
      · intro e; cases e⟩
theorem ch_app {l : List Ev} {x : ByteArray} {T T' : Int} {out : List Od} {m : Int} (h : CH l x T out) (h0 : 0 ≤ T) (hT : T < T') (hF : T' ≤ 12622780800) (hn : ∀ t, T ≤ t → t < T' → ownB (bkAt l t) x = some m)
    (hl : ∀ d, out.getLast? = some d → ¬ (d.sub = m ∧ d.to_ = T)) : CH l x T' (out ++ [⟨m, T, T'⟩]) := by
  refine ⟨fun d hd => ?_, fun i a b ha hb => ?_, fun t n h1 ht => ?_⟩
  · rcases List.mem_append.1 hd with hd | hd
    · have := h.good d hd; omega
    · rw [List.mem_singleton] at hd; subst hd; dsimp only; omega
  · have hi : i + 1 < (out ++ [(⟨m, T, T'⟩ : Od)]).length := (List.getElem?_eq_some_iff.1 hb).1
    rw [List.length_append, List.length_singleton] at hi
    rw [List.getElem?_append_left (by omega)] at ha
    by_cases h2 : i + 1 < out.length
    · rw [List.getElem?_append_left h2] at hb
      exact h.nb i a b ha hb
    · have h3 : i + 1 = out.length := by omega
      rw [h3, List.getElem?_append_right (Nat.le_refl _), Nat.sub_self] at hb
      simp at hb
      subst hb
      have hg := h.good a (List.mem_of_getElem? ha)
      have hla : out.getLast? = some a := by rw [List.getLast?_eq_getElem?, show out.length - 1 = i by omega]; exact ha
      exact ⟨hg.2.2.2, fun e => hl a hla ⟨e.2, e.1⟩⟩
  · by_cases hlt : t < T
    · rw [← h.cov t n h1 hlt]
      constructor
      · rintro ⟨d, hd, h2, h3, h4⟩
        rcases List.mem_append.1 hd with hd | hd
        · exact ⟨d, hd, h2, h3, h4⟩
        · rw [List.mem_singleton] at hd; subst hd; dsimp only at h2; omega
      · rintro ⟨d, hd, h2⟩
        exact ⟨d, List.mem_append_left _ hd, h2⟩
    · rw [hn t (by omega) ht]
      constructor
      · rintro ⟨d, hd, h2, h3, h4⟩
        rcases List.mem_append.1 hd with hd | hd
        · have := h.good d hd; omega
        · rw [List.mem_singleton] at hd; subst hd; exact congrArg some h4
      · intro e
        cases e
        exact ⟨⟨m, T, T'⟩, List.mem_append_right _ (List.mem_singleton.2 rfl), by dsimp only; omega, ht, rfl⟩
theorem ch_ext {l : List Ev} {x : ByteArray} {T T' : Int} {out : List Od} {d : Od} (h : CH l x T (out ++ [d])) (h0 : 0 ≤ T) (hT : T < T') (hF : T' ≤ 12622780800) (hd : d.to_ = T) (hn : ∀ t, T ≤ t → t < T' → ownB (bkAt l t) x = some d.sub) :
    CH l x T' (out ++ [⟨d.sub, d.from_, T'⟩]) := by
  have hg := h.good d (List.mem_append_right _ (List.mem_singleton.2 rfl))
  refine ⟨fun e he => ?_, fun i a b ha hb => ?_, fun t n h1 ht => ?_⟩
  · rcases List.mem_append.1 he with he | he
    · have := h.good e (List.mem_append_left _ he); omega
    · rw [List.mem_singleton] at he; subst he; dsimp only; omega
  · have hi : i + 1 < (out ++ [(⟨d.sub, d.from_, T'⟩ : Od)]).length := (List.getElem?_eq_some_iff.1 hb).1
    rw [List.length_append, List.length_singleton] at hi
    rw [List.getElem?_append_left (by omega)] at ha
    have ha' : (out ++ [d])[i]? = some a := by rw [List.getElem?_append_left (by omega)]; exact ha
    by_cases h2 : i + 1 < out.length
    · rw [List.getElem?_append_left h2] at hb
      exact h.nb i a b ha' (by rw [List.getElem?_append_left h2]; exact hb)
    · have h3 : i + 1 = out.length := by omega
      have hb' : (out ++ [d])[i + 1]? = some d := by rw [h3, List.getElem?_append_right (Nat.le_refl _), Nat.sub_self]; rfl
      rw [h3, List.getElem?_append_right (Nat.le_refl _), Nat.sub_self] at hb
      simp at hb
      subst hb
      exact h.nb i a d ha' hb'
  · have hsame : ∀ t, t < T → ((∃ e ∈ out ++ [(⟨d.sub, d.from_, T'⟩ : Od)], e.from_ ≤ t ∧ t < e.to_ ∧ e.sub = n) ↔ (∃ e ∈ out ++ [d], e.from_ ≤ t ∧ t < e.to_ ∧ e.sub = n)) := fun t hlt => by
      constructor
      · rintro ⟨e, he, h2, h3, h4⟩
        rcases List.mem_append.1 he with he | he
        · exact ⟨e, List.mem_append_left _ he, h2, h3, h4⟩
        · rw [List.mem_singleton] at he; subst he
          exact ⟨d, List.mem_append_right _ (List.mem_singleton.2 rfl), h2, by omega, h4⟩
      · rintro ⟨e, he, h2, h3, h4⟩
        rcases List.mem_append.1 he with he | he
        · exact ⟨e, List.mem_append_left _ he, h2, h3, h4⟩
        · rw [List.mem_singleton] at he; subst he
          exact ⟨_, List.mem_append_right _ (List.mem_singleton.2 rfl), h2, by dsimp only; omega, h4⟩
    by_cases hlt : t < T
    · rw [hsame t hlt]; exact h.cov t n h1 hlt
    · rw [hn t (by omega) ht]
      constructor
      · rintro ⟨e, he, h2, h3, h4⟩
        rcases List.mem_append.1 he with he | he
        · have := h.good e (List.mem_append_left _ he); omega
        · rw [List.mem_singleton] at he; subst he; exact congrArg some h4
      · intro e
        cases e
        exact ⟨_, List.mem_append_right _ (List.mem_singleton.2 rfl), by dsimp only; omega, ht, rfl⟩
theorem toN_le {l : List Ev} (hv : Vl l) (k : Nat) : toN l k ≤ 12622780800 := by
  unfold toN
  cases h : l[k]? with
  | none => exact Int.le_refl _
  | some e => have := (hv.bnd h).2; dsimp only; omega
theorem ch_all {l : List Ev} (hv : Vl l) (x : ByteArray) : ∀ k, k ≤ l.length → CH l x (toN l k) (spR l x k)
  | 0, _ => ch_0 hv x
  | k + 1, hk => by
    have ih := ch_all hv x k (by omega)
    obtain ⟨e, he⟩ : ∃ e, l[k]? = some e := ⟨_, List.getElem?_eq_getElem (by omega)⟩
    have hT : toN l k = e.at_ := toN_at he
    have hmono := toN_mono hv he
    have hb := hv.bnd he
    have hF := toN_le hv (k + 1)
    rw [spR_succ he, stepR_O]
    rw [hT] at ih
    by_cases hs : e.at_ = toN l (k + 1)
    · rw [if_pos hs, ← hs]; exact ih
    · rw [if_neg hs]
      have hbk := bk_settled hv he hs
      have hbt : ∀ t, e.at_ ≤ t → t < toN l (k + 1) → ownB (bkAt l t) x = ownB (bkAt l e.at_) x := fun t h1 h2 => by rw [bk_between hv he h1 h2, hbk]
      cases ho : ownB (bkAt l e.at_) x with
      | none => exact ch_none ih hmono (fun t h1 h2 => (hbt t h1 h2).trans ho)
      | some m =>
        show CH l x _ (addR (spR l x k) m e.at_ (toN l (k + 1)))
        by_cases hl : ∃ d, (spR l x k).getLast? = some d ∧ d.sub = m ∧ d.to_ = e.at_
        · obtain ⟨d, hd, h1, h2⟩ := hl
          have hne : spR l x k ≠ [] := fun e => by rw [e] at hd; cases hd
          have hsplit : spR l x k = (spR l x k).dropLast ++ [d] := by
            have := List.dropLast_concat_getLast hne
            rw [List.getLast?_eq_some_getLast hne] at hd
            injection hd with hd
            rw [hd] at this; exact this.symm
          have e1 : addR (spR l x k) m e.at_ (toN l (k + 1)) = (spR l x k).dropLast ++ [⟨d.sub, d.from_, toN l (k + 1)⟩] := by
            unfold addR; rw [hd]; dsimp only; rw [if_pos ⟨h1, h2⟩]
          rw [e1]
          exact ch_ext (by rw [← hsplit]; exact ih) hb.1 (by omega) hF h2 (fun t g1 g2 => by rw [hbt t g1 g2, ho, h1])
        · have hno : ∀ d, (spR l x k).getLast? = some d → ¬ (d.sub = m ∧ d.to_ = e.at_) := fun d hd h => hl ⟨d, hd, h⟩
          rw [addR_new hno]
          exact ch_app ih hb.1 (by omega) hF (fun t g1 g2 => by rw [hbt t g1 g2, ho]) hno
end Nb
end Go.Proofs.Yteaanngagcflhaa
namespace Go.Proofs.Yteaanngagcflhaa
open Go.RowKit
namespace Nb
open Cu
def WS (L : List Od) (t : Int) (k : Nat) (o : Int) (i : Bool) : Prop :=
  (i = true ∧ ∃ d ∈ L.take k, d.from_ ≤ t ∧ t < d.to_ ∧ d.sub = o) ∨ (i = false ∧ o = 0 ∧ ∀ d ∈ L.take k, ¬ (d.from_ ≤ t ∧ t < d.to_))
theorem ws_0 (L : List Od) (t : Int) : WS L t 0 0 false := .inr ⟨rfl, rfl, fun d hd => by simp at hd⟩
theorem ws_in {L : List Od} {t : Int} {k : Nat} {d : Od} (hd : L[k]? = some d) (h1 : d.from_ ≤ t) (h2 : t < d.to_) : WS L t (k + 1) d.sub true := by
  refine .inl ⟨rfl, d, ?_, h1, h2, rfl⟩
  rw [List.take_add_one, hd]; simp
theorem ws_out {L : List Od} {t : Int} {k : Nat} {d : Od} {o : Int} {i : Bool} (h : WS L t k o i) (hd : L[k]? = some d) (hn : ¬ (d.from_ ≤ t ∧ t < d.to_)) : WS L t (k + 1) o i := by
  rcases h with ⟨h1, d2, h2, h3⟩ | ⟨h1, h2, h3⟩
  · refine .inl ⟨h1, d2, ?_, h3⟩
    rw [List.take_add_one]; exact List.mem_append_left _ h2
  · refine .inr ⟨h1, h2, fun d2 hd2 => ?_⟩
    rw [List.take_add_one, hd, List.mem_append] at hd2
    rcases hd2 with hd2 | hd2
    · exact h3 d2 hd2
    · simp at hd2; subst hd2; exact hn
theorem ch_end {l : List Ev} (hv : Vl l) (x : ByteArray) : CH l x 12622780800 (spE l x) := by
  have h := ch_all hv x l.length (Nat.le_refl _)
  rw [toN_end (Nat.le_refl _), ← sp_eq hv x] at h
  exact h
theorem ws_end {l : List Ev} (hv : Vl l) {x : ByteArray} {t : Int} (h0 : 0 ≤ t) (hF : t < 12622780800) {n : Nat} (hn : (spE l x).length = n) {o : Int} {i : Bool} (h : WS (spE l x) t n o i) :
    (ownB (bkAt l t) x).getD 0 = o ∧ (ownB (bkAt l t) x).isSome = i ∧ frB t (t + 1) (spE l x) = !i := by
  have hc := ch_end hv x
  have htk : (spE l x).take n = spE l x := List.take_of_length_le (by omega)
  have hfr : frB t (t + 1) (spE l x) = !((spE l x).any (ovB t (t + 1))) := if_neg (by omega)
  unfold WS at h
  rw [htk] at h
  rcases h with ⟨rfl, d, hd, h1, h2, h3⟩ | ⟨rfl, rfl, h3⟩
  · have e := (hc.cov t o h0 hF).1 ⟨d, hd, h1, h2, h3⟩
    rw [e, hfr]
    refine ⟨rfl, rfl, ?_⟩
    rw [List.any_eq_true.2 ⟨d, hd, by unfold ovB; rw [decide_eq_true (by omega : d.from_ < t + 1), decide_eq_true h2]; rfl⟩]
  · have e : ownB (bkAt l t) x = none := by
      cases ho : ownB (bkAt l t) x with
      | none => rfl
      | some m =>
        obtain ⟨d, hd, h1, h2, _⟩ := (hc.cov t m h0 hF).2 ho
        exact absurd ⟨h1, h2⟩ (h3 d hd)
    rw [e, hfr]
    refine ⟨rfl, rfl, ?_⟩
    have : (spE l x).any (ovB t (t + 1)) = false := by
      rw [List.any_eq_false]
      intro d hd ho
      unfold ovB at ho
      rw [Bool.and_eq_true, decide_eq_true_eq, decide_eq_true_eq] at ho
      exact h3 d hd ⟨by omega, ho.2⟩
    rw [this]
theorem sp_good {l : List Ev} (hv : Vl l) {x : ByteArray} {k : Nat} {d : Od} (h : (spE l x)[k]? = some d) : 0 ≤ d.from_ ∧ d.from_ < d.to_ ∧ d.to_ ≤ 12622780800 := by
  have := (ch_end hv x).good d (List.mem_of_getElem? h)
  exact ⟨this.1, this.2.1, this.2.2.1⟩
end Nb
end Go.Proofs.Yteaanngagcflhaa
namespace Go.Proofs.Yteaanngagcflhaa
open Go.RowKit
namespace Nb
open Cu
set_option maxHeartbeats 16000000 in
theorem law_when (A : Option Addr) (n c : Nat) (l : List Ev) (x : ByteArray) (t : Int) (w : World) (hs : Sl w A n c l) (hz : SzOk l) (hx : x.size ≤ maxLen) :
    Calls Try.prog 14 #[.slice A n c, .string x, .int .i64 t] w fun r w' => r = .returned (.bool true) ∧ Below w.heap.size w w' := by
  have HS := Lib.hid hs
  have HZ := Lib.hid hz
  have HX := Lib.hid hx
  clear hs hz hx
  go_enter Try.func14, Try.ntmps14
  cases hvl : vlB l
  · have HVB := Lib.hid hvl
    clear hvl
    go_wp2_with (first
      | (go_at_call 25; go_must (refine (rValid_any A n c l _ HS.out HZ.out).mono ?_; rintro r w1 ⟨rfl, hb1⟩; rw [HVB.out]))
      | (go_at_call 40; go_must (refine (awake18_any _).mono ?_; rintro r w2 ⟨rfl, hb2⟩)))
    go_ret
    exact ⟨rfl, (hb1.trans (hb2.mono hb1.size))⟩
  have HVB := Lib.hid hvl
  have HV := Lib.hid (vlB_true hvl)
  have h1000 : n ≤ 1000 := by have := HS.out.len; have := HV.out.1; omega
  clear hvl
  by_cases h0 : t < 0
  · have d0 : decide (t < 0) = true := decide_eq_true h0
    go_wp2_with (first
      | (go_at_call 25; go_must (refine (rValid_any A n c l _ HS.out HZ.out).mono ?_; rintro r w1 ⟨rfl, hb1⟩; rw [HVB.out]))
      | (go_at_call 40; go_must (refine (awake18_any _).mono ?_; rintro r w2 ⟨rfl, hb2⟩)))
    go_ret
    exact ⟨rfl, (hb1.trans (hb2.mono hb1.size))⟩
  have d0 : decide (t < 0) = false := decide_eq_false h0
  by_cases hF : 12622780800 ≤ t
  · have dF : decide (12622780800 ≤ t) = true := decide_eq_true hF
    go_wp2_with (first
      | (go_at_call 25; go_must (refine (rValid_any A n c l _ HS.out HZ.out).mono ?_; rintro r w1 ⟨rfl, hb1⟩; rw [HVB.out]))
      | (go_at_call 40; go_must (refine (awake18_any _).mono ?_; rintro r w2 ⟨rfl, hb2⟩)))
    go_ret
    exact ⟨rfl, (hb1.trans (hb2.mono hb1.size))⟩
  have dF : decide (12622780800 ≤ t) = false := decide_eq_false hF
  go_upto_region 3 with (go_at_call 25; go_must (refine (rValid_any A n c l _ HS.out HZ.out).mono ?_; rintro r w1 ⟨rfl, hb1⟩; rw [HVB.out]))
  replace HS := Lib.hid (HS.out.below hb1)
  go_upto_region 4 with (go_at_call 44; go_must (refine (Spells_any A n c l x _ HS.out h1000).mono ?_; rintro r w2 ⟨⟨A1, n1, c1, rfl, _, h1⟩, hb2⟩; have H1 := Lib.hid h1; clear h1))
  replace HS := Lib.hid (HS.out.below hb2)
  have hbw2 := hb1.trans (hb2.mono hb1.size)
  have hn1 := H1.out.nmax
  have HLN := Lib.hid H1.out.len
  have HEND : Hid (∀ (o : Int) (i : Bool), WS (spE l x) t n1 o i → (ownB (bkAt l t) x).getD 0 = o ∧ (ownB (bkAt l t) x).isSome = i ∧ frB t (t + 1) (spE l x) = !i) := Lib.hid fun o i h => ws_end HV.out (by omega) (by omega) HLN.out h
  have HGOOD : Hid (∀ (k : Nat) (d : Od), (spE l x)[k]? = some d → 0 ≤ d.from_ ∧ d.from_ < d.to_ ∧ d.to_ ≤ 12622780800) := Lib.hid fun k d h => sp_good HV.out h
  have HNB : Hid (∀ (i : Nat) (a b : Od), (spE l x)[i]? = some a → (spE l x)[i + 1]? = some b → a.to_ ≤ b.from_ ∧ ¬ (a.to_ = b.from_ ∧ a.sub = b.sub)) := Lib.hid (ch_end HV.out x).nb
  obtain ⟨SP, hSP⟩ : ∃ s, s = spE l x := ⟨_, rfl⟩
  rw [← hSP] at H1 HLN HEND HGOOD HNB
  have HSP := Lib.hid hSP
  clear hSP hb1 hb2
  go_wp2_with fail
  go_loopw [8, 9, 10] (fun v8 v9 v10 wr => ∃ (k : Nat) (o : Int) (b : Bool), k ≤ n1 ∧ v8 = .int .i64 o ∧ v9 = .bool b ∧ v10 = .int .i64 k ∧ WS SP t k o b ∧ Below w2.heap.size w2 wr) (fun _ _ i _ => n1 - (intOf i).toNat)
  case atStart => exact ⟨0, 0, false, Nat.zero_le _, rfl, rfl, rfl, ws_0 _ _, Below.refl _ _⟩
  case round =>
    obtain ⟨k, o, b, hk, rfl, rfl, rfl, hws, hbr⟩ := hrel
    have HWS := Lib.hid hws
    have hgr := hbr.size
    clear hws
    by_cases hlt : k < n1
    · obtain ⟨g, off, hAe, hbl, hcells⟩ := H1.out.baseIn hbr (by omega)
      obtain ⟨d, hd⟩ := H1.out.get hlt
      obtain ⟨g1, g2, g3⟩ := HGOOD.out k d hd
      have e0 : wr.cell? ⟨g, off + k * 3, none⟩ = some (.int .i64 d.sub) := Sl.at_ hcells hd 0 rfl
      have e1 : wr.cell? ⟨g, off + k * 3 + 1, none⟩ = some (.int .i64 d.from_) := Sl.at_ hcells hd 1 rfl
      have e2 : wr.cell? ⟨g, off + k * 3 + 2, none⟩ = some (.int .i64 d.to_) := Sl.at_ hcells hd 2 rfl
      have HC := Lib.hid @hcells
      have HD := Lib.hid hd
      subst hAe
      clear hcells hd
      go_upto_region 9 with (fail)
      (obtain ⟨W, hWW, hbW, hzW, f1W, qfa⟩ := box1 wr #[.int .i64 d.from_, .int .i64 d.to_] 68; rw [← hWW]; have qa0 : W.cell? ⟨wr.heap.size, 0, none⟩ = some (.int .i64 d.from_) := f1W 0 _ rfl; have qa1 : W.cell? ⟨wr.heap.size, 1, none⟩ = some (.int .i64 d.to_) := f1W 1 _ rfl; clear hWW f1W)
      replace e0 := cl hbW e0
      have hbrW := hbr.trans (hbW.mono hbr.size)
      have HBW := Lib.hid hbW
      have n0 : ¬ d.from_ < 0 := by omega
      have m0 : decide (d.from_ < 0) = false := decide_eq_false n0
      have n1' : ¬ d.to_ ≤ d.from_ := by omega
      have m1 : decide (d.to_ ≤ d.from_) = false := decide_eq_false n1'
      have n2 : ¬ 12622780800 < d.to_ := by omega
      have m2 : decide (12622780800 < d.to_) = false := decide_eq_false n2
      clear e1 e2 g1 g2 g3 hbW hbr
      go_cut [96] from 142 (fun v wx => v = .bool false ∧ Below W.heap.size W wx)
      case first =>
        clear HEND HWS
        rcases Nat.eq_zero_or_pos k with hk0 | hk0
        · subst hk0
          have kd : decide ((0 : Int) < 0) = false := rfl
          ((with_reducible refine wp_region_quiet_lit ?_ ?_ ?_); kernel_rfl; kernel_rfl; (repeat (any_goals (first | go_big_quiet_step (fail) | (refine wpQuiet_step (fun K hK => ?_); go_simp; (first | (refine hK _ ?_; clear hK K) | (split <;> rename_i hg <;> (refine hK _ ?_; clear hK K) <;> (try simp only [Bool.not_eq_true] at hg) <;> (first | simp only [Int.not_lt.2 hg, decide_false] | simp only [Int.not_le.1 hg, decide_true] | simp only [hg, decide_true, decide_false] | skip))))))); all_goals (refine wpQuiet_nil ?_; intro _ hw'; obtain ⟨nq, hw''⟩ := hw'; subst hw''))
          go_wp2_with fail
          go_meet
          exact ⟨rfl, below_drewN (Below.refl _ _) _⟩
        · obtain ⟨p, hp⟩ := H1.out.get (show k - 1 < n1 by omega)
          have hnb := HNB.out (k - 1) p d hp (by rw [show k - 1 + 1 = k by omega]; exact HD.out)
          have f0 : W.cell? ⟨g, off + (k - 1) * 3, none⟩ = some (.int .i64 p.sub) := cl HBW.out (Sl.at_ HC.out hp 0 rfl)
          have f2 : W.cell? ⟨g, off + (k - 1) * 3 + 2, none⟩ = some (.int .i64 p.to_) := cl HBW.out (Sl.at_ HC.out hp 2 rfl)
          obtain ⟨nb1, nb2⟩ := hnb
          have n3 : ¬ d.from_ < p.to_ := by omega
          have m3 : decide (d.from_ < p.to_) = false := decide_eq_false n3
          have kd : decide ((0 : Int) < (k : Int)) = true := decide_eq_true (by omega)
          have kn : decide (0 < k) = true := decide_eq_true hk0
          have hm1 : IntKind.i64.wrap ((k : Int) - 1) = ((k - 1 : Nat) : Int) := by rw [IntWalk.i64_in _ (by omega)]; omega
          have hkl : k - 1 < n1 := by omega
          clear nb1 hp
          rcases be_or p.to_ d.from_ with ⟨h2, b2, d2⟩ | ⟨h2, b2, d2⟩
          · obtain ⟨b3, d3⟩ := be_f (fun e => nb2 ⟨h2, e⟩ : ¬ p.sub = d.sub)
            clear h2 nb2
            ((with_reducible refine wp_region_quiet_lit ?_ ?_ ?_); kernel_rfl; kernel_rfl; (repeat (any_goals (first | go_big_quiet_step (fail) | (refine wpQuiet_step (fun K hK => ?_); go_simp; (first | (refine hK _ ?_; clear hK K) | (split <;> rename_i hg <;> (refine hK _ ?_; clear hK K) <;> (try simp only [Bool.not_eq_true] at hg) <;> (first | simp only [Int.not_lt.2 hg, decide_false] | simp only [Int.not_le.1 hg, decide_true] | simp only [hg, decide_true, decide_false] | skip))))))); all_goals (refine wpQuiet_nil ?_; intro _ hw'; obtain ⟨nq, hw''⟩ := hw'; subst hw''))
            go_wp2_with fail
            go_meet
            exact ⟨rfl, below_drewN (Below.refl _ _) _⟩
          · clear h2 nb2
            ((with_reducible refine wp_region_quiet_lit ?_ ?_ ?_); kernel_rfl; kernel_rfl; (repeat (any_goals (first | go_big_quiet_step (fail) | (refine wpQuiet_step (fun K hK => ?_); go_simp; (first | (refine hK _ ?_; clear hK K) | (split <;> rename_i hg <;> (refine hK _ ?_; clear hK K) <;> (try simp only [Bool.not_eq_true] at hg) <;> (first | simp only [Int.not_lt.2 hg, decide_false] | simp only [Int.not_le.1 hg, decide_true] | simp only [hg, decide_true, decide_false] | skip))))))); all_goals (refine wpQuiet_nil ?_; intro _ hw'; obtain ⟨nq, hw''⟩ := hw'; subst hw''))
            go_wp2_with fail
            go_meet
            exact ⟨rfl, below_drewN (Below.refl _ _) _⟩
      case rest =>
        obtain ⟨rfl, hbC⟩ := hcut
        replace e0 := cl hbC e0
        replace qa0 := cl hbC qa0
        replace qa1 := cl hbC qa1
        replace hbrW := hbrW.trans (hbC.mono hbrW.size)
        clear n0 m0 n1' m1 n2 m2 hbC HNB HC
        by_cases h1 : d.from_ ≤ t
        · have r1 : decide (d.from_ ≤ t) = true := decide_eq_true h1
          by_cases h2 : t < d.to_
          · have r2 : decide (t < d.to_) = true := decide_eq_true h2
            have HW2 := Lib.hid (ws_in HD.out h1 h2)
            go_wp2_with fail
            go_roundw
            case rel => exact ⟨k + 1, d.sub, true, by omega, rfl, rfl, by go_num, HW2.out, hbrW⟩
            case measure => simp [intOf]; omega
          · have r2 : decide (t < d.to_) = false := decide_eq_false h2
            have HW2 := Lib.hid (ws_out HWS.out HD.out (fun h => h2 h.2))
            go_wp2_with fail
            go_roundw
            case rel => exact ⟨k + 1, o, b, by omega, rfl, rfl, by go_num, HW2.out, hbrW⟩
            case measure => simp [intOf]; omega
        · have r1 : decide (d.from_ ≤ t) = false := decide_eq_false h1
          have HW2 := Lib.hid (ws_out HWS.out HD.out (fun h => h1 h.1))
          go_wp2_with fail
          go_roundw
          case rel => exact ⟨k + 1, o, b, by omega, rfl, rfl, by go_num, HW2.out, hbrW⟩
          case measure => simp [intOf]; omega
    · obtain rfl : n1 = k := by omega
      have hkn : ¬ ((n1 : Int) < (n1 : Int)) := by omega
      obtain ⟨ho, hi, hfr⟩ := HEND.out o b HWS.out
      have HO := Lib.hid ho
      have HI := Lib.hid hi
      have HFR : Hid (frB t (t + 1) (spE l x) = !b) := Lib.hid (by rw [← HSP.out]; exact hfr)
      have hbwr := hbw2.trans (hbr.mono hbw2.size)
      replace HS := Lib.hid (HS.out.below hbr)
      have hoo : (o == o) = true := by simp
      have hbb : (b == b) = true := by simp
      have hnb : ((!b) == (!b)) = true := by simp
      have ht1 : IntKind.i64.wrap (t + 1) = t + 1 := IntWalk.i64_in _ (by omega)
      clear ho hi hfr HEND HGOOD HNB HWS
      go_upto_region 15 with (go_at_call 41; go_must (refine (Owner_any A n c l x t _ HS.out HV.out HZ.out HX.out).mono ?_; rintro r w3 ⟨rfl, hb3⟩; rw [HO.out, HI.out]))
      replace HS := Lib.hid (HS.out.below hb3)
      go_wp2_with (first
        | (go_at_call 46; go_must (refine (Free_any A n c l x t (t + 1) _ HS.out h1000).mono ?_; rintro r w4 ⟨rfl, hb4⟩; rw [HFR.out]))
        | (go_at_call 40; go_must (refine (awake18_any _).mono ?_; rintro r w5 ⟨rfl, hb5⟩)))
      go_ret
      exact ⟨rfl, hbwr.trans ((hb3.trans ((hb4.trans (hb5.mono hb4.size)).mono hb3.size)).mono hbwr.size)⟩
end Nb
end Go.Proofs.Yteaanngagcflhaa
