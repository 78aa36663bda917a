/-
  Subscriptions: awake of chapter 20. No condition.
-/
import Derived.Test.YteaanngagcflhaaKc29
import Derived.Test.YteaanngagcflhaaKc19
import Derived.Test.YteaanngagcflhaaKc25
import Derived.Test.YteaanngagcflhaaKc00
import Derived.BigQuiet
import Derived.StillTailTactics
import Derived.Lib.Overlaps
import Derived.Deep.DeepCutAuto
import Derived.Deep.RegionWith
import Derived.Laws.RangeAny
import Derived.ProofKit
import Derived.WideKeyArgs
import Derived.Deep.Slices
import Derived.Deep.Fields
import Derived.ChangeMaps5
set_option maxRecDepth 100000
set_option linter.unusedVariables false
set_option linter.unusedSimpArgs false
namespace Go.Proofs.Yteaanngagcflhaa
open Go.RowKit
namespace Ss
open Cu
set_option maxHeartbeats 16000000 in
theorem awake20_any (w : World) : Calls Try.prog 51 #[] w fun e w' => e = .returned (.bool true) ∧ Below w.heap.size w w' := by
  go_enter Try.func51, Try.ntmps51
  go_upto_region 2 with (fail)
  have hS0 : Sl (w.alloc (.cells #[.int .i64 0, .int .i64 1, .int .i64 1, .int .i64 0, .string ⟨#[]⟩, .string ⟨#[112, 111, 115, 116, 112, 97, 105, 100]⟩, .int .i64 1, .int .i64 100, .int .i64 3, .int .i64 1, .int .i64 7, .string ⟨#[]⟩, .string ⟨#[98, 97, 115, 105, 99]⟩, .int .i64 0, .int .i64 200, .int .i64 8, .int .i64 0, .int .i64 7, .string ⟨#[]⟩, .string ⟨#[102, 108, 97, 116]⟩, .int .i64 0, .int .i64 300, .int .i64 10, .int .i64 0, .int .i64 7, .string ⟨#[]⟩, .string ⟨#[]⟩, .int .i64 0, .int .i64 400, .int .i64 11, .int .i64 0, .int .i64 7, .string ⟨#[]⟩, .string ⟨#[]⟩, .int .i64 0, .int .i64 400, .int .i64 7, .int .i64 0, .int .i64 7, .string ⟨#[]⟩, .string ⟨#[112, 108, 117, 115]⟩, .int .i64 0] 36)) (some ⟨w.heap.size, 0, none⟩) 6 6 lz := Sl.new w #[.int .i64 0, .int .i64 1, .int .i64 1, .int .i64 0, .string ⟨#[]⟩, .string ⟨#[112, 111, 115, 116, 112, 97, 105, 100]⟩, .int .i64 1, .int .i64 100, .int .i64 3, .int .i64 1, .int .i64 7, .string ⟨#[]⟩, .string ⟨#[98, 97, 115, 105, 99]⟩, .int .i64 0, .int .i64 200, .int .i64 8, .int .i64 0, .int .i64 7, .string ⟨#[]⟩, .string ⟨#[102, 108, 97, 116]⟩, .int .i64 0, .int .i64 300, .int .i64 10, .int .i64 0, .int .i64 7, .string ⟨#[]⟩, .string ⟨#[]⟩, .int .i64 0, .int .i64 400, .int .i64 11, .int .i64 0, .int .i64 7, .string ⟨#[]⟩, .string ⟨#[]⟩, .int .i64 0, .int .i64 400, .int .i64 7, .int .i64 0, .int .i64 7, .string ⟨#[]⟩, .string ⟨#[112, 108, 117, 115]⟩, .int .i64 0] _ w.heap.size rfl lz 6 rfl (by unfold maxLen; omega) rfl
  obtain ⟨V, hV⟩ : ∃ V, V = w.alloc (.cells #[.int .i64 0, .int .i64 1, .int .i64 1, .int .i64 0, .string ⟨#[]⟩, .string ⟨#[112, 111, 115, 116, 112, 97, 105, 100]⟩, .int .i64 1, .int .i64 100, .int .i64 3, .int .i64 1, .int .i64 7, .string ⟨#[]⟩, .string ⟨#[98, 97, 115, 105, 99]⟩, .int .i64 0, .int .i64 200, .int .i64 8, .int .i64 0, .int .i64 7, .string ⟨#[]⟩, .string ⟨#[102, 108, 97, 116]⟩, .int .i64 0, .int .i64 300, .int .i64 10, .int .i64 0, .int .i64 7, .string ⟨#[]⟩, .string ⟨#[]⟩, .int .i64 0, .int .i64 400, .int .i64 11, .int .i64 0, .int .i64 7, .string ⟨#[]⟩, .string ⟨#[]⟩, .int .i64 0, .int .i64 400, .int .i64 7, .int .i64 0, .int .i64 7, .string ⟨#[]⟩, .string ⟨#[112, 108, 117, 115]⟩, .int .i64 0] 36) := ⟨_, rfl⟩
  have hbV : Below w.heap.size w V := by rw [hV]; exact (Below.refl _ _).alloc (Nat.le_refl _) _
  rw [← hV] at hS0 ⊢
  have HS := Lib.hid hS0
  clear hV hS0
  go_upto_region 3 with (go_at_call 55; go_must (refine (Spells_any _ 6 6 lz 7 _ HS.out (by omega)).mono ?_; rintro r w5 ⟨⟨A1, n1, c1, rfl, h5⟩, hb5⟩; rw [spz] at h5))
  have hn1 : n1 = 4 := by have := LS.len h5; simpa using this.symm
  subst hn1
  obtain ⟨_, us, hus, hall⟩ := h5
  obtain ⟨b, off, rfl, hbl, hcells⟩ := hus.base (by omega)
  obtain ⟨v1, hv1⟩ := hus.get (k := 0) (by omega)
  obtain ⟨v4, hv4⟩ := hus.get (k := 3) (by omega)
  have r1 := hall.2 0 v1 p1 hv1 rfl
  have r4 := hall.2 3 v4 p4 hv4 rfl
  have x0 := hcells 0 v1 hv1 0 _ rfl
  have x1 := hcells 0 v1 hv1 1 _ rfl
  have y0 := hcells 3 v4 hv4 0 _ rfl
  have y1 := hcells 3 v4 hv4 1 _ rfl
  have y2 := hcells 3 v4 hv4 2 _ rfl
  rw [show v1.f = 100 from r1.f] at x0
  rw [show v1.t = 200 from r1.t] at x1
  rw [show v4.f = 400 from r4.f] at y0
  rw [show v4.t = 12622780800 from r4.t] at y1
  rw [show v4.plan = nPlu from r4.plan] at y2
  have c0 : w5.cell? ⟨b, off, none⟩ = some (.int .i64 100) := by simpa using x0
  have c1' : w5.cell? ⟨b, off + 1, none⟩ = some (.int .i64 200) := by simpa using x1
  have d0 : w5.cell? ⟨b, off + 18, none⟩ = some (.int .i64 400) := y0
  have d1 : w5.cell? ⟨b, off + 19, none⟩ = some (.int .i64 12622780800) := y1
  have d2 : w5.cell? ⟨b, off + 20, none⟩ = some (.string ⟨#[112, 108, 117, 115]⟩) := y2
  have hbw5 := hbV.trans (hb5.mono hbV.size)
  replace HS := Lib.hid (HS.out.below hb5)
  clear hcells hus hall hv1 hv4 r1 r4 x0 x1 y0 y1 y2 hb5 hbV
  go_upto_region 4 with (go_at_call 52; go_must (refine (At_any _ 6 6 lz 7 399 _ HS.out vz).mono ?_; rintro r w6 ⟨⟨v, rfl, hv⟩, hb6⟩; rw [atz] at hv ⊢; obtain ⟨vf, vt, vp, vA, vn, vc, vs, va⟩ := v; have hvs : vs = true := hv.susp; subst hvs; clear hv; dsimp only [Lv.val, Option.isSome]))
  (obtain ⟨W, hWW, hbW, hzW, f1W, qfa⟩ := box1 w6 #[.int .i64 vf, .int .i64 vt, .string vp, .slice vA vn vc, .bool true, .bool va] 76; rw [← hWW]; have qa0 : W.cell? ⟨w6.heap.size, 0, none⟩ = some (.int .i64 vf) := f1W 0 _ rfl; have qa1 : W.cell? ⟨w6.heap.size, 1, none⟩ = some (.int .i64 vt) := f1W 1 _ rfl; have qa2 : W.cell? ⟨w6.heap.size, 2, none⟩ = some (.string vp) := f1W 2 _ rfl; have qa3 : W.cell? ⟨w6.heap.size, 3, none⟩ = some (.slice vA vn vc) := f1W 3 _ rfl; have qa4 : W.cell? ⟨w6.heap.size, 4, none⟩ = some (.bool true) := f1W 4 _ rfl; have qa5 : W.cell? ⟨w6.heap.size, 5, none⟩ = some (.bool va) := f1W 5 _ rfl; clear hWW f1W)
  have hb6W := hb6.trans (hbW.mono hb6.size)
  replace HS := Lib.hid (HS.out.below hb6W)
  replace c0 := cl hb6W c0
  replace c1' := cl hb6W c1'
  replace d0 := cl hb6W d0
  replace d1 := cl hb6W d1
  replace d2 := cl hb6W d2
  have hbwW := hbw5.trans (hb6W.mono hbw5.size)
  have hblW := Nat.lt_of_lt_of_le hbl hb6W.size
  clear hb6 hbW hb6W qa0 qa1 qa2 qa3 qa5
  go_upto_region 5 with (first
    | (go_at_call 59; go_must (refine (Active_any _ 6 6 lz 7 nFla _ HS.out vz).mono ?_; rintro r w7 ⟨⟨A7, n7, c7, rfl, h7⟩, hb7⟩; rw [acz] at h7; have H7 := Lib.hid h7.2; clear h7))
    | (go_at_call 61; go_must (refine (Served_any _ 6 6 lz 7 _ (HS.out.below hb7) vz).mono ?_; rintro r w8 ⟨⟨A8, n8, c8, rfl, h8⟩, hb8⟩; rw [sez] at h8; have H8 := Lib.hid h8.2; clear h8)))
  have hb78 := hb7.trans (hb8.mono hb7.size)
  replace HS := Lib.hid (HS.out.below hb78)
  replace c0 := cl hb78 c0
  replace c1' := cl hb78 c1'
  replace d0 := cl hb78 d0
  replace d1 := cl hb78 d1
  replace d2 := cl hb78 d2
  replace qa4 := cl hb78 qa4
  have hn7 : n7 = 1 := by have := H7.out.len; simpa using this.symm
  have hn8 : n8 = 2 := by have := H8.out.len; simpa using this.symm
  subst hn7 hn8
  have hbw8 := hbwW.trans (hb78.mono hbwW.size)
  obtain ⟨b7, o7, rfl, hl7, hc7⟩ := (H7.out.below hb8).base (by omega)
  obtain ⟨b8, o8, rfl, hl8, hc8⟩ := H8.out.base (by omega)
  have f0 : w8.cell? ⟨b7, o7, none⟩ = some (.int .i64 200) := by have := hc7 0 ⟨200, 12622780800⟩ rfl 0 _ rfl; simpa using this
  have f1 : w8.cell? ⟨b7, o7 + 1, none⟩ = some (.int .i64 12622780800) := by have := hc7 0 ⟨200, 12622780800⟩ rfl 1 _ rfl; simpa using this
  have g0 : w8.cell? ⟨b8, o8, none⟩ = some (.int .i64 100) := by have := hc8 0 ⟨100, 300⟩ rfl 0 _ rfl; simpa using this
  have g1 : w8.cell? ⟨b8, o8 + 1, none⟩ = some (.int .i64 300) := by have := hc8 0 ⟨100, 300⟩ rfl 1 _ rfl; simpa using this
  clear hc7 hc8 H7 H8 hb7 hb8 hb78
  go_wp2_with (go_at_call 64; go_must (refine (Family_any _ 6 6 lz 1 500 _ HS.out vz szz).mono ?_; rintro r w9 ⟨⟨A9, n9, c9, rfl, h9⟩, hb9⟩; rw [faz] at h9; (obtain rfl : n9 = 0 := by have := h9.2.len; simpa using this.symm); clear h9))
  go_ret
  exact ⟨rfl, hbw8.trans (hb9.mono hbw8.size)⟩
end Ss
end Go.Proofs.Yteaanngagcflhaa
namespace Go.Proofs.Yteaanngagcflhaa
open Go.RowKit
namespace Cu
theorem cutN_lt (t : Int) : ∀ (l : List Ev) (k : Nat) (y : Ev), k ≤ cutN l t → l[k]? = some y → (y.at_ ≤ t ↔ k < cutN l t)
  | [], k, y, _, h => by simp at h
  | e :: l, k, y, hk, h => by
    unfold cutN at hk ⊢
    rw [List.takeWhile_cons] at hk ⊢
    by_cases he : e.at_ ≤ t
    · rw [if_pos (decide_eq_true he)] at hk ⊢
      cases k with
      | zero => simp at h; subst h; simp [he]
      | succ k =>
        have := cutN_lt t l k y (by simp at hk; exact hk) (by simpa using h)
        rw [this, List.length_cons]; unfold cutN; omega
    · rw [if_neg (by simpa using he)] at hk ⊢
      have hk0 : k = 0 := by simpa using hk
      subst hk0
      simp at h; subst h; simp [he]
end Cu
end Go.Proofs.Yteaanngagcflhaa
namespace Go.Proofs.Yteaanngagcflhaa
open Go.RowKit
namespace Ss
open Cu
theorem at_q {l : List Ev} (hv : Vl l) {x t : Int} (h0 : 0 ≤ t) (hF : t < 12622780800) : (atI (spE l x) t).map (·.q) = stQ l x t := by
  have hc := spE_can hv x
  unfold atI
  cases h : (spE l x).find? (inV t) with
  | some d =>
    have h1 := List.mem_of_find?_eq_some h
    have h2 := inV_iff.1 (List.find?_some h)
    exact ((hc.cov t d.q h0 hF).1 ⟨d, h1, h2.1, h2.2, rfl⟩).symm
  | none =>
    rw [List.find?_eq_none] at h
    cases hs : stQ l x t with
    | none => rfl
    | some q =>
      obtain ⟨d, hd, h1, h2, _⟩ := (hc.cov t q h0 hF).2 hs
      exact absurd (inV_iff.2 ⟨h1, h2⟩) (h d hd)
theorem at_in {l : List Ev} {x t : Int} {d : Iv Q} (h : atI (spE l x) t = some d) : d ∈ spE l x ∧ d.from_ ≤ t ∧ t < d.to_ := by
  unfold atI at h
  exact ⟨List.mem_of_find?_eq_some h, inV_iff.1 (List.find?_some h)⟩
def inP (t : Int) (d : Pd) : Bool := decide (d.from_ ≤ t) && decide (t < d.to_)
theorem inP_iff {t : Int} {d : Pd} : inP t d = true ↔ d.from_ ≤ t ∧ t < d.to_ := by unfold inP; rw [Bool.and_eq_true, decide_eq_true_eq, decide_eq_true_eq]
theorem jn_in {P : List Pd} (hP : ∀ p ∈ P, p.from_ < p.to_) (t : Int) : ∀ k, k ≤ P.length → (∀ p ∈ jnP P k, p.from_ < p.to_) ∧ insB (jnP P k) t = insB (P.take k) t
  | 0, _ => ⟨fun p h => (by cases h), rfl⟩
  | k + 1, hk => by
    obtain ⟨h1, h2⟩ := jn_in hP t k (by omega)
    obtain ⟨p, hp⟩ : ∃ p, P[k]? = some p := ⟨_, List.getElem?_eq_getElem (by omega)⟩
    have hpm := hP p (List.mem_of_getElem? hp)
    rw [jnP_succ hp]
    have ht : insB (P.take (k + 1)) t = (insB (P.take k) t || inP t p) := any_succ hp
    have new : (∀ q ∈ jnP P k ++ [p], q.from_ < q.to_) ∧ insB (jnP P k ++ [p]) t = insB (P.take (k + 1)) t := by
      refine ⟨fun q hq => ?_, ?_⟩
      · rcases List.mem_append.1 hq with hq | hq
        · exact h1 q hq
        · rw [List.mem_singleton] at hq; subst hq; exact hpm
      · rw [ht, ← h2]
        unfold insB
        rw [List.any_append]
        simp [inP]
    unfold addP
    cases hl : (jnP P k).getLast? with
    | none => exact new
    | some d =>
      dsimp only
      by_cases hd : d.to_ = p.from_
      · rw [if_pos hd]
        have hne : jnP P k ≠ [] := fun e => by rw [e] at hl; cases hl
        have hs : jnP P k = (jnP P k).dropLast ++ [d] := by
          have := List.dropLast_concat_getLast hne
          rw [List.getLast?_eq_some_getLast hne] at hl
          injection hl with hl
          rw [hl] at this; exact this.symm
        have hdm := h1 d (List.mem_of_getLast? hl)
        refine ⟨fun q hq => ?_, ?_⟩
        · rcases List.mem_append.1 hq with hq | hq
          · exact h1 q (List.dropLast_subset _ hq)
          · rw [List.mem_singleton] at hq; subst hq; dsimp only; omega
        · rw [ht, ← h2]
          have e1 : insB (jnP P k) t = (insB (jnP P k).dropLast t || inP t d) := by
            conv => lhs; rw [hs]
            unfold insB; rw [List.any_append]; simp [inP]
          have e2 : insB ((jnP P k).dropLast ++ [⟨d.from_, p.to_⟩]) t = (insB (jnP P k).dropLast t || inP t ⟨d.from_, p.to_⟩) := by
            unfold insB; rw [List.any_append]; simp [inP]
          rw [e1, e2, Bool.or_assoc]
          congr 1
          rw [Bool.eq_iff_iff, Bool.or_eq_true, inP_iff, inP_iff, inP_iff]
          dsimp only
          omega
      · rw [if_neg hd]; exact new
theorem kp_in {keep : Q → Bool} {L : List (Iv Q)} (t : Int) : ∀ k, k ≤ L.length → insB (kpI keep L k) t = (L.take k).any fun d => keep d.q && inV t d
  | 0, _ => rfl
  | k + 1, hk => by
    have ih := kp_in (keep := keep) (L := L) t k (by omega)
    obtain ⟨d, hd⟩ : ∃ d, L[k]? = some d := ⟨_, List.getElem?_eq_getElem (by omega)⟩
    rw [kpI_succ hd, any_succ hd, ← ih]
    cases h : keep d.q
    · rw [if_neg (by decide)]; simp
    · rw [if_pos rfl]
      unfold insB
      rw [List.any_append]
      simp [inV]
theorem kp_good {keep : Q → Bool} {L : List (Iv Q)} (h : ∀ d ∈ L, d.from_ < d.to_) : ∀ k, ∀ p ∈ kpI keep L k, p.from_ < p.to_
  | 0 => fun p hp => (by cases hp)
  | k + 1 => fun p hp => by
    have ih := kp_good (keep := keep) h k
    cases hd : L[k]? with
    | none =>
      rw [show kpI keep L (k + 1) = kpI keep L k from by show (match L[k]? with | some d => if keep d.q = true then kpI keep L k ++ [(⟨d.from_, d.to_⟩ : Pd)] else kpI keep L k | none => kpI keep L k) = _; rw [hd]] at hp
      exact ih p hp
    | some d =>
      rw [kpI_succ hd] at hp
      split at hp
      · rcases List.mem_append.1 hp with hp | hp
        · exact ih p hp
        · rw [List.mem_singleton] at hp; subst hp; exact h d (List.mem_of_getElem? hd)
      · exact ih p hp
def keepO (keep : Q → Bool) (o : Option Q) : Bool := match o with
  | some q => keep q
  | none => false
theorem du_in {l : List Ev} (hv : Vl l) (keep : Q → Bool) {x t : Int} (h0 : 0 ≤ t) (hF : t < 12622780800) : insB (duI keep (spE l x)) t = keepO keep (stQ l x t) := by
  have hc := spE_can hv x
  have hg : ∀ d ∈ spE l x, d.from_ < d.to_ := fun d h => (hc.good d h).2.1
  unfold duI
  rw [(jn_in (kp_good hg _) t _ (Nat.le_refl _)).2, List.take_length, kp_in t _ (Nat.le_refl _), List.take_length, Bool.eq_iff_iff, List.any_eq_true]
  constructor
  · rintro ⟨d, hd, h⟩
    rw [Bool.and_eq_true] at h
    have h2 := inV_iff.1 h.2
    rw [(hc.cov t d.q h0 hF).1 ⟨d, hd, h2.1, h2.2, rfl⟩]
    exact h.1
  · intro h
    cases hs : stQ l x t with
    | none => rw [hs] at h; cases h
    | some q =>
      rw [hs] at h
      obtain ⟨d, hd, h1, h2, h3⟩ := (hc.cov t q h0 hF).2 hs
      exact ⟨d, hd, by rw [Bool.and_eq_true]; exact ⟨by rw [h3]; exact h, inV_iff.2 ⟨h1, h2⟩⟩⟩
theorem since_mem {b : Bk} {e : Ev} {x : Int} {s' : Sb} (hk : 1 ≤ e.kind) (h : findS (applyR b e) x = some s') (hn : findS b x = none) : s'.since = e.at_ := by
  unfold applyR at h
  split at h
  · have h' : findS b x = some s' := h; rw [hn] at h'; cases h'
  split at h
  · have h' : findS b x = some s' := h; rw [hn] at h'; cases h'
  split at h
  · unfold findS at h hn
    rw [List.find?_append, hn] at h
    simp only [Option.none_or] at h
    have := List.mem_of_find?_eq_some h
    rw [List.mem_singleton] at this
    rw [this]
  split at h
  · rw [hn] at h; cases h
  · unfold findS at h hn
    dsimp only at h
    rw [find_mapFirst Sb.id (fun s => chgR s e) (fun s => chgR_id s e)] at h
    split at h
    · rename_i hx
      subst hx
      rw [hn] at h; cases h
    · rw [hn] at h; cases h
theorem chgR_since (s : Sb) (e : Ev) : (chgR s e).since = s.since := by unfold chgR; (repeat' split) <;> rfl
theorem since_stay {b : Bk} {e : Ev} {x : Int} {s : Sb} (h : findS b x = some s) : ∃ s', findS (applyR b e) x = some s' ∧ s'.since = s.since := by
  unfold applyR
  split
  · exact ⟨s, h, rfl⟩
  split
  · exact ⟨s, h, rfl⟩
  split
  · refine ⟨s, ?_, rfl⟩
    unfold findS at h ⊢
    rw [List.find?_append, h]; rfl
  split
  · exact ⟨s, h, rfl⟩
  · unfold findS at h ⊢
    dsimp only
    rw [find_mapFirst Sb.id (fun s => chgR s e) (fun s => chgR_id s e)]
    split
    · rename_i hx
      subst hx
      rw [h]
      exact ⟨_, rfl, chgR_since s e⟩
    · exact ⟨_, h, rfl⟩
theorem ended_stay {b : Bk} {e : Ev} {x : Int} (h : endedB b x = true) : endedB (applyR b e) x = true := by
  unfold applyR
  split
  · exact h
  split
  · exact h
  split
  · exact h
  split
  · exact h
  · unfold endedB at h ⊢
    dsimp only
    split
    · rw [List.any_append, h]; rfl
    · exact h
theorem since_at_ {l : List Ev} (hv : Vl l) {x : Int} : ∀ m, m ≤ l.length → ∀ s, findS (bkN l m) x = some s → ∃ k e, k < m ∧ l[k]? = some e ∧ s.since = e.at_ ∧ (findS (bkN l (k + 1)) x).isSome = true
  | 0, _ => fun s h => (by cases h)
  | m + 1, hm => fun s h => by
    obtain ⟨e, he⟩ : ∃ e, l[m]? = some e := ⟨_, List.getElem?_eq_getElem (by omega)⟩
    have h2 := h
    rw [bkN_succ he] at h2
    cases ho : findS (bkN l m) x with
    | none =>
      have hk := (fault_parts (vl_fault hv he)).1.1
      exact ⟨m, e, Nat.lt_succ_self m, he, since_mem hk h2 ho, by rw [h]; rfl⟩
    | some s0 =>
      obtain ⟨k, e0, hk, he0, hs0, hi⟩ := since_at_ hv m (by omega) s0 ho
      obtain ⟨s', h3, h4⟩ := since_stay (e := e) ho
      rw [h3] at h2
      cases h2
      exact ⟨k, e0, Nat.lt_succ_of_lt hk, he0, h4.trans hs0, hi⟩
theorem find_stay {l : List Ev} {x : Int} {k : Nat} : ∀ d, k + d ≤ l.length → (findS (bkN l k) x).isSome = true → (findS (bkN l (k + d)) x).isSome = true
  | 0, _, h => h
  | d + 1, hd, h => by
    have ih := find_stay (l := l) (x := x) d (by omega) h
    obtain ⟨e, he⟩ : ∃ e, l[k + d]? = some e := ⟨_, List.getElem?_eq_getElem (by omega)⟩
    rw [← Nat.add_assoc, bkN_succ he]
    cases ho : findS (bkN l (k + d)) x with
    | none => rw [ho] at ih; cases ih
    | some s0 =>
      obtain ⟨s', h3, _⟩ := since_stay (e := e) ho
      rw [h3]; rfl
theorem end_stay {l : List Ev} {x : Int} {k : Nat} : ∀ d, k + d ≤ l.length → endedB (bkN l k) x = true → endedB (bkN l (k + d)) x = true
  | 0, _, h => h
  | d + 1, hd, h => by
    have ih := end_stay (l := l) (x := x) d (by omega) h
    obtain ⟨e, he⟩ : ∃ e, l[k + d]? = some e := ⟨_, List.getElem?_eq_getElem (by omega)⟩
    rw [← Nat.add_assoc, bkN_succ he]
    exact ended_stay ih
theorem cut_le {l : List Ev} (hv : Vl l) {t u : Int} (h : t ≤ u) : cutN l t ≤ cutN l u := by
  have h1 := (bkAt_N hv t).2
  by_cases hc : cutN l u < cutN l t
  · exfalso
    obtain ⟨e, he⟩ : ∃ e, l[cutN l u]? = some e := ⟨_, List.getElem?_eq_getElem (by omega)⟩
    have ha := (cutN_lt t l _ e (by omega) he).2 hc
    have hb := (cutN_lt u l _ e (Nat.le_refl _) he).1 (by omega)
    omega
  · omega
theorem cut_at {l : List Ev} (hv : Vl l) {k : Nat} {e : Ev} (he : l[k]? = some e) : k < cutN l e.at_ := by
  by_cases hc : k < cutN l e.at_
  · exact hc
  · exfalso
    have hk := (List.getElem?_eq_some_iff.1 he).1
    obtain ⟨f, hf⟩ : ∃ f, l[cutN l e.at_]? = some f := ⟨_, List.getElem?_eq_getElem (by omega)⟩
    have h1 := hv.asc _ _ f e (by omega) hf he
    have := (cutN_lt e.at_ l _ f (Nat.le_refl _) hf).1 h1
    omega
theorem live_parts {b : Bk} {x : Int} {s : Sb} (h : liveS b x = some s) : findS b x = some s ∧ endedB b x = false := by
  unfold liveS at h
  split at h
  · cases h
  · rename_i he; exact ⟨h, by simpa using he⟩
theorem live_of {b : Bk} {x : Int} (h1 : (findS b x).isSome = true) (h2 : endedB b x = false) : (liveS b x).isSome = true := by
  unfold liveS; rw [h2]; exact h1
theorem live_mid {l : List Ev} (hv : Vl l) {x t1 t t2 : Int} {k : Nat} (hk : k ≤ cutN l t) (h1 : (findS (bkN l k) x).isSome = true) (ht : t ≤ t2) (h2 : (stQ l x t2).isSome = true) : (stQ l x t).isSome = true := by
  obtain ⟨e1, n1⟩ := bkAt_N hv t
  obtain ⟨e2, n2⟩ := bkAt_N hv t2
  have hc := cut_le hv ht
  have hf : (findS (bkN l (cutN l t)) x).isSome = true := by
    have := find_stay (l := l) (x := x) (k := k) (cutN l t - k) (by omega) h1
    rwa [show k + (cutN l t - k) = cutN l t by omega] at this
  unfold stQ at h2 ⊢
  rw [Option.isSome_map] at h2 ⊢
  rw [e2] at h2
  rw [e1]
  obtain ⟨s2, hs2⟩ := Option.isSome_iff_exists.1 h2
  refine live_of hf ?_
  cases he : endedB (bkN l (cutN l t)) x with
  | false => rfl
  | true =>
    have := end_stay (l := l) (x := x) (k := cutN l t) (cutN l t2 - cutN l t) (by omega) he
    rw [show cutN l t + (cutN l t2 - cutN l t) = cutN l t2 by omega, (live_parts hs2).2] at this
    cases this
theorem st_find {l : List Ev} (hv : Vl l) {x t : Int} (h : (stQ l x t).isSome = true) : (findS (bkN l (cutN l t)) x).isSome = true := by
  unfold stQ at h
  rw [Option.isSome_map, (bkAt_N hv t).1] at h
  obtain ⟨s, hs⟩ := Option.isSome_iff_exists.1 h
  rw [(live_parts hs).1]; rfl
theorem can_lo {α : Type} {f : Int → Option α} {T : Int} {a : Iv α} {A : List (Iv α)} (h : Can (a :: A) T f) {d : Iv α} (hd : d ∈ a :: A) : a.from_ ≤ d.from_ := by
  rcases List.mem_cons.1 hd with rfl | hd
  · exact Int.le_refl _
  · have := can_tl h d hd
    have := (h.good a List.mem_cons_self).2.1
    omega
theorem can_hi {α : Type} : ∀ {A : List (Iv α)} {T : Int} {f : Int → Option α} {d : Iv α}, Can A T f → A.getLast? = some d → ∀ e ∈ A, e.to_ ≤ d.to_
  | [], _, _, _, _, h => by cases h
  | [a], _, _, d, _, h => by
    have : d = a := by simpa using h.symm
    subst this
    intro e he
    rw [List.mem_singleton] at he; subst he; exact Int.le_refl _
  | a :: b :: A, T, f, d, hc, h => by
    have h' : (b :: A).getLast? = some d := by rw [List.getLast?_cons_cons] at h; exact h
    have ih := can_hi (can_pop hc) h'
    intro e he
    rcases List.mem_cons.1 he with rfl | he
    · have h1 := can_tl hc b List.mem_cons_self
      have h2 := (hc.good b (List.mem_cons_of_mem _ List.mem_cons_self)).2.1
      have h3 := ih b List.mem_cons_self
      omega
    · exact ih e he
theorem can_ord {α : Type} {A : List (Iv α)} {T : Int} {f : Int → Option α} (h : Can A T f) : ∀ (d i : Nat) (u v : Iv α), A[i]? = some u → A[i + 1 + d]? = some v → u.to_ ≤ v.from_
  | 0, i, u, v, hu, hv => (h.nb i u v hu hv).1
  | d + 1, i, u, v, hu, hv => by
    obtain ⟨y, hy⟩ : ∃ y, A[i + 1 + d]? = some y := ⟨_, List.getElem?_eq_getElem (by have := (List.getElem?_eq_some_iff.1 hv).1; omega)⟩
    have h1 := can_ord h d i u y hu hy
    have h2 := (h.good y (List.mem_of_getElem? hy)).2.1
    have h3 := (h.nb (i + 1 + d) y v hy hv).1
    omega
theorem sp_since {l : List Ev} (hv : Vl l) {x : Int} {d : Iv Q} (h : (spE l x)[0]? = some d) : ∃ s, liveS (bkAt l d.from_) x = some s ∧ s.since = d.from_ := by
  have hm := List.mem_of_getElem? h
  obtain ⟨s, hs, _⟩ := stQ_some (spE_q hv hm)
  refine ⟨s, hs, ?_⟩
  obtain ⟨e1, n1⟩ := bkAt_N hv d.from_
  have hs' := hs
  rw [e1] at hs'
  obtain ⟨k, e, hk, he, hse, hi⟩ := since_at_ hv _ n1 s (live_parts hs').1
  have hle : e.at_ ≤ d.from_ := (cutN_lt d.from_ l k e (by omega) he).2 hk
  by_cases hlt : e.at_ < d.from_
  · exfalso
    have hb := hv.bnd he
    have hat := cut_at hv he
    have hsome : (stQ l x d.from_).isSome = true := by rw [spE_q hv hm]; rfl
    have h2 := live_mid hv (t1 := 0) (t := e.at_) (k := k + 1) (by omega) hi (by omega) hsome
    obtain ⟨q, hq⟩ := Option.isSome_iff_exists.1 h2
    obtain ⟨d', hd', h3, h4, _⟩ := ((spE_can hv x).cov e.at_ q hb.1 (by unfold fo; omega)).2 hq
    have hc := spE_can hv x
    cases hL : spE l x with
    | nil => rw [hL] at h; cases h
    | cons a A =>
      rw [hL] at h hd' hc
      cases h
      have := can_lo hc hd'
      omega
  · omega
theorem sp_next {l : List Ev} (hv : Vl l) {x : Int} {k : Nat} {a b : Iv Q} (ha : (spE l x)[k]? = some a) (hb : (spE l x)[k + 1]? = some b) : a.to_ = b.from_ ∧ a.q ≠ b.q := by
  have hc := spE_can hv x
  obtain ⟨h1, h2⟩ := hc.nb k a b ha hb
  have ga := spE_good hv (List.mem_of_getElem? ha)
  have gb := spE_good hv (List.mem_of_getElem? hb)
  have he : a.to_ = b.from_ := by
    by_cases hlt : a.to_ < b.from_
    · exfalso
      have sa : (stQ l x a.from_).isSome = true := by rw [spE_q hv (List.mem_of_getElem? ha)]; rfl
      have sb : (stQ l x b.from_).isSome = true := by rw [spE_q hv (List.mem_of_getElem? hb)]; rfl
      have sm := live_mid hv (t1 := 0) (t := a.to_) (k := cutN l a.from_) (cut_le hv (by omega)) (st_find hv sa) (by omega) sb
      obtain ⟨q, hq⟩ := Option.isSome_iff_exists.1 sm
      obtain ⟨d, hd, h3, h4, _⟩ := (hc.cov a.to_ q (by omega) (by unfold fo; omega)).2 hq
      obtain ⟨j, hj⟩ := List.getElem?_of_mem hd
      by_cases hjk : j ≤ k
      · by_cases hje : j = k
        · subst hje; rw [ha] at hj; cases hj; omega
        · have := can_ord hc (k - j - 1) j d a hj (by rw [show j + 1 + (k - j - 1) = k by omega]; exact ha); have := spE_good hv hd; omega
      · by_cases hje : j = k + 1
        · subst hje; rw [hb] at hj; cases hj; omega
        · have := can_ord hc (j - k - 2) (k + 1) b d hb (by rw [show k + 1 + 1 + (j - k - 2) = j by omega]; exact hj); omega
    · omega
  exact ⟨he, fun e => h2 ⟨he, e⟩⟩
theorem sp_late {l : List Ev} (hv : Vl l) {x : Int} {d : Iv Q} (h : (spE l x).getLast? = some d) : ((cSubs (bkAt l d.to_)).find? (fun y => y.id == x)).isSome = decide (d.to_ = 12622780800) := by
  have hc := spE_can hv x
  have hm := List.mem_of_getLast? h
  have g := spE_good hv hm
  have key : ((cSubs (bkAt l d.to_)).find? (fun y => y.id == x)).isSome = (stQ l x d.to_).isSome := by
    rw [find_st hv, Option.isSome_map]
  rw [key]
  by_cases hf : d.to_ = 12622780800
  · rw [decide_eq_true hf]
    have h1 := (hc.cov (d.to_ - 1) d.q (by omega) (by unfold fo; omega)).1 ⟨d, hm, by omega, by omega, rfl⟩
    have e : bkAt l d.to_ = bkAt l (d.to_ - 1) := by
      unfold bkAt
      congr 1
      refine List.filter_congr fun y hy => ?_
      obtain ⟨i, hi⟩ := List.getElem?_of_mem hy
      have hb := hv.bnd hi
      unfold atB
      rw [decide_eq_true (by omega : y.at_ ≤ d.to_), decide_eq_true (by omega : y.at_ ≤ d.to_ - 1)]
    unfold stQ at h1 ⊢
    rw [e, h1]; rfl
  · rw [decide_eq_false hf]
    cases hs : stQ l x d.to_ with
    | none => rfl
    | some q =>
      exfalso
      obtain ⟨d', hd', h3, h4, _⟩ := (hc.cov d.to_ q (by omega) (by unfold fo; omega)).2 hs
      have := can_hi hc h d' hd'
      omega
theorem famN_eq {S : List Sb} {ac : Int} : ∀ k, famN S ac k = ((S.take k).filter fun s => decide (s.acc = ac ∧ s.fam = true)).map (·.id)
  | 0 => rfl
  | k + 1 => by
    have ih := famN_eq (S := S) (ac := ac) k
    cases h : S[k]? with
    | none =>
      rw [show famN S ac (k + 1) = famN S ac k from by show (match S[k]? with | some s => if s.acc = ac ∧ s.fam = true then famN S ac k ++ [s.id] else famN S ac k | none => famN S ac k) = _; rw [h], ih, List.take_add_one, h]
      simp
    | some s =>
      rw [famN_succ h, List.take_add_one, h, Option.toList_some, List.filter_append, List.map_append, ← ih]
      by_cases hp : s.acc = ac ∧ s.fam = true
      · rw [if_pos hp, List.filter_cons_of_pos (by rw [decide_eq_true hp])]; rfl
      · rw [if_neg hp, List.filter_cons_of_neg (by rw [decide_eq_false hp]; decide)]; simp
theorem cSubs_asc' (b : Bk) : (cSubs b).Pairwise (fun s t => s.id < t.id) := by
  unfold cSubs
  rw [List.pairwise_filterMap]
  refine (rngK_asc 9999).imp fun {a c} h s hs t ht => ?_
  rw [liveS_id hs, liveS_id ht]; exact h
theorem fam_asc (b : Bk) (ac : Int) : (famE b ac).Pairwise (· < ·) := by
  unfold famE
  rw [famN_eq, List.take_length, List.pairwise_map]
  exact (cSubs_asc' b).sublist List.filter_sublist
theorem fam_mem {b : Bk} {ac x : Int} : x ∈ famE b ac ↔ ∃ s ∈ cSubs b, s.id = x ∧ s.acc = ac ∧ s.fam = true := by
  unfold famE
  rw [famN_eq, List.take_length, List.mem_map]
  constructor
  · rintro ⟨s, hs, rfl⟩
    obtain ⟨h1, h2⟩ := List.mem_filter.1 hs
    rw [decide_eq_true_eq] at h2
    exact ⟨s, h1, rfl, h2⟩
  · rintro ⟨s, h1, rfl, h2⟩
    exact ⟨s, List.mem_filter.2 ⟨h1, by rw [decide_eq_true_eq]; exact h2⟩, rfl⟩
def cntI (L : List Int) (x : Int) (k : Nat) : Nat := ((L.take k).filter fun y => y == x).length
theorem cntI_succ {L : List Int} {x : Int} {k : Nat} {y : Int} (h : L[k]? = some y) : cntI L x (k + 1) = cntI L x k + if (y == x) = true then 1 else 0 := by
  unfold cntI
  rw [List.take_add_one, h, Option.toList_some, List.filter_append, List.length_append]
  congr 1
  cases hh : (y == x)
  · rw [List.filter_cons_of_neg (p := fun y => y == x) (by rw [hh]; decide)]; rfl
  · rw [List.filter_cons_of_pos (p := fun y => y == x) hh]; rfl
theorem cntI_all {L : List Int} (h : L.Pairwise (· < ·)) (x : Int) {n : Nat} (hn : L.length = n) : cntI L x n = if x ∈ L then 1 else 0 := by
  unfold cntI
  rw [List.take_of_length_le (by omega)]
  clear hn
  induction L with
  | nil => rfl
  | cons y L ih =>
    obtain ⟨h1, h2⟩ := List.pairwise_cons.1 h
    have ih := ih h2
    by_cases hy : y = x
    · subst hy
      have hno : ¬ y ∈ L := fun hm => by have := h1 y hm; omega
      rw [if_neg hno] at ih
      rw [List.filter_cons_of_pos (by simp), List.length_cons, ih, if_pos List.mem_cons_self]
    · rw [List.filter_cons_of_neg (by simpa using hy), ih]
      by_cases hm : x ∈ L
      · rw [if_pos hm, if_pos (List.mem_cons_of_mem _ hm)]
      · rw [if_neg hm, if_neg (by rintro (h | h); exact hy rfl; exact hm (by assumption))]
theorem fam_share {b : Bk} (hb : Bok b) {x : Int} {o : Option Sb} (h : (cSubs b).find? (fun y => y.id == x) = o) : (x ∈ famE b (o.getD sb0).acc) ↔ ∃ s, o = some s ∧ s.fam = true := by
  have hl : o = liveS b x := h.symm.trans (find_cSubs hb x)
  rw [fam_mem]
  constructor
  · rintro ⟨s, hs, hid, _, hf⟩
    obtain ⟨i, _, hi⟩ := List.mem_filterMap.1 (show s ∈ (rngK 9999).filterMap (liveS b) from hs)
    have : i = x := (liveS_id hi).symm.trans hid
    subst this
    exact ⟨s, hl.trans hi, hf⟩
  · rintro ⟨s, rfl, hf⟩
    refine ⟨s, liveS_c hb hl.symm, liveS_id hl.symm, rfl, hf⟩
end Ss
end Go.Proofs.Yteaanngagcflhaa
namespace Go.Proofs.Yteaanngagcflhaa
open Go.ChangeShapes Go.WideShapes Go.ChangeAt Go.RowKit
theorem lt_of_cell {w : World} {a : Addr} {v : Value} (h : w.cell? a = some v) : a.block < w.heap.size := by
  apply Decidable.byContradiction
  intro hn
  have h1 : w.heap[a.block]? = none := Array.getElem?_eq_none (by omega)
  simp [World.cell?, h1] at h
section
variable {H : Type} {enc : TypeId × Value → H} {P : Program}
theorem trodAll_stays (hl : laidOutB P = true) {W W' : World} {sp : Nat → Bool} : ∀ {ts : List TypeId} {vs : List Value} {ds : List (DataW H)} {ps : List MemPlace},
    (∀ t ∈ ts, P.readableRec t = true ∧ t < P.types.size) → DataW.TrodAll enc P W 0 (fun _ => true) true ts vs ds ps → (∀ p ∈ ps, W.sameAt W' p) → (∀ p ∈ ps, sp p.block = true) → DataW.TrodAll enc P W' 0 sp true ts vs ds ps
  | [], [], [], _, _, h, _, _ => h
  | t :: ts, v :: vs, d :: ds, _, hT, ⟨p, q, h1, h2, e⟩, hs, hp => by
    subst e
    exact ⟨p, q, WideElems.Trod_stays hl (hT t (List.mem_cons.2 (.inl rfl))).1 (hT t (List.mem_cons.2 (.inl rfl))).2 h1 (fun x hx => hs x (List.mem_append_left _ hx)) (fun x hx => hp x (List.mem_append_left _ hx)),
      trodAll_stays hl (fun t ht => hT t (List.mem_cons.2 (.inr ht))) h2 (fun x hx => hs x (List.mem_append_right _ hx)) (fun x hx => hp x (List.mem_append_right _ hx)), rfl⟩
theorem post_true {f : Func} {s : ChangeSpec} {W W' : World} {args : Array Value} {ds gs : List (DataW H)} {before : List MemPlace} {tb : TypeId}
    (hl : laidOutB P = true) (htb : P.underlying tb = some .bool) (hr : f.resultTypes = #[tb]) (hts : ∀ t ∈ f.params.toList, P.readableRec t = true ∧ t < P.types.size) (hsv : s.vars = [])
    (hW : DataW.Whole enc P f.params.toList s.vars false W args.toList ds gs before)
    (h1 : (s.fn H (ds ++ gs)).results = [.lit (.bool true)]) (h2 : (s.fn H (ds ++ gs)).args = ds) (h3 : (s.fn H (ds ++ gs)).vars = []) (hb : Below W.heap.size W W') :
    s.post enc P f false true false false W args (.bool true) W' := by
  have hlt : ∀ p ∈ before, p.block < W.heap.size := fun p hp => hW.lt p hp
  have hW0 := hW
  obtain ⟨p, q, hA, hV, hps, hz, hn⟩ := hW
  rw [hsv] at hV
  have hq : q = [] := by cases gs <;> simp [DataW.TrodVars] at hV; exact hV
  subst hq
  rw [List.append_nil] at hps
  subst hps
  have hres : ∀ (b : Nat) (sp : Nat → Bool) (hd : Bool), DataW.TrodAll enc P W' b sp hd f.resultTypes.toList ((Value.bool true).resultList f.resultTypes.size) (s.fn H (ds ++ gs)).results [] := by
    intro b sp hd
    rw [h1, hr]
    exact trodAll_mk1 (shut_bool htb _)
  have hargs : ∀ sp : Nat → Bool, (∀ x ∈ before, sp x.block = true) → DataW.TrodAll enc P W' 0 sp true f.params.toList args.toList (s.fn H (ds ++ gs)).args before := by
    intro sp hsp
    rw [h2]
    exact trodAll_stays hl hts hA (fun x hx => hb.same (hlt x hx)) hsp
  have hvars : ∀ sp : Nat → Bool, (∀ x ∈ before, sp x.block = true) → DataW.TrodVars enc P W' sp s.vars (s.fn H (ds ++ gs)).vars [] := by
    intro sp _
    rw [h3, hsv]
    rfl
  have hold : ∀ x ∈ before, (fun b => decide (b < W.heap.size)) x.block = true := fun x hx => by simpa using hlt x hx
  refine ⟨ds, gs, before, [], before, [], hW0, hres _ _ _, hargs _ hold, hvars _ hold, World.keptBut_mono (fun x hx => ⟨hx, .inr (by simpa using hx)⟩) (hb.frame (· ∈ before)), fun _ => ?_⟩
  refine ⟨ok_one hr rfl (okWide_bool_mk htb true), _, _, [] ++ before, ⟨[] ++ before, [], trodAll_append (hargs _ (fun _ _ => rfl)) (hres _ _ _), hvars _ (fun _ _ => rfl), by simp, ?_, ?_⟩, ?_⟩
  · intro b off hp
    have hin : MemPlace.cell b off ∈ before := by simpa using hp
    rw [hb.frozen (hlt _ hin)]
    exact hz b off hin
  · intro ha
    cases ha
  · intro x hx _
    simpa using hx
variable {w : World} {base : Nat} {spare : Nat → Bool} {held : Bool}
end
end Go.Proofs.Yteaanngagcflhaa
namespace Go.Proofs.Yteaanngagcflhaa
open Go.ChangeShapes Go.WideShapes Go.ChangeAt Go.RowKit
end Go.Proofs.Yteaanngagcflhaa
namespace Go.Proofs.Yteaanngagcflhaa
open Go.ChangeShapes Go.WideShapes Go.ChangeAt Go.RowKit
section
variable {H : Type} {enc : TypeId × Value → H} {P : Program} {w : World} {base : Nat} {spare : Nat → Bool} {held : Bool}
theorem sub_cells {e : TypeId} {fs : Array Field} {n : Nat} {cs : List Value} {y : DataW H × List MemPlace} (he : P.underlying e = some (.struct fs))
    (h : DataW.trod enc P w base spare held n e cs = some y) {i : Nat} {f : Field} (hf : fs[i]? = some f) : ∃ (m : Nat) (z : DataW H × List MemPlace), n = m + 1 ∧ DataW.trod enc P w base spare held m f.type ((cs.drop f.offset).take (P.cellsOf f.type)) = some z := by
  obtain ⟨ys, m, hm, _, _, hyl, hat⟩ := DataW.trod_struct he h
  have hil : i < fs.size := (Array.getElem?_eq_some_iff.1 hf).1
  exact ⟨m, ys[i]'(by omega), hm, (hat i f hf).trans (List.getElem?_eq_getElem (by omega))⟩
theorem sub_cell {e : TypeId} {fs : Array Field} {n : Nat} {cs : List Value} {y : DataW H × List MemPlace} (he : P.underlying e = some (.struct fs))
    (h : DataW.trod enc P w base spare held n e cs = some y) {i : Nat} {f : Field} (hf : fs[i]? = some f) {o : Nat} (ho : f.offset = o) (hc : P.cellsOf f.type = 1) (hi : o < cs.length) : ∃ (v : Value) (m : Nat) (z : DataW H × List MemPlace), n = m + 1 ∧ cs[o]? = some v ∧ DataW.trod enc P w base spare held m f.type [v] = some z := by
  obtain ⟨m, z, hm, hz⟩ := sub_cells he h hf
  rw [ho, hc, List.drop_eq_getElem_cons hi] at hz
  exact ⟨cs[o], m, z, hm, List.getElem?_eq_getElem hi, hz⟩
theorem sub_int {e : TypeId} {fs : Array Field} {n : Nat} {cs : List Value} {y : DataW H × List MemPlace} {k : IntKind} (he : P.underlying e = some (.struct fs))
    (h : DataW.trod enc P w base spare held n e cs = some y) {i : Nat} {f : Field} (hf : fs[i]? = some f) {o : Nat} (ho : f.offset = o) (hc : P.cellsOf f.type = 1) (hi : o < cs.length) (hk : P.underlying f.type = some (.int k)) : ∃ z : Int, cs[o]? = some (.int k z) ∧ (Lit.int k z).wf = true := by
  obtain ⟨v, m, y', _, hv, ht⟩ := sub_cell he h hf ho hc hi
  obtain ⟨z, hz, _, hw⟩ := DataW.trod_int hk ht
  cases hz
  exact ⟨z, hv, hw⟩
theorem sub_str {e : TypeId} {fs : Array Field} {n : Nat} {cs : List Value} {y : DataW H × List MemPlace} (he : P.underlying e = some (.struct fs))
    (h : DataW.trod enc P w base spare held n e cs = some y) {i : Nat} {f : Field} (hf : fs[i]? = some f) {o : Nat} (ho : f.offset = o) (hc : P.cellsOf f.type = 1) (hi : o < cs.length) (hk : P.underlying f.type = some .string) : ∃ s : ByteArray, cs[o]? = some (.string s) ∧ s.size ≤ maxLen := by
  obtain ⟨v, m, y', _, hv, ht⟩ := sub_cell he h hf ho hc hi
  obtain ⟨s, hs, _, hw⟩ := DataW.trod_string hk ht
  cases hs
  exact ⟨s, hv, hw⟩
end
end Go.Proofs.Yteaanngagcflhaa
