/-
  Dedup: law Filters; a record opened. No condition.
-/
import Derived.Test.YtdcekckghlpamaaDedU
import Derived.Test.YtdcekckghlpamaaDedV
import Derived.Test.YtdcekckghlpamaaDedM
import Derived.Test.YtdcekckghlpamaaLawN
import Derived.BigQuiet
import Derived.StillTailTactics
import Derived.Lib.Overlaps
import Derived.Deep.DeepCutAuto
import Derived.Deep.RegionWith
import Derived.Laws.RangeAny
set_option maxRecDepth 100000
set_option linter.unusedVariables false
set_option linter.unusedSimpArgs false
namespace Go.Proofs.Ytdcekckghlpamaa
open Go.RowKit

namespace Dd
theorem rec_read {H : Type} {enc : TypeId × Value → H} {w : World} {base : Nat} {spare : Nat → Bool} {held : Bool} (n : Nat) (cs : List Value) (y : DataW H × List MemPlace) (hl : cs.length = Flat.sz Rec) (h : DataW.trod enc Try.prog w base spare held n 44 cs = some y) : ∃ x : Rec, cs = Flat.cells x := by
  replace hl : cs.length = 12 := hl
  obtain ⟨x0, h0, _⟩ := sub_int Try.underlying44 h (i := 0) rfl (o := 0) rfl (by kernel_rfl) (by omega) Try.underlying3
  obtain ⟨x1, h1, _⟩ := sub_int Try.underlying44 h (i := 1) rfl (o := 1) rfl (by kernel_rfl) (by omega) Try.underlying3
  obtain ⟨x2, h2, _⟩ := sub_int Try.underlying44 h (i := 2) rfl (o := 2) rfl (by kernel_rfl) (by omega) Try.underlying3
  obtain ⟨x3, h3, _⟩ := sub_str Try.underlying44 h (i := 3) rfl (o := 3) rfl (by kernel_rfl) (by omega) Try.underlying9
  obtain ⟨x4, h4, _⟩ := sub_str Try.underlying44 h (i := 4) rfl (o := 4) rfl (by kernel_rfl) (by omega) Try.underlying9
  obtain ⟨x5, h5, _⟩ := sub_int Try.underlying44 h (i := 5) rfl (o := 5) rfl (by kernel_rfl) (by omega) Try.underlying3
  obtain ⟨x6, h6, _⟩ := sub_int Try.underlying44 h (i := 6) rfl (o := 6) rfl (by kernel_rfl) (by omega) Try.underlying3
  obtain ⟨x7, h7, _⟩ := sub_int Try.underlying44 h (i := 7) rfl (o := 7) rfl (by kernel_rfl) (by omega) Try.underlying3
  obtain ⟨x8, h8, _⟩ := sub_int Try.underlying44 h (i := 8) rfl (o := 8) rfl (by kernel_rfl) (by omega) Try.underlying3
  obtain ⟨x9, h9⟩ := sub_bool Try.underlying44 h (i := 9) rfl (o := 9) rfl (by kernel_rfl) (by omega) Try.underlying4
  obtain ⟨x10, h10, _⟩ := sub_int Try.underlying44 h (i := 10) rfl (o := 10) rfl (by kernel_rfl) (by omega) Try.underlying3
  obtain ⟨x11, h11⟩ := sub_bool Try.underlying44 h (i := 11) rfl (o := 11) rfl (by kernel_rfl) (by omega) Try.underlying4
  refine ⟨⟨x0, x1, x2, x3, x4, x5, x6, x7, x8, x9, x10, x11⟩, ?_⟩
  clear h
  match cs, hl with
  | [_, _, _, _, _, _, _, _, _, _, _, _], _ => cases h0; cases h1; cases h2; cases h3; cases h4; cases h5; cases h6; cases h7; cases h8; cases h9; cases h10; cases h11; rfl
/-- the answer of Filter, as slices that may be read -/
def FilSl (w : World) (F : Fst) (e : Ending) (w' : World) : Prop :=
  ∃ (A1 A2 A3 : Option Addr) (c1 c2 c3 : Nat), e = .returned (.tuple #[.slice A1 F.1.length c1, .slice A2 F.2.1.length c2, .slice A3 F.2.2.length c3]) ∧ Sl w' A1 F.1.length c1 F.1 ∧ NilOk A1 c1 ∧ Sl w' A2 F.2.1.length c2 F.2.1 ∧ NilOk A2 c2 ∧ Sl w' A3 F.2.2.length c3 F.2.2 ∧ Below w.heap.size w w'
theorem FilPost.sl {w w' : World} {F : Fst} {e : Ending} (h : FilPost w F e w') : FilSl w F e w' := by
  obtain ⟨v1, v2, v3, rfl, o1, o2, o3, hb⟩ := h
  obtain ⟨A1, c1, rfl, n1, s1⟩ := o1.slN
  obtain ⟨A2, c2, rfl, n2, s2⟩ := o2.slN
  obtain ⟨A3, c3, rfl, n3, s3⟩ := o3.slN
  exact ⟨A1, A2, A3, c1, c2, c3, rfl, s1, n1, s2, n2, s3, hb⟩
set_option maxHeartbeats 8000000 in
theorem filters_law (A1 : Option Addr) (m1 c1 : Nat) (xs : List Rng) (A : Option Addr) (n c : Nat) (l : List Rec) (w : World) (h1 : Sl w A1 m1 c1 xs) (hN : NilOk A1 c1) (h : Sl w A n c l) :
    Calls Try.prog 7 #[.slice A1 m1 c1, .slice A n c] w fun e w' => e = .returned (.bool true) ∧ Below w.heap.size w w' := by
  have hlen1 := h1.len
  have H := Lib.hid h
  have H1 := Lib.hid h1
  have HN := Lib.hid hN
  have hn := h.nmax
  clear h h1 hN
  cases hl : lightB xs
  · have HL := Lib.hid hl
    clear hl
    go_enter Try.func7, Try.ntmps7
    go_wp2_with fail
    refine (light_any A1 m1 c1 xs _ H1.out).mono ?_
    rintro e w2 ⟨rfl, hb2⟩
    rw [HL.out]
    go_wp2_with fail
    refine (awake_any _).mono ?_
    rintro e w9 ⟨rfl, hb9⟩
    go_wp2_with fail
    go_ret
    exact ⟨rfl, hb2.trans (hb9.mono hb2.size)⟩
  obtain ⟨hcan, h100⟩ := light_can hl
  have HC := Lib.hid hcan
  have HL := Lib.hid hl
  clear hl hcan
  by_cases h60 : 60 < n
  · have hi60 : (60 : Int) < (n : Int) := by omega
    go_enter Try.func7, Try.ntmps7
    go_wp2_with fail
    refine (light_any A1 m1 c1 xs _ H1.out).mono ?_
    rintro e w2 ⟨rfl, hb2⟩
    rw [HL.out]
    go_wp2_with fail
    refine (awake_any _).mono ?_
    rintro e w9 ⟨rfl, hb9⟩
    go_wp2_with fail
    go_ret
    exact ⟨rfl, hb2.trans (hb9.mono hb2.size)⟩
  have hi60 : ¬ (60 : Int) < (n : Int) := by omega
  go_enter Try.func7, Try.ntmps7
  go_wp2_with fail
  refine (light_any A1 m1 c1 xs _ H1.out).mono ?_
  rintro e w2 ⟨rfl, hb2⟩
  rw [HL.out]
  go_wp2_with fail
  refine (filter_any A1 m1 c1 xs A n c l _ (H1.out.below hb2) HN.out HC.out (by omega) (H.out.below hb2) (by omega)).mono ?_
  intro e w3 hp3
  obtain ⟨B1, B2, B3, d1, d2, d3, rfl, s1, _, s2, _, s3, hb3⟩ := hp3.sl
  obtain ⟨F, hF⟩ : ∃ F, filt xs l = F := ⟨_, rfl⟩
  rw [hF] at s1 s2 s3 ⊢
  have HF := Lib.hid hF
  obtain ⟨k1, hk1⟩ : ∃ k, F.1.length = k := ⟨_, rfl⟩
  obtain ⟨k2, hk2⟩ : ∃ k, F.2.1.length = k := ⟨_, rfl⟩
  obtain ⟨k3, hk3⟩ : ∃ k, F.2.2.length = k := ⟨_, rfl⟩
  rw [hk1] at s1 ⊢
  rw [hk2] at s2 ⊢
  rw [hk3] at s3 ⊢
  have hT := hb2.trans (hb3.mono hb2.size)
  have S1 := Lib.hid s1
  have S2 := Lib.hid s2
  have S3 := Lib.hid s3
  clear hp3 hF s1 s2 s3 hb2 hb3
  go_wp2_with fail
  refine (reffilter_any A1 m1 c1 xs A n c l _ (H1.out.below hT) HN.out HC.out (by omega) (H.out.below hT) (by omega)).mono ?_
  intro e w4 hp4
  obtain ⟨B4, B5, B6, d4, d5, d6, rfl, s4, _, s5, _, s6, hb4⟩ := hp4.sl
  rw [HF.out] at s4 s5 s6 ⊢
  rw [hk1] at s4 ⊢
  rw [hk2] at s5 ⊢
  rw [hk3] at s6 ⊢
  replace S1 := Lib.hid (S1.out.below hb4)
  replace S2 := Lib.hid (S2.out.below hb4)
  replace S3 := Lib.hid (S3.out.below hb4)
  replace hT := hT.trans (hb4.mono hT.size)
  have S4 := Lib.hid s4
  have S5 := Lib.hid s5
  have S6 := Lib.hid s6
  clear hp4 s4 s5 s6 hb4 hk1 hk2 hk3
  go_wp2_with fail
  refine (same_any B1 B4 k1 k1 d1 d4 F.1 F.1 _ S1.out S4.out).mono ?_
  rintro e w5 ⟨rfl, hb5⟩
  rw [decide_eq_true rfl]
  replace hT := hT.trans (hb5.mono hT.size)
  go_wp2_with fail
  refine (samerec_eq F.2.1 B2 B5 k2 d2 d5 _ (S2.out.below hb5) (S5.out.below hb5)).mono ?_
  rintro e w6 ⟨rfl, hb6⟩
  replace hT := hT.trans (hb6.mono hT.size)
  have hb56 := hb5.trans (hb6.mono hb5.size)
  go_wp2_with fail
  refine (samerej_eq F.2.2 B3 B6 k3 d3 d6 _ (S3.out.below hb56) (S6.out.below hb56)).mono ?_
  rintro e w7 ⟨rfl, hb7⟩
  replace hT := hT.trans (hb7.mono hT.size)
  go_wp2_with fail
  refine (awake_any _).mono ?_
  rintro e w9 ⟨rfl, hb9⟩
  go_wp2_with fail
  go_ret
  exact ⟨rfl, hT.trans (hb9.mono hT.size)⟩
end Dd
end Go.Proofs.Ytdcekckghlpamaa
