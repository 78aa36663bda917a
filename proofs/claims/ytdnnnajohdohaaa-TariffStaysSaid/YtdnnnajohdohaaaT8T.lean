/-
  Both Expr, by their answer; Tariffs: discounts. No condition.
-/
import Derived.Test.YtdnnnajohdohaaaExC
import Derived.Test.YtdnnnajohdohaaaExF
import Derived.Test.YtdnnnajohdohaaaT8S
import Derived.BigQuiet
import Derived.StillTailTactics
import Derived.Lib.Overlaps
import Derived.Deep.DeepCutAuto
import Derived.Deep.RegionWith
import Derived.Laws.RangeAny
set_option maxRecDepth 100000
set_option linter.unusedVariables false
set_option linter.unusedSimpArgs false
namespace Go.Proofs.Ytdnnnajohdohaaa
open Go.RowKit

namespace Ck
open Xp
theorem expr_s (e : Ex) (x : It) (w : World) (s y : Int) (hs : srt 16 e = (s, y)) (h : Rp w e x) : Calls Try.prog 61 #[x.val] w fun r w' => r = .returned (.tuple #[.int .i64 s, .int .i64 y]) ∧ Below w.heap.size w w' := by
  have := expr_any e x w h
  rw [hs] at this
  exact this
theorem refexpr_s (e : Ex) (x : It) (w : World) (s y : Int) (hs : srt 16 e = (s, y)) (h : Rp w e x) : Calls Try.prog 70 #[x.val] w fun r w' => r = .returned (.tuple #[.int .i64 s, .int .i64 y]) ∧ Below w.heap.size w w' := by
  have := refexpr_any e x w h
  rw [hs] at this
  exact this
end Ck
namespace Cv
open Xp Ck
def dqEq (u : ByteArray) (x : Dq) : Bool := x.name.toList == u.toList
def oneE (e : Ex) (pts : Int) : Int := if (srt 16 e).2 ≠ 0 then (srt 16 e).2 else if (srt 16 e).1 ≠ 3 then 7 else if pts < 0 ∨ 10000 < pts then 6 else 0
/-- the error of the discount i -/
def discE (E : Dq → Ex) (ds : List Dq) (i : Nat) : Int :=
  match ds[i]? with
  | none => 0
  | some d => if nameB d.name = false then 8 else if (ds.take i).any (dqEq d.name) = true then 10 else oneE (E d) d.pts
theorem discE_name {E : Dq → Ex} {ds : List Dq} {i : Nat} {d : Dq} (h : ds[i]? = some d) (hn : nameB d.name = false) : discE E ds i = 8 := by simp only [discE, h, hn, if_true]
theorem discE_twice {E : Dq → Ex} {ds : List Dq} {i : Nat} {d : Dq} (h : ds[i]? = some d) (hn : nameB d.name = true) (ht : (ds.take i).any (dqEq d.name) = true) : discE E ds i = 10 := by
  simp only [discE, h]
  rw [if_neg (by rw [hn]; simp), if_pos ht]
theorem discE_one {E : Dq → Ex} {ds : List Dq} {i : Nat} {d : Dq} (h : ds[i]? = some d) (hn : nameB d.name = true) (ht : (ds.take i).any (dqEq d.name) = false) : discE E ds i = oneE (E d) d.pts := by
  simp only [discE, h]
  rw [if_neg (by rw [hn]; simp), if_neg (by rw [ht]; simp)]
theorem oneE_err {e : Ex} {p s y : Int} (hs : srt 16 e = (s, y)) (h : y ≠ 0) : oneE e p = y := by unfold oneE; rw [hs]; exact if_pos h
theorem oneE_sort {e : Ex} {p s : Int} (hs : srt 16 e = (s, 0)) (h : s ≠ 3) : oneE e p = 7 := by unfold oneE; rw [hs]; dsimp only; rw [if_neg (by simp), if_pos h]
theorem oneE_pts {e : Ex} {p : Int} (hs : srt 16 e = (3, 0)) (h : p < 0 ∨ 10000 < p) : oneE e p = 6 := by unfold oneE; rw [hs]; dsimp only; rw [if_neg (by simp), if_neg (by simp), if_pos h]
theorem oneE_ok {e : Ex} {p : Int} (hs : srt 16 e = (3, 0)) (h1 : ¬ p < 0) (h2 : ¬ 10000 < p) : oneE e p = 0 := by unfold oneE; rw [hs]; dsimp only; rw [if_neg (by simp), if_neg (by simp), if_neg (by omega)]
def discsE (E : Dq → Ex) (ds : List Dq) : Int := if 64 < ds.length then 5 else firstE ds.length (discE E ds)
theorem discsE_bad {E : Dq → Ex} {ds : List Dq} (h64 : ¬ 64 < ds.length) {k : Nat} {e : Int} (ha : ∀ j, j < k → discE E ds j = 0) (hk : k < ds.length) (he : discE E ds k = e) (hne : e ≠ 0) : discsE E ds = e := by
  rw [discsE, if_neg h64]; exact firstE_bad _ k _ _ ha hk he hne
theorem discsE_ok {E : Dq → Ex} {ds : List Dq} (h64 : ¬ 64 < ds.length) (ha : ∀ j, j < ds.length → discE E ds j = 0) : discsE E ds = 0 := by
  rw [discsE, if_neg h64]; exact firstE_ok _ _ ha
set_option maxHeartbeats 8000000 in
theorem discount_any (E : Dq → Ex) (A : Option Addr) (n c k : Nat) (ds : List Dq) (w : World) (hlt : k < n) (h : Sl w A n c ds) (hE : ∀ d ∈ ds, Rp w (E d) d.it) (hstr : ∀ d ∈ ds, d.name.size ≤ maxLen) :
    Calls Try.prog 40 #[.slice A n c, .int .i64 (k : Int)] w fun e w' => e = .returned (.int .i64 (discE E ds k)) ∧ Below w.heap.size w w' := by
  have hn := h.nmax
  have hlen := h.len
  have H := Lib.hid h
  obtain ⟨x, hx⟩ := h.get hlt
  have hmem := List.mem_of_getElem? hx
  have HE := Lib.hid (hE x hmem)
  have hsx := hstr x hmem
  clear hE hstr h hmem
  have HX := Lib.hid hx
  obtain ⟨b, off, rfl, hbl, hcells⟩ := H.out.base (by omega)
  have e0 : w.cell? ⟨b, off + k * 6, none⟩ = some (.string x.name) := Sl.at_ hcells hx 0 rfl
  have e1 : w.cell? ⟨b, off + k * 6 + 1, none⟩ = some (.int .i64 x.it.op) := Sl.at_ hcells hx 1 rfl
  have e2 : w.cell? ⟨b, off + k * 6 + 2, none⟩ = some (.int .i64 x.it.num) := Sl.at_ hcells hx 2 rfl
  have e3 : w.cell? ⟨b, off + k * 6 + 3, none⟩ = some (.string x.it.text) := Sl.at_ hcells hx 3 rfl
  have e4 : w.cell? ⟨b, off + k * 6 + 4, none⟩ = some (.slice x.it.A x.it.n x.it.c) := Sl.at_ hcells hx 4 rfl
  have e5 : w.cell? ⟨b, off + k * 6 + 5, none⟩ = some (.int .i64 x.pts) := Sl.at_ hcells hx 5 rfl
  have hslT : ∀ W, (Instr.slice 30 (.slice (some ⟨b, off, none⟩) n c) none (some (.int .i64 (k : Int))) none).run Try.prog W = .ok (.slice (some ⟨b, off, none⟩) k c) W := fun W => run_slice_to (sz := 6) (by kernel_rfl) (by kernel_rfl) (by have := H.out.le; omega) W
  clear hcells hx
  go_enter Try.func40, Try.ntmps40
  go_upto_region 2 with (fail)
  (obtain ⟨V, hWV, hbV, hzV, f1V, mfa⟩ := box1 w #[.string x.name, .int .i64 x.it.op, .int .i64 x.it.num, .string x.it.text, .slice x.it.A x.it.n x.it.c, .int .i64 x.pts] 62; rw [← hWV]; have ma0 : V.cell? ⟨w.heap.size, 0, none⟩ = some (.string x.name) := f1V 0 _ rfl; have ma1 : V.cell? ⟨w.heap.size, 1, none⟩ = some (.int .i64 x.it.op) := f1V 1 _ rfl; have ma2 : V.cell? ⟨w.heap.size, 2, none⟩ = some (.int .i64 x.it.num) := f1V 2 _ rfl; have ma3 : V.cell? ⟨w.heap.size, 3, none⟩ = some (.string x.it.text) := f1V 3 _ rfl; have ma4 : V.cell? ⟨w.heap.size, 4, none⟩ = some (.slice x.it.A x.it.n x.it.c) := f1V 4 _ rfl; have ma5 : V.cell? ⟨w.heap.size, 5, none⟩ = some (.int .i64 x.pts) := f1V 5 _ rfl; clear hWV f1V)
  have hbT := hbV
  have hzV2 : w.heap.size < V.heap.size := hzV
  clear e0 e1 e2 e3 e4 e5 hbV
  go_wp2_with fail
  refine (name_any x.name _ hsx).mono ?_
  rintro e w2 ⟨rfl, hb2⟩
  have hzT := hbT.size
  (have hzhb2 := hb2.size; replace ma0 := (hb2.cell (p := ⟨_, _, none⟩) (by (try dsimp only) <;> omega)).trans ma0; replace ma1 := (hb2.cell (p := ⟨_, _, none⟩) (by (try dsimp only) <;> omega)).trans ma1; replace ma2 := (hb2.cell (p := ⟨_, _, none⟩) (by (try dsimp only) <;> omega)).trans ma2; replace ma3 := (hb2.cell (p := ⟨_, _, none⟩) (by (try dsimp only) <;> omega)).trans ma3; replace ma4 := (hb2.cell (p := ⟨_, _, none⟩) (by (try dsimp only) <;> omega)).trans ma4; replace ma5 := (hb2.cell (p := ⟨_, _, none⟩) (by (try dsimp only) <;> omega)).trans ma5; replace hbT := Below.trans hbT (Below.mono hb2 (by omega)))
  cases hnm : nameB x.name
  · have HQ := Lib.hid (discE_name (E := E) HX.out hnm)
    clear hnm
    go_wp2_with fail
    go_ret
    exact ⟨ret_int HQ.out.symm, hbT⟩
  have HNM := Lib.hid hnm
  clear hnm
  have hzw2 : w.heap.size < w2.heap.size := by omega
  go_wp2_with fail
  go_loopw [22] (fun i wi => ∃ q : Nat, q ≤ k ∧ i = .int .i64 q ∧ Below w2.heap.size w2 wi ∧ (ds.take q).any (dqEq x.name) = false) (fun i _ => k - (intOf i).toNat)
  case atStart => exact ⟨0, Nat.zero_le _, rfl, Below.refl _ _, rfl⟩
  case round =>
    obtain ⟨q, hq, rfl, hbi, ht⟩ := hrel
    have HT := Lib.hid ht
    clear ht
    have hzi := hbi.size
    have hbT2 := hbT.trans (hbi.mono hbT.size)
    (have hzhbi := hbi.size; replace ma0 := (hbi.cell (p := ⟨_, _, none⟩) (by (try dsimp only) <;> omega)).trans ma0; replace ma1 := (hbi.cell (p := ⟨_, _, none⟩) (by (try dsimp only) <;> omega)).trans ma1; replace ma2 := (hbi.cell (p := ⟨_, _, none⟩) (by (try dsimp only) <;> omega)).trans ma2; replace ma3 := (hbi.cell (p := ⟨_, _, none⟩) (by (try dsimp only) <;> omega)).trans ma3; replace ma4 := (hbi.cell (p := ⟨_, _, none⟩) (by (try dsimp only) <;> omega)).trans ma4; replace ma5 := (hbi.cell (p := ⟨_, _, none⟩) (by (try dsimp only) <;> omega)).trans ma5)
    by_cases hltq : q < k
    · obtain ⟨b2, off2, hbo, hbl2, hcells⟩ := H.out.baseIn hbT2 (by omega)
      cases hbo
      obtain ⟨y, hy⟩ := H.out.get (k := q) (by omega)
      have f0 : wr.cell? ⟨b, off + q * 6, none⟩ = some (.string y.name) := Sl.at_ hcells hy 0 rfl
      have f1 : wr.cell? ⟨b, off + q * 6 + 1, none⟩ = some (.int .i64 y.it.op) := Sl.at_ hcells hy 1 rfl
      have f2 : wr.cell? ⟨b, off + q * 6 + 2, none⟩ = some (.int .i64 y.it.num) := Sl.at_ hcells hy 2 rfl
      have f3 : wr.cell? ⟨b, off + q * 6 + 3, none⟩ = some (.string y.it.text) := Sl.at_ hcells hy 3 rfl
      have f4 : wr.cell? ⟨b, off + q * 6 + 4, none⟩ = some (.slice y.it.A y.it.n y.it.c) := Sl.at_ hcells hy 4 rfl
      have f5 : wr.cell? ⟨b, off + q * 6 + 5, none⟩ = some (.int .i64 y.pts) := Sl.at_ hcells hy 5 rfl
      have HYX := Lib.hid hy
      clear hcells hy
      cases hq1 : (y.name.toList == x.name.toList)
      · have HN : Hid (dqEq x.name y = false) := Lib.hid hq1
        go_upto_region 7 with (fail)
        (obtain ⟨U, hWU, hbU, hzU, f1U, ufa⟩ := box1 wr #[.string y.name, .int .i64 y.it.op, .int .i64 y.it.num, .string y.it.text, .slice y.it.A y.it.n y.it.c, .int .i64 y.pts] 62; rw [← hWU]; have ua0 : U.cell? ⟨wr.heap.size, 0, none⟩ = some (.string y.name) := f1U 0 _ rfl; have ua1 : U.cell? ⟨wr.heap.size, 1, none⟩ = some (.int .i64 y.it.op) := f1U 1 _ rfl; have ua2 : U.cell? ⟨wr.heap.size, 2, none⟩ = some (.int .i64 y.it.num) := f1U 2 _ rfl; have ua3 : U.cell? ⟨wr.heap.size, 3, none⟩ = some (.string y.it.text) := f1U 3 _ rfl; have ua4 : U.cell? ⟨wr.heap.size, 4, none⟩ = some (.slice y.it.A y.it.n y.it.c) := f1U 4 _ rfl; have ua5 : U.cell? ⟨wr.heap.size, 5, none⟩ = some (.int .i64 y.pts) := f1U 5 _ rfl; clear hWU f1U)
        replace hbi := hbi.trans (hbU.mono hbi.size)
        (have hzhbU := hbU.size; replace ma0 := (hbU.cell (p := ⟨_, _, none⟩) (by (try dsimp only) <;> omega)).trans ma0)
        go_wp2_with fail
        go_roundw
        case rel =>
          refine ⟨q + 1, by omega, by go_num, hbi, ?_⟩
          rw [List.take_add_one, HYX.out, List.any_append, HT.out]
          simp [HN.out]
        case measure => simp [intOf]; omega
      · have HN : Hid ((ds.take k).any (dqEq x.name) = true) := Lib.hid (List.any_eq_true.2 ⟨y, List.mem_iff_getElem?.2 ⟨q, by rw [List.getElem?_take, if_pos hltq]; exact HYX.out⟩, hq1⟩)
        have HQ := Lib.hid (discE_twice (E := E) HX.out HNM.out HN.out)
        go_upto_region 7 with (fail)
        (obtain ⟨U, hWU, hbU, hzU, f1U, ufa⟩ := box1 wr #[.string y.name, .int .i64 y.it.op, .int .i64 y.it.num, .string y.it.text, .slice y.it.A y.it.n y.it.c, .int .i64 y.pts] 62; rw [← hWU]; have ua0 : U.cell? ⟨wr.heap.size, 0, none⟩ = some (.string y.name) := f1U 0 _ rfl; have ua1 : U.cell? ⟨wr.heap.size, 1, none⟩ = some (.int .i64 y.it.op) := f1U 1 _ rfl; have ua2 : U.cell? ⟨wr.heap.size, 2, none⟩ = some (.int .i64 y.it.num) := f1U 2 _ rfl; have ua3 : U.cell? ⟨wr.heap.size, 3, none⟩ = some (.string y.it.text) := f1U 3 _ rfl; have ua4 : U.cell? ⟨wr.heap.size, 4, none⟩ = some (.slice y.it.A y.it.n y.it.c) := f1U 4 _ rfl; have ua5 : U.cell? ⟨wr.heap.size, 5, none⟩ = some (.int .i64 y.pts) := f1U 5 _ rfl; clear hWU f1U)
        replace hbT2 := hbT2.trans (hbU.mono hbT2.size)
        (have hzhbU := hbU.size; replace ma0 := (hbU.cell (p := ⟨_, _, none⟩) (by (try dsimp only) <;> omega)).trans ma0)
        replace hbT := hbT2
        go_wp2_with fail
        go_ret
        exact ⟨ret_int HQ.out.symm, hbT⟩
    · obtain rfl : k = q := by omega
      have hkn : ¬ ((k : Int) < (k : Int)) := by omega
      have HO := Lib.hid (discE_one (E := E) HX.out HNM.out HT.out)
      have hbT0 := hbT
      replace hbT := hbT2
      clear hbT2 hbT0
      obtain ⟨s0, y0, hsy⟩ : ∃ s0 y0, srt 16 (E x) = (s0, y0) := ⟨_, _, rfl⟩
      have HSY := Lib.hid hsy
      clear hsy
      go_wp2_with fail
      refine (expr_s (E x) x.it _ s0 y0 HSY.out (HE.out.on hbT)).mono ?_
      rintro e w5 ⟨rfl, hb5⟩
      have hzT := hbT.size
      (have hzhb5 := hb5.size; replace ma5 := (hb5.cell (p := ⟨_, _, none⟩) (by (try dsimp only) <;> omega)).trans ma5; replace hbT := Below.trans hbT (Below.mono hb5 (by omega)))
      by_cases hy0 : y0 = 0
      · subst hy0
        by_cases hs3 : s0 = 3
        · subst hs3
          by_cases p1 : x.pts < 0
          · have HQ := Lib.hid (HO.out.trans (oneE_pts HSY.out (.inl p1)))
            go_wp2_with fail
            refine (within_any 10000 _ 1 1 [x.pts] _ (Sl.new w5 #[.int .i64 x.pts] 3 w5.heap.size rfl [x.pts] 1 rfl (by unfold maxLen; decide) rfl)).mono ?_
            rintro e w' ⟨rfl, rfl⟩
            rw [show [x.pts].all (inB 10000) = false from by simp [inB]; omega]
            replace hbT := hbT.alloc hbT.size (.cells #[.int .i64 x.pts] 3)
            go_wp2_with fail
            go_ret
            exact ⟨ret_int HQ.out.symm, hbT⟩
          by_cases p2 : 10000 < x.pts
          · have HQ := Lib.hid (HO.out.trans (oneE_pts HSY.out (.inr p2)))
            go_wp2_with fail
            refine (within_any 10000 _ 1 1 [x.pts] _ (Sl.new w5 #[.int .i64 x.pts] 3 w5.heap.size rfl [x.pts] 1 rfl (by unfold maxLen; decide) rfl)).mono ?_
            rintro e w' ⟨rfl, rfl⟩
            rw [show [x.pts].all (inB 10000) = false from by simp [inB]; omega]
            replace hbT := hbT.alloc hbT.size (.cells #[.int .i64 x.pts] 3)
            go_wp2_with fail
            go_ret
            exact ⟨ret_int HQ.out.symm, hbT⟩
          have HQ := Lib.hid (HO.out.trans (oneE_ok HSY.out p1 p2))
          go_wp2_with fail
          refine (within_any 10000 _ 1 1 [x.pts] _ (Sl.new w5 #[.int .i64 x.pts] 3 w5.heap.size rfl [x.pts] 1 rfl (by unfold maxLen; decide) rfl)).mono ?_
          rintro e w' ⟨rfl, rfl⟩
          rw [show [x.pts].all (inB 10000) = true from by simp [inB]; omega]
          replace hbT := hbT.alloc hbT.size (.cells #[.int .i64 x.pts] 3)
          go_wp2_with fail
          go_ret
          exact ⟨ret_int HQ.out.symm, hbT⟩
        · have q3 : (s0 != 3) = true := by simpa using hs3
          have HQ := Lib.hid (HO.out.trans (oneE_sort HSY.out hs3))
          clear hs3
          go_wp2_with fail
          go_ret
          exact ⟨ret_int HQ.out.symm, hbT⟩
      · have q5 : (y0 != 0) = true := by simpa using hy0
        have HQ := Lib.hid (HO.out.trans (oneE_err HSY.out hy0))
        have HY0 := Lib.hid hy0
        clear hy0
        go_wp2_with fail
        go_ret
        exact ⟨ret_int HQ.out.symm, hbT⟩
set_option maxHeartbeats 8000000 in
theorem refdiscs_any (name : ByteArray) (from_ : Int) (split : Bool) (Az : Option Addr) (nz cz : Nat) (Ab : Option Addr) (nb cb : Nat) (Ar : Option Addr) (nr cr : Nat) (Ad : Option Addr) (nd cd : Nat) (E : Dq → Ex) (ds : List Dq) (w : World) (h : Sl w Ad nd cd ds) (hE : ∀ d ∈ ds, Rp w (E d) d.it) (hstr : ∀ d ∈ ds, d.name.size ≤ maxLen) :
    Calls Try.prog 45 #[.agg #[.string name, .int .i64 from_, .bool split, .slice Az nz cz, .slice Ab nb cb, .slice Ar nr cr, .slice Ad nd cd]] w fun e w' => e = .returned (.int .i64 (discsE E ds)) ∧ Below w.heap.size w w' := by
  have hn := h.nmax
  have hlen := h.len
  have H := Lib.hid h
  have HEE := Lib.hid hE
  have HSTR := Lib.hid hstr
  clear hE hstr h
  by_cases h64 : (64 : Int) < (nd : Int)
  · have HE : Hid (discsE E ds = 5) := Lib.hid (by rw [discsE, if_pos (by omega)])
    go_enter Try.func45, Try.ntmps45
    go_wp2_with fail
    go_ret
    exact ⟨ret_int HE.out.symm, (Below.refl _ _).alloc (Nat.le_refl _) _⟩
  have h64n : ¬ 64 < ds.length := by omega
  have HLEN := Lib.hid hlen
  go_enter Try.func45, Try.ntmps45
  go_upto_region 1 with (fail)
  (obtain ⟨W, hWW, hbW, hzW, f1W, qfa⟩ := box1 w #[.string name, .int .i64 from_, .bool split, .slice Az nz cz, .slice Ab nb cb, .slice Ar nr cr, .slice Ad nd cd] 32; rw [← hWW]; have qa0 : W.cell? ⟨w.heap.size, 0, none⟩ = some (.string name) := f1W 0 _ rfl; have qa1 : W.cell? ⟨w.heap.size, 1, none⟩ = some (.int .i64 from_) := f1W 1 _ rfl; have qa2 : W.cell? ⟨w.heap.size, 2, none⟩ = some (.bool split) := f1W 2 _ rfl; have qa3 : W.cell? ⟨w.heap.size, 3, none⟩ = some (.slice Az nz cz) := f1W 3 _ rfl; have qa4 : W.cell? ⟨w.heap.size, 4, none⟩ = some (.slice Ab nb cb) := f1W 4 _ rfl; have qa5 : W.cell? ⟨w.heap.size, 5, none⟩ = some (.slice Ar nr cr) := f1W 5 _ rfl; have qa6 : W.cell? ⟨w.heap.size, 6, none⟩ = some (.slice Ad nd cd) := f1W 6 _ rfl; clear hWW f1W)
  have hzW2 : w.heap.size < W.heap.size := hzW
  go_wp2_with fail
  go_loopw [3] (fun i wr => ∃ k : Nat, k ≤ nd ∧ i = .int .i64 k ∧ Below W.heap.size W wr ∧ ∀ j, j < k → discE E ds j = 0) (fun i _ => nd - (intOf i).toNat)
  case atStart => exact ⟨0, Nat.zero_le _, rfl, Below.refl _ _, fun j hj => absurd hj (by omega)⟩
  case round =>
    obtain ⟨k, hk, rfl, hbr, ha⟩ := hrel
    have HA := Lib.hid ha
    clear ha
    have hzr := hbr.size
    have hbT := hbW.trans (hbr.mono hbW.size)
    have qq6 := (hbr.cell (p := ⟨w.heap.size, 6, none⟩) hzW2).trans qa6
    by_cases hlt : k < nd
    · obtain ⟨b, off, rfl, hbl, hcells⟩ := H.out.baseIn hbT (by omega)
      obtain ⟨x, hx⟩ := H.out.get hlt
      have e0 : wr.cell? ⟨b, off + k * 6, none⟩ = some (.string x.name) := Sl.at_ hcells hx 0 rfl
      have e1 : wr.cell? ⟨b, off + k * 6 + 1, none⟩ = some (.int .i64 x.it.op) := Sl.at_ hcells hx 1 rfl
      have e2 : wr.cell? ⟨b, off + k * 6 + 2, none⟩ = some (.int .i64 x.it.num) := Sl.at_ hcells hx 2 rfl
      have e3 : wr.cell? ⟨b, off + k * 6 + 3, none⟩ = some (.string x.it.text) := Sl.at_ hcells hx 3 rfl
      have e4 : wr.cell? ⟨b, off + k * 6 + 4, none⟩ = some (.slice x.it.A x.it.n x.it.c) := Sl.at_ hcells hx 4 rfl
      have e5 : wr.cell? ⟨b, off + k * 6 + 5, none⟩ = some (.int .i64 x.pts) := Sl.at_ hcells hx 5 rfl
      have HX := Lib.hid hx
      have hmem := List.mem_of_getElem? hx
      have HE := Lib.hid (HEE.out x hmem)
      have hsx := HSTR.out x hmem
      have HKL : Hid (k < ds.length) := Lib.hid (by omega)
      clear hcells hx hmem
      go_upto_region 7 with (fail)
      (obtain ⟨V, hWV, hbV, hzV, f1V, mfa⟩ := box1 wr #[.string x.name, .int .i64 x.it.op, .int .i64 x.it.num, .string x.it.text, .slice x.it.A x.it.n x.it.c, .int .i64 x.pts] 62; rw [← hWV]; have ma0 : V.cell? ⟨wr.heap.size, 0, none⟩ = some (.string x.name) := f1V 0 _ rfl; have ma1 : V.cell? ⟨wr.heap.size, 1, none⟩ = some (.int .i64 x.it.op) := f1V 1 _ rfl; have ma2 : V.cell? ⟨wr.heap.size, 2, none⟩ = some (.int .i64 x.it.num) := f1V 2 _ rfl; have ma3 : V.cell? ⟨wr.heap.size, 3, none⟩ = some (.string x.it.text) := f1V 3 _ rfl; have ma4 : V.cell? ⟨wr.heap.size, 4, none⟩ = some (.slice x.it.A x.it.n x.it.c) := f1V 4 _ rfl; have ma5 : V.cell? ⟨wr.heap.size, 5, none⟩ = some (.int .i64 x.pts) := f1V 5 _ rfl; clear hWV f1V)
      have hbR := hbr.trans (hbV.mono hbr.size)
      replace hbT := hbT.trans (hbV.mono hbT.size)
      have hzV2 : wr.heap.size < V.heap.size := hzV
      have hwz : w.heap.size < wr.heap.size := by omega
      replace qq6 := (hbV.cell (p := ⟨w.heap.size, 6, none⟩) hwz).trans qq6
      obtain ⟨g, hg⟩ : ∃ g, wr.heap.size = g := ⟨_, rfl⟩
      rw [hg] at ma0 ma1 ma2 ma3 ma4 ma5 ⊢
      have hgV : g < V.heap.size := by omega
      have hwV : w.heap.size < V.heap.size := by omega
      clear e0 e1 e2 e3 e4 e5 hbV hzV mfa hbW hbr hzr hzV2 hg hwz
      go_wp2_with fail
      refine (refname_any x.name _ hsx).mono ?_
      rintro e w' ⟨rfl, rfl⟩
      cases hnm : nameB x.name
      · have HQ := Lib.hid (discE_name (E := E) HX.out hnm)
        clear hnm
        go_wp2_with fail
        go_ret
        exact ⟨ret_int (discsE_bad h64n HA.out HKL.out HQ.out (by decide)).symm, hbT⟩
      have HNM := Lib.hid hnm
      clear hnm
      go_wp2_with fail
      go_loopw [5] (fun i wi => ∃ q : Nat, q ≤ k ∧ i = .int .i64 q ∧ Below V.heap.size V wi ∧ (ds.take q).any (dqEq x.name) = false) (fun i _ => k - (intOf i).toNat)
      case atStart => exact ⟨0, Nat.zero_le _, rfl, Below.refl _ _, rfl⟩
      case round =>
        obtain ⟨q, hq, rfl, hbi, ht⟩ := hrel
        have HT := Lib.hid ht
        clear ht
        have hzi := hbi.size
        have hbT2 := hbT.trans (hbi.mono hbT.size)
        have qi6 := (hbi.cell (p := ⟨w.heap.size, 6, none⟩) hwV).trans qq6
        have qq0 := (hbi.cell (p := ⟨g, 0, none⟩) hgV).trans ma0
        have qq1 := (hbi.cell (p := ⟨g, 1, none⟩) hgV).trans ma1
        have qq2 := (hbi.cell (p := ⟨g, 2, none⟩) hgV).trans ma2
        have qq3 := (hbi.cell (p := ⟨g, 3, none⟩) hgV).trans ma3
        have qq4 := (hbi.cell (p := ⟨g, 4, none⟩) hgV).trans ma4
        have qq5 := (hbi.cell (p := ⟨g, 5, none⟩) hgV).trans ma5
        have hgr : g < wr.heap.size := by omega
        by_cases hltq : q < k
        · obtain ⟨b2, off2, hbo, hbl2, hcells⟩ := H.out.baseIn hbT2 (by omega)
          cases hbo
          obtain ⟨y, hy⟩ := H.out.get (k := q) (by omega)
          have f0 : wr.cell? ⟨b, off + q * 6, none⟩ = some (.string y.name) := Sl.at_ hcells hy 0 rfl
          have HYX := Lib.hid hy
          clear hcells hy
          cases hq1 : (y.name.toList == x.name.toList)
          · have HN : Hid (dqEq x.name y = false) := Lib.hid hq1
            go_upto_region 12 with (fail)
            ((with_reducible refine wp_region_quiet_lit ?_ ?_ ?_); kernel_rfl; kernel_rfl; (repeat (any_goals (first | go_big_quiet_step (fail) | (refine wpQuiet_step (fun K hK => ?_); go_simp; (first | (refine hK _ ?_; clear hK K) | (split <;> rename_i hg <;> (refine hK _ ?_; clear hK K) <;> (try simp only [Bool.not_eq_true] at hg) <;> (first | simp only [Int.not_lt.2 hg, decide_false] | simp only [Int.not_le.1 hg, decide_true] | simp only [hg, decide_true, decide_false] | skip))))))); all_goals (refine wpQuiet_nil ?_; intro _ hw'; obtain ⟨nq, hw''⟩ := hw'; subst hw''))
            go_wp2_with fail
            go_roundw
            case rel =>
              refine ⟨q + 1, by omega, by go_num, below_drewN hbi _, ?_⟩
              rw [List.take_add_one, HYX.out, List.any_append, HT.out]
              simp [HN.out]
            case measure => simp [intOf]; omega
          · have HN : Hid ((ds.take k).any (dqEq x.name) = true) := Lib.hid (List.any_eq_true.2 ⟨y, List.mem_iff_getElem?.2 ⟨q, by rw [List.getElem?_take, if_pos hltq]; exact HYX.out⟩, hq1⟩)
            have HQ := Lib.hid (discE_twice (E := E) HX.out HNM.out HN.out)
            go_upto_region 12 with (fail)
            ((with_reducible refine wp_region_quiet_lit ?_ ?_ ?_); kernel_rfl; kernel_rfl; (repeat (any_goals (first | go_big_quiet_step (fail) | (refine wpQuiet_step (fun K hK => ?_); go_simp; (first | (refine hK _ ?_; clear hK K) | (split <;> rename_i hg <;> (refine hK _ ?_; clear hK K) <;> (try simp only [Bool.not_eq_true] at hg) <;> (first | simp only [Int.not_lt.2 hg, decide_false] | simp only [Int.not_le.1 hg, decide_true] | simp only [hg, decide_true, decide_false] | skip))))))); all_goals (refine wpQuiet_nil ?_; intro _ hw'; obtain ⟨nq, hw''⟩ := hw'; subst hw''))
            replace hbT := below_drewN hbT2
            go_wp2_with fail
            go_ret
            exact ⟨ret_int (discsE_bad h64n HA.out HKL.out HQ.out (by decide)).symm, hbT _⟩
        · obtain rfl : k = q := by omega
          have hkk : ¬ ((k : Int) < (k : Int)) := by omega
          have HO := Lib.hid (discE_one (E := E) HX.out HNM.out HT.out)
          replace hbT := hbT2
          clear hbT2
          obtain ⟨s0, y0, hsy⟩ : ∃ s0 y0, srt 16 (E x) = (s0, y0) := ⟨_, _, rfl⟩
          have HSY := Lib.hid hsy
          clear hsy
          go_wp2_with fail
          refine (refexpr_s (E x) x.it _ s0 y0 HSY.out (HE.out.on hbT)).mono ?_
          rintro e w5 ⟨rfl, hb5⟩
          have hzT := hbT.size
          (have hzhb5 := hb5.size; replace qq5 := (hb5.cell (p := ⟨_, _, none⟩) (by (try dsimp only) <;> omega)).trans qq5; replace hbT := Below.trans hbT (Below.mono hb5 (by omega)))
          by_cases hy0 : y0 = 0
          · subst hy0
            by_cases hs3 : s0 = 3
            · subst hs3
              by_cases p1 : x.pts < 0
              · have HQ := Lib.hid (HO.out.trans (oneE_pts HSY.out (.inl p1)))
                go_wp2_with fail
                go_ret
                exact ⟨ret_int (discsE_bad h64n HA.out HKL.out HQ.out (by decide)).symm, hbT⟩
              by_cases p2 : 10000 < x.pts
              · have HQ := Lib.hid (HO.out.trans (oneE_pts HSY.out (.inr p2)))
                go_wp2_with fail
                go_ret
                exact ⟨ret_int (discsE_bad h64n HA.out HKL.out HQ.out (by decide)).symm, hbT⟩
              have HQ := Lib.hid (HO.out.trans (oneE_ok HSY.out p1 p2))
              have hbs := hbi.trans (hb5.mono hbi.size)
              go_wp2_with fail
              go_roundw
              case rel => exact ⟨k + 1, by omega, by go_num, hbR.trans (hbs.mono hbR.size), zero_step HA.out HQ.out⟩
              case measure => simp [intOf]; omega
            · have q3 : (s0 != 3) = true := by simpa using hs3
              have HQ := Lib.hid (HO.out.trans (oneE_sort HSY.out hs3))
              clear hs3
              go_wp2_with fail
              go_ret
              exact ⟨ret_int (discsE_bad h64n HA.out HKL.out HQ.out (by decide)).symm, hbT⟩
          · have q5 : (y0 != 0) = true := by simpa using hy0
            have HQ := Lib.hid (HO.out.trans (oneE_err HSY.out hy0))
            have HY0 := Lib.hid hy0
            clear hy0
            go_wp2_with fail
            go_ret
            exact ⟨ret_int (discsE_bad h64n HA.out HKL.out HQ.out HY0.out).symm, hbT⟩
    · obtain rfl : nd = k := by omega
      have HV := Lib.hid (discsE_ok (E := E) h64n (by rw [HLEN.out]; exact HA.out))
      have hkn : ¬ ((nd : Int) < (nd : Int)) := by omega
      go_wp2_with fail
      go_ret
      exact ⟨ret_int HV.out.symm, hbT⟩
end Cv
end Go.Proofs.Ytdnnnajohdohaaa
