/-
  Dedup: law Once, up to its loop. No condition.
-/
import Derived.Test.YtdcekckghlpamaaDedAC
import Derived.Test.YtdcekckghlpamaaDedW
import Derived.BigQuiet
import Derived.StillTailTactics
import Derived.Lib.Overlaps
import Derived.Deep.DeepCutAuto
import Derived.Deep.RegionWith
import Derived.Laws.RangeAny
set_option maxRecDepth 100000
set_option linter.unusedVariables false
set_option linter.unusedSimpArgs false
namespace Go.Proofs.Ytdcekckghlpamaa
open Go.RowKit

namespace Dd
theorem neq_rec_self (r : Rec) (w : World) :
    (binOp .neq 44 (.agg #[.int .i64 r.src, .int .i64 r.ser, .int .i64 r.kind, .string r.a, .string r.b, .int .i64 r.start, .int .i64 r.units, .int .i64 r.call, .int .i64 r.part, .bool r.last, .int .i64 r.trunk, .bool r.inb]) (.agg #[.int .i64 r.src, .int .i64 r.ser, .int .i64 r.kind, .string r.a, .string r.b, .int .i64 r.start, .int .i64 r.units, .int .i64 r.call, .int .i64 r.part, .bool r.last, .int .i64 r.trunk, .bool r.inb])).run Try.prog w = .ok (.bool false) w := by
  have u3 := Try.underlying3
  have ia := Try.isAgg3
  have z3 := Try.sizeOf3
  have hS : Try.prog.underlying 44 = some (.struct (Try.prog.fieldsOf 44)) := by kernel_rfl
  have hp : Try.prog.stoodInHeld 44 = false := by kernel_rfl
  simp only [binOp, Op.equal, Op.maxDepth, Sem.run_bind]
  rw [show (10000 : Nat) = 9999 + 1 from rfl, run_equalIn_struct w 9999 44 _ _ hS hp]
  simp only [Program.fieldsOf, Try.underlying44]
  go_simp
theorem ag0_true {xs : List Rng} {r : Rec} (h : hasL xs r.src r.ser = true ∨ r.src < 1 ∨ 99 < r.src ∨ r.ser < 1 ∨ 999999999 < r.ser) : ag0 xs r = true := by
  unfold ag0
  rcases h with h | h
  · rw [h, Bool.true_or]
  · have : ident r.src r.ser = false := by
      cases hi : ident r.src r.ser with
      | false => rfl
      | true => have := ident_iff.1 hi; omega
    rw [this]; simp
theorem ag0_false {xs : List Rng} {r : Rec} (h : hasL xs r.src r.ser = false) (h1 : ¬ r.src < 1) (h2 : ¬ 99 < r.src) (h3 : ¬ r.ser < 1) (h4 : ¬ 999999999 < r.ser) : ag0 xs r = false := by
  unfold ag0
  rw [h, ident_iff.2 (by omega)]; rfl
set_option maxHeartbeats 16000000 in
theorem once_law (A1 : Option Addr) (m1 c1 : Nat) (xs : List Rng) (A : Option Addr) (n c : Nat) (la : List Rec) (A' : Option Addr) (n' c' : Nat) (lb : List Rec) (w : World) (h1 : Sl w A1 m1 c1 xs) (hN : NilOk A1 c1) (ha : Sl w A n c la) (hNa : NilOk A c) (hb : Sl w A' n' c' lb) (hNb : NilOk A' c') :
    Calls Try.prog 8 #[.slice A1 m1 c1, .slice A n c, .slice A' n' c'] w fun e w' => e = .returned (.bool true) ∧ Below w.heap.size w w' := by
  have hlen1 := h1.len
  have hla0 := ha.len
  have hlb0 := hb.len
  have H1 := Lib.hid h1
  have HN := Lib.hid hN
  have HA := Lib.hid ha
  have HB := Lib.hid hb
  have HNA := Lib.hid hNa
  have HNB := Lib.hid hNb
  have hn := ha.nmax
  have hn' := hb.nmax
  clear h1 ha hb hN hNa hNb
  cases hl : lightB xs
  · have HL := Lib.hid hl
    clear hl
    go_enter Try.func8, Try.ntmps8
    go_wp2_with fail
    refine (light_any A1 m1 c1 xs _ H1.out).mono ?_
    rintro e w2 ⟨rfl, hb2⟩
    rw [HL.out]
    go_wp2_with fail
    refine (awake_any _).mono ?_
    rintro e w9 ⟨rfl, hb9⟩
    go_wp2_with fail
    go_ret
    exact ⟨rfl, hb2.trans (hb9.mono hb2.size)⟩
  obtain ⟨hcan, h100⟩ := light_can hl
  have HC := Lib.hid hcan
  have HL := Lib.hid hl
  clear hl hcan
  by_cases h60 : 30 < n
  · have hi60 : (30 : Int) < (n : Int) := by omega
    go_enter Try.func8, Try.ntmps8
    go_wp2_with fail
    refine (light_any A1 m1 c1 xs _ H1.out).mono ?_
    rintro e w2 ⟨rfl, hb2⟩
    rw [HL.out]
    go_wp2_with fail
    refine (awake_any _).mono ?_
    rintro e w9 ⟨rfl, hb9⟩
    go_wp2_with fail
    go_ret
    exact ⟨rfl, hb2.trans (hb9.mono hb2.size)⟩
  have hi60 : ¬ (30 : Int) < (n : Int) := by omega
  by_cases h61 : 30 < n'
  · have hi61 : (30 : Int) < (n' : Int) := by omega
    go_enter Try.func8, Try.ntmps8
    go_wp2_with fail
    refine (light_any A1 m1 c1 xs _ H1.out).mono ?_
    rintro e w2 ⟨rfl, hb2⟩
    rw [HL.out]
    go_wp2_with fail
    refine (awake_any _).mono ?_
    rintro e w9 ⟨rfl, hb9⟩
    go_wp2_with fail
    go_ret
    exact ⟨rfl, hb2.trans (hb9.mono hb2.size)⟩
  have hi61 : ¬ (30 : Int) < (n' : Int) := by omega
  go_enter Try.func8, Try.ntmps8
  go_wp2_with fail
  refine (light_any A1 m1 c1 xs _ H1.out).mono ?_
  rintro e w2 ⟨rfl, hb2⟩
  rw [HL.out]
  have hT := hb2
  go_wp2_with fail
  refine (filter_any A1 m1 c1 xs A n c la w2 (H1.out.below hT) HN.out HC.out (by omega) (HA.out.below hT) (by omega)).mono ?_
  intro e w3 hp
  obtain ⟨P3, Q3, R3, p3, q3, r3, rfl, s1, n1, s2, n2, s3, hb⟩ := hp.sl
  replace hT := hT.trans (hb.mono hT.size)
  have hla := filtK_inv (l := la) HC.out la.length (Nat.le_refl _)
  obtain ⟨F3, hF3⟩ : ∃ F, filt xs la = F := ⟨_, rfl⟩
  rw [hF3] at s1 s2 s3 ⊢
  obtain ⟨x3, hx3⟩ : ∃ k, F3.1.length = k := ⟨_, rfl⟩
  obtain ⟨y3, hy3⟩ : ∃ k, F3.2.1.length = k := ⟨_, rfl⟩
  obtain ⟨z3, hz3⟩ : ∃ k, F3.2.2.length = k := ⟨_, rfl⟩
  rw [hx3] at s1 ⊢
  rw [hy3] at s2 ⊢
  rw [hz3] at s3 ⊢
  rw [show filtK xs la la.length = F3 from hF3, hx3] at hla
  obtain ⟨hcan3, hl3, _⟩ := hla
  have S31 := Lib.hid s1
  have S32 := Lib.hid s2
  have N31 : Hid (NilOk P3 p3) := Lib.hid n1
  have N32 : Hid (NilOk Q3 q3) := Lib.hid n2
  have HF3 := Lib.hid hF3
  have HC3 := Lib.hid hcan3
  have HY3 := Lib.hid hy3
  clear hp hb s1 s2 s3 n1 n2 hcan3 hx3 hy3 hz3 hF3
  go_wp2_with fail
  refine (filter_any P3 x3 p3 F3.1 A' n' c' lb w3 S31.out N31.out HC3.out (by omega) (HB.out.below hT) (by omega)).mono ?_
  intro e w4 hp
  obtain ⟨P4, Q4, R4, p4, q4, r4, rfl, s1, n1, s2, n2, s3, hb⟩ := hp.sl
  replace hT := hT.trans (hb.mono hT.size)
  have hlb := filtK_inv (l := lb) HC3.out lb.length (Nat.le_refl _)
  obtain ⟨F4, hF4⟩ : ∃ F, filt F3.1 lb = F := ⟨_, rfl⟩
  rw [hF4] at s1 s2 s3 ⊢
  obtain ⟨x4, hx4⟩ : ∃ k, F4.1.length = k := ⟨_, rfl⟩
  obtain ⟨y4, hy4⟩ : ∃ k, F4.2.1.length = k := ⟨_, rfl⟩
  obtain ⟨z4, hz4⟩ : ∃ k, F4.2.2.length = k := ⟨_, rfl⟩
  rw [hx4] at s1 ⊢
  rw [hy4] at s2 ⊢
  rw [hz4] at s3 ⊢
  rw [show filtK F3.1 lb lb.length = F4 from hF4, hx4] at hlb
  obtain ⟨hcan4, hl4, _⟩ := hlb
  replace S32 := Lib.hid (S32.out.below hb)
  have S41 := Lib.hid s1
  have S42 := Lib.hid s2
  have N42 : Hid (NilOk Q4 q4) := Lib.hid n2
  have HF4 := Lib.hid hF4
  have HY4 := Lib.hid hy4
  clear hp hb s1 s2 s3 n1 n2 hx4 hy4 hz4 hF4 S31 N31
  have hlim : la.length + n' ≤ 2000000 := by omega
  have hlim0 : ([] : List Rec).length + n ≤ 2000000 := by simp; omega
  have hba0 : Below w4.heap.size w4 (w4.alloc (.cells #[] 44)) := (Below.refl _ _).alloc (Nat.le_refl _) _
  have SLA : Hid (Sl (w4.alloc (.cells #[] 44)) A n c la) := Lib.hid (HA.out.below (hT.trans (hba0.mono hT.size)))
  have OW0 : Hid (Ow (w4.alloc (.cells #[] 44)) w4.heap.size 44 (.slice (some ⟨w4.heap.size, 0, none⟩) 0 0) ([] : List Rec)) := Lib.hid (World.ownsRow_lit w4 #[] 0 (Nat.le_refl _) (Nat.zero_le _) rfl)
  go_upto_region 6 with (first
    | (at_builtin; (
        refine wpl_appendS _ rfl (.tmp 50) (.tmp 51) 36 rfl w4.heap.size 44 _ 112 Try.underlying36 info_rec rfl (.slice (some ⟨w4.heap.size, 0, none⟩) 0 0) ([] : List Rec) rfl OW0.out A n c la rfl HNA.out SLA.out hlim0 (by omega) hba0.size ?_
        intro v5 w5 ho5 hu5
        have hb5 : Below w4.heap.size w4 w5 := hu5.belowBase OW0.out hba0 hba0.size
        rw [List.nil_append] at ho5))
    | (at_builtin; (
        refine wpl_appendS _ rfl (.tmp 52) (.tmp 53) 36 rfl w4.heap.size 44 _ 112 Try.underlying36 info_rec rfl v5 la rfl ho5 A' n' c' lb rfl HNB.out (HB.out.below (hT.trans (hb5.mono hT.size))) hlim (by omega) hb5.size ?_
        intro v6 w6 ho6 hu6)))
  have hb6 : Below w4.heap.size w4 w6 := hu6.belowBase ho5 hb5 hb5.size
  obtain ⟨L, hL⟩ : ∃ L, la ++ lb = L := ⟨_, rfl⟩
  rw [hL] at ho6
  obtain ⟨A7, c7, hv7, _, hs7⟩ := ho6.slN
  obtain ⟨N, hNl⟩ : ∃ N, L.length = N := ⟨_, rfl⟩
  have hNN : N = n + n' := by rw [← hNl, ← hL, List.length_append, hla0, hlb0]
  have hN60 : N ≤ 60 := by omega
  have HNN := Lib.hid hNN
  clear hNN
  rw [hNl] at hv7 hs7
  subst hv7
  have S7 := Lib.hid hs7
  replace hT := hT.trans (hb6.mono hT.size)
  replace S32 := Lib.hid (S32.out.below hb6)
  replace S41 := Lib.hid (S41.out.below hb6)
  replace S42 := Lib.hid (S42.out.below hb6)
  have HNL := Lib.hid hNl
  have HLL := Lib.hid hL
  clear ho5 hu5 hb5 ho6 hu6 hb6 hs7 hL
  go_wp2_with fail
  refine (filter_any A1 m1 c1 xs A7 N c7 L w6 (H1.out.below hT) HN.out HC.out (by omega) S7.out (by omega)).mono ?_
  intro e w8 hp
  obtain ⟨P8, Q8, R8, p8, q8, r8, rfl, s1, n1, s2, n2, s3, hb⟩ := hp.sl
  replace hT := hT.trans (hb.mono hT.size)
  have hlc := filtK_inv (l := L) HC.out L.length (Nat.le_refl _)
  have htwo := filt_two xs la lb
  rw [HLL.out, HF3.out, HF4.out] at htwo
  obtain ⟨F8, hF8⟩ : ∃ F, filt xs L = F := ⟨_, rfl⟩
  rw [hF8] at s1 s2 s3 ⊢
  obtain ⟨x8, hx8⟩ : ∃ k, F8.1.length = k := ⟨_, rfl⟩
  obtain ⟨y8, hy8⟩ : ∃ k, F8.2.1.length = k := ⟨_, rfl⟩
  obtain ⟨z8, hz8⟩ : ∃ k, F8.2.2.length = k := ⟨_, rfl⟩
  rw [hx8] at s1 ⊢
  rw [hy8] at s2 ⊢
  rw [hz8] at s3 ⊢
  rw [hF8] at htwo
  rw [show filtK xs L L.length = F8 from hF8, hx8, hy8, hz8, hNl] at hlc
  obtain ⟨hcan8, hl8, hsum8⟩ := hlc
  obtain ⟨hw1, hw2⟩ := htwo
  have hx48 : x4 = x8 := by
    have h1 := S41.out.len
    rw [← hw1, hx8] at h1
    exact h1.symm
  have hy48 : y3 + y4 = y8 := by rw [← hy8, hw2, List.length_append, HY3.out, HY4.out]
  have hy3b : y3 ≤ y8 := by omega
  have hy4b : y4 ≤ y8 := by omega
  have HY48 := Lib.hid hy48
  subst hx48
  replace S32 := Lib.hid (S32.out.below hb)
  replace S41 := Lib.hid (S41.out.below hb)
  replace S42 := Lib.hid (S42.out.below hb)
  replace S7 := Lib.hid (S7.out.below hb)
  have S81 := Lib.hid s1
  have S82 := Lib.hid s2
  have HF8 := Lib.hid hF8
  have HC8 := Lib.hid hcan8
  have HW1 := Lib.hid hw1
  have HW2 := Lib.hid hw2
  clear hp hb s1 s2 s3 n1 n2 hcan8 hF8 hw1 hw2 hy8 hz8 hx8 hcan4
  have hy60 : y8 ≤ 60 := by omega
  have hs1 : (y8 : Int) + (z8 : Int) = (N : Int) := by omega
  have hs2 : IntKind.i64.wrap ((y8 : Int) + (z8 : Int)) = (N : Int) := by rw [hs1]; exact IntWalk.i64_in _ (by omega)
  clear hs1 hsum8 hy48
  go_wp2_with fail
  refine (same_any P4 P8 x4 x4 p4 p8 F4.1 F8.1 _ S41.out S81.out).mono ?_
  rintro e w9 ⟨rfl, hb9⟩
  rw [decide_eq_true HW1.out.symm]
  replace hT := hT.trans (hb9.mono hT.size)
  replace S32 := Lib.hid (S32.out.below hb9)
  replace S42 := Lib.hid (S42.out.below hb9)
  replace S7 := Lib.hid (S7.out.below hb9)
  replace S81 := Lib.hid (S81.out.below hb9)
  replace S82 := Lib.hid (S82.out.below hb9)
  clear hb9 S41
  have hlim9 : ([] : List Rec).length + y3 ≤ 2000000 := by simp; omega
  have hba9 : Below w9.heap.size w9 (w9.alloc (.cells #[] 44)) := (Below.refl _ _).alloc (Nat.le_refl _) _
  have SL9 : Hid (Sl (w9.alloc (.cells #[] 44)) Q3 y3 q3 F3.2.1) := Lib.hid (S32.out.below hba9)
  have OW9 : Hid (Ow (w9.alloc (.cells #[] 44)) w9.heap.size 44 (.slice (some ⟨w9.heap.size, 0, none⟩) 0 0) ([] : List Rec)) := Lib.hid (World.ownsRow_lit w9 #[] 0 (Nat.le_refl _) (Nat.zero_le _) rfl)
  have hlim2 : F3.2.1.length + y4 ≤ 2000000 := by rw [HY3.out]; omega
  go_wp2_with (first
    | (at_builtin; (
        refine wpl_appendW _ rfl (.tmp 67) (.tmp 68) 36 rfl w9.heap.size 44 _ 112 Try.underlying36 info_rec rfl (.slice (some ⟨w9.heap.size, 0, none⟩) 0 0) ([] : List Rec) rfl OW9.out Q3 y3 q3 F3.2.1 rfl N32.out SL9.out hlim9 (by omega) hba9.size ?_
        intro v5 w5 ho5 hu5
        have hb5 : Below w9.heap.size w9 w5 := hu5.belowBase OW9.out hba9 hba9.size
        rw [List.nil_append] at ho5))
    | (at_builtin; (
        refine wpl_appendW _ rfl (.tmp 69) (.tmp 70) 36 rfl w9.heap.size 44 _ 112 Try.underlying36 info_rec rfl v5 F3.2.1 rfl ho5 Q4 y4 q4 F4.2.1 rfl N42.out (S42.out.below hb5) hlim2 (by omega) hb5.size ?_
        intro v6 w10 ho6 hu6
        have hb6 : Below w9.heap.size w9 w10 := hu6.belowBase ho5 hb5 hb5.size
        rw [← HW2.out] at ho6
        obtain ⟨A9, c9, hv9, _, hs9⟩ := ho6.slN
        rw [show F8.2.1.length = y8 by rw [HW2.out, List.length_append, HY3.out, HY4.out]; exact HY48.out] at hv9 hs9
        subst hv9)))
  replace hT := hT.trans (hb6.mono hT.size)
  replace S7 := Lib.hid (S7.out.below hb6)
  replace S81 := Lib.hid (S81.out.below hb6)
  replace S82 := Lib.hid (S82.out.below hb6)
  refine (samerec_eq F8.2.1 A9 Q8 y8 c9 q8 _ hs9 S82.out).mono ?_
  rintro e w11 ⟨rfl, hb11⟩
  replace hT := hT.trans (hb11.mono hT.size)
  replace S7 := Lib.hid (S7.out.below hb11)
  replace S81 := Lib.hid (S81.out.below hb11)
  replace S82 := Lib.hid (S82.out.below hb11)
  clear hb11 hb6 ho5 hu5 hb5 ho6 hu6 hs9 S32 S42 N32 N42
  go_wp2_with fail
  go_loopw [17, 18] (fun s i wr => ∃ k : Nat, k ≤ N ∧ i = .int .i64 k ∧ s = .int .i64 ((filtK xs L k).2.1.length : Nat) ∧ Below w11.heap.size w11 wr) (fun _ i _ => N - (intOf i).toNat)
  case atStart => exact ⟨0, Nat.zero_le _, rfl, rfl, Below.refl _ _⟩
  case round =>
    obtain ⟨k, hk, rfl, hsa, hbr⟩ := hrel
    obtain ⟨a, ha⟩ : ∃ a, (filtK xs L k).2.1.length = a := ⟨_, rfl⟩
    rw [ha] at hsa
    subst hsa
    have hak : a ≤ k := by
      have := (filtK_inv (l := L) HC.out k (by rw [HNL.out]; omega)).2.2
      omega
    have HAK := Lib.hid ha
    clear ha
    have hTr := hT.trans (hbr.mono hT.size)
    have hzr := hbr.size
    have S7R := Lib.hid (S7.out.below hbr)
    by_cases hlt : k < N
    · obtain ⟨b, off, rfl, hbl, hcells⟩ := S7R.out.base (by omega)
      obtain ⟨r, hx⟩ := S7R.out.get hlt
      have d0 : wr.cell? ⟨b, off + k * 12, none⟩ = some (.int .i64 r.src) := Sl.at_ hcells hx 0 rfl
      have d1 : wr.cell? ⟨b, off + k * 12 + 1, none⟩ = some (.int .i64 r.ser) := Sl.at_ hcells hx 1 rfl
      have d2 : wr.cell? ⟨b, off + k * 12 + 2, none⟩ = some (.int .i64 r.kind) := Sl.at_ hcells hx 2 rfl
      have d3 : wr.cell? ⟨b, off + k * 12 + 3, none⟩ = some (.string r.a) := Sl.at_ hcells hx 3 rfl
      have d4 : wr.cell? ⟨b, off + k * 12 + 4, none⟩ = some (.string r.b) := Sl.at_ hcells hx 4 rfl
      have d5 : wr.cell? ⟨b, off + k * 12 + 5, none⟩ = some (.int .i64 r.start) := Sl.at_ hcells hx 5 rfl
      have d6 : wr.cell? ⟨b, off + k * 12 + 6, none⟩ = some (.int .i64 r.units) := Sl.at_ hcells hx 6 rfl
      have d7 : wr.cell? ⟨b, off + k * 12 + 7, none⟩ = some (.int .i64 r.call) := Sl.at_ hcells hx 7 rfl
      have d8 : wr.cell? ⟨b, off + k * 12 + 8, none⟩ = some (.int .i64 r.part) := Sl.at_ hcells hx 8 rfl
      have d9 : wr.cell? ⟨b, off + k * 12 + 9, none⟩ = some (.bool r.last) := Sl.at_ hcells hx 9 rfl
      have d10 : wr.cell? ⟨b, off + k * 12 + 10, none⟩ = some (.int .i64 r.trunk) := Sl.at_ hcells hx 10 rfl
      have d11 : wr.cell? ⟨b, off + k * 12 + 11, none⟩ = some (.bool r.inb) := Sl.at_ hcells hx 11 rfl
      have HX := Lib.hid hx
      clear hcells hx
      go_upto_region 14 with (fail)
      (obtain ⟨V, hWV, hbV, hzV, f1V, mfa⟩ := box1 wr #[.int .i64 r.src, .int .i64 r.ser, .int .i64 r.kind, .string r.a, .string r.b, .int .i64 r.start, .int .i64 r.units, .int .i64 r.call, .int .i64 r.part, .bool r.last, .int .i64 r.trunk, .bool r.inb] 44; rw [← hWV]; have ma0 : V.cell? ⟨wr.heap.size, 0, none⟩ = some (.int .i64 r.src) := f1V 0 _ rfl; have ma1 : V.cell? ⟨wr.heap.size, 1, none⟩ = some (.int .i64 r.ser) := f1V 1 _ rfl; have ma2 : V.cell? ⟨wr.heap.size, 2, none⟩ = some (.int .i64 r.kind) := f1V 2 _ rfl; have ma3 : V.cell? ⟨wr.heap.size, 3, none⟩ = some (.string r.a) := f1V 3 _ rfl; have ma4 : V.cell? ⟨wr.heap.size, 4, none⟩ = some (.string r.b) := f1V 4 _ rfl; have ma5 : V.cell? ⟨wr.heap.size, 5, none⟩ = some (.int .i64 r.start) := f1V 5 _ rfl; have ma6 : V.cell? ⟨wr.heap.size, 6, none⟩ = some (.int .i64 r.units) := f1V 6 _ rfl; have ma7 : V.cell? ⟨wr.heap.size, 7, none⟩ = some (.int .i64 r.call) := f1V 7 _ rfl; have ma8 : V.cell? ⟨wr.heap.size, 8, none⟩ = some (.int .i64 r.part) := f1V 8 _ rfl; have ma9 : V.cell? ⟨wr.heap.size, 9, none⟩ = some (.bool r.last) := f1V 9 _ rfl; have ma10 : V.cell? ⟨wr.heap.size, 10, none⟩ = some (.int .i64 r.trunk) := f1V 10 _ rfl; have ma11 : V.cell? ⟨wr.heap.size, 11, none⟩ = some (.bool r.inb) := f1V 11 _ rfl; clear hWV f1V)
      have hbV2 := hbr.trans (hbV.mono hbr.size)
      have hTV := hTr.trans (hbV.mono hTr.size)
      have hbl2 : b < V.heap.size := by omega
      have S7V := Lib.hid (S7R.out.below hbV)
      have S81V := Lib.hid (S81.out.below hbV2)
      have S82V := Lib.hid (S82.out.below hbV2)
      have H1V := Lib.hid (H1.out.below hTV)
      have hzV3 : wr.heap.size < V.heap.size := hzV
      obtain ⟨q0, hq0⟩ : ∃ q0, wr.heap.size = q0 := ⟨_, rfl⟩
      rw [hq0] at ma0 ma1 ma2 ma3 ma4 ma5 ma6 ma7 ma8 ma9 ma10 ma11 hzV3 ⊢
      clear d0 d1 d2 d3 d4 d5 d6 d7 d8 d9 d10 d11 hbV hzV mfa hq0 S7R
      go_cut [20] (fun s wx => s = .bool (ag0 xs r) ∧ Below V.heap.size V wx)
      case first =>
        cases hh : hasL xs r.src r.ser
        · by_cases g1 : r.src < 1 <;> by_cases g2 : 99 < r.src <;> by_cases g3 : r.ser < 1 <;> by_cases g4 : 999999999 < r.ser
          all_goals (try (exfalso; omega))
          all_goals
            have HH := Lib.hid hh
            first
            | have HG : Hid (ag0 xs r = true) := Lib.hid (ag0_true (by first | exact .inr (.inl g1) | exact .inr (.inr (.inl g2)) | exact .inr (.inr (.inr (.inl g3))) | exact .inr (.inr (.inr (.inr g4)))))
            | have HG : Hid (ag0 xs r = false) := Lib.hid (ag0_false hh g1 g2 g3 g4)
            clear hh
            go_wp2_with fail
            refine (refhas_any A1 m1 c1 xs r.src r.ser _ H1V.out).mono ?_
            rintro e w5 ⟨rfl, hb5⟩
            rw [HH.out]
            replace ma0 := (hb5.cell (p := ⟨_, _, none⟩) (by (try dsimp only) <;> omega)).trans ma0
            replace ma1 := (hb5.cell (p := ⟨_, _, none⟩) (by (try dsimp only) <;> omega)).trans ma1
            go_wp2_with fail
            go_meet
            exact ⟨by rw [HG.out] <;> first | rfl | (rw [decide_eq_false g1, decide_eq_false g2, decide_eq_false g3, decide_eq_false g4]; rfl) | (simp; omega), hb5⟩
        · have HH := Lib.hid hh
          have HG := Lib.hid (ag0_true (xs := xs) (r := r) (.inl hh))
          clear hh
          go_wp2_with fail
          refine (refhas_any A1 m1 c1 xs r.src r.ser _ H1V.out).mono ?_
          rintro e w5 ⟨rfl, hb5⟩
          rw [HH.out]
          go_wp2_with fail
          go_meet
          exact ⟨by rw [HG.out], hb5⟩
      case rest =>
        obtain ⟨rfl, hbx⟩ := hcut
        go_wp2_with fail
        go_loopw [20, 21] (fun s j wi => ∃ q : Nat, q ≤ k ∧ j = .int .i64 q ∧ s = .bool (agB xs L r q) ∧ Below V.heap.size V wi) (fun _ j _ => k - (intOf j).toNat)
        case atStart => exact ⟨0, Nat.zero_le _, rfl, by rw [agB_zero], hbx⟩
        case round =>
          clear hbx
          obtain ⟨q, hq, rfl, hs, hbi⟩ := hrel
          obtain ⟨ag, hag⟩ : ∃ ag, agB xs L r q = ag := ⟨_, rfl⟩
          rw [hag] at hs
          subst hs
          have HAG := Lib.hid hag
          clear hag
          have hzi := hbi.size
          (have hzhbi := hbi.size; replace ma0 := (hbi.cell (p := ⟨_, _, none⟩) (by (try dsimp only) <;> omega)).trans ma0; replace ma1 := (hbi.cell (p := ⟨_, _, none⟩) (by (try dsimp only) <;> omega)).trans ma1; replace ma2 := (hbi.cell (p := ⟨_, _, none⟩) (by (try dsimp only) <;> omega)).trans ma2; replace ma3 := (hbi.cell (p := ⟨_, _, none⟩) (by (try dsimp only) <;> omega)).trans ma3; replace ma4 := (hbi.cell (p := ⟨_, _, none⟩) (by (try dsimp only) <;> omega)).trans ma4; replace ma5 := (hbi.cell (p := ⟨_, _, none⟩) (by (try dsimp only) <;> omega)).trans ma5; replace ma6 := (hbi.cell (p := ⟨_, _, none⟩) (by (try dsimp only) <;> omega)).trans ma6; replace ma7 := (hbi.cell (p := ⟨_, _, none⟩) (by (try dsimp only) <;> omega)).trans ma7; replace ma8 := (hbi.cell (p := ⟨_, _, none⟩) (by (try dsimp only) <;> omega)).trans ma8; replace ma9 := (hbi.cell (p := ⟨_, _, none⟩) (by (try dsimp only) <;> omega)).trans ma9; replace ma10 := (hbi.cell (p := ⟨_, _, none⟩) (by (try dsimp only) <;> omega)).trans ma10; replace ma11 := (hbi.cell (p := ⟨_, _, none⟩) (by (try dsimp only) <;> omega)).trans ma11)
          by_cases hltq : q < k
          · obtain ⟨b2, off2, hbo, hbl3, hcells⟩ := (S7V.out.below hbi).base (by omega)
            cases hbo
            obtain ⟨x, hx⟩ := S7V.out.get (k := q) (by omega)
            have e0 : wr.cell? ⟨b, off + q * 12, none⟩ = some (.int .i64 x.src) := Sl.at_ hcells hx 0 rfl
            have e1 : wr.cell? ⟨b, off + q * 12 + 1, none⟩ = some (.int .i64 x.ser) := Sl.at_ hcells hx 1 rfl
            have HQX := Lib.hid hx
            clear hcells hx
            cases ag
            · cases f1 : (x.src == r.src) <;> cases f2 : (x.ser == r.ser)
              all_goals
                go_upto_region 18 with (fail)
                ((with_reducible refine wp_region_quiet_lit ?_ ?_ ?_); kernel_rfl; kernel_rfl; (repeat (any_goals (first | go_big_quiet_step (fail) | (refine wpQuiet_step (fun K hK => ?_); go_simp; (first | (refine hK _ ?_; clear hK K) | (split <;> rename_i hg <;> (refine hK _ ?_; clear hK K) <;> (try simp only [Bool.not_eq_true] at hg) <;> (first | simp only [Int.not_lt.2 hg, decide_false] | simp only [Int.not_le.1 hg, decide_true] | simp only [hg, decide_true, decide_false] | skip))))))); all_goals (refine wpQuiet_nil ?_; intro _ hw'; obtain ⟨nq, hw''⟩ := hw'; subst hw''))
                go_wp2_with fail
                go_roundw
                case rel => exact ⟨q + 1, by omega, by go_num, by rw [agB_succ HQX.out, HAG.out, sameR, f1, f2]; rfl, below_drewN hbi _⟩
                case measure => simp [intOf]; omega
            · go_upto_region 18 with (fail)
              ((with_reducible refine wp_region_quiet_lit ?_ ?_ ?_); kernel_rfl; kernel_rfl; (repeat (any_goals (first | go_big_quiet_step (fail) | (refine wpQuiet_step (fun K hK => ?_); go_simp; (first | (refine hK _ ?_; clear hK K) | (split <;> rename_i hg <;> (refine hK _ ?_; clear hK K) <;> (try simp only [Bool.not_eq_true] at hg) <;> (first | simp only [Int.not_lt.2 hg, decide_false] | simp only [Int.not_le.1 hg, decide_true] | simp only [hg, decide_true, decide_false] | skip))))))); all_goals (refine wpQuiet_nil ?_; intro _ hw'; obtain ⟨nq, hw''⟩ := hw'; subst hw''))
              go_wp2_with fail
              go_roundw
              case rel => exact ⟨q + 1, by omega, by go_num, by rw [agB_succ HQX.out, HAG.out]; rfl, below_drewN hbi _⟩
              case measure => simp [intOf]; omega
          · obtain rfl : q = k := by omega
            have hkn : ¬ ((q : Int) < (q : Int)) := by omega
            cases ag
            · obtain ⟨o1, o2, o3⟩ := once_no HC.out HX.out HAG.out
              rw [HAK.out] at o1 o2
              rw [show filt xs L = F8 from HF8.out] at o2 o3
              have HO1 := Lib.hid o1
              have HH8 := Lib.hid o3
              have hay : a < y8 := by
                have h1 := (List.getElem?_eq_some_iff.1 o2).1
                rw [S82.out.len] at h1
                exact h1
              obtain ⟨b3, off3, rfl, hbl3, hcells⟩ := (S82V.out.below hbi).base (by omega)
              have g0 : wr.cell? ⟨b3, off3 + a * 12, none⟩ = some (.int .i64 r.src) := Sl.at_ hcells o2 0 rfl
              have g1 : wr.cell? ⟨b3, off3 + a * 12 + 1, none⟩ = some (.int .i64 r.ser) := Sl.at_ hcells o2 1 rfl
              have g2 : wr.cell? ⟨b3, off3 + a * 12 + 2, none⟩ = some (.int .i64 r.kind) := Sl.at_ hcells o2 2 rfl
              have g3 : wr.cell? ⟨b3, off3 + a * 12 + 3, none⟩ = some (.string r.a) := Sl.at_ hcells o2 3 rfl
              have g4 : wr.cell? ⟨b3, off3 + a * 12 + 4, none⟩ = some (.string r.b) := Sl.at_ hcells o2 4 rfl
              have g5 : wr.cell? ⟨b3, off3 + a * 12 + 5, none⟩ = some (.int .i64 r.start) := Sl.at_ hcells o2 5 rfl
              have g6 : wr.cell? ⟨b3, off3 + a * 12 + 6, none⟩ = some (.int .i64 r.units) := Sl.at_ hcells o2 6 rfl
              have g7 : wr.cell? ⟨b3, off3 + a * 12 + 7, none⟩ = some (.int .i64 r.call) := Sl.at_ hcells o2 7 rfl
              have g8 : wr.cell? ⟨b3, off3 + a * 12 + 8, none⟩ = some (.int .i64 r.part) := Sl.at_ hcells o2 8 rfl
              have g9 : wr.cell? ⟨b3, off3 + a * 12 + 9, none⟩ = some (.bool r.last) := Sl.at_ hcells o2 9 rfl
              have g10 : wr.cell? ⟨b3, off3 + a * 12 + 10, none⟩ = some (.int .i64 r.trunk) := Sl.at_ hcells o2 10 rfl
              have g11 : wr.cell? ⟨b3, off3 + a * 12 + 11, none⟩ = some (.bool r.inb) := Sl.at_ hcells o2 11 rfl
              have S81I := Lib.hid (S81V.out.below hbi)
              have hq0w : q0 < wr.heap.size := by omega
              have hnq := fun W => neq_rec_self r W
              have hwa : IntKind.i64.wrap ((a : Int) + 1) = (a : Int) + 1 := IntWalk.i64_in _ (by omega)
              have hayi : ¬ ((y8 : Int) ≤ (a : Int)) := by omega
              have hayd : decide ((y8 : Int) ≤ (a : Int)) = false := decide_eq_false hayi
              have hayl : (a : Int) < (y8 : Int) := by omega
              clear hcells o1 o2 o3
              go_upto_region 20 with (fail)
              ((with_reducible refine wp_region_class (Below wr.heap.size wr) ?_ ?_ ?_ ?_); kernel_rfl; kernel_rfl; (exact (Below.refl _ _).drew); (intro hnonemp); (have r0 := fun z : Wd (Below wr.heap.size wr) => (z.h.cell (p := ⟨_, _, none⟩) (by (try dsimp only) <;> omega)).trans ma0; have r1 := fun z : Wd (Below wr.heap.size wr) => (z.h.cell (p := ⟨_, _, none⟩) (by (try dsimp only) <;> omega)).trans ma1; have r2 := fun z : Wd (Below wr.heap.size wr) => (z.h.cell (p := ⟨_, _, none⟩) (by (try dsimp only) <;> omega)).trans ma2; have r3 := fun z : Wd (Below wr.heap.size wr) => (z.h.cell (p := ⟨_, _, none⟩) (by (try dsimp only) <;> omega)).trans ma3; have r4 := fun z : Wd (Below wr.heap.size wr) => (z.h.cell (p := ⟨_, _, none⟩) (by (try dsimp only) <;> omega)).trans ma4; have r5 := fun z : Wd (Below wr.heap.size wr) => (z.h.cell (p := ⟨_, _, none⟩) (by (try dsimp only) <;> omega)).trans ma5; have r6 := fun z : Wd (Below wr.heap.size wr) => (z.h.cell (p := ⟨_, _, none⟩) (by (try dsimp only) <;> omega)).trans ma6; have r7 := fun z : Wd (Below wr.heap.size wr) => (z.h.cell (p := ⟨_, _, none⟩) (by (try dsimp only) <;> omega)).trans ma7; have r8 := fun z : Wd (Below wr.heap.size wr) => (z.h.cell (p := ⟨_, _, none⟩) (by (try dsimp only) <;> omega)).trans ma8; have r9 := fun z : Wd (Below wr.heap.size wr) => (z.h.cell (p := ⟨_, _, none⟩) (by (try dsimp only) <;> omega)).trans ma9; have r10 := fun z : Wd (Below wr.heap.size wr) => (z.h.cell (p := ⟨_, _, none⟩) (by (try dsimp only) <;> omega)).trans ma10; have r11 := fun z : Wd (Below wr.heap.size wr) => (z.h.cell (p := ⟨_, _, none⟩) (by (try dsimp only) <;> omega)).trans ma11; have t0 := fun z : Wd (Below wr.heap.size wr) => (z.h.cell (p := ⟨_, _, none⟩) (by (try dsimp only) <;> omega)).trans g0; have t1 := fun z : Wd (Below wr.heap.size wr) => (z.h.cell (p := ⟨_, _, none⟩) (by (try dsimp only) <;> omega)).trans g1; have t2 := fun z : Wd (Below wr.heap.size wr) => (z.h.cell (p := ⟨_, _, none⟩) (by (try dsimp only) <;> omega)).trans g2; have t3 := fun z : Wd (Below wr.heap.size wr) => (z.h.cell (p := ⟨_, _, none⟩) (by (try dsimp only) <;> omega)).trans g3; have t4 := fun z : Wd (Below wr.heap.size wr) => (z.h.cell (p := ⟨_, _, none⟩) (by (try dsimp only) <;> omega)).trans g4; have t5 := fun z : Wd (Below wr.heap.size wr) => (z.h.cell (p := ⟨_, _, none⟩) (by (try dsimp only) <;> omega)).trans g5; have t6 := fun z : Wd (Below wr.heap.size wr) => (z.h.cell (p := ⟨_, _, none⟩) (by (try dsimp only) <;> omega)).trans g6; have t7 := fun z : Wd (Below wr.heap.size wr) => (z.h.cell (p := ⟨_, _, none⟩) (by (try dsimp only) <;> omega)).trans g7; have t8 := fun z : Wd (Below wr.heap.size wr) => (z.h.cell (p := ⟨_, _, none⟩) (by (try dsimp only) <;> omega)).trans g8; have t9 := fun z : Wd (Below wr.heap.size wr) => (z.h.cell (p := ⟨_, _, none⟩) (by (try dsimp only) <;> omega)).trans g9; have t10 := fun z : Wd (Below wr.heap.size wr) => (z.h.cell (p := ⟨_, _, none⟩) (by (try dsimp only) <;> omega)).trans g10; have t11 := fun z : Wd (Below wr.heap.size wr) => (z.h.cell (p := ⟨_, _, none⟩) (by (try dsimp only) <;> omega)).trans g11); (repeat (any_goals (first | go_big_quiet_step (((go_at_call 12; (with_reducible refine (has_any P8 x4 p8 F8.1 r.src r.ser _ (S81I.out.below (Wd.h _)) HC8.out (by omega)).mono ?_); rw [HH8.out]; rintro e w' ⟨rfl, hbk⟩; exact ⟨rfl, ⟨w', Below.trans (Wd.h _) (hbk.mono (Below.size (Wd.h _)))⟩, rfl⟩))) | (refine wpQuiet_step (fun K hK => ?_); go_simp; (first | (refine hK _ ?_; clear hK K) | (split <;> rename_i hg <;> (refine hK _ ?_; clear hK K) <;> (try simp only [Bool.not_eq_true] at hg) <;> (first | simp only [Int.not_lt.2 hg, decide_false] | simp only [Int.not_le.1 hg, decide_true] | simp only [hg, decide_true, decide_false] | skip)))))));  all_goals (refine wpQuiet_nil ?_; intro wq hgq))
              have hq2 := hbi.trans (Below.mono hgq hbi.size)
              go_wp2_with fail
              go_roundw
              case rel => exact ⟨q + 1, by omega, by go_num, by rw [HO1.out]; push_cast; rfl, hbV2.trans (hq2.mono hbV2.size)⟩
              case measure => simp [intOf]; omega
            · have HO1 := Lib.hid (once_yes HC.out HX.out HAG.out)
              go_wp2_with fail
              go_roundw
              case rel => exact ⟨q + 1, by omega, by go_num, by rw [HO1.out, HAK.out], hbV2.trans (hbi.mono hbV2.size)⟩
              case measure => simp [intOf]; omega
    · obtain rfl : N = k := by omega
      have hay : a = y8 := by
        have h1 := HAK.out
        rw [show filtK xs L N = F8 by rw [← HF8.out, filt, HNL.out]] at h1
        rw [← h1]
        exact S82.out.len
      subst hay
      have hkn : ¬ ((N : Int) < (N : Int)) := by omega
      go_wp2_with fail
      refine (awake_any _).mono ?_
      rintro e w9 ⟨rfl, hb9⟩
      go_wp2_with fail
      go_ret
      exact ⟨rfl, hTr.trans (hb9.mono hTr.size)⟩

end Dd
end Go.Proofs.Ytdcekckghlpamaa
