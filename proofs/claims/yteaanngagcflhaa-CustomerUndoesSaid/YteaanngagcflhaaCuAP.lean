/-
  Customers: few and awake of chapter 17. No condition.
-/
import Derived.Test.YteaanngagcflhaaCuAO
import Derived.Test.YteaanngagcflhaaCuAL
import Derived.Test.YteaanngagcflhaaCuAM
import Derived.BigQuiet
import Derived.StillTailTactics
import Derived.Lib.Overlaps
import Derived.Deep.DeepCutAuto
import Derived.Deep.RegionWith
import Derived.Laws.RangeAny
set_option maxRecDepth 100000
set_option linter.unusedVariables false
set_option linter.unusedSimpArgs false
namespace Go.Proofs.Yteaanngagcflhaa
open Go.RowKit

namespace Cu
theorem few_any (A : Option Addr) (n c : Nat) (w : World) : Calls Try.prog 21 #[.slice A n c] w fun e w' => e = .returned (.bool (decide ((n : Int) ≤ 40))) ∧ w = w' := by
  go_enter Try.func21, Try.ntmps21
  go_wp2_with fail
  go_ret
  exact ⟨rfl, rfl⟩
theorem sz3 : SzOk l3 := fun e he => by
  have h : e = x1 ∨ e = x2 ∨ e = x3 := by simpa [l3] using he
  have m : (7 : Nat) ≤ maxLen := by unfold maxLen; omega
  rcases h with rfl | rfl | rfl
  · exact ⟨Nat.le_trans (by decide) m, Nat.le_trans (by decide) m⟩
  · exact ⟨Nat.le_trans (by decide) m, Nat.le_trans (by decide) m⟩
  · exact ⟨Nat.le_trans (by decide) m, Nat.le_trans (by decide) m⟩
theorem szx (e : Ev) (h : e.num.size ≤ 7 ∧ e.name.size ≤ 7) : SzOk (l3 ++ [e]) := fun x hx => by
  have m : (7 : Nat) ≤ maxLen := by unfold maxLen; omega
  rcases List.mem_append.1 hx with hx | hx
  · exact sz3 x hx
  · rcases List.mem_singleton.1 hx with rfl
    exact ⟨Nat.le_trans h.1 m, Nat.le_trans h.2 m⟩
theorem one_acc {w : World} {A : Option Addr} {n c : Nat} {ac : Ac} {x : Int} (h : LAc w A n c [(ac, [x])]) : ∃ b off v, A = some ⟨b, off, none⟩ ∧ n = 1 ∧ b < w.heap.size ∧ w.cell? ⟨b, off, none⟩ = some (.int .i64 ac.id) ∧ w.cell? ⟨b, off + 2, none⟩ = some (.int .i64 ac.anchor) ∧ w.cell? ⟨b, off + 3, none⟩ = some (.bool ac.prepaid) ∧ w.cell? ⟨b, off + 5, none⟩ = some (.slice (Av.A v) 1 (Av.c v)) := by
  have hl := h.len
  obtain ⟨_, xs, hs, ha⟩ := h
  have hn : n = 1 := by simpa using hl.symm
  subst hn
  obtain ⟨b, off, e, hb, hc⟩ := hs.base (by omega)
  obtain ⟨v, hv⟩ := hs.get (k := 0) (by omega)
  have hr := ha.2 0 v _ hv rfl
  have hvn : v.n = 1 := by have := hr.n.len; simpa using this.symm
  refine ⟨b, off, v, e, rfl, hb, ?_, ?_, ?_, ?_⟩
  · have := hc 0 v hv 0 _ rfl; rw [hr.id] at this; simpa using this
  · have := hc 0 v hv 2 _ rfl; rw [hr.anchor] at this; simpa using this
  · have := hc 0 v hv 3 _ rfl; rw [hr.prepaid] at this; simpa using this
  · have := hc 0 v hv 5 _ rfl; rw [hvn] at this; simpa using this
theorem one_sub {w : World} {A : Option Addr} {n c : Nat} {sb : Sb} (h : LSb w A n c [sb]) : ∃ b off v, A = some ⟨b, off, none⟩ ∧ n = 1 ∧ b < w.heap.size ∧ w.cell? ⟨b, off + 4, none⟩ = some (.slice (Sv.An v) sb.nums.length (Sv.cn v)) := by
  have hl := h.len
  obtain ⟨_, xs, hs, ha⟩ := h
  have hn : n = 1 := by simpa using hl.symm
  subst hn
  obtain ⟨b, off, e, hb, hc⟩ := hs.base (by omega)
  obtain ⟨v, hv⟩ := hs.get (k := 0) (by omega)
  have hr := ha.2 0 v _ hv rfl
  refine ⟨b, off, v, e, rfl, hb, ?_⟩
  have := hc 0 v hv 4 _ rfl
  rw [← hr.n.len] at this
  simpa using this
theorem ins3 : insL l3 x3 = l3 ++ [x3] := by
  have h : cutN l3 x3.at_ = 3 := by simp [cutN, l3, x1, x2, x3]
  unfold insL
  rw [h]
  rfl
set_option maxHeartbeats 16000000 in
theorem awake_any (w : World) : Calls Try.prog 22 #[] w fun e w' => e = .returned (.bool true) ∧ Below w.heap.size w w' := by
  go_enter Try.func22, Try.ntmps22
  go_upto_region 2 with (fail)
  have hS0 : Sl (w.alloc (.cells #[.int .i64 0, .int .i64 1, .int .i64 1, .int .i64 0, .string ⟨#[]⟩, .string ⟨#[112, 114, 101, 112, 97, 105, 100]⟩, .int .i64 15, .int .i64 0, .int .i64 3, .int .i64 1, .int .i64 7, .string ⟨#[]⟩, .string ⟨#[98, 97, 115, 105, 99]⟩, .int .i64 0, .int .i64 0, .int .i64 5, .int .i64 0, .int .i64 7, .string ⟨#[52, 57, 49, 53]⟩, .string ⟨#[]⟩, .int .i64 0] 36)) (some ⟨w.heap.size, 0, none⟩) 3 3 l3 := Sl.new w #[.int .i64 0, .int .i64 1, .int .i64 1, .int .i64 0, .string ⟨#[]⟩, .string ⟨#[112, 114, 101, 112, 97, 105, 100]⟩, .int .i64 15, .int .i64 0, .int .i64 3, .int .i64 1, .int .i64 7, .string ⟨#[]⟩, .string ⟨#[98, 97, 115, 105, 99]⟩, .int .i64 0, .int .i64 0, .int .i64 5, .int .i64 0, .int .i64 7, .string ⟨#[52, 57, 49, 53]⟩, .string ⟨#[]⟩, .int .i64 0] _ w.heap.size rfl l3 3 rfl (by unfold maxLen; omega) rfl
  obtain ⟨V, hV⟩ : ∃ V, V = w.alloc (.cells #[.int .i64 0, .int .i64 1, .int .i64 1, .int .i64 0, .string ⟨#[]⟩, .string ⟨#[112, 114, 101, 112, 97, 105, 100]⟩, .int .i64 15, .int .i64 0, .int .i64 3, .int .i64 1, .int .i64 7, .string ⟨#[]⟩, .string ⟨#[98, 97, 115, 105, 99]⟩, .int .i64 0, .int .i64 0, .int .i64 5, .int .i64 0, .int .i64 7, .string ⟨#[52, 57, 49, 53]⟩, .string ⟨#[]⟩, .int .i64 0] 36) := ⟨_, rfl⟩
  have hbV : Below w.heap.size w V := by rw [hV]; exact (Below.refl _ _).alloc (Nat.le_refl _) _
  rw [← hV] at hS0 ⊢
  have HS := Lib.hid hS0
  clear hV hS0
  go_upto_region 3 with (go_at_call 23; go_must (refine (Check_any _ 3 3 l3 _ HS.out sz3).mono ?_; rintro r w5 ⟨rfl, hb5⟩; rw [w1]))
  have hbw5 := hbV.trans (hb5.mono hbV.size)
  have HS5 := Lib.hid (HS.out.below hb5)
  go_upto_region 4 with (go_at_call 27; go_must (refine (State_vl _ 3 3 l3 0 _ HS5.out v3 sz3).mono ?_; rintro r w6 ⟨Aa, na, ca, As, ns, cs, rfl, hla, hls, hb6⟩; have HLA := Lib.hid hla; have HLS := Lib.hid hls; clear hla hls))
  have hbw6 := hbw5.trans (hb6.mono hbw5.size)
  obtain ⟨b1, o1, va, rfl, rfl, hl1, p0, p2, p3, p5⟩ := one_acc (by have := HLA.out; rw [bk3_at 0 (by decide), d3] at this; exact this)
  obtain ⟨b2, o2, vs, rfl, rfl, hl2, s4⟩ := one_sub (by have := HLS.out; rw [bk3_at 0 (by decide), c3] at this; exact this)
  have HS6 := Lib.hid (HS5.out.below hb6)
  clear HLA HLS hb5 hb6
  (obtain ⟨X, hWX, hbX, hzX, f1X, qfa⟩ := box1 w6 #[.slice (some ⟨b1, o1, none⟩) 1 ca, .slice (some ⟨b2, o2, none⟩) 1 cs] 32; rw [← hWX]; have qa0 : X.cell? ⟨w6.heap.size, 0, none⟩ = some (.slice (some ⟨b1, o1, none⟩) 1 ca) := f1X 0 _ rfl; have qa1 : X.cell? ⟨w6.heap.size, 1, none⟩ = some (.slice (some ⟨b2, o2, none⟩) 1 cs) := f1X 1 _ rfl; clear hWX f1X)
  have hbwX := hbw6.trans (hbX.mono hbw6.size)
  have HSX := Lib.hid (HS6.out.below hbX)
  replace p0 := (hbX.cell (p := ⟨b1, o1, none⟩) hl1).trans p0
  replace p2 := (hbX.cell (p := ⟨b1, o1 + 2, none⟩) hl1).trans p2
  replace p3 := (hbX.cell (p := ⟨b1, o1 + 3, none⟩) hl1).trans p3
  replace p5 := (hbX.cell (p := ⟨b1, o1 + 5, none⟩) hl1).trans p5
  replace s4 := (hbX.cell (p := ⟨b2, o2 + 4, none⟩) hl2).trans s4
  replace hl1 := Nat.lt_of_lt_of_le hl1 hbX.size
  replace hl2 := Nat.lt_of_lt_of_le hl2 hbX.size
  have hgX : w6.heap.size < X.heap.size := hzX
  obtain ⟨gB, hgB⟩ : ∃ g, g = w6.heap.size := ⟨_, rfl⟩
  rw [← hgB] at qa0 qa1 hgX ⊢
  clear hgB hbX hzX qfa
  go_upto_region 5 with (go_at_call 29; go_must (refine (Insert_any _ 3 3 l3 x3 _ HSX.out (fun e => by cases e) sz3 ⟨Nat.le_trans (by decide : x3.num.size ≤ 7) (by unfold maxLen; omega), Nat.le_trans (by decide : x3.name.size ≤ 7) (by unfold maxLen; omega)⟩ (by omega)).mono ?_; rintro r w7 ⟨⟨A7, n7, c7, rfl, _, _⟩, hb7⟩; rw [ins3, w3]))
  have hbw7 := hbwX.trans (hb7.mono hbwX.size)
  have HS7 := Lib.hid (HSX.out.below hb7)
  replace p0 := (hb7.cell (p := ⟨b1, o1, none⟩) hl1).trans p0
  replace p2 := (hb7.cell (p := ⟨b1, o1 + 2, none⟩) hl1).trans p2
  replace p3 := (hb7.cell (p := ⟨b1, o1 + 3, none⟩) hl1).trans p3
  replace p5 := (hb7.cell (p := ⟨b1, o1 + 5, none⟩) hl1).trans p5
  replace s4 := (hb7.cell (p := ⟨b2, o2 + 4, none⟩) hl2).trans s4
  replace qa0 := (hb7.cell (p := ⟨gB, 0, none⟩) hgX).trans qa0
  replace qa1 := (hb7.cell (p := ⟨gB, 1, none⟩) hgX).trans qa1
  replace hl1 := Nat.lt_of_lt_of_le hl1 hb7.size
  replace hl2 := Nat.lt_of_lt_of_le hl2 hb7.size
  replace hgX := Nat.lt_of_lt_of_le hgX hb7.size
  clear hb7
  go_upto_region 6 with (first
    | (at_builtin
       refine wpl_appendS _ rfl (.tmp 29) (.tmp 30) 22 rfl w7.heap.size 36 _ 72 Try.underlying22 infoEv rfl (.slice (some ⟨w7.heap.size, 0, none⟩) 0 0) ([] : List Ev) rfl (lit0 w7 _ (Nat.le_refl _)) (some ⟨w.heap.size, 0, none⟩) 3 3 l3 rfl (fun e => by cases e) (HS7.out.below ((Below.refl _ _).alloc (Nat.le_refl _) _)) (by simp) (by omega) (by rw [World.size_alloc]; omega) ?_
       intro v8 w8 ho8 hu8
       rw [List.nil_append] at ho8
       have HB8 := Lib.hid (hu8.belowBase (lit0 (α := Ev) w7 _ (Nat.le_refl _)) ((Below.refl _ _).alloc (Nat.le_refl _) _) (by rw [World.size_alloc]; omega))
       have HO8 := Lib.hid ho8
       clear ho8 hu8)
    | (at_builtin
       refine wpl_append1 _ rfl (.tmp 31) (.tmp 33) 22 rfl w7.heap.size 36 _ 72 Try.underlying22 infoEv rfl _ l3 rfl (HO8.out.alloc _) _ xC rfl (fun j u hu => cells_new _ _ _ _ _ (by simp) u hu) (by decide) (by omega) (by rw [World.size_alloc]; have := HB8.out.size; omega) ?_
       intro v9 w9 ho9 hu9
       have HB9 := Lib.hid (hu9.belowBase (HO8.out.alloc _) (HB8.out.alloc HB8.out.size _) (by rw [World.size_alloc]; have := HB8.out.size; omega))
       obtain ⟨A9, c9, hv9, _, hs9⟩ := ho9.slN
       have HS9 := Lib.hid hs9
       subst hv9
       clear ho9 hu9 hs9)
    | (go_at_call 23; refine (Check_any A9 4 c9 (l3 ++ [xC]) _ HS9.out (szx xC (by decide))).mono ?_; rintro r w10 ⟨rfl, hb10⟩; rw [w4]))
  have hbA := HB9.out.trans (hb10.mono HB9.out.size)
  have hbw10 := hbw7.trans (hbA.mono hbw7.size)
  replace p0 := (hbA.cell (p := ⟨b1, o1, none⟩) hl1).trans p0
  replace p2 := (hbA.cell (p := ⟨b1, o1 + 2, none⟩) hl1).trans p2
  replace p3 := (hbA.cell (p := ⟨b1, o1 + 3, none⟩) hl1).trans p3
  replace p5 := (hbA.cell (p := ⟨b1, o1 + 5, none⟩) hl1).trans p5
  replace s4 := (hbA.cell (p := ⟨b2, o2 + 4, none⟩) hl2).trans s4
  replace qa0 := (hbA.cell (p := ⟨gB, 0, none⟩) hgX).trans qa0
  replace qa1 := (hbA.cell (p := ⟨gB, 1, none⟩) hgX).trans qa1
  replace hl1 := Nat.lt_of_lt_of_le hl1 hbA.size
  replace hl2 := Nat.lt_of_lt_of_le hl2 hbA.size
  replace hgX := Nat.lt_of_lt_of_le hgX hbA.size
  have HS10 := Lib.hid (HS7.out.below hbA)
  clear hbA hb10
  have hfs : (cSubs (bkAt l3 5)).find? (fun y => y.id == 7) = some sbX := by rw [bk3_at 5 (by decide), c3]; simp [sbX]
  have HFS := Lib.hid hfs
  clear hfs
  go_upto_region 7 with (go_at_call 34; go_must (refine (Sub_any _ 3 3 l3 7 5 _ HS10.out v3 sz3).mono ?_; rintro r w12 ⟨⟨v, rfl, hsr⟩, hb12⟩; rw [HFS.out] at hsr; rw [HFS.out]; obtain ⟨sid, sacc, ssi, spl, sAn, snn, scn, sAp, snp, scp, ssu, sfa⟩ := v; have hpl : spl = ⟨#[98, 97, 115, 105, 99]⟩ := hsr.plan; subst hpl; clear hsr; dsimp only [Sv.val, Option.isSome]))
  have hbw12 := hbw10.trans (hb12.mono hbw10.size)
  replace p0 := (hb12.cell (p := ⟨b1, o1, none⟩) hl1).trans p0
  replace p2 := (hb12.cell (p := ⟨b1, o1 + 2, none⟩) hl1).trans p2
  replace p3 := (hb12.cell (p := ⟨b1, o1 + 3, none⟩) hl1).trans p3
  replace p5 := (hb12.cell (p := ⟨b1, o1 + 5, none⟩) hl1).trans p5
  replace s4 := (hb12.cell (p := ⟨b2, o2 + 4, none⟩) hl2).trans s4
  replace qa0 := (hb12.cell (p := ⟨gB, 0, none⟩) hgX).trans qa0
  replace qa1 := (hb12.cell (p := ⟨gB, 1, none⟩) hgX).trans qa1
  replace hl1 := Nat.lt_of_lt_of_le hl1 hb12.size
  replace hl2 := Nat.lt_of_lt_of_le hl2 hb12.size
  replace hgX := Nat.lt_of_lt_of_le hgX hb12.size
  clear hb12
  (obtain ⟨Y, hWY, hbY, hzY, f1Y, zfa⟩ := box1 w12 #[.int .i64 sid, .int .i64 sacc, .int .i64 ssi, .string ⟨#[98, 97, 115, 105, 99]⟩, .slice sAn snn scn, .slice sAp snp scp, .bool ssu, .bool sfa] 51; rw [← hWY]; have za0 : Y.cell? ⟨w12.heap.size, 0, none⟩ = some (.int .i64 sid) := f1Y 0 _ rfl; have za1 : Y.cell? ⟨w12.heap.size, 1, none⟩ = some (.int .i64 sacc) := f1Y 1 _ rfl; have za2 : Y.cell? ⟨w12.heap.size, 2, none⟩ = some (.int .i64 ssi) := f1Y 2 _ rfl; have za3 : Y.cell? ⟨w12.heap.size, 3, none⟩ = some (.string ⟨#[98, 97, 115, 105, 99]⟩) := f1Y 3 _ rfl; have za4 : Y.cell? ⟨w12.heap.size, 4, none⟩ = some (.slice sAn snn scn) := f1Y 4 _ rfl; have za5 : Y.cell? ⟨w12.heap.size, 5, none⟩ = some (.slice sAp snp scp) := f1Y 5 _ rfl; have za6 : Y.cell? ⟨w12.heap.size, 6, none⟩ = some (.bool ssu) := f1Y 6 _ rfl; have za7 : Y.cell? ⟨w12.heap.size, 7, none⟩ = some (.bool sfa) := f1Y 7 _ rfl; clear hWY f1Y)
  have hbw13 := hbw12.trans (hbY.mono hbw12.size)
  replace p0 := (hbY.cell (p := ⟨b1, o1, none⟩) hl1).trans p0
  replace p2 := (hbY.cell (p := ⟨b1, o1 + 2, none⟩) hl1).trans p2
  replace p3 := (hbY.cell (p := ⟨b1, o1 + 3, none⟩) hl1).trans p3
  replace p5 := (hbY.cell (p := ⟨b1, o1 + 5, none⟩) hl1).trans p5
  replace s4 := (hbY.cell (p := ⟨b2, o2 + 4, none⟩) hl2).trans s4
  replace qa0 := (hbY.cell (p := ⟨gB, 0, none⟩) hgX).trans qa0
  replace qa1 := (hbY.cell (p := ⟨gB, 1, none⟩) hgX).trans qa1
  replace hl1 := Nat.lt_of_lt_of_le hl1 hbY.size
  replace hl2 := Nat.lt_of_lt_of_le hl2 hbY.size
  replace hgX := Nat.lt_of_lt_of_le hgX hbY.size
  clear hbY
  dsimp only [sbX, List.length_cons, List.length_nil] at s4
  go_wp2_with (fail)
  go_ret
  exact ⟨rfl, hbw13⟩
end Cu
end Go.Proofs.Yteaanngagcflhaa
