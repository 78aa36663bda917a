/-
  Digits: Unpack. No condition.
-/
import Derived.Test.YtohcdkkneikjmaaDigF
import Derived.BigQuiet
import Derived.StillTailTactics
import Derived.Lib.Overlaps
import Derived.Deep.DeepCutAuto
set_option maxRecDepth 100000
set_option linter.unusedVariables false
set_option linter.unusedSimpArgs false
namespace Go.Proofs.Ytohcdkkneikjmaa
open Go.RowKit

namespace Dg

def unpV (l : List UInt8) : Value := .tuple #[.string (bs (unpL l)), .int .i64 (errE (unpOk l))]
theorem unp_no {l : List UInt8} (h : unpOk l = false) : unpV l = .tuple #[.string ⟨#[]⟩, .int .i64 12] := by
  unfold unpV errE unpL; rw [h]; rfl
theorem unp_yes {l : List UInt8} (h : unpOk l = true) : unpV l = .tuple #[.string (bs (unpK l l.length)), .int .i64 0] := by
  unfold unpV errE unpL; rw [h]; rfl
theorem bits_and (c : UInt8) : bits BinOp.and IntKind.u8 (c.toNat : Int) 15 = (c.toNat : Int) % 16 := by
  have key : ∀ a : Fin 256, bits BinOp.and IntKind.u8 (a.1 : Int) 15 = (a.1 : Int) % 16 := by decide
  exact key ⟨c.toNat, c.toNat_lt⟩
theorem unpK_succ1 {l : List UInt8} {k : Nat} (h : two l k = true) : unpK l (k + 1) = (unpK l k ++ [hiD (l.getD k 0)]) ++ [loD (l.getD k 0)] := by
  rw [unpK, unpAt, if_pos h, List.append_assoc]; rfl
theorem unpK_succ0 {l : List UInt8} {k : Nat} (h : two l k = false) : unpK l (k + 1) = unpK l k ++ [hiD (l.getD k 0)] := by
  rw [unpK, unpAt, if_neg (by rw [h]; decide)]

set_option maxHeartbeats 1000000 in
theorem unpack_any (A : Option Addr) (n c : Nat) (l : List UInt8) (w : World) (h : Sl w A n c l) (hn : n ≤ 1000) :
    Calls Try.prog 19 #[.slice A n c] w fun e w' => e = .returned (unpV l) ∧ Below w.heap.size w w' := by
  have H := Lib.hid h
  clear h
  go_enter Try.func19, Try.ntmps19
  go_wp2_with fail
  go_loopw [4, 9] (fun v i wr => ∃ k : Nat, k ≤ n ∧ i = .int .i64 k ∧ Ow wr w.heap.size 5 v (unpK l k) ∧ Below w.heap.size w wr) (fun _ i _ => n - (intOf i).toNat)
  case atStart => exact ⟨0, by omega, rfl, Ow.nil_ _ _ _, Below.refl _ _⟩
  case round =>
    obtain ⟨k, hk, rfl, hown, hb⟩ := hrel
    have hzs := hb.size
    by_cases hlt : k < n
    · obtain ⟨b, off, rfl, hbw, hc⟩ := Sl.one rfl (H.out.below hb) (by omega)
      obtain ⟨x, hx⟩ := H.out.get hlt
      have c0 : wr.cell? ⟨b, off + k, none⟩ = some (.int .u8 (x.toNat : Int)) := hc k x _ hx rfl
      have hg : l.getD k 0 = x := by simp [List.getD, hx]
      have hxl : (x.toNat : Int) ≤ 255 := by have := x.toNat_lt; omega
      have hxa := bits_and x
      have HLE := Lib.hid (((unpK_len l k).2 (by have := H.out.len; omega)).2)
      have hX1 : (48 : Int) + (x.toNat : Int) / 16 = ((hiD x).toNat : Int) := by rw [hiD_nat]; omega
      have hX2 : (48 : Int) + (x.toNat : Int) % 16 = ((loD x).toNat : Int) := by rw [loD_nat]; omega
      clear hx hc
      cases h2 : two l k
      · have HS := Lib.hid (unpK_succ0 h2)
        rw [hg] at HS
        simp only [two, hg, Bool.or_eq_false_iff, decide_eq_false_iff_not] at h2
        have h3 : (x.toNat : Int) % 16 = 15 := by omega
        have h4 : (n : Int) ≤ k + 1 := by have := h2.2; have := H.out.len; omega
        clear h2 hg hX2
        go_wp2_with (at_builtin; refine wpl_append1 _ rfl (.tmp 14) (.tmp 18) 31 rfl w.heap.size 5 _ 1 Try.underlying31 info_u8 rfl u4 (unpK l k) rfl (hown.alloc _) _ (hiD x) rfl (fun j u hu => cells_new _ _ _ _ _ (by simp) u hu) (by have := HLE.out; omega) (by omega) (by (try simp) <;> omega) ?_; intro v1 w1 hown1 hu1; have hg1 := hu1.grew; clear hu1; have hz1 := hg1.size; simp at hz1; have hb1 := grown_below hown hg1 (w0 := w) (by (repeat (first | exact hb | exact Below.refl _ _ | (refine Below.alloc ?_ (by (try simp) <;> omega) _) | (refine Below.setCell ?_ (by (try simp) <;> omega) _) | refine Below.drew ?_ | refine below_drewN ?_ _))) (by (try simp) <;> omega); clear hg1)
        go_roundw
        case rel => exact ⟨k + 1, by omega, by go_num, by rw [HS.out]; exact hown1, hb1⟩
        case measure => simp [intOf]; omega
      · have HS := Lib.hid (unpK_succ1 h2)
        rw [hg] at HS
        simp only [two, hg, Bool.or_eq_true, decide_eq_true_eq] at h2
        by_cases h3 : (x.toNat : Int) % 16 = 15
        · have h4 : (k : Int) < n - 1 := by have := H.out.len; omega
          rw [h3] at hX2
          clear h2 hg
          go_wp2_with (first | (at_builtin; refine wpl_append1 _ rfl (.tmp 14) (.tmp 18) 31 rfl w.heap.size 5 _ 1 Try.underlying31 info_u8 rfl u4 (unpK l k) rfl (hown.alloc _) _ (hiD x) rfl (fun j u hu => cells_new _ _ _ _ _ (by simp) u hu) (by have := HLE.out; omega) (by omega) (by (try simp) <;> omega) ?_; intro v1 w1 hown1 hu1; have hg1 := hu1.grew; clear hu1; have hz1 := hg1.size; simp at hz1; have hb1 := grown_below hown hg1 (w0 := w) (by (repeat (first | exact hb | exact Below.refl _ _ | (refine Below.alloc ?_ (by (try simp) <;> omega) _) | (refine Below.setCell ?_ (by (try simp) <;> omega) _) | refine Below.drew ?_ | refine below_drewN ?_ _))) (by (try simp) <;> omega); clear hg1) | (at_builtin; refine wpl_append1 _ rfl (.tmp 30) (.tmp 34) 31 rfl w.heap.size 5 _ 1 Try.underlying31 info_u8 rfl v1 (unpK l k ++ [hiD x]) rfl (hown1.alloc _) _ (loD x) rfl (fun j u hu => cells_new _ _ _ _ _ (by simp) u hu) (by have := HLE.out; simp; omega) (by omega) (by (try simp) <;> omega) ?_; intro v2 w2 hown2 hu2; have hg2 := hu2.grew; clear hu2; have hz2 := hg2.size; simp at hz2; have hb2 := grown_below hown1 hg2 (w0 := w) (by (repeat (first | exact hb1 | exact Below.refl _ _ | (refine Below.alloc ?_ (by (try simp) <;> omega) _) | (refine Below.setCell ?_ (by (try simp) <;> omega) _) | refine Below.drew ?_ | refine below_drewN ?_ _))) (by (try simp) <;> omega); clear hg2))
          go_roundw
          case rel => exact ⟨k + 1, by omega, by go_num, by rw [HS.out]; exact hown2, hb2⟩
          case measure => simp [intOf]; omega
        · have h4 : ((x.toNat : Int) % 16 != 15) = true := by simpa using h3
          clear h2 hg h3
          go_wp2_with (first | (at_builtin; refine wpl_append1 _ rfl (.tmp 14) (.tmp 18) 31 rfl w.heap.size 5 _ 1 Try.underlying31 info_u8 rfl u4 (unpK l k) rfl (hown.alloc _) _ (hiD x) rfl (fun j u hu => cells_new _ _ _ _ _ (by simp) u hu) (by have := HLE.out; omega) (by omega) (by (try simp) <;> omega) ?_; intro v1 w1 hown1 hu1; have hg1 := hu1.grew; clear hu1; have hz1 := hg1.size; simp at hz1; have hb1 := grown_below hown hg1 (w0 := w) (by (repeat (first | exact hb | exact Below.refl _ _ | (refine Below.alloc ?_ (by (try simp) <;> omega) _) | (refine Below.setCell ?_ (by (try simp) <;> omega) _) | refine Below.drew ?_ | refine below_drewN ?_ _))) (by (try simp) <;> omega); clear hg1) | (at_builtin; refine wpl_append1 _ rfl (.tmp 30) (.tmp 34) 31 rfl w.heap.size 5 _ 1 Try.underlying31 info_u8 rfl v1 (unpK l k ++ [hiD x]) rfl (hown1.alloc _) _ (loD x) rfl (fun j u hu => cells_new _ _ _ _ _ (by simp) u hu) (by have := HLE.out; simp; omega) (by omega) (by (try simp) <;> omega) ?_; intro v2 w2 hown2 hu2; have hg2 := hu2.grew; clear hu2; have hz2 := hg2.size; simp at hz2; have hb2 := grown_below hown1 hg2 (w0 := w) (by (repeat (first | exact hb1 | exact Below.refl _ _ | (refine Below.alloc ?_ (by (try simp) <;> omega) _) | (refine Below.setCell ?_ (by (try simp) <;> omega) _) | refine Below.drew ?_ | refine below_drewN ?_ _))) (by (try simp) <;> omega); clear hg2))
          go_roundw
          case rel => exact ⟨k + 1, by omega, by go_num, by rw [HS.out]; exact hown2, hb2⟩
          case measure => simp [intOf]; omega
    · obtain rfl : n = k := by omega
      obtain ⟨A2, c2, hv2, hs2⟩ := hown.sl
      have HL := Lib.hid (((unpK_len l n).2 (by have := H.out.len; omega)).2)
      have hlen := H.out.len
      have HE : Hid (valid (bs (unpK l n)).data.toList = unpOk l) := by rw [bs_list]; unfold unpOk; rw [hlen]; exact Lib.hid rfl
      have HSZ : Hid ((bs (unpK l n)).size ≤ maxLen) := by
        rw [← size_list, bs_list]
        have := HL.out
        exact Lib.hid (by unfold maxLen; omega)
      have hcv := conv_str hs2
      have HH := Lib.hid hlen
      generalize (unpK l n).length = m at *
      subst hv2
      clear hlen hs2 hown
      cases hok : unpOk l
      · have HV := Lib.hid (HE.out.trans hok)
        have HN := Lib.hid (unp_no hok)
        clear hok
        go_wp2_with (go_at_call 16; (with_reducible refine (valid_any _ _ HSZ.out).mono ?_); rw [HV.out]; rintro e w' ⟨rfl, rfl⟩)
        go_ret2
        exact ⟨congrArg Ending.returned HN.out.symm, hb⟩
      · have HV := Lib.hid (HE.out.trans hok)
        have HN := Lib.hid (unp_yes hok)
        rw [HH.out] at HN
        clear hok
        go_wp2_with (go_at_call 16; (with_reducible refine (valid_any _ _ HSZ.out).mono ?_); rw [HV.out]; rintro e w' ⟨rfl, rfl⟩)
        go_ret2
        exact ⟨congrArg Ending.returned HN.out.symm, hb⟩

end Dg
end Go.Proofs.Ytohcdkkneikjmaa
