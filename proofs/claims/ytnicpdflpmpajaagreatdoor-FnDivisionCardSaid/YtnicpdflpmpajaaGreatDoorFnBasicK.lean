/-
  CONTRACTS: messages to numbers, of the reference.
  Conditions: those that each lemma states.
-/
import Derived.Test.YtnicpdflpmpajaaGreatDoorRows
import Derived.Test.YtnicpdflpmpajaaGreatDoorFnBasicI
namespace Go.Proofs.YtnicpdflpmpajaaGreatDoor
open Go.RowKit
set_option linter.unusedSimpArgs false
set_option linter.unusedVariables false

set_option maxHeartbeats 16000000 in
set_option maxRecDepth 100000 in
theorem l10Int_any (a : Int) (s : ByteArray) (args : List MValue) (va : Value) (w : World) (ra : Rep w (MValues args) [va]) (a0 : -999999999 ≤ a) (a1 : a ≤ 999999999) (hv : ∀ v, v ∈ args → ValOk v) (hc : argsB s = args.length) : Calls Tryz.prog 119 #[.int .i64 a, .string s, va] w fun e w' => e = .returned (.agg #[.int .i64 (intR a s args).code, .int .i64 (intR a s args).value.kind, .int .i64 (intR a s args).value.number, .string (intR a s args).value.text, .string (intR a s args).text]) ∧ Ext w w' := by
  by_cases hs : s ∈ int2L
  · have hl := int2_args hs hc
    clear hc
    obtain ⟨bl, ol, cap, rfl, hla, hma, q0, q1, q2⟩ := hd_cells ra hl
    have zb := lt_of_cell q0
    unfold maxLen at hma
    have hl' : (0 : Int) < args.length := by omega
    have hv0 : ValOk (hdV args) := hv _ (by cases args with | nil => simp at hl | cons v l => simp [hdV])
    obtain ⟨n, hn0⟩ : ∃ n, (hdV args).number = n := ⟨_, rfl⟩
    obtain ⟨K, hK0⟩ : ∃ K, (hdV args).kind = K := ⟨_, rfl⟩
    rw [hn0] at q1
    rw [hK0] at q0
    clear ra hv
    by_cases hk : K = 2
    · obtain ⟨n0, n1⟩ := val_int hv0 (hK0.trans hk)
      rw [hn0] at n0 n1
      have HI : Hid (intR a s args = int2V a s n) := Lib.hid (by unfold intR; rw [if_pos (hasB_tt hs), if_pos (hK0.trans hk), hn0])
      subst hk
      clear hv0 hn0 hK0
      have HM := Lib.hid hs
      have hb : hasB int2L s = true := hasB_tt hs
      clear hs
      go_enter Tryz.func119, Tryz.ntmps119
      go_upto_region 1 with fail
      go_wp2_with fail
      refine (l1Has_any int2L _ _ _ (int2_rep (by simp))).mono ?_
      rw [hb]
      rintro e wL ⟨rfl, hwL⟩
      subst hwL
      have HX := (Ext.refl (w.alloc (.cells #[.int .i64 0, .int .i64 0, .int .i64 0, .string ByteArray.empty, .string ByteArray.empty] 67))).alloc (.cells #[.string ⟨#[43]⟩, .string ⟨#[45]⟩, .string ⟨#[42]⟩, .string ⟨#[47, 47]⟩, .string ⟨#[92, 92]⟩, .string ⟨#[60]⟩, .string ⟨#[62]⟩, .string ⟨#[60, 61]⟩, .string ⟨#[62, 61]⟩, .string ⟨#[109, 97, 120, 58]⟩, .string ⟨#[109, 105, 110, 58]⟩] 9)
      go_wp2_with fail
      refine (l10Two_any a s n _ HM.out a0 a1 n0 n1).mono ?_
      rintro e w3 ⟨rfl, hx3⟩
      replace hx3 := Ext.trans HX hx3
      obtain ⟨R0, R1, R2, R3, R4⟩ := res_cells hx3
      have R5 := lt_of_cell R0
      obtain ⟨F0, F1, F2, F3, F4⟩ := res_free hx3
      go_wp2_with fail
      refine bodyPost_ret (v := .agg #[.int .i64 (int2V a s n).code, .int .i64 (int2V a s n).value.kind, .int .i64 (int2V a s n).value.number, .string (int2V a s n).value.text, .string (int2V a s n).text]) (by simp [results, Tryz.results119, go_sem, R0, R1, R2, R3, R4]) rfl ⟨ret_res HI.out.symm, ?_⟩
      (repeat refine Ext.setCell ?_ (by simp) _)
      exact ((Ext.refl w).alloc _).trans hx3
    · have HI : Hid (wrongR ⟨#[110, 111, 116, 32, 97, 32, 110, 117, 109, 98, 101, 114]⟩ = intR a s args) := Lib.hid (by unfold intR; rw [if_pos (hasB_tt hs), if_neg (fun h => hk (hK0.symm.trans h))])
      have t1 := int_nen hk
      clear hv0 hn0 hK0 hk
      have hb : hasB int2L s = true := hasB_tt hs
      clear hs
      go_enter Tryz.func119, Tryz.ntmps119
      go_upto_region 1 with fail
      go_wp2_with fail
      refine (l1Has_any int2L _ _ _ (int2_rep (by simp))).mono ?_
      rw [hb]
      rintro e wL ⟨rfl, hwL⟩
      subst hwL
      have HX := (Ext.refl (w.alloc (.cells #[.int .i64 0, .int .i64 0, .int .i64 0, .string ByteArray.empty, .string ByteArray.empty] 67))).alloc (.cells #[.string ⟨#[43]⟩, .string ⟨#[45]⟩, .string ⟨#[42]⟩, .string ⟨#[47, 47]⟩, .string ⟨#[92, 92]⟩, .string ⟨#[60]⟩, .string ⟨#[62]⟩, .string ⟨#[60, 61]⟩, .string ⟨#[62, 61]⟩, .string ⟨#[109, 97, 120, 58]⟩, .string ⟨#[109, 105, 110, 58]⟩] 9)
      go_wp2_with fail
      refine (l10Error_any _ _).mono ?_
      rintro e w3 ⟨rfl, hx3⟩
      replace hx3 := Ext.trans HX hx3
      obtain ⟨R0, R1, R2, R3, R4⟩ := res_cells hx3
      have R5 := lt_of_cell R0
      obtain ⟨F0, F1, F2, F3, F4⟩ := res_free hx3
      go_wp2_with fail
      refine bodyPost_ret (v := .agg #[.int .i64 (wrongR ⟨#[110, 111, 116, 32, 97, 32, 110, 117, 109, 98, 101, 114]⟩).code, .int .i64 (wrongR ⟨#[110, 111, 116, 32, 97, 32, 110, 117, 109, 98, 101, 114]⟩).value.kind, .int .i64 (wrongR ⟨#[110, 111, 116, 32, 97, 32, 110, 117, 109, 98, 101, 114]⟩).value.number, .string (wrongR ⟨#[110, 111, 116, 32, 97, 32, 110, 117, 109, 98, 101, 114]⟩).value.text, .string (wrongR ⟨#[110, 111, 116, 32, 97, 32, 110, 117, 109, 98, 101, 114]⟩).text]) (by simp [results, Tryz.results119, go_sem, R0, R1, R2, R3, R4]) rfl ⟨ret_res HI.out, ?_⟩
      (repeat refine Ext.setCell ?_ (by simp) _)
      exact ((Ext.refl w).alloc _).trans hx3
  by_cases hg : s = ⟨#[110, 101, 103, 97, 116, 101, 100]⟩
  · have hb : hasB int2L s = false := hasB_ff hs
    subst hg
    have HI : Hid (doneR (intV (-a)) = intR a ⟨#[110, 101, 103, 97, 116, 101, 100]⟩ args) := Lib.hid (by unfold intR; rw [if_neg (fun h => hs (hasB_iff.1 h)), if_pos rfl]; rw [bndR_in (n := -a) (by omega) (by omega)])
    clear hc hv ra
    clear hs
    go_enter Tryz.func119, Tryz.ntmps119
    go_upto_region 1 with fail
    go_wp2_with fail
    refine (l1Has_any int2L _ _ _ (int2_rep (by simp))).mono ?_
    rw [hb]
    rintro e wL ⟨rfl, hwL⟩
    subst hwL
    have HX := (Ext.refl (w.alloc (.cells #[.int .i64 0, .int .i64 0, .int .i64 0, .string ByteArray.empty, .string ByteArray.empty] 67))).alloc (.cells #[.string ⟨#[43]⟩, .string ⟨#[45]⟩, .string ⟨#[42]⟩, .string ⟨#[47, 47]⟩, .string ⟨#[92, 92]⟩, .string ⟨#[60]⟩, .string ⟨#[62]⟩, .string ⟨#[60, 61]⟩, .string ⟨#[62, 61]⟩, .string ⟨#[109, 97, 120, 58]⟩, .string ⟨#[109, 105, 110, 58]⟩] 9)
    go_wp2_with fail
    refine (l9Int_any _ _).mono ?_
    rintro e w2 ⟨rfl, hx2⟩
    replace hx2 := Ext.trans HX hx2
    go_wp2_with fail
    refine (l10Done_any (intV _) _).mono ?_
    rintro e w3 ⟨rfl, hx3⟩
    replace hx3 := hx2.trans hx3
    obtain ⟨R0, R1, R2, R3, R4⟩ := res_cells hx3
    have R5 := lt_of_cell R0
    obtain ⟨F0, F1, F2, F3, F4⟩ := res_free hx3
    go_wp2_with fail
    refine bodyPost_ret (v := .agg #[.int .i64 (doneR (intV (-a))).code, .int .i64 (doneR (intV (-a))).value.kind, .int .i64 (doneR (intV (-a))).value.number, .string (doneR (intV (-a))).value.text, .string (doneR (intV (-a))).text]) (by simp [results, Tryz.results119, go_sem, R0, R1, R2, R3, R4]) rfl ⟨ret_res HI.out, ?_⟩
    (repeat refine Ext.setCell ?_ (by simp) _)
    exact ((Ext.refl w).alloc _).trans hx3
  by_cases hh : s = ⟨#[97, 98, 115]⟩
  · have hb : hasB int2L s = false := hasB_ff hs
    subst hh
    have HI : Hid (doneR (intV (max a (-a))) = intR a ⟨#[97, 98, 115]⟩ args) := Lib.hid (by unfold intR; rw [if_neg (fun h => hs (hasB_iff.1 h)), if_neg (by decide), if_pos rfl]; rw [bndR_in (n := max a (-a)) (by omega) (by omega)])
    have h0a : -999999999 ≤ max a (-a) ∧ max a (-a) ≤ 999999999 := by omega
    clear hc hv ra
    clear hs
    go_enter Tryz.func119, Tryz.ntmps119
    go_upto_region 1 with fail
    go_wp2_with fail
    refine (l1Has_any int2L _ _ _ (int2_rep (by simp))).mono ?_
    rw [hb]
    rintro e wL ⟨rfl, hwL⟩
    subst hwL
    have HX := (Ext.refl (w.alloc (.cells #[.int .i64 0, .int .i64 0, .int .i64 0, .string ByteArray.empty, .string ByteArray.empty] 67))).alloc (.cells #[.string ⟨#[43]⟩, .string ⟨#[45]⟩, .string ⟨#[42]⟩, .string ⟨#[47, 47]⟩, .string ⟨#[92, 92]⟩, .string ⟨#[60]⟩, .string ⟨#[62]⟩, .string ⟨#[60, 61]⟩, .string ⟨#[62, 61]⟩, .string ⟨#[109, 97, 120, 58]⟩, .string ⟨#[109, 105, 110, 58]⟩] 9)
    go_wp2_with fail
    refine (l1Max_any a (-a) _).mono ?_
    rintro e w4 ⟨rfl, hx4⟩
    replace HX := Ext.trans HX hx4
    clear hx4
    go_wp2_with fail
    refine (l9Int_any _ _).mono ?_
    rintro e w2 ⟨rfl, hx2⟩
    replace hx2 := Ext.trans HX hx2
    go_wp2_with fail
    refine (l10Done_any (intV _) _).mono ?_
    rintro e w3 ⟨rfl, hx3⟩
    replace hx3 := hx2.trans hx3
    obtain ⟨R0, R1, R2, R3, R4⟩ := res_cells hx3
    have R5 := lt_of_cell R0
    obtain ⟨F0, F1, F2, F3, F4⟩ := res_free hx3
    go_wp2_with fail
    refine bodyPost_ret (v := .agg #[.int .i64 (doneR (intV (max a (-a)))).code, .int .i64 (doneR (intV (max a (-a)))).value.kind, .int .i64 (doneR (intV (max a (-a)))).value.number, .string (doneR (intV (max a (-a)))).value.text, .string (doneR (intV (max a (-a)))).text]) (by simp [results, Tryz.results119, go_sem, R0, R1, R2, R3, R4]) rfl ⟨ret_res HI.out, ?_⟩
    (repeat refine Ext.setCell ?_ (by simp) _)
    exact ((Ext.refl w).alloc _).trans hx3
  have hb : hasB int2L s = false := hasB_ff hs
  have HI : Hid (missR = intR a s args) := Lib.hid (by unfold intR; rw [if_neg (fun h => hs (hasB_iff.1 h)), if_neg hg, if_neg hh])
  replace hg := str_ne' hg
  replace hh := str_ne' hh
  clear hc hv ra
  clear hs
  go_enter Tryz.func119, Tryz.ntmps119
  go_upto_region 1 with fail
  go_wp2_with fail
  refine (l1Has_any int2L _ _ _ (int2_rep (by simp))).mono ?_
  rw [hb]
  rintro e wL ⟨rfl, hwL⟩
  subst hwL
  have HX := (Ext.refl (w.alloc (.cells #[.int .i64 0, .int .i64 0, .int .i64 0, .string ByteArray.empty, .string ByteArray.empty] 67))).alloc (.cells #[.string ⟨#[43]⟩, .string ⟨#[45]⟩, .string ⟨#[42]⟩, .string ⟨#[47, 47]⟩, .string ⟨#[92, 92]⟩, .string ⟨#[60]⟩, .string ⟨#[62]⟩, .string ⟨#[60, 61]⟩, .string ⟨#[62, 61]⟩, .string ⟨#[109, 97, 120, 58]⟩, .string ⟨#[109, 105, 110, 58]⟩] 9)
  go_wp2_with fail
  refine (l10Missing_any _).mono ?_
  rintro e w2 ⟨rfl, hx2⟩
  replace hx2 := Ext.trans HX hx2
  obtain ⟨R0, R1, R2, R3, R4⟩ := res_cells hx2
  have R5 := lt_of_cell R0
  obtain ⟨F0, F1, F2, F3, F4⟩ := res_free hx2
  go_wp2_with fail
  refine bodyPost_ret (v := .agg #[.int .i64 (missR).code, .int .i64 (missR).value.kind, .int .i64 (missR).value.number, .string (missR).value.text, .string (missR).text]) (by simp [results, Tryz.results119, go_sem, R0, R1, R2, R3, R4]) rfl ⟨ret_res HI.out, ?_⟩
  (repeat refine Ext.setCell ?_ (by simp) _)
  exact ((Ext.refl w).alloc _).trans hx2

end Go.Proofs.YtnicpdflpmpajaaGreatDoor
