/-
  CONTRACTS: messages to texts, of the program and of the reference.
  Conditions: those that each lemma states.
-/
import Derived.Test.YtdngmifgglbbpaaGreatDoorRows
import Derived.Test.YtdngmifgglbbpaaGreatDoorFnBasicI
import Derived.Test.YtdngmifgglbbpaaGreatDoorErrLaw
namespace Go.Proofs.YtdngmifgglbbpaaGreatDoor
open Go.RowKit
set_option linter.unusedSimpArgs false
set_option linter.unusedVariables false

/-- A message to a text. -/
noncomputable def textR (x s : ByteArray) (args : List MValue) : MResult :=
  if s = ⟨#[115, 105, 122, 101]⟩ then doneR (intV x.size)
  else if s = ⟨#[97, 115, 83, 121, 109, 98, 111, 108]⟩ then (if selB x = true then doneR (symV x) else wrongR ⟨#[110, 111, 116, 32, 97, 32, 115, 101, 108, 101, 99, 116, 111, 114]⟩)
  else if s = ⟨#[97, 115, 73, 110, 116, 101, 103, 101, 114]⟩ then (if (numB (-999999999999) 999999999999 x) = true ∧ decide (-999999999 ≤ (numV (-999999999999) 999999999999 x) ∧ (numV (-999999999999) 999999999999 x) ≤ 999999999) = true then doneR (intV (numV (-999999999999) 999999999999 x)) else doneR nilV)
  else if s = ⟨#[97, 116, 58]⟩ then (if (hdV args).kind = 2 ∧ decide (1 ≤ (hdV args).number ∧ (hdV args).number ≤ x.size) = true then doneR (textV (x.extract ((hdV args).number.toNat - 1) (hdV args).number.toNat)) else wrongR ⟨#[111, 117, 116, 32, 111, 102, 32, 114, 97, 110, 103, 101]⟩)
  else if s = ⟨#[44]⟩ then (if (hdV args).kind = 3 then (if x.size + (hdV args).text.size ≤ 200 then doneR (textV (x ++ (hdV args).text)) else wrongR ⟨#[116, 111, 111, 32, 108, 111, 110, 103]⟩) else wrongR ⟨#[110, 111, 116, 32, 97, 32, 116, 101, 120, 116]⟩)
  else if s = ⟨#[60]⟩ then (if (hdV args).kind = 3 then doneR (boolV (Op.bytesLess x.toList (hdV args).text.toList)) else wrongR ⟨#[110, 111, 116, 32, 97, 32, 116, 101, 120, 116]⟩)
  else missR
theorem val_text {v : MValue} (h : ValOk v) (hk : v.kind = 3) : v.text.size ≤ 200 := by
  rcases h with h | h | h | h | h | h
  · omega
  · omega
  · omega
  · exact (textB_iff.1 h.2.2).2
  · omega
  · omega

set_option maxHeartbeats 16000000 in
set_option maxRecDepth 100000 in
theorem textMessage_any (x s : ByteArray) (args : List MValue) (va : Value) (w : World) (ra : Rep w (MValues args) [va]) (hx : x.size ≤ 200) (hv : ∀ v, v ∈ args → ValOk v) (hc : argsB s = args.length) (hM : MaxOk w) (hT : TabOk w) (hE : ErrOk w) : Calls Tryz.prog 79 #[.string x, .string s, va] w fun e w' => e = .returned (.agg #[.int .i64 (textR x s args).code, .int .i64 (textR x s args).value.kind, .int .i64 (textR x s args).value.number, .string (textR x s args).value.text, .string (textR x s args).text]) ∧ Ext w w' := by
  by_cases g0 : s = ⟨#[115, 105, 122, 101]⟩
  · subst g0
    have HI : Hid (doneR (intV x.size) = textR x ⟨#[115, 105, 122, 101]⟩ args) := Lib.hid (by unfold textR; rw [if_pos rfl])
    clear hc hv ra
    go_enter Tryz.func79, Tryz.ntmps79
    go_wp2_with fail
    refine (integer_any _ _).mono ?_
    rintro e w2 ⟨rfl, hx2⟩
    go_wp2_with fail
    refine (done_any (intV x.size) _).mono ?_
    rintro e w3 ⟨rfl, hx3⟩
    replace hx3 := hx2.trans hx3
    obtain ⟨R0, R1, R2, R3, R4⟩ := res_cells hx3
    have R5 := lt_of_cell R0
    obtain ⟨F0, F1, F2, F3, F4⟩ := res_free hx3
    go_wp2_with fail
    refine bodyPost_ret (v := .agg #[.int .i64 (doneR (intV x.size)).code, .int .i64 (doneR (intV x.size)).value.kind, .int .i64 (doneR (intV x.size)).value.number, .string (doneR (intV x.size)).value.text, .string (doneR (intV x.size)).text]) (by simp [results, Tryz.results79, go_sem, R0, R1, R2, R3, R4]) rfl ⟨ret_res HI.out, ?_⟩
    (repeat refine Ext.setCell ?_ (by simp) _)
    exact ((Ext.refl w).alloc _).trans hx3
  by_cases g1 : s = ⟨#[97, 115, 83, 121, 109, 98, 111, 108]⟩
  · subst g1
    clear hc hv ra
    cases h : selB x
    · have HI : Hid (wrongR ⟨#[110, 111, 116, 32, 97, 32, 115, 101, 108, 101, 99, 116, 111, 114]⟩ = textR x ⟨#[97, 115, 83, 121, 109, 98, 111, 108]⟩ args) := Lib.hid (by unfold textR; rw [if_neg (by decide), if_pos rfl, if_neg (by rw [h]; decide)])
      go_enter Tryz.func79, Tryz.ntmps79
      go_wp2_with fail
      refine (impl_IsSelector_any x _ (by omega) (hM.ext ((Ext.refl w).alloc _))).mono ?_
      rw [h]
      rintro e w2 ⟨rfl, hx2⟩
      go_wp2_with fail
      refine (wrong_any ⟨#[110, 111, 116, 32, 97, 32, 115, 101, 108, 101, 99, 116, 111, 114]⟩ _).mono ?_
      rintro e w3 ⟨rfl, hx3⟩
      replace hx3 := hx2.trans hx3
      obtain ⟨R0, R1, R2, R3, R4⟩ := res_cells hx3
      have R5 := lt_of_cell R0
      obtain ⟨F0, F1, F2, F3, F4⟩ := res_free hx3
      go_wp2_with fail
      refine bodyPost_ret (v := .agg #[.int .i64 (wrongR ⟨#[110, 111, 116, 32, 97, 32, 115, 101, 108, 101, 99, 116, 111, 114]⟩).code, .int .i64 (wrongR ⟨#[110, 111, 116, 32, 97, 32, 115, 101, 108, 101, 99, 116, 111, 114]⟩).value.kind, .int .i64 (wrongR ⟨#[110, 111, 116, 32, 97, 32, 115, 101, 108, 101, 99, 116, 111, 114]⟩).value.number, .string (wrongR ⟨#[110, 111, 116, 32, 97, 32, 115, 101, 108, 101, 99, 116, 111, 114]⟩).value.text, .string (wrongR ⟨#[110, 111, 116, 32, 97, 32, 115, 101, 108, 101, 99, 116, 111, 114]⟩).text]) (by simp [results, Tryz.results79, go_sem, R0, R1, R2, R3, R4]) rfl ⟨ret_res HI.out, ?_⟩
      (repeat refine Ext.setCell ?_ (by simp) _)
      exact ((Ext.refl w).alloc _).trans hx3
    · have HI : Hid (doneR (symV x) = textR x ⟨#[97, 115, 83, 121, 109, 98, 111, 108]⟩ args) := Lib.hid (by unfold textR; rw [if_neg (by decide), if_pos rfl, if_pos h])
      go_enter Tryz.func79, Tryz.ntmps79
      go_wp2_with fail
      refine (impl_IsSelector_any x _ (by omega) (hM.ext ((Ext.refl w).alloc _))).mono ?_
      rw [h]
      rintro e w2 ⟨rfl, hx2⟩
      go_wp2_with fail
      refine (done_any (symV x) _).mono ?_
      rintro e w3 ⟨rfl, hx3⟩
      replace hx3 := hx2.trans hx3
      obtain ⟨R0, R1, R2, R3, R4⟩ := res_cells hx3
      have R5 := lt_of_cell R0
      obtain ⟨F0, F1, F2, F3, F4⟩ := res_free hx3
      go_wp2_with fail
      refine bodyPost_ret (v := .agg #[.int .i64 (doneR (symV x)).code, .int .i64 (doneR (symV x)).value.kind, .int .i64 (doneR (symV x)).value.number, .string (doneR (symV x)).value.text, .string (doneR (symV x)).text]) (by simp [results, Tryz.results79, go_sem, R0, R1, R2, R3, R4]) rfl ⟨ret_res HI.out, ?_⟩
      (repeat refine Ext.setCell ?_ (by simp) _)
      exact ((Ext.refl w).alloc _).trans hx3
  by_cases g2 : s = ⟨#[97, 115, 73, 110, 116, 101, 103, 101, 114]⟩
  · subst g2
    clear hc hv ra
    obtain ⟨v, hv0⟩ : ∃ v, (numV (-999999999999) 999999999999 x) = v := ⟨_, rfl⟩
    obtain ⟨c, hc0⟩ : ∃ c, (numB (-999999999999) 999999999999 x) = c := ⟨_, rfl⟩
    cases c
    · have HI : Hid (doneR nilV = textR x ⟨#[97, 115, 73, 110, 116, 101, 103, 101, 114]⟩ args) := Lib.hid (by unfold textR; rw [if_neg (by decide), if_neg (by decide), if_pos rfl, if_neg (by rw [hv0, hc0]; rintro ⟨e1, e2⟩; cases e1)])
      go_enter Tryz.func79, Tryz.ntmps79
      go_wp2_with fail
      refine (impl_ParseInt_any x _ (by omega) (hT.ext ((Ext.refl w).alloc _)) (hE.ext ((Ext.refl w).alloc _))).mono ?_
      rw [hv0, hc0]
      rintro e w2 ⟨rfl, hx2⟩
      clear hv0 hc0
      go_wp2_with fail
      refine (done_any (nilV) _).mono ?_
      rintro e w3 ⟨rfl, hx3⟩
      replace hx3 := hx2.trans hx3
      obtain ⟨R0, R1, R2, R3, R4⟩ := res_cells hx3
      have R5 := lt_of_cell R0
      obtain ⟨F0, F1, F2, F3, F4⟩ := res_free hx3
      go_wp2_with fail
      refine bodyPost_ret (v := .agg #[.int .i64 (doneR nilV).code, .int .i64 (doneR nilV).value.kind, .int .i64 (doneR nilV).value.number, .string (doneR nilV).value.text, .string (doneR nilV).text]) (by simp [results, Tryz.results79, go_sem, R0, R1, R2, R3, R4]) rfl ⟨ret_res HI.out, ?_⟩
      (repeat refine Ext.setCell ?_ (by simp) _)
      exact ((Ext.refl w).alloc _).trans hx3
    cases h : decide (-999999999 ≤ v ∧ v ≤ 999999999)
    · have HI : Hid (doneR nilV = textR x ⟨#[97, 115, 73, 110, 116, 101, 103, 101, 114]⟩ args) := Lib.hid (by unfold textR; rw [if_neg (by decide), if_neg (by decide), if_pos rfl, if_neg (by rw [hv0, hc0]; rintro ⟨e1, e2⟩; rw [h] at e2; cases e2)])
      go_enter Tryz.func79, Tryz.ntmps79
      go_wp2_with fail
      refine (impl_ParseInt_any x _ (by omega) (hT.ext ((Ext.refl w).alloc _)) (hE.ext ((Ext.refl w).alloc _))).mono ?_
      rw [hv0, hc0]
      rintro e w2 ⟨rfl, hx2⟩
      clear hv0 hc0
      go_wp2_with fail
      refine (within_any _ _ _ _).mono ?_
      rw [h]
      rintro e wq ⟨rfl, hq⟩
      subst wq
      clear h
      go_wp2_with fail
      refine (done_any (nilV) _).mono ?_
      rintro e w3 ⟨rfl, hx3⟩
      replace hx3 := hx2.trans hx3
      obtain ⟨R0, R1, R2, R3, R4⟩ := res_cells hx3
      have R5 := lt_of_cell R0
      obtain ⟨F0, F1, F2, F3, F4⟩ := res_free hx3
      go_wp2_with fail
      refine bodyPost_ret (v := .agg #[.int .i64 (doneR nilV).code, .int .i64 (doneR nilV).value.kind, .int .i64 (doneR nilV).value.number, .string (doneR nilV).value.text, .string (doneR nilV).text]) (by simp [results, Tryz.results79, go_sem, R0, R1, R2, R3, R4]) rfl ⟨ret_res HI.out, ?_⟩
      (repeat refine Ext.setCell ?_ (by simp) _)
      exact ((Ext.refl w).alloc _).trans hx3
    · have HI : Hid (doneR (intV v) = textR x ⟨#[97, 115, 73, 110, 116, 101, 103, 101, 114]⟩ args) := Lib.hid (by unfold textR; rw [if_neg (by decide), if_neg (by decide), if_pos rfl, if_pos (by rw [hv0, hc0]; exact ⟨rfl, h⟩), hv0])
      go_enter Tryz.func79, Tryz.ntmps79
      go_wp2_with fail
      refine (impl_ParseInt_any x _ (by omega) (hT.ext ((Ext.refl w).alloc _)) (hE.ext ((Ext.refl w).alloc _))).mono ?_
      rw [hv0, hc0]
      rintro e w2 ⟨rfl, hx2⟩
      clear hv0 hc0
      go_wp2_with fail
      refine (within_any _ _ _ _).mono ?_
      rw [h]
      rintro e wq ⟨rfl, hq⟩
      subst wq
      clear h
      go_wp2_with fail
      refine (integer_any _ _).mono ?_
      rintro e w3 ⟨rfl, hx3⟩
      replace hx3 := hx2.trans hx3
      go_wp2_with fail
      refine (done_any (intV v) _).mono ?_
      rintro e w4 ⟨rfl, hx4⟩
      replace hx4 := hx3.trans hx4
      obtain ⟨R0, R1, R2, R3, R4⟩ := res_cells hx4
      have R5 := lt_of_cell R0
      obtain ⟨F0, F1, F2, F3, F4⟩ := res_free hx4
      go_wp2_with fail
      refine bodyPost_ret (v := .agg #[.int .i64 (doneR (intV v)).code, .int .i64 (doneR (intV v)).value.kind, .int .i64 (doneR (intV v)).value.number, .string (doneR (intV v)).value.text, .string (doneR (intV v)).text]) (by simp [results, Tryz.results79, go_sem, R0, R1, R2, R3, R4]) rfl ⟨ret_res HI.out, ?_⟩
      (repeat refine Ext.setCell ?_ (by simp) _)
      exact ((Ext.refl w).alloc _).trans hx4
  by_cases g3 : s = ⟨#[97, 116, 58]⟩
  · subst g3
    have hl : 1 ≤ args.length := args_col (by decide) hc
    clear hc
    obtain ⟨bl, ol, cap, rfl, hla, hma, q0, q1, q2⟩ := hd_cells ra hl
    have zb := lt_of_cell q0
    unfold maxLen at hma
    have hl' : (0 : Int) < args.length := by omega
    have hv0 : ValOk (hdV args) := hv _ (by cases args with | nil => simp at hl | cons v l => simp [hdV])
    obtain ⟨n, hn0⟩ : ∃ n, (hdV args).number = n := ⟨_, rfl⟩
    obtain ⟨K, hK0⟩ : ∃ K, (hdV args).kind = K := ⟨_, rfl⟩
    obtain ⟨t, ht0⟩ : ∃ t, (hdV args).text = t := ⟨_, rfl⟩
    rw [hn0] at q1
    rw [hK0] at q0
    rw [ht0] at q2
    clear ra hv
    clear ht0 hv0
    by_cases hk : K = 2
    rotate_left
    · have HI : Hid (wrongR ⟨#[111, 117, 116, 32, 111, 102, 32, 114, 97, 110, 103, 101]⟩ = textR x ⟨#[97, 116, 58]⟩ args) := Lib.hid (by unfold textR; rw [if_neg (by decide), if_neg (by decide), if_neg (by decide), if_pos rfl, if_neg (by rw [hn0, hK0]; rintro ⟨e1, e2⟩; exact hk e1)])
      have t1 := int_nen hk
      clear hk hn0 hK0
      go_enter Tryz.func79, Tryz.ntmps79
      go_wp2_with fail
      refine (wrong_any ⟨#[111, 117, 116, 32, 111, 102, 32, 114, 97, 110, 103, 101]⟩ _).mono ?_
      rintro e w2 ⟨rfl, hx2⟩
      obtain ⟨R0, R1, R2, R3, R4⟩ := res_cells hx2
      have R5 := lt_of_cell R0
      obtain ⟨F0, F1, F2, F3, F4⟩ := res_free hx2
      go_wp2_with fail
      refine bodyPost_ret (v := .agg #[.int .i64 (wrongR ⟨#[111, 117, 116, 32, 111, 102, 32, 114, 97, 110, 103, 101]⟩).code, .int .i64 (wrongR ⟨#[111, 117, 116, 32, 111, 102, 32, 114, 97, 110, 103, 101]⟩).value.kind, .int .i64 (wrongR ⟨#[111, 117, 116, 32, 111, 102, 32, 114, 97, 110, 103, 101]⟩).value.number, .string (wrongR ⟨#[111, 117, 116, 32, 111, 102, 32, 114, 97, 110, 103, 101]⟩).value.text, .string (wrongR ⟨#[111, 117, 116, 32, 111, 102, 32, 114, 97, 110, 103, 101]⟩).text]) (by simp [results, Tryz.results79, go_sem, R0, R1, R2, R3, R4]) rfl ⟨ret_res HI.out, ?_⟩
      (repeat refine Ext.setCell ?_ (by simp) _)
      exact ((Ext.refl w).alloc _).trans hx2
    have hk' := hk
    subst hk'
    cases h : decide (1 ≤ n ∧ n ≤ (x.size : Int))
    · have HI : Hid (wrongR ⟨#[111, 117, 116, 32, 111, 102, 32, 114, 97, 110, 103, 101]⟩ = textR x ⟨#[97, 116, 58]⟩ args) := Lib.hid (by unfold textR; rw [if_neg (by decide), if_neg (by decide), if_neg (by decide), if_pos rfl, if_neg (by rw [hn0, hK0]; rintro ⟨e1, e2⟩; rw [h] at e2; cases e2)])
      have h' := of_decide_eq_false h
      clear hn0 hK0 hk
      go_enter Tryz.func79, Tryz.ntmps79
      go_wp2_with fail
      refine (within_any _ _ _ _).mono ?_
      rw [show decide ((1 : Int) ≤ _ ∧ _) = _ from h]
      rintro e wq ⟨rfl, hq⟩
      subst wq
      clear h
      go_wp2_with fail
      refine (wrong_any ⟨#[111, 117, 116, 32, 111, 102, 32, 114, 97, 110, 103, 101]⟩ _).mono ?_
      rintro e w2 ⟨rfl, hx2⟩
      obtain ⟨R0, R1, R2, R3, R4⟩ := res_cells hx2
      have R5 := lt_of_cell R0
      obtain ⟨F0, F1, F2, F3, F4⟩ := res_free hx2
      go_wp2_with fail
      refine bodyPost_ret (v := .agg #[.int .i64 (wrongR ⟨#[111, 117, 116, 32, 111, 102, 32, 114, 97, 110, 103, 101]⟩).code, .int .i64 (wrongR ⟨#[111, 117, 116, 32, 111, 102, 32, 114, 97, 110, 103, 101]⟩).value.kind, .int .i64 (wrongR ⟨#[111, 117, 116, 32, 111, 102, 32, 114, 97, 110, 103, 101]⟩).value.number, .string (wrongR ⟨#[111, 117, 116, 32, 111, 102, 32, 114, 97, 110, 103, 101]⟩).value.text, .string (wrongR ⟨#[111, 117, 116, 32, 111, 102, 32, 114, 97, 110, 103, 101]⟩).text]) (by simp [results, Tryz.results79, go_sem, R0, R1, R2, R3, R4]) rfl ⟨ret_res HI.out, ?_⟩
      (repeat refine Ext.setCell ?_ (by simp) _)
      exact ((Ext.refl w).alloc _).trans hx2
    have h' := of_decide_eq_true h
    obtain ⟨m, rfl⟩ : ∃ m : Nat, n = (m : Int) + 1 := ⟨(n - 1).toNat, by omega⟩
    have HI : Hid (doneR (textV (x.extract m (m + 1))) = textR x ⟨#[97, 116, 58]⟩ args) := Lib.hid (by unfold textR; rw [if_neg (by decide), if_neg (by decide), if_neg (by decide), if_pos rfl, if_pos (by rw [hn0, hK0]; exact ⟨rfl, h⟩), hn0]; rfl)
    have hm1 : m + 1 ≤ x.size := by omega
    clear hn0 hK0 hk
    go_enter Tryz.func79, Tryz.ntmps79
    go_wp2_with fail
    refine (within_any _ _ _ _).mono ?_
    rw [show decide ((1 : Int) ≤ _ ∧ _) = _ from h]
    rintro e wq ⟨rfl, hq⟩
    subst wq
    clear h
    go_wp2_with fail
    refine (textValue_any _ _).mono ?_
    rintro e w2 ⟨rfl, hx2⟩
    go_wp2_with fail
    refine (done_any (textV _) _).mono ?_
    rintro e w3 ⟨rfl, hx3⟩
    replace hx3 := hx2.trans hx3
    obtain ⟨R0, R1, R2, R3, R4⟩ := res_cells hx3
    have R5 := lt_of_cell R0
    obtain ⟨F0, F1, F2, F3, F4⟩ := res_free hx3
    go_wp2_with fail
    refine bodyPost_ret (v := .agg #[.int .i64 (doneR (textV (x.extract m (m + 1)))).code, .int .i64 (doneR (textV (x.extract m (m + 1)))).value.kind, .int .i64 (doneR (textV (x.extract m (m + 1)))).value.number, .string (doneR (textV (x.extract m (m + 1)))).value.text, .string (doneR (textV (x.extract m (m + 1)))).text]) (by simp [results, Tryz.results79, go_sem, R0, R1, R2, R3, R4]) rfl ⟨ret_res HI.out, ?_⟩
    (repeat refine Ext.setCell ?_ (by simp) _)
    exact ((Ext.refl w).alloc _).trans hx3
  by_cases g4 : s = ⟨#[44]⟩
  · subst g4
    have hl : 1 ≤ args.length := args_ops (by simp [opsL]) hc
    clear hc
    obtain ⟨bl, ol, cap, rfl, hla, hma, q0, q1, q2⟩ := hd_cells ra hl
    have zb := lt_of_cell q0
    unfold maxLen at hma
    have hl' : (0 : Int) < args.length := by omega
    have hv0 : ValOk (hdV args) := hv _ (by cases args with | nil => simp at hl | cons v l => simp [hdV])
    obtain ⟨n, hn0⟩ : ∃ n, (hdV args).number = n := ⟨_, rfl⟩
    obtain ⟨K, hK0⟩ : ∃ K, (hdV args).kind = K := ⟨_, rfl⟩
    obtain ⟨t, ht0⟩ : ∃ t, (hdV args).text = t := ⟨_, rfl⟩
    rw [hn0] at q1
    rw [hK0] at q0
    rw [ht0] at q2
    clear ra hv
    clear hn0
    by_cases hk : K = 3
    rotate_left
    · have HI : Hid (wrongR ⟨#[110, 111, 116, 32, 97, 32, 116, 101, 120, 116]⟩ = textR x ⟨#[44]⟩ args) := Lib.hid (by unfold textR; rw [if_neg (by decide), if_neg (by decide), if_neg (by decide), if_neg (by decide), if_pos rfl, if_neg (fun h => hk (hK0.symm.trans h))])
      have t1 := int_nen hk
      clear hk hK0 ht0 hv0
      go_enter Tryz.func79, Tryz.ntmps79
      go_wp2_with fail
      refine (wrong_any ⟨#[110, 111, 116, 32, 97, 32, 116, 101, 120, 116]⟩ _).mono ?_
      rintro e w2 ⟨rfl, hx2⟩
      obtain ⟨R0, R1, R2, R3, R4⟩ := res_cells hx2
      have R5 := lt_of_cell R0
      obtain ⟨F0, F1, F2, F3, F4⟩ := res_free hx2
      go_wp2_with fail
      refine bodyPost_ret (v := .agg #[.int .i64 (wrongR ⟨#[110, 111, 116, 32, 97, 32, 116, 101, 120, 116]⟩).code, .int .i64 (wrongR ⟨#[110, 111, 116, 32, 97, 32, 116, 101, 120, 116]⟩).value.kind, .int .i64 (wrongR ⟨#[110, 111, 116, 32, 97, 32, 116, 101, 120, 116]⟩).value.number, .string (wrongR ⟨#[110, 111, 116, 32, 97, 32, 116, 101, 120, 116]⟩).value.text, .string (wrongR ⟨#[110, 111, 116, 32, 97, 32, 116, 101, 120, 116]⟩).text]) (by simp [results, Tryz.results79, go_sem, R0, R1, R2, R3, R4]) rfl ⟨ret_res HI.out, ?_⟩
      (repeat refine Ext.setCell ?_ (by simp) _)
      exact ((Ext.refl w).alloc _).trans hx2
    have ht2 := val_text hv0 (hK0.trans hk)
    rw [ht0] at ht2
    by_cases h2 : x.size + t.size ≤ 200
    rotate_left
    · have HI : Hid (wrongR ⟨#[116, 111, 111, 32, 108, 111, 110, 103]⟩ = textR x ⟨#[44]⟩ args) := Lib.hid (by unfold textR; rw [if_neg (by decide), if_neg (by decide), if_neg (by decide), if_neg (by decide), if_pos rfl, if_pos (hK0.trans hk), ht0, if_neg h2])
      have h3 : (200 : Int) < x.size + t.size := by omega
      subst hk
      clear hK0 ht0 hv0
      go_enter Tryz.func79, Tryz.ntmps79
      go_wp2_with fail
      refine (wrong_any ⟨#[116, 111, 111, 32, 108, 111, 110, 103]⟩ _).mono ?_
      rintro e w2 ⟨rfl, hx2⟩
      obtain ⟨R0, R1, R2, R3, R4⟩ := res_cells hx2
      have R5 := lt_of_cell R0
      obtain ⟨F0, F1, F2, F3, F4⟩ := res_free hx2
      go_wp2_with fail
      refine bodyPost_ret (v := .agg #[.int .i64 (wrongR ⟨#[116, 111, 111, 32, 108, 111, 110, 103]⟩).code, .int .i64 (wrongR ⟨#[116, 111, 111, 32, 108, 111, 110, 103]⟩).value.kind, .int .i64 (wrongR ⟨#[116, 111, 111, 32, 108, 111, 110, 103]⟩).value.number, .string (wrongR ⟨#[116, 111, 111, 32, 108, 111, 110, 103]⟩).value.text, .string (wrongR ⟨#[116, 111, 111, 32, 108, 111, 110, 103]⟩).text]) (by simp [results, Tryz.results79, go_sem, R0, R1, R2, R3, R4]) rfl ⟨ret_res HI.out, ?_⟩
      (repeat refine Ext.setCell ?_ (by simp) _)
      exact ((Ext.refl w).alloc _).trans hx2
    have HI : Hid (doneR (textV (x ++ t)) = textR x ⟨#[44]⟩ args) := Lib.hid (by unfold textR; rw [if_neg (by decide), if_neg (by decide), if_neg (by decide), if_neg (by decide), if_pos rfl, if_pos (hK0.trans hk), ht0, if_pos h2])
    have h3 : (x.size : Int) + t.size ≤ 200 := by omega
    subst hk
    clear hK0 ht0 hv0
    go_enter Tryz.func79, Tryz.ntmps79
    go_wp2_with fail
    refine (textValue_any _ _).mono ?_
    rintro e w2 ⟨rfl, hx2⟩
    go_wp2_with fail
    refine (done_any (textV (x ++ t)) _).mono ?_
    rintro e w3 ⟨rfl, hx3⟩
    replace hx3 := hx2.trans hx3
    obtain ⟨R0, R1, R2, R3, R4⟩ := res_cells hx3
    have R5 := lt_of_cell R0
    obtain ⟨F0, F1, F2, F3, F4⟩ := res_free hx3
    go_wp2_with fail
    refine bodyPost_ret (v := .agg #[.int .i64 (doneR (textV (x ++ t))).code, .int .i64 (doneR (textV (x ++ t))).value.kind, .int .i64 (doneR (textV (x ++ t))).value.number, .string (doneR (textV (x ++ t))).value.text, .string (doneR (textV (x ++ t))).text]) (by simp [results, Tryz.results79, go_sem, R0, R1, R2, R3, R4]) rfl ⟨ret_res HI.out, ?_⟩
    (repeat refine Ext.setCell ?_ (by simp) _)
    exact ((Ext.refl w).alloc _).trans hx3
  by_cases g5 : s = ⟨#[60]⟩
  · subst g5
    have hl : 1 ≤ args.length := args_ops (by simp [opsL]) hc
    clear hc
    obtain ⟨bl, ol, cap, rfl, hla, hma, q0, q1, q2⟩ := hd_cells ra hl
    have zb := lt_of_cell q0
    unfold maxLen at hma
    have hl' : (0 : Int) < args.length := by omega
    have hv0 : ValOk (hdV args) := hv _ (by cases args with | nil => simp at hl | cons v l => simp [hdV])
    obtain ⟨n, hn0⟩ : ∃ n, (hdV args).number = n := ⟨_, rfl⟩
    obtain ⟨K, hK0⟩ : ∃ K, (hdV args).kind = K := ⟨_, rfl⟩
    obtain ⟨t, ht0⟩ : ∃ t, (hdV args).text = t := ⟨_, rfl⟩
    rw [hn0] at q1
    rw [hK0] at q0
    rw [ht0] at q2
    clear ra hv
    clear hn0
    by_cases hk : K = 3
    rotate_left
    · have HI : Hid (wrongR ⟨#[110, 111, 116, 32, 97, 32, 116, 101, 120, 116]⟩ = textR x ⟨#[60]⟩ args) := Lib.hid (by unfold textR; rw [if_neg (by decide), if_neg (by decide), if_neg (by decide), if_neg (by decide), if_neg (by decide), if_pos rfl, if_neg (fun h => hk (hK0.symm.trans h))])
      have t1 := int_nen hk
      clear hk hK0 ht0 hv0
      go_enter Tryz.func79, Tryz.ntmps79
      go_wp2_with fail
      refine (wrong_any ⟨#[110, 111, 116, 32, 97, 32, 116, 101, 120, 116]⟩ _).mono ?_
      rintro e w2 ⟨rfl, hx2⟩
      obtain ⟨R0, R1, R2, R3, R4⟩ := res_cells hx2
      have R5 := lt_of_cell R0
      obtain ⟨F0, F1, F2, F3, F4⟩ := res_free hx2
      go_wp2_with fail
      refine bodyPost_ret (v := .agg #[.int .i64 (wrongR ⟨#[110, 111, 116, 32, 97, 32, 116, 101, 120, 116]⟩).code, .int .i64 (wrongR ⟨#[110, 111, 116, 32, 97, 32, 116, 101, 120, 116]⟩).value.kind, .int .i64 (wrongR ⟨#[110, 111, 116, 32, 97, 32, 116, 101, 120, 116]⟩).value.number, .string (wrongR ⟨#[110, 111, 116, 32, 97, 32, 116, 101, 120, 116]⟩).value.text, .string (wrongR ⟨#[110, 111, 116, 32, 97, 32, 116, 101, 120, 116]⟩).text]) (by simp [results, Tryz.results79, go_sem, R0, R1, R2, R3, R4]) rfl ⟨ret_res HI.out, ?_⟩
      (repeat refine Ext.setCell ?_ (by simp) _)
      exact ((Ext.refl w).alloc _).trans hx2
    have ht2 := val_text hv0 (hK0.trans hk)
    rw [ht0] at ht2
    have HI : Hid (doneR (boolV (Op.bytesLess x.toList t.toList)) = textR x ⟨#[60]⟩ args) := Lib.hid (by unfold textR; rw [if_neg (by decide), if_neg (by decide), if_neg (by decide), if_neg (by decide), if_neg (by decide), if_pos rfl, if_pos (hK0.trans hk), ht0])
    subst hk
    clear hK0 ht0 hv0
    go_enter Tryz.func79, Tryz.ntmps79
    go_wp2_with fail
    refine (boolean_any _ _).mono ?_
    rintro e w2 ⟨rfl, hx2⟩
    go_wp2_with fail
    refine (done_any (boolV (Op.bytesLess x.toList t.toList)) _).mono ?_
    rintro e w3 ⟨rfl, hx3⟩
    replace hx3 := hx2.trans hx3
    obtain ⟨R0, R1, R2, R3, R4⟩ := res_cells hx3
    have R5 := lt_of_cell R0
    obtain ⟨F0, F1, F2, F3, F4⟩ := res_free hx3
    go_wp2_with fail
    refine bodyPost_ret (v := .agg #[.int .i64 (doneR (boolV (Op.bytesLess x.toList t.toList))).code, .int .i64 (doneR (boolV (Op.bytesLess x.toList t.toList))).value.kind, .int .i64 (doneR (boolV (Op.bytesLess x.toList t.toList))).value.number, .string (doneR (boolV (Op.bytesLess x.toList t.toList))).value.text, .string (doneR (boolV (Op.bytesLess x.toList t.toList))).text]) (by simp [results, Tryz.results79, go_sem, R0, R1, R2, R3, R4]) rfl ⟨ret_res HI.out, ?_⟩
    (repeat refine Ext.setCell ?_ (by simp) _)
    exact ((Ext.refl w).alloc _).trans hx3
  have HI : Hid (missR = textR x s args) := Lib.hid (by unfold textR; rw [if_neg g0, if_neg g1, if_neg g2, if_neg g3, if_neg g4, if_neg g5])
  replace g0 := str_ne' g0
  replace g1 := str_ne' g1
  replace g2 := str_ne' g2
  replace g3 := str_ne' g3
  replace g4 := str_ne' g4
  replace g5 := str_ne' g5
  clear hc hv ra
  go_enter Tryz.func79, Tryz.ntmps79
  go_wp2_with fail
  refine (missing_any _).mono ?_
  rintro e w2 ⟨rfl, hx2⟩
  obtain ⟨R0, R1, R2, R3, R4⟩ := res_cells hx2
  have R5 := lt_of_cell R0
  obtain ⟨F0, F1, F2, F3, F4⟩ := res_free hx2
  go_wp2_with fail
  refine bodyPost_ret (v := .agg #[.int .i64 (missR).code, .int .i64 (missR).value.kind, .int .i64 (missR).value.number, .string (missR).value.text, .string (missR).text]) (by simp [results, Tryz.results79, go_sem, R0, R1, R2, R3, R4]) rfl ⟨ret_res HI.out, ?_⟩
  (repeat refine Ext.setCell ?_ (by simp) _)
  exact ((Ext.refl w).alloc _).trans hx2

end Go.Proofs.YtdngmifgglbbpaaGreatDoor
