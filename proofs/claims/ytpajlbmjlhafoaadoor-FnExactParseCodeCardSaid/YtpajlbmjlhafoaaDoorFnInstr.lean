/-
  CONTRACTS: FormatInstr, of the program and of the reference.
  Conditions: those that each lemma states.
-/
import Derived.Test.YtpajlbmjlhafoaaDoorRows
import Derived.Test.YtpajlbmjlhafoaaDoorFnItoa
import Derived.Test.YtpajlbmjlhafoaaDoorFnValues
import Derived.Lib.SmallJoins
import Derived.OwnWalk
import Derived.Deep.RegionWith
import Derived.Deep.DeepCutAuto
namespace Go.Proofs.YtpajlbmjlhafoaaDoor
open Go.RowKit Go.Joins
set_option linter.unusedSimpArgs false
set_option linter.unusedVariables false

theorem dec_len : ∀ (k u : Nat), u < 10 ^ (k + 1) → (Lib.decDigits u).length ≤ k + 1
  | 0, u, h => by rw [Lib.decDigits, dif_pos (by simpa using h)]; simp
  | k + 1, u, h => by
    rw [Lib.decDigits]
    split
    · simp
    · have := dec_len k (u / 10) (Nat.div_lt_of_lt_mul (by rw [Nat.pow_succ] at h; omega))
      simp; omega
theorem itoaB_size {n : Int} (h0 : -9223372036854775808 ≤ n) (h1 : n ≤ 9223372036854775807) : (itoaB n).size ≤ 21 := by
  have e : (itoaB n).size = (Lib.itoa n).length := by simp [itoaB, ByteArray.size]
  rw [e, Lib.itoa]
  split
  · have := dec_len 19 n.natAbs (by have : n.natAbs ≤ 9223372036854775808 := by omega
                                    omega)
    simp; omega
  · have := dec_len 19 n.toNat (by have : n.toNat ≤ 9223372036854775808 := by omega
                                   omega)
    omega

theorem ok_instr {x : MInstr} (h : x.d.ok) : (-9223372036854775808 ≤ x.a ∧ x.a ≤ 9223372036854775807) ∧ (-9223372036854775808 ≤ x.b ∧ x.b ≤ 9223372036854775807) := by
  rw [MInstr.d_eq] at h
  simp only [D.ok, D.okL] at h
  exact ⟨h.2.1, h.2.2.1⟩
theorem bulk_instr {x : MInstr} (h : x.d.bulk ≤ 1048576) : x.text.size ≤ 1048576 := by
  rw [MInstr.d_eq] at h
  simp only [D.bulk, D.bulkL] at h
  omega
theorem ba_assoc (a b c : ByteArray) : a ++ b ++ c = a ++ (b ++ c) := ByteArray.ext (by simp [Array.append_assoc])
theorem ba_nil (a : ByteArray) : a ++ (⟨#[]⟩ : ByteArray) = a := ByteArray.ext (by simp)
theorem nil_ba (a : ByteArray) : (⟨#[]⟩ : ByteArray) ++ a = a := ByteArray.ext (by simp)
def wordsI : List ByteArray := [⟨#[]⟩, ⟨#[105, 110, 116]⟩, ⟨#[116, 101, 120, 116]⟩, ⟨#[115, 121, 109, 98, 111, 108]⟩, ⟨#[110, 105, 108]⟩, ⟨#[116, 114, 117, 101]⟩, ⟨#[102, 97, 108, 115, 101]⟩, ⟨#[115, 101, 108, 102]⟩, ⟨#[118, 97, 114]⟩, ⟨#[115, 101, 116, 118, 97, 114]⟩, ⟨#[102, 105, 101, 108, 100]⟩, ⟨#[115, 101, 116, 102, 105, 101, 108, 100]⟩, ⟨#[99, 108, 97, 115, 115]⟩, ⟨#[115, 101, 110, 100]⟩, ⟨#[115, 117, 112, 101, 114]⟩, ⟨#[98, 108, 111, 99, 107]⟩, ⟨#[112, 111, 112]⟩, ⟨#[100, 117, 112]⟩, ⟨#[114, 101, 116, 117, 114, 110]⟩, ⟨#[101, 110, 100]⟩, ⟨#[106, 117, 109, 112]⟩, ⟨#[105, 102, 102, 97, 108, 115, 101]⟩, ⟨#[105, 102, 116, 114, 117, 101]⟩, ⟨#[116, 105, 99, 107]⟩, ⟨#[108, 105, 109, 105, 116, 115]⟩, ⟨#[99, 111, 117, 110, 116]⟩, ⟨#[115, 116, 101, 112]⟩]
def uA (op : Int) : Bool := decide (op = 1 ∨ op = 12 ∨ op = 15 ∨ op = 20 ∨ op = 8 ∨ op = 9 ∨ op = 21 ∨ op = 22 ∨ op = 25 ∨ op = 26 ∨ op = 14)
def uB (op : Int) : Bool := decide (op = 8 ∨ op = 9 ∨ op = 21 ∨ op = 22 ∨ op = 25 ∨ op = 26 ∨ op = 24)
def uT (op : Int) : Bool := decide (op = 2 ∨ op = 3 ∨ op = 10 ∨ op = 11 ∨ op = 13 ∨ op = 14)
def spB : ByteArray := ⟨#[32]⟩
def instrB (x : MInstr) : ByteArray :=
  if 1 ≤ x.op ∧ x.op ≤ 26 then wordsI.getD x.op.toNat ⟨#[]⟩ ++ ((if uA x.op then spB ++ itoaB x.a else ⟨#[]⟩) ++ ((if uB x.op then spB ++ itoaB x.b else ⟨#[]⟩) ++ (if uT x.op then spB ++ x.text else ⟨#[]⟩))) else ⟨#[]⟩
theorem word_size {s : ByteArray} (h : s ∈ wordsI) : s.size ≤ 8 := by
  simp only [wordsI, List.mem_cons, List.not_mem_nil, or_false] at h
  rcases h with rfl | rfl | rfl | rfl | rfl | rfl | rfl | rfl | rfl | rfl | rfl | rfl | rfl | rfl | rfl | rfl | rfl | rfl | rfl | rfl | rfl | rfl | rfl | rfl | rfl | rfl | rfl <;> decide

set_option maxHeartbeats 400000 in
theorem l14Words_any (w : World) : Calls Tryd.prog 57 #[] w (GivesV w (strs wordsI)) := by
  go_enter Tryd.func57, Tryd.ntmps57
  go_wp2
  go_ret
  exact gives_strs w wordsI 9 (by simp [wordsI, maxLen]) (by simp [wordsI])
set_option maxHeartbeats 400000 in
theorem words_any (w : World) : Calls Tryd.prog 68 #[] w (GivesV w (strs wordsI)) := by
  go_enter Tryd.func68, Tryd.ntmps68
  go_wp2
  go_ret
  exact gives_strs w wordsI 9 (by simp [wordsI, maxLen]) (by simp [wordsI])

set_option maxHeartbeats 4000000 in
theorem l14Uses_any (op : Int) (w : World) : Calls Tryd.prog 58 #[.int .i64 op] w fun e w' => e = .returned (.tuple #[.bool (uA op), .bool (uB op), .bool (uT op)]) ∧ w' = w := by
  go_enter Tryd.func58, Tryd.ntmps58
  go_wp2
  all_goals go_ret3
  all_goals (try simp only [beq_iff_eq, beq_eq_false_iff_ne, ne_eq] at *)
  all_goals first
    | (subst_vars; exact ⟨rfl, by first | rfl | trivial⟩)
    | (refine ⟨?_, by first | rfl | trivial⟩
       have e1 : uA op = false := decide_eq_false (by omega)
       have e2 : uB op = false := decide_eq_false (by omega)
       have e3 : uT op = false := decide_eq_false (by omega)
       rw [e1, e2, e3]; rfl)

set_option maxHeartbeats 4000000 in
theorem writes_any (op : Int) (w : World) : Calls Tryd.prog 69 #[.int .i64 op] w fun e w' => e = .returned (.tuple #[.bool (uA op), .bool (uB op), .bool (uT op)]) ∧ w' = w := by
  go_enter Tryd.func69, Tryd.ntmps69
  go_wp2
  all_goals go_ret3
  all_goals (try simp only [beq_iff_eq, beq_eq_false_iff_ne, ne_eq] at *)
  all_goals first
    | (subst_vars; exact ⟨rfl, by first | rfl | trivial⟩)
    | (refine ⟨?_, by first | rfl | trivial⟩
       have e1 : uA op = false := decide_eq_false (by omega)
       have e2 : uB op = false := decide_eq_false (by omega)
       have e3 : uT op = false := decide_eq_false (by omega)
       rw [e1, e2, e3]; rfl)

set_option maxHeartbeats 2000000 in
theorem spec_FormatInstr_any (x : MInstr) (cx : List Value) (w : World) (rx : Rep w x.d cx) (hx : x.d.bulk ≤ 1048576) (ox : x.d.ok) :
    Calls Tryd.prog 60 #[.agg cx.toArray] w fun e w' => e = .returned (.string (instrB x)) ∧ Ext w w' := by
  obtain rfl := MInstr.op_en rx
  clear rx
  obtain ⟨⟨oa0, oa1⟩, ob0, ob1⟩ := ok_instr ox
  have ht := bulk_instr hx
  clear hx ox
  by_cases hr : 1 ≤ x.op ∧ x.op ≤ 26
  rotate_left
  · have hr' : decide (1 ≤ x.op ∧ x.op ≤ 26) = false := decide_eq_false hr
    have hI : Hid (instrB x = ⟨#[]⟩) := Lib.hid (by unfold instrB; rw [if_neg hr])
    clear hr
    go_enter Tryd.func60, Tryd.ntmps60
    go_wp2_with fail
    refine (l1In_any _ _ _ _).mono ?_
    rw [hr']
    rintro e w' ⟨rfl, rfl⟩
    go_wp2_with fail
    go_ret
    exact ⟨ret_str (by rw [hI.out]), (Ext.refl _).alloc _⟩
  have hr' : decide (1 ≤ x.op ∧ x.op ≤ 26) = true := decide_eq_true hr
  have hI : Hid (instrB x = wordsI.getD x.op.toNat ⟨#[]⟩ ++ ((if uA x.op then spB ++ itoaB x.a else ⟨#[]⟩) ++ ((if uB x.op then spB ++ itoaB x.b else ⟨#[]⟩) ++ (if uT x.op then spB ++ x.text else ⟨#[]⟩)))) := Lib.hid (by unfold instrB; rw [if_pos hr])
  have sa := itoaB_size oa0 oa1
  have sb := itoaB_size ob0 ob1
  go_enter Tryd.func60, Tryd.ntmps60
  go_wp2_with fail
  refine (l1In_any _ _ _ _).mono ?_
  rw [hr']
  rintro e w' ⟨rfl, rfl⟩
  clear hr'
  obtain ⟨k, hk⟩ : ∃ k : Nat, x.op = k := ⟨x.op.toNat, by omega⟩
  rw [hk] at hr
  obtain ⟨K, ta, tb, tt⟩ := x
  simp only at *
  subst hk
  go_wp2_with fail
  have k0 : (1 : Int) ≤ k := by omega
  have k1 : (k : Int) ≤ 26 := by omega
  have k2 : (k : Int) < 27 := by omega
  have k3 : (0 : Int) ≤ k := by omega
  have hkw : k < wordsI.length := by simp [wordsI]; omega
  generalize hW : World.alloc w _ = W
  have EW : Ext w W := by rw [← hW]; exact (Ext.refl w).alloc _
  have A0 : W.cell? ⟨w.heap.size, 0, none⟩ = some (.int .i64 k) := by rw [← hW]; simp
  have A1 : W.cell? ⟨w.heap.size, 1, none⟩ = some (.int .i64 ta) := by rw [← hW]; simp
  have A2 : W.cell? ⟨w.heap.size, 2, none⟩ = some (.int .i64 tb) := by rw [← hW]; simp
  have A3 : W.cell? ⟨w.heap.size, 3, none⟩ = some (.string tt) := by rw [← hW]; simp
  clear hW
  have hws := word_size (List.getElem_mem hkw)
  have hI' : Hid (instrB ⟨k, ta, tb, tt⟩ = wordsI[k] ++ ((if uA k then spB ++ itoaB ta else ⟨#[]⟩) ++ ((if uB k then spB ++ itoaB tb else ⟨#[]⟩) ++ (if uT k then spB ++ tt else ⟨#[]⟩)))) := Lib.hid (by rw [hI.out]; simp [List.getD, hkw])
  have hWD : Hid (∀ (w1 : World) (b o : Nat), (∀ i s, wordsI[i]? = some s → w1.cell? ⟨b, o + i, none⟩ = some (.string s)) → w1.cell? ⟨b, o + k, none⟩ = some (.string wordsI[k])) := Lib.hid fun w1 b o h => h k _ (by simp [hkw])
  clear hI
  generalize wordsI[k] = wd at *
  go_cut [3] (fun v wx => v = .string wd ∧ Ext W wx)
  case first =>
    go_region_with (go_at_call 57; refine (l14Words_any _).mono ?_; rintro e w1 ⟨ao, n, cap, fp, rfl, hr1, hf1, hx1⟩; obtain ⟨ao, ca, ba, oa, h1, hla, hma, pa, ha⟩ := hr1.rep.strs; simp only [List.cons.injEq, and_true, Value.slice.injEq] at h1; obtain ⟨rfl, rfl, rfl⟩ := h1; obtain rfl := pa (by simp [wordsI]); have c0 := hWD.out _ _ _ ha; clear ha; have q0 := Ext.cell (Ext.trans (Ext.drew (Ext.refl W)) hx1) A0; have hlen : wordsI.length = 27 := rfl; rw [hlen])
    all_goals (go_wp2_with fail; go_meet; exact ⟨rfl, Ext.trans (Ext.drew (Ext.refl _)) (by assumption)⟩)
  case rest =>
  obtain ⟨rfl, hx1⟩ := hcut
  have E1 := EW.trans hx1
  have B0 := Ext.cell hx1 A0
  have B1 := Ext.cell hx1 A1
  have B2 := Ext.cell hx1 A2
  have B3 := Ext.cell hx1 A3
  clear A0 A1 A2 A3 EW hWD
  go_wp2_with fail
  refine (l14Uses_any _ _).mono ?_
  rintro e w' ⟨rfl, rfl⟩
  generalize uA (k : Int) = ua at *
  generalize uB (k : Int) = ub at *
  generalize uT (k : Int) = ut at *
  cases ua <;> cases ub <;> cases ut
  all_goals
    go_wp2_with (go_at_call 61; refine (spec_FormatInt_any _ _ (by omega) (by omega)).mono ?_; rintro e w2 ⟨rfl, hx2⟩; have B2 := Ext.cell hx2 B2; have B3 := Ext.cell hx2 B3; have E1 := E1.trans hx2)
    go_ret
    exact ⟨ret_str (by rw [hI'.out]; simp [spB, ba_assoc, ba_nil, nil_ba]), E1⟩

set_option maxHeartbeats 2000000 in
theorem impl_FormatInstr_any (x : MInstr) (cx : List Value) (w : World) (rx : Rep w x.d cx) (hx : x.d.bulk ≤ 1048576) (ox : x.d.ok) (hm : TabOk w) :
    Calls Tryd.prog 70 #[.agg cx.toArray] w fun e w' => e = .returned (.string (instrB x)) ∧ Ext w w' := by
  obtain rfl := MInstr.op_en rx
  clear rx
  obtain ⟨⟨oa0, oa1⟩, ob0, ob1⟩ := ok_instr ox
  have ht := bulk_instr hx
  clear hx ox
  by_cases hr : 1 ≤ x.op ∧ x.op ≤ 26
  rotate_left
  · have hr' : decide (1 ≤ x.op ∧ x.op ≤ 26) = false := decide_eq_false hr
    have hI : Hid (instrB x = ⟨#[]⟩) := Lib.hid (by unfold instrB; rw [if_neg hr])
    clear hr
    go_enter Tryd.func70, Tryd.ntmps70
    go_wp2_with fail
    refine (within_any _ _ _ _).mono ?_
    rw [hr']
    rintro e w' ⟨rfl, rfl⟩
    go_wp2_with fail
    go_ret
    exact ⟨ret_str (by rw [hI.out]), (Ext.refl _).alloc _⟩
  have hr' : decide (1 ≤ x.op ∧ x.op ≤ 26) = true := decide_eq_true hr
  have hI : Hid (instrB x = wordsI.getD x.op.toNat ⟨#[]⟩ ++ ((if uA x.op then spB ++ itoaB x.a else ⟨#[]⟩) ++ ((if uB x.op then spB ++ itoaB x.b else ⟨#[]⟩) ++ (if uT x.op then spB ++ x.text else ⟨#[]⟩)))) := Lib.hid (by unfold instrB; rw [if_pos hr])
  have sa := itoaB_size oa0 oa1
  have sb := itoaB_size ob0 ob1
  go_enter Tryd.func70, Tryd.ntmps70
  go_wp2_with fail
  refine (within_any _ _ _ _).mono ?_
  rw [hr']
  rintro e w' ⟨rfl, rfl⟩
  clear hr'
  obtain ⟨k, hk⟩ : ∃ k : Nat, x.op = k := ⟨x.op.toNat, by omega⟩
  rw [hk] at hr
  obtain ⟨K, ta, tb, tt⟩ := x
  simp only at *
  subst hk
  go_wp2_with fail
  have k0 : (1 : Int) ≤ k := by omega
  have k1 : (k : Int) ≤ 26 := by omega
  have k2 : (k : Int) < 27 := by omega
  have k3 : (0 : Int) ≤ k := by omega
  have hkw : k < wordsI.length := by simp [wordsI]; omega
  generalize hW : World.alloc w _ = W
  have EW : Ext w W := by rw [← hW]; exact (Ext.refl w).alloc _
  have A0 : W.cell? ⟨w.heap.size, 0, none⟩ = some (.int .i64 k) := by rw [← hW]; simp
  have A1 : W.cell? ⟨w.heap.size, 1, none⟩ = some (.int .i64 ta) := by rw [← hW]; simp
  have A2 : W.cell? ⟨w.heap.size, 2, none⟩ = some (.int .i64 tb) := by rw [← hW]; simp
  have A3 : W.cell? ⟨w.heap.size, 3, none⟩ = some (.string tt) := by rw [← hW]; simp
  clear hW
  have hws := word_size (List.getElem_mem hkw)
  have hI' : Hid (instrB ⟨k, ta, tb, tt⟩ = wordsI[k] ++ ((if uA k then spB ++ itoaB ta else ⟨#[]⟩) ++ ((if uB k then spB ++ itoaB tb else ⟨#[]⟩) ++ (if uT k then spB ++ tt else ⟨#[]⟩)))) := Lib.hid (by rw [hI.out]; simp [List.getD, hkw])
  have hWD : Hid (∀ (w1 : World) (b o : Nat), (∀ i s, wordsI[i]? = some s → w1.cell? ⟨b, o + i, none⟩ = some (.string s)) → w1.cell? ⟨b, o + k, none⟩ = some (.string wordsI[k])) := Lib.hid fun w1 b o h => h k _ (by simp [hkw])
  clear hI
  generalize wordsI[k] = wd at *
  go_cut [3] (fun v wx => v = .string wd ∧ Ext W wx)
  case first =>
    go_region_with (go_at_call 68; refine (words_any _).mono ?_; rintro e w1 ⟨ao, n, cap, fp, rfl, hr1, hf1, hx1⟩; obtain ⟨ao, ca, ba, oa, h1, hla, hma, pa, ha⟩ := hr1.rep.strs; simp only [List.cons.injEq, and_true, Value.slice.injEq] at h1; obtain ⟨rfl, rfl, rfl⟩ := h1; obtain rfl := pa (by simp [wordsI]); have c0 := hWD.out _ _ _ ha; clear ha; have q0 := Ext.cell (Ext.trans (Ext.drew (Ext.refl W)) hx1) A0; have hlen : wordsI.length = 27 := rfl; rw [hlen])
    all_goals (go_wp2_with fail; go_meet; exact ⟨rfl, Ext.trans (Ext.drew (Ext.refl _)) (by assumption)⟩)
  case rest =>
  obtain ⟨rfl, hx1⟩ := hcut
  have E1 := EW.trans hx1
  have B0 := Ext.cell hx1 A0
  have B1 := Ext.cell hx1 A1
  have B2 := Ext.cell hx1 A2
  have B3 := Ext.cell hx1 A3
  clear A0 A1 A2 A3 EW hWD
  go_wp2_with fail
  refine (writes_any _ _).mono ?_
  rintro e w' ⟨rfl, rfl⟩
  generalize uA (k : Int) = ua at *
  generalize uB (k : Int) = ub at *
  generalize uT (k : Int) = ut at *
  cases ua <;> cases ub <;> cases ut
  all_goals
    go_wp2_with (go_at_call 65; refine (impl_FormatInt_any _ _ (by omega) (by omega) (hm.ext E1)).mono ?_; rintro e w2 ⟨rfl, hx2⟩; have B2 := Ext.cell hx2 B2; have B3 := Ext.cell hx2 B3; have E1 := E1.trans hx2)
    go_ret
    exact ⟨ret_str (by rw [hI'.out]; simp [spB, ba_assoc, ba_nil, nil_ba]), E1⟩

end Go.Proofs.YtpajlbmjlhafoaaDoor
