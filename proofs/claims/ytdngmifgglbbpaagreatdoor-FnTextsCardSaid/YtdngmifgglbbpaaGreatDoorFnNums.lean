/-
  CONTRACTS: ParseInt, ParseNumber, of the program and of the reference.
  Conditions: those that each lemma states.
-/
import Derived.Test.YtdngmifgglbbpaaGreatDoorRows
import Derived.Test.YtdngmifgglbbpaaGreatDoorNums
import Derived.Test.YtdngmifgglbbpaaGreatDoorFnLex
import Derived.Deep.DeepCutAuto
import Derived.WideLaws
namespace Go.Proofs.YtdngmifgglbbpaaGreatDoor
open Go.RowKit Go.Joins Go.Shelf
set_option linter.unusedSimpArgs false
set_option linter.unusedVariables false

def IfaceOk (v : Value) : Prop := v = .nilIface ∨ ∃ te pe, v = .iface te pe
def ErrOk (w : World) : Prop := (∃ v, w.cell? ⟨1, 0, none⟩ = some v ∧ IfaceOk v) ∧ ∃ v, w.cell? ⟨2, 0, none⟩ = some v ∧ IfaceOk v
theorem ErrOk.ext {w w' : World} (h : ErrOk w) (hx : Ext w w') : ErrOk w' := by
  obtain ⟨⟨a, h1, h2⟩, b, h3, h4⟩ := h
  exact ⟨⟨a, Ext.cell hx h1, h2⟩, b, Ext.cell hx h3, h4⟩
theorem atoi_bad (s : ByteArray) (hl : s.size ≤ 13) (h : ∀ v, Lib.atoiAll s.data.toList ≠ .ok v) (w : World) (he : ErrOk w) :
    Calls Tryz.prog 226 #[.string s] w fun e w' => ∃ n N, e = .returned (.tuple #[.int .i64 n, .iface 286 (.pointer (some ⟨N, 0, none⟩))]) ∧ Ext w w' := by
  rcases hA : Lib.atoiAll s.data.toList with v | _ | _
  · exact absurd hA (h v)
  · obtain ⟨ev, hv, hev⟩ := he.1
    exact (Any.strconv_Atoi_syntax Tryz.laysC172 s (by omega) hA ev w hv hev).mono fun e w' ⟨N, h1, _, _, h4⟩ => ⟨_, N, h1, h4⟩
  · obtain ⟨ev, hv, hev⟩ := he.2
    exact (Any.strconv_Atoi_range Tryz.laysC172 s (by omega) hA ev w hv hev).mono fun e w' ⟨N, h1, _, _, h4⟩ => ⟨_, N, h1, h4⟩
theorem atoi_good (s : ByteArray) (hl : s.size ≤ 13) (v : Int) (h : Lib.atoiAll s.data.toList = .ok v) (w : World) :
    Calls Tryz.prog 226 #[.string s] w fun e w' => e = .returned (.tuple #[.int .i64 v, .nilIface]) ∧ Ext w w' :=
  (Tryz.strconv_Atoi_ok s (by omega) v h w).mono fun e w' ⟨h1, h2⟩ => ⟨h1, by
    rcases h2 with rfl | ⟨t, rfl⟩
    · exact Ext.refl _
    · exact Lib.bytesWorld_below _ _ _⟩
theorem ret_num {a b : Int} {s : ByteArray} {v : Int} {t : Bool} (h : numB a b s = t ∧ numV a b s = v) : Ending.returned (.tuple #[.int .i64 v, .bool t]) = .returned (.tuple #[.int .i64 (numV a b s), .bool (numB a b s)]) := by rw [h.1, h.2]
theorem str_eqn' {a b : ByteArray} (h : a = b) : (!a.toList == b.toList) = false := by subst h; simp

set_option maxHeartbeats 2000000 in
theorem number_any (s : ByteArray) (a b : Int) (w : World) (ha : -999999999999 ≤ a) (hb : b ≤ 999999999999) (hs : s.size ≤ 1048576) (hm : TabOk w) (he : ErrOk w) :
    Calls Tryz.prog 202 #[.string s, .int .i64 a, .int .i64 b] w fun e w' => e = .returned (.tuple #[.int .i64 (numV a b s), .bool (numB a b s)]) ∧ Ext w w' := by
  by_cases h13 : s.size ≤ 13
  rotate_left
  · have h13' : (13 : Int) < (s.size : Int) := by omega
    have hno := Lib.hid (num_no (a := a) (b := b) (s := s) fun ⟨n, h1, h2, h3⟩ => by have := itoaB_len (n := n) (by omega) (by omega); rw [h3] at this; omega)
    go_enter Tryz.func202, Tryz.ntmps202
    go_wp2_with fail
    go_ret2
    exact ⟨ret_num hno.out, Ext.refl _⟩
  have h13' : ¬ (13 : Int) < (s.size : Int) := by omega
  by_cases hA : ∃ v, Lib.atoiAll s.data.toList = .ok v
  rotate_left
  · have hno := Lib.hid (num_no (a := a) (b := b) (s := s) fun ⟨n, h1, h2, h3⟩ => hA ⟨n, itoaB_atoi (by omega) (by omega) h3⟩)
    have HA := Lib.hid hA; clear hA
    go_enter Tryz.func202, Tryz.ntmps202
    go_wp2_with fail
    refine (atoi_bad s h13 (fun v h => HA.out ⟨v, h⟩) w he).mono ?_
    rintro e w1 ⟨n, N, rfl, hx1⟩
    go_wp2_with fail
    go_ret2
    exact ⟨ret_num hno.out, hx1⟩
  obtain ⟨v, hA⟩ := hA
  obtain ⟨v0, v1⟩ := atoiAll_bd hA
  have HA := Lib.hid hA; clear hA
  by_cases hq : itoaB v = s
  rotate_left
  · have hno := Lib.hid (num_no (a := a) (b := b) (s := s) fun ⟨n, h1, h2, h3⟩ => by
      have := itoaB_atoi (by omega) (by omega) h3
      rw [HA.out] at this
      injection this with this
      subst this
      exact hq h3)
    have t1 := str_nen hq
    have t2 := str_ne hq
    have HQ := Lib.hid hq; clear hq
    go_enter Tryz.func202, Tryz.ntmps202
    go_wp2_with fail
    refine (atoi_good s h13 v HA.out w).mono ?_
    rintro e w1 ⟨rfl, hx1⟩
    go_wp2_with fail
    refine (Tryz.strconv_Itoa v v0 v1 _ (hm.ext hx1)).mono ?_
    rintro e w2 ⟨rfl, k, os, hw⟩
    have hx2 : Ext w1 w2 := by rw [hw]; exact below_regrown w1 _ _
    clear hw
    rw [show (⟨(Lib.itoa v).toArray⟩ : ByteArray) = itoaB v from rfl]
    go_wp2_with fail
    go_ret2
    exact ⟨ret_num hno.out, hx1.trans hx2⟩
  have t1 := str_eqn hq
  have t2 := str_eq hq
  have HQ := Lib.hid hq; clear hq
  cases hw : decide (a ≤ v ∧ v ≤ b)
  all_goals
    have HW := Lib.hid hw; clear hw
    go_enter Tryz.func202, Tryz.ntmps202
    go_wp2_with fail
    refine (atoi_good s h13 v HA.out w).mono ?_
    rintro e w1 ⟨rfl, hx1⟩
    go_wp2_with fail
    refine (Tryz.strconv_Itoa v v0 v1 _ (hm.ext hx1)).mono ?_
    rintro e w2 ⟨rfl, k, os, hw⟩
    have hx2 : Ext w1 w2 := by rw [hw]; exact below_regrown w1 _ _
    clear hw
    rw [show (⟨(Lib.itoa v).toArray⟩ : ByteArray) = itoaB v from rfl]
    go_wp2_with fail
    refine (within_any _ _ _ _).mono ?_
    rw [HW.out]
    rintro e w3 ⟨rfl, rfl⟩
    go_wp2_with fail
    go_ret2
  · refine ⟨ret_num (num_no fun ⟨n, h1, h2, h3⟩ => ?_), hx1.trans hx2⟩
    have := itoaB_atoi (by omega) (by omega) h3
    rw [HA.out] at this
    injection this with this
    subst this
    exact of_decide_eq_false HW.out ⟨h1, h2⟩
  · have h3 := of_decide_eq_true HW.out
    exact ⟨ret_num (num_yes ha hb ⟨h3.1, h3.2, HQ.out⟩), hx1.trans hx2⟩

set_option maxHeartbeats 400000 in
theorem impl_ParseInt_any (s : ByteArray) (w : World) (hs : s.size ≤ 1048576) (hm : TabOk w) (he : ErrOk w) :
    Calls Tryz.prog 146 #[.string s] w fun e w' => e = .returned (.tuple #[.int .i64 (numV (-999999999999) 999999999999 s), .bool (numB (-999999999999) 999999999999 s)]) ∧ Ext w w' := by
  go_enter Tryz.func146, Tryz.ntmps146
  go_wp2_with fail
  refine (number_any s (-999999999999) 999999999999 _ (by omega) (by omega) hs hm he).mono ?_
  rintro e w1 ⟨rfl, hx⟩
  go_wp2_with fail
  go_ret2
  exact ⟨rfl, hx⟩

theorem len_data (s : ByteArray) : s.data.toList.length = s.size := by simp
theorem pow_cast (m : Nat) : ((10 ^ m : Nat) : Int) = (10 : Int) ^ m := by
  induction m with
  | zero => rfl
  | succ m ih => rw [Nat.pow_succ, Int.pow_succ, Int.natCast_mul, ih]; rfl
theorem byte_mem' {s : ByteArray} {k : Nat} (h : k < s.size) : s[k] ∈ s.data.toList := by
  have : s.data.toList[k]'(by simpa using h) = s[k] := rfl
  rw [← this]; exact List.getElem_mem _
theorem tail_data {s : ByteArray} (h : 0 < s.size) : s.data.toList = s[0] :: (s.extract 1 s.size).data.toList := by
  have h0 : 0 < s.data.toList.length := by simpa using h
  rw [show (s.extract 1 s.size).data.toList = s.data.toList.tail from by simp; exact List.take_of_length_le (by simp)]
  have := List.drop_eq_getElem_cons (l := s.data.toList) (i := 0) h0
  have h2 : s.data.toList = s.data[0] :: s.data.toList.tail := by simpa using this
  exact h2

end Go.Proofs.YtdngmifgglbbpaaGreatDoor
