/-
  CONTRACTS: ParseInt, ParseNumber, of the program and of the reference.
  Conditions: those that each lemma states.
-/
import Derived.Test.YtnicpdflpmpajaaGreatDoorRows
import Derived.Test.YtnicpdflpmpajaaGreatDoorNums
import Derived.Test.YtnicpdflpmpajaaGreatDoorFnLex
import Derived.Deep.DeepCutAuto
import Derived.WideLaws
namespace Go.Proofs.YtnicpdflpmpajaaGreatDoor
open Go.RowKit Go.Joins Go.Shelf
set_option linter.unusedSimpArgs false
set_option linter.unusedVariables false

def IfaceOk (v : Value) : Prop := v = .nilIface ∨ ∃ te pe, v = .iface te pe
def ErrOk (w : World) : Prop := (∃ v, w.cell? ⟨1, 0, none⟩ = some v ∧ IfaceOk v) ∧ ∃ v, w.cell? ⟨2, 0, none⟩ = some v ∧ IfaceOk v
theorem ErrOk.ext {w w' : World} (h : ErrOk w) (hx : Ext w w') : ErrOk w' := by
  obtain ⟨⟨a, h1, h2⟩, b, h3, h4⟩ := h
  exact ⟨⟨a, Ext.cell hx h1, h2⟩, b, Ext.cell hx h3, h4⟩
theorem atoi_bad (s : ByteArray) (hl : s.size ≤ 13) (h : ∀ v, Lib.atoiAll s.data.toList ≠ .ok v) (w : World) (he : ErrOk w) :
    Calls Tryz.prog 182 #[.string s] w fun e w' => ∃ n N, e = .returned (.tuple #[.int .i64 n, .iface 221 (.pointer (some ⟨N, 0, none⟩))]) ∧ Ext w w' := by
  rcases hA : Lib.atoiAll s.data.toList with v | _ | _
  · exact absurd hA (h v)
  · obtain ⟨ev, hv, hev⟩ := he.1
    exact (Any.strconv_Atoi_syntax Tryz.laysC172 s (by omega) hA ev w hv hev).mono fun e w' ⟨N, h1, _, _, h4⟩ => ⟨_, N, h1, h4⟩
  · obtain ⟨ev, hv, hev⟩ := he.2
    exact (Any.strconv_Atoi_range Tryz.laysC172 s (by omega) hA ev w hv hev).mono fun e w' ⟨N, h1, _, _, h4⟩ => ⟨_, N, h1, h4⟩
theorem atoi_good (s : ByteArray) (hl : s.size ≤ 13) (v : Int) (h : Lib.atoiAll s.data.toList = .ok v) (w : World) :
    Calls Tryz.prog 182 #[.string s] w fun e w' => e = .returned (.tuple #[.int .i64 v, .nilIface]) ∧ Ext w w' :=
  (Tryz.strconv_Atoi_ok s (by omega) v h w).mono fun e w' ⟨h1, h2⟩ => ⟨h1, by
    rcases h2 with rfl | ⟨t, rfl⟩
    · exact Ext.refl _
    · exact Lib.bytesWorld_below _ _ _⟩
theorem ret_num {a b : Int} {s : ByteArray} {v : Int} {t : Bool} (h : numB a b s = t ∧ numV a b s = v) : Ending.returned (.tuple #[.int .i64 v, .bool t]) = .returned (.tuple #[.int .i64 (numV a b s), .bool (numB a b s)]) := by rw [h.1, h.2]
theorem str_eqn' {a b : ByteArray} (h : a = b) : (!a.toList == b.toList) = false := by subst h; simp

set_option maxHeartbeats 2000000 in
theorem number_any (s : ByteArray) (a b : Int) (w : World) (ha : -999999999999 ≤ a) (hb : b ≤ 999999999999) (hs : s.size ≤ 1048576) (hm : TabOk w) (he : ErrOk w) :
    Calls Tryz.prog 169 #[.string s, .int .i64 a, .int .i64 b] w fun e w' => e = .returned (.tuple #[.int .i64 (numV a b s), .bool (numB a b s)]) ∧ Ext w w' := by
  by_cases h13 : s.size ≤ 13
  rotate_left
  · have h13' : (13 : Int) < (s.size : Int) := by omega
    have hno := Lib.hid (num_no (a := a) (b := b) (s := s) fun ⟨n, h1, h2, h3⟩ => by have := itoaB_len (n := n) (by omega) (by omega); rw [h3] at this; omega)
    go_enter Tryz.func169, Tryz.ntmps169
    go_wp2_with fail
    go_ret2
    exact ⟨ret_num hno.out, Ext.refl _⟩
  have h13' : ¬ (13 : Int) < (s.size : Int) := by omega
  by_cases hA : ∃ v, Lib.atoiAll s.data.toList = .ok v
  rotate_left
  · have hno := Lib.hid (num_no (a := a) (b := b) (s := s) fun ⟨n, h1, h2, h3⟩ => hA ⟨n, itoaB_atoi (by omega) (by omega) h3⟩)
    have HA := Lib.hid hA; clear hA
    go_enter Tryz.func169, Tryz.ntmps169
    go_wp2_with fail
    refine (atoi_bad s h13 (fun v h => HA.out ⟨v, h⟩) w he).mono ?_
    rintro e w1 ⟨n, N, rfl, hx1⟩
    go_wp2_with fail
    go_ret2
    exact ⟨ret_num hno.out, hx1⟩
  obtain ⟨v, hA⟩ := hA
  obtain ⟨v0, v1⟩ := atoiAll_bd hA
  have HA := Lib.hid hA; clear hA
  by_cases hq : itoaB v = s
  rotate_left
  · have hno := Lib.hid (num_no (a := a) (b := b) (s := s) fun ⟨n, h1, h2, h3⟩ => by
      have := itoaB_atoi (by omega) (by omega) h3
      rw [HA.out] at this
      injection this with this
      subst this
      exact hq h3)
    have t1 := str_nen hq
    have t2 := str_ne hq
    have HQ := Lib.hid hq; clear hq
    go_enter Tryz.func169, Tryz.ntmps169
    go_wp2_with fail
    refine (atoi_good s h13 v HA.out w).mono ?_
    rintro e w1 ⟨rfl, hx1⟩
    go_wp2_with fail
    refine (Tryz.strconv_Itoa v v0 v1 _ (hm.ext hx1)).mono ?_
    rintro e w2 ⟨rfl, k, os, hw⟩
    have hx2 : Ext w1 w2 := by rw [hw]; exact below_regrown w1 _ _
    clear hw
    rw [show (⟨(Lib.itoa v).toArray⟩ : ByteArray) = itoaB v from rfl]
    go_wp2_with fail
    go_ret2
    exact ⟨ret_num hno.out, hx1.trans hx2⟩
  have t1 := str_eqn hq
  have t2 := str_eq hq
  have HQ := Lib.hid hq; clear hq
  cases hw : decide (a ≤ v ∧ v ≤ b)
  all_goals
    have HW := Lib.hid hw; clear hw
    go_enter Tryz.func169, Tryz.ntmps169
    go_wp2_with fail
    refine (atoi_good s h13 v HA.out w).mono ?_
    rintro e w1 ⟨rfl, hx1⟩
    go_wp2_with fail
    refine (Tryz.strconv_Itoa v v0 v1 _ (hm.ext hx1)).mono ?_
    rintro e w2 ⟨rfl, k, os, hw⟩
    have hx2 : Ext w1 w2 := by rw [hw]; exact below_regrown w1 _ _
    clear hw
    rw [show (⟨(Lib.itoa v).toArray⟩ : ByteArray) = itoaB v from rfl]
    go_wp2_with fail
    refine (within_any _ _ _ _).mono ?_
    rw [HW.out]
    rintro e w3 ⟨rfl, rfl⟩
    go_wp2_with fail
    go_ret2
  · refine ⟨ret_num (num_no fun ⟨n, h1, h2, h3⟩ => ?_), hx1.trans hx2⟩
    have := itoaB_atoi (by omega) (by omega) h3
    rw [HA.out] at this
    injection this with this
    subst this
    exact of_decide_eq_false HW.out ⟨h1, h2⟩
  · have h3 := of_decide_eq_true HW.out
    exact ⟨ret_num (num_yes ha hb ⟨h3.1, h3.2, HQ.out⟩), hx1.trans hx2⟩

set_option maxHeartbeats 400000 in
theorem impl_ParseInt_any (s : ByteArray) (w : World) (hs : s.size ≤ 1048576) (hm : TabOk w) (he : ErrOk w) :
    Calls Tryz.prog 126 #[.string s] w fun e w' => e = .returned (.tuple #[.int .i64 (numV (-999999999999) 999999999999 s), .bool (numB (-999999999999) 999999999999 s)]) ∧ Ext w w' := by
  go_enter Tryz.func126, Tryz.ntmps126
  go_wp2_with fail
  refine (number_any s (-999999999999) 999999999999 _ (by omega) (by omega) hs hm he).mono ?_
  rintro e w1 ⟨rfl, hx⟩
  go_wp2_with fail
  go_ret2
  exact ⟨rfl, hx⟩

theorem len_data (s : ByteArray) : s.data.toList.length = s.size := by simp
theorem pow_cast (m : Nat) : ((10 ^ m : Nat) : Int) = (10 : Int) ^ m := by
  induction m with
  | zero => rfl
  | succ m ih => rw [Nat.pow_succ, Int.pow_succ, Int.natCast_mul, ih]; rfl
theorem byte_mem' {s : ByteArray} {k : Nat} (h : k < s.size) : s[k] ∈ s.data.toList := by
  have : s.data.toList[k]'(by simpa using h) = s[k] := rfl
  rw [← this]; exact List.getElem_mem _
theorem tail_data {s : ByteArray} (h : 0 < s.size) : s.data.toList = s[0] :: (s.extract 1 s.size).data.toList := by
  have h0 : 0 < s.data.toList.length := by simpa using h
  rw [show (s.extract 1 s.size).data.toList = s.data.toList.tail from by simp; exact List.take_of_length_le (by simp)]
  have := List.drop_eq_getElem_cons (l := s.data.toList) (i := 0) h0
  have h2 : s.data.toList = s.data[0] :: s.data.toList.tail := by simpa using this
  exact h2

set_option maxHeartbeats 4000000 in
theorem l1Read_any (s : ByteArray) (m : Nat) (w : World) (hm1 : 1 ≤ m) (hm2 : m ≤ 12) (hs : s.size ≤ 1048576) :
    Calls Tryz.prog 181 #[.string s, .int .i64 m] w fun e w' => e = .returned (.tuple #[.int .i64 (numV (-(10 ^ m - 1)) (10 ^ m - 1) s), .bool (numB (-(10 ^ m - 1)) (10 ^ m - 1) s)]) ∧ Ext w w' := by
  have hp : (10 : Int) ^ m ≤ 1000000000000 := by
    have h2 : 10 ^ m ≤ 10 ^ 12 := Nat.pow_le_pow_right (by omega) hm2
    have h3 : (10 : Nat) ^ 12 = 1000000000000 := by decide
    have h4 := pow_cast m
    omega
  have HLO : Hid (-999999999999 ≤ -((10 : Int) ^ m - 1)) := Lib.hid (by omega)
  have HHI : Hid ((10 : Int) ^ m - 1 ≤ 999999999999) := Lib.hid (by omega)
  clear hp
  by_cases hb : ∃ h : 0 < s.size, s[0] = 45
  · obtain ⟨h0, hb⟩ := hb
    have hT0 := tail_data h0
    rw [hb] at hT0
    have HT0 := Lib.hid hT0; clear hT0
    have t1 : ((s[0].toNat : Int) == 45) = true := by rw [hb]; rfl
    have HB := Lib.hid hb; clear hb
    go_enter Tryz.func181, Tryz.ntmps181
    go_upto_region 5 with fail
    generalize s.extract 1 s.size = t at *
    have HT : Hid (s.data.toList = 45 :: t.data.toList) := HT0
    clear HT0 t1
    have hno : Hid (¬ (1 ≤ t.size ∧ t.size ≤ m ∧ digL t.data.toList) → ¬ ∃ n, IsNum (-(10 ^ m - 1)) (10 ^ m - 1) s n) := Lib.hid fun h ⟨q, h1, h2, h3⟩ => by
      have hd := (itoa_neg' (by rw [← itoaB_data, h3]; exact HT.out))
      obtain ⟨d1, d2, d3⟩ := dec_val q.natAbs q.natAbs (Nat.le_refl _)
      have e : t.size = t.data.toList.length := (len_data t).symm
      refine h ⟨?_, ?_, by rw [hd.2]; exact d1⟩
      · rw [e, hd.2]; first | exact List.length_pos_iff.2 d3 | omega
      · rw [e, hd.2]
        obtain ⟨k, rfl⟩ : ∃ k, m = k + 1 := ⟨m - 1, by omega⟩
        exact dec_len' k _ (by have := pow_cast (k + 1); omega)
    by_cases hlen : 1 ≤ t.size ∧ t.size ≤ m
    rotate_left
    · by_cases h1 : 1 ≤ t.size
      · have h2 : (m : Int) < (t.size : Int) := by omega
        have h1' : ¬ (t.size : Int) < 1 := by omega
        go_wp2_with fail
        go_ret2
        exact ⟨ret_num (num_no (hno.out fun h => hlen ⟨h.1, h.2.1⟩)), Ext.refl _⟩
      · have h1' : (t.size : Int) < 1 := by omega
        go_wp2_with fail
        go_ret2
        exact ⟨ret_num (num_no (hno.out fun h => hlen ⟨h.1, h.2.1⟩)), Ext.refl _⟩
    obtain ⟨hl1, hl2⟩ := hlen
    have hl1' : ¬ (t.size : Int) < 1 := by omega
    have hl2' : ¬ (m : Int) < (t.size : Int) := by omega
    go_wp2_with fail
    go_loop [8, 9] (fun nv iv => ∃ k : Nat, k ≤ t.size ∧ iv = .int .i64 k ∧ nv = .int .i64 (valF 0 (t.data.toList.take k)) ∧ Hid (digL (t.data.toList.take k))) (fun _ iv => t.size - (intOf iv).toNat)
    case atStart => exact ⟨0, Nat.zero_le _, rfl, by simp [valF_nil], Lib.hid (by intro c hc; simp at hc)⟩
    case round =>
      obtain ⟨k, hk, rfl, rfl, hR⟩ := hrel
      by_cases hlt : k < t.size
      · obtain ⟨hb0, hb1⟩ := byte_bd t[k]
        have hvb := val_bd hR.out (by rw [List.length_take]; omega)
        have hts : t.data.toList.take (k + 1) = t.data.toList.take k ++ [t[k]] := by
          rw [List.take_succ_eq_append_getElem (by simpa using hlt)]; rfl
        have HTS := Lib.hid hts; clear hts
        by_cases hd0 : (48 : Int) ≤ (t[k].toNat : Int)
        rotate_left
        · have hd' : (t[k].toNat : Int) < 48 := by omega
          have HD := Lib.hid hd0; clear hd0
          go_wp2_with fail
          go_ret2
          exact ⟨ret_num (num_no (hno.out fun h => by have := h.2.2 t[k] (byte_mem' hlt); have := HD.out; omega)), Ext.refl _⟩
        by_cases hd1 : (t[k].toNat : Int) ≤ 57
        rotate_left
        · have hd' : (57 : Int) < (t[k].toNat : Int) := by omega
          have HD := Lib.hid hd1; clear hd1
          go_wp2_with fail
          go_ret2
          exact ⟨ret_num (num_no (hno.out fun h => by have := h.2.2 t[k] (byte_mem' hlt); have := HD.out; omega)), Ext.refl _⟩
        have HB : Hid (valF 0 (t.data.toList.take (k + 1)) = valF 0 (t.data.toList.take k) * 10 + (t[k].toNat - 48)) := Lib.hid (by rw [HTS.out, valF_append, valF_cons, valF_nil])
        have HG : Hid (digL (t.data.toList.take (k + 1))) := Lib.hid (by
          rw [HTS.out]; intro c hc
          rcases List.mem_append.1 hc with hc | hc
          · exact hR.out c hc
          · have hc := List.mem_singleton.1 hc; rw [hc]; omega)
        generalize valF 0 (t.data.toList.take k) = V0 at *
        go_wp2_with fail
        go_round
        case rel => exact ⟨k + 1, by omega, by go_num, by rw [HB.out]; go_num, HG⟩
        case measure => simp [intOf]; omega
      · obtain rfl : k = t.size := by omega
        have hful : t.data.toList.take t.size = t.data.toList := List.take_of_length_le (by simp)
        have hdg : Hid (digL t.data.toList) := Lib.hid (by have := hR.out; rwa [hful] at this)
        have hvb := val_bd hdg.out (by rw [len_data]; omega)
        have hvp : Hid (valF 0 t.data.toList + 1 ≤ 10 ^ m) := Lib.hid (by
          have h1 := valF_lt t.data.toList 0 hdg.out
          have h2 : 10 ^ t.data.toList.length ≤ 10 ^ m := Nat.pow_le_pow_right (by omega) (by rw [len_data]; omega)
          omega)
        have hq2 : Hid (∀ q, IsNum (-(10 ^ m - 1)) (10 ^ m - 1) s q → q = (-(valF 0 t.data.toList : Int))) := Lib.hid fun q ⟨h1, h2, h3⟩ => by
          have hd := (itoa_neg' (by rw [← itoaB_data, h3]; exact HT.out))
          have h5 := (dec_val q.natAbs q.natAbs (Nat.le_refl _)).2.1
          rw [← hd.2] at h5
          have := hd.1
          omega
        rw [hful]
        clear hful hR
        have HP10 : Hid (((10 ^ m : Nat) : Int) = (10 : Int) ^ m) := Lib.hid (pow_cast m)
        generalize hV : valF 0 t.data.toList = V0 at *
        clear hV
        by_cases he : itoaB (-(V0 : Int)) = s
        · have t1 := str_eqn he
          have t2 := str_eq he
          have HE := Lib.hid he; clear he
          go_wp2_with fail
          refine (spec_FormatInt_any _ _ (by omega) (by omega)).mono ?_
          rintro e w1 ⟨rfl, hx⟩
          go_wp2_with fail
          go_ret2
          exact ⟨ret_num (num_yes (HLO.out) (HHI.out) ⟨by have := hvp.out; have := HP10.out; omega, by have := hvp.out; have := HP10.out; omega, HE.out⟩), hx⟩
        · have t1 := str_nen he
          have t2 := str_ne he
          have HE := Lib.hid he; clear he
          go_wp2_with fail
          refine (spec_FormatInt_any _ _ (by omega) (by omega)).mono ?_
          rintro e w1 ⟨rfl, hx⟩
          go_wp2_with fail
          go_ret2
          exact ⟨ret_num (num_no fun ⟨q, hq⟩ => HE.out (by have := hq2.out q hq; rw [← this]; exact hq.2.2)), hx⟩
  · have HT : Hid (s.data.toList = s.data.toList) := Lib.hid rfl
    have HP : Hid (∀ u, s.data.toList ≠ 45 :: u) := Lib.hid fun u hu => hb (by
      have h0 : 0 < s.size := by rw [← len_data, hu]; simp
      refine ⟨h0, ?_⟩
      have := tail_data h0
      rw [hu] at this
      injection this with h1 _
      exact h1.symm)
    by_cases h0 : 0 < s.size
    · have t1 : ((s[0].toNat : Int) == 45) = false := int_ne fun h => hb ⟨h0, UInt8.toNat_inj.1 (by rw [show (45 : UInt8).toNat = 45 from rfl]; omega)⟩
      clear hb
      go_enter Tryz.func181, Tryz.ntmps181
      go_upto_region 5 with fail
      clear t1
      have hno : Hid (¬ (1 ≤ s.size ∧ s.size ≤ m ∧ digL s.data.toList) → ¬ ∃ n, IsNum (-(10 ^ m - 1)) (10 ^ m - 1) s n) := Lib.hid fun h ⟨q, h1, h2, h3⟩ => by
        have hd := (itoa_pos' (by rw [← itoaB_data, h3]) HP.out)
        obtain ⟨d1, d2, d3⟩ := dec_val q.natAbs q.natAbs (Nat.le_refl _)
        have e : s.size = s.data.toList.length := (len_data s).symm
        refine h ⟨?_, ?_, by rw [hd.2]; exact d1⟩
        · rw [e, hd.2]; first | exact List.length_pos_iff.2 d3 | omega
        · rw [e, hd.2]
          obtain ⟨k, rfl⟩ : ∃ k, m = k + 1 := ⟨m - 1, by omega⟩
          exact dec_len' k _ (by have := pow_cast (k + 1); omega)
      by_cases hlen : 1 ≤ s.size ∧ s.size ≤ m
      rotate_left
      · by_cases h1 : 1 ≤ s.size
        · have h2 : (m : Int) < (s.size : Int) := by omega
          have h1' : ¬ (s.size : Int) < 1 := by omega
          go_wp2_with fail
          go_ret2
          exact ⟨ret_num (num_no (hno.out fun h => hlen ⟨h.1, h.2.1⟩)), Ext.refl _⟩
        · have h1' : (s.size : Int) < 1 := by omega
          go_wp2_with fail
          go_ret2
          exact ⟨ret_num (num_no (hno.out fun h => hlen ⟨h.1, h.2.1⟩)), Ext.refl _⟩
      obtain ⟨hl1, hl2⟩ := hlen
      have hl1' : ¬ (s.size : Int) < 1 := by omega
      have hl2' : ¬ (m : Int) < (s.size : Int) := by omega
      go_wp2_with fail
      go_loop [8, 9] (fun nv iv => ∃ k : Nat, k ≤ s.size ∧ iv = .int .i64 k ∧ nv = .int .i64 (valF 0 (s.data.toList.take k)) ∧ Hid (digL (s.data.toList.take k))) (fun _ iv => s.size - (intOf iv).toNat)
      case atStart => exact ⟨0, Nat.zero_le _, rfl, by simp [valF_nil], Lib.hid (by intro c hc; simp at hc)⟩
      case round =>
        obtain ⟨k, hk, rfl, rfl, hR⟩ := hrel
        by_cases hlt : k < s.size
        · obtain ⟨hb0, hb1⟩ := byte_bd s[k]
          have hvb := val_bd hR.out (by rw [List.length_take]; omega)
          have hts : s.data.toList.take (k + 1) = s.data.toList.take k ++ [s[k]] := by
            rw [List.take_succ_eq_append_getElem (by simpa using hlt)]; rfl
          have HTS := Lib.hid hts; clear hts
          by_cases hd0 : (48 : Int) ≤ (s[k].toNat : Int)
          rotate_left
          · have hd' : (s[k].toNat : Int) < 48 := by omega
            have HD := Lib.hid hd0; clear hd0
            go_wp2_with fail
            go_ret2
            exact ⟨ret_num (num_no (hno.out fun h => by have := h.2.2 s[k] (byte_mem' hlt); have := HD.out; omega)), Ext.refl _⟩
          by_cases hd1 : (s[k].toNat : Int) ≤ 57
          rotate_left
          · have hd' : (57 : Int) < (s[k].toNat : Int) := by omega
            have HD := Lib.hid hd1; clear hd1
            go_wp2_with fail
            go_ret2
            exact ⟨ret_num (num_no (hno.out fun h => by have := h.2.2 s[k] (byte_mem' hlt); have := HD.out; omega)), Ext.refl _⟩
          have HB : Hid (valF 0 (s.data.toList.take (k + 1)) = valF 0 (s.data.toList.take k) * 10 + (s[k].toNat - 48)) := Lib.hid (by rw [HTS.out, valF_append, valF_cons, valF_nil])
          have HG : Hid (digL (s.data.toList.take (k + 1))) := Lib.hid (by
            rw [HTS.out]; intro c hc
            rcases List.mem_append.1 hc with hc | hc
            · exact hR.out c hc
            · have hc := List.mem_singleton.1 hc; rw [hc]; omega)
          generalize valF 0 (s.data.toList.take k) = V0 at *
          go_wp2_with fail
          go_round
          case rel => exact ⟨k + 1, by omega, by go_num, by rw [HB.out]; go_num, HG⟩
          case measure => simp [intOf]; omega
        · obtain rfl : k = s.size := by omega
          have hful : s.data.toList.take s.size = s.data.toList := List.take_of_length_le (by simp)
          have hdg : Hid (digL s.data.toList) := Lib.hid (by have := hR.out; rwa [hful] at this)
          have hvb := val_bd hdg.out (by rw [len_data]; omega)
          have hvp : Hid (valF 0 s.data.toList + 1 ≤ 10 ^ m) := Lib.hid (by
            have h1 := valF_lt s.data.toList 0 hdg.out
            have h2 : 10 ^ s.data.toList.length ≤ 10 ^ m := Nat.pow_le_pow_right (by omega) (by rw [len_data]; omega)
            omega)
          have hq2 : Hid (∀ q, IsNum (-(10 ^ m - 1)) (10 ^ m - 1) s q → q = ((valF 0 s.data.toList : Int))) := Lib.hid fun q ⟨h1, h2, h3⟩ => by
            have hd := (itoa_pos' (by rw [← itoaB_data, h3]) HP.out)
            have h5 := (dec_val q.natAbs q.natAbs (Nat.le_refl _)).2.1
            rw [← hd.2] at h5
            have := hd.1
            omega
          rw [hful]
          clear hful hR
          have HP10 : Hid (((10 ^ m : Nat) : Int) = (10 : Int) ^ m) := Lib.hid (pow_cast m)
          generalize hV : valF 0 s.data.toList = V0 at *
          clear hV
          by_cases he : itoaB ((V0 : Int)) = s
          · have t1 := str_eqn he
            have t2 := str_eq he
            have HE := Lib.hid he; clear he
            go_wp2_with fail
            refine (spec_FormatInt_any _ _ (by omega) (by omega)).mono ?_
            rintro e w1 ⟨rfl, hx⟩
            go_wp2_with fail
            go_ret2
            exact ⟨ret_num (num_yes (HLO.out) (HHI.out) ⟨by have := hvp.out; have := HP10.out; omega, by have := hvp.out; have := HP10.out; omega, HE.out⟩), hx⟩
          · have t1 := str_nen he
            have t2 := str_ne he
            have HE := Lib.hid he; clear he
            go_wp2_with fail
            refine (spec_FormatInt_any _ _ (by omega) (by omega)).mono ?_
            rintro e w1 ⟨rfl, hx⟩
            go_wp2_with fail
            go_ret2
            exact ⟨ret_num (num_no fun ⟨q, hq⟩ => HE.out (by have := hq2.out q hq; rw [← this]; exact hq.2.2)), hx⟩
    · clear hb
      have h1' : (s.size : Int) < 1 := by omega
      have hno : Hid (¬ (1 ≤ s.size ∧ s.size ≤ m ∧ digL s.data.toList) → ¬ ∃ n, IsNum (-(10 ^ m - 1)) (10 ^ m - 1) s n) := Lib.hid fun h ⟨q, h1, h2, h3⟩ => by
        have hd := (itoa_pos' (by rw [← itoaB_data, h3]) HP.out)
        obtain ⟨d1, d2, d3⟩ := dec_val q.natAbs q.natAbs (Nat.le_refl _)
        have e : s.size = s.data.toList.length := (len_data s).symm
        refine h ⟨?_, ?_, by rw [hd.2]; exact d1⟩
        · rw [e, hd.2]; first | exact List.length_pos_iff.2 d3 | omega
        · rw [e, hd.2]
          obtain ⟨k, rfl⟩ : ∃ k, m = k + 1 := ⟨m - 1, by omega⟩
          exact dec_len' k _ (by have := pow_cast (k + 1); omega)
      have hq := Lib.hid (num_no (hno.out fun h => by omega))
      clear hno
      go_enter Tryz.func181, Tryz.ntmps181
      go_wp2_with fail
      go_ret2
      exact ⟨ret_num hq.out, Ext.refl _⟩

set_option maxHeartbeats 400000 in
theorem spec_ParseInt_any (s : ByteArray) (w : World) (hs : s.size ≤ 1048576) :
    Calls Tryz.prog 168 #[.string s] w fun e w' => e = .returned (.tuple #[.int .i64 (numV (-999999999999) 999999999999 s), .bool (numB (-999999999999) 999999999999 s)]) ∧ Ext w w' := by
  have c := l1Read_any s 12 w (by omega) (by omega) hs
  have e1 : (-(10 ^ 12 - 1) : Int) = -999999999999 := by decide
  have e2 : ((10 : Int) ^ 12 - 1) = 999999999999 := by decide
  rw [e1, e2] at c
  clear e1 e2
  have C := Lib.hid c; clear c
  go_enter Tryz.func168, Tryz.ntmps168
  go_wp2_with fail
  refine C.out.mono ?_
  rintro e w1 ⟨rfl, hx⟩
  go_wp2_with fail
  go_ret2
  exact ⟨rfl, hx⟩

end Go.Proofs.YtnicpdflpmpajaaGreatDoor
