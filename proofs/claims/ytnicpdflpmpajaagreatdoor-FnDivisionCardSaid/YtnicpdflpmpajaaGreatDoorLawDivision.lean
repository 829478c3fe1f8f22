/-
  FnDivision: quotient and rest belong together, and comparisons agree with each other, for every code.
  Conditions: none.
-/
import Derived.Test.YtnicpdflpmpajaaGreatDoorDoorLaw
import Derived.Test.YtnicpdflpmpajaaGreatDoorErrLaw
import Derived.Test.YtnicpdflpmpajaaGreatDoorArgTypes
import Derived.Test.YtnicpdflpmpajaaGreatDoorFnDivP
import Derived.ChangeSlices
namespace Go.Proofs.YtnicpdflpmpajaaGreatDoor
open Go.ChangeShapes Go.WideShapes Go.ChangeAt Go.RowKit Go.Joins
open Go.ChangeMaps (open_string)
set_option linter.unusedSimpArgs false
set_option linter.unusedVariables false


set_option maxHeartbeats 1000000 in
theorem big_any (ao : Option Addr) (n cap : Nat) (w : World) (hn : n ≤ 9223372036854775807) : Calls Tryz.prog 29 #[.slice ao n cap] w fun e w' => e = .returned (.bool (decide (1048576 < n))) ∧ w' = w := by
  go_enter Tryz.func29, Tryz.ntmps29
  by_cases h : 1048576 < n
  · have h' : (1048576 : Int) < n := by omega
    go_wp2_with fail
    go_ret
    exact ⟨ret_bool (by simp [h]), rfl⟩
  · have h' : (n : Int) ≤ 1048576 := by omega
    go_wp2_with fail
    go_ret
    exact ⟨ret_bool (by rw [decide_eq_false h]; exact decide_eq_false (by omega)), rfl⟩
theorem basic_call (x : MValue) (cx : List Value) (s : ByteArray) (l : List MValue) (va : Value) (c k n : Int) (t u : ByteArray) (w : World) (rx : Rep w x.d cx) (ra : Rep w (MValues l) [va]) (hx : x.text.size ≤ 1048576) (hs : s.size ≤ 1048576) (hz : ∀ a, a ∈ l → a.text.size ≤ 1048576) (hM : MaxOk w ∧ TabOk w ∧ ErrOk w) (hr : basicR x s l = ⟨c, ⟨k, n, t⟩, u⟩) :
    Calls Tryz.prog 26 #[.agg cx.toArray, .string s, va] w fun e w' => e = .returned (.agg #[.int .i64 c, .int .i64 k, .int .i64 n, .string t, .string u]) ∧ Ext w w' := by
  have h := impl_BasicMessage_any x cx s l va w rx ra hx hs hz hM.1 hM.2.1 hM.2.2
  rw [hr] at h
  exact h
theorem val_row_at {W : World} {b : Nat} {y : MValue} (hb : W.heap.size = b) : Rep (W.alloc (.cells #[.int .i64 y.kind, .int .i64 y.number, .string y.text] 60)) (MValues [y]) [.slice (some ⟨b, 0, none⟩) 1 1] := by
  subst hb; exact val_row W y
theorem world3_ext {w w' : World} (h : MaxOk w ∧ TabOk w ∧ ErrOk w) (hx : Ext w w') : MaxOk w' ∧ TabOk w' ∧ ErrOk w' := ⟨h.1.ext hx, h.2.1.ext hx, h.2.2.ext hx⟩


set_option maxRecDepth 100000 in
set_option maxHeartbeats 4000000 in
theorem fnDivision_calls (v : Value) (w : World) (hc : Bytes w v) (hM : MaxOk w ∧ TabOk w ∧ ErrOk w) : Calls Tryz.prog 7 #[v] w fun e w' => e = .returned (.bool true) ∧ Ext w w' := by

  have hc' := hc
  obtain ⟨ao, n, cap, rfl, hn, -⟩ := hc'
  go_enter Tryz.func7, Tryz.ntmps7
  go_wp2_with fail
  refine (big_any ao n cap _ hn).mono ?_
  cases hb : decide (1048576 < n)
  rotate_left
  · rintro e w' ⟨rfl, rfl⟩
    go_wp2_with fail
    go_ret
    exact ⟨rfl, Ext.refl _⟩
  rintro e w' ⟨rfl, hw⟩
  subst hw
  clear hb
  go_wp2_with fail
  refine (DrawBasicMessage_any _ _ hc).mono ?_
  rintro e w1 ⟨⟨x, s1, va1, rfl, hdx⟩, hx1⟩
  have HDX := Lib.hid hdx; clear hdx
  have e1 := hx1.alloc (.cells #[.int .i64 x.kind, .int .i64 x.number, .string x.text] 60)
  go_wp2_with fail
  refine (tail_any _ _ (hc.ext e1)).mono ?_
  rintro e wt ⟨⟨v2, rfl, hc2⟩, hwt⟩
  subst hwt
  go_wp2_with fail
  refine (DrawBasicMessage_any _ _ hc2).mono ?_
  rintro e w2 ⟨⟨y, s2, va2, rfl, hdy⟩, hx2⟩
  have HDY := Lib.hid hdy; clear hdy
  have m0 : w2.cell? ⟨w1.heap.size, 0, none⟩ = some (.int .i64 x.kind) := hx2.cell (by simp)
  have m1 : w2.cell? ⟨w1.heap.size, 1, none⟩ = some (.int .i64 x.number) := hx2.cell (by simp)
  have m2 : w2.cell? ⟨w1.heap.size, 2, none⟩ = some (.string x.text) := hx2.cell (by simp)
  have z1 := lt_of_cell m0
  have e2 := (e1.trans hx2).alloc (.cells #[.int .i64 y.kind, .int .i64 y.number, .string y.text] 60)
  clear hc2 hc hx2 hx1 e1
  have RX : ∀ W, Rep W x.d [.int .i64 x.kind, .int .i64 x.number, .string x.text] := fun W => ⟨_, MValue.shut⟩
  have hxs : x.text.size ≤ 1048576 := by have := HDX.out.2.2; omega
  have hys : ∀ a, a ∈ [y] → a.text.size ≤ 1048576 := fun a ha => by rw [List.mem_singleton.1 ha]; have := HDY.out.2.2; omega
  by_cases hk : x.kind = 2
  rotate_left
  · have t1 := int_nen hk
    have hcode := basic_plus (x := x) (y := y) (by rintro ⟨h1, h2⟩; exact hk h1)
    obtain ⟨⟨c, ⟨k, m, t⟩, u⟩, hr⟩ : ∃ r, basicR x ⟨#[43]⟩ [y] = r := ⟨_, rfl⟩
    rw [hr] at hcode
    have tc : (c != 0) = true := int_nen hcode
    have hfd : ∀ w : World, (Instr.field 67 (.agg #[.int .i64 c, .int .i64 k, .int .i64 m, .string t, .string u]) 0).run Tryz.prog w = .ok (.int .i64 c) w := fun _ => by kernel_rfl
    clear hcode
    go_wp2_with fail
    have hw := world3_ext hM (e2.alloc (.cells #[.int .i64 y.kind, .int .i64 y.number, .string y.text] 60))
    have ra : Rep ((w2.alloc (.cells #[.int .i64 y.kind, .int .i64 y.number, .string y.text] 60)).alloc (.cells #[.int .i64 y.kind, .int .i64 y.number, .string y.text] 60)) (MValues [y]) [.slice (some ⟨w2.heap.size + 1, 0, none⟩) 1 1] := val_row_at (by simp)
    have hc3 := basic_call x _ ⟨#[43]⟩ [y] _ c k m t u _ (RX _) ra hxs (by decide) hys hw hr
    refine hc3.mono ?_
    rintro e w3 ⟨rfl, hx3⟩
    go_wp2_with fail
    go_ret
    exact ⟨rfl, (e2.alloc _).trans hx3⟩
  have t1 := int_eqn hk
  have HK := Lib.hid hk; clear hk
  by_cases hk2 : y.kind = 2
  rotate_left
  · have t2 := int_nen hk2
    have hcode := basic_plus (x := x) (y := y) (by rintro ⟨h1, h2⟩; exact hk2 h2)
    obtain ⟨⟨c, ⟨k, m, t⟩, u⟩, hr⟩ : ∃ r, basicR x ⟨#[43]⟩ [y] = r := ⟨_, rfl⟩
    rw [hr] at hcode
    have tc : (c != 0) = true := int_nen hcode
    have hfd : ∀ w : World, (Instr.field 67 (.agg #[.int .i64 c, .int .i64 k, .int .i64 m, .string t, .string u]) 0).run Tryz.prog w = .ok (.int .i64 c) w := fun _ => by kernel_rfl
    clear hcode
    go_wp2_with fail
    have hw := world3_ext hM (e2.alloc (.cells #[.int .i64 y.kind, .int .i64 y.number, .string y.text] 60))
    have ra : Rep ((w2.alloc (.cells #[.int .i64 y.kind, .int .i64 y.number, .string y.text] 60)).alloc (.cells #[.int .i64 y.kind, .int .i64 y.number, .string y.text] 60)) (MValues [y]) [.slice (some ⟨w2.heap.size + 1, 0, none⟩) 1 1] := val_row_at (by simp)
    have hc3 := basic_call x _ ⟨#[43]⟩ [y] _ c k m t u _ (RX _) ra hxs (by decide) hys hw hr
    refine hc3.mono ?_
    rintro e w3 ⟨rfl, hx3⟩
    go_wp2_with fail
    go_ret
    exact ⟨rfl, (e2.alloc _).trans hx3⟩
  have t2 := int_eqn hk2
  have HK2 := Lib.hid hk2; clear hk2
  obtain ⟨hxe, a0, a1⟩ := HDX.out.1 HK.out
  obtain ⟨hye, b0, b1⟩ := HDY.out.1 HK2.out
  have HXE := Lib.hid hxe; clear hxe
  have HYE := Lib.hid hye; clear hye
  have HB : Hid (∀ s, s ∈ int2L → argsB s = 1 → basicR x s [y] = int2V x.number s y.number) := Lib.hid fun s h1 h2 => by rw [HXE.out, HYE.out]; exact basic_int2 a0 a1 b0 b1 h1 h2
  go_upto_region 5 with fail
  have q0 : (w2.alloc (.cells #[.int .i64 y.kind, .int .i64 y.number, .string y.text] 60)).cell? ⟨w2.heap.size, 0, none⟩ = some (.int .i64 y.kind) := by simp
  have q1 : (w2.alloc (.cells #[.int .i64 y.kind, .int .i64 y.number, .string y.text] 60)).cell? ⟨w2.heap.size, 1, none⟩ = some (.int .i64 y.number) := by simp
  have q2 : (w2.alloc (.cells #[.int .i64 y.kind, .int .i64 y.number, .string y.text] 60)).cell? ⟨w2.heap.size, 2, none⟩ = some (.string y.text) := by simp
  replace m0 := Ext.cell ((Ext.refl w2).alloc (.cells #[.int .i64 y.kind, .int .i64 y.number, .string y.text] 60)) m0
  replace m1 := Ext.cell ((Ext.refl w2).alloc (.cells #[.int .i64 y.kind, .int .i64 y.number, .string y.text] 60)) m1
  replace m2 := Ext.cell ((Ext.refl w2).alloc (.cells #[.int .i64 y.kind, .int .i64 y.number, .string y.text] 60)) m2
  generalize hS : (w2.alloc (.cells #[.int .i64 y.kind, .int .i64 y.number, .string y.text] 60)) = w3 at *
  have z2 : w2.heap.size < w3.heap.size := lt_of_cell q0
  clear hS z1 HDX HDY
  have z1 : w1.heap.size < w3.heap.size := lt_of_cell m0
  have RA : Hid (Rep (w3.alloc (.cells #[.int .i64 y.kind, .int .i64 y.number, .string y.text] 60)) (MValues [y]) [.slice (some ⟨w3.heap.size, 0, none⟩) 1 1]) := Lib.hid (val_row_at rfl)
  have hx4 : Ext w3 (w3.alloc (.cells #[.int .i64 y.kind, .int .i64 y.number, .string y.text] 60)) := (Ext.refl w3).alloc _
  have e4 := e2.trans hx4
  have HX4 := Lib.hid hx4
  clear hx4 e2
  by_cases hbz : y.number = 0
  · have t3 := int_eq hbz
    have HBZ := Lib.hid hbz; clear hbz
    have HVq : Hid (basicR x ⟨#[47, 47]⟩ [y] = ⟨3, ⟨0, 0, ⟨#[]⟩⟩, ⟨#[100, 105, 118, 105, 115, 105, 111, 110, 32, 98, 121, 32, 122, 101, 114, 111]⟩⟩) := Lib.hid (by rw [HB.out _ (by simp [int2L]) (args_op (hasB_tt (by simp [opsL])))]; simp [int2V, zeroR, nilV, HBZ.out])
    go_wp2_with fail
    replace m0 := Ext.cell HX4.out m0
    replace m1 := Ext.cell HX4.out m1
    replace m2 := Ext.cell HX4.out m2
    replace q0 := Ext.cell HX4.out q0
    replace q1 := Ext.cell HX4.out q1
    replace q2 := Ext.cell HX4.out q2
    have hw := world3_ext hM e4
    have ra := RA.out
    have hcc := basic_call x _ ⟨#[47, 47]⟩ [y] _ _ _ _ _ _ _ (RX _) ra hxs (by decide) hys hw HVq.out
    refine hcc.mono ?_
    clear hcc ra hw
    rintro e v5 ⟨rfl, hx5⟩
    replace m0 := Ext.cell hx5 m0
    replace m1 := Ext.cell hx5 m1
    replace m2 := Ext.cell hx5 m2
    replace q0 := Ext.cell hx5 q0
    replace q1 := Ext.cell hx5 q1
    replace q2 := Ext.cell hx5 q2
    have f5 := e4.trans hx5
    have hy5 : Ext v5 (v5.alloc (.cells #[.int .i64 3, .int .i64 0, .int .i64 0, .string ⟨#[]⟩, .string ⟨#[100, 105, 118, 105, 115, 105, 111, 110, 32, 98, 121, 32, 122, 101, 114, 111]⟩] 67)) := (Ext.refl _).alloc _
    have r0 : (v5.alloc (.cells #[.int .i64 3, .int .i64 0, .int .i64 0, .string ⟨#[]⟩, .string ⟨#[100, 105, 118, 105, 115, 105, 111, 110, 32, 98, 121, 32, 122, 101, 114, 111]⟩] 67)).cell? ⟨v5.heap.size, 0, none⟩ = some (.int .i64 3) := by simp
    replace m0 := Ext.cell hy5 m0
    replace m1 := Ext.cell hy5 m1
    replace m2 := Ext.cell hy5 m2
    replace q0 := Ext.cell hy5 q0
    replace q1 := Ext.cell hy5 q1
    replace q2 := Ext.cell hy5 q2
    have g5 := f5.trans hy5
    have HVr : Hid (basicR x ⟨#[92, 92]⟩ [y] = ⟨3, ⟨0, 0, ⟨#[]⟩⟩, ⟨#[100, 105, 118, 105, 115, 105, 111, 110, 32, 98, 121, 32, 122, 101, 114, 111]⟩⟩) := Lib.hid (by rw [HB.out _ (by simp [int2L]) (args_op (hasB_tt (by simp [opsL])))]; simp [int2V, zeroR, nilV, HBZ.out])
    go_wp2_with fail
    have hw := world3_ext hM g5
    have ra := Rep.ext (hx5.trans hy5) (RA.out)
    have hcc := basic_call x _ ⟨#[92, 92]⟩ [y] _ _ _ _ _ _ _ (RX _) ra hxs (by decide) hys hw HVr.out
    refine hcc.mono ?_
    clear hcc ra hw
    rintro e v6 ⟨rfl, hx6⟩
    replace m0 := Ext.cell hx6 m0
    replace m1 := Ext.cell hx6 m1
    replace m2 := Ext.cell hx6 m2
    replace q0 := Ext.cell hx6 q0
    replace q1 := Ext.cell hx6 q1
    replace q2 := Ext.cell hx6 q2
    replace r0 := Ext.cell hx6 r0
    have f6 := g5.trans hx6
    have hy6 : Ext v6 (v6.alloc (.cells #[.int .i64 3, .int .i64 0, .int .i64 0, .string ⟨#[]⟩, .string ⟨#[100, 105, 118, 105, 115, 105, 111, 110, 32, 98, 121, 32, 122, 101, 114, 111]⟩] 67)) := (Ext.refl _).alloc _
    have r1 : (v6.alloc (.cells #[.int .i64 3, .int .i64 0, .int .i64 0, .string ⟨#[]⟩, .string ⟨#[100, 105, 118, 105, 115, 105, 111, 110, 32, 98, 121, 32, 122, 101, 114, 111]⟩] 67)).cell? ⟨v6.heap.size, 0, none⟩ = some (.int .i64 3) := by simp
    replace m0 := Ext.cell hy6 m0
    replace m1 := Ext.cell hy6 m1
    replace m2 := Ext.cell hy6 m2
    replace q0 := Ext.cell hy6 q0
    replace q1 := Ext.cell hy6 q1
    replace q2 := Ext.cell hy6 q2
    replace r0 := Ext.cell hy6 r0
    have g6 := f6.trans hy6
    go_wp2_with fail
    go_ret
    exact ⟨rfl, g6⟩
  have t3 := int_ne hbz
  obtain ⟨lv, hl⟩ : ∃ l : Int, (if decide (x.number < y.number) = true then (1 : Int) else 0) = l := ⟨_, rfl⟩
  obtain ⟨kv, hk0⟩ : ∃ l : Int, (if decide (y.number ≤ x.number) = true then (1 : Int) else 0) = l := ⟨_, rfl⟩
  obtain ⟨mx, hmx⟩ : ∃ l : Int, max x.number y.number = l := ⟨_, rfl⟩
  obtain ⟨mn, hmn⟩ : ∃ l : Int, min x.number y.number = l := ⟨_, rfl⟩
  have HL := Lib.hid hl; have HK0 := Lib.hid hk0; have HMX := Lib.hid hmx; have HMN := Lib.hid hmn
  clear hl hk0 hmx hmn
  obtain ⟨⟨hq0, hq1⟩, ⟨hr0, hr1⟩, hqr, hsg, hsq⟩ := fl_facts a0 a1 b0 b1 hbz
  have HQ0 : Hid (int2V x.number ⟨#[47, 47]⟩ y.number = ⟨0, ⟨2, flQ x.number y.number, ⟨#[]⟩⟩, ⟨#[]⟩⟩) := Lib.hid (by simp [int2V, hbz, bndR_in hq0 hq1, doneR, intV])
  have HR0 : Hid (int2V x.number ⟨#[92, 92]⟩ y.number = ⟨0, ⟨2, flR x.number y.number, ⟨#[]⟩⟩, ⟨#[]⟩⟩) := Lib.hid (by simp [int2V, hbz, bndR_in hr0 hr1, doneR, intV])
  obtain ⟨q, hqv⟩ : ∃ q, flQ x.number y.number = q := ⟨_, rfl⟩
  obtain ⟨r, hrv⟩ : ∃ r, flR x.number y.number = r := ⟨_, rfl⟩
  rw [hqv] at hq0 hq1 hqr HQ0
  rw [hrv] at hr0 hr1 hqr hsg hsq HR0
  clear hqv hrv
  have HVq : Hid (basicR x ⟨#[47, 47]⟩ [y] = ⟨0, ⟨2, q, ⟨#[]⟩⟩, ⟨#[]⟩⟩) := Lib.hid ((HB.out _ (by simp [int2L]) (args_op (hasB_tt (by simp [opsL])))).trans HQ0.out)
  go_wp2_with fail
  replace m0 := Ext.cell HX4.out m0
  replace m1 := Ext.cell HX4.out m1
  replace m2 := Ext.cell HX4.out m2
  replace q0 := Ext.cell HX4.out q0
  replace q1 := Ext.cell HX4.out q1
  replace q2 := Ext.cell HX4.out q2
  have hw := world3_ext hM e4
  have ra := RA.out
  have hcc := basic_call x _ ⟨#[47, 47]⟩ [y] _ _ _ _ _ _ _ (RX _) ra hxs (by decide) hys hw HVq.out
  refine hcc.mono ?_
  clear hcc ra hw
  rintro e v5 ⟨rfl, hx5⟩
  replace m0 := Ext.cell hx5 m0
  replace m1 := Ext.cell hx5 m1
  replace m2 := Ext.cell hx5 m2
  replace q0 := Ext.cell hx5 q0
  replace q1 := Ext.cell hx5 q1
  replace q2 := Ext.cell hx5 q2
  have f5 := e4.trans hx5
  have hy5 : Ext v5 (v5.alloc (.cells #[.int .i64 0, .int .i64 2, .int .i64 q, .string ⟨#[]⟩, .string ⟨#[]⟩] 67)) := (Ext.refl _).alloc _
  have r0 : (v5.alloc (.cells #[.int .i64 0, .int .i64 2, .int .i64 q, .string ⟨#[]⟩, .string ⟨#[]⟩] 67)).cell? ⟨v5.heap.size, 0, none⟩ = some (.int .i64 0) := by simp
  have r1 : (v5.alloc (.cells #[.int .i64 0, .int .i64 2, .int .i64 q, .string ⟨#[]⟩, .string ⟨#[]⟩] 67)).cell? ⟨v5.heap.size, 2, none⟩ = some (.int .i64 q) := by simp
  replace m0 := Ext.cell hy5 m0
  replace m1 := Ext.cell hy5 m1
  replace m2 := Ext.cell hy5 m2
  replace q0 := Ext.cell hy5 q0
  replace q1 := Ext.cell hy5 q1
  replace q2 := Ext.cell hy5 q2
  have g5 := f5.trans hy5
  have HVr : Hid (basicR x ⟨#[92, 92]⟩ [y] = ⟨0, ⟨2, r, ⟨#[]⟩⟩, ⟨#[]⟩⟩) := Lib.hid ((HB.out _ (by simp [int2L]) (args_op (hasB_tt (by simp [opsL])))).trans HR0.out)
  go_wp2_with fail
  have hw := world3_ext hM g5
  have ra := Rep.ext (hx5.trans hy5) (RA.out)
  have hcc := basic_call x _ ⟨#[92, 92]⟩ [y] _ _ _ _ _ _ _ (RX _) ra hxs (by decide) hys hw HVr.out
  refine hcc.mono ?_
  clear hcc ra hw
  rintro e v6 ⟨rfl, hx6⟩
  replace m0 := Ext.cell hx6 m0
  replace m1 := Ext.cell hx6 m1
  replace m2 := Ext.cell hx6 m2
  replace q0 := Ext.cell hx6 q0
  replace q1 := Ext.cell hx6 q1
  replace q2 := Ext.cell hx6 q2
  replace r0 := Ext.cell hx6 r0
  replace r1 := Ext.cell hx6 r1
  have f6 := g5.trans hx6
  have hy6 : Ext v6 (v6.alloc (.cells #[.int .i64 0, .int .i64 2, .int .i64 r, .string ⟨#[]⟩, .string ⟨#[]⟩] 67)) := (Ext.refl _).alloc _
  have r2 : (v6.alloc (.cells #[.int .i64 0, .int .i64 2, .int .i64 r, .string ⟨#[]⟩, .string ⟨#[]⟩] 67)).cell? ⟨v6.heap.size, 0, none⟩ = some (.int .i64 0) := by simp
  have r3 : (v6.alloc (.cells #[.int .i64 0, .int .i64 2, .int .i64 r, .string ⟨#[]⟩, .string ⟨#[]⟩] 67)).cell? ⟨v6.heap.size, 2, none⟩ = some (.int .i64 r) := by simp
  replace m0 := Ext.cell hy6 m0
  replace m1 := Ext.cell hy6 m1
  replace m2 := Ext.cell hy6 m2
  replace q0 := Ext.cell hy6 q0
  replace q1 := Ext.cell hy6 q1
  replace q2 := Ext.cell hy6 q2
  replace r0 := Ext.cell hy6 r0
  replace r1 := Ext.cell hy6 r1
  have g6 := f6.trans hy6
  have HVl : Hid (basicR x ⟨#[60]⟩ [y] = ⟨0, ⟨1, lv, ⟨#[]⟩⟩, ⟨#[]⟩⟩) := Lib.hid ((HB.out _ (by simp [int2L]) (args_op (hasB_tt (by simp [opsL])))).trans (by rw [← HL.out]; simp [int2V, doneR, boolV]))
  go_wp2_with fail
  have hw := world3_ext hM g6
  have ra := Rep.ext (hx6.trans hy6) (Rep.ext (hx5.trans hy5) (RA.out))
  have hcc := basic_call x _ ⟨#[60]⟩ [y] _ _ _ _ _ _ _ (RX _) ra hxs (by decide) hys hw HVl.out
  refine hcc.mono ?_
  clear hcc ra hw
  rintro e v7 ⟨rfl, hx7⟩
  replace m0 := Ext.cell hx7 m0
  replace m1 := Ext.cell hx7 m1
  replace m2 := Ext.cell hx7 m2
  replace q0 := Ext.cell hx7 q0
  replace q1 := Ext.cell hx7 q1
  replace q2 := Ext.cell hx7 q2
  replace r0 := Ext.cell hx7 r0
  replace r1 := Ext.cell hx7 r1
  replace r2 := Ext.cell hx7 r2
  replace r3 := Ext.cell hx7 r3
  have f7 := g6.trans hx7
  have hy7 : Ext v7 (v7.alloc (.cells #[.int .i64 0, .int .i64 1, .int .i64 lv, .string ⟨#[]⟩, .string ⟨#[]⟩] 67)) := (Ext.refl _).alloc _
  have r4 : (v7.alloc (.cells #[.int .i64 0, .int .i64 1, .int .i64 lv, .string ⟨#[]⟩, .string ⟨#[]⟩] 67)).cell? ⟨v7.heap.size, 1, none⟩ = some (.int .i64 1) := by simp
  have r5 : (v7.alloc (.cells #[.int .i64 0, .int .i64 1, .int .i64 lv, .string ⟨#[]⟩, .string ⟨#[]⟩] 67)).cell? ⟨v7.heap.size, 2, none⟩ = some (.int .i64 lv) := by simp
  replace m0 := Ext.cell hy7 m0
  replace m1 := Ext.cell hy7 m1
  replace m2 := Ext.cell hy7 m2
  replace q0 := Ext.cell hy7 q0
  replace q1 := Ext.cell hy7 q1
  replace q2 := Ext.cell hy7 q2
  replace r0 := Ext.cell hy7 r0
  replace r1 := Ext.cell hy7 r1
  replace r2 := Ext.cell hy7 r2
  replace r3 := Ext.cell hy7 r3
  have g7 := f7.trans hy7
  have HVm : Hid (basicR x ⟨#[62, 61]⟩ [y] = ⟨0, ⟨1, kv, ⟨#[]⟩⟩, ⟨#[]⟩⟩) := Lib.hid ((HB.out _ (by simp [int2L]) (args_op (hasB_tt (by simp [opsL])))).trans (by rw [← HK0.out]; simp [int2V, doneR, boolV]))
  go_wp2_with fail
  have hw := world3_ext hM g7
  have ra := Rep.ext (hx7.trans hy7) (Rep.ext (hx6.trans hy6) (Rep.ext (hx5.trans hy5) (RA.out)))
  have hcc := basic_call x _ ⟨#[62, 61]⟩ [y] _ _ _ _ _ _ _ (RX _) ra hxs (by decide) hys hw HVm.out
  refine hcc.mono ?_
  clear hcc ra hw
  rintro e v8 ⟨rfl, hx8⟩
  replace m0 := Ext.cell hx8 m0
  replace m1 := Ext.cell hx8 m1
  replace m2 := Ext.cell hx8 m2
  replace q0 := Ext.cell hx8 q0
  replace q1 := Ext.cell hx8 q1
  replace q2 := Ext.cell hx8 q2
  replace r0 := Ext.cell hx8 r0
  replace r1 := Ext.cell hx8 r1
  replace r2 := Ext.cell hx8 r2
  replace r3 := Ext.cell hx8 r3
  replace r4 := Ext.cell hx8 r4
  replace r5 := Ext.cell hx8 r5
  have f8 := g7.trans hx8
  have hy8 : Ext v8 (v8.alloc (.cells #[.int .i64 0, .int .i64 1, .int .i64 kv, .string ⟨#[]⟩, .string ⟨#[]⟩] 67)) := (Ext.refl _).alloc _
  have r6 : (v8.alloc (.cells #[.int .i64 0, .int .i64 1, .int .i64 kv, .string ⟨#[]⟩, .string ⟨#[]⟩] 67)).cell? ⟨v8.heap.size, 2, none⟩ = some (.int .i64 kv) := by simp
  replace m0 := Ext.cell hy8 m0
  replace m1 := Ext.cell hy8 m1
  replace m2 := Ext.cell hy8 m2
  replace q0 := Ext.cell hy8 q0
  replace q1 := Ext.cell hy8 q1
  replace q2 := Ext.cell hy8 q2
  replace r0 := Ext.cell hy8 r0
  replace r1 := Ext.cell hy8 r1
  replace r2 := Ext.cell hy8 r2
  replace r3 := Ext.cell hy8 r3
  replace r4 := Ext.cell hy8 r4
  replace r5 := Ext.cell hy8 r5
  have g8 := f8.trans hy8
  have HVt : Hid (basicR x ⟨#[109, 97, 120, 58]⟩ [y] = ⟨0, ⟨2, mx, ⟨#[]⟩⟩, ⟨#[]⟩⟩) := Lib.hid ((HB.out _ (by simp [int2L]) args_max).trans (by rw [← HMX.out]; simp [int2V, doneR, intV]))
  go_wp2_with fail
  have hw := world3_ext hM g8
  have ra := Rep.ext (hx8.trans hy8) (Rep.ext (hx7.trans hy7) (Rep.ext (hx6.trans hy6) (Rep.ext (hx5.trans hy5) (RA.out))))
  have hcc := basic_call x _ ⟨#[109, 97, 120, 58]⟩ [y] _ _ _ _ _ _ _ (RX _) ra hxs (by decide) hys hw HVt.out
  refine hcc.mono ?_
  clear hcc ra hw
  rintro e v9 ⟨rfl, hx9⟩
  replace m0 := Ext.cell hx9 m0
  replace m1 := Ext.cell hx9 m1
  replace m2 := Ext.cell hx9 m2
  replace q0 := Ext.cell hx9 q0
  replace q1 := Ext.cell hx9 q1
  replace q2 := Ext.cell hx9 q2
  replace r0 := Ext.cell hx9 r0
  replace r1 := Ext.cell hx9 r1
  replace r2 := Ext.cell hx9 r2
  replace r3 := Ext.cell hx9 r3
  replace r4 := Ext.cell hx9 r4
  replace r5 := Ext.cell hx9 r5
  replace r6 := Ext.cell hx9 r6
  have f9 := g8.trans hx9
  have hy9 : Ext v9 (v9.alloc (.cells #[.int .i64 0, .int .i64 2, .int .i64 mx, .string ⟨#[]⟩, .string ⟨#[]⟩] 67)) := (Ext.refl _).alloc _
  have r7 : (v9.alloc (.cells #[.int .i64 0, .int .i64 2, .int .i64 mx, .string ⟨#[]⟩, .string ⟨#[]⟩] 67)).cell? ⟨v9.heap.size, 2, none⟩ = some (.int .i64 mx) := by simp
  replace m0 := Ext.cell hy9 m0
  replace m1 := Ext.cell hy9 m1
  replace m2 := Ext.cell hy9 m2
  replace q0 := Ext.cell hy9 q0
  replace q1 := Ext.cell hy9 q1
  replace q2 := Ext.cell hy9 q2
  replace r0 := Ext.cell hy9 r0
  replace r1 := Ext.cell hy9 r1
  replace r2 := Ext.cell hy9 r2
  replace r3 := Ext.cell hy9 r3
  replace r4 := Ext.cell hy9 r4
  replace r5 := Ext.cell hy9 r5
  replace r6 := Ext.cell hy9 r6
  have g9 := f9.trans hy9
  have HVu : Hid (basicR x ⟨#[109, 105, 110, 58]⟩ [y] = ⟨0, ⟨2, mn, ⟨#[]⟩⟩, ⟨#[]⟩⟩) := Lib.hid ((HB.out _ (by simp [int2L]) args_min).trans (by rw [← HMN.out]; simp [int2V, doneR, intV]))
  go_wp2_with fail
  have hw := world3_ext hM g9
  have ra := Rep.ext (hx9.trans hy9) (Rep.ext (hx8.trans hy8) (Rep.ext (hx7.trans hy7) (Rep.ext (hx6.trans hy6) (Rep.ext (hx5.trans hy5) (RA.out)))))
  have hcc := basic_call x _ ⟨#[109, 105, 110, 58]⟩ [y] _ _ _ _ _ _ _ (RX _) ra hxs (by decide) hys hw HVu.out
  refine hcc.mono ?_
  clear hcc ra hw
  rintro e v10 ⟨rfl, hx10⟩
  replace m0 := Ext.cell hx10 m0
  replace m1 := Ext.cell hx10 m1
  replace m2 := Ext.cell hx10 m2
  replace q0 := Ext.cell hx10 q0
  replace q1 := Ext.cell hx10 q1
  replace q2 := Ext.cell hx10 q2
  replace r0 := Ext.cell hx10 r0
  replace r1 := Ext.cell hx10 r1
  replace r2 := Ext.cell hx10 r2
  replace r3 := Ext.cell hx10 r3
  replace r4 := Ext.cell hx10 r4
  replace r5 := Ext.cell hx10 r5
  replace r6 := Ext.cell hx10 r6
  replace r7 := Ext.cell hx10 r7
  have f10 := g9.trans hx10
  have hy10 : Ext v10 (v10.alloc (.cells #[.int .i64 0, .int .i64 2, .int .i64 mn, .string ⟨#[]⟩, .string ⟨#[]⟩] 67)) := (Ext.refl _).alloc _
  have r8 : (v10.alloc (.cells #[.int .i64 0, .int .i64 2, .int .i64 mn, .string ⟨#[]⟩, .string ⟨#[]⟩] 67)).cell? ⟨v10.heap.size, 2, none⟩ = some (.int .i64 mn) := by simp
  replace m0 := Ext.cell hy10 m0
  replace m1 := Ext.cell hy10 m1
  replace m2 := Ext.cell hy10 m2
  replace q0 := Ext.cell hy10 q0
  replace q1 := Ext.cell hy10 q1
  replace q2 := Ext.cell hy10 q2
  replace r0 := Ext.cell hy10 r0
  replace r1 := Ext.cell hy10 r1
  replace r2 := Ext.cell hy10 r2
  replace r3 := Ext.cell hy10 r3
  replace r4 := Ext.cell hy10 r4
  replace r5 := Ext.cell hy10 r5
  replace r6 := Ext.cell hy10 r6
  replace r7 := Ext.cell hy10 r7
  have g10 := f10.trans hy10
  obtain ⟨mb0, mb1⟩ := mul_bd hq0 hq1 b0 b1
  obtain ⟨mr0, mr1⟩ := mul_bd hr0 hr1 hr0 hr1
  obtain ⟨ms0, ms1⟩ := mul_bd b0 b1 b0 b1
  have u1 : (q * y.number + r != x.number) = false := int_eqn hqr
  have hmxn : mx + mn = x.number + y.number ∧ mn ≤ mx ∧ -999999999 ≤ mn ∧ mx ≤ 999999999 := by have := HMX.out; have := HMN.out; omega
  obtain ⟨hm1, hm2, hm3, hm4⟩ := hmxn
  have u2 : (mx + mn == x.number + y.number) = true := int_eq hm1
  have hlk : lv + kv = 1 ∧ (0 ≤ lv ∧ lv ≤ 1) ∧ 0 ≤ kv ∧ kv ≤ 1 := by
    rw [← HL.out, ← HK0.out]
    by_cases h : x.number < y.number
    · rw [decide_eq_true h, decide_eq_false (by omega)]; decide
    · rw [decide_eq_false h, decide_eq_true (by omega)]; decide
  obtain ⟨hlk1, ⟨hlk2, hlk4⟩, hlk3, hlk5⟩ := hlk
  have u3 : (lv + kv == 1) = true := int_eq hlk1
  have u4 : ((lv == 1) == decide (x.number < y.number)) = true := by
    rw [← HL.out]
    by_cases h : x.number < y.number
    · rw [decide_eq_true h]; rfl
    · rw [decide_eq_false h]; rfl
  have HSG := Lib.hid hsg
  clear hsg hqr hm1 hlk1
  obtain ⟨c, hc0⟩ : ∃ c, (r != 0) = c := ⟨_, rfl⟩
  cases c
  · go_wp2_with fail
    go_ret
    exact ⟨rfl, g10⟩
  · have hs2 : r < 0 ↔ y.number < 0 := HSG.out (by simpa using hc0)
    have dd : (!decide (r < 0) == decide (y.number < 0)) = false := by
      have h2 : decide (r < 0) = decide (y.number < 0) := decide_eq_decide.2 hs2
      rw [h2]; simp
    clear hs2
    go_wp2_with fail
    go_ret
    exact ⟨rfl, g10⟩
  


theorem bytes_of_trod {H : Type} {enc : TypeId × Value → H} {W : World} {fuel : Nat} {ao : Option Addr} {n cap : Nat} {d : DataW H × List MemPlace} (h : DataW.trod enc Tryz.prog W 0 (fun _ => true) true fuel 74 [.slice ao n cap] = some d) : Bytes W (.slice ao n cap) := by
  rcases open_ints Tryz.underlying74 Tryz.underlying5 (show Tryz.prog.cellsOf 5 = 1 by kernel_rfl) h with ⟨hcs, -⟩ | ⟨a, len, cap', zs, hcs, -, hl, hm, hz, -, hcell, hwz⟩
  · simp only [List.cons.injEq, Value.slice.injEq, and_true] at hcs
    obtain ⟨rfl, rfl, rfl⟩ := hcs
    exact ⟨_, _, _, rfl, by omega, Or.inl rfl⟩
  · simp only [List.cons.injEq, Value.slice.injEq, and_true] at hcs
    obtain ⟨rfl, rfl, rfl⟩ := hcs
    have hz : zs.length = cap := hz
    refine ⟨_, _, _, rfl, by unfold maxLen at hm; omega, Or.inr ⟨a, rfl, fun k hk => ⟨zs.getD k 0, hcell k (by omega), ?_⟩⟩⟩
    have hw := hwz (zs.getD k 0) (by
      rw [List.getD_eq_getElem?_getD, List.getElem?_eq_getElem (by omega : k < zs.length)]
      exact List.getElem_mem _)
    generalize zs.getD k 0 = z at hw ⊢
    simp [Lit.wf, IntKind.min, IntKind.max, IntKind.signed, IntKind.bits] at hw
    have := hw.1; have := hw.2
    omega

set_option maxRecDepth 100000 in
theorem fnDivision_lifted (os : Os) (started : os.Started) (H : Type) (enc : TypeId × Value → H) :
    ReturnsInHanded {} Tryz.checked os 7 .any (fun w args => (Rows.fnDivisionSpec.pre enc Tryz.prog Tryz.f7 Rows.fnDivisionRow.domain false w args ∧ laidMetH Tryz.prog Rows.fnDivisionRow.laid w) ∧ sizedMet enc Tryz.prog Tryz.f7 (OpenSpec.ofChange Rows.fnDivisionSpec) false w args) (Rows.fnDivisionSpec.post enc Tryz.prog Tryz.f7 false true false false) := by
  refine returns_laid (C := Tryz.checked) (X := fun w _ => laidMetH Tryz.prog Rows.fnDivisionRow.laid w) (fun _ _ _ hh h => h.of_heap hh) Tryz.own started (by kernel_rfl) Tryz.func7
    (ChangeSpec.witness_shaped (enc := enc) (C := Tryz.checked) (os := os) (X := fun w _ => laidMetH Tryz.prog Rows.fnDivisionRow.laid w) false (World.laidAll Tryz.prog os Rows.fnDivisionRow.laid) #[.slice none 0 0] 8 (World.laidAll_os _ _ _)
      (World.shaped_of_ZipB (by kernel_rfl) (by kernel_rfl)) (by kernel_rfl) (by kernel_rfl) (by kernel_rfl)
      (by rw [MakeChecks.laidMetH_plain _ _ _ (by kernel_rfl)]; exact laidMet_laidAll _ (by kernel_rfl) (by kernel_rfl))) ?_
  intro W base args ds gs before hval0 hW hL hsh
  have hM := And.intro (max_ok hsh) (And.intro (door_tab hL (by kernel_rfl) (i := 2) (by kernel_rfl)) (err_laid hL (by kernel_rfl) (i := 5) (j := 4) rfl rfl))
  have hval : ∀ (j : Nat) t v, Tryz.f7.params[j]? = some t → args[j]? = some v → Value.okWide Tryz.prog W .any base t v := hval0
  have hW' := hW
  obtain ⟨p, q, hA0, hV, rfl, hfz, hnd⟩ := hW
  have hA : DataW.TrodAll enc Tryz.prog W 0 (fun _ => true) true Tryz.f7.params.toList args.toList ds p := hA0
  rw [Tryz.params7] at hA hval
  obtain ⟨v0, d0, rfl, rfl, h0⟩ := trodAll_one hA
  obtain ⟨rfl, rfl⟩ := trodVars_none hV
  obtain ⟨ao0, ln0, cp0, rfl⟩ := okWide_slice Tryz.underlying74 (hval 0 74 v0 rfl rfl)
  obtain ⟨fu0, hh0⟩ := h0
  have hh0 : DataW.trod enc Tryz.prog W 0 (fun _ => true) true fu0 74 [.slice ao0 ln0 cp0] = some _ := hh0
  exact (fnDivision_calls _ W (bytes_of_trod hh0)  hM).mono fun e W' ⟨he, hb⟩ => ⟨_, he, law_post Tryz.laidOut rfl (by kernel_rfl) rfl Tryz.underlying4 hW' rfl hb⟩

theorem fnDivision_holds : Rows.FnDivisionSaid :=
  OpenClaim.holds_of_wide 7 Tryz.f7 rfl rfl rfl rfl rfl rfl rfl ⟨rfl, rfl, rfl, rfl, rfl⟩ rfl rfl rfl rfl rfl (by kernel_rfl) Tryz.func7 (by kernel_rfl)
    (of_decide_eq_true (by kernel_rfl)) (by unfold Func.isWrapper; rw [if_neg (of_decide_eq_false (by kernel_rfl))]; exact ⟨rfl, rfl⟩)
    (fun os started H enc _ => fnDivision_lifted os started H enc)


theorem fnDivision_card : Rows.FnDivisionCardSaid :=
  Claim7.holds_tied_plain_at .later [] [.data, .data, .data, .data, .sentinel, .sentinel, .pinned] true (true, "4fe672769d03236616fc2e43eabe258e586e81d23afcb2befbce4406f2125c6a") true fnDivision_holds (fun _ h => by cases h) (by kernel_rfl) (fun _ h => by cases h) fnDivision_row_tie rfl ⟨rfl, rfl⟩ (by kernel_rfl) rfl
    (fun f fn hf hfn => by
      obtain rfl : f = 7 := Option.some.inj ((show Tryz.prog.funcNamed "loop.example/g03108/laws.FnDivision" = some 7 by kernel_rfl).symm.trans hf) |>.symm
      obtain rfl : fn = Tryz.f7 := (Option.some.inj (Tryz.func7.symm.trans hfn)).symm
      exact ⟨by kernel_rfl, fun j t ht => by
        rw [Tryz.params7] at ht
        have hm : t ∈ [74] := by
          have h := Array.mem_of_getElem? ht
          simpa using h
        have hall : ([74].all fun u => !Tryz.prog.wantsStandIn u) = true := by kernel_rfl
        exact (show Tryz.prog.wantsStandIn t = false by simpa using List.all_eq_true.1 hall t hm)⟩)
    (by kernel_rfl)

#print axioms fnDivision_card


end Go.Proofs.YtnicpdflpmpajaaGreatDoor
