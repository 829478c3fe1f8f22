/-
  FnTexts: joined texts have the bytes of both, and symbols give their texts back, for every code.
  Conditions: none.
-/
import Derived.Test.YtdngmifgglbbpaaGreatDoorDoorLaw
import Derived.Test.YtdngmifgglbbpaaGreatDoorErrLaw
import Derived.Test.YtdngmifgglbbpaaGreatDoorArgTypes
import Derived.Test.YtdngmifgglbbpaaGreatDoorFnTextP
import Derived.ChangeSlices
import Derived.BigQuiet
namespace Go.Proofs.YtdngmifgglbbpaaGreatDoor
open Go.ChangeShapes Go.WideShapes Go.ChangeAt Go.RowKit Go.Joins
open Go.ChangeMaps (open_string)
set_option linter.unusedSimpArgs false
set_option linter.unusedVariables false


set_option maxHeartbeats 1000000 in
theorem big_any (ao : Option Addr) (n cap : Nat) (w : World) (hn : n ≤ 9223372036854775807) : Calls Tryz.prog 23 #[.slice ao n cap] w fun e w' => e = .returned (.bool (decide (1048576 < n))) ∧ w' = w := by
  go_enter Tryz.func23, Tryz.ntmps23
  by_cases h : 1048576 < n
  · have h' : (1048576 : Int) < n := by omega
    go_wp2_with fail
    go_ret
    exact ⟨ret_bool (by simp [h]), rfl⟩
  · have h' : (n : Int) ≤ 1048576 := by omega
    go_wp2_with fail
    go_ret
    exact ⟨ret_bool (by rw [decide_eq_false h]; exact decide_eq_false (by omega)), rfl⟩
theorem basic_call (x : MValue) (cx : List Value) (s : ByteArray) (l : List MValue) (va : Value) (c k n : Int) (t u : ByteArray) (w : World) (rx : Rep w x.d cx) (ra : Rep w (MValues l) [va]) (hx : x.text.size ≤ 1048576) (hs : s.size ≤ 1048576) (hz : ∀ a, a ∈ l → a.text.size ≤ 1048576) (hM : MaxOk w ∧ TabOk w ∧ ErrOk w) (hr : basicR x s l = ⟨c, ⟨k, n, t⟩, u⟩) :
    Calls Tryz.prog 26 #[.agg cx.toArray, .string s, va] w fun e w' => e = .returned (.agg #[.int .i64 c, .int .i64 k, .int .i64 n, .string t, .string u]) ∧ Ext w w' := by
  have h := impl_BasicMessage_any x cx s l va w rx ra hx hs hz hM.1 hM.2.1 hM.2.2
  rw [hr] at h
  exact h
theorem val_row_at {W : World} {b : Nat} {y : MValue} (hb : W.heap.size = b) : Rep (W.alloc (.cells #[.int .i64 y.kind, .int .i64 y.number, .string y.text] 60)) (MValues [y]) [.slice (some ⟨b, 0, none⟩) 1 1] := by
  subst hb; exact val_row W y
theorem world3_ext {w w' : World} (h : MaxOk w ∧ TabOk w ∧ ErrOk w) (hx : Ext w w') : MaxOk w' ∧ TabOk w' ∧ ErrOk w' := ⟨h.1.ext hx, h.2.1.ext hx, h.2.2.ext hx⟩


set_option maxRecDepth 100000 in
set_option maxHeartbeats 4000000 in
theorem fnTexts_calls (v : Value) (w : World) (hc : Bytes w v) (hM : MaxOk w ∧ TabOk w ∧ ErrOk w) : Calls Tryz.prog 6 #[v] w fun e w' => e = .returned (.bool true) ∧ Ext w w' := by
  have hc' := hc
  obtain ⟨ao, n, cap, rfl, hn, -⟩ := hc'
  go_enter Tryz.func6, Tryz.ntmps6
  go_wp2_with fail
  refine (big_any ao n cap _ hn).mono ?_
  cases hb : decide (1048576 < n)
  rotate_left
  · rintro e w' ⟨rfl, rfl⟩
    go_wp2_with fail
    go_ret
    exact ⟨rfl, Ext.refl _⟩
  rintro e w' ⟨rfl, hw⟩
  subst hw
  clear hb
  go_wp2_with fail
  refine (DrawBasicMessage_any _ _ hc).mono ?_
  rintro e w1 ⟨⟨x, s1, va1, rfl, hdx⟩, hx1⟩
  have HDX := Lib.hid hdx; clear hdx
  have e1 := hx1.alloc (.cells #[.int .i64 x.kind, .int .i64 x.number, .string x.text] 60)
  go_wp2_with fail
  refine (tail_any _ _ (hc.ext e1)).mono ?_
  rintro e wt ⟨⟨v2, rfl, hc2⟩, hwt⟩
  subst hwt
  go_wp2_with fail
  refine (DrawBasicMessage_any _ _ hc2).mono ?_
  rintro e w2 ⟨⟨y, s2, va2, rfl, hdy⟩, hx2⟩
  have HDY := Lib.hid hdy; clear hdy
  have m0 : w2.cell? ⟨w1.heap.size, 0, none⟩ = some (.int .i64 x.kind) := hx2.cell (by simp)
  have m1 : w2.cell? ⟨w1.heap.size, 1, none⟩ = some (.int .i64 x.number) := hx2.cell (by simp)
  have m2 : w2.cell? ⟨w1.heap.size, 2, none⟩ = some (.string x.text) := hx2.cell (by simp)
  have z1 := lt_of_cell m0
  have e2 := (e1.trans hx2).alloc (.cells #[.int .i64 y.kind, .int .i64 y.number, .string y.text] 60)
  clear hc2 hc hx2 hx1 e1
  have RX : ∀ W, Rep W x.d [.int .i64 x.kind, .int .i64 x.number, .string x.text] := fun W => ⟨_, MValue.shut⟩
  have hxs : x.text.size ≤ 1048576 := by have := HDX.out.2.2; omega
  have hys : ∀ a, a ∈ [y] → a.text.size ≤ 1048576 := fun a ha => by rw [List.mem_singleton.1 ha]; have := HDY.out.2.2; omega
  by_cases hk : x.kind = 3
  rotate_left
  · have t1 := int_nen hk
    have hcode := basic_comma (x := x) (y := y) (by rintro ⟨h1, h2⟩; exact hk h1)
    obtain ⟨⟨c, ⟨k, m, t⟩, u⟩, hr⟩ : ∃ r, basicR x ⟨#[44]⟩ [y] = r := ⟨_, rfl⟩
    rw [hr] at hcode
    have tc : (c != 0) = true := int_nen hcode
    have hfd : ∀ w : World, (Instr.field 71 (.agg #[.int .i64 c, .int .i64 k, .int .i64 m, .string t, .string u]) 0).run Tryz.prog w = .ok (.int .i64 c) w := fun _ => by kernel_rfl
    clear hcode
    go_wp2_with fail
    have hw := world3_ext hM (e2.alloc (.cells #[.int .i64 y.kind, .int .i64 y.number, .string y.text] 60))
    have ra : Rep ((w2.alloc (.cells #[.int .i64 y.kind, .int .i64 y.number, .string y.text] 60)).alloc (.cells #[.int .i64 y.kind, .int .i64 y.number, .string y.text] 60)) (MValues [y]) [.slice (some ⟨w2.heap.size + 1, 0, none⟩) 1 1] := val_row_at (by simp)
    have hc3 := basic_call x _ ⟨#[44]⟩ [y] _ c k m t u _ (RX _) ra hxs (by decide) hys hw hr
    refine hc3.mono ?_
    rintro e w3 ⟨rfl, hx3⟩
    go_wp2_with fail
    go_ret
    exact ⟨rfl, (e2.alloc _).trans hx3⟩
  have t1 := int_eqn hk
  have HK := Lib.hid hk; clear hk
  by_cases hk2 : y.kind = 3
  rotate_left
  · have t2 := int_nen hk2
    have hcode := basic_comma (x := x) (y := y) (by rintro ⟨h1, h2⟩; exact hk2 h2)
    obtain ⟨⟨c, ⟨k, m, t⟩, u⟩, hr⟩ : ∃ r, basicR x ⟨#[44]⟩ [y] = r := ⟨_, rfl⟩
    rw [hr] at hcode
    have tc : (c != 0) = true := int_nen hcode
    have hfd : ∀ w : World, (Instr.field 71 (.agg #[.int .i64 c, .int .i64 k, .int .i64 m, .string t, .string u]) 0).run Tryz.prog w = .ok (.int .i64 c) w := fun _ => by kernel_rfl
    clear hcode
    go_wp2_with fail
    have hw := world3_ext hM (e2.alloc (.cells #[.int .i64 y.kind, .int .i64 y.number, .string y.text] 60))
    have ra : Rep ((w2.alloc (.cells #[.int .i64 y.kind, .int .i64 y.number, .string y.text] 60)).alloc (.cells #[.int .i64 y.kind, .int .i64 y.number, .string y.text] 60)) (MValues [y]) [.slice (some ⟨w2.heap.size + 1, 0, none⟩) 1 1] := val_row_at (by simp)
    have hc3 := basic_call x _ ⟨#[44]⟩ [y] _ c k m t u _ (RX _) ra hxs (by decide) hys hw hr
    refine hc3.mono ?_
    rintro e w3 ⟨rfl, hx3⟩
    go_wp2_with fail
    go_ret
    exact ⟨rfl, (e2.alloc _).trans hx3⟩
  have t2 := int_eqn hk2
  have HK2 := Lib.hid hk2; clear hk2
  obtain ⟨hxe, hxt⟩ := HDX.out.2.1 HK.out
  obtain ⟨hye, hyt⟩ := HDY.out.2.1 HK2.out
  have hxz : x.text.size ≤ 10 := HDX.out.2.2
  have hyz : y.text.size ≤ 10 := HDY.out.2.2
  obtain ⟨t, ht⟩ : ∃ t, x.text ++ y.text = t := ⟨_, rfl⟩
  have HT := Lib.hid ht
  have htt : textB 200 t = true := by rw [← ht]; exact text_app hxt hyt (by omega)
  have htz : t.size ≤ 20 := by rw [← ht, ByteArray.size_append]; omega
  have HV1 : Hid (basicR x ⟨#[44]⟩ [y] = ⟨0, ⟨3, 0, t⟩, ⟨#[]⟩⟩) := Lib.hid (by rw [← ht, hxe, hye]; exact bt_comma hxt hyt (by omega))
  have HTT := Lib.hid htt
  clear ht htt hxe hye hxt hyt HK HK2 HDX HDY
  go_upto_region 7 with fail
  have q0 : (w2.alloc (.cells #[.int .i64 y.kind, .int .i64 y.number, .string y.text] 60)).cell? ⟨w2.heap.size, 0, none⟩ = some (.int .i64 y.kind) := by simp
  have q1 : (w2.alloc (.cells #[.int .i64 y.kind, .int .i64 y.number, .string y.text] 60)).cell? ⟨w2.heap.size, 1, none⟩ = some (.int .i64 y.number) := by simp
  have q2 : (w2.alloc (.cells #[.int .i64 y.kind, .int .i64 y.number, .string y.text] 60)).cell? ⟨w2.heap.size, 2, none⟩ = some (.string y.text) := by simp
  replace m0 := Ext.cell ((Ext.refl w2).alloc (.cells #[.int .i64 y.kind, .int .i64 y.number, .string y.text] 60)) m0
  replace m1 := Ext.cell ((Ext.refl w2).alloc (.cells #[.int .i64 y.kind, .int .i64 y.number, .string y.text] 60)) m1
  replace m2 := Ext.cell ((Ext.refl w2).alloc (.cells #[.int .i64 y.kind, .int .i64 y.number, .string y.text] 60)) m2
  generalize hS : (w2.alloc (.cells #[.int .i64 y.kind, .int .i64 y.number, .string y.text] 60)) = w3 at *
  have z2 : w2.heap.size < w3.heap.size := lt_of_cell q0
  clear hS z1
  have z1 : w1.heap.size < w3.heap.size := lt_of_cell m0
  have RA : Hid (Rep (w3.alloc (.cells #[.int .i64 y.kind, .int .i64 y.number, .string y.text] 60)) (MValues [y]) [.slice (some ⟨w3.heap.size, 0, none⟩) 1 1]) := Lib.hid (val_row_at rfl)
  have hx4 : Ext w3 (w3.alloc (.cells #[.int .i64 y.kind, .int .i64 y.number, .string y.text] 60)) := (Ext.refl w3).alloc _
  have e4 := e2.trans hx4
  have HX4 := Lib.hid hx4
  clear hx4 e2
  go_wp2_with fail
  replace m0 := Ext.cell HX4.out m0
  replace m1 := Ext.cell HX4.out m1
  replace m2 := Ext.cell HX4.out m2
  replace q0 := Ext.cell HX4.out q0
  replace q1 := Ext.cell HX4.out q1
  replace q2 := Ext.cell HX4.out q2
  have hw := world3_ext hM e4
  have ra := RA.out
  have hcc := basic_call x _ ⟨#[44]⟩ [y] _ _ _ _ _ _ _ (RX _) ra hxs (by decide) hys hw HV1.out
  refine hcc.mono ?_
  clear hcc ra hw RA
  rintro e v5 ⟨rfl, hx5⟩
  replace m0 := Ext.cell hx5 m0
  replace m1 := Ext.cell hx5 m1
  replace m2 := Ext.cell hx5 m2
  replace q0 := Ext.cell hx5 q0
  replace q1 := Ext.cell hx5 q1
  replace q2 := Ext.cell hx5 q2
  have f5 := e4.trans hx5
  have r0 : (v5.alloc (.cells #[.int .i64 0, .int .i64 3, .int .i64 0, .string t, .string ⟨#[]⟩] 71)).cell? ⟨v5.heap.size, 0, none⟩ = some (.int .i64 0) := by simp
  have r1 : (v5.alloc (.cells #[.int .i64 0, .int .i64 3, .int .i64 0, .string t, .string ⟨#[]⟩] 71)).cell? ⟨v5.heap.size, 1, none⟩ = some (.int .i64 3) := by simp
  have r2 : (v5.alloc (.cells #[.int .i64 0, .int .i64 3, .int .i64 0, .string t, .string ⟨#[]⟩] 71)).cell? ⟨v5.heap.size, 2, none⟩ = some (.int .i64 0) := by simp
  have r3 : (v5.alloc (.cells #[.int .i64 0, .int .i64 3, .int .i64 0, .string t, .string ⟨#[]⟩] 71)).cell? ⟨v5.heap.size, 3, none⟩ = some (.string t) := by simp
  have hy5 : Ext v5 (v5.alloc (.cells #[.int .i64 0, .int .i64 3, .int .i64 0, .string t, .string ⟨#[]⟩] 71)) := (Ext.refl _).alloc _
  replace m0 := Ext.cell hy5 m0
  replace m1 := Ext.cell hy5 m1
  replace m2 := Ext.cell hy5 m2
  replace q0 := Ext.cell hy5 q0
  replace q1 := Ext.cell hy5 q1
  replace q2 := Ext.cell hy5 q2
  have g5 := f5.trans hy5
  have RT : ∀ W, Rep W (⟨3, 0, t⟩ : MValue).d [.int .i64 3, .int .i64 0, .string t] := fun W => ⟨_, MValue.shut (x := ⟨3, 0, t⟩)⟩
  have NV : ∀ W, Rep W (MValues []) [.slice none 0 0] := fun W => ⟨[], RepF.sl_iff.2 ⟨_, _, rfl, by simp, by simp, by simp, Or.inl ⟨rfl, rfl⟩⟩⟩
  have hts : (⟨3, 0, t⟩ : MValue).text.size ≤ 1048576 := by show t.size ≤ _; omega
  have hno : ∀ a : MValue, a ∈ [] → a.text.size ≤ 1048576 := fun a ha => by cases ha
  have HV2 := Lib.hid (bt_size HTT.out)
  go_wp2_with fail
  have hw := world3_ext hM g5
  have hcc := basic_call ⟨3, 0, t⟩ _ ⟨#[115, 105, 122, 101]⟩ [] _ _ _ _ _ _ _ (RT _) (NV _) hts (by decide) hno hw HV2.out
  refine hcc.mono ?_
  clear hcc hw
  rintro e v6 ⟨rfl, hx6⟩
  replace m0 := Ext.cell hx6 m0
  replace m1 := Ext.cell hx6 m1
  replace m2 := Ext.cell hx6 m2
  replace q0 := Ext.cell hx6 q0
  replace q1 := Ext.cell hx6 q1
  replace q2 := Ext.cell hx6 q2
  replace r0 := Ext.cell hx6 r0
  replace r1 := Ext.cell hx6 r1
  replace r2 := Ext.cell hx6 r2
  replace r3 := Ext.cell hx6 r3
  have f6 := g5.trans hx6
  have s0 : (v6.alloc (.cells #[.int .i64 0, .int .i64 2, .int .i64 t.size, .string ⟨#[]⟩, .string ⟨#[]⟩] 71)).cell? ⟨v6.heap.size, 0, none⟩ = some (.int .i64 0) := by simp
  have s1 : (v6.alloc (.cells #[.int .i64 0, .int .i64 2, .int .i64 t.size, .string ⟨#[]⟩, .string ⟨#[]⟩] 71)).cell? ⟨v6.heap.size, 1, none⟩ = some (.int .i64 2) := by simp
  have s2 : (v6.alloc (.cells #[.int .i64 0, .int .i64 2, .int .i64 t.size, .string ⟨#[]⟩, .string ⟨#[]⟩] 71)).cell? ⟨v6.heap.size, 2, none⟩ = some (.int .i64 t.size) := by simp
  have s3 : (v6.alloc (.cells #[.int .i64 0, .int .i64 2, .int .i64 t.size, .string ⟨#[]⟩, .string ⟨#[]⟩] 71)).cell? ⟨v6.heap.size, 3, none⟩ = some (.string ⟨#[]⟩) := by simp
  have hy6 : Ext v6 (v6.alloc (.cells #[.int .i64 0, .int .i64 2, .int .i64 t.size, .string ⟨#[]⟩, .string ⟨#[]⟩] 71)) := (Ext.refl _).alloc _
  replace m0 := Ext.cell hy6 m0
  replace m1 := Ext.cell hy6 m1
  replace m2 := Ext.cell hy6 m2
  replace q0 := Ext.cell hy6 q0
  replace q1 := Ext.cell hy6 q1
  replace q2 := Ext.cell hy6 q2
  replace r0 := Ext.cell hy6 r0
  replace r1 := Ext.cell hy6 r1
  replace r2 := Ext.cell hy6 r2
  replace r3 := Ext.cell hy6 r3
  have g6 := f6.trans hy6
  go_upto_region 10 with fail
  rw [HT.out]
  generalize hS : v6.alloc (.cells #[.int .i64 0, .int .i64 2, .int .i64 t.size, .string ⟨#[]⟩, .string ⟨#[]⟩] 71) = u6 at *
  clear hS hx5 hy5 hx6 hy6 f5 g5 f6 e4 HX4 HV1 HV2 z1 z2 m0 m1 m2 q0 q1 q2
  have hlen : ((t.size : Int) != t.size) = false := by simp
  have y1 := lt_of_cell r0
  have y2 := lt_of_cell s0
  go_wp2_with fail
  go_loopw [12] (fun iv wr => ∃ i : Nat, i ≤ t.size ∧ iv = .int .i64 i ∧ Ext u6 wr) (fun iv _ => t.size - (intOf iv).toNat)
  case atStart => exact ⟨0, Nat.zero_le _, rfl, Ext.refl _⟩
  case round =>
    obtain ⟨i, hi, rfl, hx⟩ := hrel
    have HX := Lib.hid hx
    have g7 := g6.trans hx
    replace r0 := Ext.cell hx r0
    replace r1 := Ext.cell hx r1
    replace r2 := Ext.cell hx r2
    replace r3 := Ext.cell hx r3
    have y3 := lt_of_cell r0
    clear hx y1 y2 s0 s1 s2 s3
    by_cases hlt : i < t.size
    rotate_left
    · have hge : (t.size : Int) ≤ i := by omega
      cases hs : selB t
      · have HV4 := Lib.hid (bt_nosym HTT.out hs)
        have HV5 := Lib.hid (bt_noback)
        have HS := Lib.hid hs; clear hs
        have RS : ∀ W, Rep W (⟨0, 0, ⟨#[]⟩⟩ : MValue).d [.int .i64 0, .int .i64 0, .string ⟨#[]⟩] := fun W => ⟨_, MValue.shut (x := ⟨0, 0, ⟨#[]⟩⟩)⟩
        have hss : (⟨0, 0, ⟨#[]⟩⟩ : MValue).text.size ≤ 1048576 := by show (⟨#[]⟩ : ByteArray).size ≤ _; decide
        go_wp2_with fail
        have hw := world3_ext hM g7
        have hcc := basic_call ⟨3, 0, t⟩ _ ⟨#[97, 115, 83, 121, 109, 98, 111, 108]⟩ [] _ _ _ _ _ _ _ (RT _) (NV _) hts (by decide) hno hw HV4.out
        refine hcc.mono ?_
        clear hcc hw
        rintro e v8 ⟨rfl, hx8⟩
        replace r0 := Ext.cell hx8 r0
        replace r1 := Ext.cell hx8 r1
        replace r2 := Ext.cell hx8 r2
        replace r3 := Ext.cell hx8 r3
        have f8 := g7.trans hx8
        have p0 : (v8.alloc (.cells #[.int .i64 2, .int .i64 0, .int .i64 0, .string ⟨#[]⟩, .string ⟨#[110, 111, 116, 32, 97, 32, 115, 101, 108, 101, 99, 116, 111, 114]⟩] 71)).cell? ⟨v8.heap.size, 0, none⟩ = some (.int .i64 2) := by simp
        have p1 : (v8.alloc (.cells #[.int .i64 2, .int .i64 0, .int .i64 0, .string ⟨#[]⟩, .string ⟨#[110, 111, 116, 32, 97, 32, 115, 101, 108, 101, 99, 116, 111, 114]⟩] 71)).cell? ⟨v8.heap.size, 1, none⟩ = some (.int .i64 0) := by simp
        have p2 : (v8.alloc (.cells #[.int .i64 2, .int .i64 0, .int .i64 0, .string ⟨#[]⟩, .string ⟨#[110, 111, 116, 32, 97, 32, 115, 101, 108, 101, 99, 116, 111, 114]⟩] 71)).cell? ⟨v8.heap.size, 2, none⟩ = some (.int .i64 0) := by simp
        have p3 : (v8.alloc (.cells #[.int .i64 2, .int .i64 0, .int .i64 0, .string ⟨#[]⟩, .string ⟨#[110, 111, 116, 32, 97, 32, 115, 101, 108, 101, 99, 116, 111, 114]⟩] 71)).cell? ⟨v8.heap.size, 3, none⟩ = some (.string ⟨#[]⟩) := by simp
        have hy8 : Ext v8 (v8.alloc (.cells #[.int .i64 2, .int .i64 0, .int .i64 0, .string ⟨#[]⟩, .string ⟨#[110, 111, 116, 32, 97, 32, 115, 101, 108, 101, 99, 116, 111, 114]⟩] 71)) := (Ext.refl _).alloc _
        replace r0 := Ext.cell hy8 r0
        replace r1 := Ext.cell hy8 r1
        replace r2 := Ext.cell hy8 r2
        replace r3 := Ext.cell hy8 r3
        have g8 := f8.trans hy8
        go_wp2_with fail
        have hw := world3_ext hM g8
        have hcc := basic_call ⟨0, 0, ⟨#[]⟩⟩ _ ⟨#[97, 115, 83, 116, 114, 105, 110, 103]⟩ [] _ _ _ _ _ _ _ (RS _) (NV _) hss (by decide) hno hw HV5.out
        refine hcc.mono ?_
        clear hcc hw
        rintro e v9 ⟨rfl, hx9⟩
        replace r0 := Ext.cell hx9 r0
        replace r1 := Ext.cell hx9 r1
        replace r2 := Ext.cell hx9 r2
        replace r3 := Ext.cell hx9 r3
        replace p0 := Ext.cell hx9 p0
        replace p1 := Ext.cell hx9 p1
        replace p2 := Ext.cell hx9 p2
        replace p3 := Ext.cell hx9 p3
        have f9 := g8.trans hx9
        have k0 : (v9.alloc (.cells #[.int .i64 1, .int .i64 0, .int .i64 0, .string ⟨#[]⟩, .string ⟨#[]⟩] 71)).cell? ⟨v9.heap.size, 0, none⟩ = some (.int .i64 1) := by simp
        have k1 : (v9.alloc (.cells #[.int .i64 1, .int .i64 0, .int .i64 0, .string ⟨#[]⟩, .string ⟨#[]⟩] 71)).cell? ⟨v9.heap.size, 1, none⟩ = some (.int .i64 0) := by simp
        have k2 : (v9.alloc (.cells #[.int .i64 1, .int .i64 0, .int .i64 0, .string ⟨#[]⟩, .string ⟨#[]⟩] 71)).cell? ⟨v9.heap.size, 2, none⟩ = some (.int .i64 0) := by simp
        have k3 : (v9.alloc (.cells #[.int .i64 1, .int .i64 0, .int .i64 0, .string ⟨#[]⟩, .string ⟨#[]⟩] 71)).cell? ⟨v9.heap.size, 3, none⟩ = some (.string ⟨#[]⟩) := by simp
        have hy9 : Ext v9 (v9.alloc (.cells #[.int .i64 1, .int .i64 0, .int .i64 0, .string ⟨#[]⟩, .string ⟨#[]⟩] 71)) := (Ext.refl _).alloc _
        replace r0 := Ext.cell hy9 r0
        replace r1 := Ext.cell hy9 r1
        replace r2 := Ext.cell hy9 r2
        replace r3 := Ext.cell hy9 r3
        replace p0 := Ext.cell hy9 p0
        replace p1 := Ext.cell hy9 p1
        replace p2 := Ext.cell hy9 p2
        replace p3 := Ext.cell hy9 p3
        have g9 := f9.trans hy9
        go_upto_region 20 with fail
        generalize hS : v9.alloc (.cells #[.int .i64 1, .int .i64 0, .int .i64 0, .string ⟨#[]⟩, .string ⟨#[]⟩] 71) = u9 at *
        clear hS hx8 hy8 hx9 hy9 f8 g8 f9
        have y8 := lt_of_cell p0
        have y9 := lt_of_cell k0
        have y10 := lt_of_cell r0
        have hr1 := reg (Ext.refl _) r1
        have hr2 := reg (Ext.refl _) r2
        have hr3 := reg (Ext.refl _) r3
        have hp0 := reg (Ext.refl _) p0
        have hk1 := reg (Ext.refl _) k1
        have hk2 := reg (Ext.refl _) k2
        have hk3 := reg (Ext.refl _) k3
        have CS : Hid (∀ W, Calls Tryz.prog 27 #[.string t] W fun e w' => e = .returned (.bool false) ∧ Ext W w') := Lib.hid fun W => by have := spec_IsSelector_any t W hts; rw [HS.out] at this; exact this
        refine wp_region_quiet_below (by kernel_rfl) (by kernel_rfl) ?_
        repeat (go_big_quiet_step ((go_at_call 27; exact Calls.regrown_of (CS.out _))))
        refine wpQuiet_nil ?_
        clear hr1 hr2 hr3 hp0 hk1 hk2 hk3
        intro _ hw'
        obtain ⟨pw, hw''⟩ := hw'
        subst hw''
        go_wp2_with fail
        go_ret
        exact ⟨rfl, g9.trans (regx _ _)⟩
      · have HV4 := Lib.hid (bt_sym HTT.out hs)
        have HV5 := Lib.hid (bt_back hs)
        have HS := Lib.hid hs; clear hs
        have RS : ∀ W, Rep W (⟨4, 0, t⟩ : MValue).d [.int .i64 4, .int .i64 0, .string t] := fun W => ⟨_, MValue.shut (x := ⟨4, 0, t⟩)⟩
        have hss : (⟨4, 0, t⟩ : MValue).text.size ≤ 1048576 := by show t.size ≤ _; omega
        go_wp2_with fail
        have hw := world3_ext hM g7
        have hcc := basic_call ⟨3, 0, t⟩ _ ⟨#[97, 115, 83, 121, 109, 98, 111, 108]⟩ [] _ _ _ _ _ _ _ (RT _) (NV _) hts (by decide) hno hw HV4.out
        refine hcc.mono ?_
        clear hcc hw
        rintro e v8 ⟨rfl, hx8⟩
        replace r0 := Ext.cell hx8 r0
        replace r1 := Ext.cell hx8 r1
        replace r2 := Ext.cell hx8 r2
        replace r3 := Ext.cell hx8 r3
        have f8 := g7.trans hx8
        have p0 : (v8.alloc (.cells #[.int .i64 0, .int .i64 4, .int .i64 0, .string t, .string ⟨#[]⟩] 71)).cell? ⟨v8.heap.size, 0, none⟩ = some (.int .i64 0) := by simp
        have p1 : (v8.alloc (.cells #[.int .i64 0, .int .i64 4, .int .i64 0, .string t, .string ⟨#[]⟩] 71)).cell? ⟨v8.heap.size, 1, none⟩ = some (.int .i64 4) := by simp
        have p2 : (v8.alloc (.cells #[.int .i64 0, .int .i64 4, .int .i64 0, .string t, .string ⟨#[]⟩] 71)).cell? ⟨v8.heap.size, 2, none⟩ = some (.int .i64 0) := by simp
        have p3 : (v8.alloc (.cells #[.int .i64 0, .int .i64 4, .int .i64 0, .string t, .string ⟨#[]⟩] 71)).cell? ⟨v8.heap.size, 3, none⟩ = some (.string t) := by simp
        have hy8 : Ext v8 (v8.alloc (.cells #[.int .i64 0, .int .i64 4, .int .i64 0, .string t, .string ⟨#[]⟩] 71)) := (Ext.refl _).alloc _
        replace r0 := Ext.cell hy8 r0
        replace r1 := Ext.cell hy8 r1
        replace r2 := Ext.cell hy8 r2
        replace r3 := Ext.cell hy8 r3
        have g8 := f8.trans hy8
        go_wp2_with fail
        have hw := world3_ext hM g8
        have hcc := basic_call ⟨4, 0, t⟩ _ ⟨#[97, 115, 83, 116, 114, 105, 110, 103]⟩ [] _ _ _ _ _ _ _ (RS _) (NV _) hss (by decide) hno hw HV5.out
        refine hcc.mono ?_
        clear hcc hw
        rintro e v9 ⟨rfl, hx9⟩
        replace r0 := Ext.cell hx9 r0
        replace r1 := Ext.cell hx9 r1
        replace r2 := Ext.cell hx9 r2
        replace r3 := Ext.cell hx9 r3
        replace p0 := Ext.cell hx9 p0
        replace p1 := Ext.cell hx9 p1
        replace p2 := Ext.cell hx9 p2
        replace p3 := Ext.cell hx9 p3
        have f9 := g8.trans hx9
        have k0 : (v9.alloc (.cells #[.int .i64 0, .int .i64 3, .int .i64 0, .string t, .string ⟨#[]⟩] 71)).cell? ⟨v9.heap.size, 0, none⟩ = some (.int .i64 0) := by simp
        have k1 : (v9.alloc (.cells #[.int .i64 0, .int .i64 3, .int .i64 0, .string t, .string ⟨#[]⟩] 71)).cell? ⟨v9.heap.size, 1, none⟩ = some (.int .i64 3) := by simp
        have k2 : (v9.alloc (.cells #[.int .i64 0, .int .i64 3, .int .i64 0, .string t, .string ⟨#[]⟩] 71)).cell? ⟨v9.heap.size, 2, none⟩ = some (.int .i64 0) := by simp
        have k3 : (v9.alloc (.cells #[.int .i64 0, .int .i64 3, .int .i64 0, .string t, .string ⟨#[]⟩] 71)).cell? ⟨v9.heap.size, 3, none⟩ = some (.string t) := by simp
        have hy9 : Ext v9 (v9.alloc (.cells #[.int .i64 0, .int .i64 3, .int .i64 0, .string t, .string ⟨#[]⟩] 71)) := (Ext.refl _).alloc _
        replace r0 := Ext.cell hy9 r0
        replace r1 := Ext.cell hy9 r1
        replace r2 := Ext.cell hy9 r2
        replace r3 := Ext.cell hy9 r3
        replace p0 := Ext.cell hy9 p0
        replace p1 := Ext.cell hy9 p1
        replace p2 := Ext.cell hy9 p2
        replace p3 := Ext.cell hy9 p3
        have g9 := f9.trans hy9
        go_upto_region 20 with fail
        generalize hS : v9.alloc (.cells #[.int .i64 0, .int .i64 3, .int .i64 0, .string t, .string ⟨#[]⟩] 71) = u9 at *
        clear hS hx8 hy8 hx9 hy9 f8 g8 f9
        have y8 := lt_of_cell p0
        have y9 := lt_of_cell k0
        have y10 := lt_of_cell r0
        have hr1 := reg (Ext.refl _) r1
        have hr2 := reg (Ext.refl _) r2
        have hr3 := reg (Ext.refl _) r3
        have hp0 := reg (Ext.refl _) p0
        have hk1 := reg (Ext.refl _) k1
        have hk2 := reg (Ext.refl _) k2
        have hk3 := reg (Ext.refl _) k3
        have CS : Hid (∀ W, Calls Tryz.prog 27 #[.string t] W fun e w' => e = .returned (.bool true) ∧ Ext W w') := Lib.hid fun W => by have := spec_IsSelector_any t W hts; rw [HS.out] at this; exact this
        refine wp_region_quiet_below (by kernel_rfl) (by kernel_rfl) ?_
        repeat (go_big_quiet_step ((go_at_call 27; exact Calls.regrown_of (CS.out _))))
        refine wpQuiet_nil ?_
        clear hr1 hr2 hr3 hp0 hk1 hk2 hk3
        intro _ hw'
        obtain ⟨pw, hw''⟩ := hw'
        subst hw''
        go_wp2_with fail
        go_ret
        exact ⟨rfl, g9.trans (regx _ _)⟩
    have hil : (i : Int) < t.size := by omega
    clear hil
    have hil : (i : Int) < t.size := by omega
    have HV3 := Lib.hid (bt_at HTT.out hlt)
    have RAI : Hid (Rep (wr.alloc (.cells #[.int .i64 2, .int .i64 ((i : Int) + 1), .string ByteArray.empty] 60)) (MValues [⟨2, (i : Int) + 1, ⟨#[]⟩⟩]) [.slice (some ⟨wr.heap.size, 0, none⟩) 1 1]) := Lib.hid (val_row_at (y := ⟨2, (i : Int) + 1, ⟨#[]⟩⟩) rfl)
    have hyi : ∀ a : MValue, a ∈ [⟨2, (i : Int) + 1, ⟨#[]⟩⟩] → a.text.size ≤ 1048576 := fun a ha => by rw [List.mem_singleton.1 ha]; show (⟨#[]⟩ : ByteArray).size ≤ 1048576; decide
    go_wp2_with fail
    have hw := world3_ext hM (g7.alloc (.cells #[.int .i64 2, .int .i64 ((i : Int) + 1), .string ByteArray.empty] 60))
    have hcc := basic_call ⟨3, 0, t⟩ _ ⟨#[97, 116, 58]⟩ [⟨2, (i : Int) + 1, ⟨#[]⟩⟩] _ _ _ _ _ _ _ (RT _) RAI.out hts (by decide) hyi hw HV3.out
    refine hcc.mono ?_
    clear hcc hw
    rintro e v8 ⟨rfl, hx8⟩
    go_upto_region 16 with fail
    have p0 : (v8.alloc (.cells #[.int .i64 0, .int .i64 3, .int .i64 0, .string (t.extract i (i + 1)), .string ⟨#[]⟩] 71)).cell? ⟨v8.heap.size, 0, none⟩ = some (.int .i64 0) := by simp
    have p3 : (v8.alloc (.cells #[.int .i64 0, .int .i64 3, .int .i64 0, .string (t.extract i (i + 1)), .string ⟨#[]⟩] 71)).cell? ⟨v8.heap.size, 3, none⟩ = some (.string (t.extract i (i + 1))) := by simp
    have HX9 : Hid (Ext u6 (v8.alloc (.cells #[.int .i64 0, .int .i64 3, .int .i64 0, .string (t.extract i (i + 1)), .string ⟨#[]⟩] 71))) := Lib.hid (((HX.out.alloc _).trans hx8).alloc _)
    generalize hS : v8.alloc (.cells #[.int .i64 0, .int .i64 3, .int .i64 0, .string (t.extract i (i + 1)), .string ⟨#[]⟩] 71) = u8 at *
    clear hS
    have y4 := lt_of_cell p0
    have ecc := str_eqn (rfl : t.extract i (i + 1) = t.extract i (i + 1))
    have rp0 := reg (Ext.refl _) p0
    have rp3 := reg (Ext.refl _) p3
    refine wp_region_quiet_below (by kernel_rfl) (by kernel_rfl) ?_
    repeat (go_big_quiet_step (fail))
    refine wpQuiet_nil ?_
    clear rp0 rp3
    intro _ hw'
    obtain ⟨pw, hw''⟩ := hw'
    subst hw''
    go_wp2_with fail
    go_roundw
    case rel => exact ⟨i + 1, by omega, by go_num, HX9.out.trans (regx _ _)⟩
    case measure => simp [intOf]; omega

theorem bytes_of_trod {H : Type} {enc : TypeId × Value → H} {W : World} {fuel : Nat} {ao : Option Addr} {n cap : Nat} {d : DataW H × List MemPlace} (h : DataW.trod enc Tryz.prog W 0 (fun _ => true) true fuel 64 [.slice ao n cap] = some d) : Bytes W (.slice ao n cap) := by
  rcases open_ints Tryz.underlying64 Tryz.underlying5 (show Tryz.prog.cellsOf 5 = 1 by kernel_rfl) h with ⟨hcs, -⟩ | ⟨a, len, cap', zs, hcs, -, hl, hm, hz, -, hcell, hwz⟩
  · simp only [List.cons.injEq, Value.slice.injEq, and_true] at hcs
    obtain ⟨rfl, rfl, rfl⟩ := hcs
    exact ⟨_, _, _, rfl, by omega, Or.inl rfl⟩
  · simp only [List.cons.injEq, Value.slice.injEq, and_true] at hcs
    obtain ⟨rfl, rfl, rfl⟩ := hcs
    have hz : zs.length = cap := hz
    refine ⟨_, _, _, rfl, by unfold maxLen at hm; omega, Or.inr ⟨a, rfl, fun k hk => ⟨zs.getD k 0, hcell k (by omega), ?_⟩⟩⟩
    have hw := hwz (zs.getD k 0) (by
      rw [List.getD_eq_getElem?_getD, List.getElem?_eq_getElem (by omega : k < zs.length)]
      exact List.getElem_mem _)
    generalize zs.getD k 0 = z at hw ⊢
    simp [Lit.wf, IntKind.min, IntKind.max, IntKind.signed, IntKind.bits] at hw
    have := hw.1; have := hw.2
    omega

set_option maxRecDepth 100000 in
theorem fnTexts_lifted (os : Os) (started : os.Started) (H : Type) (enc : TypeId × Value → H) :
    ReturnsInHanded {} Tryz.checked os 6 .any (fun w args => (Rows.fnTextsSpec.pre enc Tryz.prog Tryz.f6 Rows.fnTextsRow.domain false w args ∧ laidMetH Tryz.prog Rows.fnTextsRow.laid w) ∧ sizedMet enc Tryz.prog Tryz.f6 (OpenSpec.ofChange Rows.fnTextsSpec) false w args) (Rows.fnTextsSpec.post enc Tryz.prog Tryz.f6 false true false false) := by
  refine returns_laid (C := Tryz.checked) (X := fun w _ => laidMetH Tryz.prog Rows.fnTextsRow.laid w) (fun _ _ _ hh h => h.of_heap hh) Tryz.own started (by kernel_rfl) Tryz.func6
    (ChangeSpec.witness_shaped (enc := enc) (C := Tryz.checked) (os := os) (X := fun w _ => laidMetH Tryz.prog Rows.fnTextsRow.laid w) false (World.laidAll Tryz.prog os Rows.fnTextsRow.laid) #[.slice none 0 0] 8 (World.laidAll_os _ _ _)
      (World.shaped_of_ZipB (by kernel_rfl) (by kernel_rfl)) (by kernel_rfl) (by kernel_rfl) (by kernel_rfl)
      (by rw [MakeChecks.laidMetH_plain _ _ _ (by kernel_rfl)]; exact laidMet_laidAll _ (by kernel_rfl) (by kernel_rfl))) ?_
  intro W base args ds gs before hval0 hW hL hsh
  have hM := And.intro (max_ok hsh) (And.intro (door_tab hL (by kernel_rfl) (i := 2) (by kernel_rfl)) (err_laid hL (by kernel_rfl) (i := 5) (j := 4) rfl rfl))
  have hval : ∀ (j : Nat) t v, Tryz.f6.params[j]? = some t → args[j]? = some v → Value.okWide Tryz.prog W .any base t v := hval0
  have hW' := hW
  obtain ⟨p, q, hA0, hV, rfl, hfz, hnd⟩ := hW
  have hA : DataW.TrodAll enc Tryz.prog W 0 (fun _ => true) true Tryz.f6.params.toList args.toList ds p := hA0
  rw [Tryz.params6] at hA hval
  obtain ⟨v0, d0, rfl, rfl, h0⟩ := trodAll_one hA
  obtain ⟨rfl, rfl⟩ := trodVars_none hV
  obtain ⟨ao0, ln0, cp0, rfl⟩ := okWide_slice Tryz.underlying64 (hval 0 64 v0 rfl rfl)
  obtain ⟨fu0, hh0⟩ := h0
  have hh0 : DataW.trod enc Tryz.prog W 0 (fun _ => true) true fu0 64 [.slice ao0 ln0 cp0] = some _ := hh0
  exact (fnTexts_calls _ W (bytes_of_trod hh0)  hM).mono fun e W' ⟨he, hb⟩ => ⟨_, he, law_post Tryz.laidOut rfl (by kernel_rfl) rfl Tryz.underlying4 hW' rfl hb⟩

theorem fnTexts_holds : Rows.FnTextsSaid :=
  OpenClaim.holds_of_wide 6 Tryz.f6 rfl rfl rfl rfl rfl rfl rfl ⟨rfl, rfl, rfl, rfl, rfl⟩ rfl rfl rfl rfl rfl (by kernel_rfl) Tryz.func6 (by kernel_rfl)
    (of_decide_eq_true (by kernel_rfl)) (by unfold Func.isWrapper; rw [if_neg (of_decide_eq_false (by kernel_rfl))]; exact ⟨rfl, rfl⟩)
    (fun os started H enc _ => fnTexts_lifted os started H enc)


theorem fnTexts_card : Rows.FnTextsCardSaid :=
  Claim7.holds_tied_plain_at .later [] [.data, .data, .data, .data, .sentinel, .sentinel, .pinned] true (true, "4e8ba00cf27972743f4a415ffe2fdd1de1e5ad4018091dc47328bdf7bdb0fd87") true fnTexts_holds (fun _ h => by cases h) (by kernel_rfl) (fun _ h => by cases h) fnTexts_row_tie rfl ⟨rfl, rfl⟩ (by kernel_rfl) rfl
    (fun f fn hf hfn => by
      obtain rfl : f = 6 := Option.some.inj ((show Tryz.prog.funcNamed "loop.example/g03108/laws.FnTexts" = some 6 by kernel_rfl).symm.trans hf) |>.symm
      obtain rfl : fn = Tryz.f6 := (Option.some.inj (Tryz.func6.symm.trans hfn)).symm
      exact ⟨by kernel_rfl, fun j t ht => by
        rw [Tryz.params6] at ht
        have hm : t ∈ [64] := by
          have h := Array.mem_of_getElem? ht
          simpa using h
        have hall : ([64].all fun u => !Tryz.prog.wantsStandIn u) = true := by kernel_rfl
        exact (show Tryz.prog.wantsStandIn t = false by simpa using List.all_eq_true.1 hall t hm)⟩)
    (by kernel_rfl)

#print axioms fnTexts_card


end Go.Proofs.YtdngmifgglbbpaaGreatDoor
