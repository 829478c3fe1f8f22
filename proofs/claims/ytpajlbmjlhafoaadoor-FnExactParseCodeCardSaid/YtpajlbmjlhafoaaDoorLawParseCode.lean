/-
  FnExactParseCode: the program's ParseCode gives what the reference's gives, for all lines.
  Conditions: none.
-/
import Derived.Test.YtpajlbmjlhafoaaDoorErrLaw
import Derived.Test.YtpajlbmjlhafoaaDoorEq
import Derived.Test.YtpajlbmjlhafoaaDoorSz
import Derived.Test.YtpajlbmjlhafoaaDoorTo
import Derived.Test.YtpajlbmjlhafoaaDoorArgTypes
import Derived.Test.YtpajlbmjlhafoaaDoorMark
import Derived.Test.YtpajlbmjlhafoaaDoorAccAt
import Derived.Test.YtpajlbmjlhafoaaDoorFnPCode
namespace Go.Proofs.YtpajlbmjlhafoaaDoor
open Go.ChangeShapes Go.WideShapes Go.ChangeAt Go.RowKit Go.Joins
open Go.ChangeMaps (open_string)
set_option linter.unusedSimpArgs false
set_option linter.unusedVariables false


theorem code_len {L : List ByteArray} {x : MCode} {b : Bool} (h1 : b = true → OkC L x) (h2 : b = false → x = zeroC ∧ ¬ ∃ y, OkC L y) : x.instrs.length ≤ L.length := by
  cases b
  · rw [(h2 rfl).1]; exact Nat.zero_le _
  · obtain ⟨h, t, rfl, -, h3⟩ := h1 rfl
    have := h3.1
    simp only [List.length_cons]; omega
set_option maxHeartbeats 4000000 in
set_option maxRecDepth 100000 in
theorem fnExactParseCode_calls (l : List ByteArray) (va : Value) (w : World) (rl : Rep w (strs l) [va]) (ol : (strs l).ok) (hM : MaxOk w ∧ TabOk w ∧ ErrOk w) : Calls Tryd.prog 4 #[va] w fun e w' => e = .returned (.bool true) ∧ Ext w w' := by
  go_enter Tryd.func4, Tryd.ntmps4
  go_wp2_with fail
  refine (szStringS_any l _ 1048576 _ (by omega) (by omega) rl ol).mono ?_
  rintro e w1 ⟨q1, rfl, hq, hx1⟩
  rcases hq with rfl | ⟨hq1, hqe⟩
  · go_wp2_with fail
    go_ret
    exact ⟨rfl, hx1⟩
  have hl1 : q1 ≤ 1048576 := by omega
  have hb : (strs l).bulk ≤ 1048576 := by omega
  have hln : l.length ≤ 1048576 := by simp only [strs, D.bulk, List.length_map] at hb; omega
  have HB := Lib.hid hb
  clear hqe hb
  go_wp2_with fail
  refine (toStringS_any l _ _ (Rep.ext hx1 rl) HB.out).mono ?_
  rintro e w2 ⟨a2, n2, c2, f2, rfl, hr2, hf2, hx2⟩
  go_wp2_with fail
  refine (spec_ParseCode_any l _ _ hr2.rep HB.out).mono ?_
  rintro e w3 ⟨⟨xb, xp, xs, xi⟩, kb, a3, c3, f3, rfl, hr3, hf3, hy3, hn3, hx3⟩
  have hxl := code_len hy3 hn3
  have HY3 := Lib.hid hy3; have HN3 := Lib.hid hn3
  have e3 := (hx1.trans hx2).trans hx3
  clear hr2 hf2 hy3 hn3
  simp only at hxl ⊢
  go_upto_region 6 with fail
  generalize hS : World.alloc w3 _ = v3
  have y3 : Ext w3 v3 := by rw [← hS]; exact (Ext.refl _).alloc _
  have zv3 : v3.heap.size = w3.heap.size + 1 := by rw [← hS]; simp
  have ZV3 := Lib.hid zv3; clear zv3
  have m0 : v3.cell? ⟨w3.heap.size, 0, none⟩ = some (.bool xb) := by rw [← hS]; simp
  have m1 : v3.cell? ⟨w3.heap.size, 1, none⟩ = some (.int .i64 xp) := by rw [← hS]; simp
  have m2 : v3.cell? ⟨w3.heap.size, 2, none⟩ = some (.int .i64 xs) := by rw [← hS]; simp
  have m3 : v3.cell? ⟨w3.heap.size, 3, none⟩ = some (.slice a3 xi.length c3) := by rw [← hS]; simp
  have H3 := Lib.hid (hr3.ext y3); have F3 := Lib.hid (And.intro hf3 (fun b (hb : b ∈ f3) => hf3.lt hb))
  have ev := e3.trans y3
  clear hS hr3 hf3
  go_wp2_with fail
  refine (toStringS_any l _ _ (Rep.ext ev rl) HB.out).mono ?_
  rintro e w4 ⟨a4, n4, c4, f4, rfl, hr4, hf4, hx4⟩
  replace m0 := Ext.cell (hx4) m0
  replace m1 := Ext.cell (hx4) m1
  replace m2 := Ext.cell (hx4) m2
  replace m3 := Ext.cell (hx4) m3
  have e4 := ev.trans hx4
  have H4 := Lib.hid hr4; have F4 := Lib.hid hf4
  clear hr4 hf4
  go_wp2_with fail
  refine (impl_ParseCode_any l _ _ H4.out.rep HB.out (hM.1.ext e4) (hM.2.1.ext e4) (hM.2.2.ext e4)).mono ?_
  rintro e w5 ⟨⟨yb, yp, ys, yi⟩, kb2, a5, c5, f5, rfl, hr5, hf5, hy5, hn5, hx5⟩
  obtain ⟨he, rfl⟩ := code_one HY3.out HN3.out hy5 hn5
  injection he with q1 q2 q3 q4
  subst q1 q2 q3 q4
  clear hy5 hn5
  simp only
  have hkk : (kb != kb) = false := by cases kb <;> rfl
  have hkk2 : (!kb == kb) = false := by cases kb <;> rfl
  have e5 := e4.trans hx5
  replace m0 := Ext.cell (hx5) m0
  replace m1 := Ext.cell (hx5) m1
  replace m2 := Ext.cell (hx5) m2
  replace m3 := Ext.cell (hx5) m3
  go_upto_region 8 with fail
  generalize hS : World.alloc w5 _ = v5
  have y5 : Ext w5 v5 := by rw [← hS]; exact (Ext.refl _).alloc _
  have n0 : v5.cell? ⟨w5.heap.size, 0, none⟩ = some (.bool xb) := by rw [← hS]; simp
  have n1 : v5.cell? ⟨w5.heap.size, 1, none⟩ = some (.int .i64 xp) := by rw [← hS]; simp
  have n2 : v5.cell? ⟨w5.heap.size, 2, none⟩ = some (.int .i64 xs) := by rw [← hS]; simp
  have n3 : v5.cell? ⟨w5.heap.size, 3, none⟩ = some (.slice a5 xi.length c5) := by rw [← hS]; simp
  have H5 := Lib.hid (hr5.ext y5); have F5 := Lib.hid (And.intro (hf5.ext y5) (fun b (hb : b ∈ f5) => hf5.lt hb))
  have y35 : Ext v3 v5 := (hx4.trans hx5).trans y5
  have ev5 := e5.trans y5
  replace m0 := Ext.cell (y5) m0
  replace m1 := Ext.cell (y5) m1
  replace m2 := Ext.cell (y5) m2
  replace m3 := Ext.cell (y5) m3
  have zs5 : w4.heap.size ≤ w5.heap.size := hx5.size
  have zs4 : v3.heap.size ≤ w4.heap.size := hx4.size
  have zm : w3.heap.size < v5.heap.size := lt_of_cell m0
  have zn : w5.heap.size < v5.heap.size := lt_of_cell n0
  have ht : eqB (MCode.mk xb xp xs xi) (MCode.mk xb xp xs xi) = true := eqB_tt rfl
  have hl : eqB l l = true := eqB_tt rfl
  have SH : Hid (∀ (W : World) (a : Option Addr) (c : Nat) (f : List Nat), RepF W (MInstrs xi) [.slice a xi.length c] f → Rep W (MCode.mk xb xp xs xi).d [.bool xb, .int .i64 xp, .int .i64 xs, .slice a xi.length c]) := Lib.hid fun W a c f h => (MCode.shut (x := ⟨xb, xp, xs, xi⟩) h).rep
  clear hS hr5 hf5
  go_wp2_with fail
  refine (eqCode_any ⟨xb, xp, xs, xi⟩ ⟨xb, xp, xs, xi⟩ _ _ _ (SH.out _ _ _ _ H5.out) (SH.out _ _ _ _ (H3.out.ext y35))).mono ?_
  rw [ht]
  rintro e w6 ⟨rfl, hx6⟩
  replace m0 := Ext.cell (hx6) m0
  replace m1 := Ext.cell (hx6) m1
  replace m2 := Ext.cell (hx6) m2
  replace m3 := Ext.cell (hx6) m3
  replace n0 := Ext.cell (hx6) n0
  replace n1 := Ext.cell (hx6) n1
  replace n2 := Ext.cell (hx6) n2
  replace n3 := Ext.cell (hx6) n3
  go_wp2_with fail
  refine (toStringS_any l _ _ (Rep.ext (ev5.trans hx6) rl) HB.out).mono ?_
  rintro e w7 ⟨a7, n7, c7, f7, rfl, hr7, hf7, hx7⟩
  have y47 : Ext w4 w7 := ((hx5.trans y5).trans hx6).trans hx7
  replace m0 := Ext.cell (hx7) m0
  replace m1 := Ext.cell (hx7) m1
  replace m2 := Ext.cell (hx7) m2
  replace m3 := Ext.cell (hx7) m3
  replace n0 := Ext.cell (hx7) n0
  replace n1 := Ext.cell (hx7) n1
  replace n2 := Ext.cell (hx7) n2
  replace n3 := Ext.cell (hx7) n3
  go_wp2_with fail
  refine (eqStringS_any _ _ _ _ _ (Rep.ext y47 H4.out.rep) hr7.rep).mono ?_
  rw [hl]
  rintro e w8 ⟨rfl, hx8⟩
  replace m0 := Ext.cell (hx8) m0
  replace m1 := Ext.cell (hx8) m1
  replace m2 := Ext.cell (hx8) m2
  replace m3 := Ext.cell (hx8) m3
  replace n0 := Ext.cell (hx8) n0
  replace n1 := Ext.cell (hx8) n1
  replace n2 := Ext.cell (hx8) n2
  replace n3 := Ext.cell (hx8) n3
  have y48 := y47.trans hx8
  have y58 : Ext v5 w8 := (hx6.trans hx7).trans hx8
  have e8 := ev5.trans y58
  clear hr7 hf7
  go_wp2_with fail
  refine (markStringS_any l _ f4 1 w8 (H4.out.ext y48) (F4.out.ext y48).own (by omega) (by omega)).mono ?_
  rintro e w9 ⟨rfl, -, -, ht9⟩
  have e9 : Ext w w9 := ht9.ext e8 fun b hb => by have := F4.out.ge b hb; have := ev.size; omega
  have G5 : Hid (RepF w9 (MInstrs xi) [.slice a5 xi.length c5] f5) := Lib.hid ((H5.out.ext y58).touch ht9 fun b hb hb2 => by
    have := F5.out.1.ge b hb; have := F4.out.lt hb2; omega)
  have O5 : Hid (∀ b, b ∈ f5 → ∃ C e, Own w9 b e C) := Lib.hid fun b hb => by
    obtain ⟨C, e, hO⟩ := (F5.out.1.ext y58).own b hb
    exact ⟨C, e, (ht9.block b hO.lt fun hb2 => by have := F5.out.1.ge b hb; have := F4.out.lt hb2; omega).trans hO⟩
  have G3 : Hid (RepF w9 (MInstrs xi) [.slice a3 xi.length c3] f3) := Lib.hid ((H3.out.ext (y35.trans y58)).touch ht9 fun b hb hb2 => by
    have := F3.out.2 b hb; have := F4.out.ge b hb2; have := ZV3.out; omega)
  have N4m : w3.heap.size ∉ f4 := fun h => by have := F4.out.ge _ h; have := ZV3.out; omega
  have N4n : w5.heap.size ∉ f4 := fun h => by have := F4.out.lt h; omega
  replace m0 := Touch.cellAt ht9 (show _ ∉ _ from N4m) m0
  replace m1 := Touch.cellAt ht9 (show _ ∉ _ from N4m) m1
  replace m2 := Touch.cellAt ht9 (show _ ∉ _ from N4m) m2
  replace m3 := Touch.cellAt ht9 (show _ ∉ _ from N4m) m3
  replace n0 := Touch.cellAt ht9 (show _ ∉ _ from N4n) n0
  replace n1 := Touch.cellAt ht9 (show _ ∉ _ from N4n) n1
  replace n2 := Touch.cellAt ht9 (show _ ∉ _ from N4n) n2
  replace n3 := Touch.cellAt ht9 (show _ ∉ _ from N4n) n3
  have z9m : w3.heap.size < w9.heap.size := lt_of_cell m0
  have z9n : w5.heap.size < w9.heap.size := lt_of_cell n0
  have p0 : ¬ (1 + (l.length : Int) < 0) := by omega
  clear ht9 N4m N4n zm zn
  go_wp2_with fail
  refine (eqCode_any ⟨xb, xp, xs, xi⟩ ⟨xb, xp, xs, xi⟩ _ _ _ (SH.out _ _ _ _ G5.out) (SH.out _ _ _ _ G3.out)).mono ?_
  rw [ht]
  rintro e w10 ⟨rfl, hx10⟩
  replace m0 := Ext.cell (hx10) m0
  replace m1 := Ext.cell (hx10) m1
  replace m2 := Ext.cell (hx10) m2
  replace m3 := Ext.cell (hx10) m3
  replace n0 := Ext.cell (hx10) n0
  replace n1 := Ext.cell (hx10) n1
  replace n2 := Ext.cell (hx10) n2
  replace n3 := Ext.cell (hx10) n3
  have hT5 : Hid (RepF w10 (MCode.mk xb xp xs xi).d [.bool xb, .int .i64 xp, .int .i64 xs, .slice a5 xi.length c5] f5) := Lib.hid (by
    have h := MCode.shut (x := ⟨xb, xp, xs, xi⟩) (G5.out.ext hx10)
    simpa only [List.append_nil] using h)
  go_wp2_with fail
  refine (markCode_any ⟨xb, xp, xs, xi⟩ _ f5 1 w10 hT5.out (fun b hb => let ⟨C, e, hO⟩ := O5.out b hb; ⟨C, e, hO.ext hx10⟩) (by omega) (by show (1 : Int) + 4 * (xi.length : Int) ≤ _; omega)).mono ?_
  rintro e w11 ⟨rfl, hr11, -, ht11⟩
  have e11 : Ext w w11 := ht11.ext (e9.trans hx10) fun b hb => by have := F5.out.1.ge b hb; have := e4.size; omega
  have D3 : Hid (RepF w11 (MInstrs xi) [.slice a3 xi.length c3] f3) := Lib.hid ((G3.out.ext hx10).touch ht11 fun b hb hb2 => by
    have := F3.out.2 b hb; have := F5.out.1.ge b hb2; have := ZV3.out; omega)
  have N5m : w3.heap.size ∉ f5 := fun h => by have := F5.out.1.ge _ h; have := ZV3.out; omega
  have N5n : w5.heap.size ∉ f5 := fun h => by have := F5.out.2 _ h; omega
  replace m0 := Touch.cellAt ht11 (show _ ∉ _ from N5m) m0
  replace m1 := Touch.cellAt ht11 (show _ ∉ _ from N5m) m1
  replace m2 := Touch.cellAt ht11 (show _ ∉ _ from N5m) m2
  replace m3 := Touch.cellAt ht11 (show _ ∉ _ from N5m) m3
  replace n0 := Touch.cellAt ht11 (show _ ∉ _ from N5n) n0
  replace n1 := Touch.cellAt ht11 (show _ ∉ _ from N5n) n1
  replace n2 := Touch.cellAt ht11 (show _ ∉ _ from N5n) n2
  replace n3 := Touch.cellAt ht11 (show _ ∉ _ from N5n) n3
  have z11m : w3.heap.size < w11.heap.size := lt_of_cell m0
  have z11n : w5.heap.size < w11.heap.size := lt_of_cell n0
  have H11 := Lib.hid hr11.rep
  have hq : ((1 : Int) + 4 * (xi.length : Int) != 1 + 4 * xi.length) = false := by simp
  have hp : ¬ (1 : Int) + 4 * (xi.length : Int) < 0 := by omega
  clear ht11 hr11 N5m N5n z9m z9n
  simp only
  go_wp2_with fail
  refine (heldCode_any ⟨xb, xp, xs, xi⟩ _ 1 w11 H11.out (by omega) (by show (1 : Int) + 4 * (xi.length : Int) ≤ _; omega)).mono ?_
  rintro e w12 ⟨rfl, hx12⟩
  replace m0 := Ext.cell (hx12) m0
  replace m1 := Ext.cell (hx12) m1
  replace m2 := Ext.cell (hx12) m2
  replace m3 := Ext.cell (hx12) m3
  replace n0 := Ext.cell (hx12) n0
  replace n1 := Ext.cell (hx12) n1
  replace n2 := Ext.cell (hx12) n2
  replace n3 := Ext.cell (hx12) n3
  have e12 := e11.trans hx12
  simp only
  go_wp2_with fail
  refine (toStringS_any l _ _ (Rep.ext e12 rl) HB.out).mono ?_
  rintro e w13 ⟨a13, n13, c13, f13, rfl, hr13, hf13, hx13⟩
  replace m0 := Ext.cell (hx13) m0
  replace m1 := Ext.cell (hx13) m1
  replace m2 := Ext.cell (hx13) m2
  replace m3 := Ext.cell (hx13) m3
  replace n0 := Ext.cell (hx13) n0
  replace n1 := Ext.cell (hx13) n1
  replace n2 := Ext.cell (hx13) n2
  replace n3 := Ext.cell (hx13) n3
  have e13 := e12.trans hx13
  go_wp2_with fail
  refine (impl_ParseCode_any l _ _ hr13.rep HB.out (hM.1.ext e13) (hM.2.1.ext e13) (hM.2.2.ext e13)).mono ?_
  rintro e w14 ⟨⟨yb, yp, ys, yi⟩, kb2, a14, c14, f14, rfl, hr14, hf14, hy14, hn14, hx14⟩
  obtain ⟨he, rfl⟩ := code_one HY3.out HN3.out hy14 hn14
  injection he with q1 q2 q3 q4
  subst q1 q2 q3 q4
  clear hy14 hn14 hr13 hf13
  simp only
  replace m0 := Ext.cell (hx14) m0
  replace m1 := Ext.cell (hx14) m1
  replace m2 := Ext.cell (hx14) m2
  replace m3 := Ext.cell (hx14) m3
  replace n0 := Ext.cell (hx14) n0
  replace n1 := Ext.cell (hx14) n1
  replace n2 := Ext.cell (hx14) n2
  replace n3 := Ext.cell (hx14) n3
  go_upto_region 25 with fail
  generalize hS : World.alloc w14 _ = v14
  have y14 : Ext w14 v14 := by rw [← hS]; exact (Ext.refl _).alloc _
  have o0 : v14.cell? ⟨w14.heap.size, 0, none⟩ = some (.bool xb) := by rw [← hS]; simp
  have o1 : v14.cell? ⟨w14.heap.size, 1, none⟩ = some (.int .i64 xp) := by rw [← hS]; simp
  have o2 : v14.cell? ⟨w14.heap.size, 2, none⟩ = some (.int .i64 xs) := by rw [← hS]; simp
  have o3 : v14.cell? ⟨w14.heap.size, 3, none⟩ = some (.slice a14 xi.length c14) := by rw [← hS]; simp
  have H14 := Lib.hid (hr14.ext y14)
  have yy : Ext w11 v14 := ((hx12.trans hx13).trans hx14).trans y14
  replace m0 := Ext.cell (y14) m0
  replace m1 := Ext.cell (y14) m1
  replace m2 := Ext.cell (y14) m2
  replace m3 := Ext.cell (y14) m3
  replace n0 := Ext.cell (y14) n0
  replace n1 := Ext.cell (y14) n1
  replace n2 := Ext.cell (y14) n2
  replace n3 := Ext.cell (y14) n3
  clear hS hr14 hf14
  go_wp2_with fail
  refine (eqCode_any ⟨xb, xp, xs, xi⟩ ⟨xb, xp, xs, xi⟩ _ _ _ (SH.out _ _ _ _ H14.out) (SH.out _ _ _ _ (D3.out.ext yy))).mono ?_
  rw [ht]
  rintro e w15 ⟨rfl, hx15⟩
  replace m0 := Ext.cell (hx15) m0
  replace m1 := Ext.cell (hx15) m1
  replace m2 := Ext.cell (hx15) m2
  replace m3 := Ext.cell (hx15) m3
  replace n0 := Ext.cell (hx15) n0
  replace n1 := Ext.cell (hx15) n1
  replace n2 := Ext.cell (hx15) n2
  replace n3 := Ext.cell (hx15) n3
  clear o0 o1 o2 o3
  go_wp2_with fail
  refine (heldCode_any ⟨xb, xp, xs, xi⟩ _ 1 w15 (Rep.ext (yy.trans hx15) H11.out) (by omega) (by show (1 : Int) + 4 * (xi.length : Int) ≤ _; omega)).mono ?_
  rintro e w16 ⟨rfl, hx16⟩
  simp only
  go_wp2_with fail
  go_ret
  exact ⟨rfl, e11.trans ((yy.trans hx15).trans hx16)⟩

set_option maxRecDepth 100000 in
theorem fnExactParseCode_lifted (os : Os) (started : os.Started) (H : Type) (enc : TypeId × Value → H) :
    ReturnsInHanded {} Tryd.checked os 4 .any (fun w args => (Rows.fnExactParseCodeSpec.pre enc Tryd.prog Tryd.f4 Rows.fnExactParseCodeRow.domain false w args ∧ laidMetH Tryd.prog Rows.fnExactParseCodeRow.laid w) ∧ sizedMet enc Tryd.prog Tryd.f4 (OpenSpec.ofChange Rows.fnExactParseCodeSpec) false w args) (Rows.fnExactParseCodeSpec.post enc Tryd.prog Tryd.f4 false true false false) := by
  refine returns_laid (C := Tryd.checked) (X := fun w _ => laidMetH Tryd.prog Rows.fnExactParseCodeRow.laid w) (fun _ _ _ hh h => h.of_heap hh) Tryd.own started (by kernel_rfl) Tryd.func4
    (ChangeSpec.witness_shaped (enc := enc) (C := Tryd.checked) (os := os) (X := fun w _ => laidMetH Tryd.prog Rows.fnExactParseCodeRow.laid w) false (World.laidAll Tryd.prog os Rows.fnExactParseCodeRow.laid) #[.slice none 0 0] 8 (World.laidAll_os _ _ _)
      (World.shaped_of_ZipB (by kernel_rfl) (by kernel_rfl)) (by kernel_rfl) (by kernel_rfl) (by kernel_rfl)
      (by rw [MakeChecks.laidMetH_plain _ _ _ (by kernel_rfl)]; exact laidMet_laidAll _ (by kernel_rfl) (by kernel_rfl))) ?_
  intro W base args ds gs before hval0 hW hL hsh
  have hM := And.intro (max_ok hsh) (And.intro (door_tab hL (by kernel_rfl) (i := 2) (by kernel_rfl)) (err_laid hL (by kernel_rfl) (i := 5) (j := 4) rfl rfl))
  have hval : ∀ (j : Nat) t v, Tryd.f4.params[j]? = some t → args[j]? = some v → Value.okWide Tryd.prog W .any base t v := hval0
  have hW' := hW
  obtain ⟨p, q, hA0, hV, rfl, hfz, hnd⟩ := hW
  have hA : DataW.TrodAll enc Tryd.prog W 0 (fun _ => true) true Tryd.f4.params.toList args.toList ds p := hA0
  rw [Tryd.params4] at hA hval
  obtain ⟨v0, d0, rfl, rfl, h0⟩ := trodAll_one hA
  obtain ⟨rfl, rfl⟩ := trodVars_none hV
  obtain ⟨ao0, ln0, cp0, rfl⟩ := okWide_slice Tryd.underlying24 (hval 0 24 v0 rfl rfl)
  obtain ⟨fu0, hh0⟩ := h0
  have hh0 : DataW.trod enc Tryd.prog W 0 (fun _ => true) true fu0 24 [.slice ao0 ln0 cp0] = some _ := hh0
  obtain ⟨x0, r0, o0⟩ := trod_sl (f := D.str) Tryd.underlying24 Tryd.cells9 (by decide) (fun n _ es d h => trod_str1 Tryd.underlying9 h) hh0
  exact (fnExactParseCode_calls x0 _ W r0 o0 hM).mono fun e W' ⟨he, hb⟩ => ⟨_, he, law_post Tryd.laidOut rfl (by kernel_rfl) rfl Tryd.underlying4 hW' rfl hb⟩

theorem fnExactParseCode_holds : Rows.FnExactParseCodeSaid :=
  OpenClaim.holds_of_wide 4 Tryd.f4 rfl rfl rfl rfl rfl rfl rfl ⟨rfl, rfl, rfl, rfl, rfl⟩ rfl rfl rfl rfl rfl (by kernel_rfl) Tryd.func4 (by kernel_rfl)
    (of_decide_eq_true (by kernel_rfl)) (by unfold Func.isWrapper; rw [if_neg (of_decide_eq_false (by kernel_rfl))]; exact ⟨rfl, rfl⟩)
    (fun os started H enc _ => fnExactParseCode_lifted os started H enc)


theorem fnExactParseCode_card : Rows.FnExactParseCodeCardSaid :=
  Claim7.holds_tied_plain_at .later [] [.data, .data, .data, .data, .sentinel, .sentinel, .pinned] true (true, "b5fc30b7a477a38d6bcdb78e9917320dd7251ba5191314b5ff1533c20b9b56fe") true fnExactParseCode_holds (fun _ h => by cases h) (by kernel_rfl) (fun _ h => by cases h) fnExactParseCode_row_tie rfl ⟨rfl, rfl⟩ (by kernel_rfl) rfl
    (fun f fn hf hfn => by
      obtain rfl : f = 4 := Option.some.inj ((show Tryd.prog.funcNamed "loop.example/g03108/laws.FnExactParseCode" = some 4 by kernel_rfl).symm.trans hf) |>.symm
      obtain rfl : fn = Tryd.f4 := (Option.some.inj (Tryd.func4.symm.trans hfn)).symm
      exact ⟨by kernel_rfl, fun j t ht => by
        rw [Tryd.params4] at ht
        have hm : t ∈ [24] := by
          have h := Array.mem_of_getElem? ht
          simpa using h
        have hall : ([24].all fun u => !Tryd.prog.wantsStandIn u) = true := by kernel_rfl
        exact (show Tryd.prog.wantsStandIn t = false by simpa using List.all_eq_true.1 hall t hm)⟩)
    (by kernel_rfl)

#print axioms fnExactParseCode_card


end Go.Proofs.YtpajlbmjlhafoaaDoor
