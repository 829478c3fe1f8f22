/-
  FnExactParseUnit: the program's ParseUnit gives what the reference's gives, for every text.
  Conditions: none.
-/
import Derived.Test.YtlcebafhbceejaaGreatDoorP06
import Derived.Test.YtlcebafhbceejaaGreatDoorP07
import Derived.Test.YtlcebafhbceejaaGreatDoorP08
import Derived.Test.YtlcebafhbceejaaGreatDoorP09
import Derived.Test.YtlcebafhbceejaaGreatDoorP30
namespace Go.Proofs.YtlcebafhbceejaaGreatDoor
open Go.ChangeShapes Go.WideShapes Go.ChangeAt Go.RowKit Go.Joins
open Go.ChangeMaps (open_string)
set_option maxHeartbeats 8000000
set_option maxRecDepth 100000
set_option linter.unusedSimpArgs false
set_option linter.unusedVariables false
theorem fnExactParseUnit_calls (s : ByteArray) (w : World) (hs : s.size <= maxLen) (hM : MaxOk w) : Calls Tryz.prog 3 #[.string s] w fun e w' => e = .returned (.bool true) /\ Ext w w' := by
 unfold maxLen at hs
 go_enter Tryz.func3, Tryz.ntmps3
 by_cases h : s.size <= 1048576
 rotate_left
 · go_wp2_with fail
   go_ret
   exact ⟨rfl, XR _⟩
 have hbk := parseU_bulk s
 have S : Hid (∀ W, Calls Tryz.prog 4 #[.string s] W (GivesUs W s)) := LH fun W => spec_ParseUnit_any s W h
 have I : Hid (∀ W, MaxOk W -> Calls Tryz.prog 5 #[.string s] W (GivesU W s)) := LH fun W hm => impl_ParseUnit_any s W h hm
 obtain ⟨x, hx0⟩ : ∃ x, (parseU s).getD zU = x := ⟨_, rfl⟩
 obtain ⟨kb, hkb⟩ : ∃ b, (parseU s).isSome = b := ⟨_, rfl⟩
 unfold GivesU at I
 unfold GivesUs at S
 rw [hx0] at hbk S I
 rw [hkb] at S I
 clear hx0 hkb
 have htc := MUnit.tcnt_le x
 have hkk : (kb != kb) = false := by cases kb <;> rfl
 have hkk2 : (!kb == kb) = false := by cases kb <;> rfl
 have ht : eqB x x = true := eqB_tt rfl
 go_wp2_with fail
 refine (S.out _).mono ?_
 rintro e w1 ⟨cs1, f1, rfl, hr1, hf1, hx1⟩
 obtain ⟨a0, c0, u0, a1, c1, u1, a2, c2, u2, a3, c3, u3, rfl, -, -, -, -, -⟩ := MUnit.op_f hr1
 have H1 := LH hr1
 have L1 : Hid (∀ b, b ∈ f1 -> b < w1.heap.size) := LH (fun b hb => H1.out.lt _ b hb)
 clear hr1 hf1
 go_upto_region 4 with fail
 generalize hS : World.alloc w1 _ = v1
 have yv1 : Ext w1 v1 := by rw [<- hS]; exact (XR _).alloc _
 have m0 : v1.cell? ⟨w1.heap.size, 0, none⟩ = some (.slice a0 x.classes.length c0) := by rw [<- hS]; simp
 have m1 : v1.cell? ⟨w1.heap.size, 1, none⟩ = some (.string x.main.selector) := by rw [<- hS]; simp
 have m2 : v1.cell? ⟨w1.heap.size, 2, none⟩ = some (.bool x.main.cls) := by rw [<- hS]; simp
 have m3 : v1.cell? ⟨w1.heap.size, 3, none⟩ = some (.slice a1 x.main.params.length c1) := by rw [<- hS]; simp
 have m4 : v1.cell? ⟨w1.heap.size, 4, none⟩ = some (.slice a2 x.main.temps.length c2) := by rw [<- hS]; simp
 have m5 : v1.cell? ⟨w1.heap.size, 5, none⟩ = some (.slice a3 x.main.body.length c3) := by rw [<- hS]; simp
 clear hS
 have e1 := hx1.trans yv1
 have zv1 : w1.heap.size < v1.heap.size := lt_of_cell m0
 go_wp2_with fail
 refine (I.out _ (hM.ext e1)).mono ?_
 rintro e w2 ⟨cs2, f2, rfl, hr2, hf2, hx2⟩
 obtain ⟨p0, q0, u2_0, p1, q1, u2_1, p2, q2, u2_2, p3, q3, u2_3, rfl, -, -, -, -, -⟩ := MUnit.op_f hr2
 have H2 := LH hr2
 have F2 := LH hf2
 have L2 : Hid (∀ b, b ∈ f2 -> v1.heap.size <= b /\ b < w2.heap.size) := LH (fun b hb => ⟨F2.out.ge b hb, F2.out.lt hb⟩)
 clear hr2 hf2
 replace m0 := Ext.cell hx2 m0
 replace m1 := Ext.cell hx2 m1
 replace m2 := Ext.cell hx2 m2
 replace m3 := Ext.cell hx2 m3
 replace m4 := Ext.cell hx2 m4
 replace m5 := Ext.cell hx2 m5
 go_upto_region 5 with fail
 generalize hS : World.alloc w2 _ = v2
 have yv2 : Ext w2 v2 := by rw [<- hS]; exact (XR _).alloc _
 have n0 : v2.cell? ⟨w2.heap.size, 0, none⟩ = some (.slice p0 x.classes.length q0) := by rw [<- hS]; simp
 have n1 : v2.cell? ⟨w2.heap.size, 1, none⟩ = some (.string x.main.selector) := by rw [<- hS]; simp
 have n2 : v2.cell? ⟨w2.heap.size, 2, none⟩ = some (.bool x.main.cls) := by rw [<- hS]; simp
 have n3 : v2.cell? ⟨w2.heap.size, 3, none⟩ = some (.slice p1 x.main.params.length q1) := by rw [<- hS]; simp
 have n4 : v2.cell? ⟨w2.heap.size, 4, none⟩ = some (.slice p2 x.main.temps.length q2) := by rw [<- hS]; simp
 have n5 : v2.cell? ⟨w2.heap.size, 5, none⟩ = some (.slice p3 x.main.body.length q3) := by rw [<- hS]; simp
 clear hS
 replace m0 := Ext.cell yv2 m0
 replace m1 := Ext.cell yv2 m1
 replace m2 := Ext.cell yv2 m2
 replace m3 := Ext.cell yv2 m3
 replace m4 := Ext.cell yv2 m4
 replace m5 := Ext.cell yv2 m5
 have e2 := (e1.trans hx2).trans yv2
 have zv2 : w2.heap.size < v2.heap.size := lt_of_cell n0
 have G1 := LH (H1.out.ext ((yv1.trans hx2).trans yv2))
 have G2 := LH (H2.out.ext yv2)
 have GF2 := LH (F2.out.ext yv2)
 go_wp2_with fail
 refine (eqUnit_any x x _ _ _ G2.out.rep G1.out.rep).mono ?_
 rw [ht]
 rintro e w3 ⟨rfl, hx3⟩
 replace m0 := Ext.cell hx3 m0
 replace m1 := Ext.cell hx3 m1
 replace m2 := Ext.cell hx3 m2
 replace m3 := Ext.cell hx3 m3
 replace m4 := Ext.cell hx3 m4
 replace m5 := Ext.cell hx3 m5
 replace n0 := Ext.cell hx3 n0
 replace n1 := Ext.cell hx3 n1
 replace n2 := Ext.cell hx3 n2
 replace n3 := Ext.cell hx3 n3
 replace n4 := Ext.cell hx3 n4
 replace n5 := Ext.cell hx3 n5
 have e3 := e2.trans hx3
 have z3m : w1.heap.size < w3.heap.size := lt_of_cell m0
 go_wp2_with fail
 refine (markUnit_any x _ f2 _ 1 w3 (G2.out.ext hx3) (GF2.out.ext hx3) (by omega) (by omega)).mono ?_
 rintro e w4 ⟨rfl, hr4, hf4, ht4⟩
 have N2m : w1.heap.size ∉ f2 := fun h => by have := (L2.out _ h).1; omega
 have N2n : w2.heap.size ∉ f2 := fun h => by have := (L2.out _ h).2; omega
 replace m0 := Touch.cellAt ht4 (show _ ∉ _ from N2m) m0
 replace m1 := Touch.cellAt ht4 (show _ ∉ _ from N2m) m1
 replace m2 := Touch.cellAt ht4 (show _ ∉ _ from N2m) m2
 replace m3 := Touch.cellAt ht4 (show _ ∉ _ from N2m) m3
 replace m4 := Touch.cellAt ht4 (show _ ∉ _ from N2m) m4
 replace m5 := Touch.cellAt ht4 (show _ ∉ _ from N2m) m5
 replace n0 := Touch.cellAt ht4 (show _ ∉ _ from N2n) n0
 replace n1 := Touch.cellAt ht4 (show _ ∉ _ from N2n) n1
 replace n2 := Touch.cellAt ht4 (show _ ∉ _ from N2n) n2
 replace n3 := Touch.cellAt ht4 (show _ ∉ _ from N2n) n3
 replace n4 := Touch.cellAt ht4 (show _ ∉ _ from N2n) n4
 replace n5 := Touch.cellAt ht4 (show _ ∉ _ from N2n) n5
 have e4 : Ext w w4 := ht4.ext e3 fun b hb => by have := (L2.out b hb).1; have := e1.size; omega
 have D1 := LH ((G1.out.ext hx3).touch ht4 (fun b hb hb2 => by have := L1.out b hb; have := (L2.out b hb2).1; omega))
 have D4 := LH hr4.rep
 clear ht4 hr4 hf4 N2m N2n
 have hq : ((1 : Int) + (x.d.tcnt : Int) != 1 + x.d.tcnt) = false := by simp
 have hp : ¬ (1 : Int) + (x.d.tcnt : Int) < 0 := by omega
 go_wp2_with fail
 refine (heldUnit_any x _ 1 w4 D4.out (by omega) (by omega)).mono ?_
 rintro e w5 ⟨rfl, hx5⟩
 replace m0 := Ext.cell hx5 m0
 replace m1 := Ext.cell hx5 m1
 replace m2 := Ext.cell hx5 m2
 replace m3 := Ext.cell hx5 m3
 replace m4 := Ext.cell hx5 m4
 replace m5 := Ext.cell hx5 m5
 replace n0 := Ext.cell hx5 n0
 replace n1 := Ext.cell hx5 n1
 replace n2 := Ext.cell hx5 n2
 replace n3 := Ext.cell hx5 n3
 replace n4 := Ext.cell hx5 n4
 replace n5 := Ext.cell hx5 n5
 have e5 := e4.trans hx5
 go_wp2_with fail
 refine (I.out _ (hM.ext e5)).mono ?_
 rintro e w6 ⟨cs6, f6, rfl, hr6, hf6, hx6⟩
 obtain ⟨s0, t0, u6_0, s1, t1, u6_1, s2, t2, u6_2, s3, t3, u6_3, rfl, -, -, -, -, -⟩ := MUnit.op_f hr6
 have H6 := LH hr6
 clear hr6 hf6
 replace m0 := Ext.cell hx6 m0
 replace m1 := Ext.cell hx6 m1
 replace m2 := Ext.cell hx6 m2
 replace m3 := Ext.cell hx6 m3
 replace m4 := Ext.cell hx6 m4
 replace m5 := Ext.cell hx6 m5
 replace n0 := Ext.cell hx6 n0
 replace n1 := Ext.cell hx6 n1
 replace n2 := Ext.cell hx6 n2
 replace n3 := Ext.cell hx6 n3
 replace n4 := Ext.cell hx6 n4
 replace n5 := Ext.cell hx6 n5
 go_upto_region 16 with fail
 generalize hS : World.alloc w6 _ = v6
 have yv6 : Ext w6 v6 := by rw [<- hS]; exact (XR _).alloc _
 have o0 : v6.cell? ⟨w6.heap.size, 0, none⟩ = some (.slice s0 x.classes.length t0) := by rw [<- hS]; simp
 have o1 : v6.cell? ⟨w6.heap.size, 1, none⟩ = some (.string x.main.selector) := by rw [<- hS]; simp
 have o2 : v6.cell? ⟨w6.heap.size, 2, none⟩ = some (.bool x.main.cls) := by rw [<- hS]; simp
 have o3 : v6.cell? ⟨w6.heap.size, 3, none⟩ = some (.slice s1 x.main.params.length t1) := by rw [<- hS]; simp
 have o4 : v6.cell? ⟨w6.heap.size, 4, none⟩ = some (.slice s2 x.main.temps.length t2) := by rw [<- hS]; simp
 have o5 : v6.cell? ⟨w6.heap.size, 5, none⟩ = some (.slice s3 x.main.body.length t3) := by rw [<- hS]; simp
 clear hS
 replace m0 := Ext.cell yv6 m0
 replace m1 := Ext.cell yv6 m1
 replace m2 := Ext.cell yv6 m2
 replace m3 := Ext.cell yv6 m3
 replace m4 := Ext.cell yv6 m4
 replace m5 := Ext.cell yv6 m5
 replace n0 := Ext.cell yv6 n0
 replace n1 := Ext.cell yv6 n1
 replace n2 := Ext.cell yv6 n2
 replace n3 := Ext.cell yv6 n3
 replace n4 := Ext.cell yv6 n4
 replace n5 := Ext.cell yv6 n5
 have e6 := (e5.trans hx6).trans yv6
 have yy : Ext w4 v6 := (hx5.trans hx6).trans yv6
 go_wp2_with fail
 refine (eqUnit_any x x _ _ _ (H6.out.ext yv6).rep (D1.out.ext yy).rep).mono ?_
 rw [ht]
 rintro e w7 ⟨rfl, hx7⟩
 replace m0 := Ext.cell hx7 m0
 replace m1 := Ext.cell hx7 m1
 replace m2 := Ext.cell hx7 m2
 replace m3 := Ext.cell hx7 m3
 replace m4 := Ext.cell hx7 m4
 replace m5 := Ext.cell hx7 m5
 replace n0 := Ext.cell hx7 n0
 replace n1 := Ext.cell hx7 n1
 replace n2 := Ext.cell hx7 n2
 replace n3 := Ext.cell hx7 n3
 replace n4 := Ext.cell hx7 n4
 replace n5 := Ext.cell hx7 n5
 replace o0 := Ext.cell hx7 o0
 replace o1 := Ext.cell hx7 o1
 replace o2 := Ext.cell hx7 o2
 replace o3 := Ext.cell hx7 o3
 replace o4 := Ext.cell hx7 o4
 replace o5 := Ext.cell hx7 o5
 go_wp2_with fail
 refine (heldUnit_any x _ 1 w7 (Rep.ext (yy.trans hx7) D4.out) (by omega) (by omega)).mono ?_
 rintro e w8 ⟨rfl, hx8⟩
 go_wp2_with fail
 go_ret
 exact ⟨rfl, (e6.trans hx7).trans hx8⟩
theorem fnExactParseUnit_lifted (os : Os) (started : os.Started) (H : Type) (enc : TypeId × Value -> H) :
 ReturnsInHanded {} Tryz.checked os 3 .any (fun w args => (Rows.fnExactParseUnitSpec.pre enc Tryz.prog Tryz.f3 Rows.fnExactParseUnitRow.domain false w args /\ laidMetH Tryz.prog Rows.fnExactParseUnitRow.laid w) /\ sizedMet enc Tryz.prog Tryz.f3 (OpenSpec.ofChange Rows.fnExactParseUnitSpec) false w args) (Rows.fnExactParseUnitSpec.post enc Tryz.prog Tryz.f3 false true false false) := by
 refine returns_laid (C := Tryz.checked) (X := fun w _ => laidMetH Tryz.prog Rows.fnExactParseUnitRow.laid w) (fun _ _ _ hh h => h.of_heap hh) Tryz.own started (by kernel_rfl) Tryz.func3
  (ChangeSpec.witness_shaped (enc := enc) (C := Tryz.checked) (os := os) (X := fun w _ => laidMetH Tryz.prog Rows.fnExactParseUnitRow.laid w) false (World.laidAll Tryz.prog os Rows.fnExactParseUnitRow.laid) #[.string ByteArray.empty] 8 (World.laidAll_os _ _ _)
   (World.shaped_of_ZipB (by kernel_rfl) (by kernel_rfl)) (by kernel_rfl) (by kernel_rfl) (by kernel_rfl)
   (by rw [MakeChecks.laidMetH_plain _ _ _ (by kernel_rfl)]; exact laidMet_laidAll _ (by kernel_rfl) (by kernel_rfl))) ?_
 intro W base args ds gs before hval0 hW hL hsh
 have hM := max_ok hsh
 have hval : ∀ (j : Nat) t v, Tryz.f3.params[j]? = some t -> args[j]? = some v -> Value.okWide Tryz.prog W .any base t v := hval0
 have hW' := hW
 obtain ⟨p, q, hA0, hV, rfl, hfz, hnd⟩ := hW
 have hA : DataW.TrodAll enc Tryz.prog W 0 (fun _ => true) true Tryz.f3.params.toList args.toList ds p := hA0
 rw [Tryz.params3] at hA hval
 obtain ⟨v0, d0, rfl, rfl, h0⟩ := trodAll_one hA
 obtain ⟨rfl, rfl⟩ := trodVars_none hV
 obtain ⟨x0, rfl, rfl, rfl, o0⟩ := open_string Tryz.underlying9 (hval 0 9 v0 rfl rfl) h0
 exact (fnExactParseUnit_calls x0 W  o0 hM).mono fun e W' ⟨he, hb⟩ => ⟨_, he, law_post Tryz.laidOut rfl (by kernel_rfl) rfl Tryz.underlying4 hW' rfl hb⟩
end Go.Proofs.YtlcebafhbceejaaGreatDoor
