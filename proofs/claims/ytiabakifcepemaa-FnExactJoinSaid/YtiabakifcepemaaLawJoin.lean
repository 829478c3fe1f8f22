/-
  FnExactJoin: the program's Join gives what the reference's gives, for all texts.
  Conditions: none.
-/
import Derived.Test.YtiabakifcepemaaLaw
import Derived.Test.YtiabakifcepemaaEq
import Derived.Test.YtiabakifcepemaaSz
import Derived.Test.YtiabakifcepemaaTo
import Derived.Test.YtiabakifcepemaaArgTypes
import Derived.Test.YtiabakifcepemaaFnJoin
namespace Go.Proofs.Ytiabakifcepemaa
open Go.ChangeShapes Go.WideShapes Go.ChangeAt Go.RowKit Go.Joins
open Go.ChangeMaps (open_string)
set_option linter.unusedSimpArgs false
set_option linter.unusedVariables false


set_option maxHeartbeats 1000000 in
theorem fnExactJoin_calls (l : List ByteArray) (va : Value) (s : ByteArray) (w : World) (rl : Rep w (strs l) [va]) (ol : (strs l).ok) (hs : s.size ≤ maxLen) : Calls Try.prog 4 #[va, .string s] w fun e w' => e = .returned (.bool true) ∧ Ext w w' := by
  unfold maxLen at hs
  go_enter Try.func4, Try.ntmps4
  by_cases h : s.size ≤ 1048576
  rotate_left
  · go_wp2_with fail
    go_ret
    exact ⟨rfl, Ext.refl _⟩
  go_wp2_with fail
  refine (szStringS_any l _ 1048576 _ (by omega) (by omega) rl ol).mono ?_
  rintro e w1 ⟨q1, rfl, hq, hx1⟩
  rcases hq with rfl | ⟨hq1, hqe⟩
  · go_wp2_with fail
    go_ret
    exact ⟨rfl, hx1⟩
  have hl1 : q1 ≤ 1048576 := by omega
  have hb : (strs l).bulk ≤ 1048576 := by omega
  have HB := Lib.hid hb
  obtain ⟨hb1, hb2, hb3⟩ := bulk_strs hb
  have H1 := Lib.hid hb1; have H2 := Lib.hid hb2; have H3 := Lib.hid hb3
  clear hqe hb hb1 hb2 hb3
  have hq : (q1 < 0) = False := by simp; omega
  go_wp2_with fail
  refine (toStringS_any l _ _ (Rep.ext hx1 rl) HB.out).mono ?_
  rintro e w2 ⟨a2, n2, c2, f2, rfl, hr2, hf2, hx2⟩
  go_wp2_with fail
  refine (spec_Join_any l s _ _ hr2.rep h H3.out).mono ?_
  rintro e w3 ⟨rfl, hx3⟩
  go_wp2_with fail
  refine (toStringS_any l _ _ (Rep.ext ((hx1.trans hx2).trans hx3) rl) HB.out).mono ?_
  rintro e w4 ⟨a4, n4, c4, f4, rfl, hr4, hf4, hx4⟩
  go_wp2_with fail
  refine (impl_Join_any l s _ _ hr4.rep h H1.out H2.out).mono ?_
  rintro e w5 ⟨rfl, hx5⟩
  go_wp2_with fail
  refine (toStringS_any l _ _ (Rep.ext ((((hx1.trans hx2).trans hx3).trans hx4).trans hx5) rl) HB.out).mono ?_
  rintro e w6 ⟨a6, n6, c6, f6, rfl, hr6, hf6, hx6⟩
  have ht : eqB l l = true := eqB_tt rfl
  go_wp2_with fail
  refine (eqStringS_any _ _ _ _ _ (Rep.ext (hx5.trans hx6) hr4.rep) hr6.rep).mono ?_
  rintro e w7 ⟨rfl, hx7⟩
  go_wp2_with fail
  go_ret
  exact ⟨rfl, (((((hx1.trans hx2).trans hx3).trans hx4).trans hx5).trans hx6).trans hx7⟩


set_option maxRecDepth 100000 in
theorem fnExactJoin_lifted (os : Os) (started : os.Started) (H : Type) (enc : TypeId × Value → H) :
    ReturnsInHanded {} Try.checked os 4 .any (Rows.fnExactJoinSpec.pre6 enc Try.prog Try.f4 Rows.fnExactJoinRow.domain false) (Rows.fnExactJoinSpec.post enc Try.prog Try.f4 false true false false) := by
  refine returnsInHanded_of_change (C := Try.checked) Try.own started (by kernel_rfl) Try.func4
    (ChangeSpec.witness6 (enc := enc) (C := Try.checked) false ⟨#[], #[.slice none 0 0, .string ByteArray.empty], []⟩ 8 (by kernel_rfl) (by kernel_rfl) (by kernel_rfl) (by kernel_rfl)) ?_
  intro W base args ds gs before hval0 hW hcnd _
  have hval : ∀ (j : Nat) t v, Try.f4.params[j]? = some t → args[j]? = some v → Value.okWide Try.prog W .any base t v := hval0
  have hW' := hW
  obtain ⟨p, q, hA0, hV, rfl, hfz, hnd⟩ := hW
  have hA : DataW.TrodAll enc Try.prog W 0 (fun _ => true) true Try.f4.params.toList args.toList ds p := hA0
  rw [Try.params4] at hA hval
  obtain ⟨v0, v1, d0, d1, p0, p1, rfl, rfl, rfl, h0, h1⟩ := trodAll_two hA
  obtain ⟨rfl, rfl⟩ := trodVars_none hV
  obtain ⟨ao0, ln0, cp0, rfl⟩ := okWide_slice Try.underlying22 (hval 0 22 v0 rfl rfl)
  obtain ⟨fu0, hh0⟩ := h0
  have hh0 : DataW.trod enc Try.prog W 0 (fun _ => true) true fu0 22 [.slice ao0 ln0 cp0] = some _ := hh0
  obtain ⟨x0, r0, o0⟩ := trod_sl (f := D.str) Try.underlying22 Try.cells9 (by decide) (fun n _ es d h => trod_str1 Try.underlying9 h) hh0
  obtain ⟨x1, rfl, rfl, rfl, o1⟩ := open_string Try.underlying9 (hval 1 9 v1 rfl rfl) h1
  exact (fnExactJoin_calls x0 _ x1 W r0 o0 o1).mono fun e W' ⟨he, hb⟩ => ⟨_, he, law_post Try.laidOut rfl (by kernel_rfl) rfl Try.underlying4 hW' rfl hb⟩

theorem fnExactJoin_holds : Rows.FnExactJoinSaid :=
  OpenClaim.holds_of_wide 4 Try.f4 rfl rfl rfl rfl rfl rfl rfl ⟨rfl, rfl, rfl, rfl, rfl⟩ rfl rfl rfl rfl rfl (by kernel_rfl) Try.func4 (by kernel_rfl)
    (of_decide_eq_true (by kernel_rfl)) (by unfold Func.isWrapper; rw [if_neg (of_decide_eq_false (by kernel_rfl))]; exact ⟨rfl, rfl⟩)
    (fun os started H enc _ => fnExactJoin_lifted os started H enc)

#print axioms fnExactJoin_holds


end Go.Proofs.Ytiabakifcepemaa
