/-
  CONTRACTS: SameValue, EqualOutcomes, EqualCodes, of the program and of the reference.
  Conditions: those that each lemma states.
-/
import Derived.Test.YtmclpkihiomlmaaRows
import Derived.Test.YtmclpkihiomlmaaTypes
namespace Go.Proofs.Ytmclpkihiomlmaa
open Go.RowKit
set_option linter.unusedSimpArgs false
set_option linter.unusedVariables false

set_option maxHeartbeats 400000 in
theorem spec_SameValue_any (x y : MValue) (cx cy : List Value) (w : World) (rx : Rep w x.d cx) (ry : Rep w y.d cy) :
    Calls Try.prog 15 #[.agg cx.toArray, .agg cy.toArray] w fun e w' => e = .returned (.bool (eqB x y)) ∧ Ext w w' := by
  obtain rfl := MValue.op_en rx
  obtain rfl := MValue.op_en ry
  clear rx ry
  obtain ⟨x1, x2, x3⟩ := x
  obtain ⟨y1, y2, y3⟩ := y
  go_enter Try.func15, Try.ntmps15
  go_wp2
  all_goals go_ret
  all_goals refine ⟨?_, ((Ext.refl _).alloc _).alloc _⟩
  all_goals first
    | (refine ret_tt ?_
       simp only [MValue.mk.injEq]
       exact ⟨by assumption, by assumption, toList_inj (by assumption)⟩)
    | (refine ret_ff fun h => ?_
       simp only [MValue.mk.injEq] at h
       obtain ⟨rfl, rfl, rfl⟩ := h
       simp_all
       done)

set_option maxHeartbeats 400000 in
theorem impl_SameValue_any (x y : MValue) (cx cy : List Value) (w : World) (rx : Rep w x.d cx) (ry : Rep w y.d cy) :
    Calls Try.prog 17 #[.agg cx.toArray, .agg cy.toArray] w fun e w' => e = .returned (.bool (eqB x y)) ∧ Ext w w' := by
  obtain rfl := MValue.op_en rx
  obtain rfl := MValue.op_en ry
  clear rx ry
  obtain ⟨x1, x2, x3⟩ := x
  obtain ⟨y1, y2, y3⟩ := y
  go_enter Try.func17, Try.ntmps17
  go_wp2
  all_goals go_ret
  all_goals refine ⟨?_, ((Ext.refl _).alloc _).alloc _⟩
  all_goals first
    | (refine ret_tt ?_
       simp only [MValue.mk.injEq]
       exact ⟨by assumption, by assumption, toList_inj (by assumption)⟩)
    | (refine ret_ff fun h => ?_
       simp only [MValue.mk.injEq] at h
       obtain ⟨rfl, rfl, rfl⟩ := h
       simp_all
       done)



end Go.Proofs.Ytmclpkihiomlmaa
