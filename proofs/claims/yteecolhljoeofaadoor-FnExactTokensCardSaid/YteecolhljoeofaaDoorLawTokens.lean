/-
  FnExactTokens: the program's Tokens gives what the reference's gives, for every text.
  Conditions: none.
-/
import Derived.Test.YteecolhljoeofaaDoorDoorLaw
import Derived.Test.YteecolhljoeofaaDoorEq
import Derived.Test.YteecolhljoeofaaDoorMarkTok
import Derived.Test.YteecolhljoeofaaDoorFnTokZ
namespace Go.Proofs.YteecolhljoeofaaDoor
open Go.ChangeShapes Go.WideShapes Go.ChangeAt Go.RowKit Go.Joins
open Go.ChangeMaps (open_string)
set_option linter.unusedSimpArgs false
set_option linter.unusedVariables false


set_option maxHeartbeats 1000000 in
theorem fnExactTokens_calls (s : ByteArray) (w : World) (hs : s.size ≤ maxLen) (hM : MaxOk w) : Calls Tryd.prog 3 #[.string s] w fun e w' => e = .returned (.bool true) ∧ Ext w w' := by
  unfold maxLen at hs
  go_enter Tryd.func3, Tryd.ntmps3
  by_cases h : s.size ≤ 1048576
  rotate_left
  · go_wp2_with fail
    go_ret
    exact ⟨rfl, Ext.refl _⟩
  have hlen := toks_len s
  have S : Hid (∀ W, Calls Tryd.prog 8 #[.string s] W (GivesT W (toksL s))) := Lib.hid fun W => spec_Tokens_any s W h
  have I : Hid (∀ W, MaxOk W → Calls Tryd.prog 9 #[.string s] W (GivesT W (toksL s))) := Lib.hid fun W hm => impl_Tokens_any s W h hm
  obtain ⟨L, hL⟩ : ∃ L, (toksL s).getD [] = L := ⟨_, rfl⟩
  obtain ⟨b, hb⟩ : ∃ b, (toksL s).isSome = b := ⟨_, rfl⟩
  unfold GivesT at S I
  rw [hL] at hlen S I
  rw [hb] at S I
  clear hL hb
  have ht : eqB L L = true := eqB_tt rfl
  have hbb : (!b == b) = false := bool_eqn rfl
  go_wp2_with fail
  refine (S.out _).mono ?_
  rintro e w1 ⟨a1, n1, c1, f1, rfl, hr1, hf1, hx1⟩
  go_wp2_with fail
  refine (I.out _ (hM.ext hx1)).mono ?_
  rintro e w2 ⟨a2, n2, c2, f2, rfl, hr2, hf2, hx2⟩
  go_wp2_with fail
  refine (eqTokenS_any _ _ _ _ _ hr2.rep (Rep.ext hx2 hr1.rep)).mono ?_
  rintro e w3 ⟨rfl, hx3⟩
  go_wp2_with fail
  refine (markTokenS_any L _ f2 1 w3 (hr2.ext hx3) (hf2.ext hx3).own (by omega) (by omega)).mono ?_
  rintro e w4 ⟨rfl, hr4, ho4, ht4⟩
  have d1 : RepF w4 (MTokens L) _ f1 := ((hr1.ext hx2).ext hx3).touch ht4 fun b hb hb2 => by
    have := hf1.lt hb; have := hf2.ge b hb2; omega
  have x4 : Ext w w4 := ht4.ext ((Ext.refl w).trans (hx1.trans (hx2.trans hx3))) fun b hb => by
    have := hf2.ge b hb; have := hx1.size; omega
  have hq : ((1 : Int) + 3 * L.length != 1 + 3 * L.length) = false := by simp
  have hp : (0 : Int) ≤ 1 + 3 * L.length := by omega
  clear ht4 ho4 hf1 hf2
  go_wp2_with fail
  refine (heldTokenS_any L.length _ 1 w4 hr4.rep (by omega) (by omega)).mono ?_
  rintro e w5 ⟨rfl, hx5⟩
  go_wp2_with fail
  refine (I.out _ (hM.ext (x4.trans hx5))).mono ?_
  rintro e w6 ⟨a6, n6, c6, f6, rfl, hr6, hf6, hx6⟩
  go_wp2_with fail
  refine (eqTokenS_any _ _ _ _ _ hr6.rep (Rep.ext (hx5.trans hx6) d1.rep)).mono ?_
  rintro e w7 ⟨rfl, hx7⟩
  go_wp2_with fail
  refine (heldTokenS_any L.length _ 1 w7 (Rep.ext (hx5.trans (hx6.trans hx7)) hr4.rep) (by omega) (by omega)).mono ?_
  rintro e w8 ⟨rfl, hx8⟩
  go_wp2_with fail
  go_ret
  exact ⟨rfl, x4.trans (hx5.trans (hx6.trans (hx7.trans hx8)))⟩

set_option maxRecDepth 100000 in
theorem fnExactTokens_lifted (os : Os) (started : os.Started) (H : Type) (enc : TypeId × Value → H) :
    ReturnsInHanded {} Tryd.checked os 3 .any (fun w args => (Rows.fnExactTokensSpec.pre enc Tryd.prog Tryd.f3 Rows.fnExactTokensRow.domain false w args ∧ laidMetH Tryd.prog Rows.fnExactTokensRow.laid w) ∧ sizedMet enc Tryd.prog Tryd.f3 (OpenSpec.ofChange Rows.fnExactTokensSpec) false w args) (Rows.fnExactTokensSpec.post enc Tryd.prog Tryd.f3 false true false false) := by
  refine returns_laid (C := Tryd.checked) (X := fun w _ => laidMetH Tryd.prog Rows.fnExactTokensRow.laid w) (fun _ _ _ hh h => h.of_heap hh) Tryd.own started (by kernel_rfl) Tryd.func3
    (ChangeSpec.witness_shaped (enc := enc) (C := Tryd.checked) (os := os) (X := fun w _ => laidMetH Tryd.prog Rows.fnExactTokensRow.laid w) false (World.laidAll Tryd.prog os Rows.fnExactTokensRow.laid) #[.string ByteArray.empty] 8 (World.laidAll_os _ _ _)
      (World.shaped_of_ZipB (by kernel_rfl) (by kernel_rfl)) (by kernel_rfl) (by kernel_rfl) (by kernel_rfl)
      (by rw [MakeChecks.laidMetH_plain _ _ _ (by kernel_rfl)]; exact laidMet_laidAll _ (by kernel_rfl) (by kernel_rfl))) ?_
  intro W base args ds gs before hval0 hW hL hsh
  have hM := max_ok hsh
  have hval : ∀ (j : Nat) t v, Tryd.f3.params[j]? = some t → args[j]? = some v → Value.okWide Tryd.prog W .any base t v := hval0
  have hW' := hW
  obtain ⟨p, q, hA0, hV, rfl, hfz, hnd⟩ := hW
  have hA : DataW.TrodAll enc Tryd.prog W 0 (fun _ => true) true Tryd.f3.params.toList args.toList ds p := hA0
  rw [Tryd.params3] at hA hval
  obtain ⟨v0, d0, rfl, rfl, h0⟩ := trodAll_one hA
  obtain ⟨rfl, rfl⟩ := trodVars_none hV
  obtain ⟨x0, rfl, rfl, rfl, o0⟩ := open_string Tryd.underlying9 (hval 0 9 v0 rfl rfl) h0
  exact (fnExactTokens_calls x0 W  o0 hM).mono fun e W' ⟨he, hb⟩ => ⟨_, he, law_post Tryd.laidOut rfl (by kernel_rfl) rfl Tryd.underlying4 hW' rfl hb⟩

theorem fnExactTokens_holds : Rows.FnExactTokensSaid :=
  OpenClaim.holds_of_wide 3 Tryd.f3 rfl rfl rfl rfl rfl rfl rfl ⟨rfl, rfl, rfl, rfl, rfl⟩ rfl rfl rfl rfl rfl (by kernel_rfl) Tryd.func3 (by kernel_rfl)
    (of_decide_eq_true (by kernel_rfl)) (by unfold Func.isWrapper; rw [if_neg (of_decide_eq_false (by kernel_rfl))]; exact ⟨rfl, rfl⟩)
    (fun os started H enc _ => fnExactTokens_lifted os started H enc)


theorem fnExactTokens_card : Rows.FnExactTokensCardSaid :=
  Claim7.holds_tied_plain_at .later [] [.data, .pinned] true (true, "9759f2bc98cecee1640f2cb3e6727ae902da8638f8ea70e862d158c9cea4fb83") true fnExactTokens_holds (fun _ h => by cases h) (by kernel_rfl) (fun _ h => by cases h) fnExactTokens_row_tie rfl ⟨rfl, rfl⟩ (by kernel_rfl) rfl
    (fun f fn hf hfn => by
      obtain rfl : f = 3 := Option.some.inj ((show Tryd.prog.funcNamed "loop.example/g03108/laws.FnExactTokens" = some 3 by kernel_rfl).symm.trans hf) |>.symm
      obtain rfl : fn = Tryd.f3 := (Option.some.inj (Tryd.func3.symm.trans hfn)).symm
      exact ⟨by kernel_rfl, fun j t ht => by
        rw [Tryd.params3] at ht
        have hm : t ∈ [9] := by
          have h := Array.mem_of_getElem? ht
          simpa using h
        have hall : ([9].all fun u => !Tryd.prog.wantsStandIn u) = true := by kernel_rfl
        exact (show Tryd.prog.wantsStandIn t = false by simpa using List.all_eq_true.1 hall t hm)⟩)
    (by kernel_rfl)

#print axioms fnExactTokens_card


end Go.Proofs.YteecolhljoeofaaDoor
