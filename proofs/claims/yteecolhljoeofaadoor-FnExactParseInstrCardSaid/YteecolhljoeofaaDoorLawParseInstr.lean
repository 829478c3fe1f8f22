/-
  FnExactParseInstr: the program's ParseInstr gives what the reference's gives, for every text.
  Conditions: none.
-/
import Derived.Test.YteecolhljoeofaaDoorErrLaw
import Derived.Test.YteecolhljoeofaaDoorEq
import Derived.Test.YteecolhljoeofaaDoorFnPInstI
namespace Go.Proofs.YteecolhljoeofaaDoor
open Go.ChangeShapes Go.WideShapes Go.ChangeAt Go.RowKit Go.Joins
open Go.ChangeMaps (open_string)
set_option linter.unusedSimpArgs false
set_option linter.unusedVariables false


theorem gives_one {s : ByteArray} {x y : MInstr} {a b : Bool} (h1 : a = true → OkI s x) (h2 : a = false → x = ⟨0, 0, 0, ⟨#[]⟩⟩ ∧ ¬ ∃ y, OkI s y) (k1 : b = true → OkI s y) (k2 : b = false → y = ⟨0, 0, 0, ⟨#[]⟩⟩ ∧ ¬ ∃ y, OkI s y) : x = y ∧ a = b := by
  cases a <;> cases b
  · exact ⟨(h2 rfl).1.trans (k2 rfl).1.symm, rfl⟩
  · exact absurd ⟨_, k1 rfl⟩ (h2 rfl).2
  · exact absurd ⟨_, h1 rfl⟩ (k2 rfl).2
  · exact ⟨ok_uniq (h1 rfl) (k1 rfl), rfl⟩
set_option maxHeartbeats 1000000 in
theorem fnExactParseInstr_calls (s : ByteArray) (w : World) (hs : s.size ≤ maxLen) (hM : MaxOk w ∧ TabOk w ∧ ErrOk w) : Calls Tryd.prog 4 #[.string s] w fun e w' => e = .returned (.bool true) ∧ Ext w w' := by
  unfold maxLen at hs
  go_enter Tryd.func4, Tryd.ntmps4
  by_cases h : s.size ≤ 1048576
  rotate_left
  · go_wp2_with fail
    go_ret
    exact ⟨rfl, Ext.refl _⟩
  go_wp2_with fail
  refine (spec_ParseInstr_any s _ h).mono ?_
  rintro e w1 ⟨⟨op, a, b, t⟩, k1, rfl, hy1, hn1, hx1⟩
  have HY1 := Lib.hid hy1; have HN1 := Lib.hid hn1
  clear hy1 hn1
  simp only
  go_wp2_with fail
  generalize hS : World.alloc w1 _ = W1
  have e1 : Ext w W1 := by rw [← hS]; exact hx1.alloc _
  have M0 : W1.cell? ⟨w1.heap.size, 0, none⟩ = some (.int .i64 op) := by rw [← hS]; simp
  have M1 : W1.cell? ⟨w1.heap.size, 1, none⟩ = some (.int .i64 a) := by rw [← hS]; simp
  have M2 : W1.cell? ⟨w1.heap.size, 2, none⟩ = some (.int .i64 b) := by rw [← hS]; simp
  have M3 : W1.cell? ⟨w1.heap.size, 3, none⟩ = some (.string t) := by rw [← hS]; simp
  clear hS
  refine (impl_ParseInstr_any s _ h (hM.1.ext e1) (hM.2.1.ext e1) (hM.2.2.ext e1)).mono ?_
  rintro e w2 ⟨⟨op2, a2, b2, t2⟩, k2, rfl, hy2, hn2, hx2⟩
  obtain ⟨he, hk⟩ := gives_one HY1.out HN1.out hy2 hn2
  injection he with he1 he2 he3 he4
  subst he1 he2 he3 he4 hk
  clear hy2 hn2
  have ht : eqB (MInstr.mk op a b t) (MInstr.mk op a b t) = true := eqB_tt rfl
  have hkk : (!k1 == k1) = false := bool_eqn rfl
  replace M0 := Ext.cell hx2 M0
  replace M1 := Ext.cell hx2 M1
  replace M2 := Ext.cell hx2 M2
  replace M3 := Ext.cell hx2 M3
  have zz : w1.heap.size < w2.heap.size := lt_of_cell M0
  simp only
  go_wp2_with fail
  refine (eqInstr_any ⟨op, a, b, t⟩ ⟨op, a, b, t⟩ [.int .i64 op, .int .i64 a, .int .i64 b, .string t] [.int .i64 op, .int .i64 a, .int .i64 b, .string t] _ (instr_rep _ _ _ _ _) (instr_rep _ _ _ _ _)).mono ?_
  rintro e w3 ⟨rfl, hx3⟩
  rw [ht]
  go_wp2_with fail
  go_ret
  exact ⟨rfl, ((e1.trans hx2).alloc _).trans hx3⟩

set_option maxRecDepth 100000 in
theorem fnExactParseInstr_lifted (os : Os) (started : os.Started) (H : Type) (enc : TypeId × Value → H) :
    ReturnsInHanded {} Tryd.checked os 4 .any (fun w args => (Rows.fnExactParseInstrSpec.pre enc Tryd.prog Tryd.f4 Rows.fnExactParseInstrRow.domain false w args ∧ laidMetH Tryd.prog Rows.fnExactParseInstrRow.laid w) ∧ sizedMet enc Tryd.prog Tryd.f4 (OpenSpec.ofChange Rows.fnExactParseInstrSpec) false w args) (Rows.fnExactParseInstrSpec.post enc Tryd.prog Tryd.f4 false true false false) := by
  refine returns_laid (C := Tryd.checked) (X := fun w _ => laidMetH Tryd.prog Rows.fnExactParseInstrRow.laid w) (fun _ _ _ hh h => h.of_heap hh) Tryd.own started (by kernel_rfl) Tryd.func4
    (ChangeSpec.witness_shaped (enc := enc) (C := Tryd.checked) (os := os) (X := fun w _ => laidMetH Tryd.prog Rows.fnExactParseInstrRow.laid w) false (World.laidAll Tryd.prog os Rows.fnExactParseInstrRow.laid) #[.string ByteArray.empty] 8 (World.laidAll_os _ _ _)
      (World.shaped_of_ZipB (by kernel_rfl) (by kernel_rfl)) (by kernel_rfl) (by kernel_rfl) (by kernel_rfl)
      (by rw [MakeChecks.laidMetH_plain _ _ _ (by kernel_rfl)]; exact laidMet_laidAll _ (by kernel_rfl) (by kernel_rfl))) ?_
  intro W base args ds gs before hval0 hW hL hsh
  have hM := And.intro (max_ok hsh) (And.intro (door_tab hL (by kernel_rfl) (i := 2) (by kernel_rfl)) (err_laid hL (by kernel_rfl) (i := 4) (j := 3) rfl rfl))
  have hval : ∀ (j : Nat) t v, Tryd.f4.params[j]? = some t → args[j]? = some v → Value.okWide Tryd.prog W .any base t v := hval0
  have hW' := hW
  obtain ⟨p, q, hA0, hV, rfl, hfz, hnd⟩ := hW
  have hA : DataW.TrodAll enc Tryd.prog W 0 (fun _ => true) true Tryd.f4.params.toList args.toList ds p := hA0
  rw [Tryd.params4] at hA hval
  obtain ⟨v0, d0, rfl, rfl, h0⟩ := trodAll_one hA
  obtain ⟨rfl, rfl⟩ := trodVars_none hV
  obtain ⟨x0, rfl, rfl, rfl, o0⟩ := open_string Tryd.underlying9 (hval 0 9 v0 rfl rfl) h0
  exact (fnExactParseInstr_calls x0 W  o0 hM).mono fun e W' ⟨he, hb⟩ => ⟨_, he, law_post Tryd.laidOut rfl (by kernel_rfl) rfl Tryd.underlying4 hW' rfl hb⟩

theorem fnExactParseInstr_holds : Rows.FnExactParseInstrSaid :=
  OpenClaim.holds_of_wide 4 Tryd.f4 rfl rfl rfl rfl rfl rfl rfl ⟨rfl, rfl, rfl, rfl, rfl⟩ rfl rfl rfl rfl rfl (by kernel_rfl) Tryd.func4 (by kernel_rfl)
    (of_decide_eq_true (by kernel_rfl)) (by unfold Func.isWrapper; rw [if_neg (of_decide_eq_false (by kernel_rfl))]; exact ⟨rfl, rfl⟩)
    (fun os started H enc _ => fnExactParseInstr_lifted os started H enc)


theorem fnExactParseInstr_card : Rows.FnExactParseInstrCardSaid :=
  Claim7.holds_tied_plain_at .later [] [.data, .data, .data, .sentinel, .sentinel] true (true, "9759f2bc98cecee1640f2cb3e6727ae902da8638f8ea70e862d158c9cea4fb83") true fnExactParseInstr_holds (fun _ h => by cases h) (by kernel_rfl) (fun _ h => by cases h) fnExactParseInstr_row_tie rfl ⟨rfl, rfl⟩ (by kernel_rfl) rfl
    (fun f fn hf hfn => by
      obtain rfl : f = 4 := Option.some.inj ((show Tryd.prog.funcNamed "loop.example/g03108/laws.FnExactParseInstr" = some 4 by kernel_rfl).symm.trans hf) |>.symm
      obtain rfl : fn = Tryd.f4 := (Option.some.inj (Tryd.func4.symm.trans hfn)).symm
      exact ⟨by kernel_rfl, fun j t ht => by
        rw [Tryd.params4] at ht
        have hm : t ∈ [9] := by
          have h := Array.mem_of_getElem? ht
          simpa using h
        have hall : ([9].all fun u => !Tryd.prog.wantsStandIn u) = true := by kernel_rfl
        exact (show Tryd.prog.wantsStandIn t = false by simpa using List.all_eq_true.1 hall t hm)⟩)
    (by kernel_rfl)

#print axioms fnExactParseInstr_card


end Go.Proofs.YteecolhljoeofaaDoor
