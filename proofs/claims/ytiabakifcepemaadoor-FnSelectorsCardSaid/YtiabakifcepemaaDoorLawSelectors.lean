/-
  FnSelectors: a selector has as many arguments as it has colons, and a binary one has one.
  Conditions: none.
-/
import Derived.Test.YtiabakifcepemaaDoorDoorLaw
import Derived.Test.YtiabakifcepemaaDoorFnDraws
import Derived.ChangeSlices
namespace Go.Proofs.YtiabakifcepemaaDoor
open Go.ChangeShapes Go.WideShapes Go.ChangeAt Go.RowKit Go.Joins
open Go.ChangeMaps (open_string)
set_option linter.unusedSimpArgs false
set_option linter.unusedVariables false


theorem bytes_of_trod {H : Type} {enc : TypeId × Value → H} {W : World} {fuel : Nat} {ao : Option Addr} {n cap : Nat} {d : DataW H × List MemPlace} (h : DataW.trod enc Tryd.prog W 0 (fun _ => true) true fuel 29 [.slice ao n cap] = some d) : Bytes W (.slice ao n cap) := by
  rcases open_ints Tryd.underlying29 Tryd.underlying5 (show Tryd.prog.cellsOf 5 = 1 by kernel_rfl) h with ⟨hcs, -⟩ | ⟨a, len, cap', zs, hcs, -, hl, hm, hz, -, hcell, hwz⟩
  · simp only [List.cons.injEq, Value.slice.injEq, and_true] at hcs
    obtain ⟨rfl, rfl, rfl⟩ := hcs
    exact ⟨_, _, _, rfl, by omega, Or.inl rfl⟩
  · simp only [List.cons.injEq, Value.slice.injEq, and_true] at hcs
    obtain ⟨rfl, rfl, rfl⟩ := hcs
    have hz : zs.length = cap := hz
    refine ⟨_, _, _, rfl, by unfold maxLen at hm; omega, Or.inr ⟨a, rfl, fun k hk => ⟨zs.getD k 0, hcell k (by omega), ?_⟩⟩⟩
    have hw := hwz (zs.getD k 0) (by
      rw [List.getD_eq_getElem?_getD, List.getElem?_eq_getElem (by omega : k < zs.length)]
      exact List.getElem_mem _)
    generalize zs.getD k 0 = z at hw ⊢
    simp [Lit.wf, IntKind.min, IntKind.max, IntKind.signed, IntKind.bits] at hw
    have := hw.1; have := hw.2
    omega

theorem op_facts {s : ByteArray} (h : s ∈ opsL) : partB s = false ∧ s.data.toList.count 58 = 0 := by
  simp only [opsL, List.mem_cons, List.not_mem_nil, or_false] at h
  rcases h with rfl | rfl | rfl | rfl | rfl | rfl | rfl | rfl | rfl | rfl | rfl | rfl | rfl | rfl | rfl <;> exact ⟨by decide, by decide⟩
theorem kw_count {s : ByteArray} (h : colB s = true) : (cutB 58 (stem s)).length = s.data.toList.count 58 := by
  obtain ⟨l, hl⟩ := colB_iff.1 h
  rw [cutB_length, stem_data hl, hl, List.count_append]
  simp

set_option maxHeartbeats 1000000 in
theorem big_any (ao : Option Addr) (n cap : Nat) (w : World) (hn : n ≤ 9223372036854775807) : Calls Tryd.prog 19 #[.slice ao n cap] w fun e w' => e = .returned (.bool (decide (1048576 < n))) ∧ w' = w := by
  go_enter Tryd.func19, Tryd.ntmps19
  by_cases h : 1048576 < n
  · have h' : (1048576 : Int) < n := by omega
    go_wp2_with fail
    go_ret
    exact ⟨ret_bool (by simp [h]), rfl⟩
  · have h' : (n : Int) ≤ 1048576 := by omega
    go_wp2_with fail
    go_ret
    exact ⟨ret_bool (by rw [decide_eq_false h]; exact decide_eq_false (by omega)), rfl⟩

set_option maxHeartbeats 2000000 in
theorem fnSelectors_calls (v : Value) (w : World) (hc : Bytes w v) (hM : MaxOk w) : Calls Tryd.prog 6 #[v] w fun e w' => e = .returned (.bool true) ∧ Ext w w' := by
  have hc' := hc
  obtain ⟨ao, n, cap, rfl, hn, -⟩ := hc'
  go_enter Tryd.func6, Tryd.ntmps6
  go_wp2_with fail
  refine (big_any ao n cap _ hn).mono ?_
  cases hb : decide (1048576 < n)
  rotate_left
  · rintro e w' ⟨rfl, rfl⟩
    go_wp2_with fail
    go_ret
    exact ⟨rfl, Ext.refl _⟩
  rintro e w' ⟨rfl, rfl⟩
  clear hb
  go_wp2_with fail
  refine (DrawIsSelector_any _ _ hc).mono ?_
  rintro e w1 ⟨⟨s, rfl, hs⟩, hx1⟩
  go_wp2_with fail
  refine (impl_CountArgs_any s _ hs (hM.ext hx1)).mono ?_
  rintro e w2 ⟨rfl, hx2⟩
  have e3 : Ext w' w2 := hx1.trans hx2
  clear hx1 hx2
  generalize hN : argsB s = N
  have HN0 := Lib.hid hN; clear hN
  go_wp2_with fail
  go_loop [5, 6] (fun cv iv => ∃ k : Nat, iv = .int .i64 k ∧ k ≤ s.size ∧ cv = .int .i64 ((s.data.toList.take k).count 58 : Nat)) (fun _ iv => s.size - (intOf iv).toNat)
  case atStart => exact ⟨0, rfl, Nat.zero_le _, by simp⟩
  case round =>
    obtain ⟨k, rfl, hk, rfl⟩ := hrel
    by_cases hlt : k < s.size
    · have hcl : ((s.data.toList.take k).count 58) ≤ k := Nat.le_trans List.count_le_length (by simp; omega)
      have hg : s.data.toList[k]? = some s[k] := by
        rw [List.getElem?_eq_getElem (by simpa using hlt)]; rfl
      have hstep := Lib.hid (take_snoc hg)
      generalize hC : (s.data.toList.take k).count 58 = C at *
      have HC := Lib.hid hC; clear hC
      by_cases h5 : s[k] = 58
      · have t5 : ((s[k].toNat : Int) == 58) = true := int_eq (by rw [h5]; rfl)
        have H5 := Lib.hid h5; clear h5
        go_wp2_with fail
        go_round
        case rel => exact ⟨k + 1, by go_num, by omega, by rw [hstep.out, List.count_append, HC.out, H5.out] <;> simp⟩
        case measure => simp [intOf]; omega
      · have t5 : ((s[k].toNat : Int) == 58) = false := int_ne (fun e => h5 (UInt8.toNat_inj.1 (by show s[k].toNat = 58; omega)))
        have H5 := Lib.hid h5; clear h5
        go_wp2_with fail
        go_round
        case rel => exact ⟨k + 1, by go_num, by omega, by rw [hstep.out, List.count_append, HC.out] <;> simp [H5.out]⟩
        case measure => simp [intOf]; omega
    · obtain rfl : k = s.size := by omega
      have hall : s.data.toList.take s.size = s.data.toList := List.take_of_length_le (by simp)
      rw [hall]
      clear hall hk
      cases ho : hasB opsL s
      · cases hnm : nameB s
        · have HN := Lib.hid hnm; clear hnm
          cases hkw : kwB s
          · have HS : Hid (selB s = false) := Lib.hid (by simp [selB, ho, HN.out, hkw])
            obtain rfl : N = -1 := by rw [← HN0.out]; simp [argsB, ho, HN.out, hkw]
            clear HN0 ho hkw
            go_wp2_with fail
            refine (impl_IsSelector_any s _ hs (hM.ext e3)).mono ?_
            rw [HS.out]
            rintro e w4 ⟨rfl, hx4⟩
            go_wp2_with fail
            refine (impl_IsSelector_any s _ hs (hM.ext (e3.trans hx4))).mono ?_
            rw [HS.out]
            rintro e w5 ⟨rfl, hx5⟩
            go_wp2_with fail
            refine (spec_IsSelector_any s _ hs).mono ?_
            rw [HS.out]
            rintro e w6 ⟨rfl, hx6⟩
            go_wp2_with fail
            refine (impl_IsName_any s _ (by omega)).mono ?_
            rw [HN.out]
            rintro e w7 ⟨rfl, hx7⟩
            go_wp2_with fail
            go_ret
            exact ⟨rfl, e3.trans (hx4.trans (hx5.trans (hx6.trans hx7)))⟩
          · have HS : Hid (selB s = true) := Lib.hid (by simp [selB, ho, HN.out, hkw])
            have hcol : colB s = true := by unfold kwB at hkw; simp at hkw; exact hkw.1
            have hcnt := kw_count hcol
            have hpos : 1 ≤ (cutB 58 (stem s)).length := by rw [cutB_length]; omega
            obtain rfl : N = (s.data.toList.count 58 : Nat) := by rw [← HN0.out, ← hcnt]; simp [argsB, ho, HN.out, hkw]
            rw [hcnt] at hpos
            clear HN0 ho hkw hcnt hcol
            generalize s.data.toList.count 58 = c at *
            have f0 : (0 : Int) < c := by omega
            have f1 : (0 : Int) ≤ c := by omega
            go_wp2_with fail
            refine (impl_IsSelector_any s _ hs (hM.ext e3)).mono ?_
            rw [HS.out]
            rintro e w4 ⟨rfl, hx4⟩
            go_wp2_with fail
            refine (impl_IsSelector_any s _ hs (hM.ext (e3.trans hx4))).mono ?_
            rw [HS.out]
            rintro e w5 ⟨rfl, hx5⟩
            go_wp2_with fail
            refine (spec_IsSelector_any s _ hs).mono ?_
            rw [HS.out]
            rintro e w6 ⟨rfl, hx6⟩
            go_wp2_with fail
            refine (impl_IsName_any s _ (by omega)).mono ?_
            rw [HN.out]
            rintro e w7 ⟨rfl, hx7⟩
            go_wp2_with fail
            go_ret
            exact ⟨rfl, e3.trans (hx4.trans (hx5.trans (hx6.trans hx7)))⟩
        · have HN := Lib.hid hnm; clear hnm
          have HS : Hid (selB s = true) := Lib.hid (by simp [selB, ho, HN.out])
          obtain rfl : N = 0 := by rw [← HN0.out]; simp [argsB, ho, HN.out]
          clear HN0 ho
          generalize s.data.toList.count 58 = c at *
          go_wp2_with fail
          refine (impl_IsSelector_any s _ hs (hM.ext e3)).mono ?_
          rw [HS.out]
          rintro e w4 ⟨rfl, hx4⟩
          go_wp2_with fail
          refine (impl_IsSelector_any s _ hs (hM.ext (e3.trans hx4))).mono ?_
          rw [HS.out]
          rintro e w5 ⟨rfl, hx5⟩
          go_wp2_with fail
          refine (spec_IsSelector_any s _ hs).mono ?_
          rw [HS.out]
          rintro e w6 ⟨rfl, hx6⟩
          go_wp2_with fail
          refine (impl_IsName_any s _ (by omega)).mono ?_
          rw [HN.out]
          rintro e w7 ⟨rfl, hx7⟩
          go_wp2_with fail
          go_ret
          exact ⟨rfl, e3.trans (hx4.trans (hx5.trans (hx6.trans hx7)))⟩
      · have hmem := hasB_iff.1 ho
        obtain ⟨hp, hcz⟩ := op_facts hmem
        have HN : Hid (nameB s = false) := Lib.hid (by simp [nameB, hp])
        have HS : Hid (selB s = true) := Lib.hid (by simp [selB, ho])
        obtain rfl : N = 1 := by rw [← HN0.out]; simp [argsB, ho]
        rw [hcz]
        clear HN0 ho hmem hp hcz
        go_wp2_with fail
        refine (impl_IsSelector_any s _ hs (hM.ext e3)).mono ?_
        rw [HS.out]
        rintro e w4 ⟨rfl, hx4⟩
        go_wp2_with fail
        refine (impl_IsSelector_any s _ hs (hM.ext (e3.trans hx4))).mono ?_
        rw [HS.out]
        rintro e w5 ⟨rfl, hx5⟩
        go_wp2_with fail
        refine (spec_IsSelector_any s _ hs).mono ?_
        rw [HS.out]
        rintro e w6 ⟨rfl, hx6⟩
        go_wp2_with fail
        refine (impl_IsName_any s _ (by omega)).mono ?_
        rw [HN.out]
        rintro e w7 ⟨rfl, hx7⟩
        go_wp2_with fail
        refine (impl_IsName_any s _ (by omega)).mono ?_
        rw [HN.out]
        rintro e w8 ⟨rfl, hx8⟩
        go_wp2_with fail
        go_ret
        exact ⟨rfl, e3.trans (hx4.trans (hx5.trans (hx6.trans (hx7.trans hx8))))⟩


set_option maxRecDepth 100000 in
theorem fnSelectors_lifted (os : Os) (started : os.Started) (H : Type) (enc : TypeId × Value → H) :
    ReturnsInHanded {} Tryd.checked os 6 .any (fun w args => (Rows.fnSelectorsSpec.pre enc Tryd.prog Tryd.f6 Rows.fnSelectorsRow.domain false w args ∧ laidMetH Tryd.prog Rows.fnSelectorsRow.laid w) ∧ sizedMet enc Tryd.prog Tryd.f6 (OpenSpec.ofChange Rows.fnSelectorsSpec) false w args) (Rows.fnSelectorsSpec.post enc Tryd.prog Tryd.f6 false true false false) := by
  refine returns_laid (C := Tryd.checked) (X := fun w _ => laidMetH Tryd.prog Rows.fnSelectorsRow.laid w) (fun _ _ _ hh h => h.of_heap hh) Tryd.own started (by kernel_rfl) Tryd.func6
    (ChangeSpec.witness_shaped (enc := enc) (C := Tryd.checked) (os := os) (X := fun w _ => laidMetH Tryd.prog Rows.fnSelectorsRow.laid w) false (World.laidAll Tryd.prog os Rows.fnSelectorsRow.laid) #[.slice none 0 0] 8 (World.laidAll_os _ _ _)
      (World.shaped_of_ZipB (by kernel_rfl) (by kernel_rfl)) (by kernel_rfl) (by kernel_rfl) (by kernel_rfl)
      (by rw [MakeChecks.laidMetH_plain _ _ _ (by kernel_rfl)]; exact laidMet_laidAll _ (by kernel_rfl) (by kernel_rfl))) ?_
  intro W base args ds gs before hval0 hW _ hsh
  have hM := max_ok hsh
  have hval : ∀ (j : Nat) t v, Tryd.f6.params[j]? = some t → args[j]? = some v → Value.okWide Tryd.prog W .any base t v := hval0
  have hW' := hW
  obtain ⟨p, q, hA0, hV, rfl, hfz, hnd⟩ := hW
  have hA : DataW.TrodAll enc Tryd.prog W 0 (fun _ => true) true Tryd.f6.params.toList args.toList ds p := hA0
  rw [Tryd.params6] at hA hval
  obtain ⟨v0, d0, rfl, rfl, h0⟩ := trodAll_one hA
  obtain ⟨rfl, rfl⟩ := trodVars_none hV
  obtain ⟨ao0, ln0, cp0, rfl⟩ := okWide_slice Tryd.underlying29 (hval 0 29 v0 rfl rfl)
  obtain ⟨fu0, hh0⟩ := h0
  have hh0 : DataW.trod enc Tryd.prog W 0 (fun _ => true) true fu0 29 [.slice ao0 ln0 cp0] = some _ := hh0
  exact (fnSelectors_calls _ W (bytes_of_trod hh0)  hM).mono fun e W' ⟨he, hb⟩ => ⟨_, he, law_post Tryd.laidOut rfl (by kernel_rfl) rfl Tryd.underlying4 hW' rfl hb⟩

theorem fnSelectors_holds : Rows.FnSelectorsSaid :=
  OpenClaim.holds_of_wide 6 Tryd.f6 rfl rfl rfl rfl rfl rfl rfl ⟨rfl, rfl, rfl, rfl, rfl⟩ rfl rfl rfl rfl rfl (by kernel_rfl) Tryd.func6 (by kernel_rfl)
    (of_decide_eq_true (by kernel_rfl)) (by unfold Func.isWrapper; rw [if_neg (of_decide_eq_false (by kernel_rfl))]; exact ⟨rfl, rfl⟩)
    (fun os started H enc _ => fnSelectors_lifted os started H enc)


theorem fnSelectors_card : Rows.FnSelectorsCardSaid :=
  Claim7.holds_tied_plain_at .later [] [.data, .pinned] true (true, "73db4888d4b648dc3ab72518d9100e4a68f18563daa06ade48114f58a87937d2") false fnSelectors_holds (fun _ h => by cases h) (by kernel_rfl) (fun _ h => by cases h) fnSelectors_row_tie rfl ⟨rfl, rfl⟩ (by kernel_rfl) rfl
    (fun f fn hf hfn => by
      obtain rfl : f = 6 := Option.some.inj ((show Tryd.prog.funcNamed "loop.example/g03108/laws.FnSelectors" = some 6 by kernel_rfl).symm.trans hf) |>.symm
      obtain rfl : fn = Tryd.f6 := (Option.some.inj (Tryd.func6.symm.trans hfn)).symm
      exact ⟨by kernel_rfl, fun j t ht => by
        rw [Tryd.params6] at ht
        have hm : t ∈ [29] := by
          have h := Array.mem_of_getElem? ht
          simpa using h
        have hall : ([29].all fun u => !Tryd.prog.wantsStandIn u) = true := by kernel_rfl
        exact (show Tryd.prog.wantsStandIn t = false by simpa using List.all_eq_true.1 hall t hm)⟩)
    (by kernel_rfl)

#print axioms fnSelectors_card


end Go.Proofs.YtiabakifcepemaaDoor
