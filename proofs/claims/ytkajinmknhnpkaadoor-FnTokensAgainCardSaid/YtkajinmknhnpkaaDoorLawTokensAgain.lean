/-
  FnTokensAgain: tokens are read again from their texts, for every code.
  Conditions: none.
-/
import Derived.Test.YtkajinmknhnpkaaDoorDoorLaw
import Derived.Test.YtkajinmknhnpkaaDoorTokB
import Derived.Test.YtkajinmknhnpkaaDoorFnTokZ
import Derived.Test.YtkajinmknhnpkaaDoorFnDrawZ
import Derived.ChangeSlices
import Derived.BigQuiet
namespace Go.Proofs.YtkajinmknhnpkaaDoor
open Go.ChangeShapes Go.WideShapes Go.ChangeAt Go.RowKit Go.Joins
open Go.ChangeMaps (open_string)
set_option linter.unusedSimpArgs false
set_option linter.unusedVariables false


theorem bytes_of_trod {H : Type} {enc : TypeId × Value → H} {W : World} {fuel : Nat} {ao : Option Addr} {n cap : Nat} {d : DataW H × List MemPlace} (h : DataW.trod enc Tryd.prog W 0 (fun _ => true) true fuel 22 [.slice ao n cap] = some d) : Bytes W (.slice ao n cap) := by
  rcases open_ints Tryd.underlying22 Tryd.underlying5 (show Tryd.prog.cellsOf 5 = 1 by kernel_rfl) h with ⟨hcs, -⟩ | ⟨a, len, cap', zs, hcs, -, hl, hm, hz, -, hcell, hwz⟩
  · simp only [List.cons.injEq, Value.slice.injEq, and_true] at hcs
    obtain ⟨rfl, rfl, rfl⟩ := hcs
    exact ⟨_, _, _, rfl, by omega, Or.inl rfl⟩
  · simp only [List.cons.injEq, Value.slice.injEq, and_true] at hcs
    obtain ⟨rfl, rfl, rfl⟩ := hcs
    have hz : zs.length = cap := hz
    refine ⟨_, _, _, rfl, by unfold maxLen at hm; omega, Or.inr ⟨a, rfl, fun k hk => ⟨zs.getD k 0, hcell k (by omega), ?_⟩⟩⟩
    have hw := hwz (zs.getD k 0) (by
      rw [List.getD_eq_getElem?_getD, List.getElem?_eq_getElem (by omega : k < zs.length)]
      exact List.getElem_mem _)
    generalize zs.getD k 0 = z at hw ⊢
    simp [Lit.wf, IntKind.min, IntKind.max, IntKind.signed, IntKind.bits] at hw
    have := hw.1; have := hw.2
    omega

theorem lens_sum : ∀ ts : List MToken, Lib.lens ((ts.map tokB).map (·.data.toList)) ≤ sumT ts
  | [] => by simp [Lib.lens, sumT]
  | t :: ts => by
    have := lens_sum ts
    simp only [List.map_cons, Lib.lens, sumT] at *
    simp at *
    omega
theorem toks_sum {s : ByteArray} {ts : List MToken} (h : toksL s = some ts) (hs : s.size ≤ 1000) : sumT ts ≤ 2000 := by
  unfold toksL at h
  rw [if_neg (by omega)] at h
  obtain ⟨q1, q2⟩ := scan_again _ s.data.toList [] ts (Nat.le_refl _) (by simp) h
  have hz : s.data.toList.length = s.size := by simp
  simp only [sumT, Nat.zero_add] at q2
  omega
theorem tok_fmt {t : MToken} (h : TokS 1084 t) : t.d.ok ∧ t.d.bulk ≤ 1048576 := by
  obtain ⟨h1, ⟨h2, h3⟩, h4, h5⟩ := h
  rw [MToken.d_eq]
  simp only [D.ok, D.okL, D.bulk, D.bulkL]
  refine ⟨⟨⟨by omega, by omega⟩, by omega, ⟨by omega, by omega⟩, trivial⟩, by omega⟩
/-- What the tokens of a text are. -/
theorem toks_two {s : ByteArray} (hs : s.size ≤ 1000) : ∃ (b : Bool) (L : List MToken), (toksL s).isSome = b ∧ (toksL s).getD [] = L ∧ (b = false → L = []) ∧ (b = true → toksL s = some L) ∧ (∀ t, t ∈ L → TokS 1084 t) ∧ L.length ≤ 800 ∧ sumT L ≤ 2000 := by
  cases h : toksL s with
  | none => exact ⟨false, [], rfl, rfl, (fun _ => rfl), (fun h => nomatch h), (fun t ht => nomatch ht), Nat.zero_le _, Nat.zero_le _⟩
  | some L =>
    have := toks_len s
    rw [h] at this
    exact ⟨true, L, rfl, rfl, (fun h => nomatch h), (fun _ => rfl), toks_s h hs, this, toks_sum h hs⟩

set_option maxHeartbeats 1000000 in
theorem big_any (ao : Option Addr) (n cap : Nat) (w : World) (hn : n ≤ 9223372036854775807) : Calls Tryd.prog 4 #[.slice ao n cap] w fun e w' => e = .returned (.bool (decide (1048576 < n))) ∧ w' = w := by
  go_enter Tryd.func4, Tryd.ntmps4
  by_cases h : 1048576 < n
  · have h' : (1048576 : Int) < n := by omega
    go_wp2_with fail
    go_ret
    exact ⟨ret_bool (by simp [h]), rfl⟩
  · have h' : (n : Int) ≤ 1048576 := by omega
    go_wp2_with fail
    go_ret
    exact ⟨ret_bool (by rw [decide_eq_false h]; exact decide_eq_false (by omega)), rfl⟩

set_option maxRecDepth 100000 in
set_option maxHeartbeats 4000000 in
theorem fnTokensAgain_calls (v : Value) (w : World) (hc : Bytes w v) (hM : MaxOk w ∧ TabOk w) : Calls Tryd.prog 3 #[v] w fun e w' => e = .returned (.bool true) ∧ Ext w w' := by
  obtain ⟨n, z, hz⟩ := hc.told
  have hz' := hz
  obtain ⟨ao, cap, rfl, hn, -⟩ := hz'
  clear hc
  go_enter Tryd.func3, Tryd.ntmps3
  go_wp2_with fail
  refine (big_any ao n cap _ hn).mono ?_
  cases hb : decide (1048576 < n)
  rotate_left
  · rintro e w' ⟨rfl, rfl⟩
    go_wp2_with fail
    go_ret
    exact ⟨rfl, Ext.refl _⟩
  have hn2 : n ≤ 1048576 := by have := of_decide_eq_false hb; omega
  rintro e w' ⟨rfl, rfl⟩
  clear hb
  have HD : Hid (∀ W, Ext w' W → Calls Tryd.prog 6 #[.slice ao n cap] W fun e w2 => e = .returned (.string (drawTok n z)) ∧ Ext W w2) := Lib.hid fun W h => DrawTokens_told _ n z W (hz.ext h) hn2
  have hs : (drawTok n z).size ≤ 1000 := drawTok_size n z
  generalize drawTok n z = s at *
  obtain ⟨b, L, hb1, hL1, hbf, hbt, hTS, hL8, hsum⟩ := toks_two hs
  go_wp2_with fail
  refine (HD.out _ (Ext.refl _)).mono ?_
  rintro e w1 ⟨rfl, hx1⟩
  go_wp2_with fail
  refine (impl_Tokens_any s _ (by omega) (hM.1.ext hx1)).mono ?_
  rintro e w2 ⟨a2, n2, c2, f2, rfl, hr2, -, hx2⟩
  rw [hL1] at hr2
  rw [hb1]
  have e2 := hx1.trans hx2
  clear hx1 hx2
  go_wp2_with fail
  refine (HD.out _ e2).mono ?_
  rintro e w3 ⟨rfl, hx3⟩
  go_wp2_with fail
  refine (spec_Tokens_any s _ (by omega)).mono ?_
  rintro e w4 ⟨a4, n4, c4, f4, rfl, -, -, hx4⟩
  rw [hb1]
  have e4 := (e2.trans hx3).trans hx4
  have hbb : (!b == b) = false := by cases b <;> rfl
  have RL := Lib.hid (Rep.ext (hx3.trans hx4) hr2.rep)
  obtain ⟨ao2, co2, bb, oo, h1, hl2, hm2, pp, hel⟩ := Rep.slmap RL.out
  simp only [List.cons.injEq, and_true, Value.slice.injEq] at h1
  obtain ⟨rfl, rfl, rfl⟩ := h1
  have HEL := Lib.hid hel
  have HBF := Lib.hid hbf; have HBT := Lib.hid hbt; have HTS := Lib.hid hTS; have HSUM := Lib.hid hsum
  have hA : AccT w4.heap.size (w4.alloc (.cells #[] 9)) (.slice (some ⟨w4.heap.size, 0, none⟩) 0 0) ((L.take 0).map tokB) := Acc.empty _ _ (Nat.le_refl _)
  have hy : Ext w4 (w4.alloc (.cells #[] 9)) := (Ext.refl w4).alloc _
  clear hr2 hx3 hx4 hel hb1 hL1 hbf hbt hTS hsum e2 HD hz
  unfold maxLen at hm2
  go_wp2_with fail
  go_loopw [7, 8] (fun pv iv wr => ∃ i : Nat, i ≤ L.length ∧ iv = .int .i64 i ∧ AccT w4.heap.size wr pv ((L.take i).map tokB) ∧ Ext w4 wr) (fun _ iv _ => L.length - (intOf iv).toNat)
  case atStart => exact ⟨0, Nat.zero_le _, rfl, hA, hy⟩
  case round =>
    obtain ⟨i, hi, rfl, hacc, hx⟩ := hrel
    clear hA hy
    by_cases hlt : i < L.length
    · obtain rfl := pp (by omega)
      obtain ⟨t, ht⟩ : ∃ t, L[i]? = some t := ⟨L[i], by simp [hlt]⟩
      obtain ⟨es, les, ces, res⟩ := HEL.out i t ht
      obtain rfl := MToken.op_en res
      have p0 : wr.cell? ⟨bb, oo + i * 3, none⟩ = some (.int .i64 t.kind) := hx.cell (ces 0 (by omega))
      have p1 : wr.cell? ⟨bb, oo + i * 3 + 1, none⟩ = some (.string t.text) := hx.cell (ces 1 (by omega))
      have p2 : wr.cell? ⟨bb, oo + i * 3 + 2, none⟩ = some (.int .i64 t.number) := hx.cell (ces 2 (by omega))
      obtain ⟨hok, hbk⟩ := tok_fmt (HTS.out t (List.mem_of_getElem? ht))
      have HOK := Lib.hid hok
      have HST : Hid ((L.take i).map tokB ++ [tokB t] = (L.take (i + 1)).map tokB) := Lib.hid (by rw [List.take_add_one, ht]; simp)
      have hlen : ((L.take i).map tokB).length = i := by simp; omega
      have RT : Hid (∀ W, Rep W t.d [.int .i64 t.kind, .string t.text, .int .i64 t.number]) := Lib.hid fun W => (MToken.shut (w := W) (x := t)).rep
      have hil : (i : Int) < L.length := by omega
      clear les ces res ht hok
      generalize (L.take i).map tokB = P at *
      go_wp2_with fail
      refine (impl_FormatToken_any t _ _ (RT.out _) hbk HOK.out (hM.2.ext (e4.trans hx)) (hM.1.ext (e4.trans hx))).mono ?_
      rintro e w5 ⟨rfl, hx5⟩
      have hac5 := hacc.ext hx5
      have hx45 := hx.trans hx5
      have hz5 := hx45.size
      go_wp2_with (at_builtin; refine wpList_append_strs rfl _ _ rfl w4.heap.size _ P rfl (hac5.ext ((Ext.refl _).alloc _)) [tokB t] _ _ _ rfl (rep_one _ _) (by first | omega | (simp; omega)) (by first | omega | (simp; omega)) ?_)
      intro ao3 cap3 w6 ac hg
      have hx6 : Ext w4 w6 := AccT.below (hac5.ext ((Ext.refl _).alloc (.cells #[.string (tokB t)] 9))) (hx45.alloc _) hg (by simp; omega)
      go_wp2_with fail
      go_roundw
      case rel => exact ⟨i + 1, by omega, by go_num, by rw [← HST.out]; exact ac, hx6⟩
      case measure => simp [intOf]; omega
    · obtain rfl : i = L.length := by omega
      rw [List.take_length] at hacc
      obtain ⟨ao5, cap5, gp5, rfl, h5, -⟩ := hacc.rep
      rw [List.length_map] at h5 ⊢
      have e5 := e4.trans hx
      have HL5 : Hid (Lib.lens ((L.map tokB).map (·.data.toList)) ≤ 1048576) := Lib.hid (by have := lens_sum L; have := HSUM.out; omega)
      have H5 := Lib.hid h5.rep
      clear h5
      have hml : (L.map tokB).length ≤ 1048576 := by simp; omega
      go_wp2_with fail
      refine (impl_Join_any (L.map tokB) ⟨#[32]⟩ _ _ H5.out (by decide) hml HL5.out).mono ?_
      rintro e w7 ⟨rfl, hx7⟩
      have e7 := e5.trans hx7
      have HJ : Hid ((joinB (L.map tokB) ⟨#[32]⟩).size ≤ 2000 ∧ (b = true → toksL (joinB (L.map tokB) ⟨#[32]⟩) = some L)) := Lib.hid (by
        cases hbc : b with
        | true =>
          have := toks_again (HBT.out hbc) hs
          exact ⟨this.2, fun _ => this.1⟩
        | false =>
          rw [HBF.out hbc]
          exact ⟨by decide, fun h => by cases h⟩)
      have hjz := HJ.out.1
      have HJ2 := Lib.hid HJ.out.2
      clear HJ
      generalize joinB (L.map tokB) ⟨#[32]⟩ = J at *
      go_wp2_with fail
      refine (impl_Tokens_any J _ (by omega) (hM.1.ext e7)).mono ?_
      rintro e w8 ⟨a8, n8, c8, f8, rfl, hr8, -, hx8⟩
      have e8 := e7.trans hx8
      cases b
      · go_wp2_with fail
        go_ret
        exact ⟨rfl, e8⟩
      rw [HJ2.out rfl] at hr8 ⊢
      simp only [Option.getD_some, Option.isSome_some] at hr8 ⊢
      have R8 := Lib.hid hr8.rep
      clear hr8
      obtain ⟨ao8, co8, b8, o8, h1, hl8, hm8, p8, hel8⟩ := Rep.slmap R8.out
      simp only [List.cons.injEq, and_true, Value.slice.injEq] at h1
      obtain ⟨rfl, rfl, rfl⟩ := h1
      have HEL8 := Lib.hid hel8
      unfold maxLen at hm8
      have hnl : ((L.length : Int) != L.length) = false := by simp
      have x48 := (hx.trans hx7).trans hx8
      clear hel8 hacc
      go_wp2_with fail
      go_loopw [11] (fun iv wq => ∃ i : Nat, i ≤ L.length ∧ iv = .int .i64 i ∧ Ext w8 wq) (fun iv _ => L.length - (intOf iv).toNat)
      case atStart => exact ⟨0, Nat.zero_le _, rfl, Ext.refl _⟩
      case round =>
        obtain ⟨i, hi, rfl, hxq⟩ := hrel
        by_cases hlt2 : i < L.length
        · obtain rfl := pp (by omega)
          obtain rfl := p8 (by omega)
          obtain ⟨t, ht⟩ : ∃ t, L[i]? = some t := ⟨L[i], by simp [hlt2]⟩
          obtain ⟨es, les, ces, res⟩ := HEL.out i t ht
          obtain rfl := MToken.op_en res
          obtain ⟨fs, lfs, cfs, rfs⟩ := HEL8.out i t ht
          obtain rfl := MToken.op_en rfs
          have x4q := x48.trans hxq
          have p0 := reg (Ext.refl _) (x4q.cell (show w4.cell? ⟨bb, oo + i * 3, none⟩ = some (.int .i64 t.kind) from ces 0 (by omega)))
          have p1 := reg (Ext.refl _) (x4q.cell (show w4.cell? ⟨bb, oo + i * 3 + 1, none⟩ = some (.string t.text) from ces 1 (by omega)))
          have p2 := reg (Ext.refl _) (x4q.cell (show w4.cell? ⟨bb, oo + i * 3 + 2, none⟩ = some (.int .i64 t.number) from ces 2 (by omega)))
          have q0 := reg (Ext.refl _) (hxq.cell (show w8.cell? ⟨b8, o8 + i * 3, none⟩ = some (.int .i64 t.kind) from cfs 0 (by omega)))
          have q1 := reg (Ext.refl _) (hxq.cell (show w8.cell? ⟨b8, o8 + i * 3 + 1, none⟩ = some (.string t.text) from cfs 1 (by omega)))
          have q2 := reg (Ext.refl _) (hxq.cell (show w8.cell? ⟨b8, o8 + i * 3 + 2, none⟩ = some (.int .i64 t.number) from cfs 2 (by omega)))
          have hil : (i : Int) < L.length := by omega
          have HXQ := Lib.hid hxq
          clear les ces res lfs cfs rfs ht x4q
          go_wp2_with fail
          refine wp_region_quiet_below (by kernel_rfl) (by kernel_rfl) ?_
          repeat (go_big_quiet_step (fail))
          refine wpQuiet_nil ?_
          clear p0 p1 p2 q0 q1 q2
          intro _ hw'
          obtain ⟨pw, hw''⟩ := hw'
          subst hw''
          go_wp2_with fail
          go_roundw
          case rel => exact ⟨i + 1, by omega, by go_num, HXQ.out.trans (regx _ _)⟩
          case measure => simp [intOf]; omega
        · go_wp2_with fail
          go_ret
          exact ⟨rfl, e8.trans hxq⟩


set_option maxRecDepth 100000 in
theorem fnTokensAgain_lifted (os : Os) (started : os.Started) (H : Type) (enc : TypeId × Value → H) :
    ReturnsInHanded {} Tryd.checked os 3 .any (fun w args => (Rows.fnTokensAgainSpec.pre enc Tryd.prog Tryd.f3 Rows.fnTokensAgainRow.domain false w args ∧ laidMetH Tryd.prog Rows.fnTokensAgainRow.laid w) ∧ sizedMet enc Tryd.prog Tryd.f3 (OpenSpec.ofChange Rows.fnTokensAgainSpec) false w args) (Rows.fnTokensAgainSpec.post enc Tryd.prog Tryd.f3 false true false false) := by
  refine returns_laid (C := Tryd.checked) (X := fun w _ => laidMetH Tryd.prog Rows.fnTokensAgainRow.laid w) (fun _ _ _ hh h => h.of_heap hh) Tryd.own started (by kernel_rfl) Tryd.func3
    (ChangeSpec.witness_shaped (enc := enc) (C := Tryd.checked) (os := os) (X := fun w _ => laidMetH Tryd.prog Rows.fnTokensAgainRow.laid w) false (World.laidAll Tryd.prog os Rows.fnTokensAgainRow.laid) #[.slice none 0 0] 8 (World.laidAll_os _ _ _)
      (World.shaped_of_ZipB (by kernel_rfl) (by kernel_rfl)) (by kernel_rfl) (by kernel_rfl) (by kernel_rfl)
      (by rw [MakeChecks.laidMetH_plain _ _ _ (by kernel_rfl)]; exact laidMet_laidAll _ (by kernel_rfl) (by kernel_rfl))) ?_
  intro W base args ds gs before hval0 hW hL hsh
  have hM := And.intro (max_ok hsh) (door_tab hL (by kernel_rfl) (i := 2) (by kernel_rfl))
  have hval : ∀ (j : Nat) t v, Tryd.f3.params[j]? = some t → args[j]? = some v → Value.okWide Tryd.prog W .any base t v := hval0
  have hW' := hW
  obtain ⟨p, q, hA0, hV, rfl, hfz, hnd⟩ := hW
  have hA : DataW.TrodAll enc Tryd.prog W 0 (fun _ => true) true Tryd.f3.params.toList args.toList ds p := hA0
  rw [Tryd.params3] at hA hval
  obtain ⟨v0, d0, rfl, rfl, h0⟩ := trodAll_one hA
  obtain ⟨rfl, rfl⟩ := trodVars_none hV
  obtain ⟨ao0, ln0, cp0, rfl⟩ := okWide_slice Tryd.underlying22 (hval 0 22 v0 rfl rfl)
  obtain ⟨fu0, hh0⟩ := h0
  have hh0 : DataW.trod enc Tryd.prog W 0 (fun _ => true) true fu0 22 [.slice ao0 ln0 cp0] = some _ := hh0
  exact (fnTokensAgain_calls _ W (bytes_of_trod hh0)  hM).mono fun e W' ⟨he, hb⟩ => ⟨_, he, law_post Tryd.laidOut rfl (by kernel_rfl) rfl Tryd.underlying4 hW' rfl hb⟩

theorem fnTokensAgain_holds : Rows.FnTokensAgainSaid :=
  OpenClaim.holds_of_wide 3 Tryd.f3 rfl rfl rfl rfl rfl rfl rfl ⟨rfl, rfl, rfl, rfl, rfl⟩ rfl rfl rfl rfl rfl (by kernel_rfl) Tryd.func3 (by kernel_rfl)
    (of_decide_eq_true (by kernel_rfl)) (by unfold Func.isWrapper; rw [if_neg (of_decide_eq_false (by kernel_rfl))]; exact ⟨rfl, rfl⟩)
    (fun os started H enc _ => fnTokensAgain_lifted os started H enc)


theorem fnTokensAgain_card : Rows.FnTokensAgainCardSaid :=
  Claim7.holds_tied_plain_at .later [] [.data, .data, .data, .data, .pinned] true (true, "373ebb75164aa9141830197e2b6719776a85d080f0b2f361af45f7d54fdf9aec") false fnTokensAgain_holds (fun _ h => by cases h) (by kernel_rfl) (fun _ h => by cases h) fnTokensAgain_row_tie rfl ⟨rfl, rfl⟩ (by kernel_rfl) rfl
    (fun f fn hf hfn => by
      obtain rfl : f = 3 := Option.some.inj ((show Tryd.prog.funcNamed "loop.example/g03108/laws.FnTokensAgain" = some 3 by kernel_rfl).symm.trans hf) |>.symm
      obtain rfl : fn = Tryd.f3 := (Option.some.inj (Tryd.func3.symm.trans hfn)).symm
      exact ⟨by kernel_rfl, fun j t ht => by
        rw [Tryd.params3] at ht
        have hm : t ∈ [22] := by
          have h := Array.mem_of_getElem? ht
          simpa using h
        have hall : ([22].all fun u => !Tryd.prog.wantsStandIn u) = true := by kernel_rfl
        exact (show Tryd.prog.wantsStandIn t = false by simpa using List.all_eq_true.1 hall t hm)⟩)
    (by kernel_rfl)

#print axioms fnTokensAgain_card


end Go.Proofs.YtkajinmknhnpkaaDoor
