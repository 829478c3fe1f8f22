/-
  FnDecimals: numbers are read from their decimal form, and texts are made of their parts again.
  Conditions: none.
-/
import Derived.Test.YteecolhljoeofaaDoorErrLaw
import Derived.Test.YteecolhljoeofaaDoorInst
import Derived.Test.YteecolhljoeofaaDoorFnDrawsD
import Derived.ChangeSlices
namespace Go.Proofs.YteecolhljoeofaaDoor
open Go.ChangeShapes Go.WideShapes Go.ChangeAt Go.RowKit Go.Joins
open Go.ChangeMaps (open_string)
set_option linter.unusedSimpArgs false
set_option linter.unusedVariables false


theorem bytes_of_trod {H : Type} {enc : TypeId × Value → H} {W : World} {fuel : Nat} {ao : Option Addr} {n cap : Nat} {d : DataW H × List MemPlace} (h : DataW.trod enc Tryd.prog W 0 (fun _ => true) true fuel 33 [.slice ao n cap] = some d) : Bytes W (.slice ao n cap) := by
  rcases open_ints Tryd.underlying33 Tryd.underlying5 (show Tryd.prog.cellsOf 5 = 1 by kernel_rfl) h with ⟨hcs, -⟩ | ⟨a, len, cap', zs, hcs, -, hl, hm, hz, -, hcell, hwz⟩
  · simp only [List.cons.injEq, Value.slice.injEq, and_true] at hcs
    obtain ⟨rfl, rfl, rfl⟩ := hcs
    exact ⟨_, _, _, rfl, by omega, Or.inl rfl⟩
  · simp only [List.cons.injEq, Value.slice.injEq, and_true] at hcs
    obtain ⟨rfl, rfl, rfl⟩ := hcs
    have hz : zs.length = cap := hz
    refine ⟨_, _, _, rfl, by unfold maxLen at hm; omega, Or.inr ⟨a, rfl, fun k hk => ⟨zs.getD k 0, hcell k (by omega), ?_⟩⟩⟩
    have hw := hwz (zs.getD k 0) (by
      rw [List.getD_eq_getElem?_getD, List.getElem?_eq_getElem (by omega : k < zs.length)]
      exact List.getElem_mem _)
    generalize zs.getD k 0 = z at hw ⊢
    simp [Lit.wf, IntKind.min, IntKind.max, IntKind.signed, IntKind.bits] at hw
    have := hw.1; have := hw.2
    omega

theorem itoa_inj {a b : Int} (h : Lib.itoa a = Lib.itoa b) : a = b := by
  unfold Lib.itoa at h
  split at h <;> split at h
  · injection h with _ h
    have h := congrArg (valF 0) h
    rw [(dec_val _ _ (Nat.le_refl _)).2.1, (dec_val _ _ (Nat.le_refl _)).2.1] at h
    omega
  · obtain ⟨c, r, e, h1, h2⟩ := dec_head b.toNat
    rw [e] at h
    injection h with h _
    subst h
    simp at h1
  · obtain ⟨c, r, e, h1, h2⟩ := dec_head a.toNat
    rw [e] at h
    injection h with h _
    subst h
    simp at h1
  · have h := congrArg (valF 0) h
    rw [(dec_val _ _ (Nat.le_refl _)).2.1, (dec_val _ _ (Nat.le_refl _)).2.1] at h
    omega
theorem num_back {n : Int} (h : ¬ (-999999999999 ≤ n ∧ n ≤ 999999999999)) : PB (itoaB n) = false := (num_no (fun ⟨q, h0, h1, h2⟩ => by
  have h3 : Lib.itoa q = Lib.itoa n := by rw [← itoaB_data, ← itoaB_data, h2]
  have := itoa_inj h3
  subst this
  exact h ⟨h0, h1⟩)).1
theorem lens_cutGo (c : UInt8) : ∀ (l cur : List UInt8), Lib.lens (cutGo c cur l) ≤ cur.length + l.length
  | [], cur => by simp [cutGo, Lib.lens]
  | b :: t, cur => by
    by_cases hb : b = c
    · have := lens_cutGo c t []
      simp only [Lib.lens] at this
      simp [cutGo, hb, Lib.lens] at this ⊢
      omega
    · have := lens_cutGo c t (cur ++ [b])
      simp only [Lib.lens] at this
      simp [cutGo, hb, Lib.lens] at this ⊢
      omega
theorem data_cutB (c : UInt8) (s : ByteArray) : (cutB c s).map (·.data.toList) = cutGo c [] s.data.toList := by
  rw [cutB, List.map_map]
  have e : ((fun x : ByteArray => x.data.toList) ∘ mkB) = id := funext fun l => by simp [mkB]
  rw [e, List.map_id]
theorem lens_cutB (c : UInt8) (s : ByteArray) : Lib.lens ((cutB c s).map (·.data.toList)) ≤ s.size := by
  rw [data_cutB]
  have := lens_cutGo c s.data.toList []
  simpa using this
/-- Parts joined again. -/
theorem join_cutB (c : UInt8) (s : ByteArray) (hs : s.size ≤ 1048576) : joinB (cutB c s) ⟨#[c]⟩ = s := by
  have h : jpart (cutB c s) ⟨#[c]⟩ (cutB c s).length = s.data.toList := by
    rw [jpart_all, data_cutB]
    exact join_cutGo s.data.toList []
  rw [joinB, h, if_pos (by simpa using hs)]
set_option maxHeartbeats 1000000 in
theorem big_any (ao : Option Addr) (n cap : Nat) (w : World) (hn : n ≤ 9223372036854775807) : Calls Tryd.prog 16 #[.slice ao n cap] w fun e w' => e = .returned (.bool (decide (1048576 < n))) ∧ w' = w := by
  go_enter Tryd.func16, Tryd.ntmps16
  by_cases h : 1048576 < n
  · have h' : (1048576 : Int) < n := by omega
    go_wp2_with fail
    go_ret
    exact ⟨ret_bool (by simp [h]), rfl⟩
  · have h' : (n : Int) ≤ 1048576 := by omega
    go_wp2_with fail
    go_ret
    exact ⟨ret_bool (by rw [decide_eq_false h]; exact decide_eq_false (by omega)), rfl⟩
theorem conv_one (c : UInt8) (W : World) : (convert 33 9 (.slice (some ⟨W.heap.size, 0, none⟩) 1 1)).run Tryd.prog (W.alloc (.cells #[.int .u8 c.toNat] 5)) = .ok (.string ⟨#[c]⟩) (W.alloc (.cells #[.int .u8 c.toNat] 5)) := by
  have h := run_convert_bytes_arg (P := Tryd.prog) (W.alloc (.cells #[.int .u8 c.toNat] 5)) 33 5 Tryd.underlying33 Tryd.underlying5 W.heap.size 0 1 1 [(c.toNat : Int)] rfl (fun i hi => by
    obtain rfl : i = 0 := by simp at hi; omega
    simp) 9 Tryd.underlying9
  rw [h]
  simp [strOfNums]

set_option maxRecDepth 100000 in
set_option maxHeartbeats 4000000 in
theorem fnDecimals_calls (v : Value) (w : World) (hc : Bytes w v) (hM : MaxOk w ∧ TabOk w ∧ ErrOk w) : Calls Tryd.prog 5 #[v] w fun e w' => e = .returned (.bool true) ∧ Ext w w' := by
  have hc' := hc
  obtain ⟨ao, n, cap, rfl, hn, -⟩ := hc'
  go_enter Tryd.func5, Tryd.ntmps5
  go_wp2_with fail
  refine (big_any ao n cap _ hn).mono ?_
  cases hb : decide (1048576 < n)
  rotate_left
  · rintro e w' ⟨rfl, rfl⟩
    go_wp2_with fail
    go_ret
    exact ⟨rfl, Ext.refl _⟩
  rintro e w' ⟨rfl, rfl⟩
  clear hb
  go_wp2_with fail
  refine (DrawFormatInt_any _ _ hc).mono ?_
  rintro e w1 ⟨⟨q, rfl, hq0, hq1⟩, hx1⟩
  go_wp2_with fail
  refine (impl_FormatInt_any q _ hq0 hq1 (hM.2.1.ext hx1)).mono ?_
  rintro e w2 ⟨rfl, hx2⟩
  have hz := itoaB_size hq0 hq1
  go_wp2_with fail
  refine (impl_ParseInt_any (itoaB q) _ (by omega) (hM.2.1.ext (hx1.trans hx2)) (hM.2.2.ext (hx1.trans hx2))).mono ?_
  obtain ⟨okq, hokq⟩ : ∃ b, PB (itoaB q) = b := ⟨_, rfl⟩
  obtain ⟨vq, hvq⟩ : ∃ b, PV (itoaB q) = b := ⟨_, rfl⟩
  have hrel : okq = decide (-999999999999 ≤ q ∧ q ≤ 999999999999) ∧ (okq = true → vq = q) := by
    by_cases hr : -999999999999 ≤ q ∧ q ≤ 999999999999
    · have h := num_ok hr
      have e1 : PB (itoaB q) = true := h.1
      have e2 : PV (itoaB q) = q := h.2
      exact ⟨by rw [← hokq, e1, decide_eq_true hr], fun _ => by rw [← hvq, e2]⟩
    · have e1 := num_back hr
      exact ⟨by rw [← hokq, e1, decide_eq_false hr], fun h => by rw [← hokq, e1] at h; cases h⟩
  rw [show numB (-999999999999) 999999999999 (itoaB q) = okq from hokq, show numV (-999999999999) 999999999999 (itoaB q) = vq from hvq]
  clear hokq hvq
  obtain ⟨hr1, hr2⟩ := hrel
  by_cases h1 : -999999999999 ≤ q
  rotate_left
  · obtain rfl : okq = false := by rw [hr1]; exact decide_eq_false (by omega)
    clear hr1 hr2
    rintro e w3 ⟨rfl, hx3⟩
    have e3 : Ext w' w3 := hx1.trans (hx2.trans hx3)
    clear hx1 hx2 hx3 hz
    go_wp2_with fail
    refine (DrawSplitByte_any _ _ (hc.ext e3)).mono ?_
    rintro e w4 ⟨⟨s, c, rfl, hs⟩, hx4⟩
    obtain ⟨hb0, hb1⟩ := byte_bd c
    go_wp2_with fail
    refine (impl_SplitByte_any s c _ (by omega) (hM.1.ext (e3.trans hx4))).mono ?_
    rintro e w5 ⟨a5, n5, c5, f5, rfl, hr5, hf5, hx5⟩
    have e5 := e3.trans (hx4.trans hx5)
    have R5 := Lib.hid hr5.rep
    have hn5 : n5 = (cutB c s).length := by
      obtain ⟨ao', ca, ba, oa, h1, -⟩ := hr5.rep.strs
      simp only [List.cons.injEq, and_true, Value.slice.injEq] at h1
      exact h1.2.1
    subst hn5
    have HL := Lib.hid (cutB_length c s)
    have HLE := Lib.hid (cutB_le c s)
    clear hr5 hf5 hx4 hx5 e3
    go_wp2_with fail
    go_loop [9, 10] (fun cv iv => ∃ k : Nat, iv = .int .i64 k ∧ k ≤ s.size ∧ cv = .int .i64 ((1 + (s.data.toList.take k).count c : Nat) : Int)) (fun _ iv => s.size - (intOf iv).toNat)
    case atStart => exact ⟨0, rfl, Nat.zero_le _, by simp⟩
    case round =>
      obtain ⟨k, rfl, hk, rfl⟩ := hrel
      by_cases hlt : k < s.size
      · have hcl : ((s.data.toList.take k).count c) ≤ k := Nat.le_trans List.count_le_length (by simp; omega)
        have hg : s.data.toList[k]? = some s[k] := by
          rw [List.getElem?_eq_getElem (by simpa using hlt)]; rfl
        have hstep := Lib.hid (take_snoc hg)
        clear hg
        generalize hC : (s.data.toList.take k).count c = C at *
        have HC := Lib.hid hC; clear hC
        by_cases h5 : s[k] = c
        · have t5 : ((s[k].toNat : Int) == (c.toNat : Int)) = true := int_eq (by rw [h5])
          have H5 := Lib.hid h5; clear h5
          go_wp2_with fail
          go_round
          case rel => exact ⟨k + 1, by go_num, by omega, by rw [hstep.out, List.count_append, HC.out, H5.out]; simp; go_num⟩
          case measure => simp [intOf]; omega
        · have t5 : ((s[k].toNat : Int) == (c.toNat : Int)) = false := int_ne (fun e => h5 (UInt8.toNat_inj.1 (by omega)))
          have H5 := Lib.hid h5; clear h5
          go_wp2_with fail
          go_round
          case rel => exact ⟨k + 1, by go_num, by omega, by rw [hstep.out, List.count_append, HC.out]; simp [H5.out]⟩
          case measure => simp [intOf]; omega
      · obtain rfl : k = s.size := by omega
        have hall : s.data.toList.take s.size = s.data.toList := List.take_of_length_le (by simp)
        rw [hall]
        have hle := HLE.out
        have hl := HL.out
        have t6 : (((cutB c s).length : Int) == 1 + (s.data.toList.count c : Int)) = true := int_eq (by omega)
        have hcv := conv_one c w5
        have RJ : Hid (Rep (w5.alloc (.cells #[.int .u8 c.toNat] 5)) (strs (cutB c s)) [.slice a5 (cutB c s).length c5]) := Lib.hid (Rep.ext ((Ext.refl w5).alloc _) R5.out)
        have HLS := Lib.hid (Nat.le_trans (lens_cutB c s) (show s.size ≤ 1048576 by omega))
        have HLB : Hid ((cutB c s).length ≤ 1048576) := Lib.hid (by omega)
        clear hall hk hl hle
        generalize s.data.toList.count c = N at *
        go_wp2_with fail
        refine (impl_Join_any (cutB c s) ⟨#[c]⟩ _ _ RJ.out (by show 1 ≤ 1048576; omega) HLB.out HLS.out).mono ?_
        rw [join_cutB c s (by omega)]
        rintro e w6 ⟨rfl, hx6⟩
        have t7 : (s.toList == s.toList) = true := str_eq rfl
        go_wp2_with fail
        go_ret
        exact ⟨rfl, (e5.alloc _).trans hx6⟩
  by_cases h2 : q ≤ 999999999999
  rotate_left
  · obtain rfl : okq = false := by rw [hr1]; exact decide_eq_false (by omega)
    clear hr1 hr2
    rintro e w3 ⟨rfl, hx3⟩
    have e3 : Ext w' w3 := hx1.trans (hx2.trans hx3)
    clear hx1 hx2 hx3 hz
    go_wp2_with fail
    refine (DrawSplitByte_any _ _ (hc.ext e3)).mono ?_
    rintro e w4 ⟨⟨s, c, rfl, hs⟩, hx4⟩
    obtain ⟨hb0, hb1⟩ := byte_bd c
    go_wp2_with fail
    refine (impl_SplitByte_any s c _ (by omega) (hM.1.ext (e3.trans hx4))).mono ?_
    rintro e w5 ⟨a5, n5, c5, f5, rfl, hr5, hf5, hx5⟩
    have e5 := e3.trans (hx4.trans hx5)
    have R5 := Lib.hid hr5.rep
    have hn5 : n5 = (cutB c s).length := by
      obtain ⟨ao', ca, ba, oa, h1, -⟩ := hr5.rep.strs
      simp only [List.cons.injEq, and_true, Value.slice.injEq] at h1
      exact h1.2.1
    subst hn5
    have HL := Lib.hid (cutB_length c s)
    have HLE := Lib.hid (cutB_le c s)
    clear hr5 hf5 hx4 hx5 e3
    go_wp2_with fail
    go_loop [9, 10] (fun cv iv => ∃ k : Nat, iv = .int .i64 k ∧ k ≤ s.size ∧ cv = .int .i64 ((1 + (s.data.toList.take k).count c : Nat) : Int)) (fun _ iv => s.size - (intOf iv).toNat)
    case atStart => exact ⟨0, rfl, Nat.zero_le _, by simp⟩
    case round =>
      obtain ⟨k, rfl, hk, rfl⟩ := hrel
      by_cases hlt : k < s.size
      · have hcl : ((s.data.toList.take k).count c) ≤ k := Nat.le_trans List.count_le_length (by simp; omega)
        have hg : s.data.toList[k]? = some s[k] := by
          rw [List.getElem?_eq_getElem (by simpa using hlt)]; rfl
        have hstep := Lib.hid (take_snoc hg)
        clear hg
        generalize hC : (s.data.toList.take k).count c = C at *
        have HC := Lib.hid hC; clear hC
        by_cases h5 : s[k] = c
        · have t5 : ((s[k].toNat : Int) == (c.toNat : Int)) = true := int_eq (by rw [h5])
          have H5 := Lib.hid h5; clear h5
          go_wp2_with fail
          go_round
          case rel => exact ⟨k + 1, by go_num, by omega, by rw [hstep.out, List.count_append, HC.out, H5.out]; simp; go_num⟩
          case measure => simp [intOf]; omega
        · have t5 : ((s[k].toNat : Int) == (c.toNat : Int)) = false := int_ne (fun e => h5 (UInt8.toNat_inj.1 (by omega)))
          have H5 := Lib.hid h5; clear h5
          go_wp2_with fail
          go_round
          case rel => exact ⟨k + 1, by go_num, by omega, by rw [hstep.out, List.count_append, HC.out]; simp [H5.out]⟩
          case measure => simp [intOf]; omega
      · obtain rfl : k = s.size := by omega
        have hall : s.data.toList.take s.size = s.data.toList := List.take_of_length_le (by simp)
        rw [hall]
        have hle := HLE.out
        have hl := HL.out
        have t6 : (((cutB c s).length : Int) == 1 + (s.data.toList.count c : Int)) = true := int_eq (by omega)
        have hcv := conv_one c w5
        have RJ : Hid (Rep (w5.alloc (.cells #[.int .u8 c.toNat] 5)) (strs (cutB c s)) [.slice a5 (cutB c s).length c5]) := Lib.hid (Rep.ext ((Ext.refl w5).alloc _) R5.out)
        have HLS := Lib.hid (Nat.le_trans (lens_cutB c s) (show s.size ≤ 1048576 by omega))
        have HLB : Hid ((cutB c s).length ≤ 1048576) := Lib.hid (by omega)
        clear hall hk hl hle
        generalize s.data.toList.count c = N at *
        go_wp2_with fail
        refine (impl_Join_any (cutB c s) ⟨#[c]⟩ _ _ RJ.out (by show 1 ≤ 1048576; omega) HLB.out HLS.out).mono ?_
        rw [join_cutB c s (by omega)]
        rintro e w6 ⟨rfl, hx6⟩
        have t7 : (s.toList == s.toList) = true := str_eq rfl
        go_wp2_with fail
        go_ret
        exact ⟨rfl, (e5.alloc _).trans hx6⟩
  · obtain rfl : okq = true := by rw [hr1]; exact decide_eq_true ⟨h1, h2⟩
    obtain rfl : vq = q := hr2 rfl
    clear hr1 hr2
    rintro e w3 ⟨rfl, hx3⟩
    have e3 : Ext w' w3 := hx1.trans (hx2.trans hx3)
    have tq : (vq != vq) = false := int_eqn rfl
    clear hx1 hx2 hx3 hz
    go_wp2_with fail
    refine (DrawSplitByte_any _ _ (hc.ext e3)).mono ?_
    rintro e w4 ⟨⟨s, c, rfl, hs⟩, hx4⟩
    obtain ⟨hb0, hb1⟩ := byte_bd c
    go_wp2_with fail
    refine (impl_SplitByte_any s c _ (by omega) (hM.1.ext (e3.trans hx4))).mono ?_
    rintro e w5 ⟨a5, n5, c5, f5, rfl, hr5, hf5, hx5⟩
    have e5 := e3.trans (hx4.trans hx5)
    have R5 := Lib.hid hr5.rep
    have hn5 : n5 = (cutB c s).length := by
      obtain ⟨ao', ca, ba, oa, h1, -⟩ := hr5.rep.strs
      simp only [List.cons.injEq, and_true, Value.slice.injEq] at h1
      exact h1.2.1
    subst hn5
    have HL := Lib.hid (cutB_length c s)
    have HLE := Lib.hid (cutB_le c s)
    clear hr5 hf5 hx4 hx5 e3
    go_wp2_with fail
    go_loop [9, 10] (fun cv iv => ∃ k : Nat, iv = .int .i64 k ∧ k ≤ s.size ∧ cv = .int .i64 ((1 + (s.data.toList.take k).count c : Nat) : Int)) (fun _ iv => s.size - (intOf iv).toNat)
    case atStart => exact ⟨0, rfl, Nat.zero_le _, by simp⟩
    case round =>
      obtain ⟨k, rfl, hk, rfl⟩ := hrel
      by_cases hlt : k < s.size
      · have hcl : ((s.data.toList.take k).count c) ≤ k := Nat.le_trans List.count_le_length (by simp; omega)
        have hg : s.data.toList[k]? = some s[k] := by
          rw [List.getElem?_eq_getElem (by simpa using hlt)]; rfl
        have hstep := Lib.hid (take_snoc hg)
        clear hg
        generalize hC : (s.data.toList.take k).count c = C at *
        have HC := Lib.hid hC; clear hC
        by_cases h5 : s[k] = c
        · have t5 : ((s[k].toNat : Int) == (c.toNat : Int)) = true := int_eq (by rw [h5])
          have H5 := Lib.hid h5; clear h5
          go_wp2_with fail
          go_round
          case rel => exact ⟨k + 1, by go_num, by omega, by rw [hstep.out, List.count_append, HC.out, H5.out]; simp; go_num⟩
          case measure => simp [intOf]; omega
        · have t5 : ((s[k].toNat : Int) == (c.toNat : Int)) = false := int_ne (fun e => h5 (UInt8.toNat_inj.1 (by omega)))
          have H5 := Lib.hid h5; clear h5
          go_wp2_with fail
          go_round
          case rel => exact ⟨k + 1, by go_num, by omega, by rw [hstep.out, List.count_append, HC.out]; simp [H5.out]⟩
          case measure => simp [intOf]; omega
      · obtain rfl : k = s.size := by omega
        have hall : s.data.toList.take s.size = s.data.toList := List.take_of_length_le (by simp)
        rw [hall]
        have hle := HLE.out
        have hl := HL.out
        have t6 : (((cutB c s).length : Int) == 1 + (s.data.toList.count c : Int)) = true := int_eq (by omega)
        have hcv := conv_one c w5
        have RJ : Hid (Rep (w5.alloc (.cells #[.int .u8 c.toNat] 5)) (strs (cutB c s)) [.slice a5 (cutB c s).length c5]) := Lib.hid (Rep.ext ((Ext.refl w5).alloc _) R5.out)
        have HLS := Lib.hid (Nat.le_trans (lens_cutB c s) (show s.size ≤ 1048576 by omega))
        have HLB : Hid ((cutB c s).length ≤ 1048576) := Lib.hid (by omega)
        clear hall hk hl hle
        generalize s.data.toList.count c = N at *
        go_wp2_with fail
        refine (impl_Join_any (cutB c s) ⟨#[c]⟩ _ _ RJ.out (by show 1 ≤ 1048576; omega) HLB.out HLS.out).mono ?_
        rw [join_cutB c s (by omega)]
        rintro e w6 ⟨rfl, hx6⟩
        have t7 : (s.toList == s.toList) = true := str_eq rfl
        go_wp2_with fail
        go_ret
        exact ⟨rfl, (e5.alloc _).trans hx6⟩


set_option maxRecDepth 100000 in
theorem fnDecimals_lifted (os : Os) (started : os.Started) (H : Type) (enc : TypeId × Value → H) :
    ReturnsInHanded {} Tryd.checked os 5 .any (fun w args => (Rows.fnDecimalsSpec.pre enc Tryd.prog Tryd.f5 Rows.fnDecimalsRow.domain false w args ∧ laidMetH Tryd.prog Rows.fnDecimalsRow.laid w) ∧ sizedMet enc Tryd.prog Tryd.f5 (OpenSpec.ofChange Rows.fnDecimalsSpec) false w args) (Rows.fnDecimalsSpec.post enc Tryd.prog Tryd.f5 false true false false) := by
  refine returns_laid (C := Tryd.checked) (X := fun w _ => laidMetH Tryd.prog Rows.fnDecimalsRow.laid w) (fun _ _ _ hh h => h.of_heap hh) Tryd.own started (by kernel_rfl) Tryd.func5
    (ChangeSpec.witness_shaped (enc := enc) (C := Tryd.checked) (os := os) (X := fun w _ => laidMetH Tryd.prog Rows.fnDecimalsRow.laid w) false (World.laidAll Tryd.prog os Rows.fnDecimalsRow.laid) #[.slice none 0 0] 8 (World.laidAll_os _ _ _)
      (World.shaped_of_ZipB (by kernel_rfl) (by kernel_rfl)) (by kernel_rfl) (by kernel_rfl) (by kernel_rfl)
      (by rw [MakeChecks.laidMetH_plain _ _ _ (by kernel_rfl)]; exact laidMet_laidAll _ (by kernel_rfl) (by kernel_rfl))) ?_
  intro W base args ds gs before hval0 hW hL hsh
  have hM := And.intro (max_ok hsh) (And.intro (door_tab hL (by kernel_rfl) (i := 2) (by kernel_rfl)) (err_laid hL (by kernel_rfl) (i := 5) (j := 4) rfl rfl))
  have hval : ∀ (j : Nat) t v, Tryd.f5.params[j]? = some t → args[j]? = some v → Value.okWide Tryd.prog W .any base t v := hval0
  have hW' := hW
  obtain ⟨p, q, hA0, hV, rfl, hfz, hnd⟩ := hW
  have hA : DataW.TrodAll enc Tryd.prog W 0 (fun _ => true) true Tryd.f5.params.toList args.toList ds p := hA0
  rw [Tryd.params5] at hA hval
  obtain ⟨v0, d0, rfl, rfl, h0⟩ := trodAll_one hA
  obtain ⟨rfl, rfl⟩ := trodVars_none hV
  obtain ⟨ao0, ln0, cp0, rfl⟩ := okWide_slice Tryd.underlying33 (hval 0 33 v0 rfl rfl)
  obtain ⟨fu0, hh0⟩ := h0
  have hh0 : DataW.trod enc Tryd.prog W 0 (fun _ => true) true fu0 33 [.slice ao0 ln0 cp0] = some _ := hh0
  exact (fnDecimals_calls _ W (bytes_of_trod hh0)  hM).mono fun e W' ⟨he, hb⟩ => ⟨_, he, law_post Tryd.laidOut rfl (by kernel_rfl) rfl Tryd.underlying4 hW' rfl hb⟩

theorem fnDecimals_holds : Rows.FnDecimalsSaid :=
  OpenClaim.holds_of_wide 5 Tryd.f5 rfl rfl rfl rfl rfl rfl rfl ⟨rfl, rfl, rfl, rfl, rfl⟩ rfl rfl rfl rfl rfl (by kernel_rfl) Tryd.func5 (by kernel_rfl)
    (of_decide_eq_true (by kernel_rfl)) (by unfold Func.isWrapper; rw [if_neg (of_decide_eq_false (by kernel_rfl))]; exact ⟨rfl, rfl⟩)
    (fun os started H enc _ => fnDecimals_lifted os started H enc)


theorem fnDecimals_card : Rows.FnDecimalsCardSaid :=
  Claim7.holds_tied_plain_at .later [] [.data, .data, .data, .data, .sentinel, .sentinel, .pinned] true (true, "9759f2bc98cecee1640f2cb3e6727ae902da8638f8ea70e862d158c9cea4fb83") true fnDecimals_holds (fun _ h => by cases h) (by kernel_rfl) (fun _ h => by cases h) fnDecimals_row_tie rfl ⟨rfl, rfl⟩ (by kernel_rfl) rfl
    (fun f fn hf hfn => by
      obtain rfl : f = 5 := Option.some.inj ((show Tryd.prog.funcNamed "loop.example/g03108/laws.FnDecimals" = some 5 by kernel_rfl).symm.trans hf) |>.symm
      obtain rfl : fn = Tryd.f5 := (Option.some.inj (Tryd.func5.symm.trans hfn)).symm
      exact ⟨by kernel_rfl, fun j t ht => by
        rw [Tryd.params5] at ht
        have hm : t ∈ [33] := by
          have h := Array.mem_of_getElem? ht
          simpa using h
        have hall : ([33].all fun u => !Tryd.prog.wantsStandIn u) = true := by kernel_rfl
        exact (show Tryd.prog.wantsStandIn t = false by simpa using List.all_eq_true.1 hall t hm)⟩)
    (by kernel_rfl)

#print axioms fnDecimals_card


end Go.Proofs.YteecolhljoeofaaDoor
