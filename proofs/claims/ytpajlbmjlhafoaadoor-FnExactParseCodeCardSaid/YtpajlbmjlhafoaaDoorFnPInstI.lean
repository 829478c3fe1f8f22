/-
  CONTRACTS: ParseInstr, of the program.
  Conditions: those that each lemma states.
-/
import Derived.Test.YtpajlbmjlhafoaaDoorRows
import Derived.Test.YtpajlbmjlhafoaaDoorFnPInst
namespace Go.Proofs.YtpajlbmjlhafoaaDoor
open Go.RowKit Go.Joins
set_option linter.unusedSimpArgs false
set_option linter.unusedVariables false

theorem cutH_le (s : ByteArray) : (cutH s).size ≤ s.size := by
  have e : (cutH s).size = (Lib.cut s.data.toList [32]).1.length := by simp [cutH, ByteArray.size]
  rw [e]
  unfold Lib.cut
  split
  · rw [List.length_take]; have e2 : s.data.toList.length = s.size := by simp
    omega
  · simp
theorem cutT_le (s : ByteArray) : (cutT s).size ≤ s.size := by
  have e : (cutT s).size = (Lib.cut s.data.toList [32]).2.1.length := by simp [cutT, ByteArray.size]
  rw [e]
  unfold Lib.cut
  split
  · rw [List.length_drop]; have e2 : s.data.toList.length = s.size := by simp
    omega
  · simp
theorem cut_any (s : ByteArray) (w : World) (hs : s.size ≤ 1048576) (hM : MaxOk w) : Calls Tryd.prog 66 #[.string s, .string ⟨#[32]⟩] w fun e w' => e = .returned (.tuple #[.string (cutH s), .string (cutT s), .bool (cutF s)]) ∧ Ext w w' := by
  obtain ⟨m, hm⟩ := hM
  exact (Tryd.strings_Cut s ⟨#[32]⟩ m w (by omega) hm).mono fun e w' ⟨h1, n, h2⟩ => ⟨h1, by rw [h2]; exact Ext.drewN (Ext.refl _) n⟩
theorem sl_index (l : List ByteArray) (x : ByteArray) (va : Value) (w : World) (ra : Rep w (strs l) [va]) (h0 : 0 < l.length) : Calls Tryd.prog 67 #[va, .string x] w fun e w' => e = .returned (.int .i64 (Lib.idxOfS l x)) ∧ w' = w := by
  obtain ⟨ao, ca, ba, oa, h1, hla, hma, pa, ha⟩ := ra.strs
  simp only [List.cons.injEq, and_true] at h1
  subst h1
  obtain rfl := pa h0
  have := Tryd.slices_Index_string ba oa l.length ca l x w (Nat.le_refl _) (by unfold maxLen at hma; omega) (fun j hj => ha j _ (by rw [List.getD_eq_getElem?_getD, List.getElem?_eq_getElem hj]; rfl))
  rwa [List.take_length] at this

set_option maxRecDepth 100000 in
set_option maxHeartbeats 16000000 in
theorem impl_ParseInstr_any (s : ByteArray) (w : World) (hs : s.size ≤ 1048576) (hM : MaxOk w) (hT : TabOk w) (hE : ErrOk w) : Calls Tryd.prog 35 #[.string s] w (GivesI w s) := by
  go_enter Tryd.func35, Tryd.ntmps35
  go_wp2_with fail
  generalize hW : World.alloc w _ = W1
  have x1 : Ext w W1 := by rw [← hW]; exact (Ext.refl w).alloc _
  have OR : Own W1 w.heap.size 60 #[.int .i64 0, .int .i64 0, .int .i64 0, .string ⟨#[]⟩] := by rw [← hW]; exact own_new w _ _
  have zW : w.heap.size + 1 ≤ W1.heap.size := by rw [← hW]; simp
  clear hW
  replace hM := hM.ext x1
  replace hT := hT.ext x1
  replace hE := hE.ext x1
  refine (cut_any s W1 hs hM).mono ?_
  have hzr := cutT_le s
  obtain ⟨rest, hrest⟩ : ∃ r, cutT s = r := ⟨_, rfl⟩
  rw [hrest] at hzr
  replace hzr : rest.size ≤ 1048576 := by omega
  have HRest := Lib.hid hrest
  obtain ⟨word, hword⟩ : ∃ r, cutH s = r := ⟨_, rfl⟩
  have HWord := Lib.hid hword
  rw [hrest, hword]
  clear hrest hword
  rintro e wa ⟨rfl, hxa⟩
  go_wp2_with fail
  refine (words_any _).mono ?_
  rintro e w2 ⟨ao, n, cap, fp, rfl, hr, hf, hxb⟩
  go_wp2_with fail
  refine (sl_index wordsI _ _ _ hr.rep (by decide)).mono ?_
  rintro e wq ⟨rfl, hq⟩
  subst wq
  have hxw : Ext W1 w2 := hxa.trans hxb
  clear hr hf hxa hxb
  obtain ⟨op, hop0⟩ : ∃ op, Lib.idxOfS wordsI word = op := ⟨_, rfl⟩
  have hbd := idxW_bd word
  rw [hop0] at hbd ⊢
  have HOP : Hid (opI s = op) := Lib.hid (by unfold opI; rw [HWord.out]; exact hop0)
  have NOY : Hid (∀ y, OkI s y → y.op = op ∧ okNI (uA op) (cutT s) = true ∧ okNI (uB op) (rNI (uA op) (cutT s)) = true ∧ xI s = y) := Lib.hid fun y hy => by
    obtain ⟨h0, h1, h2, h3⟩ := impl_reads hy
    rw [HOP.out] at h0
    rw [← h0] at h1 h2
    exact ⟨h0.symm, h1, h2, h3⟩
  clear hop0
  by_cases h1 : op < 1
  · replace OR := OR.ext hxw
    have R0 : w2.cell? ⟨w.heap.size, 0, none⟩ = some (.int .i64 0) := by rw [OR.cell]; rfl
    have R1 : w2.cell? ⟨w.heap.size, 1, none⟩ = some (.int .i64 0) := by rw [OR.cell]; rfl
    have R2 : w2.cell? ⟨w.heap.size, 2, none⟩ = some (.int .i64 0) := by rw [OR.cell]; rfl
    have R3 : w2.cell? ⟨w.heap.size, 3, none⟩ = some (.string ⟨#[]⟩) := by rw [OR.cell]; rfl
    have F0 : ∀ o, w2.frozen? ⟨w.heap.size, o, none⟩ = false := OR.frozen
    have NOP : Hid (¬ ∃ y, OkI s y) := Lib.hid (fun ⟨y, hy⟩ => by have h := NOY.out y hy; have := hy.1.1; omega)
    go_wp2_with fail
    refine bodyPost_ret (v := .tuple #[.agg #[.int .i64 0, .int .i64 0, .int .i64 0, .string ⟨#[]⟩], .bool false]) (by simp [results, Tryd.results35, go_sem, R0, R1, R2, R3, F0]) rfl ⟨⟨0, 0, 0, ⟨#[]⟩⟩, false, rfl, fun h => (by cases h), fun _ => ⟨rfl, NOP.out⟩, ?_⟩
    (repeat refine Ext.setCell ?_ (by omega) _)
    exact x1.trans hxw
  have NOY : Hid (∀ y, OkI s y → okNI (uA op) (cutT s) = true ∧ okNI (uB op) (rNI (uA op) (cutT s)) = true ∧ xI s = y) := Lib.hid fun y hy => (NOY.out y hy).2
  have hop : 1 ≤ op ∧ op ≤ 26 := by omega
  go_wp2_with fail
  generalize hW : World.alloc w2 _ = W5
  obtain ⟨X, hX⟩ : ∃ X, X = w2.heap.size := ⟨_, rfl⟩
  have OX : Own W5 X 60 #[.int .i64 op, .int .i64 0, .int .i64 0, .string ⟨#[]⟩] := by rw [← hW, hX]; exact own_new w2 _ _
  have e5 : Ext w2 W5 := by rw [← hW]; exact (Ext.refl w2).alloc _
  replace OR := (OR.ext hxw).ext e5
  have zX1 : W1.heap.size ≤ X := by rw [hX]; exact hxw.size
  have zX : w.heap.size + 1 ≤ X := Nat.le_trans zW zX1
  replace hxw := hxw.trans e5
  rw [← hX]
  clear hW hX e5
  refine (writes_any op _).mono ?_
  rintro e wq ⟨rfl, hq⟩
  subst wq
  rcases uses6 hop with ⟨hA, hB, hT0⟩ | ⟨hA, hB, hT0⟩ | ⟨hA, hB, hT0⟩ | ⟨hA, hB, hT0⟩ | ⟨hA, hB, hT0⟩ | ⟨hA, hB, hT0⟩
  · rw [hA, hB, hT0]
    have hA := Lib.hid hA; have hB := Lib.hid hB; have hT0 := Lib.hid hT0
    obtain ⟨CY, hCY⟩ : ∃ C : Array Value, C = #[.bool true, .pointer (some ⟨X, 1, none⟩), .bool false, .pointer (some ⟨X, 2, none⟩)] := ⟨_, rfl⟩
    go_wp2_with fail
    generalize hS : World.alloc W5 _ = W6
    obtain ⟨Y, hY⟩ : ∃ Y, Y = W5.heap.size := ⟨_, rfl⟩
    have OY0 : ∃ TY, Own W6 Y TY CY := ⟨_, by rw [← hS, hY, hCY]; exact own_new W5 _ _⟩
    obtain ⟨TY, OY⟩ := OY0
    have eS : Ext W5 W6 := by rw [← hS]; exact (Ext.refl _).alloc _
    have zY : X < Y := by rw [hY]; exact OX.lt
    rw [← hY]
    replace OR := OR.ext eS
    replace OX := OX.ext eS
    replace hxw := hxw.trans eS
    clear hS eS hY
    refine wp_loop_rounds 3 ?_
    rw [rounds_succ]
    rw [hCY] at OY
    have Y0 : W6.cell? ⟨Y, 0, none⟩ = some (.bool true) := by rw [OY.cell]; rfl
    have Y1 : W6.cell? ⟨Y, 1, none⟩ = some (.pointer (some ⟨X, 1, none⟩)) := by rw [OY.cell]; rfl
    have Y2 : W6.cell? ⟨Y, 2, none⟩ = some (.bool false) := by rw [OY.cell]; rfl
    have Y3 : W6.cell? ⟨Y, 3, none⟩ = some (.pointer (some ⟨X, 2, none⟩)) := by rw [OY.cell]; rfl
    rw [← hCY] at OY
    have X0 : W6.cell? ⟨X, 0, none⟩ = some (.int .i64 op) := by rw [OX.cell]; rfl
    have X1 : W6.cell? ⟨X, 1, none⟩ = some (.int .i64 (0)) := by rw [OX.cell]; rfl
    have X2 : W6.cell? ⟨X, 2, none⟩ = some (.int .i64 (0)) := by rw [OX.cell]; rfl
    have X3 : W6.cell? ⟨X, 3, none⟩ = some (.string (⟨#[]⟩)) := by rw [OX.cell]; rfl
    have FX : ∀ o, W6.frozen? ⟨X, o, none⟩ = false := OX.frozen
    have hM0 := hM.ext hxw
    have HRZ := Lib.hid hzr
    obtain ⟨pA, hpA⟩ : ∃ p, cutH rest = p := ⟨_, rfl⟩
    obtain ⟨rA, hrA⟩ : ∃ p, cutT rest = p := ⟨_, rfl⟩
    obtain ⟨fA, hfA⟩ : ∃ p, cutF rest = p := ⟨_, rfl⟩
    have hzA : pA.size ≤ 1048576 := by have := cutH_le rest; rw [hpA] at this; omega
    have hzrA : rA.size ≤ 1048576 := by have := cutT_le rest; rw [hrA] at this; omega
    obtain ⟨va, hva⟩ : ∃ v, PV pA = v := ⟨_, rfl⟩
    obtain ⟨okA, hokA⟩ : ∃ v, PB pA = v := ⟨_, rfl⟩
    have hvr_va : Hid (-9223372036854775808 ≤ va ∧ va ≤ 9223372036854775807) := Lib.hid (by rw [← hva]; exact num_b64 pA)
    have CC : Hid (∀ W, MaxOk W → Calls Tryd.prog 66 #[.string rest, .string ⟨#[32]⟩] W fun e w' => e = .returned (.tuple #[.string pA, .string rA, .bool fA]) ∧ Ext W w') := Lib.hid fun W hm => by
      rw [← hpA, ← hrA, ← hfA]; exact cut_any rest W HRZ.out hm
    have HZP := Lib.hid hzA
    have C : Hid (∀ W, TabOk W → ErrOk W → Calls Tryd.prog 33 #[.string pA] W fun e w' => e = .returned (.tuple #[.int .i64 va, .bool okA]) ∧ Ext W w') := Lib.hid fun W ht he => by
      rw [← hva, ← hokA]; exact impl_ParseInt_any pA W HZP.out ht he
    have HPA := Lib.hid hpA; have HRA := Lib.hid hrA; have HVA := Lib.hid hva
    clear hpA hrA hfA hva
    go_wp2_with fail
    clear X0 X1 X2 X3 FX Y0 Y1 Y2 Y3
    generalize hS : World.alloc W6 _ = v1
    have eS : Ext W6 v1 := by rw [← hS]; exact (Ext.refl _).alloc _
    replace OR := OR.ext eS
    replace OX := OX.ext eS
    replace OY := OY.ext eS
    replace hxw := hxw.trans eS
    obtain ⟨Q, hQ⟩ : ∃ Q, Q = W6.heap.size := ⟨_, rfl⟩
    have OQ0 : ∃ TQ, Own v1 Q TQ #[.bool true, .pointer (some ⟨X, 1, none⟩)] := ⟨_, by rw [← hS, hQ]; exact own_new W6 _ _⟩
    obtain ⟨TQ, OQ⟩ := OQ0
    rw [← hQ]
    clear hS eS hQ
    refine (CC.out _ (hM.ext hxw)).mono ?_
    rintro e wc ⟨rfl, hxc⟩
    replace OR := OR.ext hxc
    replace OX := OX.ext hxc
    replace OY := OY.ext hxc
    replace OQ := OQ.ext hxc
    replace hxw := hxw.trans hxc
    clear hxc
    go_wp2_with fail
    refine (C.out _ (hT.ext hxw) (hE.ext hxw)).mono ?_
    cases okA
    · rintro e wk ⟨rfl, hxk⟩
      have HOK := Lib.hid hokA
      replace OR := OR.ext hxk
      have hxf := hxw.trans hxk
      have R0 : wk.cell? ⟨w.heap.size, 0, none⟩ = some (.int .i64 0) := by rw [OR.cell]; rfl
      have R1 : wk.cell? ⟨w.heap.size, 1, none⟩ = some (.int .i64 0) := by rw [OR.cell]; rfl
      have R2 : wk.cell? ⟨w.heap.size, 2, none⟩ = some (.int .i64 0) := by rw [OR.cell]; rfl
      have R3 : wk.cell? ⟨w.heap.size, 3, none⟩ = some (.string ⟨#[]⟩) := by rw [OR.cell]; rfl
      have F0 : ∀ o, wk.frozen? ⟨w.heap.size, o, none⟩ = false := OR.frozen
      have NOP : Hid (¬ ∃ y, OkI s y) := Lib.hid (fun ⟨y, hy⟩ => by
        have h := NOY.out y hy
        exact absurd (h.1.symm.trans (show okNI (uA op) (cutT s) = false from by rw [hA.out, HRest.out]; unfold okNI; rw [if_pos rfl, HPA.out]; exact HOK.out)) (by simp))
      go_wp2_with fail
      refine bodyPost_ret (v := .tuple #[.agg #[.int .i64 0, .int .i64 0, .int .i64 0, .string ⟨#[]⟩], .bool false]) (by simp [results, Tryd.results35, go_sem, R0, R1, R2, R3, F0]) rfl ⟨⟨0, 0, 0, ⟨#[]⟩⟩, false, rfl, fun h => (by cases h), fun _ => ⟨rfl, NOP.out⟩, ?_⟩
      (repeat refine Ext.setCell ?_ (by omega) _)
      exact x1.trans hxf
    rintro e wk ⟨rfl, hxk⟩
    have HOKA := Lib.hid hokA; clear hokA
    replace OR := OR.ext hxk
    replace OX := OX.ext hxk
    replace OY := OY.ext hxk
    replace OQ := OQ.ext hxk
    replace hxw := hxw.trans hxk
    clear hxk C CC
    have Q1 : wk.cell? ⟨Q, 1, none⟩ = some (.pointer (some ⟨X, 1, none⟩)) := by rw [OQ.cell]; rfl
    have X0 : wk.cell? ⟨X, 0, none⟩ = some (.int .i64 op) := by rw [OX.cell]; rfl
    have X1 : wk.cell? ⟨X, 1, none⟩ = some (.int .i64 (0)) := by rw [OX.cell]; rfl
    have X2 : wk.cell? ⟨X, 2, none⟩ = some (.int .i64 (0)) := by rw [OX.cell]; rfl
    have X3 : wk.cell? ⟨X, 3, none⟩ = some (.string (⟨#[]⟩)) := by rw [OX.cell]; rfl
    have FX : ∀ o, wk.frozen? ⟨X, o, none⟩ = false := OX.frozen
    go_wp2_with fail
    clear X0 X1 X2 X3 FX Q1 OQ
    generalize hS : World.setCell wk _ _ = v2
    have OR' : Own v2 w.heap.size 60 #[.int .i64 0, .int .i64 0, .int .i64 0, .string ⟨#[]⟩] := by rw [← hS]; exact OR.other _ (by show w.heap.size ≠ X; omega) _
    have OY' : Own v2 Y TY CY := by rw [← hS]; exact OY.other _ (by show Y ≠ X; omega) _
    have OX' : Own v2 X 60 #[.int .i64 op, .int .i64 va, .int .i64 0, .string ⟨#[]⟩] := by rw [← hS]; exact OX.set _ _
    have hxw' : Ext W1 v2 := by rw [← hS]; exact Ext.setCell hxw (by omega) _
    clear hS OR OX OY hxw
    have OR := OR'; have OX := OX'; have OY := OY'; have hxw := hxw'
    clear OR' OX' OY' hxw'
    rw [rounds_succ]
    have OKA : Hid (okNI (uA op) (cutT s) = true) := Lib.hid (by rw [hA.out, okNI, if_pos rfl, HRest.out, HPA.out]; exact HOKA.out)
    have EVA : Hid (vNI (uA op) (cutT s) = va) := Lib.hid (by rw [hA.out, vNI, if_pos rfl, HRest.out, HPA.out]; exact HVA.out)
    have ERA : Hid (rNI (uA op) (cutT s) = rA) := Lib.hid (by rw [hA.out, rNI, if_pos rfl, HRest.out]; exact HRA.out)
    rw [hCY] at OY
    have Y0 : v2.cell? ⟨Y, 0, none⟩ = some (.bool true) := by rw [OY.cell]; rfl
    have Y1 : v2.cell? ⟨Y, 1, none⟩ = some (.pointer (some ⟨X, 1, none⟩)) := by rw [OY.cell]; rfl
    have Y2 : v2.cell? ⟨Y, 2, none⟩ = some (.bool false) := by rw [OY.cell]; rfl
    have Y3 : v2.cell? ⟨Y, 3, none⟩ = some (.pointer (some ⟨X, 2, none⟩)) := by rw [OY.cell]; rfl
    rw [← hCY] at OY
    have X0 : v2.cell? ⟨X, 0, none⟩ = some (.int .i64 op) := by rw [OX.cell]; rfl
    have X1 : v2.cell? ⟨X, 1, none⟩ = some (.int .i64 (va)) := by rw [OX.cell]; rfl
    have X2 : v2.cell? ⟨X, 2, none⟩ = some (.int .i64 (0)) := by rw [OX.cell]; rfl
    have X3 : v2.cell? ⟨X, 3, none⟩ = some (.string (⟨#[]⟩)) := by rw [OX.cell]; rfl
    have FX : ∀ o, v2.frozen? ⟨X, o, none⟩ = false := OX.frozen
    go_wp2_with fail
    clear X0 X1 X2 X3 FX Y0 Y1 Y2 Y3
    generalize hS : World.alloc v2 _ = v3
    have eS : Ext v2 v3 := by rw [← hS]; exact (Ext.refl _).alloc _
    replace OR := OR.ext eS
    replace OX := OX.ext eS
    replace OY := OY.ext eS
    replace hxw := hxw.trans eS
    clear hS eS
    rw [rounds_succ]
    have OKB : Hid (okNI (uB op) (rNI (uA op) (cutT s)) = true) := Lib.hid (by rw [hB.out]; rfl)
    have EVB : Hid (vNI (uB op) (rNI (uA op) (cutT s)) = 0) := Lib.hid (by rw [hB.out]; rfl)
    have ERB : Hid (rNI (uB op) (rNI (uA op) (cutT s)) = rA) := Lib.hid (by rw [ERA.out, hB.out]; rfl)
    have HXS : Hid (xI s = ⟨op, va, 0, ⟨#[]⟩⟩) := Lib.hid (by unfold xI; rw [HOP.out, EVA.out, EVB.out, ERB.out, hT0.out]; rfl)
    have hd := instr_d (a := va) (b := 0) (t := ⟨#[]⟩) hop hvr_va.out ⟨by omega, by omega⟩ (by decide)
    have HDB := Lib.hid hd; clear hd
    have X0 : v3.cell? ⟨X, 0, none⟩ = some (.int .i64 op) := by rw [OX.cell]; rfl
    have X1 : v3.cell? ⟨X, 1, none⟩ = some (.int .i64 (va)) := by rw [OX.cell]; rfl
    have X2 : v3.cell? ⟨X, 2, none⟩ = some (.int .i64 (0)) := by rw [OX.cell]; rfl
    have X3 : v3.cell? ⟨X, 3, none⟩ = some (.string (⟨#[]⟩)) := by rw [OX.cell]; rfl
    have FX : ∀ o, v3.frozen? ⟨X, o, none⟩ = false := OX.frozen
    go_wp2_with fail
    clear X0 X1 X2 X3 FX
    refine (impl_FormatInstr_any ⟨op, va, 0, ⟨#[]⟩⟩ [.int .i64 op, .int .i64 (va), .int .i64 (0), .string (⟨#[]⟩)] _ (instr_rep _ _ _ _ _) HDB.out.1 HDB.out.2 (hT.ext hxw)).mono ?_
    rintro e w9 ⟨rfl, hx9⟩
    replace OR := OR.ext hx9
    replace OX := OX.ext hx9
    have hxf := hxw.trans hx9
    have R0 : w9.cell? ⟨w.heap.size, 0, none⟩ = some (.int .i64 0) := by rw [OR.cell]; rfl
    have R1 : w9.cell? ⟨w.heap.size, 1, none⟩ = some (.int .i64 0) := by rw [OR.cell]; rfl
    have R2 : w9.cell? ⟨w.heap.size, 2, none⟩ = some (.int .i64 0) := by rw [OR.cell]; rfl
    have R3 : w9.cell? ⟨w.heap.size, 3, none⟩ = some (.string ⟨#[]⟩) := by rw [OR.cell]; rfl
    have F0 : ∀ o, w9.frozen? ⟨w.heap.size, o, none⟩ = false := OR.frozen
    have X0 : w9.cell? ⟨X, 0, none⟩ = some (.int .i64 op) := by rw [OX.cell]; rfl
    have X1 : w9.cell? ⟨X, 1, none⟩ = some (.int .i64 (va)) := by rw [OX.cell]; rfl
    have X2 : w9.cell? ⟨X, 2, none⟩ = some (.int .i64 (0)) := by rw [OX.cell]; rfl
    have X3 : w9.cell? ⟨X, 3, none⟩ = some (.string (⟨#[]⟩)) := by rw [OX.cell]; rfl
    have FX : ∀ o, w9.frozen? ⟨X, o, none⟩ = false := OX.frozen
    by_cases hi : instrB ⟨op, va, 0, ⟨#[]⟩⟩ = s
    · have HI := Lib.hid hi
      have hne := str_eqn hi; clear hi
      go_wp2_with fail
      refine bodyPost_ret (v := .tuple #[.agg #[.int .i64 op, .int .i64 (va), .int .i64 (0), .string (⟨#[]⟩)], .bool true]) (by simp [results, Tryd.results35, go_sem, R0, R1, R2, R3, F0]) rfl ⟨⟨op, va, 0, ⟨#[]⟩⟩, true, rfl, fun _ => (by rw [← HXS.out]; exact impl_right (by rw [HOP.out]; exact hop) (by rw [HOP.out]; exact OKA.out) (by rw [HOP.out]; exact OKB.out) (by rw [HXS.out]; exact HI.out)), fun h => (by cases h), ?_⟩
      (repeat refine Ext.setCell ?_ (by omega) _)
      exact x1.trans hxf
    · have HI := Lib.hid hi
      have hne := str_nen hi; clear hi
      go_wp2_with fail
      refine bodyPost_ret (v := .tuple #[.agg #[.int .i64 0, .int .i64 0, .int .i64 0, .string ⟨#[]⟩], .bool false]) (by simp [results, Tryd.results35, go_sem, R0, R1, R2, R3, F0]) rfl ⟨⟨0, 0, 0, ⟨#[]⟩⟩, false, rfl, fun h => (by cases h), fun _ => ⟨rfl, (fun ⟨y, hy⟩ => HI.out (by have h := NOY.out y hy; rw [← HXS.out, h.2.2]; exact hy.2.1))⟩, ?_⟩
      (repeat refine Ext.setCell ?_ (by omega) _)
      exact x1.trans hxf
  · rw [hA, hB, hT0]
    have hA := Lib.hid hA; have hB := Lib.hid hB; have hT0 := Lib.hid hT0
    obtain ⟨CY, hCY⟩ : ∃ C : Array Value, C = #[.bool false, .pointer (some ⟨X, 1, none⟩), .bool false, .pointer (some ⟨X, 2, none⟩)] := ⟨_, rfl⟩
    go_wp2_with fail
    generalize hS : World.alloc W5 _ = W6
    obtain ⟨Y, hY⟩ : ∃ Y, Y = W5.heap.size := ⟨_, rfl⟩
    have OY0 : ∃ TY, Own W6 Y TY CY := ⟨_, by rw [← hS, hY, hCY]; exact own_new W5 _ _⟩
    obtain ⟨TY, OY⟩ := OY0
    have eS : Ext W5 W6 := by rw [← hS]; exact (Ext.refl _).alloc _
    have zY : X < Y := by rw [hY]; exact OX.lt
    rw [← hY]
    replace OR := OR.ext eS
    replace OX := OX.ext eS
    replace hxw := hxw.trans eS
    clear hS eS hY
    refine wp_loop_rounds 3 ?_
    rw [rounds_succ]
    rw [hCY] at OY
    have Y0 : W6.cell? ⟨Y, 0, none⟩ = some (.bool false) := by rw [OY.cell]; rfl
    have Y1 : W6.cell? ⟨Y, 1, none⟩ = some (.pointer (some ⟨X, 1, none⟩)) := by rw [OY.cell]; rfl
    have Y2 : W6.cell? ⟨Y, 2, none⟩ = some (.bool false) := by rw [OY.cell]; rfl
    have Y3 : W6.cell? ⟨Y, 3, none⟩ = some (.pointer (some ⟨X, 2, none⟩)) := by rw [OY.cell]; rfl
    rw [← hCY] at OY
    have X0 : W6.cell? ⟨X, 0, none⟩ = some (.int .i64 op) := by rw [OX.cell]; rfl
    have X1 : W6.cell? ⟨X, 1, none⟩ = some (.int .i64 (0)) := by rw [OX.cell]; rfl
    have X2 : W6.cell? ⟨X, 2, none⟩ = some (.int .i64 (0)) := by rw [OX.cell]; rfl
    have X3 : W6.cell? ⟨X, 3, none⟩ = some (.string (⟨#[]⟩)) := by rw [OX.cell]; rfl
    have FX : ∀ o, W6.frozen? ⟨X, o, none⟩ = false := OX.frozen
    go_wp2_with fail
    clear X0 X1 X2 X3 FX Y0 Y1 Y2 Y3
    generalize hS : World.alloc W6 _ = v4
    have eS : Ext W6 v4 := by rw [← hS]; exact (Ext.refl _).alloc _
    replace OR := OR.ext eS
    replace OX := OX.ext eS
    replace OY := OY.ext eS
    replace hxw := hxw.trans eS
    clear hS eS
    rw [rounds_succ]
    have OKA : Hid (okNI (uA op) (cutT s) = true) := Lib.hid (by rw [hA.out]; rfl)
    have EVA : Hid (vNI (uA op) (cutT s) = 0) := Lib.hid (by rw [hA.out]; rfl)
    have ERA : Hid (rNI (uA op) (cutT s) = rest) := Lib.hid (by rw [hA.out]; exact HRest.out)
    rw [hCY] at OY
    have Y0 : v4.cell? ⟨Y, 0, none⟩ = some (.bool false) := by rw [OY.cell]; rfl
    have Y1 : v4.cell? ⟨Y, 1, none⟩ = some (.pointer (some ⟨X, 1, none⟩)) := by rw [OY.cell]; rfl
    have Y2 : v4.cell? ⟨Y, 2, none⟩ = some (.bool false) := by rw [OY.cell]; rfl
    have Y3 : v4.cell? ⟨Y, 3, none⟩ = some (.pointer (some ⟨X, 2, none⟩)) := by rw [OY.cell]; rfl
    rw [← hCY] at OY
    have X0 : v4.cell? ⟨X, 0, none⟩ = some (.int .i64 op) := by rw [OX.cell]; rfl
    have X1 : v4.cell? ⟨X, 1, none⟩ = some (.int .i64 (0)) := by rw [OX.cell]; rfl
    have X2 : v4.cell? ⟨X, 2, none⟩ = some (.int .i64 (0)) := by rw [OX.cell]; rfl
    have X3 : v4.cell? ⟨X, 3, none⟩ = some (.string (⟨#[]⟩)) := by rw [OX.cell]; rfl
    have FX : ∀ o, v4.frozen? ⟨X, o, none⟩ = false := OX.frozen
    go_wp2_with fail
    clear X0 X1 X2 X3 FX Y0 Y1 Y2 Y3
    generalize hS : World.alloc v4 _ = v5
    have eS : Ext v4 v5 := by rw [← hS]; exact (Ext.refl _).alloc _
    replace OR := OR.ext eS
    replace OX := OX.ext eS
    replace OY := OY.ext eS
    replace hxw := hxw.trans eS
    clear hS eS
    rw [rounds_succ]
    have OKB : Hid (okNI (uB op) (rNI (uA op) (cutT s)) = true) := Lib.hid (by rw [hB.out]; rfl)
    have EVB : Hid (vNI (uB op) (rNI (uA op) (cutT s)) = 0) := Lib.hid (by rw [hB.out]; rfl)
    have ERB : Hid (rNI (uB op) (rNI (uA op) (cutT s)) = rest) := Lib.hid (by rw [ERA.out, hB.out]; rfl)
    have HXS : Hid (xI s = ⟨op, 0, 0, rest⟩) := Lib.hid (by unfold xI; rw [HOP.out, EVA.out, EVB.out, ERB.out, hT0.out]; rfl)
    have hd := instr_d (a := 0) (b := 0) (t := rest) hop ⟨by omega, by omega⟩ ⟨by omega, by omega⟩ hzr
    have HDB := Lib.hid hd; clear hd
    have X0 : v5.cell? ⟨X, 0, none⟩ = some (.int .i64 op) := by rw [OX.cell]; rfl
    have X1 : v5.cell? ⟨X, 1, none⟩ = some (.int .i64 (0)) := by rw [OX.cell]; rfl
    have X2 : v5.cell? ⟨X, 2, none⟩ = some (.int .i64 (0)) := by rw [OX.cell]; rfl
    have X3 : v5.cell? ⟨X, 3, none⟩ = some (.string (⟨#[]⟩)) := by rw [OX.cell]; rfl
    have FX : ∀ o, v5.frozen? ⟨X, o, none⟩ = false := OX.frozen
    go_wp2_with fail
    clear X0 X1 X2 X3 FX
    generalize hS : World.setCell v5 _ _ = v6
    have OR' : Own v6 w.heap.size 60 #[.int .i64 0, .int .i64 0, .int .i64 0, .string ⟨#[]⟩] := by rw [← hS]; exact OR.other _ (by show w.heap.size ≠ X; omega) _
    have OY' : Own v6 Y TY CY := by rw [← hS]; exact OY.other _ (by show Y ≠ X; omega) _
    have OX' : Own v6 X 60 #[.int .i64 op, .int .i64 (0), .int .i64 (0), .string rest] := by rw [← hS]; exact OX.set _ _
    have hxw' : Ext W1 v6 := by rw [← hS]; exact Ext.setCell hxw (by omega) _
    clear hS OR OX OY hxw
    have OR := OR'; have OX := OX'; have OY := OY'; have hxw := hxw'
    clear OR' OX' OY' hxw'
    refine (impl_FormatInstr_any ⟨op, 0, 0, rest⟩ [.int .i64 op, .int .i64 (0), .int .i64 (0), .string (rest)] _ (instr_rep _ _ _ _ _) HDB.out.1 HDB.out.2 (hT.ext hxw)).mono ?_
    rintro e w9 ⟨rfl, hx9⟩
    replace OR := OR.ext hx9
    replace OX := OX.ext hx9
    have hxf := hxw.trans hx9
    have R0 : w9.cell? ⟨w.heap.size, 0, none⟩ = some (.int .i64 0) := by rw [OR.cell]; rfl
    have R1 : w9.cell? ⟨w.heap.size, 1, none⟩ = some (.int .i64 0) := by rw [OR.cell]; rfl
    have R2 : w9.cell? ⟨w.heap.size, 2, none⟩ = some (.int .i64 0) := by rw [OR.cell]; rfl
    have R3 : w9.cell? ⟨w.heap.size, 3, none⟩ = some (.string ⟨#[]⟩) := by rw [OR.cell]; rfl
    have F0 : ∀ o, w9.frozen? ⟨w.heap.size, o, none⟩ = false := OR.frozen
    have X0 : w9.cell? ⟨X, 0, none⟩ = some (.int .i64 op) := by rw [OX.cell]; rfl
    have X1 : w9.cell? ⟨X, 1, none⟩ = some (.int .i64 (0)) := by rw [OX.cell]; rfl
    have X2 : w9.cell? ⟨X, 2, none⟩ = some (.int .i64 (0)) := by rw [OX.cell]; rfl
    have X3 : w9.cell? ⟨X, 3, none⟩ = some (.string (rest)) := by rw [OX.cell]; rfl
    have FX : ∀ o, w9.frozen? ⟨X, o, none⟩ = false := OX.frozen
    by_cases hi : instrB ⟨op, 0, 0, rest⟩ = s
    · have HI := Lib.hid hi
      have hne := str_eqn hi; clear hi
      go_wp2_with fail
      refine bodyPost_ret (v := .tuple #[.agg #[.int .i64 op, .int .i64 (0), .int .i64 (0), .string (rest)], .bool true]) (by simp [results, Tryd.results35, go_sem, R0, R1, R2, R3, F0]) rfl ⟨⟨op, 0, 0, rest⟩, true, rfl, fun _ => (by rw [← HXS.out]; exact impl_right (by rw [HOP.out]; exact hop) (by rw [HOP.out]; exact OKA.out) (by rw [HOP.out]; exact OKB.out) (by rw [HXS.out]; exact HI.out)), fun h => (by cases h), ?_⟩
      (repeat refine Ext.setCell ?_ (by omega) _)
      exact x1.trans hxf
    · have HI := Lib.hid hi
      have hne := str_nen hi; clear hi
      go_wp2_with fail
      refine bodyPost_ret (v := .tuple #[.agg #[.int .i64 0, .int .i64 0, .int .i64 0, .string ⟨#[]⟩], .bool false]) (by simp [results, Tryd.results35, go_sem, R0, R1, R2, R3, F0]) rfl ⟨⟨0, 0, 0, ⟨#[]⟩⟩, false, rfl, fun h => (by cases h), fun _ => ⟨rfl, (fun ⟨y, hy⟩ => HI.out (by have h := NOY.out y hy; rw [← HXS.out, h.2.2]; exact hy.2.1))⟩, ?_⟩
      (repeat refine Ext.setCell ?_ (by omega) _)
      exact x1.trans hxf
  · rw [hA, hB, hT0]
    have hA := Lib.hid hA; have hB := Lib.hid hB; have hT0 := Lib.hid hT0
    obtain ⟨CY, hCY⟩ : ∃ C : Array Value, C = #[.bool true, .pointer (some ⟨X, 1, none⟩), .bool true, .pointer (some ⟨X, 2, none⟩)] := ⟨_, rfl⟩
    go_wp2_with fail
    generalize hS : World.alloc W5 _ = W6
    obtain ⟨Y, hY⟩ : ∃ Y, Y = W5.heap.size := ⟨_, rfl⟩
    have OY0 : ∃ TY, Own W6 Y TY CY := ⟨_, by rw [← hS, hY, hCY]; exact own_new W5 _ _⟩
    obtain ⟨TY, OY⟩ := OY0
    have eS : Ext W5 W6 := by rw [← hS]; exact (Ext.refl _).alloc _
    have zY : X < Y := by rw [hY]; exact OX.lt
    rw [← hY]
    replace OR := OR.ext eS
    replace OX := OX.ext eS
    replace hxw := hxw.trans eS
    clear hS eS hY
    refine wp_loop_rounds 3 ?_
    rw [rounds_succ]
    rw [hCY] at OY
    have Y0 : W6.cell? ⟨Y, 0, none⟩ = some (.bool true) := by rw [OY.cell]; rfl
    have Y1 : W6.cell? ⟨Y, 1, none⟩ = some (.pointer (some ⟨X, 1, none⟩)) := by rw [OY.cell]; rfl
    have Y2 : W6.cell? ⟨Y, 2, none⟩ = some (.bool true) := by rw [OY.cell]; rfl
    have Y3 : W6.cell? ⟨Y, 3, none⟩ = some (.pointer (some ⟨X, 2, none⟩)) := by rw [OY.cell]; rfl
    rw [← hCY] at OY
    have X0 : W6.cell? ⟨X, 0, none⟩ = some (.int .i64 op) := by rw [OX.cell]; rfl
    have X1 : W6.cell? ⟨X, 1, none⟩ = some (.int .i64 (0)) := by rw [OX.cell]; rfl
    have X2 : W6.cell? ⟨X, 2, none⟩ = some (.int .i64 (0)) := by rw [OX.cell]; rfl
    have X3 : W6.cell? ⟨X, 3, none⟩ = some (.string (⟨#[]⟩)) := by rw [OX.cell]; rfl
    have FX : ∀ o, W6.frozen? ⟨X, o, none⟩ = false := OX.frozen
    have hM0 := hM.ext hxw
    have HRZ := Lib.hid hzr
    obtain ⟨pA, hpA⟩ : ∃ p, cutH rest = p := ⟨_, rfl⟩
    obtain ⟨rA, hrA⟩ : ∃ p, cutT rest = p := ⟨_, rfl⟩
    obtain ⟨fA, hfA⟩ : ∃ p, cutF rest = p := ⟨_, rfl⟩
    have hzA : pA.size ≤ 1048576 := by have := cutH_le rest; rw [hpA] at this; omega
    have hzrA : rA.size ≤ 1048576 := by have := cutT_le rest; rw [hrA] at this; omega
    obtain ⟨va, hva⟩ : ∃ v, PV pA = v := ⟨_, rfl⟩
    obtain ⟨okA, hokA⟩ : ∃ v, PB pA = v := ⟨_, rfl⟩
    have hvr_va : Hid (-9223372036854775808 ≤ va ∧ va ≤ 9223372036854775807) := Lib.hid (by rw [← hva]; exact num_b64 pA)
    have CC : Hid (∀ W, MaxOk W → Calls Tryd.prog 66 #[.string rest, .string ⟨#[32]⟩] W fun e w' => e = .returned (.tuple #[.string pA, .string rA, .bool fA]) ∧ Ext W w') := Lib.hid fun W hm => by
      rw [← hpA, ← hrA, ← hfA]; exact cut_any rest W HRZ.out hm
    have HZP := Lib.hid hzA
    have C : Hid (∀ W, TabOk W → ErrOk W → Calls Tryd.prog 33 #[.string pA] W fun e w' => e = .returned (.tuple #[.int .i64 va, .bool okA]) ∧ Ext W w') := Lib.hid fun W ht he => by
      rw [← hva, ← hokA]; exact impl_ParseInt_any pA W HZP.out ht he
    have HPA := Lib.hid hpA; have HRA := Lib.hid hrA; have HVA := Lib.hid hva
    clear hpA hrA hfA hva
    go_wp2_with fail
    clear X0 X1 X2 X3 FX Y0 Y1 Y2 Y3
    generalize hS : World.alloc W6 _ = v7
    have eS : Ext W6 v7 := by rw [← hS]; exact (Ext.refl _).alloc _
    replace OR := OR.ext eS
    replace OX := OX.ext eS
    replace OY := OY.ext eS
    replace hxw := hxw.trans eS
    obtain ⟨Q, hQ⟩ : ∃ Q, Q = W6.heap.size := ⟨_, rfl⟩
    have OQ0 : ∃ TQ, Own v7 Q TQ #[.bool true, .pointer (some ⟨X, 1, none⟩)] := ⟨_, by rw [← hS, hQ]; exact own_new W6 _ _⟩
    obtain ⟨TQ, OQ⟩ := OQ0
    rw [← hQ]
    clear hS eS hQ
    refine (CC.out _ (hM.ext hxw)).mono ?_
    rintro e wc ⟨rfl, hxc⟩
    replace OR := OR.ext hxc
    replace OX := OX.ext hxc
    replace OY := OY.ext hxc
    replace OQ := OQ.ext hxc
    replace hxw := hxw.trans hxc
    clear hxc
    go_wp2_with fail
    refine (C.out _ (hT.ext hxw) (hE.ext hxw)).mono ?_
    cases okA
    · rintro e wk ⟨rfl, hxk⟩
      have HOK := Lib.hid hokA
      replace OR := OR.ext hxk
      have hxf := hxw.trans hxk
      have R0 : wk.cell? ⟨w.heap.size, 0, none⟩ = some (.int .i64 0) := by rw [OR.cell]; rfl
      have R1 : wk.cell? ⟨w.heap.size, 1, none⟩ = some (.int .i64 0) := by rw [OR.cell]; rfl
      have R2 : wk.cell? ⟨w.heap.size, 2, none⟩ = some (.int .i64 0) := by rw [OR.cell]; rfl
      have R3 : wk.cell? ⟨w.heap.size, 3, none⟩ = some (.string ⟨#[]⟩) := by rw [OR.cell]; rfl
      have F0 : ∀ o, wk.frozen? ⟨w.heap.size, o, none⟩ = false := OR.frozen
      have NOP : Hid (¬ ∃ y, OkI s y) := Lib.hid (fun ⟨y, hy⟩ => by
        have h := NOY.out y hy
        exact absurd (h.1.symm.trans (show okNI (uA op) (cutT s) = false from by rw [hA.out, HRest.out]; unfold okNI; rw [if_pos rfl, HPA.out]; exact HOK.out)) (by simp))
      go_wp2_with fail
      refine bodyPost_ret (v := .tuple #[.agg #[.int .i64 0, .int .i64 0, .int .i64 0, .string ⟨#[]⟩], .bool false]) (by simp [results, Tryd.results35, go_sem, R0, R1, R2, R3, F0]) rfl ⟨⟨0, 0, 0, ⟨#[]⟩⟩, false, rfl, fun h => (by cases h), fun _ => ⟨rfl, NOP.out⟩, ?_⟩
      (repeat refine Ext.setCell ?_ (by omega) _)
      exact x1.trans hxf
    rintro e wk ⟨rfl, hxk⟩
    have HOKA := Lib.hid hokA; clear hokA
    replace OR := OR.ext hxk
    replace OX := OX.ext hxk
    replace OY := OY.ext hxk
    replace OQ := OQ.ext hxk
    replace hxw := hxw.trans hxk
    clear hxk C CC
    have Q1 : wk.cell? ⟨Q, 1, none⟩ = some (.pointer (some ⟨X, 1, none⟩)) := by rw [OQ.cell]; rfl
    have X0 : wk.cell? ⟨X, 0, none⟩ = some (.int .i64 op) := by rw [OX.cell]; rfl
    have X1 : wk.cell? ⟨X, 1, none⟩ = some (.int .i64 (0)) := by rw [OX.cell]; rfl
    have X2 : wk.cell? ⟨X, 2, none⟩ = some (.int .i64 (0)) := by rw [OX.cell]; rfl
    have X3 : wk.cell? ⟨X, 3, none⟩ = some (.string (⟨#[]⟩)) := by rw [OX.cell]; rfl
    have FX : ∀ o, wk.frozen? ⟨X, o, none⟩ = false := OX.frozen
    go_wp2_with fail
    clear X0 X1 X2 X3 FX Q1 OQ
    generalize hS : World.setCell wk _ _ = v8
    have OR' : Own v8 w.heap.size 60 #[.int .i64 0, .int .i64 0, .int .i64 0, .string ⟨#[]⟩] := by rw [← hS]; exact OR.other _ (by show w.heap.size ≠ X; omega) _
    have OY' : Own v8 Y TY CY := by rw [← hS]; exact OY.other _ (by show Y ≠ X; omega) _
    have OX' : Own v8 X 60 #[.int .i64 op, .int .i64 va, .int .i64 0, .string ⟨#[]⟩] := by rw [← hS]; exact OX.set _ _
    have hxw' : Ext W1 v8 := by rw [← hS]; exact Ext.setCell hxw (by omega) _
    clear hS OR OX OY hxw
    have OR := OR'; have OX := OX'; have OY := OY'; have hxw := hxw'
    clear OR' OX' OY' hxw'
    rw [rounds_succ]
    have OKA : Hid (okNI (uA op) (cutT s) = true) := Lib.hid (by rw [hA.out, okNI, if_pos rfl, HRest.out, HPA.out]; exact HOKA.out)
    have EVA : Hid (vNI (uA op) (cutT s) = va) := Lib.hid (by rw [hA.out, vNI, if_pos rfl, HRest.out, HPA.out]; exact HVA.out)
    have ERA : Hid (rNI (uA op) (cutT s) = rA) := Lib.hid (by rw [hA.out, rNI, if_pos rfl, HRest.out]; exact HRA.out)
    rw [hCY] at OY
    have Y0 : v8.cell? ⟨Y, 0, none⟩ = some (.bool true) := by rw [OY.cell]; rfl
    have Y1 : v8.cell? ⟨Y, 1, none⟩ = some (.pointer (some ⟨X, 1, none⟩)) := by rw [OY.cell]; rfl
    have Y2 : v8.cell? ⟨Y, 2, none⟩ = some (.bool true) := by rw [OY.cell]; rfl
    have Y3 : v8.cell? ⟨Y, 3, none⟩ = some (.pointer (some ⟨X, 2, none⟩)) := by rw [OY.cell]; rfl
    rw [← hCY] at OY
    have X0 : v8.cell? ⟨X, 0, none⟩ = some (.int .i64 op) := by rw [OX.cell]; rfl
    have X1 : v8.cell? ⟨X, 1, none⟩ = some (.int .i64 (va)) := by rw [OX.cell]; rfl
    have X2 : v8.cell? ⟨X, 2, none⟩ = some (.int .i64 (0)) := by rw [OX.cell]; rfl
    have X3 : v8.cell? ⟨X, 3, none⟩ = some (.string (⟨#[]⟩)) := by rw [OX.cell]; rfl
    have FX : ∀ o, v8.frozen? ⟨X, o, none⟩ = false := OX.frozen
    have hM1 := hM.ext hxw
    have HRZ := Lib.hid hzrA
    obtain ⟨pB, hpB⟩ : ∃ p, cutH rA = p := ⟨_, rfl⟩
    obtain ⟨rB, hrB⟩ : ∃ p, cutT rA = p := ⟨_, rfl⟩
    obtain ⟨fB, hfB⟩ : ∃ p, cutF rA = p := ⟨_, rfl⟩
    have hzB : pB.size ≤ 1048576 := by have := cutH_le rA; rw [hpB] at this; omega
    have hzrB : rB.size ≤ 1048576 := by have := cutT_le rA; rw [hrB] at this; omega
    obtain ⟨vb, hvb⟩ : ∃ v, PV pB = v := ⟨_, rfl⟩
    obtain ⟨okB, hokB⟩ : ∃ v, PB pB = v := ⟨_, rfl⟩
    have hvr_vb : Hid (-9223372036854775808 ≤ vb ∧ vb ≤ 9223372036854775807) := Lib.hid (by rw [← hvb]; exact num_b64 pB)
    have CC : Hid (∀ W, MaxOk W → Calls Tryd.prog 66 #[.string rA, .string ⟨#[32]⟩] W fun e w' => e = .returned (.tuple #[.string pB, .string rB, .bool fB]) ∧ Ext W w') := Lib.hid fun W hm => by
      rw [← hpB, ← hrB, ← hfB]; exact cut_any rA W HRZ.out hm
    have HZP := Lib.hid hzB
    have C : Hid (∀ W, TabOk W → ErrOk W → Calls Tryd.prog 33 #[.string pB] W fun e w' => e = .returned (.tuple #[.int .i64 vb, .bool okB]) ∧ Ext W w') := Lib.hid fun W ht he => by
      rw [← hvb, ← hokB]; exact impl_ParseInt_any pB W HZP.out ht he
    have HPB := Lib.hid hpB; have HRB := Lib.hid hrB; have HVB := Lib.hid hvb
    clear hpB hrB hfB hvb
    go_wp2_with fail
    clear X0 X1 X2 X3 FX Y0 Y1 Y2 Y3
    generalize hS : World.alloc v8 _ = v9
    have eS : Ext v8 v9 := by rw [← hS]; exact (Ext.refl _).alloc _
    replace OR := OR.ext eS
    replace OX := OX.ext eS
    replace OY := OY.ext eS
    replace hxw := hxw.trans eS
    obtain ⟨Q, hQ⟩ : ∃ Q, Q = v8.heap.size := ⟨_, rfl⟩
    have OQ0 : ∃ TQ, Own v9 Q TQ #[.bool true, .pointer (some ⟨X, 2, none⟩)] := ⟨_, by rw [← hS, hQ]; exact own_new v8 _ _⟩
    obtain ⟨TQ, OQ⟩ := OQ0
    rw [← hQ]
    clear hS eS hQ
    refine (CC.out _ (hM.ext hxw)).mono ?_
    rintro e wc ⟨rfl, hxc⟩
    replace OR := OR.ext hxc
    replace OX := OX.ext hxc
    replace OY := OY.ext hxc
    replace OQ := OQ.ext hxc
    replace hxw := hxw.trans hxc
    clear hxc
    go_wp2_with fail
    refine (C.out _ (hT.ext hxw) (hE.ext hxw)).mono ?_
    cases okB
    · rintro e wk ⟨rfl, hxk⟩
      have HOK := Lib.hid hokB
      replace OR := OR.ext hxk
      have hxf := hxw.trans hxk
      have R0 : wk.cell? ⟨w.heap.size, 0, none⟩ = some (.int .i64 0) := by rw [OR.cell]; rfl
      have R1 : wk.cell? ⟨w.heap.size, 1, none⟩ = some (.int .i64 0) := by rw [OR.cell]; rfl
      have R2 : wk.cell? ⟨w.heap.size, 2, none⟩ = some (.int .i64 0) := by rw [OR.cell]; rfl
      have R3 : wk.cell? ⟨w.heap.size, 3, none⟩ = some (.string ⟨#[]⟩) := by rw [OR.cell]; rfl
      have F0 : ∀ o, wk.frozen? ⟨w.heap.size, o, none⟩ = false := OR.frozen
      have NOP : Hid (¬ ∃ y, OkI s y) := Lib.hid (fun ⟨y, hy⟩ => by
        have h := NOY.out y hy
        exact absurd (h.2.1.symm.trans (show okNI (uB op) (rNI (uA op) (cutT s)) = false from by rw [hB.out, ERA.out]; unfold okNI; rw [if_pos rfl, HPB.out]; exact HOK.out)) (by simp))
      go_wp2_with fail
      refine bodyPost_ret (v := .tuple #[.agg #[.int .i64 0, .int .i64 0, .int .i64 0, .string ⟨#[]⟩], .bool false]) (by simp [results, Tryd.results35, go_sem, R0, R1, R2, R3, F0]) rfl ⟨⟨0, 0, 0, ⟨#[]⟩⟩, false, rfl, fun h => (by cases h), fun _ => ⟨rfl, NOP.out⟩, ?_⟩
      (repeat refine Ext.setCell ?_ (by omega) _)
      exact x1.trans hxf
    rintro e wk ⟨rfl, hxk⟩
    have HOKB := Lib.hid hokB; clear hokB
    replace OR := OR.ext hxk
    replace OX := OX.ext hxk
    replace OY := OY.ext hxk
    replace OQ := OQ.ext hxk
    replace hxw := hxw.trans hxk
    clear hxk C CC
    have Q1 : wk.cell? ⟨Q, 1, none⟩ = some (.pointer (some ⟨X, 2, none⟩)) := by rw [OQ.cell]; rfl
    have X0 : wk.cell? ⟨X, 0, none⟩ = some (.int .i64 op) := by rw [OX.cell]; rfl
    have X1 : wk.cell? ⟨X, 1, none⟩ = some (.int .i64 (va)) := by rw [OX.cell]; rfl
    have X2 : wk.cell? ⟨X, 2, none⟩ = some (.int .i64 (0)) := by rw [OX.cell]; rfl
    have X3 : wk.cell? ⟨X, 3, none⟩ = some (.string (⟨#[]⟩)) := by rw [OX.cell]; rfl
    have FX : ∀ o, wk.frozen? ⟨X, o, none⟩ = false := OX.frozen
    go_wp2_with fail
    clear X0 X1 X2 X3 FX Q1 OQ
    generalize hS : World.setCell wk _ _ = v10
    have OR' : Own v10 w.heap.size 60 #[.int .i64 0, .int .i64 0, .int .i64 0, .string ⟨#[]⟩] := by rw [← hS]; exact OR.other _ (by show w.heap.size ≠ X; omega) _
    have OY' : Own v10 Y TY CY := by rw [← hS]; exact OY.other _ (by show Y ≠ X; omega) _
    have OX' : Own v10 X 60 #[.int .i64 op, .int .i64 (va), .int .i64 vb, .string ⟨#[]⟩] := by rw [← hS]; exact OX.set _ _
    have hxw' : Ext W1 v10 := by rw [← hS]; exact Ext.setCell hxw (by omega) _
    clear hS OR OX OY hxw
    have OR := OR'; have OX := OX'; have OY := OY'; have hxw := hxw'
    clear OR' OX' OY' hxw'
    rw [rounds_succ]
    have OKB : Hid (okNI (uB op) (rNI (uA op) (cutT s)) = true) := Lib.hid (by rw [ERA.out, hB.out, okNI, if_pos rfl, HPB.out]; exact HOKB.out)
    have EVB : Hid (vNI (uB op) (rNI (uA op) (cutT s)) = vb) := Lib.hid (by rw [ERA.out, hB.out, vNI, if_pos rfl, HPB.out]; exact HVB.out)
    have ERB : Hid (rNI (uB op) (rNI (uA op) (cutT s)) = rB) := Lib.hid (by rw [ERA.out, hB.out, rNI, if_pos rfl]; exact HRB.out)
    have HXS : Hid (xI s = ⟨op, va, vb, ⟨#[]⟩⟩) := Lib.hid (by unfold xI; rw [HOP.out, EVA.out, EVB.out, ERB.out, hT0.out]; rfl)
    have hd := instr_d (a := va) (b := vb) (t := ⟨#[]⟩) hop hvr_va.out hvr_vb.out (by decide)
    have HDB := Lib.hid hd; clear hd
    have X0 : v10.cell? ⟨X, 0, none⟩ = some (.int .i64 op) := by rw [OX.cell]; rfl
    have X1 : v10.cell? ⟨X, 1, none⟩ = some (.int .i64 (va)) := by rw [OX.cell]; rfl
    have X2 : v10.cell? ⟨X, 2, none⟩ = some (.int .i64 (vb)) := by rw [OX.cell]; rfl
    have X3 : v10.cell? ⟨X, 3, none⟩ = some (.string (⟨#[]⟩)) := by rw [OX.cell]; rfl
    have FX : ∀ o, v10.frozen? ⟨X, o, none⟩ = false := OX.frozen
    go_wp2_with fail
    clear X0 X1 X2 X3 FX
    refine (impl_FormatInstr_any ⟨op, va, vb, ⟨#[]⟩⟩ [.int .i64 op, .int .i64 (va), .int .i64 (vb), .string (⟨#[]⟩)] _ (instr_rep _ _ _ _ _) HDB.out.1 HDB.out.2 (hT.ext hxw)).mono ?_
    rintro e w9 ⟨rfl, hx9⟩
    replace OR := OR.ext hx9
    replace OX := OX.ext hx9
    have hxf := hxw.trans hx9
    have R0 : w9.cell? ⟨w.heap.size, 0, none⟩ = some (.int .i64 0) := by rw [OR.cell]; rfl
    have R1 : w9.cell? ⟨w.heap.size, 1, none⟩ = some (.int .i64 0) := by rw [OR.cell]; rfl
    have R2 : w9.cell? ⟨w.heap.size, 2, none⟩ = some (.int .i64 0) := by rw [OR.cell]; rfl
    have R3 : w9.cell? ⟨w.heap.size, 3, none⟩ = some (.string ⟨#[]⟩) := by rw [OR.cell]; rfl
    have F0 : ∀ o, w9.frozen? ⟨w.heap.size, o, none⟩ = false := OR.frozen
    have X0 : w9.cell? ⟨X, 0, none⟩ = some (.int .i64 op) := by rw [OX.cell]; rfl
    have X1 : w9.cell? ⟨X, 1, none⟩ = some (.int .i64 (va)) := by rw [OX.cell]; rfl
    have X2 : w9.cell? ⟨X, 2, none⟩ = some (.int .i64 (vb)) := by rw [OX.cell]; rfl
    have X3 : w9.cell? ⟨X, 3, none⟩ = some (.string (⟨#[]⟩)) := by rw [OX.cell]; rfl
    have FX : ∀ o, w9.frozen? ⟨X, o, none⟩ = false := OX.frozen
    by_cases hi : instrB ⟨op, va, vb, ⟨#[]⟩⟩ = s
    · have HI := Lib.hid hi
      have hne := str_eqn hi; clear hi
      go_wp2_with fail
      refine bodyPost_ret (v := .tuple #[.agg #[.int .i64 op, .int .i64 (va), .int .i64 (vb), .string (⟨#[]⟩)], .bool true]) (by simp [results, Tryd.results35, go_sem, R0, R1, R2, R3, F0]) rfl ⟨⟨op, va, vb, ⟨#[]⟩⟩, true, rfl, fun _ => (by rw [← HXS.out]; exact impl_right (by rw [HOP.out]; exact hop) (by rw [HOP.out]; exact OKA.out) (by rw [HOP.out]; exact OKB.out) (by rw [HXS.out]; exact HI.out)), fun h => (by cases h), ?_⟩
      (repeat refine Ext.setCell ?_ (by omega) _)
      exact x1.trans hxf
    · have HI := Lib.hid hi
      have hne := str_nen hi; clear hi
      go_wp2_with fail
      refine bodyPost_ret (v := .tuple #[.agg #[.int .i64 0, .int .i64 0, .int .i64 0, .string ⟨#[]⟩], .bool false]) (by simp [results, Tryd.results35, go_sem, R0, R1, R2, R3, F0]) rfl ⟨⟨0, 0, 0, ⟨#[]⟩⟩, false, rfl, fun h => (by cases h), fun _ => ⟨rfl, (fun ⟨y, hy⟩ => HI.out (by have h := NOY.out y hy; rw [← HXS.out, h.2.2]; exact hy.2.1))⟩, ?_⟩
      (repeat refine Ext.setCell ?_ (by omega) _)
      exact x1.trans hxf
  · rw [hA, hB, hT0]
    have hA := Lib.hid hA; have hB := Lib.hid hB; have hT0 := Lib.hid hT0
    obtain ⟨CY, hCY⟩ : ∃ C : Array Value, C = #[.bool true, .pointer (some ⟨X, 1, none⟩), .bool false, .pointer (some ⟨X, 2, none⟩)] := ⟨_, rfl⟩
    go_wp2_with fail
    generalize hS : World.alloc W5 _ = W6
    obtain ⟨Y, hY⟩ : ∃ Y, Y = W5.heap.size := ⟨_, rfl⟩
    have OY0 : ∃ TY, Own W6 Y TY CY := ⟨_, by rw [← hS, hY, hCY]; exact own_new W5 _ _⟩
    obtain ⟨TY, OY⟩ := OY0
    have eS : Ext W5 W6 := by rw [← hS]; exact (Ext.refl _).alloc _
    have zY : X < Y := by rw [hY]; exact OX.lt
    rw [← hY]
    replace OR := OR.ext eS
    replace OX := OX.ext eS
    replace hxw := hxw.trans eS
    clear hS eS hY
    refine wp_loop_rounds 3 ?_
    rw [rounds_succ]
    rw [hCY] at OY
    have Y0 : W6.cell? ⟨Y, 0, none⟩ = some (.bool true) := by rw [OY.cell]; rfl
    have Y1 : W6.cell? ⟨Y, 1, none⟩ = some (.pointer (some ⟨X, 1, none⟩)) := by rw [OY.cell]; rfl
    have Y2 : W6.cell? ⟨Y, 2, none⟩ = some (.bool false) := by rw [OY.cell]; rfl
    have Y3 : W6.cell? ⟨Y, 3, none⟩ = some (.pointer (some ⟨X, 2, none⟩)) := by rw [OY.cell]; rfl
    rw [← hCY] at OY
    have X0 : W6.cell? ⟨X, 0, none⟩ = some (.int .i64 op) := by rw [OX.cell]; rfl
    have X1 : W6.cell? ⟨X, 1, none⟩ = some (.int .i64 (0)) := by rw [OX.cell]; rfl
    have X2 : W6.cell? ⟨X, 2, none⟩ = some (.int .i64 (0)) := by rw [OX.cell]; rfl
    have X3 : W6.cell? ⟨X, 3, none⟩ = some (.string (⟨#[]⟩)) := by rw [OX.cell]; rfl
    have FX : ∀ o, W6.frozen? ⟨X, o, none⟩ = false := OX.frozen
    have hM0 := hM.ext hxw
    have HRZ := Lib.hid hzr
    obtain ⟨pA, hpA⟩ : ∃ p, cutH rest = p := ⟨_, rfl⟩
    obtain ⟨rA, hrA⟩ : ∃ p, cutT rest = p := ⟨_, rfl⟩
    obtain ⟨fA, hfA⟩ : ∃ p, cutF rest = p := ⟨_, rfl⟩
    have hzA : pA.size ≤ 1048576 := by have := cutH_le rest; rw [hpA] at this; omega
    have hzrA : rA.size ≤ 1048576 := by have := cutT_le rest; rw [hrA] at this; omega
    obtain ⟨va, hva⟩ : ∃ v, PV pA = v := ⟨_, rfl⟩
    obtain ⟨okA, hokA⟩ : ∃ v, PB pA = v := ⟨_, rfl⟩
    have hvr_va : Hid (-9223372036854775808 ≤ va ∧ va ≤ 9223372036854775807) := Lib.hid (by rw [← hva]; exact num_b64 pA)
    have CC : Hid (∀ W, MaxOk W → Calls Tryd.prog 66 #[.string rest, .string ⟨#[32]⟩] W fun e w' => e = .returned (.tuple #[.string pA, .string rA, .bool fA]) ∧ Ext W w') := Lib.hid fun W hm => by
      rw [← hpA, ← hrA, ← hfA]; exact cut_any rest W HRZ.out hm
    have HZP := Lib.hid hzA
    have C : Hid (∀ W, TabOk W → ErrOk W → Calls Tryd.prog 33 #[.string pA] W fun e w' => e = .returned (.tuple #[.int .i64 va, .bool okA]) ∧ Ext W w') := Lib.hid fun W ht he => by
      rw [← hva, ← hokA]; exact impl_ParseInt_any pA W HZP.out ht he
    have HPA := Lib.hid hpA; have HRA := Lib.hid hrA; have HVA := Lib.hid hva
    clear hpA hrA hfA hva
    go_wp2_with fail
    clear X0 X1 X2 X3 FX Y0 Y1 Y2 Y3
    generalize hS : World.alloc W6 _ = v11
    have eS : Ext W6 v11 := by rw [← hS]; exact (Ext.refl _).alloc _
    replace OR := OR.ext eS
    replace OX := OX.ext eS
    replace OY := OY.ext eS
    replace hxw := hxw.trans eS
    obtain ⟨Q, hQ⟩ : ∃ Q, Q = W6.heap.size := ⟨_, rfl⟩
    have OQ0 : ∃ TQ, Own v11 Q TQ #[.bool true, .pointer (some ⟨X, 1, none⟩)] := ⟨_, by rw [← hS, hQ]; exact own_new W6 _ _⟩
    obtain ⟨TQ, OQ⟩ := OQ0
    rw [← hQ]
    clear hS eS hQ
    refine (CC.out _ (hM.ext hxw)).mono ?_
    rintro e wc ⟨rfl, hxc⟩
    replace OR := OR.ext hxc
    replace OX := OX.ext hxc
    replace OY := OY.ext hxc
    replace OQ := OQ.ext hxc
    replace hxw := hxw.trans hxc
    clear hxc
    go_wp2_with fail
    refine (C.out _ (hT.ext hxw) (hE.ext hxw)).mono ?_
    cases okA
    · rintro e wk ⟨rfl, hxk⟩
      have HOK := Lib.hid hokA
      replace OR := OR.ext hxk
      have hxf := hxw.trans hxk
      have R0 : wk.cell? ⟨w.heap.size, 0, none⟩ = some (.int .i64 0) := by rw [OR.cell]; rfl
      have R1 : wk.cell? ⟨w.heap.size, 1, none⟩ = some (.int .i64 0) := by rw [OR.cell]; rfl
      have R2 : wk.cell? ⟨w.heap.size, 2, none⟩ = some (.int .i64 0) := by rw [OR.cell]; rfl
      have R3 : wk.cell? ⟨w.heap.size, 3, none⟩ = some (.string ⟨#[]⟩) := by rw [OR.cell]; rfl
      have F0 : ∀ o, wk.frozen? ⟨w.heap.size, o, none⟩ = false := OR.frozen
      have NOP : Hid (¬ ∃ y, OkI s y) := Lib.hid (fun ⟨y, hy⟩ => by
        have h := NOY.out y hy
        exact absurd (h.1.symm.trans (show okNI (uA op) (cutT s) = false from by rw [hA.out, HRest.out]; unfold okNI; rw [if_pos rfl, HPA.out]; exact HOK.out)) (by simp))
      go_wp2_with fail
      refine bodyPost_ret (v := .tuple #[.agg #[.int .i64 0, .int .i64 0, .int .i64 0, .string ⟨#[]⟩], .bool false]) (by simp [results, Tryd.results35, go_sem, R0, R1, R2, R3, F0]) rfl ⟨⟨0, 0, 0, ⟨#[]⟩⟩, false, rfl, fun h => (by cases h), fun _ => ⟨rfl, NOP.out⟩, ?_⟩
      (repeat refine Ext.setCell ?_ (by omega) _)
      exact x1.trans hxf
    rintro e wk ⟨rfl, hxk⟩
    have HOKA := Lib.hid hokA; clear hokA
    replace OR := OR.ext hxk
    replace OX := OX.ext hxk
    replace OY := OY.ext hxk
    replace OQ := OQ.ext hxk
    replace hxw := hxw.trans hxk
    clear hxk C CC
    have Q1 : wk.cell? ⟨Q, 1, none⟩ = some (.pointer (some ⟨X, 1, none⟩)) := by rw [OQ.cell]; rfl
    have X0 : wk.cell? ⟨X, 0, none⟩ = some (.int .i64 op) := by rw [OX.cell]; rfl
    have X1 : wk.cell? ⟨X, 1, none⟩ = some (.int .i64 (0)) := by rw [OX.cell]; rfl
    have X2 : wk.cell? ⟨X, 2, none⟩ = some (.int .i64 (0)) := by rw [OX.cell]; rfl
    have X3 : wk.cell? ⟨X, 3, none⟩ = some (.string (⟨#[]⟩)) := by rw [OX.cell]; rfl
    have FX : ∀ o, wk.frozen? ⟨X, o, none⟩ = false := OX.frozen
    go_wp2_with fail
    clear X0 X1 X2 X3 FX Q1 OQ
    generalize hS : World.setCell wk _ _ = v12
    have OR' : Own v12 w.heap.size 60 #[.int .i64 0, .int .i64 0, .int .i64 0, .string ⟨#[]⟩] := by rw [← hS]; exact OR.other _ (by show w.heap.size ≠ X; omega) _
    have OY' : Own v12 Y TY CY := by rw [← hS]; exact OY.other _ (by show Y ≠ X; omega) _
    have OX' : Own v12 X 60 #[.int .i64 op, .int .i64 va, .int .i64 0, .string ⟨#[]⟩] := by rw [← hS]; exact OX.set _ _
    have hxw' : Ext W1 v12 := by rw [← hS]; exact Ext.setCell hxw (by omega) _
    clear hS OR OX OY hxw
    have OR := OR'; have OX := OX'; have OY := OY'; have hxw := hxw'
    clear OR' OX' OY' hxw'
    rw [rounds_succ]
    have OKA : Hid (okNI (uA op) (cutT s) = true) := Lib.hid (by rw [hA.out, okNI, if_pos rfl, HRest.out, HPA.out]; exact HOKA.out)
    have EVA : Hid (vNI (uA op) (cutT s) = va) := Lib.hid (by rw [hA.out, vNI, if_pos rfl, HRest.out, HPA.out]; exact HVA.out)
    have ERA : Hid (rNI (uA op) (cutT s) = rA) := Lib.hid (by rw [hA.out, rNI, if_pos rfl, HRest.out]; exact HRA.out)
    rw [hCY] at OY
    have Y0 : v12.cell? ⟨Y, 0, none⟩ = some (.bool true) := by rw [OY.cell]; rfl
    have Y1 : v12.cell? ⟨Y, 1, none⟩ = some (.pointer (some ⟨X, 1, none⟩)) := by rw [OY.cell]; rfl
    have Y2 : v12.cell? ⟨Y, 2, none⟩ = some (.bool false) := by rw [OY.cell]; rfl
    have Y3 : v12.cell? ⟨Y, 3, none⟩ = some (.pointer (some ⟨X, 2, none⟩)) := by rw [OY.cell]; rfl
    rw [← hCY] at OY
    have X0 : v12.cell? ⟨X, 0, none⟩ = some (.int .i64 op) := by rw [OX.cell]; rfl
    have X1 : v12.cell? ⟨X, 1, none⟩ = some (.int .i64 (va)) := by rw [OX.cell]; rfl
    have X2 : v12.cell? ⟨X, 2, none⟩ = some (.int .i64 (0)) := by rw [OX.cell]; rfl
    have X3 : v12.cell? ⟨X, 3, none⟩ = some (.string (⟨#[]⟩)) := by rw [OX.cell]; rfl
    have FX : ∀ o, v12.frozen? ⟨X, o, none⟩ = false := OX.frozen
    go_wp2_with fail
    clear X0 X1 X2 X3 FX Y0 Y1 Y2 Y3
    generalize hS : World.alloc v12 _ = v13
    have eS : Ext v12 v13 := by rw [← hS]; exact (Ext.refl _).alloc _
    replace OR := OR.ext eS
    replace OX := OX.ext eS
    replace OY := OY.ext eS
    replace hxw := hxw.trans eS
    clear hS eS
    rw [rounds_succ]
    have OKB : Hid (okNI (uB op) (rNI (uA op) (cutT s)) = true) := Lib.hid (by rw [hB.out]; rfl)
    have EVB : Hid (vNI (uB op) (rNI (uA op) (cutT s)) = 0) := Lib.hid (by rw [hB.out]; rfl)
    have ERB : Hid (rNI (uB op) (rNI (uA op) (cutT s)) = rA) := Lib.hid (by rw [ERA.out, hB.out]; rfl)
    have HXS : Hid (xI s = ⟨op, va, 0, rA⟩) := Lib.hid (by unfold xI; rw [HOP.out, EVA.out, EVB.out, ERB.out, hT0.out]; rfl)
    have hd := instr_d (a := va) (b := 0) (t := rA) hop hvr_va.out ⟨by omega, by omega⟩ hzrA
    have HDB := Lib.hid hd; clear hd
    have X0 : v13.cell? ⟨X, 0, none⟩ = some (.int .i64 op) := by rw [OX.cell]; rfl
    have X1 : v13.cell? ⟨X, 1, none⟩ = some (.int .i64 (va)) := by rw [OX.cell]; rfl
    have X2 : v13.cell? ⟨X, 2, none⟩ = some (.int .i64 (0)) := by rw [OX.cell]; rfl
    have X3 : v13.cell? ⟨X, 3, none⟩ = some (.string (⟨#[]⟩)) := by rw [OX.cell]; rfl
    have FX : ∀ o, v13.frozen? ⟨X, o, none⟩ = false := OX.frozen
    go_wp2_with fail
    clear X0 X1 X2 X3 FX
    generalize hS : World.setCell v13 _ _ = v14
    have OR' : Own v14 w.heap.size 60 #[.int .i64 0, .int .i64 0, .int .i64 0, .string ⟨#[]⟩] := by rw [← hS]; exact OR.other _ (by show w.heap.size ≠ X; omega) _
    have OY' : Own v14 Y TY CY := by rw [← hS]; exact OY.other _ (by show Y ≠ X; omega) _
    have OX' : Own v14 X 60 #[.int .i64 op, .int .i64 (va), .int .i64 (0), .string rA] := by rw [← hS]; exact OX.set _ _
    have hxw' : Ext W1 v14 := by rw [← hS]; exact Ext.setCell hxw (by omega) _
    clear hS OR OX OY hxw
    have OR := OR'; have OX := OX'; have OY := OY'; have hxw := hxw'
    clear OR' OX' OY' hxw'
    refine (impl_FormatInstr_any ⟨op, va, 0, rA⟩ [.int .i64 op, .int .i64 (va), .int .i64 (0), .string (rA)] _ (instr_rep _ _ _ _ _) HDB.out.1 HDB.out.2 (hT.ext hxw)).mono ?_
    rintro e w9 ⟨rfl, hx9⟩
    replace OR := OR.ext hx9
    replace OX := OX.ext hx9
    have hxf := hxw.trans hx9
    have R0 : w9.cell? ⟨w.heap.size, 0, none⟩ = some (.int .i64 0) := by rw [OR.cell]; rfl
    have R1 : w9.cell? ⟨w.heap.size, 1, none⟩ = some (.int .i64 0) := by rw [OR.cell]; rfl
    have R2 : w9.cell? ⟨w.heap.size, 2, none⟩ = some (.int .i64 0) := by rw [OR.cell]; rfl
    have R3 : w9.cell? ⟨w.heap.size, 3, none⟩ = some (.string ⟨#[]⟩) := by rw [OR.cell]; rfl
    have F0 : ∀ o, w9.frozen? ⟨w.heap.size, o, none⟩ = false := OR.frozen
    have X0 : w9.cell? ⟨X, 0, none⟩ = some (.int .i64 op) := by rw [OX.cell]; rfl
    have X1 : w9.cell? ⟨X, 1, none⟩ = some (.int .i64 (va)) := by rw [OX.cell]; rfl
    have X2 : w9.cell? ⟨X, 2, none⟩ = some (.int .i64 (0)) := by rw [OX.cell]; rfl
    have X3 : w9.cell? ⟨X, 3, none⟩ = some (.string (rA)) := by rw [OX.cell]; rfl
    have FX : ∀ o, w9.frozen? ⟨X, o, none⟩ = false := OX.frozen
    by_cases hi : instrB ⟨op, va, 0, rA⟩ = s
    · have HI := Lib.hid hi
      have hne := str_eqn hi; clear hi
      go_wp2_with fail
      refine bodyPost_ret (v := .tuple #[.agg #[.int .i64 op, .int .i64 (va), .int .i64 (0), .string (rA)], .bool true]) (by simp [results, Tryd.results35, go_sem, R0, R1, R2, R3, F0]) rfl ⟨⟨op, va, 0, rA⟩, true, rfl, fun _ => (by rw [← HXS.out]; exact impl_right (by rw [HOP.out]; exact hop) (by rw [HOP.out]; exact OKA.out) (by rw [HOP.out]; exact OKB.out) (by rw [HXS.out]; exact HI.out)), fun h => (by cases h), ?_⟩
      (repeat refine Ext.setCell ?_ (by omega) _)
      exact x1.trans hxf
    · have HI := Lib.hid hi
      have hne := str_nen hi; clear hi
      go_wp2_with fail
      refine bodyPost_ret (v := .tuple #[.agg #[.int .i64 0, .int .i64 0, .int .i64 0, .string ⟨#[]⟩], .bool false]) (by simp [results, Tryd.results35, go_sem, R0, R1, R2, R3, F0]) rfl ⟨⟨0, 0, 0, ⟨#[]⟩⟩, false, rfl, fun h => (by cases h), fun _ => ⟨rfl, (fun ⟨y, hy⟩ => HI.out (by have h := NOY.out y hy; rw [← HXS.out, h.2.2]; exact hy.2.1))⟩, ?_⟩
      (repeat refine Ext.setCell ?_ (by omega) _)
      exact x1.trans hxf
  · rw [hA, hB, hT0]
    have hA := Lib.hid hA; have hB := Lib.hid hB; have hT0 := Lib.hid hT0
    obtain ⟨CY, hCY⟩ : ∃ C : Array Value, C = #[.bool false, .pointer (some ⟨X, 1, none⟩), .bool true, .pointer (some ⟨X, 2, none⟩)] := ⟨_, rfl⟩
    go_wp2_with fail
    generalize hS : World.alloc W5 _ = W6
    obtain ⟨Y, hY⟩ : ∃ Y, Y = W5.heap.size := ⟨_, rfl⟩
    have OY0 : ∃ TY, Own W6 Y TY CY := ⟨_, by rw [← hS, hY, hCY]; exact own_new W5 _ _⟩
    obtain ⟨TY, OY⟩ := OY0
    have eS : Ext W5 W6 := by rw [← hS]; exact (Ext.refl _).alloc _
    have zY : X < Y := by rw [hY]; exact OX.lt
    rw [← hY]
    replace OR := OR.ext eS
    replace OX := OX.ext eS
    replace hxw := hxw.trans eS
    clear hS eS hY
    refine wp_loop_rounds 3 ?_
    rw [rounds_succ]
    rw [hCY] at OY
    have Y0 : W6.cell? ⟨Y, 0, none⟩ = some (.bool false) := by rw [OY.cell]; rfl
    have Y1 : W6.cell? ⟨Y, 1, none⟩ = some (.pointer (some ⟨X, 1, none⟩)) := by rw [OY.cell]; rfl
    have Y2 : W6.cell? ⟨Y, 2, none⟩ = some (.bool true) := by rw [OY.cell]; rfl
    have Y3 : W6.cell? ⟨Y, 3, none⟩ = some (.pointer (some ⟨X, 2, none⟩)) := by rw [OY.cell]; rfl
    rw [← hCY] at OY
    have X0 : W6.cell? ⟨X, 0, none⟩ = some (.int .i64 op) := by rw [OX.cell]; rfl
    have X1 : W6.cell? ⟨X, 1, none⟩ = some (.int .i64 (0)) := by rw [OX.cell]; rfl
    have X2 : W6.cell? ⟨X, 2, none⟩ = some (.int .i64 (0)) := by rw [OX.cell]; rfl
    have X3 : W6.cell? ⟨X, 3, none⟩ = some (.string (⟨#[]⟩)) := by rw [OX.cell]; rfl
    have FX : ∀ o, W6.frozen? ⟨X, o, none⟩ = false := OX.frozen
    go_wp2_with fail
    clear X0 X1 X2 X3 FX Y0 Y1 Y2 Y3
    generalize hS : World.alloc W6 _ = v15
    have eS : Ext W6 v15 := by rw [← hS]; exact (Ext.refl _).alloc _
    replace OR := OR.ext eS
    replace OX := OX.ext eS
    replace OY := OY.ext eS
    replace hxw := hxw.trans eS
    clear hS eS
    rw [rounds_succ]
    have OKA : Hid (okNI (uA op) (cutT s) = true) := Lib.hid (by rw [hA.out]; rfl)
    have EVA : Hid (vNI (uA op) (cutT s) = 0) := Lib.hid (by rw [hA.out]; rfl)
    have ERA : Hid (rNI (uA op) (cutT s) = rest) := Lib.hid (by rw [hA.out]; exact HRest.out)
    rw [hCY] at OY
    have Y0 : v15.cell? ⟨Y, 0, none⟩ = some (.bool false) := by rw [OY.cell]; rfl
    have Y1 : v15.cell? ⟨Y, 1, none⟩ = some (.pointer (some ⟨X, 1, none⟩)) := by rw [OY.cell]; rfl
    have Y2 : v15.cell? ⟨Y, 2, none⟩ = some (.bool true) := by rw [OY.cell]; rfl
    have Y3 : v15.cell? ⟨Y, 3, none⟩ = some (.pointer (some ⟨X, 2, none⟩)) := by rw [OY.cell]; rfl
    rw [← hCY] at OY
    have X0 : v15.cell? ⟨X, 0, none⟩ = some (.int .i64 op) := by rw [OX.cell]; rfl
    have X1 : v15.cell? ⟨X, 1, none⟩ = some (.int .i64 (0)) := by rw [OX.cell]; rfl
    have X2 : v15.cell? ⟨X, 2, none⟩ = some (.int .i64 (0)) := by rw [OX.cell]; rfl
    have X3 : v15.cell? ⟨X, 3, none⟩ = some (.string (⟨#[]⟩)) := by rw [OX.cell]; rfl
    have FX : ∀ o, v15.frozen? ⟨X, o, none⟩ = false := OX.frozen
    have hM1 := hM.ext hxw
    have HRZ := Lib.hid hzr
    obtain ⟨pB, hpB⟩ : ∃ p, cutH rest = p := ⟨_, rfl⟩
    obtain ⟨rB, hrB⟩ : ∃ p, cutT rest = p := ⟨_, rfl⟩
    obtain ⟨fB, hfB⟩ : ∃ p, cutF rest = p := ⟨_, rfl⟩
    have hzB : pB.size ≤ 1048576 := by have := cutH_le rest; rw [hpB] at this; omega
    have hzrB : rB.size ≤ 1048576 := by have := cutT_le rest; rw [hrB] at this; omega
    obtain ⟨vb, hvb⟩ : ∃ v, PV pB = v := ⟨_, rfl⟩
    obtain ⟨okB, hokB⟩ : ∃ v, PB pB = v := ⟨_, rfl⟩
    have hvr_vb : Hid (-9223372036854775808 ≤ vb ∧ vb ≤ 9223372036854775807) := Lib.hid (by rw [← hvb]; exact num_b64 pB)
    have CC : Hid (∀ W, MaxOk W → Calls Tryd.prog 66 #[.string rest, .string ⟨#[32]⟩] W fun e w' => e = .returned (.tuple #[.string pB, .string rB, .bool fB]) ∧ Ext W w') := Lib.hid fun W hm => by
      rw [← hpB, ← hrB, ← hfB]; exact cut_any rest W HRZ.out hm
    have HZP := Lib.hid hzB
    have C : Hid (∀ W, TabOk W → ErrOk W → Calls Tryd.prog 33 #[.string pB] W fun e w' => e = .returned (.tuple #[.int .i64 vb, .bool okB]) ∧ Ext W w') := Lib.hid fun W ht he => by
      rw [← hvb, ← hokB]; exact impl_ParseInt_any pB W HZP.out ht he
    have HPB := Lib.hid hpB; have HRB := Lib.hid hrB; have HVB := Lib.hid hvb
    clear hpB hrB hfB hvb
    go_wp2_with fail
    clear X0 X1 X2 X3 FX Y0 Y1 Y2 Y3
    generalize hS : World.alloc v15 _ = v16
    have eS : Ext v15 v16 := by rw [← hS]; exact (Ext.refl _).alloc _
    replace OR := OR.ext eS
    replace OX := OX.ext eS
    replace OY := OY.ext eS
    replace hxw := hxw.trans eS
    obtain ⟨Q, hQ⟩ : ∃ Q, Q = v15.heap.size := ⟨_, rfl⟩
    have OQ0 : ∃ TQ, Own v16 Q TQ #[.bool true, .pointer (some ⟨X, 2, none⟩)] := ⟨_, by rw [← hS, hQ]; exact own_new v15 _ _⟩
    obtain ⟨TQ, OQ⟩ := OQ0
    rw [← hQ]
    clear hS eS hQ
    refine (CC.out _ (hM.ext hxw)).mono ?_
    rintro e wc ⟨rfl, hxc⟩
    replace OR := OR.ext hxc
    replace OX := OX.ext hxc
    replace OY := OY.ext hxc
    replace OQ := OQ.ext hxc
    replace hxw := hxw.trans hxc
    clear hxc
    go_wp2_with fail
    refine (C.out _ (hT.ext hxw) (hE.ext hxw)).mono ?_
    cases okB
    · rintro e wk ⟨rfl, hxk⟩
      have HOK := Lib.hid hokB
      replace OR := OR.ext hxk
      have hxf := hxw.trans hxk
      have R0 : wk.cell? ⟨w.heap.size, 0, none⟩ = some (.int .i64 0) := by rw [OR.cell]; rfl
      have R1 : wk.cell? ⟨w.heap.size, 1, none⟩ = some (.int .i64 0) := by rw [OR.cell]; rfl
      have R2 : wk.cell? ⟨w.heap.size, 2, none⟩ = some (.int .i64 0) := by rw [OR.cell]; rfl
      have R3 : wk.cell? ⟨w.heap.size, 3, none⟩ = some (.string ⟨#[]⟩) := by rw [OR.cell]; rfl
      have F0 : ∀ o, wk.frozen? ⟨w.heap.size, o, none⟩ = false := OR.frozen
      have NOP : Hid (¬ ∃ y, OkI s y) := Lib.hid (fun ⟨y, hy⟩ => by
        have h := NOY.out y hy
        exact absurd (h.2.1.symm.trans (show okNI (uB op) (rNI (uA op) (cutT s)) = false from by rw [hB.out, ERA.out]; unfold okNI; rw [if_pos rfl, HPB.out]; exact HOK.out)) (by simp))
      go_wp2_with fail
      refine bodyPost_ret (v := .tuple #[.agg #[.int .i64 0, .int .i64 0, .int .i64 0, .string ⟨#[]⟩], .bool false]) (by simp [results, Tryd.results35, go_sem, R0, R1, R2, R3, F0]) rfl ⟨⟨0, 0, 0, ⟨#[]⟩⟩, false, rfl, fun h => (by cases h), fun _ => ⟨rfl, NOP.out⟩, ?_⟩
      (repeat refine Ext.setCell ?_ (by omega) _)
      exact x1.trans hxf
    rintro e wk ⟨rfl, hxk⟩
    have HOKB := Lib.hid hokB; clear hokB
    replace OR := OR.ext hxk
    replace OX := OX.ext hxk
    replace OY := OY.ext hxk
    replace OQ := OQ.ext hxk
    replace hxw := hxw.trans hxk
    clear hxk C CC
    have Q1 : wk.cell? ⟨Q, 1, none⟩ = some (.pointer (some ⟨X, 2, none⟩)) := by rw [OQ.cell]; rfl
    have X0 : wk.cell? ⟨X, 0, none⟩ = some (.int .i64 op) := by rw [OX.cell]; rfl
    have X1 : wk.cell? ⟨X, 1, none⟩ = some (.int .i64 (0)) := by rw [OX.cell]; rfl
    have X2 : wk.cell? ⟨X, 2, none⟩ = some (.int .i64 (0)) := by rw [OX.cell]; rfl
    have X3 : wk.cell? ⟨X, 3, none⟩ = some (.string (⟨#[]⟩)) := by rw [OX.cell]; rfl
    have FX : ∀ o, wk.frozen? ⟨X, o, none⟩ = false := OX.frozen
    go_wp2_with fail
    clear X0 X1 X2 X3 FX Q1 OQ
    generalize hS : World.setCell wk _ _ = v17
    have OR' : Own v17 w.heap.size 60 #[.int .i64 0, .int .i64 0, .int .i64 0, .string ⟨#[]⟩] := by rw [← hS]; exact OR.other _ (by show w.heap.size ≠ X; omega) _
    have OY' : Own v17 Y TY CY := by rw [← hS]; exact OY.other _ (by show Y ≠ X; omega) _
    have OX' : Own v17 X 60 #[.int .i64 op, .int .i64 (0), .int .i64 vb, .string ⟨#[]⟩] := by rw [← hS]; exact OX.set _ _
    have hxw' : Ext W1 v17 := by rw [← hS]; exact Ext.setCell hxw (by omega) _
    clear hS OR OX OY hxw
    have OR := OR'; have OX := OX'; have OY := OY'; have hxw := hxw'
    clear OR' OX' OY' hxw'
    rw [rounds_succ]
    have OKB : Hid (okNI (uB op) (rNI (uA op) (cutT s)) = true) := Lib.hid (by rw [ERA.out, hB.out, okNI, if_pos rfl, HPB.out]; exact HOKB.out)
    have EVB : Hid (vNI (uB op) (rNI (uA op) (cutT s)) = vb) := Lib.hid (by rw [ERA.out, hB.out, vNI, if_pos rfl, HPB.out]; exact HVB.out)
    have ERB : Hid (rNI (uB op) (rNI (uA op) (cutT s)) = rB) := Lib.hid (by rw [ERA.out, hB.out, rNI, if_pos rfl]; exact HRB.out)
    have HXS : Hid (xI s = ⟨op, 0, vb, ⟨#[]⟩⟩) := Lib.hid (by unfold xI; rw [HOP.out, EVA.out, EVB.out, ERB.out, hT0.out]; rfl)
    have hd := instr_d (a := 0) (b := vb) (t := ⟨#[]⟩) hop ⟨by omega, by omega⟩ hvr_vb.out (by decide)
    have HDB := Lib.hid hd; clear hd
    have X0 : v17.cell? ⟨X, 0, none⟩ = some (.int .i64 op) := by rw [OX.cell]; rfl
    have X1 : v17.cell? ⟨X, 1, none⟩ = some (.int .i64 (0)) := by rw [OX.cell]; rfl
    have X2 : v17.cell? ⟨X, 2, none⟩ = some (.int .i64 (vb)) := by rw [OX.cell]; rfl
    have X3 : v17.cell? ⟨X, 3, none⟩ = some (.string (⟨#[]⟩)) := by rw [OX.cell]; rfl
    have FX : ∀ o, v17.frozen? ⟨X, o, none⟩ = false := OX.frozen
    go_wp2_with fail
    clear X0 X1 X2 X3 FX
    refine (impl_FormatInstr_any ⟨op, 0, vb, ⟨#[]⟩⟩ [.int .i64 op, .int .i64 (0), .int .i64 (vb), .string (⟨#[]⟩)] _ (instr_rep _ _ _ _ _) HDB.out.1 HDB.out.2 (hT.ext hxw)).mono ?_
    rintro e w9 ⟨rfl, hx9⟩
    replace OR := OR.ext hx9
    replace OX := OX.ext hx9
    have hxf := hxw.trans hx9
    have R0 : w9.cell? ⟨w.heap.size, 0, none⟩ = some (.int .i64 0) := by rw [OR.cell]; rfl
    have R1 : w9.cell? ⟨w.heap.size, 1, none⟩ = some (.int .i64 0) := by rw [OR.cell]; rfl
    have R2 : w9.cell? ⟨w.heap.size, 2, none⟩ = some (.int .i64 0) := by rw [OR.cell]; rfl
    have R3 : w9.cell? ⟨w.heap.size, 3, none⟩ = some (.string ⟨#[]⟩) := by rw [OR.cell]; rfl
    have F0 : ∀ o, w9.frozen? ⟨w.heap.size, o, none⟩ = false := OR.frozen
    have X0 : w9.cell? ⟨X, 0, none⟩ = some (.int .i64 op) := by rw [OX.cell]; rfl
    have X1 : w9.cell? ⟨X, 1, none⟩ = some (.int .i64 (0)) := by rw [OX.cell]; rfl
    have X2 : w9.cell? ⟨X, 2, none⟩ = some (.int .i64 (vb)) := by rw [OX.cell]; rfl
    have X3 : w9.cell? ⟨X, 3, none⟩ = some (.string (⟨#[]⟩)) := by rw [OX.cell]; rfl
    have FX : ∀ o, w9.frozen? ⟨X, o, none⟩ = false := OX.frozen
    by_cases hi : instrB ⟨op, 0, vb, ⟨#[]⟩⟩ = s
    · have HI := Lib.hid hi
      have hne := str_eqn hi; clear hi
      go_wp2_with fail
      refine bodyPost_ret (v := .tuple #[.agg #[.int .i64 op, .int .i64 (0), .int .i64 (vb), .string (⟨#[]⟩)], .bool true]) (by simp [results, Tryd.results35, go_sem, R0, R1, R2, R3, F0]) rfl ⟨⟨op, 0, vb, ⟨#[]⟩⟩, true, rfl, fun _ => (by rw [← HXS.out]; exact impl_right (by rw [HOP.out]; exact hop) (by rw [HOP.out]; exact OKA.out) (by rw [HOP.out]; exact OKB.out) (by rw [HXS.out]; exact HI.out)), fun h => (by cases h), ?_⟩
      (repeat refine Ext.setCell ?_ (by omega) _)
      exact x1.trans hxf
    · have HI := Lib.hid hi
      have hne := str_nen hi; clear hi
      go_wp2_with fail
      refine bodyPost_ret (v := .tuple #[.agg #[.int .i64 0, .int .i64 0, .int .i64 0, .string ⟨#[]⟩], .bool false]) (by simp [results, Tryd.results35, go_sem, R0, R1, R2, R3, F0]) rfl ⟨⟨0, 0, 0, ⟨#[]⟩⟩, false, rfl, fun h => (by cases h), fun _ => ⟨rfl, (fun ⟨y, hy⟩ => HI.out (by have h := NOY.out y hy; rw [← HXS.out, h.2.2]; exact hy.2.1))⟩, ?_⟩
      (repeat refine Ext.setCell ?_ (by omega) _)
      exact x1.trans hxf
  · rw [hA, hB, hT0]
    have hA := Lib.hid hA; have hB := Lib.hid hB; have hT0 := Lib.hid hT0
    obtain ⟨CY, hCY⟩ : ∃ C : Array Value, C = #[.bool false, .pointer (some ⟨X, 1, none⟩), .bool false, .pointer (some ⟨X, 2, none⟩)] := ⟨_, rfl⟩
    go_wp2_with fail
    generalize hS : World.alloc W5 _ = W6
    obtain ⟨Y, hY⟩ : ∃ Y, Y = W5.heap.size := ⟨_, rfl⟩
    have OY0 : ∃ TY, Own W6 Y TY CY := ⟨_, by rw [← hS, hY, hCY]; exact own_new W5 _ _⟩
    obtain ⟨TY, OY⟩ := OY0
    have eS : Ext W5 W6 := by rw [← hS]; exact (Ext.refl _).alloc _
    have zY : X < Y := by rw [hY]; exact OX.lt
    rw [← hY]
    replace OR := OR.ext eS
    replace OX := OX.ext eS
    replace hxw := hxw.trans eS
    clear hS eS hY
    refine wp_loop_rounds 3 ?_
    rw [rounds_succ]
    rw [hCY] at OY
    have Y0 : W6.cell? ⟨Y, 0, none⟩ = some (.bool false) := by rw [OY.cell]; rfl
    have Y1 : W6.cell? ⟨Y, 1, none⟩ = some (.pointer (some ⟨X, 1, none⟩)) := by rw [OY.cell]; rfl
    have Y2 : W6.cell? ⟨Y, 2, none⟩ = some (.bool false) := by rw [OY.cell]; rfl
    have Y3 : W6.cell? ⟨Y, 3, none⟩ = some (.pointer (some ⟨X, 2, none⟩)) := by rw [OY.cell]; rfl
    rw [← hCY] at OY
    have X0 : W6.cell? ⟨X, 0, none⟩ = some (.int .i64 op) := by rw [OX.cell]; rfl
    have X1 : W6.cell? ⟨X, 1, none⟩ = some (.int .i64 (0)) := by rw [OX.cell]; rfl
    have X2 : W6.cell? ⟨X, 2, none⟩ = some (.int .i64 (0)) := by rw [OX.cell]; rfl
    have X3 : W6.cell? ⟨X, 3, none⟩ = some (.string (⟨#[]⟩)) := by rw [OX.cell]; rfl
    have FX : ∀ o, W6.frozen? ⟨X, o, none⟩ = false := OX.frozen
    go_wp2_with fail
    clear X0 X1 X2 X3 FX Y0 Y1 Y2 Y3
    generalize hS : World.alloc W6 _ = v18
    have eS : Ext W6 v18 := by rw [← hS]; exact (Ext.refl _).alloc _
    replace OR := OR.ext eS
    replace OX := OX.ext eS
    replace OY := OY.ext eS
    replace hxw := hxw.trans eS
    clear hS eS
    rw [rounds_succ]
    have OKA : Hid (okNI (uA op) (cutT s) = true) := Lib.hid (by rw [hA.out]; rfl)
    have EVA : Hid (vNI (uA op) (cutT s) = 0) := Lib.hid (by rw [hA.out]; rfl)
    have ERA : Hid (rNI (uA op) (cutT s) = rest) := Lib.hid (by rw [hA.out]; exact HRest.out)
    rw [hCY] at OY
    have Y0 : v18.cell? ⟨Y, 0, none⟩ = some (.bool false) := by rw [OY.cell]; rfl
    have Y1 : v18.cell? ⟨Y, 1, none⟩ = some (.pointer (some ⟨X, 1, none⟩)) := by rw [OY.cell]; rfl
    have Y2 : v18.cell? ⟨Y, 2, none⟩ = some (.bool false) := by rw [OY.cell]; rfl
    have Y3 : v18.cell? ⟨Y, 3, none⟩ = some (.pointer (some ⟨X, 2, none⟩)) := by rw [OY.cell]; rfl
    rw [← hCY] at OY
    have X0 : v18.cell? ⟨X, 0, none⟩ = some (.int .i64 op) := by rw [OX.cell]; rfl
    have X1 : v18.cell? ⟨X, 1, none⟩ = some (.int .i64 (0)) := by rw [OX.cell]; rfl
    have X2 : v18.cell? ⟨X, 2, none⟩ = some (.int .i64 (0)) := by rw [OX.cell]; rfl
    have X3 : v18.cell? ⟨X, 3, none⟩ = some (.string (⟨#[]⟩)) := by rw [OX.cell]; rfl
    have FX : ∀ o, v18.frozen? ⟨X, o, none⟩ = false := OX.frozen
    go_wp2_with fail
    clear X0 X1 X2 X3 FX Y0 Y1 Y2 Y3
    generalize hS : World.alloc v18 _ = v19
    have eS : Ext v18 v19 := by rw [← hS]; exact (Ext.refl _).alloc _
    replace OR := OR.ext eS
    replace OX := OX.ext eS
    replace OY := OY.ext eS
    replace hxw := hxw.trans eS
    clear hS eS
    rw [rounds_succ]
    have OKB : Hid (okNI (uB op) (rNI (uA op) (cutT s)) = true) := Lib.hid (by rw [hB.out]; rfl)
    have EVB : Hid (vNI (uB op) (rNI (uA op) (cutT s)) = 0) := Lib.hid (by rw [hB.out]; rfl)
    have ERB : Hid (rNI (uB op) (rNI (uA op) (cutT s)) = rest) := Lib.hid (by rw [ERA.out, hB.out]; rfl)
    have HXS : Hid (xI s = ⟨op, 0, 0, ⟨#[]⟩⟩) := Lib.hid (by unfold xI; rw [HOP.out, EVA.out, EVB.out, ERB.out, hT0.out]; rfl)
    have hd := instr_d (a := 0) (b := 0) (t := ⟨#[]⟩) hop ⟨by omega, by omega⟩ ⟨by omega, by omega⟩ (by decide)
    have HDB := Lib.hid hd; clear hd
    have X0 : v19.cell? ⟨X, 0, none⟩ = some (.int .i64 op) := by rw [OX.cell]; rfl
    have X1 : v19.cell? ⟨X, 1, none⟩ = some (.int .i64 (0)) := by rw [OX.cell]; rfl
    have X2 : v19.cell? ⟨X, 2, none⟩ = some (.int .i64 (0)) := by rw [OX.cell]; rfl
    have X3 : v19.cell? ⟨X, 3, none⟩ = some (.string (⟨#[]⟩)) := by rw [OX.cell]; rfl
    have FX : ∀ o, v19.frozen? ⟨X, o, none⟩ = false := OX.frozen
    go_wp2_with fail
    clear X0 X1 X2 X3 FX
    refine (impl_FormatInstr_any ⟨op, 0, 0, ⟨#[]⟩⟩ [.int .i64 op, .int .i64 (0), .int .i64 (0), .string (⟨#[]⟩)] _ (instr_rep _ _ _ _ _) HDB.out.1 HDB.out.2 (hT.ext hxw)).mono ?_
    rintro e w9 ⟨rfl, hx9⟩
    replace OR := OR.ext hx9
    replace OX := OX.ext hx9
    have hxf := hxw.trans hx9
    have R0 : w9.cell? ⟨w.heap.size, 0, none⟩ = some (.int .i64 0) := by rw [OR.cell]; rfl
    have R1 : w9.cell? ⟨w.heap.size, 1, none⟩ = some (.int .i64 0) := by rw [OR.cell]; rfl
    have R2 : w9.cell? ⟨w.heap.size, 2, none⟩ = some (.int .i64 0) := by rw [OR.cell]; rfl
    have R3 : w9.cell? ⟨w.heap.size, 3, none⟩ = some (.string ⟨#[]⟩) := by rw [OR.cell]; rfl
    have F0 : ∀ o, w9.frozen? ⟨w.heap.size, o, none⟩ = false := OR.frozen
    have X0 : w9.cell? ⟨X, 0, none⟩ = some (.int .i64 op) := by rw [OX.cell]; rfl
    have X1 : w9.cell? ⟨X, 1, none⟩ = some (.int .i64 (0)) := by rw [OX.cell]; rfl
    have X2 : w9.cell? ⟨X, 2, none⟩ = some (.int .i64 (0)) := by rw [OX.cell]; rfl
    have X3 : w9.cell? ⟨X, 3, none⟩ = some (.string (⟨#[]⟩)) := by rw [OX.cell]; rfl
    have FX : ∀ o, w9.frozen? ⟨X, o, none⟩ = false := OX.frozen
    by_cases hi : instrB ⟨op, 0, 0, ⟨#[]⟩⟩ = s
    · have HI := Lib.hid hi
      have hne := str_eqn hi; clear hi
      go_wp2_with fail
      refine bodyPost_ret (v := .tuple #[.agg #[.int .i64 op, .int .i64 (0), .int .i64 (0), .string (⟨#[]⟩)], .bool true]) (by simp [results, Tryd.results35, go_sem, R0, R1, R2, R3, F0]) rfl ⟨⟨op, 0, 0, ⟨#[]⟩⟩, true, rfl, fun _ => (by rw [← HXS.out]; exact impl_right (by rw [HOP.out]; exact hop) (by rw [HOP.out]; exact OKA.out) (by rw [HOP.out]; exact OKB.out) (by rw [HXS.out]; exact HI.out)), fun h => (by cases h), ?_⟩
      (repeat refine Ext.setCell ?_ (by omega) _)
      exact x1.trans hxf
    · have HI := Lib.hid hi
      have hne := str_nen hi; clear hi
      go_wp2_with fail
      refine bodyPost_ret (v := .tuple #[.agg #[.int .i64 0, .int .i64 0, .int .i64 0, .string ⟨#[]⟩], .bool false]) (by simp [results, Tryd.results35, go_sem, R0, R1, R2, R3, F0]) rfl ⟨⟨0, 0, 0, ⟨#[]⟩⟩, false, rfl, fun h => (by cases h), fun _ => ⟨rfl, (fun ⟨y, hy⟩ => HI.out (by have h := NOY.out y hy; rw [← HXS.out, h.2.2]; exact hy.2.1))⟩, ?_⟩
      (repeat refine Ext.setCell ?_ (by omega) _)
      exact x1.trans hxf

end Go.Proofs.YtpajlbmjlhafoaaDoor
