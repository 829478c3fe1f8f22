/-
  CONTRACTS: ParseInstr, of the reference.
  Conditions: those that each lemma states.
-/
import Derived.Test.YtpajlbmjlhafoaaDoorRows
import Derived.Test.YtpajlbmjlhafoaaDoorInst
import Derived.Test.YtpajlbmjlhafoaaDoorMark
import Derived.Deep.RegionHeld3
import Derived.Deep.DeepCutAuto
namespace Go.Proofs.YtpajlbmjlhafoaaDoor
open Go.RowKit Go.Joins
set_option linter.unusedSimpArgs false
set_option linter.unusedVariables false

theorem idx_bd (x : ByteArray) : ∀ (zs : List ByteArray) (i : Nat), Lib.idxFromS zs x i = -1 ∨ ((i : Int) ≤ Lib.idxFromS zs x i ∧ Lib.idxFromS zs x i < ((i + zs.length : Nat) : Int))
  | [], i => Or.inl rfl
  | z :: zs, i => by
    unfold Lib.idxFromS
    split
    · right; rw [List.length_cons]; omega
    · rcases idx_bd x zs (i + 1) with h | h
      · exact Or.inl h
      · right; rw [List.length_cons]; omega
theorem idxW_bd (x : ByteArray) : -1 ≤ Lib.idxOfS wordsI x ∧ Lib.idxOfS wordsI x ≤ 26 := by
  have h := idx_bd x wordsI 0
  have e : wordsI.length = 27 := rfl
  rw [e] at h
  unfold Lib.idxOfS
  rcases h with h | h
  · rw [h]; omega
  · omega
theorem uses6 {op : Int} (h : 1 ≤ op ∧ op ≤ 26) : (uA op = true ∧ uB op = false ∧ uT op = false) ∨ (uA op = false ∧ uB op = false ∧ uT op = true) ∨ (uA op = true ∧ uB op = true ∧ uT op = false) ∨ (uA op = true ∧ uB op = false ∧ uT op = true) ∨ (uA op = false ∧ uB op = true ∧ uT op = false) ∨ (uA op = false ∧ uB op = false ∧ uT op = false) := by
  obtain ⟨k, rfl⟩ : ∃ k : Nat, op = k := ⟨op.toNat, by omega⟩
  have : ∀ k : Nat, k < 27 → (uA k = true ∧ uB k = false ∧ uT k = false) ∨ (uA k = false ∧ uB k = false ∧ uT k = true) ∨ (uA k = true ∧ uB k = true ∧ uT k = false) ∨ (uA k = true ∧ uB k = false ∧ uT k = true) ∨ (uA k = false ∧ uB k = true ∧ uT k = false) ∨ (uA k = false ∧ uB k = false ∧ uT k = false) := by decide
  exact this k (by omega)
set_option maxHeartbeats 400000 in
theorem l7Index_any (l : List ByteArray) (x : ByteArray) (va : Value) (w : World) (ra : Rep w (strs l) [va]) :
    Calls Tryd.prog 56 #[va, .string x] w fun e w' => e = .returned (.int .i64 (Lib.idxOfS l x)) ∧ w' = w := by
  obtain ⟨ao, ca, ba, oa, h1, hla, hma, pa, ha⟩ := ra.strs
  simp only [List.cons.injEq, and_true] at h1
  subst h1
  clear ra
  unfold maxLen at hma
  go_enter Tryd.func56, Tryd.ntmps56
  go_wp2_with fail
  go_loop [5] (fun iv => ∃ k : Nat, k ≤ l.length ∧ iv = .int .i64 k ∧ Hid (Lib.idxOfS l x = Lib.idxFromS (l.drop k) x k)) (fun iv => l.length - (intOf iv).toNat)
  case atStart => exact ⟨0, Nat.zero_le _, rfl, Lib.hid rfl⟩
  case round =>
    obtain ⟨k, hk, rfl, hR⟩ := hrel
    by_cases hlt : k < l.length
    rotate_left
    · have hN : Hid (Lib.idxOfS l x = -1) := Lib.hid (by rw [hR.out, List.drop_eq_nil_of_le (by omega)]; rfl)
      go_wp2_with fail
      go_ret
      exact ⟨ret_int hN.out.symm, rfl⟩
    obtain rfl := pa (by omega)
    have a0 := ha k l[k] (by simp [hlt])
    have hD : Hid (l.drop k = l[k] :: l.drop (k + 1)) := Lib.hid (List.drop_eq_getElem_cons hlt)
    clear ha pa
    by_cases he : l[k] = x
    · have t1 := str_eq he
      have hN : Hid (Lib.idxOfS l x = k) := Lib.hid (by rw [hR.out, hD.out, Lib.idxFromS, if_pos he])
      clear he
      go_wp2_with fail
      go_ret
      exact ⟨ret_int hN.out.symm, rfl⟩
    · have t1 := str_ne he
      have hN : Hid (Lib.idxOfS l x = Lib.idxFromS (l.drop (k + 1)) x (k + 1)) := Lib.hid (by rw [hR.out, hD.out, Lib.idxFromS, if_neg he])
      clear he
      go_wp2_with fail
      go_round
      case rel => exact ⟨k + 1, by omega, by go_num, hN⟩
      case measure => simp [intOf]; omega

theorem instr_d {op a b : Int} {t : ByteArray} (h0 : 1 ≤ op ∧ op ≤ 26) (ha : -9223372036854775808 ≤ a ∧ a ≤ 9223372036854775807) (hb : -9223372036854775808 ≤ b ∧ b ≤ 9223372036854775807) (ht : t.size ≤ 1048576) : (MInstr.mk op a b t).d.bulk ≤ 1048576 ∧ (MInstr.mk op a b t).d.ok := by
  rw [MInstr.d_eq]
  simp only [D.bulk, D.bulkL, D.ok, D.okL, and_true]
  exact ⟨by omega, by omega, ha, hb, by omega⟩
theorem instr_rep (W : World) (op a b : Int) (t : ByteArray) : Rep W (MInstr.mk op a b t).d [.int .i64 op, .int .i64 a, .int .i64 b, .string t] := (MInstr.shut (w := W) (x := ⟨op, a, b, t⟩)).rep
/-- An instruction, and whether it is one. -/
def GivesI (w : World) (s : ByteArray) (e : Ending) (w' : World) : Prop :=
  ∃ (x : MInstr) (b : Bool), e = .returned (.tuple #[.agg #[.int .i64 x.op, .int .i64 x.a, .int .i64 x.b, .string x.text], .bool b]) ∧ (b = true → OkI s x) ∧ (b = false → x = ⟨0, 0, 0, ⟨#[]⟩⟩ ∧ ¬ ∃ y, OkI s y) ∧ Ext w w'
theorem rep_drop {w : World} {l : List ByteArray} {b o cap : Nat} (h : Rep w (strs l) [.slice (some ⟨b, o, none⟩) l.length cap]) (k : Nat) (hk : k < l.length) : Rep w (strs (l.drop k)) [.slice (some ⟨b, o + k, none⟩) (l.length - k) (cap - k)] := by
  obtain ⟨ao, ca, ba, oa, h1, hla, hma, pa, ha⟩ := h.strs
  simp only [List.cons.injEq, and_true, Value.slice.injEq] at h1
  obtain ⟨rfl, -, rfl⟩ := h1
  have e := pa (by omega)
  simp only [Option.some.injEq, Addr.mk.injEq, and_true] at e
  obtain ⟨rfl, rfl⟩ := e
  have hb : b < w.heap.size := lt_of_cell (ha k l[k] (by simp [hk]))
  have := RepF.strs_mk (w := w) (l := l.drop k) (b := b) (o := o + k) (cap := cap - k) (by rw [List.length_drop]; omega) (by omega) (by intro h; have := congrArg List.length h; rw [List.length_drop, List.length_nil] at this; omega) hb (fun i s hs => by
    rw [List.getElem?_drop] at hs
    have := ha (k + i) s hs
    rwa [← Nat.add_assoc] at this)
  rw [List.length_drop] at this
  exact this.rep

theorem num_b64 (s : ByteArray) : -9223372036854775808 ≤ PV s ∧ PV s ≤ 9223372036854775807 := by
  by_cases hx : ∃ n, IsNum (-999999999999) 999999999999 s n
  · obtain ⟨n, hn⟩ := hx
    have e : PV s = n := (num_yes (by omega) (by omega) hn).2
    have := hn.1; have := hn.2.1
    omega
  · have e : PV s = 0 := (num_no hx).2
    omega
theorem joinB_le (l : List ByteArray) (s : ByteArray) : (joinB l s).size ≤ 1048576 := by
  unfold joinB
  split
  · simpa [ByteArray.size] using by assumption
  · decide

set_option maxRecDepth 100000 in
set_option maxHeartbeats 16000000 in
theorem spec_ParseInstr_any (s : ByteArray) (w : World) (hs : s.size ≤ 1048576) : Calls Tryd.prog 29 #[.string s] w (GivesI w s) := by
  have hsz := Lib.hid hs
  go_enter Tryd.func29, Tryd.ntmps29
  go_wp2_with fail
  generalize hW : World.alloc w _ = W1
  have x1 : Ext w W1 := by rw [← hW]; exact (Ext.refl w).alloc _
  have OR : Own W1 w.heap.size 60 #[.int .i64 0, .int .i64 0, .int .i64 0, .string ⟨#[]⟩] := by rw [← hW]; exact own_new w _ _
  have zW : w.heap.size + 1 ≤ W1.heap.size := by rw [← hW]; simp
  clear hW
  refine (spec_SplitByte_any s 32 _ hs).mono ?_
  rintro e w1 ⟨ao, n, cap, fp, rfl, hr, hf, hx1⟩
  obtain ⟨P, hP⟩ : ∃ P, P = cutB 32 s := ⟨_, rfl⟩
  rw [← hP] at hr
  have hPl : 0 < P.length := by
    obtain ⟨m, xs, e⟩ := cutGo_head 32 s.data.toList []
    rw [hP, cutB, e]; simp
  have hPn : P.length ≤ 1048577 := by have := cutB_le 32 s; rw [hP]; omega
  have HPS : Hid (∀ x, x ∈ P → x.size ≤ 1048576) := Lib.hid fun x hx => by
    have := cutB_size (hP ▸ hx); omega
  have HP := Lib.hid hP; clear hP
  obtain ⟨ao', ca, ba, oa, h1, hla, hma, pa, ha⟩ := hr.rep.strs
  simp only [List.cons.injEq, and_true, Value.slice.injEq] at h1
  obtain ⟨rfl, rfl, rfl⟩ := h1
  obtain rfl := pa hPl
  have RP := Lib.hid hr.rep
  have HC : Hid (∀ i (h : i < P.length), w1.cell? ⟨ba, oa + i, none⟩ = some (.string (P.getD i ⟨#[]⟩))) := Lib.hid fun i h => ha i _ (by rw [List.getD_eq_getElem?_getD, List.getElem?_eq_getElem h]; rfl)
  unfold maxLen at hma
  replace OR := OR.ext hx1
  have z1 : w.heap.size + 1 ≤ w1.heap.size := Nat.le_trans zW hx1.size
  clear hf hr ha pa
  obtain ⟨p0, hp0⟩ : ∃ p, P.getD 0 ⟨#[]⟩ = p := ⟨_, rfl⟩
  have c0 : w1.cell? ⟨ba, oa, none⟩ = some (.string p0) := by have := HC.out 0 hPl; rwa [Nat.add_zero, hp0] at this
  have HP0 : Hid (p0 = (cutB 32 s).getD 0 ⟨#[]⟩) := Lib.hid (by rw [← HP.out, hp0])
  clear hp0
  have hl0 : (0 : Int) < P.length := by omega
  have KS : Hid (∀ w'', Ext w1 w'' → w''.cell? ⟨ba, oa, none⟩ = some (.string p0) ∧ Ext w1 w'') := Lib.hid fun w'' h => ⟨Ext.cell h c0, h⟩
  go_wp2_with fail
  go_region_held3 (fun w'' => w''.cell? ⟨ba, oa, none⟩ = some (.string p0) ∧ Ext w1 w'')
    (first | exact KS.out _ (Ext.drew (Ext.refl _)) | exact KS.out _ (Ext.trans (Ext.drew (Ext.refl _)) hx2))
    (first
      | (go_at_call 56; have hq := hx2; refine (l7Index_any wordsI _ _ _ hr2.rep).mono ?_; rintro e w2 ⟨rfl, rfl⟩)
      | (go_at_call 57; refine (l14Words_any _).mono ?_; rintro e w3 ⟨ao2, n2, cap2, fp2, rfl, hr2, hf2, hx2⟩))
  have hxw : Ext w1 w2 := Ext.trans (Ext.drew (Ext.refl w1)) hx2
  clear hr2 hf2 hx2 KS c0
  obtain ⟨op, hop0⟩ : ∃ op, Lib.idxOfS wordsI p0 = op := ⟨_, rfl⟩
  have hbd := idxW_bd p0
  rw [hop0] at hbd
  have NOY : Hid (∀ y, OkI s y → y.op = op ∧ okNS (uA op) 1 P = true ∧ okNS (uB op) (atNS (uA op) 1 P) P = true ∧ xS s op = y) := Lib.hid fun y hy => by
    obtain ⟨h0, h1, h2, h3, h4, h5⟩ := spec_reads hsz.out hy
    rw [← HP0.out, hop0] at h0
    rw [← h0] at h1 h2 h3 h4 h5
    rw [← HP.out] at h1 h2 h3 h4 h5
    refine ⟨h0.symm, h1, h2, ?_⟩
    unfold xS
    rw [← HP.out, h3, h4, h5, h0]
  rw [hop0]
  clear hop0
  by_cases h1 : op < 1
  · replace OR := OR.ext hxw
    have R0 : w2.cell? ⟨w.heap.size, 0, none⟩ = some (.int .i64 0) := by rw [OR.cell]; rfl
    have R1 : w2.cell? ⟨w.heap.size, 1, none⟩ = some (.int .i64 0) := by rw [OR.cell]; rfl
    have R2 : w2.cell? ⟨w.heap.size, 2, none⟩ = some (.int .i64 0) := by rw [OR.cell]; rfl
    have R3 : w2.cell? ⟨w.heap.size, 3, none⟩ = some (.string ⟨#[]⟩) := by rw [OR.cell]; rfl
    have F0 : ∀ o, w2.frozen? ⟨w.heap.size, o, none⟩ = false := OR.frozen
    have NOP : Hid (¬ ∃ y, OkI s y) := Lib.hid (fun ⟨y, hy⟩ => by have h := NOY.out y hy; have := hy.1.1; omega)
    go_wp2_with fail
    refine bodyPost_ret (v := .tuple #[.agg #[.int .i64 0, .int .i64 0, .int .i64 0, .string ⟨#[]⟩], .bool false]) (by simp [results, Tryd.results29, go_sem, R0, R1, R2, R3, F0]) rfl ⟨⟨0, 0, 0, ⟨#[]⟩⟩, false, rfl, fun h => (by cases h), fun _ => ⟨rfl, NOP.out⟩, ?_⟩
    (repeat refine Ext.setCell ?_ (by omega) _)
    exact x1.trans (hx1.trans hxw)
  have NOY : Hid (∀ y, OkI s y → okNS (uA op) 1 P = true ∧ okNS (uB op) (atNS (uA op) 1 P) P = true ∧ xS s op = y) := Lib.hid fun y hy => (NOY.out y hy).2
  have hop : 1 ≤ op ∧ op ≤ 26 := by omega
  go_wp2_with fail
  generalize hW : World.alloc w2 _ = W5
  obtain ⟨X, hX⟩ : ∃ X, X = w2.heap.size := ⟨_, rfl⟩
  have OX : Own W5 X 60 #[.int .i64 op, .int .i64 0, .int .i64 0, .string ⟨#[]⟩] := by rw [← hW, hX]; exact own_new w2 _ _
  have e5 : Ext w2 W5 := by rw [← hW]; exact (Ext.refl w2).alloc _
  replace OR := (OR.ext hxw).ext e5
  have zX : w.heap.size + 1 ≤ X := by rw [hX]; exact Nat.le_trans z1 hxw.size
  have zX1 : w1.heap.size ≤ X := by rw [hX]; exact hxw.size
  replace hxw := hxw.trans e5
  rw [← hX]
  clear hW hX e5
  refine (l14Uses_any op _).mono ?_
  rintro e wq ⟨rfl, hq⟩
  subst wq
  rcases uses6 hop with ⟨hA, hB, hT⟩ | ⟨hA, hB, hT⟩ | ⟨hA, hB, hT⟩ | ⟨hA, hB, hT⟩ | ⟨hA, hB, hT⟩ | ⟨hA, hB, hT⟩
  · rw [hA, hB, hT]
    have hA := Lib.hid hA; have hB := Lib.hid hB; have hT := Lib.hid hT
    by_cases nA : 1 < P.length
    rotate_left
    · have qA : ¬ ((1 : Nat) : Int) < (P.length : Int) := by omega
      have QA : ¬ (1 : Int) < (P.length : Int) := by omega
      have OKA : Hid (okNS (uA op) 1 P = true) := Lib.hid (by rw [okNS, if_neg (by rintro ⟨_, h⟩; omega)])
      have hva : Hid (vNS (uA op) 1 P = 0) := Lib.hid (by rw [vNS, if_neg (by rintro ⟨_, h⟩; omega)])
      have haa : Hid (atNS (uA op) 1 P = 1) := Lib.hid (by rw [atNS, if_neg (by rintro ⟨_, h⟩; omega)])
      go_upto_region 12 with fail
      go_upto_region 15 with fail
      have OKB : Hid (okNS (uB op) (atNS (uA op) 1 P) P = true) := Lib.hid (by rw [hB.out]; simp [okNS])
      have hvb : Hid (vNS (uB op) (atNS (uA op) 1 P) P = 0) := Lib.hid (by rw [hB.out]; simp [vNS])
      have hab : Hid (atNS (uB op) (atNS (uA op) 1 P) P = 1) := Lib.hid (by rw [hB.out]; simp only [atNS, Bool.false_eq_true, false_and, if_false]; exact haa.out)
      go_upto_region 17 with fail
      have htt : Hid (tNS (uT op) (atNS (uB op) (atNS (uA op) 1 P) P) P = ⟨#[]⟩) := Lib.hid (by rw [hT.out]; simp [tNS])
      have X0 : W5.cell? ⟨X, 0, none⟩ = some (.int .i64 op) := by rw [OX.cell]; rfl
      have X1 : W5.cell? ⟨X, 1, none⟩ = some (.int .i64 (0)) := by rw [OX.cell]; rfl
      have X2 : W5.cell? ⟨X, 2, none⟩ = some (.int .i64 (0)) := by rw [OX.cell]; rfl
      have X3 : W5.cell? ⟨X, 3, none⟩ = some (.string (⟨#[]⟩)) := by rw [OX.cell]; rfl
      have FX : ∀ o, W5.frozen? ⟨X, o, none⟩ = false := OX.frozen
      have hd := instr_d (a := 0) (b := 0) (t := ⟨#[]⟩) hop ⟨by omega, by omega⟩ ⟨by omega, by omega⟩ (by decide)
      have HDB := Lib.hid hd; clear hd
      have HXS : Hid (xS s op = ⟨op, 0, 0, ⟨#[]⟩⟩) := Lib.hid (by unfold xS; rw [← HP.out, hva.out, hvb.out, htt.out])
      by_cases hi : instrB ⟨op, 0, 0, ⟨#[]⟩⟩ = s
      · have HI := Lib.hid hi
        have hne := str_eqn hi; clear hi
        go_wp2_with fail
        refine (spec_FormatInstr_any ⟨op, 0, 0, ⟨#[]⟩⟩ [.int .i64 op, .int .i64 (0), .int .i64 (0), .string (⟨#[]⟩)] _ (instr_rep _ _ _ _ _) HDB.out.1 HDB.out.2).mono ?_
        rintro e w9 ⟨rfl, hx9⟩
        replace OR := OR.ext hx9
        replace OX := OX.ext hx9
        have hxf := hxw.trans hx9
        clear X0 X1 X2 X3 FX
        have R0 : w9.cell? ⟨w.heap.size, 0, none⟩ = some (.int .i64 0) := by rw [OR.cell]; rfl
        have R1 : w9.cell? ⟨w.heap.size, 1, none⟩ = some (.int .i64 0) := by rw [OR.cell]; rfl
        have R2 : w9.cell? ⟨w.heap.size, 2, none⟩ = some (.int .i64 0) := by rw [OR.cell]; rfl
        have R3 : w9.cell? ⟨w.heap.size, 3, none⟩ = some (.string ⟨#[]⟩) := by rw [OR.cell]; rfl
        have F0 : ∀ o, w9.frozen? ⟨w.heap.size, o, none⟩ = false := OR.frozen
        have X0 : w9.cell? ⟨X, 0, none⟩ = some (.int .i64 op) := by rw [OX.cell]; rfl
        have X1 : w9.cell? ⟨X, 1, none⟩ = some (.int .i64 (0)) := by rw [OX.cell]; rfl
        have X2 : w9.cell? ⟨X, 2, none⟩ = some (.int .i64 (0)) := by rw [OX.cell]; rfl
        have X3 : w9.cell? ⟨X, 3, none⟩ = some (.string (⟨#[]⟩)) := by rw [OX.cell]; rfl
        have FX : ∀ o, w9.frozen? ⟨X, o, none⟩ = false := OX.frozen
        go_wp2_with fail
        refine bodyPost_ret (v := .tuple #[.agg #[.int .i64 op, .int .i64 (0), .int .i64 (0), .string (⟨#[]⟩)], .bool true]) (by simp [results, Tryd.results29, go_sem, R0, R1, R2, R3, F0]) rfl ⟨⟨op, 0, 0, ⟨#[]⟩⟩, true, rfl, fun _ => (by rw [← HXS.out]; exact spec_right hop (by rw [← HP.out]; exact OKA.out) (by rw [← HP.out]; exact OKB.out) (by rw [HXS.out]; exact HI.out)), fun h => (by cases h), ?_⟩
        (repeat refine Ext.setCell ?_ (by omega) _)
        exact x1.trans (hx1.trans hxf)
      · have HI := Lib.hid hi
        have hne := str_nen hi; clear hi
        go_wp2_with fail
        refine (spec_FormatInstr_any ⟨op, 0, 0, ⟨#[]⟩⟩ [.int .i64 op, .int .i64 (0), .int .i64 (0), .string (⟨#[]⟩)] _ (instr_rep _ _ _ _ _) HDB.out.1 HDB.out.2).mono ?_
        rintro e w9 ⟨rfl, hx9⟩
        replace OR := OR.ext hx9
        have hxf := hxw.trans hx9
        clear X0 X1 X2 X3 FX
        have R0 : w9.cell? ⟨w.heap.size, 0, none⟩ = some (.int .i64 0) := by rw [OR.cell]; rfl
        have R1 : w9.cell? ⟨w.heap.size, 1, none⟩ = some (.int .i64 0) := by rw [OR.cell]; rfl
        have R2 : w9.cell? ⟨w.heap.size, 2, none⟩ = some (.int .i64 0) := by rw [OR.cell]; rfl
        have R3 : w9.cell? ⟨w.heap.size, 3, none⟩ = some (.string ⟨#[]⟩) := by rw [OR.cell]; rfl
        have F0 : ∀ o, w9.frozen? ⟨w.heap.size, o, none⟩ = false := OR.frozen
        go_wp2_with fail
        refine bodyPost_ret (v := .tuple #[.agg #[.int .i64 0, .int .i64 0, .int .i64 0, .string ⟨#[]⟩], .bool false]) (by simp [results, Tryd.results29, go_sem, R0, R1, R2, R3, F0]) rfl ⟨⟨0, 0, 0, ⟨#[]⟩⟩, false, rfl, fun h => (by cases h), fun _ => ⟨rfl, (fun ⟨y, hy⟩ => HI.out (by have h := NOY.out y hy; rw [← HXS.out, h.2.2]; exact hy.2.1))⟩, ?_⟩
        (repeat refine Ext.setCell ?_ (by omega) _)
        exact x1.trans (hx1.trans hxf)
    have qA : ((1 : Nat) : Int) < (P.length : Int) := by omega
    have QA : (1 : Int) < (P.length : Int) := by omega
    have cA := Ext.cell hxw (HC.out 1 nA)
    have HZ : Hid ((P.getD 1 ⟨#[]⟩).size ≤ 1048576) := Lib.hid (HPS.out _ (by rw [List.getD_eq_getElem?_getD, List.getElem?_eq_getElem nA]; exact List.getElem_mem _))
    obtain ⟨p, hp⟩ : ∃ p, P.getD 1 ⟨#[]⟩ = p := ⟨_, rfl⟩
    rw [hp] at cA HZ
    have HPG := Lib.hid hp; clear hp
    obtain ⟨va, hva⟩ : ∃ v, PV p = v := ⟨_, rfl⟩
    obtain ⟨okA, hokA⟩ : ∃ v, PB p = v := ⟨_, rfl⟩
    have hvr_va : Hid (-9223372036854775808 ≤ va ∧ va ≤ 9223372036854775807) := Lib.hid (by rw [← hva]; exact num_b64 p)
    have C : Hid (∀ W, Calls Tryd.prog 28 #[.string p] W fun e w' => e = .returned (.tuple #[.int .i64 va, .bool okA]) ∧ Ext W w') := Lib.hid fun W => by
      rw [← hva, ← hokA]; exact spec_ParseInt_any p W HZ.out
    have X0 : W5.cell? ⟨X, 0, none⟩ = some (.int .i64 op) := by rw [OX.cell]; rfl
    have X1 : W5.cell? ⟨X, 1, none⟩ = some (.int .i64 (0)) := by rw [OX.cell]; rfl
    have X2 : W5.cell? ⟨X, 2, none⟩ = some (.int .i64 (0)) := by rw [OX.cell]; rfl
    have X3 : W5.cell? ⟨X, 3, none⟩ = some (.string (⟨#[]⟩)) := by rw [OX.cell]; rfl
    have FX : ∀ o, W5.frozen? ⟨X, o, none⟩ = false := OX.frozen
    cases okA
    all_goals
      have HV := Lib.hid hva; clear hva
      have HOK := Lib.hid hokA; clear hokA
      go_wp2_with fail
      refine (C.out _).mono ?_
      rintro e wk ⟨rfl, hxk⟩
      have X1' : wk.cell? ⟨X, 1, none⟩ = some (.int .i64 0) := Ext.cell hxk X1
      have FX' : ∀ o, wk.frozen? ⟨X, o, none⟩ = false := (OX.ext hxk).frozen
      go_upto_region 12 with fail
      clear X1' FX' C cA
      generalize hS : World.setCell wk _ _ = v1
      have OR' : Own v1 w.heap.size 60 #[.int .i64 0, .int .i64 0, .int .i64 0, .string ⟨#[]⟩] := by rw [← hS]; exact (OR.ext hxk).other _ (by show w.heap.size ≠ X; omega) _
      have OX' : Own v1 X 60 #[.int .i64 op, .int .i64 va, .int .i64 0, .string ⟨#[]⟩] := by rw [← hS]; exact (OX.ext hxk).set _ _
      have hxw' : Ext w1 v1 := by rw [← hS]; exact Ext.setCell (hxw.trans hxk) (by omega) _
      clear hS OR OX hxw hxk X0 X1 X2 X3 FX
      have OR := OR'; have OX := OX'; have hxw := hxw'
      clear OR' OX' hxw'
    · skip
      have NOK : Hid (okNS (uA op) 1 P = false) := Lib.hid (by rw [hA.out, okNS, if_pos ⟨rfl, nA⟩, HPG.out]; exact HOK.out)
      have haa : Hid (atNS (uA op) 1 P = 2) := Lib.hid (by rw [hA.out, atNS, if_pos ⟨rfl, nA⟩])
      go_upto_region 15 with fail
      have OKB : Hid (okNS (uB op) (atNS (uA op) 1 P) P = true) := Lib.hid (by rw [hB.out]; simp [okNS])
      have hvb : Hid (vNS (uB op) (atNS (uA op) 1 P) P = 0) := Lib.hid (by rw [hB.out]; simp [vNS])
      have hab : Hid (atNS (uB op) (atNS (uA op) 1 P) P = 2) := Lib.hid (by rw [hB.out]; simp only [atNS, Bool.false_eq_true, false_and, if_false]; exact haa.out)
      go_upto_region 17 with fail
      have NOP : Hid (¬ ∃ y, OkI s y) := Lib.hid (fun ⟨y, hy⟩ => by have h := NOY.out y hy; first | (exact absurd (h.1.symm.trans NOK.out) (by simp)) | (exact absurd (h.2.1.symm.trans NOK.out) (by simp)))
      have R0 : v1.cell? ⟨w.heap.size, 0, none⟩ = some (.int .i64 0) := by rw [OR.cell]; rfl
      have R1 : v1.cell? ⟨w.heap.size, 1, none⟩ = some (.int .i64 0) := by rw [OR.cell]; rfl
      have R2 : v1.cell? ⟨w.heap.size, 2, none⟩ = some (.int .i64 0) := by rw [OR.cell]; rfl
      have R3 : v1.cell? ⟨w.heap.size, 3, none⟩ = some (.string ⟨#[]⟩) := by rw [OR.cell]; rfl
      have F0 : ∀ o, v1.frozen? ⟨w.heap.size, o, none⟩ = false := OR.frozen
      have X0 : v1.cell? ⟨X, 0, none⟩ = some (.int .i64 op) := by rw [OX.cell]; rfl
      have X1 : v1.cell? ⟨X, 1, none⟩ = some (.int .i64 (va)) := by rw [OX.cell]; rfl
      have X2 : v1.cell? ⟨X, 2, none⟩ = some (.int .i64 (0)) := by rw [OX.cell]; rfl
      have X3 : v1.cell? ⟨X, 3, none⟩ = some (.string (⟨#[]⟩)) := by rw [OX.cell]; rfl
      have FX : ∀ o, v1.frozen? ⟨X, o, none⟩ = false := OX.frozen
      go_wp2_with fail
      refine bodyPost_ret (v := .tuple #[.agg #[.int .i64 0, .int .i64 0, .int .i64 0, .string ⟨#[]⟩], .bool false]) (by simp [results, Tryd.results29, go_sem, R0, R1, R2, R3, F0]) rfl ⟨⟨0, 0, 0, ⟨#[]⟩⟩, false, rfl, fun h => (by cases h), fun _ => ⟨rfl, NOP.out⟩, ?_⟩
      (repeat refine Ext.setCell ?_ (by omega) _)
      exact x1.trans (hx1.trans hxw)
    · skip
      have OKA : Hid (okNS (uA op) 1 P = true) := Lib.hid (by rw [hA.out, okNS, if_pos ⟨rfl, nA⟩, HPG.out]; exact HOK.out)
      have hva : Hid (vNS (uA op) 1 P = va) := Lib.hid (by rw [hA.out, vNS, if_pos ⟨rfl, nA⟩, HPG.out]; exact HV.out)
      have haa : Hid (atNS (uA op) 1 P = 2) := Lib.hid (by rw [hA.out, atNS, if_pos ⟨rfl, nA⟩])
      clear HPG HV HOK HZ
      go_upto_region 15 with fail
      have OKB : Hid (okNS (uB op) (atNS (uA op) 1 P) P = true) := Lib.hid (by rw [hB.out]; simp [okNS])
      have hvb : Hid (vNS (uB op) (atNS (uA op) 1 P) P = 0) := Lib.hid (by rw [hB.out]; simp [vNS])
      have hab : Hid (atNS (uB op) (atNS (uA op) 1 P) P = 2) := Lib.hid (by rw [hB.out]; simp only [atNS, Bool.false_eq_true, false_and, if_false]; exact haa.out)
      go_upto_region 17 with fail
      have htt : Hid (tNS (uT op) (atNS (uB op) (atNS (uA op) 1 P) P) P = ⟨#[]⟩) := Lib.hid (by rw [hT.out]; simp [tNS])
      have X0 : v1.cell? ⟨X, 0, none⟩ = some (.int .i64 op) := by rw [OX.cell]; rfl
      have X1 : v1.cell? ⟨X, 1, none⟩ = some (.int .i64 (va)) := by rw [OX.cell]; rfl
      have X2 : v1.cell? ⟨X, 2, none⟩ = some (.int .i64 (0)) := by rw [OX.cell]; rfl
      have X3 : v1.cell? ⟨X, 3, none⟩ = some (.string (⟨#[]⟩)) := by rw [OX.cell]; rfl
      have FX : ∀ o, v1.frozen? ⟨X, o, none⟩ = false := OX.frozen
      have hd := instr_d (a := va) (b := 0) (t := ⟨#[]⟩) hop hvr_va.out ⟨by omega, by omega⟩ (by decide)
      have HDB := Lib.hid hd; clear hd
      have HXS : Hid (xS s op = ⟨op, va, 0, ⟨#[]⟩⟩) := Lib.hid (by unfold xS; rw [← HP.out, hva.out, hvb.out, htt.out])
      by_cases hi : instrB ⟨op, va, 0, ⟨#[]⟩⟩ = s
      · have HI := Lib.hid hi
        have hne := str_eqn hi; clear hi
        go_wp2_with fail
        refine (spec_FormatInstr_any ⟨op, va, 0, ⟨#[]⟩⟩ [.int .i64 op, .int .i64 (va), .int .i64 (0), .string (⟨#[]⟩)] _ (instr_rep _ _ _ _ _) HDB.out.1 HDB.out.2).mono ?_
        rintro e w9 ⟨rfl, hx9⟩
        replace OR := OR.ext hx9
        replace OX := OX.ext hx9
        have hxf := hxw.trans hx9
        clear X0 X1 X2 X3 FX
        have R0 : w9.cell? ⟨w.heap.size, 0, none⟩ = some (.int .i64 0) := by rw [OR.cell]; rfl
        have R1 : w9.cell? ⟨w.heap.size, 1, none⟩ = some (.int .i64 0) := by rw [OR.cell]; rfl
        have R2 : w9.cell? ⟨w.heap.size, 2, none⟩ = some (.int .i64 0) := by rw [OR.cell]; rfl
        have R3 : w9.cell? ⟨w.heap.size, 3, none⟩ = some (.string ⟨#[]⟩) := by rw [OR.cell]; rfl
        have F0 : ∀ o, w9.frozen? ⟨w.heap.size, o, none⟩ = false := OR.frozen
        have X0 : w9.cell? ⟨X, 0, none⟩ = some (.int .i64 op) := by rw [OX.cell]; rfl
        have X1 : w9.cell? ⟨X, 1, none⟩ = some (.int .i64 (va)) := by rw [OX.cell]; rfl
        have X2 : w9.cell? ⟨X, 2, none⟩ = some (.int .i64 (0)) := by rw [OX.cell]; rfl
        have X3 : w9.cell? ⟨X, 3, none⟩ = some (.string (⟨#[]⟩)) := by rw [OX.cell]; rfl
        have FX : ∀ o, w9.frozen? ⟨X, o, none⟩ = false := OX.frozen
        go_wp2_with fail
        refine bodyPost_ret (v := .tuple #[.agg #[.int .i64 op, .int .i64 (va), .int .i64 (0), .string (⟨#[]⟩)], .bool true]) (by simp [results, Tryd.results29, go_sem, R0, R1, R2, R3, F0]) rfl ⟨⟨op, va, 0, ⟨#[]⟩⟩, true, rfl, fun _ => (by rw [← HXS.out]; exact spec_right hop (by rw [← HP.out]; exact OKA.out) (by rw [← HP.out]; exact OKB.out) (by rw [HXS.out]; exact HI.out)), fun h => (by cases h), ?_⟩
        (repeat refine Ext.setCell ?_ (by omega) _)
        exact x1.trans (hx1.trans hxf)
      · have HI := Lib.hid hi
        have hne := str_nen hi; clear hi
        go_wp2_with fail
        refine (spec_FormatInstr_any ⟨op, va, 0, ⟨#[]⟩⟩ [.int .i64 op, .int .i64 (va), .int .i64 (0), .string (⟨#[]⟩)] _ (instr_rep _ _ _ _ _) HDB.out.1 HDB.out.2).mono ?_
        rintro e w9 ⟨rfl, hx9⟩
        replace OR := OR.ext hx9
        have hxf := hxw.trans hx9
        clear X0 X1 X2 X3 FX
        have R0 : w9.cell? ⟨w.heap.size, 0, none⟩ = some (.int .i64 0) := by rw [OR.cell]; rfl
        have R1 : w9.cell? ⟨w.heap.size, 1, none⟩ = some (.int .i64 0) := by rw [OR.cell]; rfl
        have R2 : w9.cell? ⟨w.heap.size, 2, none⟩ = some (.int .i64 0) := by rw [OR.cell]; rfl
        have R3 : w9.cell? ⟨w.heap.size, 3, none⟩ = some (.string ⟨#[]⟩) := by rw [OR.cell]; rfl
        have F0 : ∀ o, w9.frozen? ⟨w.heap.size, o, none⟩ = false := OR.frozen
        go_wp2_with fail
        refine bodyPost_ret (v := .tuple #[.agg #[.int .i64 0, .int .i64 0, .int .i64 0, .string ⟨#[]⟩], .bool false]) (by simp [results, Tryd.results29, go_sem, R0, R1, R2, R3, F0]) rfl ⟨⟨0, 0, 0, ⟨#[]⟩⟩, false, rfl, fun h => (by cases h), fun _ => ⟨rfl, (fun ⟨y, hy⟩ => HI.out (by have h := NOY.out y hy; rw [← HXS.out, h.2.2]; exact hy.2.1))⟩, ?_⟩
        (repeat refine Ext.setCell ?_ (by omega) _)
        exact x1.trans (hx1.trans hxf)
  · rw [hA, hB, hT]
    have hA := Lib.hid hA; have hB := Lib.hid hB; have hT := Lib.hid hT
    have OKA : Hid (okNS (uA op) 1 P = true) := Lib.hid (by rw [hA.out]; simp [okNS])
    have hva : Hid (vNS (uA op) 1 P = 0) := Lib.hid (by rw [hA.out]; simp [vNS])
    have haa : Hid (atNS (uA op) 1 P = 1) := Lib.hid (by rw [hA.out]; simp [atNS])
    go_upto_region 12 with fail
    go_upto_region 15 with fail
    have OKB : Hid (okNS (uB op) (atNS (uA op) 1 P) P = true) := Lib.hid (by rw [hB.out]; simp [okNS])
    have hvb : Hid (vNS (uB op) (atNS (uA op) 1 P) P = 0) := Lib.hid (by rw [hB.out]; simp [vNS])
    have hab : Hid (atNS (uB op) (atNS (uA op) 1 P) P = 1) := Lib.hid (by rw [hB.out]; simp only [atNS, Bool.false_eq_true, false_and, if_false]; exact haa.out)
    by_cases nT : 1 < P.length
    rotate_left
    · have qT : ¬ ((1 : Nat) : Int) < (P.length : Int) := by omega
      have QT : ¬ (1 : Int) < (P.length : Int) := by omega
      have X0 : W5.cell? ⟨X, 0, none⟩ = some (.int .i64 op) := by rw [OX.cell]; rfl
      have X1 : W5.cell? ⟨X, 1, none⟩ = some (.int .i64 (0)) := by rw [OX.cell]; rfl
      have X2 : W5.cell? ⟨X, 2, none⟩ = some (.int .i64 (0)) := by rw [OX.cell]; rfl
      have X3 : W5.cell? ⟨X, 3, none⟩ = some (.string (⟨#[]⟩)) := by rw [OX.cell]; rfl
      have FX : ∀ o, W5.frozen? ⟨X, o, none⟩ = false := OX.frozen
      go_upto_region 17 with fail
      clear X0 X1 X2 X3 FX
      have htt : Hid (tNS (uT op) (atNS (uB op) (atNS (uA op) 1 P) P) P = ⟨#[]⟩) := Lib.hid (by rw [hT.out, hab.out, tNS, if_neg (by rintro ⟨_, h⟩; omega)])
      have X0 : W5.cell? ⟨X, 0, none⟩ = some (.int .i64 op) := by rw [OX.cell]; rfl
      have X1 : W5.cell? ⟨X, 1, none⟩ = some (.int .i64 (0)) := by rw [OX.cell]; rfl
      have X2 : W5.cell? ⟨X, 2, none⟩ = some (.int .i64 (0)) := by rw [OX.cell]; rfl
      have X3 : W5.cell? ⟨X, 3, none⟩ = some (.string (⟨#[]⟩)) := by rw [OX.cell]; rfl
      have FX : ∀ o, W5.frozen? ⟨X, o, none⟩ = false := OX.frozen
      have hd := instr_d (a := 0) (b := 0) (t := ⟨#[]⟩) hop ⟨by omega, by omega⟩ ⟨by omega, by omega⟩ (by decide)
      have HDB := Lib.hid hd; clear hd
      have HXS : Hid (xS s op = ⟨op, 0, 0, ⟨#[]⟩⟩) := Lib.hid (by unfold xS; rw [← HP.out, hva.out, hvb.out, htt.out])
      by_cases hi : instrB ⟨op, 0, 0, ⟨#[]⟩⟩ = s
      · have HI := Lib.hid hi
        have hne := str_eqn hi; clear hi
        go_wp2_with fail
        refine (spec_FormatInstr_any ⟨op, 0, 0, ⟨#[]⟩⟩ [.int .i64 op, .int .i64 (0), .int .i64 (0), .string (⟨#[]⟩)] _ (instr_rep _ _ _ _ _) HDB.out.1 HDB.out.2).mono ?_
        rintro e w9 ⟨rfl, hx9⟩
        replace OR := OR.ext hx9
        replace OX := OX.ext hx9
        have hxf := hxw.trans hx9
        clear X0 X1 X2 X3 FX
        have R0 : w9.cell? ⟨w.heap.size, 0, none⟩ = some (.int .i64 0) := by rw [OR.cell]; rfl
        have R1 : w9.cell? ⟨w.heap.size, 1, none⟩ = some (.int .i64 0) := by rw [OR.cell]; rfl
        have R2 : w9.cell? ⟨w.heap.size, 2, none⟩ = some (.int .i64 0) := by rw [OR.cell]; rfl
        have R3 : w9.cell? ⟨w.heap.size, 3, none⟩ = some (.string ⟨#[]⟩) := by rw [OR.cell]; rfl
        have F0 : ∀ o, w9.frozen? ⟨w.heap.size, o, none⟩ = false := OR.frozen
        have X0 : w9.cell? ⟨X, 0, none⟩ = some (.int .i64 op) := by rw [OX.cell]; rfl
        have X1 : w9.cell? ⟨X, 1, none⟩ = some (.int .i64 (0)) := by rw [OX.cell]; rfl
        have X2 : w9.cell? ⟨X, 2, none⟩ = some (.int .i64 (0)) := by rw [OX.cell]; rfl
        have X3 : w9.cell? ⟨X, 3, none⟩ = some (.string (⟨#[]⟩)) := by rw [OX.cell]; rfl
        have FX : ∀ o, w9.frozen? ⟨X, o, none⟩ = false := OX.frozen
        go_wp2_with fail
        refine bodyPost_ret (v := .tuple #[.agg #[.int .i64 op, .int .i64 (0), .int .i64 (0), .string (⟨#[]⟩)], .bool true]) (by simp [results, Tryd.results29, go_sem, R0, R1, R2, R3, F0]) rfl ⟨⟨op, 0, 0, ⟨#[]⟩⟩, true, rfl, fun _ => (by rw [← HXS.out]; exact spec_right hop (by rw [← HP.out]; exact OKA.out) (by rw [← HP.out]; exact OKB.out) (by rw [HXS.out]; exact HI.out)), fun h => (by cases h), ?_⟩
        (repeat refine Ext.setCell ?_ (by omega) _)
        exact x1.trans (hx1.trans hxf)
      · have HI := Lib.hid hi
        have hne := str_nen hi; clear hi
        go_wp2_with fail
        refine (spec_FormatInstr_any ⟨op, 0, 0, ⟨#[]⟩⟩ [.int .i64 op, .int .i64 (0), .int .i64 (0), .string (⟨#[]⟩)] _ (instr_rep _ _ _ _ _) HDB.out.1 HDB.out.2).mono ?_
        rintro e w9 ⟨rfl, hx9⟩
        replace OR := OR.ext hx9
        have hxf := hxw.trans hx9
        clear X0 X1 X2 X3 FX
        have R0 : w9.cell? ⟨w.heap.size, 0, none⟩ = some (.int .i64 0) := by rw [OR.cell]; rfl
        have R1 : w9.cell? ⟨w.heap.size, 1, none⟩ = some (.int .i64 0) := by rw [OR.cell]; rfl
        have R2 : w9.cell? ⟨w.heap.size, 2, none⟩ = some (.int .i64 0) := by rw [OR.cell]; rfl
        have R3 : w9.cell? ⟨w.heap.size, 3, none⟩ = some (.string ⟨#[]⟩) := by rw [OR.cell]; rfl
        have F0 : ∀ o, w9.frozen? ⟨w.heap.size, o, none⟩ = false := OR.frozen
        go_wp2_with fail
        refine bodyPost_ret (v := .tuple #[.agg #[.int .i64 0, .int .i64 0, .int .i64 0, .string ⟨#[]⟩], .bool false]) (by simp [results, Tryd.results29, go_sem, R0, R1, R2, R3, F0]) rfl ⟨⟨0, 0, 0, ⟨#[]⟩⟩, false, rfl, fun h => (by cases h), fun _ => ⟨rfl, (fun ⟨y, hy⟩ => HI.out (by have h := NOY.out y hy; rw [← HXS.out, h.2.2]; exact hy.2.1))⟩, ?_⟩
        (repeat refine Ext.setCell ?_ (by omega) _)
        exact x1.trans (hx1.trans hxf)
    have qT : ((1 : Nat) : Int) < (P.length : Int) := by omega
    have QT : (1 : Int) < (P.length : Int) := by omega
    have qT2 : (1 : Int) ≤ (P.length : Int) := by omega
    have X0 : W5.cell? ⟨X, 0, none⟩ = some (.int .i64 op) := by rw [OX.cell]; rfl
    have X1 : W5.cell? ⟨X, 1, none⟩ = some (.int .i64 (0)) := by rw [OX.cell]; rfl
    have X2 : W5.cell? ⟨X, 2, none⟩ = some (.int .i64 (0)) := by rw [OX.cell]; rfl
    have X3 : W5.cell? ⟨X, 3, none⟩ = some (.string (⟨#[]⟩)) := by rw [OX.cell]; rfl
    have FX : ∀ o, W5.frozen? ⟨X, o, none⟩ = false := OX.frozen
    have RD : Hid (Rep W5 (strs (P.drop 1)) [.slice (some ⟨ba, oa + 1, none⟩) (P.length - 1) (cap - 1)]) := Lib.hid (rep_drop (Rep.ext hxw RP.out) 1 nT)
    have HSZ : Hid (∀ x, x ∈ P.drop 1 → x.size ≤ 1048576) := Lib.hid fun x hx => HPS.out x (List.mem_of_mem_drop hx)
    obtain ⟨J, hJ⟩ : ∃ J, joinB (P.drop 1) ⟨#[32]⟩ = J := ⟨_, rfl⟩
    have HJ := Lib.hid hJ; clear hJ
    have HJZ : Hid (J.size ≤ 1048576) := Lib.hid (by rw [← HJ.out]; exact joinB_le _ _)
    have CJ : Hid (∀ va, Rep W5 (strs (P.drop 1)) [va] → Calls Tryd.prog 59 #[va, .string ⟨#[32]⟩] W5 fun e w' => e = .returned (.string J) ∧ Ext W5 w') := Lib.hid fun va h => by
      rw [← HJ.out]; exact spec_Join_any (P.drop 1) ⟨#[32]⟩ va W5 h (by decide) HSZ.out
    go_wp2_with fail
    refine (CJ.out _ RD.out).mono ?_
    rintro e wk ⟨rfl, hxk⟩
    have X3' : wk.cell? ⟨X, 3, none⟩ = some (.string ⟨#[]⟩) := Ext.cell hxk X3
    have FX' : ∀ o, wk.frozen? ⟨X, o, none⟩ = false := (OX.ext hxk).frozen
    go_upto_region 17 with fail
    clear X3' FX' RD CJ
    generalize hS : World.setCell wk _ _ = v2
    have OR' : Own v2 w.heap.size 60 #[.int .i64 0, .int .i64 0, .int .i64 0, .string ⟨#[]⟩] := by rw [← hS]; exact (OR.ext hxk).other _ (by show w.heap.size ≠ X; omega) _
    have OX' : Own v2 X 60 #[.int .i64 op, .int .i64 (0), .int .i64 (0), .string J] := by rw [← hS]; exact (OX.ext hxk).set _ _
    have hxw' : Ext w1 v2 := by rw [← hS]; exact Ext.setCell (hxw.trans hxk) (by omega) _
    clear hS OR OX hxw hxk X0 X1 X2 X3 FX
    have OR := OR'; have OX := OX'; have hxw := hxw'
    clear OR' OX' hxw'
    have htt : Hid (tNS (uT op) (atNS (uB op) (atNS (uA op) 1 P) P) P = J) := Lib.hid (by rw [hT.out, hab.out, tNS, if_pos ⟨rfl, nT⟩, HJ.out])
    have X0 : v2.cell? ⟨X, 0, none⟩ = some (.int .i64 op) := by rw [OX.cell]; rfl
    have X1 : v2.cell? ⟨X, 1, none⟩ = some (.int .i64 (0)) := by rw [OX.cell]; rfl
    have X2 : v2.cell? ⟨X, 2, none⟩ = some (.int .i64 (0)) := by rw [OX.cell]; rfl
    have X3 : v2.cell? ⟨X, 3, none⟩ = some (.string (J)) := by rw [OX.cell]; rfl
    have FX : ∀ o, v2.frozen? ⟨X, o, none⟩ = false := OX.frozen
    have hd := instr_d (a := 0) (b := 0) (t := J) hop ⟨by omega, by omega⟩ ⟨by omega, by omega⟩ HJZ.out
    have HDB := Lib.hid hd; clear hd
    have HXS : Hid (xS s op = ⟨op, 0, 0, J⟩) := Lib.hid (by unfold xS; rw [← HP.out, hva.out, hvb.out, htt.out])
    by_cases hi : instrB ⟨op, 0, 0, J⟩ = s
    · have HI := Lib.hid hi
      have hne := str_eqn hi; clear hi
      go_wp2_with fail
      refine (spec_FormatInstr_any ⟨op, 0, 0, J⟩ [.int .i64 op, .int .i64 (0), .int .i64 (0), .string (J)] _ (instr_rep _ _ _ _ _) HDB.out.1 HDB.out.2).mono ?_
      rintro e w9 ⟨rfl, hx9⟩
      replace OR := OR.ext hx9
      replace OX := OX.ext hx9
      have hxf := hxw.trans hx9
      clear X0 X1 X2 X3 FX
      have R0 : w9.cell? ⟨w.heap.size, 0, none⟩ = some (.int .i64 0) := by rw [OR.cell]; rfl
      have R1 : w9.cell? ⟨w.heap.size, 1, none⟩ = some (.int .i64 0) := by rw [OR.cell]; rfl
      have R2 : w9.cell? ⟨w.heap.size, 2, none⟩ = some (.int .i64 0) := by rw [OR.cell]; rfl
      have R3 : w9.cell? ⟨w.heap.size, 3, none⟩ = some (.string ⟨#[]⟩) := by rw [OR.cell]; rfl
      have F0 : ∀ o, w9.frozen? ⟨w.heap.size, o, none⟩ = false := OR.frozen
      have X0 : w9.cell? ⟨X, 0, none⟩ = some (.int .i64 op) := by rw [OX.cell]; rfl
      have X1 : w9.cell? ⟨X, 1, none⟩ = some (.int .i64 (0)) := by rw [OX.cell]; rfl
      have X2 : w9.cell? ⟨X, 2, none⟩ = some (.int .i64 (0)) := by rw [OX.cell]; rfl
      have X3 : w9.cell? ⟨X, 3, none⟩ = some (.string (J)) := by rw [OX.cell]; rfl
      have FX : ∀ o, w9.frozen? ⟨X, o, none⟩ = false := OX.frozen
      go_wp2_with fail
      refine bodyPost_ret (v := .tuple #[.agg #[.int .i64 op, .int .i64 (0), .int .i64 (0), .string (J)], .bool true]) (by simp [results, Tryd.results29, go_sem, R0, R1, R2, R3, F0]) rfl ⟨⟨op, 0, 0, J⟩, true, rfl, fun _ => (by rw [← HXS.out]; exact spec_right hop (by rw [← HP.out]; exact OKA.out) (by rw [← HP.out]; exact OKB.out) (by rw [HXS.out]; exact HI.out)), fun h => (by cases h), ?_⟩
      (repeat refine Ext.setCell ?_ (by omega) _)
      exact x1.trans (hx1.trans hxf)
    · have HI := Lib.hid hi
      have hne := str_nen hi; clear hi
      go_wp2_with fail
      refine (spec_FormatInstr_any ⟨op, 0, 0, J⟩ [.int .i64 op, .int .i64 (0), .int .i64 (0), .string (J)] _ (instr_rep _ _ _ _ _) HDB.out.1 HDB.out.2).mono ?_
      rintro e w9 ⟨rfl, hx9⟩
      replace OR := OR.ext hx9
      have hxf := hxw.trans hx9
      clear X0 X1 X2 X3 FX
      have R0 : w9.cell? ⟨w.heap.size, 0, none⟩ = some (.int .i64 0) := by rw [OR.cell]; rfl
      have R1 : w9.cell? ⟨w.heap.size, 1, none⟩ = some (.int .i64 0) := by rw [OR.cell]; rfl
      have R2 : w9.cell? ⟨w.heap.size, 2, none⟩ = some (.int .i64 0) := by rw [OR.cell]; rfl
      have R3 : w9.cell? ⟨w.heap.size, 3, none⟩ = some (.string ⟨#[]⟩) := by rw [OR.cell]; rfl
      have F0 : ∀ o, w9.frozen? ⟨w.heap.size, o, none⟩ = false := OR.frozen
      go_wp2_with fail
      refine bodyPost_ret (v := .tuple #[.agg #[.int .i64 0, .int .i64 0, .int .i64 0, .string ⟨#[]⟩], .bool false]) (by simp [results, Tryd.results29, go_sem, R0, R1, R2, R3, F0]) rfl ⟨⟨0, 0, 0, ⟨#[]⟩⟩, false, rfl, fun h => (by cases h), fun _ => ⟨rfl, (fun ⟨y, hy⟩ => HI.out (by have h := NOY.out y hy; rw [← HXS.out, h.2.2]; exact hy.2.1))⟩, ?_⟩
      (repeat refine Ext.setCell ?_ (by omega) _)
      exact x1.trans (hx1.trans hxf)
  · rw [hA, hB, hT]
    have hA := Lib.hid hA; have hB := Lib.hid hB; have hT := Lib.hid hT
    by_cases nA : 1 < P.length
    rotate_left
    · have qA : ¬ ((1 : Nat) : Int) < (P.length : Int) := by omega
      have QA : ¬ (1 : Int) < (P.length : Int) := by omega
      have OKA : Hid (okNS (uA op) 1 P = true) := Lib.hid (by rw [okNS, if_neg (by rintro ⟨_, h⟩; omega)])
      have hva : Hid (vNS (uA op) 1 P = 0) := Lib.hid (by rw [vNS, if_neg (by rintro ⟨_, h⟩; omega)])
      have haa : Hid (atNS (uA op) 1 P = 1) := Lib.hid (by rw [atNS, if_neg (by rintro ⟨_, h⟩; omega)])
      go_upto_region 12 with fail
      have OKB : Hid (okNS (uB op) (atNS (uA op) 1 P) P = true) := Lib.hid (by rw [haa.out, okNS, if_neg (by rintro ⟨_, h⟩; omega)])
      have hvb : Hid (vNS (uB op) (atNS (uA op) 1 P) P = 0) := Lib.hid (by rw [haa.out, vNS, if_neg (by rintro ⟨_, h⟩; omega)])
      go_upto_region 15 with fail
      go_upto_region 17 with fail
      have htt : Hid (tNS (uT op) (atNS (uB op) (atNS (uA op) 1 P) P) P = ⟨#[]⟩) := Lib.hid (by rw [hT.out]; simp [tNS])
      have X0 : W5.cell? ⟨X, 0, none⟩ = some (.int .i64 op) := by rw [OX.cell]; rfl
      have X1 : W5.cell? ⟨X, 1, none⟩ = some (.int .i64 (0)) := by rw [OX.cell]; rfl
      have X2 : W5.cell? ⟨X, 2, none⟩ = some (.int .i64 (0)) := by rw [OX.cell]; rfl
      have X3 : W5.cell? ⟨X, 3, none⟩ = some (.string (⟨#[]⟩)) := by rw [OX.cell]; rfl
      have FX : ∀ o, W5.frozen? ⟨X, o, none⟩ = false := OX.frozen
      have hd := instr_d (a := 0) (b := 0) (t := ⟨#[]⟩) hop ⟨by omega, by omega⟩ ⟨by omega, by omega⟩ (by decide)
      have HDB := Lib.hid hd; clear hd
      have HXS : Hid (xS s op = ⟨op, 0, 0, ⟨#[]⟩⟩) := Lib.hid (by unfold xS; rw [← HP.out, hva.out, hvb.out, htt.out])
      by_cases hi : instrB ⟨op, 0, 0, ⟨#[]⟩⟩ = s
      · have HI := Lib.hid hi
        have hne := str_eqn hi; clear hi
        go_wp2_with fail
        refine (spec_FormatInstr_any ⟨op, 0, 0, ⟨#[]⟩⟩ [.int .i64 op, .int .i64 (0), .int .i64 (0), .string (⟨#[]⟩)] _ (instr_rep _ _ _ _ _) HDB.out.1 HDB.out.2).mono ?_
        rintro e w9 ⟨rfl, hx9⟩
        replace OR := OR.ext hx9
        replace OX := OX.ext hx9
        have hxf := hxw.trans hx9
        clear X0 X1 X2 X3 FX
        have R0 : w9.cell? ⟨w.heap.size, 0, none⟩ = some (.int .i64 0) := by rw [OR.cell]; rfl
        have R1 : w9.cell? ⟨w.heap.size, 1, none⟩ = some (.int .i64 0) := by rw [OR.cell]; rfl
        have R2 : w9.cell? ⟨w.heap.size, 2, none⟩ = some (.int .i64 0) := by rw [OR.cell]; rfl
        have R3 : w9.cell? ⟨w.heap.size, 3, none⟩ = some (.string ⟨#[]⟩) := by rw [OR.cell]; rfl
        have F0 : ∀ o, w9.frozen? ⟨w.heap.size, o, none⟩ = false := OR.frozen
        have X0 : w9.cell? ⟨X, 0, none⟩ = some (.int .i64 op) := by rw [OX.cell]; rfl
        have X1 : w9.cell? ⟨X, 1, none⟩ = some (.int .i64 (0)) := by rw [OX.cell]; rfl
        have X2 : w9.cell? ⟨X, 2, none⟩ = some (.int .i64 (0)) := by rw [OX.cell]; rfl
        have X3 : w9.cell? ⟨X, 3, none⟩ = some (.string (⟨#[]⟩)) := by rw [OX.cell]; rfl
        have FX : ∀ o, w9.frozen? ⟨X, o, none⟩ = false := OX.frozen
        go_wp2_with fail
        refine bodyPost_ret (v := .tuple #[.agg #[.int .i64 op, .int .i64 (0), .int .i64 (0), .string (⟨#[]⟩)], .bool true]) (by simp [results, Tryd.results29, go_sem, R0, R1, R2, R3, F0]) rfl ⟨⟨op, 0, 0, ⟨#[]⟩⟩, true, rfl, fun _ => (by rw [← HXS.out]; exact spec_right hop (by rw [← HP.out]; exact OKA.out) (by rw [← HP.out]; exact OKB.out) (by rw [HXS.out]; exact HI.out)), fun h => (by cases h), ?_⟩
        (repeat refine Ext.setCell ?_ (by omega) _)
        exact x1.trans (hx1.trans hxf)
      · have HI := Lib.hid hi
        have hne := str_nen hi; clear hi
        go_wp2_with fail
        refine (spec_FormatInstr_any ⟨op, 0, 0, ⟨#[]⟩⟩ [.int .i64 op, .int .i64 (0), .int .i64 (0), .string (⟨#[]⟩)] _ (instr_rep _ _ _ _ _) HDB.out.1 HDB.out.2).mono ?_
        rintro e w9 ⟨rfl, hx9⟩
        replace OR := OR.ext hx9
        have hxf := hxw.trans hx9
        clear X0 X1 X2 X3 FX
        have R0 : w9.cell? ⟨w.heap.size, 0, none⟩ = some (.int .i64 0) := by rw [OR.cell]; rfl
        have R1 : w9.cell? ⟨w.heap.size, 1, none⟩ = some (.int .i64 0) := by rw [OR.cell]; rfl
        have R2 : w9.cell? ⟨w.heap.size, 2, none⟩ = some (.int .i64 0) := by rw [OR.cell]; rfl
        have R3 : w9.cell? ⟨w.heap.size, 3, none⟩ = some (.string ⟨#[]⟩) := by rw [OR.cell]; rfl
        have F0 : ∀ o, w9.frozen? ⟨w.heap.size, o, none⟩ = false := OR.frozen
        go_wp2_with fail
        refine bodyPost_ret (v := .tuple #[.agg #[.int .i64 0, .int .i64 0, .int .i64 0, .string ⟨#[]⟩], .bool false]) (by simp [results, Tryd.results29, go_sem, R0, R1, R2, R3, F0]) rfl ⟨⟨0, 0, 0, ⟨#[]⟩⟩, false, rfl, fun h => (by cases h), fun _ => ⟨rfl, (fun ⟨y, hy⟩ => HI.out (by have h := NOY.out y hy; rw [← HXS.out, h.2.2]; exact hy.2.1))⟩, ?_⟩
        (repeat refine Ext.setCell ?_ (by omega) _)
        exact x1.trans (hx1.trans hxf)
    have qA : ((1 : Nat) : Int) < (P.length : Int) := by omega
    have QA : (1 : Int) < (P.length : Int) := by omega
    have cA := Ext.cell hxw (HC.out 1 nA)
    have HZ : Hid ((P.getD 1 ⟨#[]⟩).size ≤ 1048576) := Lib.hid (HPS.out _ (by rw [List.getD_eq_getElem?_getD, List.getElem?_eq_getElem nA]; exact List.getElem_mem _))
    obtain ⟨p, hp⟩ : ∃ p, P.getD 1 ⟨#[]⟩ = p := ⟨_, rfl⟩
    rw [hp] at cA HZ
    have HPG := Lib.hid hp; clear hp
    obtain ⟨va, hva⟩ : ∃ v, PV p = v := ⟨_, rfl⟩
    obtain ⟨okA, hokA⟩ : ∃ v, PB p = v := ⟨_, rfl⟩
    have hvr_va : Hid (-9223372036854775808 ≤ va ∧ va ≤ 9223372036854775807) := Lib.hid (by rw [← hva]; exact num_b64 p)
    have C : Hid (∀ W, Calls Tryd.prog 28 #[.string p] W fun e w' => e = .returned (.tuple #[.int .i64 va, .bool okA]) ∧ Ext W w') := Lib.hid fun W => by
      rw [← hva, ← hokA]; exact spec_ParseInt_any p W HZ.out
    have X0 : W5.cell? ⟨X, 0, none⟩ = some (.int .i64 op) := by rw [OX.cell]; rfl
    have X1 : W5.cell? ⟨X, 1, none⟩ = some (.int .i64 (0)) := by rw [OX.cell]; rfl
    have X2 : W5.cell? ⟨X, 2, none⟩ = some (.int .i64 (0)) := by rw [OX.cell]; rfl
    have X3 : W5.cell? ⟨X, 3, none⟩ = some (.string (⟨#[]⟩)) := by rw [OX.cell]; rfl
    have FX : ∀ o, W5.frozen? ⟨X, o, none⟩ = false := OX.frozen
    cases okA
    all_goals
      have HV := Lib.hid hva; clear hva
      have HOK := Lib.hid hokA; clear hokA
      go_wp2_with fail
      refine (C.out _).mono ?_
      rintro e wk ⟨rfl, hxk⟩
      have X1' : wk.cell? ⟨X, 1, none⟩ = some (.int .i64 0) := Ext.cell hxk X1
      have FX' : ∀ o, wk.frozen? ⟨X, o, none⟩ = false := (OX.ext hxk).frozen
      go_upto_region 12 with fail
      clear X1' FX' C cA
      generalize hS : World.setCell wk _ _ = v3
      have OR' : Own v3 w.heap.size 60 #[.int .i64 0, .int .i64 0, .int .i64 0, .string ⟨#[]⟩] := by rw [← hS]; exact (OR.ext hxk).other _ (by show w.heap.size ≠ X; omega) _
      have OX' : Own v3 X 60 #[.int .i64 op, .int .i64 va, .int .i64 0, .string ⟨#[]⟩] := by rw [← hS]; exact (OX.ext hxk).set _ _
      have hxw' : Ext w1 v3 := by rw [← hS]; exact Ext.setCell (hxw.trans hxk) (by omega) _
      clear hS OR OX hxw hxk X0 X1 X2 X3 FX
      have OR := OR'; have OX := OX'; have hxw := hxw'
      clear OR' OX' hxw'
    · skip
      have NOK : Hid (okNS (uA op) 1 P = false) := Lib.hid (by rw [hA.out, okNS, if_pos ⟨rfl, nA⟩, HPG.out]; exact HOK.out)
      have haa : Hid (atNS (uA op) 1 P = 2) := Lib.hid (by rw [hA.out, atNS, if_pos ⟨rfl, nA⟩])
      go_upto_region 15 with fail
      go_upto_region 17 with fail
      have NOP : Hid (¬ ∃ y, OkI s y) := Lib.hid (fun ⟨y, hy⟩ => by have h := NOY.out y hy; first | (exact absurd (h.1.symm.trans NOK.out) (by simp)) | (exact absurd (h.2.1.symm.trans NOK.out) (by simp)))
      have R0 : v3.cell? ⟨w.heap.size, 0, none⟩ = some (.int .i64 0) := by rw [OR.cell]; rfl
      have R1 : v3.cell? ⟨w.heap.size, 1, none⟩ = some (.int .i64 0) := by rw [OR.cell]; rfl
      have R2 : v3.cell? ⟨w.heap.size, 2, none⟩ = some (.int .i64 0) := by rw [OR.cell]; rfl
      have R3 : v3.cell? ⟨w.heap.size, 3, none⟩ = some (.string ⟨#[]⟩) := by rw [OR.cell]; rfl
      have F0 : ∀ o, v3.frozen? ⟨w.heap.size, o, none⟩ = false := OR.frozen
      have X0 : v3.cell? ⟨X, 0, none⟩ = some (.int .i64 op) := by rw [OX.cell]; rfl
      have X1 : v3.cell? ⟨X, 1, none⟩ = some (.int .i64 (va)) := by rw [OX.cell]; rfl
      have X2 : v3.cell? ⟨X, 2, none⟩ = some (.int .i64 (0)) := by rw [OX.cell]; rfl
      have X3 : v3.cell? ⟨X, 3, none⟩ = some (.string (⟨#[]⟩)) := by rw [OX.cell]; rfl
      have FX : ∀ o, v3.frozen? ⟨X, o, none⟩ = false := OX.frozen
      go_wp2_with fail
      refine bodyPost_ret (v := .tuple #[.agg #[.int .i64 0, .int .i64 0, .int .i64 0, .string ⟨#[]⟩], .bool false]) (by simp [results, Tryd.results29, go_sem, R0, R1, R2, R3, F0]) rfl ⟨⟨0, 0, 0, ⟨#[]⟩⟩, false, rfl, fun h => (by cases h), fun _ => ⟨rfl, NOP.out⟩, ?_⟩
      (repeat refine Ext.setCell ?_ (by omega) _)
      exact x1.trans (hx1.trans hxw)
    · skip
      have OKA : Hid (okNS (uA op) 1 P = true) := Lib.hid (by rw [hA.out, okNS, if_pos ⟨rfl, nA⟩, HPG.out]; exact HOK.out)
      have hva : Hid (vNS (uA op) 1 P = va) := Lib.hid (by rw [hA.out, vNS, if_pos ⟨rfl, nA⟩, HPG.out]; exact HV.out)
      have haa : Hid (atNS (uA op) 1 P = 2) := Lib.hid (by rw [hA.out, atNS, if_pos ⟨rfl, nA⟩])
      clear HPG HV HOK HZ
      by_cases nB : 2 < P.length
      rotate_left
      · have qB : ¬ ((2 : Nat) : Int) < (P.length : Int) := by omega
        have QB : ¬ (2 : Int) < (P.length : Int) := by omega
        have OKB : Hid (okNS (uB op) (atNS (uA op) 1 P) P = true) := Lib.hid (by rw [haa.out, okNS, if_neg (by rintro ⟨_, h⟩; omega)])
        have hvb : Hid (vNS (uB op) (atNS (uA op) 1 P) P = 0) := Lib.hid (by rw [haa.out, vNS, if_neg (by rintro ⟨_, h⟩; omega)])
        go_upto_region 15 with fail
        go_upto_region 17 with fail
        have htt : Hid (tNS (uT op) (atNS (uB op) (atNS (uA op) 1 P) P) P = ⟨#[]⟩) := Lib.hid (by rw [hT.out]; simp [tNS])
        have X0 : v3.cell? ⟨X, 0, none⟩ = some (.int .i64 op) := by rw [OX.cell]; rfl
        have X1 : v3.cell? ⟨X, 1, none⟩ = some (.int .i64 (va)) := by rw [OX.cell]; rfl
        have X2 : v3.cell? ⟨X, 2, none⟩ = some (.int .i64 (0)) := by rw [OX.cell]; rfl
        have X3 : v3.cell? ⟨X, 3, none⟩ = some (.string (⟨#[]⟩)) := by rw [OX.cell]; rfl
        have FX : ∀ o, v3.frozen? ⟨X, o, none⟩ = false := OX.frozen
        have hd := instr_d (a := va) (b := 0) (t := ⟨#[]⟩) hop hvr_va.out ⟨by omega, by omega⟩ (by decide)
        have HDB := Lib.hid hd; clear hd
        have HXS : Hid (xS s op = ⟨op, va, 0, ⟨#[]⟩⟩) := Lib.hid (by unfold xS; rw [← HP.out, hva.out, hvb.out, htt.out])
        by_cases hi : instrB ⟨op, va, 0, ⟨#[]⟩⟩ = s
        · have HI := Lib.hid hi
          have hne := str_eqn hi; clear hi
          go_wp2_with fail
          refine (spec_FormatInstr_any ⟨op, va, 0, ⟨#[]⟩⟩ [.int .i64 op, .int .i64 (va), .int .i64 (0), .string (⟨#[]⟩)] _ (instr_rep _ _ _ _ _) HDB.out.1 HDB.out.2).mono ?_
          rintro e w9 ⟨rfl, hx9⟩
          replace OR := OR.ext hx9
          replace OX := OX.ext hx9
          have hxf := hxw.trans hx9
          clear X0 X1 X2 X3 FX
          have R0 : w9.cell? ⟨w.heap.size, 0, none⟩ = some (.int .i64 0) := by rw [OR.cell]; rfl
          have R1 : w9.cell? ⟨w.heap.size, 1, none⟩ = some (.int .i64 0) := by rw [OR.cell]; rfl
          have R2 : w9.cell? ⟨w.heap.size, 2, none⟩ = some (.int .i64 0) := by rw [OR.cell]; rfl
          have R3 : w9.cell? ⟨w.heap.size, 3, none⟩ = some (.string ⟨#[]⟩) := by rw [OR.cell]; rfl
          have F0 : ∀ o, w9.frozen? ⟨w.heap.size, o, none⟩ = false := OR.frozen
          have X0 : w9.cell? ⟨X, 0, none⟩ = some (.int .i64 op) := by rw [OX.cell]; rfl
          have X1 : w9.cell? ⟨X, 1, none⟩ = some (.int .i64 (va)) := by rw [OX.cell]; rfl
          have X2 : w9.cell? ⟨X, 2, none⟩ = some (.int .i64 (0)) := by rw [OX.cell]; rfl
          have X3 : w9.cell? ⟨X, 3, none⟩ = some (.string (⟨#[]⟩)) := by rw [OX.cell]; rfl
          have FX : ∀ o, w9.frozen? ⟨X, o, none⟩ = false := OX.frozen
          go_wp2_with fail
          refine bodyPost_ret (v := .tuple #[.agg #[.int .i64 op, .int .i64 (va), .int .i64 (0), .string (⟨#[]⟩)], .bool true]) (by simp [results, Tryd.results29, go_sem, R0, R1, R2, R3, F0]) rfl ⟨⟨op, va, 0, ⟨#[]⟩⟩, true, rfl, fun _ => (by rw [← HXS.out]; exact spec_right hop (by rw [← HP.out]; exact OKA.out) (by rw [← HP.out]; exact OKB.out) (by rw [HXS.out]; exact HI.out)), fun h => (by cases h), ?_⟩
          (repeat refine Ext.setCell ?_ (by omega) _)
          exact x1.trans (hx1.trans hxf)
        · have HI := Lib.hid hi
          have hne := str_nen hi; clear hi
          go_wp2_with fail
          refine (spec_FormatInstr_any ⟨op, va, 0, ⟨#[]⟩⟩ [.int .i64 op, .int .i64 (va), .int .i64 (0), .string (⟨#[]⟩)] _ (instr_rep _ _ _ _ _) HDB.out.1 HDB.out.2).mono ?_
          rintro e w9 ⟨rfl, hx9⟩
          replace OR := OR.ext hx9
          have hxf := hxw.trans hx9
          clear X0 X1 X2 X3 FX
          have R0 : w9.cell? ⟨w.heap.size, 0, none⟩ = some (.int .i64 0) := by rw [OR.cell]; rfl
          have R1 : w9.cell? ⟨w.heap.size, 1, none⟩ = some (.int .i64 0) := by rw [OR.cell]; rfl
          have R2 : w9.cell? ⟨w.heap.size, 2, none⟩ = some (.int .i64 0) := by rw [OR.cell]; rfl
          have R3 : w9.cell? ⟨w.heap.size, 3, none⟩ = some (.string ⟨#[]⟩) := by rw [OR.cell]; rfl
          have F0 : ∀ o, w9.frozen? ⟨w.heap.size, o, none⟩ = false := OR.frozen
          go_wp2_with fail
          refine bodyPost_ret (v := .tuple #[.agg #[.int .i64 0, .int .i64 0, .int .i64 0, .string ⟨#[]⟩], .bool false]) (by simp [results, Tryd.results29, go_sem, R0, R1, R2, R3, F0]) rfl ⟨⟨0, 0, 0, ⟨#[]⟩⟩, false, rfl, fun h => (by cases h), fun _ => ⟨rfl, (fun ⟨y, hy⟩ => HI.out (by have h := NOY.out y hy; rw [← HXS.out, h.2.2]; exact hy.2.1))⟩, ?_⟩
          (repeat refine Ext.setCell ?_ (by omega) _)
          exact x1.trans (hx1.trans hxf)
      have qB : ((2 : Nat) : Int) < (P.length : Int) := by omega
      have QB : (2 : Int) < (P.length : Int) := by omega
      have cB := Ext.cell hxw (HC.out 2 nB)
      have HZ : Hid ((P.getD 2 ⟨#[]⟩).size ≤ 1048576) := Lib.hid (HPS.out _ (by rw [List.getD_eq_getElem?_getD, List.getElem?_eq_getElem nB]; exact List.getElem_mem _))
      obtain ⟨p, hp⟩ : ∃ p, P.getD 2 ⟨#[]⟩ = p := ⟨_, rfl⟩
      rw [hp] at cB HZ
      have HPG := Lib.hid hp; clear hp
      obtain ⟨vb, hvb⟩ : ∃ v, PV p = v := ⟨_, rfl⟩
      obtain ⟨okB, hokB⟩ : ∃ v, PB p = v := ⟨_, rfl⟩
      have hvr_vb : Hid (-9223372036854775808 ≤ vb ∧ vb ≤ 9223372036854775807) := Lib.hid (by rw [← hvb]; exact num_b64 p)
      have C : Hid (∀ W, Calls Tryd.prog 28 #[.string p] W fun e w' => e = .returned (.tuple #[.int .i64 vb, .bool okB]) ∧ Ext W w') := Lib.hid fun W => by
        rw [← hvb, ← hokB]; exact spec_ParseInt_any p W HZ.out
      have X0 : v3.cell? ⟨X, 0, none⟩ = some (.int .i64 op) := by rw [OX.cell]; rfl
      have X1 : v3.cell? ⟨X, 1, none⟩ = some (.int .i64 (va)) := by rw [OX.cell]; rfl
      have X2 : v3.cell? ⟨X, 2, none⟩ = some (.int .i64 (0)) := by rw [OX.cell]; rfl
      have X3 : v3.cell? ⟨X, 3, none⟩ = some (.string (⟨#[]⟩)) := by rw [OX.cell]; rfl
      have FX : ∀ o, v3.frozen? ⟨X, o, none⟩ = false := OX.frozen
      cases okB
      all_goals
        have HV := Lib.hid hvb; clear hvb
        have HOK := Lib.hid hokB; clear hokB
        go_wp2_with fail
        refine (C.out _).mono ?_
        rintro e wk ⟨rfl, hxk⟩
        have X2' : wk.cell? ⟨X, 2, none⟩ = some (.int .i64 0) := Ext.cell hxk X2
        have FX' : ∀ o, wk.frozen? ⟨X, o, none⟩ = false := (OX.ext hxk).frozen
        go_upto_region 15 with fail
        clear X2' FX' C cB
        generalize hS : World.setCell wk _ _ = v4
        have OR' : Own v4 w.heap.size 60 #[.int .i64 0, .int .i64 0, .int .i64 0, .string ⟨#[]⟩] := by rw [← hS]; exact (OR.ext hxk).other _ (by show w.heap.size ≠ X; omega) _
        have OX' : Own v4 X 60 #[.int .i64 op, .int .i64 (va), .int .i64 vb, .string ⟨#[]⟩] := by rw [← hS]; exact (OX.ext hxk).set _ _
        have hxw' : Ext w1 v4 := by rw [← hS]; exact Ext.setCell (hxw.trans hxk) (by omega) _
        clear hS OR OX hxw hxk X0 X1 X2 X3 FX
        have OR := OR'; have OX := OX'; have hxw := hxw'
        clear OR' OX' hxw'
      · skip
        have NOK : Hid (okNS (uB op) (atNS (uA op) 1 P) P = false) := Lib.hid (by rw [haa.out, hB.out, okNS, if_pos ⟨rfl, nB⟩, HPG.out]; exact HOK.out)
        go_upto_region 17 with fail
        have NOP : Hid (¬ ∃ y, OkI s y) := Lib.hid (fun ⟨y, hy⟩ => by have h := NOY.out y hy; first | (exact absurd (h.1.symm.trans NOK.out) (by simp)) | (exact absurd (h.2.1.symm.trans NOK.out) (by simp)))
        have R0 : v4.cell? ⟨w.heap.size, 0, none⟩ = some (.int .i64 0) := by rw [OR.cell]; rfl
        have R1 : v4.cell? ⟨w.heap.size, 1, none⟩ = some (.int .i64 0) := by rw [OR.cell]; rfl
        have R2 : v4.cell? ⟨w.heap.size, 2, none⟩ = some (.int .i64 0) := by rw [OR.cell]; rfl
        have R3 : v4.cell? ⟨w.heap.size, 3, none⟩ = some (.string ⟨#[]⟩) := by rw [OR.cell]; rfl
        have F0 : ∀ o, v4.frozen? ⟨w.heap.size, o, none⟩ = false := OR.frozen
        have X0 : v4.cell? ⟨X, 0, none⟩ = some (.int .i64 op) := by rw [OX.cell]; rfl
        have X1 : v4.cell? ⟨X, 1, none⟩ = some (.int .i64 (va)) := by rw [OX.cell]; rfl
        have X2 : v4.cell? ⟨X, 2, none⟩ = some (.int .i64 (vb)) := by rw [OX.cell]; rfl
        have X3 : v4.cell? ⟨X, 3, none⟩ = some (.string (⟨#[]⟩)) := by rw [OX.cell]; rfl
        have FX : ∀ o, v4.frozen? ⟨X, o, none⟩ = false := OX.frozen
        go_wp2_with fail
        refine bodyPost_ret (v := .tuple #[.agg #[.int .i64 0, .int .i64 0, .int .i64 0, .string ⟨#[]⟩], .bool false]) (by simp [results, Tryd.results29, go_sem, R0, R1, R2, R3, F0]) rfl ⟨⟨0, 0, 0, ⟨#[]⟩⟩, false, rfl, fun h => (by cases h), fun _ => ⟨rfl, NOP.out⟩, ?_⟩
        (repeat refine Ext.setCell ?_ (by omega) _)
        exact x1.trans (hx1.trans hxw)
      · skip
        have OKB : Hid (okNS (uB op) (atNS (uA op) 1 P) P = true) := Lib.hid (by rw [haa.out, hB.out, okNS, if_pos ⟨rfl, nB⟩, HPG.out]; exact HOK.out)
        have hvb : Hid (vNS (uB op) (atNS (uA op) 1 P) P = vb) := Lib.hid (by rw [haa.out, hB.out, vNS, if_pos ⟨rfl, nB⟩, HPG.out]; exact HV.out)
        go_upto_region 17 with fail
        have htt : Hid (tNS (uT op) (atNS (uB op) (atNS (uA op) 1 P) P) P = ⟨#[]⟩) := Lib.hid (by rw [hT.out]; simp [tNS])
        have X0 : v4.cell? ⟨X, 0, none⟩ = some (.int .i64 op) := by rw [OX.cell]; rfl
        have X1 : v4.cell? ⟨X, 1, none⟩ = some (.int .i64 (va)) := by rw [OX.cell]; rfl
        have X2 : v4.cell? ⟨X, 2, none⟩ = some (.int .i64 (vb)) := by rw [OX.cell]; rfl
        have X3 : v4.cell? ⟨X, 3, none⟩ = some (.string (⟨#[]⟩)) := by rw [OX.cell]; rfl
        have FX : ∀ o, v4.frozen? ⟨X, o, none⟩ = false := OX.frozen
        have hd := instr_d (a := va) (b := vb) (t := ⟨#[]⟩) hop hvr_va.out hvr_vb.out (by decide)
        have HDB := Lib.hid hd; clear hd
        have HXS : Hid (xS s op = ⟨op, va, vb, ⟨#[]⟩⟩) := Lib.hid (by unfold xS; rw [← HP.out, hva.out, hvb.out, htt.out])
        by_cases hi : instrB ⟨op, va, vb, ⟨#[]⟩⟩ = s
        · have HI := Lib.hid hi
          have hne := str_eqn hi; clear hi
          go_wp2_with fail
          refine (spec_FormatInstr_any ⟨op, va, vb, ⟨#[]⟩⟩ [.int .i64 op, .int .i64 (va), .int .i64 (vb), .string (⟨#[]⟩)] _ (instr_rep _ _ _ _ _) HDB.out.1 HDB.out.2).mono ?_
          rintro e w9 ⟨rfl, hx9⟩
          replace OR := OR.ext hx9
          replace OX := OX.ext hx9
          have hxf := hxw.trans hx9
          clear X0 X1 X2 X3 FX
          have R0 : w9.cell? ⟨w.heap.size, 0, none⟩ = some (.int .i64 0) := by rw [OR.cell]; rfl
          have R1 : w9.cell? ⟨w.heap.size, 1, none⟩ = some (.int .i64 0) := by rw [OR.cell]; rfl
          have R2 : w9.cell? ⟨w.heap.size, 2, none⟩ = some (.int .i64 0) := by rw [OR.cell]; rfl
          have R3 : w9.cell? ⟨w.heap.size, 3, none⟩ = some (.string ⟨#[]⟩) := by rw [OR.cell]; rfl
          have F0 : ∀ o, w9.frozen? ⟨w.heap.size, o, none⟩ = false := OR.frozen
          have X0 : w9.cell? ⟨X, 0, none⟩ = some (.int .i64 op) := by rw [OX.cell]; rfl
          have X1 : w9.cell? ⟨X, 1, none⟩ = some (.int .i64 (va)) := by rw [OX.cell]; rfl
          have X2 : w9.cell? ⟨X, 2, none⟩ = some (.int .i64 (vb)) := by rw [OX.cell]; rfl
          have X3 : w9.cell? ⟨X, 3, none⟩ = some (.string (⟨#[]⟩)) := by rw [OX.cell]; rfl
          have FX : ∀ o, w9.frozen? ⟨X, o, none⟩ = false := OX.frozen
          go_wp2_with fail
          refine bodyPost_ret (v := .tuple #[.agg #[.int .i64 op, .int .i64 (va), .int .i64 (vb), .string (⟨#[]⟩)], .bool true]) (by simp [results, Tryd.results29, go_sem, R0, R1, R2, R3, F0]) rfl ⟨⟨op, va, vb, ⟨#[]⟩⟩, true, rfl, fun _ => (by rw [← HXS.out]; exact spec_right hop (by rw [← HP.out]; exact OKA.out) (by rw [← HP.out]; exact OKB.out) (by rw [HXS.out]; exact HI.out)), fun h => (by cases h), ?_⟩
          (repeat refine Ext.setCell ?_ (by omega) _)
          exact x1.trans (hx1.trans hxf)
        · have HI := Lib.hid hi
          have hne := str_nen hi; clear hi
          go_wp2_with fail
          refine (spec_FormatInstr_any ⟨op, va, vb, ⟨#[]⟩⟩ [.int .i64 op, .int .i64 (va), .int .i64 (vb), .string (⟨#[]⟩)] _ (instr_rep _ _ _ _ _) HDB.out.1 HDB.out.2).mono ?_
          rintro e w9 ⟨rfl, hx9⟩
          replace OR := OR.ext hx9
          have hxf := hxw.trans hx9
          clear X0 X1 X2 X3 FX
          have R0 : w9.cell? ⟨w.heap.size, 0, none⟩ = some (.int .i64 0) := by rw [OR.cell]; rfl
          have R1 : w9.cell? ⟨w.heap.size, 1, none⟩ = some (.int .i64 0) := by rw [OR.cell]; rfl
          have R2 : w9.cell? ⟨w.heap.size, 2, none⟩ = some (.int .i64 0) := by rw [OR.cell]; rfl
          have R3 : w9.cell? ⟨w.heap.size, 3, none⟩ = some (.string ⟨#[]⟩) := by rw [OR.cell]; rfl
          have F0 : ∀ o, w9.frozen? ⟨w.heap.size, o, none⟩ = false := OR.frozen
          go_wp2_with fail
          refine bodyPost_ret (v := .tuple #[.agg #[.int .i64 0, .int .i64 0, .int .i64 0, .string ⟨#[]⟩], .bool false]) (by simp [results, Tryd.results29, go_sem, R0, R1, R2, R3, F0]) rfl ⟨⟨0, 0, 0, ⟨#[]⟩⟩, false, rfl, fun h => (by cases h), fun _ => ⟨rfl, (fun ⟨y, hy⟩ => HI.out (by have h := NOY.out y hy; rw [← HXS.out, h.2.2]; exact hy.2.1))⟩, ?_⟩
          (repeat refine Ext.setCell ?_ (by omega) _)
          exact x1.trans (hx1.trans hxf)
  · rw [hA, hB, hT]
    have hA := Lib.hid hA; have hB := Lib.hid hB; have hT := Lib.hid hT
    by_cases nA : 1 < P.length
    rotate_left
    · have qA : ¬ ((1 : Nat) : Int) < (P.length : Int) := by omega
      have QA : ¬ (1 : Int) < (P.length : Int) := by omega
      have OKA : Hid (okNS (uA op) 1 P = true) := Lib.hid (by rw [okNS, if_neg (by rintro ⟨_, h⟩; omega)])
      have hva : Hid (vNS (uA op) 1 P = 0) := Lib.hid (by rw [vNS, if_neg (by rintro ⟨_, h⟩; omega)])
      have haa : Hid (atNS (uA op) 1 P = 1) := Lib.hid (by rw [atNS, if_neg (by rintro ⟨_, h⟩; omega)])
      go_upto_region 12 with fail
      go_upto_region 15 with fail
      have OKB : Hid (okNS (uB op) (atNS (uA op) 1 P) P = true) := Lib.hid (by rw [hB.out]; simp [okNS])
      have hvb : Hid (vNS (uB op) (atNS (uA op) 1 P) P = 0) := Lib.hid (by rw [hB.out]; simp [vNS])
      have hab : Hid (atNS (uB op) (atNS (uA op) 1 P) P = 1) := Lib.hid (by rw [hB.out]; simp only [atNS, Bool.false_eq_true, false_and, if_false]; exact haa.out)
      have X0 : W5.cell? ⟨X, 0, none⟩ = some (.int .i64 op) := by rw [OX.cell]; rfl
      have X1 : W5.cell? ⟨X, 1, none⟩ = some (.int .i64 (0)) := by rw [OX.cell]; rfl
      have X2 : W5.cell? ⟨X, 2, none⟩ = some (.int .i64 (0)) := by rw [OX.cell]; rfl
      have X3 : W5.cell? ⟨X, 3, none⟩ = some (.string (⟨#[]⟩)) := by rw [OX.cell]; rfl
      have FX : ∀ o, W5.frozen? ⟨X, o, none⟩ = false := OX.frozen
      go_upto_region 17 with fail
      clear X0 X1 X2 X3 FX
      have htt : Hid (tNS (uT op) (atNS (uB op) (atNS (uA op) 1 P) P) P = ⟨#[]⟩) := Lib.hid (by rw [hT.out, hab.out, tNS, if_neg (by rintro ⟨_, h⟩; omega)])
      have X0 : W5.cell? ⟨X, 0, none⟩ = some (.int .i64 op) := by rw [OX.cell]; rfl
      have X1 : W5.cell? ⟨X, 1, none⟩ = some (.int .i64 (0)) := by rw [OX.cell]; rfl
      have X2 : W5.cell? ⟨X, 2, none⟩ = some (.int .i64 (0)) := by rw [OX.cell]; rfl
      have X3 : W5.cell? ⟨X, 3, none⟩ = some (.string (⟨#[]⟩)) := by rw [OX.cell]; rfl
      have FX : ∀ o, W5.frozen? ⟨X, o, none⟩ = false := OX.frozen
      have hd := instr_d (a := 0) (b := 0) (t := ⟨#[]⟩) hop ⟨by omega, by omega⟩ ⟨by omega, by omega⟩ (by decide)
      have HDB := Lib.hid hd; clear hd
      have HXS : Hid (xS s op = ⟨op, 0, 0, ⟨#[]⟩⟩) := Lib.hid (by unfold xS; rw [← HP.out, hva.out, hvb.out, htt.out])
      by_cases hi : instrB ⟨op, 0, 0, ⟨#[]⟩⟩ = s
      · have HI := Lib.hid hi
        have hne := str_eqn hi; clear hi
        go_wp2_with fail
        refine (spec_FormatInstr_any ⟨op, 0, 0, ⟨#[]⟩⟩ [.int .i64 op, .int .i64 (0), .int .i64 (0), .string (⟨#[]⟩)] _ (instr_rep _ _ _ _ _) HDB.out.1 HDB.out.2).mono ?_
        rintro e w9 ⟨rfl, hx9⟩
        replace OR := OR.ext hx9
        replace OX := OX.ext hx9
        have hxf := hxw.trans hx9
        clear X0 X1 X2 X3 FX
        have R0 : w9.cell? ⟨w.heap.size, 0, none⟩ = some (.int .i64 0) := by rw [OR.cell]; rfl
        have R1 : w9.cell? ⟨w.heap.size, 1, none⟩ = some (.int .i64 0) := by rw [OR.cell]; rfl
        have R2 : w9.cell? ⟨w.heap.size, 2, none⟩ = some (.int .i64 0) := by rw [OR.cell]; rfl
        have R3 : w9.cell? ⟨w.heap.size, 3, none⟩ = some (.string ⟨#[]⟩) := by rw [OR.cell]; rfl
        have F0 : ∀ o, w9.frozen? ⟨w.heap.size, o, none⟩ = false := OR.frozen
        have X0 : w9.cell? ⟨X, 0, none⟩ = some (.int .i64 op) := by rw [OX.cell]; rfl
        have X1 : w9.cell? ⟨X, 1, none⟩ = some (.int .i64 (0)) := by rw [OX.cell]; rfl
        have X2 : w9.cell? ⟨X, 2, none⟩ = some (.int .i64 (0)) := by rw [OX.cell]; rfl
        have X3 : w9.cell? ⟨X, 3, none⟩ = some (.string (⟨#[]⟩)) := by rw [OX.cell]; rfl
        have FX : ∀ o, w9.frozen? ⟨X, o, none⟩ = false := OX.frozen
        go_wp2_with fail
        refine bodyPost_ret (v := .tuple #[.agg #[.int .i64 op, .int .i64 (0), .int .i64 (0), .string (⟨#[]⟩)], .bool true]) (by simp [results, Tryd.results29, go_sem, R0, R1, R2, R3, F0]) rfl ⟨⟨op, 0, 0, ⟨#[]⟩⟩, true, rfl, fun _ => (by rw [← HXS.out]; exact spec_right hop (by rw [← HP.out]; exact OKA.out) (by rw [← HP.out]; exact OKB.out) (by rw [HXS.out]; exact HI.out)), fun h => (by cases h), ?_⟩
        (repeat refine Ext.setCell ?_ (by omega) _)
        exact x1.trans (hx1.trans hxf)
      · have HI := Lib.hid hi
        have hne := str_nen hi; clear hi
        go_wp2_with fail
        refine (spec_FormatInstr_any ⟨op, 0, 0, ⟨#[]⟩⟩ [.int .i64 op, .int .i64 (0), .int .i64 (0), .string (⟨#[]⟩)] _ (instr_rep _ _ _ _ _) HDB.out.1 HDB.out.2).mono ?_
        rintro e w9 ⟨rfl, hx9⟩
        replace OR := OR.ext hx9
        have hxf := hxw.trans hx9
        clear X0 X1 X2 X3 FX
        have R0 : w9.cell? ⟨w.heap.size, 0, none⟩ = some (.int .i64 0) := by rw [OR.cell]; rfl
        have R1 : w9.cell? ⟨w.heap.size, 1, none⟩ = some (.int .i64 0) := by rw [OR.cell]; rfl
        have R2 : w9.cell? ⟨w.heap.size, 2, none⟩ = some (.int .i64 0) := by rw [OR.cell]; rfl
        have R3 : w9.cell? ⟨w.heap.size, 3, none⟩ = some (.string ⟨#[]⟩) := by rw [OR.cell]; rfl
        have F0 : ∀ o, w9.frozen? ⟨w.heap.size, o, none⟩ = false := OR.frozen
        go_wp2_with fail
        refine bodyPost_ret (v := .tuple #[.agg #[.int .i64 0, .int .i64 0, .int .i64 0, .string ⟨#[]⟩], .bool false]) (by simp [results, Tryd.results29, go_sem, R0, R1, R2, R3, F0]) rfl ⟨⟨0, 0, 0, ⟨#[]⟩⟩, false, rfl, fun h => (by cases h), fun _ => ⟨rfl, (fun ⟨y, hy⟩ => HI.out (by have h := NOY.out y hy; rw [← HXS.out, h.2.2]; exact hy.2.1))⟩, ?_⟩
        (repeat refine Ext.setCell ?_ (by omega) _)
        exact x1.trans (hx1.trans hxf)
    have qA : ((1 : Nat) : Int) < (P.length : Int) := by omega
    have QA : (1 : Int) < (P.length : Int) := by omega
    have cA := Ext.cell hxw (HC.out 1 nA)
    have HZ : Hid ((P.getD 1 ⟨#[]⟩).size ≤ 1048576) := Lib.hid (HPS.out _ (by rw [List.getD_eq_getElem?_getD, List.getElem?_eq_getElem nA]; exact List.getElem_mem _))
    obtain ⟨p, hp⟩ : ∃ p, P.getD 1 ⟨#[]⟩ = p := ⟨_, rfl⟩
    rw [hp] at cA HZ
    have HPG := Lib.hid hp; clear hp
    obtain ⟨va, hva⟩ : ∃ v, PV p = v := ⟨_, rfl⟩
    obtain ⟨okA, hokA⟩ : ∃ v, PB p = v := ⟨_, rfl⟩
    have hvr_va : Hid (-9223372036854775808 ≤ va ∧ va ≤ 9223372036854775807) := Lib.hid (by rw [← hva]; exact num_b64 p)
    have C : Hid (∀ W, Calls Tryd.prog 28 #[.string p] W fun e w' => e = .returned (.tuple #[.int .i64 va, .bool okA]) ∧ Ext W w') := Lib.hid fun W => by
      rw [← hva, ← hokA]; exact spec_ParseInt_any p W HZ.out
    have X0 : W5.cell? ⟨X, 0, none⟩ = some (.int .i64 op) := by rw [OX.cell]; rfl
    have X1 : W5.cell? ⟨X, 1, none⟩ = some (.int .i64 (0)) := by rw [OX.cell]; rfl
    have X2 : W5.cell? ⟨X, 2, none⟩ = some (.int .i64 (0)) := by rw [OX.cell]; rfl
    have X3 : W5.cell? ⟨X, 3, none⟩ = some (.string (⟨#[]⟩)) := by rw [OX.cell]; rfl
    have FX : ∀ o, W5.frozen? ⟨X, o, none⟩ = false := OX.frozen
    cases okA
    all_goals
      have HV := Lib.hid hva; clear hva
      have HOK := Lib.hid hokA; clear hokA
      go_wp2_with fail
      refine (C.out _).mono ?_
      rintro e wk ⟨rfl, hxk⟩
      have X1' : wk.cell? ⟨X, 1, none⟩ = some (.int .i64 0) := Ext.cell hxk X1
      have FX' : ∀ o, wk.frozen? ⟨X, o, none⟩ = false := (OX.ext hxk).frozen
      go_upto_region 12 with fail
      clear X1' FX' C cA
      generalize hS : World.setCell wk _ _ = v6
      have OR' : Own v6 w.heap.size 60 #[.int .i64 0, .int .i64 0, .int .i64 0, .string ⟨#[]⟩] := by rw [← hS]; exact (OR.ext hxk).other _ (by show w.heap.size ≠ X; omega) _
      have OX' : Own v6 X 60 #[.int .i64 op, .int .i64 va, .int .i64 0, .string ⟨#[]⟩] := by rw [← hS]; exact (OX.ext hxk).set _ _
      have hxw' : Ext w1 v6 := by rw [← hS]; exact Ext.setCell (hxw.trans hxk) (by omega) _
      clear hS OR OX hxw hxk X0 X1 X2 X3 FX
      have OR := OR'; have OX := OX'; have hxw := hxw'
      clear OR' OX' hxw'
    · skip
      have NOK : Hid (okNS (uA op) 1 P = false) := Lib.hid (by rw [hA.out, okNS, if_pos ⟨rfl, nA⟩, HPG.out]; exact HOK.out)
      have haa : Hid (atNS (uA op) 1 P = 2) := Lib.hid (by rw [hA.out, atNS, if_pos ⟨rfl, nA⟩])
      go_upto_region 15 with fail
      have OKB : Hid (okNS (uB op) (atNS (uA op) 1 P) P = true) := Lib.hid (by rw [hB.out]; simp [okNS])
      have hvb : Hid (vNS (uB op) (atNS (uA op) 1 P) P = 0) := Lib.hid (by rw [hB.out]; simp [vNS])
      have hab : Hid (atNS (uB op) (atNS (uA op) 1 P) P = 2) := Lib.hid (by rw [hB.out]; simp only [atNS, Bool.false_eq_true, false_and, if_false]; exact haa.out)
      by_cases nT : 2 < P.length
      rotate_left
      · have qT : ¬ ((2 : Nat) : Int) < (P.length : Int) := by omega
        have QT : ¬ (2 : Int) < (P.length : Int) := by omega
        have X0 : v6.cell? ⟨X, 0, none⟩ = some (.int .i64 op) := by rw [OX.cell]; rfl
        have X1 : v6.cell? ⟨X, 1, none⟩ = some (.int .i64 (va)) := by rw [OX.cell]; rfl
        have X2 : v6.cell? ⟨X, 2, none⟩ = some (.int .i64 (0)) := by rw [OX.cell]; rfl
        have X3 : v6.cell? ⟨X, 3, none⟩ = some (.string (⟨#[]⟩)) := by rw [OX.cell]; rfl
        have FX : ∀ o, v6.frozen? ⟨X, o, none⟩ = false := OX.frozen
        go_upto_region 17 with fail
        clear X0 X1 X2 X3 FX
        have NOP : Hid (¬ ∃ y, OkI s y) := Lib.hid (fun ⟨y, hy⟩ => by have h := NOY.out y hy; first | (exact absurd (h.1.symm.trans NOK.out) (by simp)) | (exact absurd (h.2.1.symm.trans NOK.out) (by simp)))
        have R0 : v6.cell? ⟨w.heap.size, 0, none⟩ = some (.int .i64 0) := by rw [OR.cell]; rfl
        have R1 : v6.cell? ⟨w.heap.size, 1, none⟩ = some (.int .i64 0) := by rw [OR.cell]; rfl
        have R2 : v6.cell? ⟨w.heap.size, 2, none⟩ = some (.int .i64 0) := by rw [OR.cell]; rfl
        have R3 : v6.cell? ⟨w.heap.size, 3, none⟩ = some (.string ⟨#[]⟩) := by rw [OR.cell]; rfl
        have F0 : ∀ o, v6.frozen? ⟨w.heap.size, o, none⟩ = false := OR.frozen
        have X0 : v6.cell? ⟨X, 0, none⟩ = some (.int .i64 op) := by rw [OX.cell]; rfl
        have X1 : v6.cell? ⟨X, 1, none⟩ = some (.int .i64 (va)) := by rw [OX.cell]; rfl
        have X2 : v6.cell? ⟨X, 2, none⟩ = some (.int .i64 (0)) := by rw [OX.cell]; rfl
        have X3 : v6.cell? ⟨X, 3, none⟩ = some (.string (⟨#[]⟩)) := by rw [OX.cell]; rfl
        have FX : ∀ o, v6.frozen? ⟨X, o, none⟩ = false := OX.frozen
        go_wp2_with fail
        refine bodyPost_ret (v := .tuple #[.agg #[.int .i64 0, .int .i64 0, .int .i64 0, .string ⟨#[]⟩], .bool false]) (by simp [results, Tryd.results29, go_sem, R0, R1, R2, R3, F0]) rfl ⟨⟨0, 0, 0, ⟨#[]⟩⟩, false, rfl, fun h => (by cases h), fun _ => ⟨rfl, NOP.out⟩, ?_⟩
        (repeat refine Ext.setCell ?_ (by omega) _)
        exact x1.trans (hx1.trans hxw)
      have qT : ((2 : Nat) : Int) < (P.length : Int) := by omega
      have QT : (2 : Int) < (P.length : Int) := by omega
      have qT2 : (2 : Int) ≤ (P.length : Int) := by omega
      have X0 : v6.cell? ⟨X, 0, none⟩ = some (.int .i64 op) := by rw [OX.cell]; rfl
      have X1 : v6.cell? ⟨X, 1, none⟩ = some (.int .i64 (va)) := by rw [OX.cell]; rfl
      have X2 : v6.cell? ⟨X, 2, none⟩ = some (.int .i64 (0)) := by rw [OX.cell]; rfl
      have X3 : v6.cell? ⟨X, 3, none⟩ = some (.string (⟨#[]⟩)) := by rw [OX.cell]; rfl
      have FX : ∀ o, v6.frozen? ⟨X, o, none⟩ = false := OX.frozen
      have RD : Hid (Rep v6 (strs (P.drop 2)) [.slice (some ⟨ba, oa + 2, none⟩) (P.length - 2) (cap - 2)]) := Lib.hid (rep_drop (Rep.ext hxw RP.out) 2 nT)
      have HSZ : Hid (∀ x, x ∈ P.drop 2 → x.size ≤ 1048576) := Lib.hid fun x hx => HPS.out x (List.mem_of_mem_drop hx)
      obtain ⟨J, hJ⟩ : ∃ J, joinB (P.drop 2) ⟨#[32]⟩ = J := ⟨_, rfl⟩
      have HJ := Lib.hid hJ; clear hJ
      have HJZ : Hid (J.size ≤ 1048576) := Lib.hid (by rw [← HJ.out]; exact joinB_le _ _)
      have CJ : Hid (∀ va, Rep v6 (strs (P.drop 2)) [va] → Calls Tryd.prog 59 #[va, .string ⟨#[32]⟩] v6 fun e w' => e = .returned (.string J) ∧ Ext v6 w') := Lib.hid fun va h => by
        rw [← HJ.out]; exact spec_Join_any (P.drop 2) ⟨#[32]⟩ va v6 h (by decide) HSZ.out
      go_wp2_with fail
      refine (CJ.out _ RD.out).mono ?_
      rintro e wk ⟨rfl, hxk⟩
      have X3' : wk.cell? ⟨X, 3, none⟩ = some (.string ⟨#[]⟩) := Ext.cell hxk X3
      have FX' : ∀ o, wk.frozen? ⟨X, o, none⟩ = false := (OX.ext hxk).frozen
      go_upto_region 17 with fail
      clear X3' FX' RD CJ
      generalize hS : World.setCell wk _ _ = v7
      have OR' : Own v7 w.heap.size 60 #[.int .i64 0, .int .i64 0, .int .i64 0, .string ⟨#[]⟩] := by rw [← hS]; exact (OR.ext hxk).other _ (by show w.heap.size ≠ X; omega) _
      have OX' : Own v7 X 60 #[.int .i64 op, .int .i64 (va), .int .i64 (0), .string J] := by rw [← hS]; exact (OX.ext hxk).set _ _
      have hxw' : Ext w1 v7 := by rw [← hS]; exact Ext.setCell (hxw.trans hxk) (by omega) _
      clear hS OR OX hxw hxk X0 X1 X2 X3 FX
      have OR := OR'; have OX := OX'; have hxw := hxw'
      clear OR' OX' hxw'
      have NOP : Hid (¬ ∃ y, OkI s y) := Lib.hid (fun ⟨y, hy⟩ => by have h := NOY.out y hy; first | (exact absurd (h.1.symm.trans NOK.out) (by simp)) | (exact absurd (h.2.1.symm.trans NOK.out) (by simp)))
      have R0 : v7.cell? ⟨w.heap.size, 0, none⟩ = some (.int .i64 0) := by rw [OR.cell]; rfl
      have R1 : v7.cell? ⟨w.heap.size, 1, none⟩ = some (.int .i64 0) := by rw [OR.cell]; rfl
      have R2 : v7.cell? ⟨w.heap.size, 2, none⟩ = some (.int .i64 0) := by rw [OR.cell]; rfl
      have R3 : v7.cell? ⟨w.heap.size, 3, none⟩ = some (.string ⟨#[]⟩) := by rw [OR.cell]; rfl
      have F0 : ∀ o, v7.frozen? ⟨w.heap.size, o, none⟩ = false := OR.frozen
      have X0 : v7.cell? ⟨X, 0, none⟩ = some (.int .i64 op) := by rw [OX.cell]; rfl
      have X1 : v7.cell? ⟨X, 1, none⟩ = some (.int .i64 (va)) := by rw [OX.cell]; rfl
      have X2 : v7.cell? ⟨X, 2, none⟩ = some (.int .i64 (0)) := by rw [OX.cell]; rfl
      have X3 : v7.cell? ⟨X, 3, none⟩ = some (.string (J)) := by rw [OX.cell]; rfl
      have FX : ∀ o, v7.frozen? ⟨X, o, none⟩ = false := OX.frozen
      go_wp2_with fail
      refine bodyPost_ret (v := .tuple #[.agg #[.int .i64 0, .int .i64 0, .int .i64 0, .string ⟨#[]⟩], .bool false]) (by simp [results, Tryd.results29, go_sem, R0, R1, R2, R3, F0]) rfl ⟨⟨0, 0, 0, ⟨#[]⟩⟩, false, rfl, fun h => (by cases h), fun _ => ⟨rfl, NOP.out⟩, ?_⟩
      (repeat refine Ext.setCell ?_ (by omega) _)
      exact x1.trans (hx1.trans hxw)
    · skip
      have OKA : Hid (okNS (uA op) 1 P = true) := Lib.hid (by rw [hA.out, okNS, if_pos ⟨rfl, nA⟩, HPG.out]; exact HOK.out)
      have hva : Hid (vNS (uA op) 1 P = va) := Lib.hid (by rw [hA.out, vNS, if_pos ⟨rfl, nA⟩, HPG.out]; exact HV.out)
      have haa : Hid (atNS (uA op) 1 P = 2) := Lib.hid (by rw [hA.out, atNS, if_pos ⟨rfl, nA⟩])
      clear HPG HV HOK HZ
      go_upto_region 15 with fail
      have OKB : Hid (okNS (uB op) (atNS (uA op) 1 P) P = true) := Lib.hid (by rw [hB.out]; simp [okNS])
      have hvb : Hid (vNS (uB op) (atNS (uA op) 1 P) P = 0) := Lib.hid (by rw [hB.out]; simp [vNS])
      have hab : Hid (atNS (uB op) (atNS (uA op) 1 P) P = 2) := Lib.hid (by rw [hB.out]; simp only [atNS, Bool.false_eq_true, false_and, if_false]; exact haa.out)
      by_cases nT : 2 < P.length
      rotate_left
      · have qT : ¬ ((2 : Nat) : Int) < (P.length : Int) := by omega
        have QT : ¬ (2 : Int) < (P.length : Int) := by omega
        have X0 : v6.cell? ⟨X, 0, none⟩ = some (.int .i64 op) := by rw [OX.cell]; rfl
        have X1 : v6.cell? ⟨X, 1, none⟩ = some (.int .i64 (va)) := by rw [OX.cell]; rfl
        have X2 : v6.cell? ⟨X, 2, none⟩ = some (.int .i64 (0)) := by rw [OX.cell]; rfl
        have X3 : v6.cell? ⟨X, 3, none⟩ = some (.string (⟨#[]⟩)) := by rw [OX.cell]; rfl
        have FX : ∀ o, v6.frozen? ⟨X, o, none⟩ = false := OX.frozen
        go_upto_region 17 with fail
        clear X0 X1 X2 X3 FX
        have htt : Hid (tNS (uT op) (atNS (uB op) (atNS (uA op) 1 P) P) P = ⟨#[]⟩) := Lib.hid (by rw [hT.out, hab.out, tNS, if_neg (by rintro ⟨_, h⟩; omega)])
        have X0 : v6.cell? ⟨X, 0, none⟩ = some (.int .i64 op) := by rw [OX.cell]; rfl
        have X1 : v6.cell? ⟨X, 1, none⟩ = some (.int .i64 (va)) := by rw [OX.cell]; rfl
        have X2 : v6.cell? ⟨X, 2, none⟩ = some (.int .i64 (0)) := by rw [OX.cell]; rfl
        have X3 : v6.cell? ⟨X, 3, none⟩ = some (.string (⟨#[]⟩)) := by rw [OX.cell]; rfl
        have FX : ∀ o, v6.frozen? ⟨X, o, none⟩ = false := OX.frozen
        have hd := instr_d (a := va) (b := 0) (t := ⟨#[]⟩) hop hvr_va.out ⟨by omega, by omega⟩ (by decide)
        have HDB := Lib.hid hd; clear hd
        have HXS : Hid (xS s op = ⟨op, va, 0, ⟨#[]⟩⟩) := Lib.hid (by unfold xS; rw [← HP.out, hva.out, hvb.out, htt.out])
        by_cases hi : instrB ⟨op, va, 0, ⟨#[]⟩⟩ = s
        · have HI := Lib.hid hi
          have hne := str_eqn hi; clear hi
          go_wp2_with fail
          refine (spec_FormatInstr_any ⟨op, va, 0, ⟨#[]⟩⟩ [.int .i64 op, .int .i64 (va), .int .i64 (0), .string (⟨#[]⟩)] _ (instr_rep _ _ _ _ _) HDB.out.1 HDB.out.2).mono ?_
          rintro e w9 ⟨rfl, hx9⟩
          replace OR := OR.ext hx9
          replace OX := OX.ext hx9
          have hxf := hxw.trans hx9
          clear X0 X1 X2 X3 FX
          have R0 : w9.cell? ⟨w.heap.size, 0, none⟩ = some (.int .i64 0) := by rw [OR.cell]; rfl
          have R1 : w9.cell? ⟨w.heap.size, 1, none⟩ = some (.int .i64 0) := by rw [OR.cell]; rfl
          have R2 : w9.cell? ⟨w.heap.size, 2, none⟩ = some (.int .i64 0) := by rw [OR.cell]; rfl
          have R3 : w9.cell? ⟨w.heap.size, 3, none⟩ = some (.string ⟨#[]⟩) := by rw [OR.cell]; rfl
          have F0 : ∀ o, w9.frozen? ⟨w.heap.size, o, none⟩ = false := OR.frozen
          have X0 : w9.cell? ⟨X, 0, none⟩ = some (.int .i64 op) := by rw [OX.cell]; rfl
          have X1 : w9.cell? ⟨X, 1, none⟩ = some (.int .i64 (va)) := by rw [OX.cell]; rfl
          have X2 : w9.cell? ⟨X, 2, none⟩ = some (.int .i64 (0)) := by rw [OX.cell]; rfl
          have X3 : w9.cell? ⟨X, 3, none⟩ = some (.string (⟨#[]⟩)) := by rw [OX.cell]; rfl
          have FX : ∀ o, w9.frozen? ⟨X, o, none⟩ = false := OX.frozen
          go_wp2_with fail
          refine bodyPost_ret (v := .tuple #[.agg #[.int .i64 op, .int .i64 (va), .int .i64 (0), .string (⟨#[]⟩)], .bool true]) (by simp [results, Tryd.results29, go_sem, R0, R1, R2, R3, F0]) rfl ⟨⟨op, va, 0, ⟨#[]⟩⟩, true, rfl, fun _ => (by rw [← HXS.out]; exact spec_right hop (by rw [← HP.out]; exact OKA.out) (by rw [← HP.out]; exact OKB.out) (by rw [HXS.out]; exact HI.out)), fun h => (by cases h), ?_⟩
          (repeat refine Ext.setCell ?_ (by omega) _)
          exact x1.trans (hx1.trans hxf)
        · have HI := Lib.hid hi
          have hne := str_nen hi; clear hi
          go_wp2_with fail
          refine (spec_FormatInstr_any ⟨op, va, 0, ⟨#[]⟩⟩ [.int .i64 op, .int .i64 (va), .int .i64 (0), .string (⟨#[]⟩)] _ (instr_rep _ _ _ _ _) HDB.out.1 HDB.out.2).mono ?_
          rintro e w9 ⟨rfl, hx9⟩
          replace OR := OR.ext hx9
          have hxf := hxw.trans hx9
          clear X0 X1 X2 X3 FX
          have R0 : w9.cell? ⟨w.heap.size, 0, none⟩ = some (.int .i64 0) := by rw [OR.cell]; rfl
          have R1 : w9.cell? ⟨w.heap.size, 1, none⟩ = some (.int .i64 0) := by rw [OR.cell]; rfl
          have R2 : w9.cell? ⟨w.heap.size, 2, none⟩ = some (.int .i64 0) := by rw [OR.cell]; rfl
          have R3 : w9.cell? ⟨w.heap.size, 3, none⟩ = some (.string ⟨#[]⟩) := by rw [OR.cell]; rfl
          have F0 : ∀ o, w9.frozen? ⟨w.heap.size, o, none⟩ = false := OR.frozen
          go_wp2_with fail
          refine bodyPost_ret (v := .tuple #[.agg #[.int .i64 0, .int .i64 0, .int .i64 0, .string ⟨#[]⟩], .bool false]) (by simp [results, Tryd.results29, go_sem, R0, R1, R2, R3, F0]) rfl ⟨⟨0, 0, 0, ⟨#[]⟩⟩, false, rfl, fun h => (by cases h), fun _ => ⟨rfl, (fun ⟨y, hy⟩ => HI.out (by have h := NOY.out y hy; rw [← HXS.out, h.2.2]; exact hy.2.1))⟩, ?_⟩
          (repeat refine Ext.setCell ?_ (by omega) _)
          exact x1.trans (hx1.trans hxf)
      have qT : ((2 : Nat) : Int) < (P.length : Int) := by omega
      have QT : (2 : Int) < (P.length : Int) := by omega
      have qT2 : (2 : Int) ≤ (P.length : Int) := by omega
      have X0 : v6.cell? ⟨X, 0, none⟩ = some (.int .i64 op) := by rw [OX.cell]; rfl
      have X1 : v6.cell? ⟨X, 1, none⟩ = some (.int .i64 (va)) := by rw [OX.cell]; rfl
      have X2 : v6.cell? ⟨X, 2, none⟩ = some (.int .i64 (0)) := by rw [OX.cell]; rfl
      have X3 : v6.cell? ⟨X, 3, none⟩ = some (.string (⟨#[]⟩)) := by rw [OX.cell]; rfl
      have FX : ∀ o, v6.frozen? ⟨X, o, none⟩ = false := OX.frozen
      have RD : Hid (Rep v6 (strs (P.drop 2)) [.slice (some ⟨ba, oa + 2, none⟩) (P.length - 2) (cap - 2)]) := Lib.hid (rep_drop (Rep.ext hxw RP.out) 2 nT)
      have HSZ : Hid (∀ x, x ∈ P.drop 2 → x.size ≤ 1048576) := Lib.hid fun x hx => HPS.out x (List.mem_of_mem_drop hx)
      obtain ⟨J, hJ⟩ : ∃ J, joinB (P.drop 2) ⟨#[32]⟩ = J := ⟨_, rfl⟩
      have HJ := Lib.hid hJ; clear hJ
      have HJZ : Hid (J.size ≤ 1048576) := Lib.hid (by rw [← HJ.out]; exact joinB_le _ _)
      have CJ : Hid (∀ va, Rep v6 (strs (P.drop 2)) [va] → Calls Tryd.prog 59 #[va, .string ⟨#[32]⟩] v6 fun e w' => e = .returned (.string J) ∧ Ext v6 w') := Lib.hid fun va h => by
        rw [← HJ.out]; exact spec_Join_any (P.drop 2) ⟨#[32]⟩ va v6 h (by decide) HSZ.out
      go_wp2_with fail
      refine (CJ.out _ RD.out).mono ?_
      rintro e wk ⟨rfl, hxk⟩
      have X3' : wk.cell? ⟨X, 3, none⟩ = some (.string ⟨#[]⟩) := Ext.cell hxk X3
      have FX' : ∀ o, wk.frozen? ⟨X, o, none⟩ = false := (OX.ext hxk).frozen
      go_upto_region 17 with fail
      clear X3' FX' RD CJ
      generalize hS : World.setCell wk _ _ = v8
      have OR' : Own v8 w.heap.size 60 #[.int .i64 0, .int .i64 0, .int .i64 0, .string ⟨#[]⟩] := by rw [← hS]; exact (OR.ext hxk).other _ (by show w.heap.size ≠ X; omega) _
      have OX' : Own v8 X 60 #[.int .i64 op, .int .i64 (va), .int .i64 (0), .string J] := by rw [← hS]; exact (OX.ext hxk).set _ _
      have hxw' : Ext w1 v8 := by rw [← hS]; exact Ext.setCell (hxw.trans hxk) (by omega) _
      clear hS OR OX hxw hxk X0 X1 X2 X3 FX
      have OR := OR'; have OX := OX'; have hxw := hxw'
      clear OR' OX' hxw'
      have htt : Hid (tNS (uT op) (atNS (uB op) (atNS (uA op) 1 P) P) P = J) := Lib.hid (by rw [hT.out, hab.out, tNS, if_pos ⟨rfl, nT⟩, HJ.out])
      have X0 : v8.cell? ⟨X, 0, none⟩ = some (.int .i64 op) := by rw [OX.cell]; rfl
      have X1 : v8.cell? ⟨X, 1, none⟩ = some (.int .i64 (va)) := by rw [OX.cell]; rfl
      have X2 : v8.cell? ⟨X, 2, none⟩ = some (.int .i64 (0)) := by rw [OX.cell]; rfl
      have X3 : v8.cell? ⟨X, 3, none⟩ = some (.string (J)) := by rw [OX.cell]; rfl
      have FX : ∀ o, v8.frozen? ⟨X, o, none⟩ = false := OX.frozen
      have hd := instr_d (a := va) (b := 0) (t := J) hop hvr_va.out ⟨by omega, by omega⟩ HJZ.out
      have HDB := Lib.hid hd; clear hd
      have HXS : Hid (xS s op = ⟨op, va, 0, J⟩) := Lib.hid (by unfold xS; rw [← HP.out, hva.out, hvb.out, htt.out])
      by_cases hi : instrB ⟨op, va, 0, J⟩ = s
      · have HI := Lib.hid hi
        have hne := str_eqn hi; clear hi
        go_wp2_with fail
        refine (spec_FormatInstr_any ⟨op, va, 0, J⟩ [.int .i64 op, .int .i64 (va), .int .i64 (0), .string (J)] _ (instr_rep _ _ _ _ _) HDB.out.1 HDB.out.2).mono ?_
        rintro e w9 ⟨rfl, hx9⟩
        replace OR := OR.ext hx9
        replace OX := OX.ext hx9
        have hxf := hxw.trans hx9
        clear X0 X1 X2 X3 FX
        have R0 : w9.cell? ⟨w.heap.size, 0, none⟩ = some (.int .i64 0) := by rw [OR.cell]; rfl
        have R1 : w9.cell? ⟨w.heap.size, 1, none⟩ = some (.int .i64 0) := by rw [OR.cell]; rfl
        have R2 : w9.cell? ⟨w.heap.size, 2, none⟩ = some (.int .i64 0) := by rw [OR.cell]; rfl
        have R3 : w9.cell? ⟨w.heap.size, 3, none⟩ = some (.string ⟨#[]⟩) := by rw [OR.cell]; rfl
        have F0 : ∀ o, w9.frozen? ⟨w.heap.size, o, none⟩ = false := OR.frozen
        have X0 : w9.cell? ⟨X, 0, none⟩ = some (.int .i64 op) := by rw [OX.cell]; rfl
        have X1 : w9.cell? ⟨X, 1, none⟩ = some (.int .i64 (va)) := by rw [OX.cell]; rfl
        have X2 : w9.cell? ⟨X, 2, none⟩ = some (.int .i64 (0)) := by rw [OX.cell]; rfl
        have X3 : w9.cell? ⟨X, 3, none⟩ = some (.string (J)) := by rw [OX.cell]; rfl
        have FX : ∀ o, w9.frozen? ⟨X, o, none⟩ = false := OX.frozen
        go_wp2_with fail
        refine bodyPost_ret (v := .tuple #[.agg #[.int .i64 op, .int .i64 (va), .int .i64 (0), .string (J)], .bool true]) (by simp [results, Tryd.results29, go_sem, R0, R1, R2, R3, F0]) rfl ⟨⟨op, va, 0, J⟩, true, rfl, fun _ => (by rw [← HXS.out]; exact spec_right hop (by rw [← HP.out]; exact OKA.out) (by rw [← HP.out]; exact OKB.out) (by rw [HXS.out]; exact HI.out)), fun h => (by cases h), ?_⟩
        (repeat refine Ext.setCell ?_ (by omega) _)
        exact x1.trans (hx1.trans hxf)
      · have HI := Lib.hid hi
        have hne := str_nen hi; clear hi
        go_wp2_with fail
        refine (spec_FormatInstr_any ⟨op, va, 0, J⟩ [.int .i64 op, .int .i64 (va), .int .i64 (0), .string (J)] _ (instr_rep _ _ _ _ _) HDB.out.1 HDB.out.2).mono ?_
        rintro e w9 ⟨rfl, hx9⟩
        replace OR := OR.ext hx9
        have hxf := hxw.trans hx9
        clear X0 X1 X2 X3 FX
        have R0 : w9.cell? ⟨w.heap.size, 0, none⟩ = some (.int .i64 0) := by rw [OR.cell]; rfl
        have R1 : w9.cell? ⟨w.heap.size, 1, none⟩ = some (.int .i64 0) := by rw [OR.cell]; rfl
        have R2 : w9.cell? ⟨w.heap.size, 2, none⟩ = some (.int .i64 0) := by rw [OR.cell]; rfl
        have R3 : w9.cell? ⟨w.heap.size, 3, none⟩ = some (.string ⟨#[]⟩) := by rw [OR.cell]; rfl
        have F0 : ∀ o, w9.frozen? ⟨w.heap.size, o, none⟩ = false := OR.frozen
        go_wp2_with fail
        refine bodyPost_ret (v := .tuple #[.agg #[.int .i64 0, .int .i64 0, .int .i64 0, .string ⟨#[]⟩], .bool false]) (by simp [results, Tryd.results29, go_sem, R0, R1, R2, R3, F0]) rfl ⟨⟨0, 0, 0, ⟨#[]⟩⟩, false, rfl, fun h => (by cases h), fun _ => ⟨rfl, (fun ⟨y, hy⟩ => HI.out (by have h := NOY.out y hy; rw [← HXS.out, h.2.2]; exact hy.2.1))⟩, ?_⟩
        (repeat refine Ext.setCell ?_ (by omega) _)
        exact x1.trans (hx1.trans hxf)
  · rw [hA, hB, hT]
    have hA := Lib.hid hA; have hB := Lib.hid hB; have hT := Lib.hid hT
    have OKA : Hid (okNS (uA op) 1 P = true) := Lib.hid (by rw [hA.out]; simp [okNS])
    have hva : Hid (vNS (uA op) 1 P = 0) := Lib.hid (by rw [hA.out]; simp [vNS])
    have haa : Hid (atNS (uA op) 1 P = 1) := Lib.hid (by rw [hA.out]; simp [atNS])
    go_upto_region 12 with fail
    by_cases nB : 1 < P.length
    rotate_left
    · have qB : ¬ ((1 : Nat) : Int) < (P.length : Int) := by omega
      have QB : ¬ (1 : Int) < (P.length : Int) := by omega
      have OKB : Hid (okNS (uB op) (atNS (uA op) 1 P) P = true) := Lib.hid (by rw [haa.out, okNS, if_neg (by rintro ⟨_, h⟩; omega)])
      have hvb : Hid (vNS (uB op) (atNS (uA op) 1 P) P = 0) := Lib.hid (by rw [haa.out, vNS, if_neg (by rintro ⟨_, h⟩; omega)])
      go_upto_region 15 with fail
      go_upto_region 17 with fail
      have htt : Hid (tNS (uT op) (atNS (uB op) (atNS (uA op) 1 P) P) P = ⟨#[]⟩) := Lib.hid (by rw [hT.out]; simp [tNS])
      have X0 : W5.cell? ⟨X, 0, none⟩ = some (.int .i64 op) := by rw [OX.cell]; rfl
      have X1 : W5.cell? ⟨X, 1, none⟩ = some (.int .i64 (0)) := by rw [OX.cell]; rfl
      have X2 : W5.cell? ⟨X, 2, none⟩ = some (.int .i64 (0)) := by rw [OX.cell]; rfl
      have X3 : W5.cell? ⟨X, 3, none⟩ = some (.string (⟨#[]⟩)) := by rw [OX.cell]; rfl
      have FX : ∀ o, W5.frozen? ⟨X, o, none⟩ = false := OX.frozen
      have hd := instr_d (a := 0) (b := 0) (t := ⟨#[]⟩) hop ⟨by omega, by omega⟩ ⟨by omega, by omega⟩ (by decide)
      have HDB := Lib.hid hd; clear hd
      have HXS : Hid (xS s op = ⟨op, 0, 0, ⟨#[]⟩⟩) := Lib.hid (by unfold xS; rw [← HP.out, hva.out, hvb.out, htt.out])
      by_cases hi : instrB ⟨op, 0, 0, ⟨#[]⟩⟩ = s
      · have HI := Lib.hid hi
        have hne := str_eqn hi; clear hi
        go_wp2_with fail
        refine (spec_FormatInstr_any ⟨op, 0, 0, ⟨#[]⟩⟩ [.int .i64 op, .int .i64 (0), .int .i64 (0), .string (⟨#[]⟩)] _ (instr_rep _ _ _ _ _) HDB.out.1 HDB.out.2).mono ?_
        rintro e w9 ⟨rfl, hx9⟩
        replace OR := OR.ext hx9
        replace OX := OX.ext hx9
        have hxf := hxw.trans hx9
        clear X0 X1 X2 X3 FX
        have R0 : w9.cell? ⟨w.heap.size, 0, none⟩ = some (.int .i64 0) := by rw [OR.cell]; rfl
        have R1 : w9.cell? ⟨w.heap.size, 1, none⟩ = some (.int .i64 0) := by rw [OR.cell]; rfl
        have R2 : w9.cell? ⟨w.heap.size, 2, none⟩ = some (.int .i64 0) := by rw [OR.cell]; rfl
        have R3 : w9.cell? ⟨w.heap.size, 3, none⟩ = some (.string ⟨#[]⟩) := by rw [OR.cell]; rfl
        have F0 : ∀ o, w9.frozen? ⟨w.heap.size, o, none⟩ = false := OR.frozen
        have X0 : w9.cell? ⟨X, 0, none⟩ = some (.int .i64 op) := by rw [OX.cell]; rfl
        have X1 : w9.cell? ⟨X, 1, none⟩ = some (.int .i64 (0)) := by rw [OX.cell]; rfl
        have X2 : w9.cell? ⟨X, 2, none⟩ = some (.int .i64 (0)) := by rw [OX.cell]; rfl
        have X3 : w9.cell? ⟨X, 3, none⟩ = some (.string (⟨#[]⟩)) := by rw [OX.cell]; rfl
        have FX : ∀ o, w9.frozen? ⟨X, o, none⟩ = false := OX.frozen
        go_wp2_with fail
        refine bodyPost_ret (v := .tuple #[.agg #[.int .i64 op, .int .i64 (0), .int .i64 (0), .string (⟨#[]⟩)], .bool true]) (by simp [results, Tryd.results29, go_sem, R0, R1, R2, R3, F0]) rfl ⟨⟨op, 0, 0, ⟨#[]⟩⟩, true, rfl, fun _ => (by rw [← HXS.out]; exact spec_right hop (by rw [← HP.out]; exact OKA.out) (by rw [← HP.out]; exact OKB.out) (by rw [HXS.out]; exact HI.out)), fun h => (by cases h), ?_⟩
        (repeat refine Ext.setCell ?_ (by omega) _)
        exact x1.trans (hx1.trans hxf)
      · have HI := Lib.hid hi
        have hne := str_nen hi; clear hi
        go_wp2_with fail
        refine (spec_FormatInstr_any ⟨op, 0, 0, ⟨#[]⟩⟩ [.int .i64 op, .int .i64 (0), .int .i64 (0), .string (⟨#[]⟩)] _ (instr_rep _ _ _ _ _) HDB.out.1 HDB.out.2).mono ?_
        rintro e w9 ⟨rfl, hx9⟩
        replace OR := OR.ext hx9
        have hxf := hxw.trans hx9
        clear X0 X1 X2 X3 FX
        have R0 : w9.cell? ⟨w.heap.size, 0, none⟩ = some (.int .i64 0) := by rw [OR.cell]; rfl
        have R1 : w9.cell? ⟨w.heap.size, 1, none⟩ = some (.int .i64 0) := by rw [OR.cell]; rfl
        have R2 : w9.cell? ⟨w.heap.size, 2, none⟩ = some (.int .i64 0) := by rw [OR.cell]; rfl
        have R3 : w9.cell? ⟨w.heap.size, 3, none⟩ = some (.string ⟨#[]⟩) := by rw [OR.cell]; rfl
        have F0 : ∀ o, w9.frozen? ⟨w.heap.size, o, none⟩ = false := OR.frozen
        go_wp2_with fail
        refine bodyPost_ret (v := .tuple #[.agg #[.int .i64 0, .int .i64 0, .int .i64 0, .string ⟨#[]⟩], .bool false]) (by simp [results, Tryd.results29, go_sem, R0, R1, R2, R3, F0]) rfl ⟨⟨0, 0, 0, ⟨#[]⟩⟩, false, rfl, fun h => (by cases h), fun _ => ⟨rfl, (fun ⟨y, hy⟩ => HI.out (by have h := NOY.out y hy; rw [← HXS.out, h.2.2]; exact hy.2.1))⟩, ?_⟩
        (repeat refine Ext.setCell ?_ (by omega) _)
        exact x1.trans (hx1.trans hxf)
    have qB : ((1 : Nat) : Int) < (P.length : Int) := by omega
    have QB : (1 : Int) < (P.length : Int) := by omega
    have cB := Ext.cell hxw (HC.out 1 nB)
    have HZ : Hid ((P.getD 1 ⟨#[]⟩).size ≤ 1048576) := Lib.hid (HPS.out _ (by rw [List.getD_eq_getElem?_getD, List.getElem?_eq_getElem nB]; exact List.getElem_mem _))
    obtain ⟨p, hp⟩ : ∃ p, P.getD 1 ⟨#[]⟩ = p := ⟨_, rfl⟩
    rw [hp] at cB HZ
    have HPG := Lib.hid hp; clear hp
    obtain ⟨vb, hvb⟩ : ∃ v, PV p = v := ⟨_, rfl⟩
    obtain ⟨okB, hokB⟩ : ∃ v, PB p = v := ⟨_, rfl⟩
    have hvr_vb : Hid (-9223372036854775808 ≤ vb ∧ vb ≤ 9223372036854775807) := Lib.hid (by rw [← hvb]; exact num_b64 p)
    have C : Hid (∀ W, Calls Tryd.prog 28 #[.string p] W fun e w' => e = .returned (.tuple #[.int .i64 vb, .bool okB]) ∧ Ext W w') := Lib.hid fun W => by
      rw [← hvb, ← hokB]; exact spec_ParseInt_any p W HZ.out
    have X0 : W5.cell? ⟨X, 0, none⟩ = some (.int .i64 op) := by rw [OX.cell]; rfl
    have X1 : W5.cell? ⟨X, 1, none⟩ = some (.int .i64 (0)) := by rw [OX.cell]; rfl
    have X2 : W5.cell? ⟨X, 2, none⟩ = some (.int .i64 (0)) := by rw [OX.cell]; rfl
    have X3 : W5.cell? ⟨X, 3, none⟩ = some (.string (⟨#[]⟩)) := by rw [OX.cell]; rfl
    have FX : ∀ o, W5.frozen? ⟨X, o, none⟩ = false := OX.frozen
    cases okB
    all_goals
      have HV := Lib.hid hvb; clear hvb
      have HOK := Lib.hid hokB; clear hokB
      go_wp2_with fail
      refine (C.out _).mono ?_
      rintro e wk ⟨rfl, hxk⟩
      have X2' : wk.cell? ⟨X, 2, none⟩ = some (.int .i64 0) := Ext.cell hxk X2
      have FX' : ∀ o, wk.frozen? ⟨X, o, none⟩ = false := (OX.ext hxk).frozen
      go_upto_region 15 with fail
      clear X2' FX' C cB
      generalize hS : World.setCell wk _ _ = v9
      have OR' : Own v9 w.heap.size 60 #[.int .i64 0, .int .i64 0, .int .i64 0, .string ⟨#[]⟩] := by rw [← hS]; exact (OR.ext hxk).other _ (by show w.heap.size ≠ X; omega) _
      have OX' : Own v9 X 60 #[.int .i64 op, .int .i64 (0), .int .i64 vb, .string ⟨#[]⟩] := by rw [← hS]; exact (OX.ext hxk).set _ _
      have hxw' : Ext w1 v9 := by rw [← hS]; exact Ext.setCell (hxw.trans hxk) (by omega) _
      clear hS OR OX hxw hxk X0 X1 X2 X3 FX
      have OR := OR'; have OX := OX'; have hxw := hxw'
      clear OR' OX' hxw'
    · skip
      have NOK : Hid (okNS (uB op) (atNS (uA op) 1 P) P = false) := Lib.hid (by rw [haa.out, hB.out, okNS, if_pos ⟨rfl, nB⟩, HPG.out]; exact HOK.out)
      go_upto_region 17 with fail
      have NOP : Hid (¬ ∃ y, OkI s y) := Lib.hid (fun ⟨y, hy⟩ => by have h := NOY.out y hy; first | (exact absurd (h.1.symm.trans NOK.out) (by simp)) | (exact absurd (h.2.1.symm.trans NOK.out) (by simp)))
      have R0 : v9.cell? ⟨w.heap.size, 0, none⟩ = some (.int .i64 0) := by rw [OR.cell]; rfl
      have R1 : v9.cell? ⟨w.heap.size, 1, none⟩ = some (.int .i64 0) := by rw [OR.cell]; rfl
      have R2 : v9.cell? ⟨w.heap.size, 2, none⟩ = some (.int .i64 0) := by rw [OR.cell]; rfl
      have R3 : v9.cell? ⟨w.heap.size, 3, none⟩ = some (.string ⟨#[]⟩) := by rw [OR.cell]; rfl
      have F0 : ∀ o, v9.frozen? ⟨w.heap.size, o, none⟩ = false := OR.frozen
      have X0 : v9.cell? ⟨X, 0, none⟩ = some (.int .i64 op) := by rw [OX.cell]; rfl
      have X1 : v9.cell? ⟨X, 1, none⟩ = some (.int .i64 (0)) := by rw [OX.cell]; rfl
      have X2 : v9.cell? ⟨X, 2, none⟩ = some (.int .i64 (vb)) := by rw [OX.cell]; rfl
      have X3 : v9.cell? ⟨X, 3, none⟩ = some (.string (⟨#[]⟩)) := by rw [OX.cell]; rfl
      have FX : ∀ o, v9.frozen? ⟨X, o, none⟩ = false := OX.frozen
      go_wp2_with fail
      refine bodyPost_ret (v := .tuple #[.agg #[.int .i64 0, .int .i64 0, .int .i64 0, .string ⟨#[]⟩], .bool false]) (by simp [results, Tryd.results29, go_sem, R0, R1, R2, R3, F0]) rfl ⟨⟨0, 0, 0, ⟨#[]⟩⟩, false, rfl, fun h => (by cases h), fun _ => ⟨rfl, NOP.out⟩, ?_⟩
      (repeat refine Ext.setCell ?_ (by omega) _)
      exact x1.trans (hx1.trans hxw)
    · skip
      have OKB : Hid (okNS (uB op) (atNS (uA op) 1 P) P = true) := Lib.hid (by rw [haa.out, hB.out, okNS, if_pos ⟨rfl, nB⟩, HPG.out]; exact HOK.out)
      have hvb : Hid (vNS (uB op) (atNS (uA op) 1 P) P = vb) := Lib.hid (by rw [haa.out, hB.out, vNS, if_pos ⟨rfl, nB⟩, HPG.out]; exact HV.out)
      go_upto_region 17 with fail
      have htt : Hid (tNS (uT op) (atNS (uB op) (atNS (uA op) 1 P) P) P = ⟨#[]⟩) := Lib.hid (by rw [hT.out]; simp [tNS])
      have X0 : v9.cell? ⟨X, 0, none⟩ = some (.int .i64 op) := by rw [OX.cell]; rfl
      have X1 : v9.cell? ⟨X, 1, none⟩ = some (.int .i64 (0)) := by rw [OX.cell]; rfl
      have X2 : v9.cell? ⟨X, 2, none⟩ = some (.int .i64 (vb)) := by rw [OX.cell]; rfl
      have X3 : v9.cell? ⟨X, 3, none⟩ = some (.string (⟨#[]⟩)) := by rw [OX.cell]; rfl
      have FX : ∀ o, v9.frozen? ⟨X, o, none⟩ = false := OX.frozen
      have hd := instr_d (a := 0) (b := vb) (t := ⟨#[]⟩) hop ⟨by omega, by omega⟩ hvr_vb.out (by decide)
      have HDB := Lib.hid hd; clear hd
      have HXS : Hid (xS s op = ⟨op, 0, vb, ⟨#[]⟩⟩) := Lib.hid (by unfold xS; rw [← HP.out, hva.out, hvb.out, htt.out])
      by_cases hi : instrB ⟨op, 0, vb, ⟨#[]⟩⟩ = s
      · have HI := Lib.hid hi
        have hne := str_eqn hi; clear hi
        go_wp2_with fail
        refine (spec_FormatInstr_any ⟨op, 0, vb, ⟨#[]⟩⟩ [.int .i64 op, .int .i64 (0), .int .i64 (vb), .string (⟨#[]⟩)] _ (instr_rep _ _ _ _ _) HDB.out.1 HDB.out.2).mono ?_
        rintro e w9 ⟨rfl, hx9⟩
        replace OR := OR.ext hx9
        replace OX := OX.ext hx9
        have hxf := hxw.trans hx9
        clear X0 X1 X2 X3 FX
        have R0 : w9.cell? ⟨w.heap.size, 0, none⟩ = some (.int .i64 0) := by rw [OR.cell]; rfl
        have R1 : w9.cell? ⟨w.heap.size, 1, none⟩ = some (.int .i64 0) := by rw [OR.cell]; rfl
        have R2 : w9.cell? ⟨w.heap.size, 2, none⟩ = some (.int .i64 0) := by rw [OR.cell]; rfl
        have R3 : w9.cell? ⟨w.heap.size, 3, none⟩ = some (.string ⟨#[]⟩) := by rw [OR.cell]; rfl
        have F0 : ∀ o, w9.frozen? ⟨w.heap.size, o, none⟩ = false := OR.frozen
        have X0 : w9.cell? ⟨X, 0, none⟩ = some (.int .i64 op) := by rw [OX.cell]; rfl
        have X1 : w9.cell? ⟨X, 1, none⟩ = some (.int .i64 (0)) := by rw [OX.cell]; rfl
        have X2 : w9.cell? ⟨X, 2, none⟩ = some (.int .i64 (vb)) := by rw [OX.cell]; rfl
        have X3 : w9.cell? ⟨X, 3, none⟩ = some (.string (⟨#[]⟩)) := by rw [OX.cell]; rfl
        have FX : ∀ o, w9.frozen? ⟨X, o, none⟩ = false := OX.frozen
        go_wp2_with fail
        refine bodyPost_ret (v := .tuple #[.agg #[.int .i64 op, .int .i64 (0), .int .i64 (vb), .string (⟨#[]⟩)], .bool true]) (by simp [results, Tryd.results29, go_sem, R0, R1, R2, R3, F0]) rfl ⟨⟨op, 0, vb, ⟨#[]⟩⟩, true, rfl, fun _ => (by rw [← HXS.out]; exact spec_right hop (by rw [← HP.out]; exact OKA.out) (by rw [← HP.out]; exact OKB.out) (by rw [HXS.out]; exact HI.out)), fun h => (by cases h), ?_⟩
        (repeat refine Ext.setCell ?_ (by omega) _)
        exact x1.trans (hx1.trans hxf)
      · have HI := Lib.hid hi
        have hne := str_nen hi; clear hi
        go_wp2_with fail
        refine (spec_FormatInstr_any ⟨op, 0, vb, ⟨#[]⟩⟩ [.int .i64 op, .int .i64 (0), .int .i64 (vb), .string (⟨#[]⟩)] _ (instr_rep _ _ _ _ _) HDB.out.1 HDB.out.2).mono ?_
        rintro e w9 ⟨rfl, hx9⟩
        replace OR := OR.ext hx9
        have hxf := hxw.trans hx9
        clear X0 X1 X2 X3 FX
        have R0 : w9.cell? ⟨w.heap.size, 0, none⟩ = some (.int .i64 0) := by rw [OR.cell]; rfl
        have R1 : w9.cell? ⟨w.heap.size, 1, none⟩ = some (.int .i64 0) := by rw [OR.cell]; rfl
        have R2 : w9.cell? ⟨w.heap.size, 2, none⟩ = some (.int .i64 0) := by rw [OR.cell]; rfl
        have R3 : w9.cell? ⟨w.heap.size, 3, none⟩ = some (.string ⟨#[]⟩) := by rw [OR.cell]; rfl
        have F0 : ∀ o, w9.frozen? ⟨w.heap.size, o, none⟩ = false := OR.frozen
        go_wp2_with fail
        refine bodyPost_ret (v := .tuple #[.agg #[.int .i64 0, .int .i64 0, .int .i64 0, .string ⟨#[]⟩], .bool false]) (by simp [results, Tryd.results29, go_sem, R0, R1, R2, R3, F0]) rfl ⟨⟨0, 0, 0, ⟨#[]⟩⟩, false, rfl, fun h => (by cases h), fun _ => ⟨rfl, (fun ⟨y, hy⟩ => HI.out (by have h := NOY.out y hy; rw [← HXS.out, h.2.2]; exact hy.2.1))⟩, ?_⟩
        (repeat refine Ext.setCell ?_ (by omega) _)
        exact x1.trans (hx1.trans hxf)
  · rw [hA, hB, hT]
    have hA := Lib.hid hA; have hB := Lib.hid hB; have hT := Lib.hid hT
    have OKA : Hid (okNS (uA op) 1 P = true) := Lib.hid (by rw [hA.out]; simp [okNS])
    have hva : Hid (vNS (uA op) 1 P = 0) := Lib.hid (by rw [hA.out]; simp [vNS])
    have haa : Hid (atNS (uA op) 1 P = 1) := Lib.hid (by rw [hA.out]; simp [atNS])
    go_upto_region 12 with fail
    go_upto_region 15 with fail
    have OKB : Hid (okNS (uB op) (atNS (uA op) 1 P) P = true) := Lib.hid (by rw [hB.out]; simp [okNS])
    have hvb : Hid (vNS (uB op) (atNS (uA op) 1 P) P = 0) := Lib.hid (by rw [hB.out]; simp [vNS])
    have hab : Hid (atNS (uB op) (atNS (uA op) 1 P) P = 1) := Lib.hid (by rw [hB.out]; simp only [atNS, Bool.false_eq_true, false_and, if_false]; exact haa.out)
    go_upto_region 17 with fail
    have htt : Hid (tNS (uT op) (atNS (uB op) (atNS (uA op) 1 P) P) P = ⟨#[]⟩) := Lib.hid (by rw [hT.out]; simp [tNS])
    have X0 : W5.cell? ⟨X, 0, none⟩ = some (.int .i64 op) := by rw [OX.cell]; rfl
    have X1 : W5.cell? ⟨X, 1, none⟩ = some (.int .i64 (0)) := by rw [OX.cell]; rfl
    have X2 : W5.cell? ⟨X, 2, none⟩ = some (.int .i64 (0)) := by rw [OX.cell]; rfl
    have X3 : W5.cell? ⟨X, 3, none⟩ = some (.string (⟨#[]⟩)) := by rw [OX.cell]; rfl
    have FX : ∀ o, W5.frozen? ⟨X, o, none⟩ = false := OX.frozen
    have hd := instr_d (a := 0) (b := 0) (t := ⟨#[]⟩) hop ⟨by omega, by omega⟩ ⟨by omega, by omega⟩ (by decide)
    have HDB := Lib.hid hd; clear hd
    have HXS : Hid (xS s op = ⟨op, 0, 0, ⟨#[]⟩⟩) := Lib.hid (by unfold xS; rw [← HP.out, hva.out, hvb.out, htt.out])
    by_cases hi : instrB ⟨op, 0, 0, ⟨#[]⟩⟩ = s
    · have HI := Lib.hid hi
      have hne := str_eqn hi; clear hi
      go_wp2_with fail
      refine (spec_FormatInstr_any ⟨op, 0, 0, ⟨#[]⟩⟩ [.int .i64 op, .int .i64 (0), .int .i64 (0), .string (⟨#[]⟩)] _ (instr_rep _ _ _ _ _) HDB.out.1 HDB.out.2).mono ?_
      rintro e w9 ⟨rfl, hx9⟩
      replace OR := OR.ext hx9
      replace OX := OX.ext hx9
      have hxf := hxw.trans hx9
      clear X0 X1 X2 X3 FX
      have R0 : w9.cell? ⟨w.heap.size, 0, none⟩ = some (.int .i64 0) := by rw [OR.cell]; rfl
      have R1 : w9.cell? ⟨w.heap.size, 1, none⟩ = some (.int .i64 0) := by rw [OR.cell]; rfl
      have R2 : w9.cell? ⟨w.heap.size, 2, none⟩ = some (.int .i64 0) := by rw [OR.cell]; rfl
      have R3 : w9.cell? ⟨w.heap.size, 3, none⟩ = some (.string ⟨#[]⟩) := by rw [OR.cell]; rfl
      have F0 : ∀ o, w9.frozen? ⟨w.heap.size, o, none⟩ = false := OR.frozen
      have X0 : w9.cell? ⟨X, 0, none⟩ = some (.int .i64 op) := by rw [OX.cell]; rfl
      have X1 : w9.cell? ⟨X, 1, none⟩ = some (.int .i64 (0)) := by rw [OX.cell]; rfl
      have X2 : w9.cell? ⟨X, 2, none⟩ = some (.int .i64 (0)) := by rw [OX.cell]; rfl
      have X3 : w9.cell? ⟨X, 3, none⟩ = some (.string (⟨#[]⟩)) := by rw [OX.cell]; rfl
      have FX : ∀ o, w9.frozen? ⟨X, o, none⟩ = false := OX.frozen
      go_wp2_with fail
      refine bodyPost_ret (v := .tuple #[.agg #[.int .i64 op, .int .i64 (0), .int .i64 (0), .string (⟨#[]⟩)], .bool true]) (by simp [results, Tryd.results29, go_sem, R0, R1, R2, R3, F0]) rfl ⟨⟨op, 0, 0, ⟨#[]⟩⟩, true, rfl, fun _ => (by rw [← HXS.out]; exact spec_right hop (by rw [← HP.out]; exact OKA.out) (by rw [← HP.out]; exact OKB.out) (by rw [HXS.out]; exact HI.out)), fun h => (by cases h), ?_⟩
      (repeat refine Ext.setCell ?_ (by omega) _)
      exact x1.trans (hx1.trans hxf)
    · have HI := Lib.hid hi
      have hne := str_nen hi; clear hi
      go_wp2_with fail
      refine (spec_FormatInstr_any ⟨op, 0, 0, ⟨#[]⟩⟩ [.int .i64 op, .int .i64 (0), .int .i64 (0), .string (⟨#[]⟩)] _ (instr_rep _ _ _ _ _) HDB.out.1 HDB.out.2).mono ?_
      rintro e w9 ⟨rfl, hx9⟩
      replace OR := OR.ext hx9
      have hxf := hxw.trans hx9
      clear X0 X1 X2 X3 FX
      have R0 : w9.cell? ⟨w.heap.size, 0, none⟩ = some (.int .i64 0) := by rw [OR.cell]; rfl
      have R1 : w9.cell? ⟨w.heap.size, 1, none⟩ = some (.int .i64 0) := by rw [OR.cell]; rfl
      have R2 : w9.cell? ⟨w.heap.size, 2, none⟩ = some (.int .i64 0) := by rw [OR.cell]; rfl
      have R3 : w9.cell? ⟨w.heap.size, 3, none⟩ = some (.string ⟨#[]⟩) := by rw [OR.cell]; rfl
      have F0 : ∀ o, w9.frozen? ⟨w.heap.size, o, none⟩ = false := OR.frozen
      go_wp2_with fail
      refine bodyPost_ret (v := .tuple #[.agg #[.int .i64 0, .int .i64 0, .int .i64 0, .string ⟨#[]⟩], .bool false]) (by simp [results, Tryd.results29, go_sem, R0, R1, R2, R3, F0]) rfl ⟨⟨0, 0, 0, ⟨#[]⟩⟩, false, rfl, fun h => (by cases h), fun _ => ⟨rfl, (fun ⟨y, hy⟩ => HI.out (by have h := NOY.out y hy; rw [← HXS.out, h.2.2]; exact hy.2.1))⟩, ?_⟩
      (repeat refine Ext.setCell ?_ (by omega) _)
      exact x1.trans (hx1.trans hxf)

end Go.Proofs.YtpajlbmjlhafoaaDoor
