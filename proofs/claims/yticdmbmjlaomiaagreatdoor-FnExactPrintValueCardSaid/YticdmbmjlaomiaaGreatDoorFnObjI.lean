/-
  CONTRACTS: an object of a store, of the program.
  Conditions: those that each lemma states.
-/
import Derived.Test.YticdmbmjlaomiaaGreatDoorRows
import Derived.Test.YticdmbmjlaomiaaGreatDoorFnFits
import Derived.Test.YticdmbmjlaomiaaGreatDoorShelf
import Derived.Lib.Slices
namespace Go.Proofs.YticdmbmjlaomiaaGreatDoor
open Go.RowKit
set_option linter.unusedSimpArgs false
set_option linter.unusedVariables false

theorem foldl_min_ge (N : List Int) : ∀ a : Int, 0 ≤ N.foldl min a ↔ 0 ≤ a ∧ ∀ n, n ∈ N → 0 ≤ n := by
  induction N with
  | nil => intro a; simp
  | cons x r ih =>
    intro a
    rw [List.foldl_cons, ih]
    simp only [List.mem_cons, forall_eq_or_imp]
    constructor
    · rintro ⟨h1, h2⟩; exact ⟨by omega, by omega, h2⟩
    · rintro ⟨h1, h2, h3⟩; exact ⟨by omega, h3⟩
theorem min_ge (N : List Int) (h : 1 ≤ N.length) : 0 ≤ Lib.minOf N ↔ ∀ n, n ∈ N → 0 ≤ n := by
  cases N with
  | nil => simp at h
  | cons x r =>
    unfold Lib.minOf
    rw [foldl_min_ge]
    simp

def KindOk (l : List MClassInfo) (o : MObject) : Prop :=
  (o.kind = 1 ∧ (0 ≤ o.cls ∧ o.cls ≤ (l.length : Int) - 1) ∧ ¬ (5 ≤ o.cls ∧ o.cls ≤ 15) ∧ (∀ c, l[o.cls.toNat]? = some c → o.fields.length = c.fields.length) ∧ o.numbers.length = (if isaB l o.cls = true then 3 else 0)) ∨
  (o.kind = 2 ∧ o.cls = 10 ∧ o.fields.length ≤ 50 ∧ o.numbers.length = 0) ∨
  (o.kind = 3 ∧ o.cls = 12 ∧ o.fields.length = 0 ∧ 1 ≤ o.numbers.length ∧ ∀ n, n ∈ o.numbers → 0 ≤ n)
def ObjOk (l : List MClassInfo) (no : Nat) (bk : Int) (o : MObject) : Prop := (∀ v, v ∈ o.fields → FitP l.length no bk v) ∧ KindOk l o
noncomputable def objB (l : List MClassInfo) (no : Nat) (bk : Int) (o : MObject) : Bool := eqB (ObjOk l no bk o) True
theorem objB_iff {l : List MClassInfo} {no : Nat} {bk : Int} {o : MObject} : objB l no bk o = true ↔ ObjOk l no bk o := by simp [objB, eqB_iff]
theorem objB_ff {l : List MClassInfo} {no : Nat} {bk : Int} {o : MObject} (h : ¬ ObjOk l no bk o) : objB l no bk o = false := eqB_ff (by simp [h])
theorem objB_of {l : List MClassInfo} {no : Nat} {bk : Int} {o : MObject} {b : Bool} (hf : ∀ v, v ∈ o.fields → FitP l.length no bk v) (h : b = true ↔ KindOk l o) : objB l no bk o = b := by
  rw [Bool.eq_iff_iff, objB_iff, h]
  exact ⟨fun h => h.2, fun h => ⟨hf, h⟩⟩

set_option maxRecDepth 100000 in
set_option maxHeartbeats 1000000 in
theorem objectOk_any (l : List MClassInfo) (o : MObject) (co : List Value) (a1 : Option Addr) (c1 : Nat) (a2 : Option Addr) (n2 c2 : Nat) (a3 : Option Addr) (n3 c3 : Nat) (i1 i2 i3 bk : Int) (w : World)
    (rl : Rep w (MClassInfos l) [.slice a1 l.length c1]) (ro : Rep w o.d co) (hok : ClsOk l) (hv : ∀ v, v ∈ o.fields → v.text.size ≤ 1048576) (hM : MaxOk w) :
    Calls Tryz.prog 141 #[.agg #[.slice a1 l.length c1, .slice a2 n2 c2, .slice a3 n3 c3, .int .i64 i1, .int .i64 i2, .int .i64 i3], .agg co.toArray, .int .i64 bk] w fun e w' => e = .returned (.bool (objB l n2 bk o)) ∧ Ext w w' := by
  have RL := Lib.hid rl
  obtain ⟨af, cf, an, cn, rfl, rf, rn⟩ := MObject.op_en ro
  clear ro
  obtain ⟨ao, ca, bl, ol, h1, hla, hma, pa, ha⟩ := Rep.slmap rl
  simp only [List.cons.injEq, and_true, Value.slice.injEq] at h1
  obtain ⟨rfl, -, rfl⟩ := h1
  have hlen := hok.1.1
  have hl24 := hok.1.2
  obtain rfl := pa (by omega)
  obtain ⟨afo, cfo, bf, of', h1, hlf, hmf, pf, hf⟩ := Rep.slmap rf
  simp only [List.cons.injEq, and_true, Value.slice.injEq] at h1
  obtain ⟨rfl, -, rfl⟩ := h1
  have RN := Lib.hid rn
  have HOK := Lib.hid hok
  have HV := Lib.hid hv
  clear rl rf rn pa hok hv
  unfold maxLen at hma hmf
  have CW : Hid (∀ (n a b : Int) W, Calls Tryz.prog 139 #[.int .i64 n, .int .i64 a, .int .i64 b] W fun e w' => e = .returned (.bool (decide (a ≤ n ∧ n ≤ b))) ∧ Ext W w') := Lib.hid fun n a b W => (within_any n a b W).mono fun e w' ⟨h1, h2⟩ => ⟨h1, by rw [h2]; exact Ext.refl _⟩
  have CB : Hid (∀ (n a b : Int) W (v : Bool), decide (a ≤ n ∧ n ≤ b) = v → Calls Tryz.prog 139 #[.int .i64 n, .int .i64 a, .int .i64 b] W fun e w' => e = .returned (.bool v) ∧ Ext W w') := Lib.hid fun n a b W v h => by rw [← h]; exact CW.out n a b W
  obtain ⟨K, C, F, N⟩ := o
  simp only at *
  have NB : Hid ((¬ ∀ v, v ∈ F → FitP l.length n2 bk v) → objB l n2 bk ⟨K, C, F, N⟩ = false) := Lib.hid fun h => objB_ff fun hh => h hh.1
  have HB0 : Hid ((∀ v, v ∈ F → FitP l.length n2 bk v) → ∀ b : Bool, (b = true ↔ KindOk l ⟨K, C, F, N⟩) → objB l n2 bk ⟨K, C, F, N⟩ = b) := Lib.hid fun hf b h => objB_of hf h
  go_enter Tryz.func141, Tryz.ntmps141
  go_wp2_with fail
  generalize hS : World.alloc (World.alloc w _) _ = W1
  have x1 : Ext w W1 := by rw [← hS]; exact ((Ext.refl _).alloc _).alloc _
  have o0 : W1.cell? ⟨w.heap.size + 1, 0, none⟩ = some (.int .i64 K) := by rw [← hS]; simp
  have o1 : W1.cell? ⟨w.heap.size + 1, 1, none⟩ = some (.int .i64 C) := by rw [← hS]; simp
  have o2 : W1.cell? ⟨w.heap.size + 1, 2, none⟩ = some (.slice af F.length cf) := by rw [← hS]; simp
  have o3 : W1.cell? ⟨w.heap.size + 1, 3, none⟩ = some (.slice an N.length cn) := by rw [← hS]; simp
  have s0 : W1.cell? ⟨w.heap.size, 0, none⟩ = some (.slice (some ⟨bl, ol, none⟩) l.length c1) := by rw [← hS]; simp
  have s1 : W1.cell? ⟨w.heap.size, 1, none⟩ = some (.slice a2 n2 c2) := by rw [← hS]; simp
  have s2 : W1.cell? ⟨w.heap.size, 2, none⟩ = some (.slice a3 n3 c3) := by rw [← hS]; simp
  have s3 : W1.cell? ⟨w.heap.size, 3, none⟩ = some (.int .i64 i1) := by rw [← hS]; simp
  have s4 : W1.cell? ⟨w.heap.size, 4, none⟩ = some (.int .i64 i2) := by rw [← hS]; simp
  have s5 : W1.cell? ⟨w.heap.size, 5, none⟩ = some (.int .i64 i3) := by rw [← hS]; simp
  clear hS
  go_loopw [12] (fun iv wr => ∃ k : Nat, k ≤ F.length ∧ iv = .int .i64 k ∧ Ext W1 wr ∧ Hid (∀ i v, i < k → F[i]? = some v → FitP l.length n2 bk v)) (fun iv _ => F.length - (intOf iv).toNat)
  case atStart => exact ⟨0, Nat.zero_le _, rfl, Ext.refl _, Lib.hid fun i v hi => by omega⟩
  case round =>
    obtain ⟨k, hk, rfl, hx1, hR⟩ := hrel
    have hx := x1.trans hx1
    by_cases hlt : k < F.length
    · obtain rfl := pf (by omega)
      obtain ⟨v, hv⟩ : ∃ v, v = F[k] := ⟨_, rfl⟩
      have hvk : F[k]? = some v := by rw [hv]; simp [hlt]
      have hvz := HV.out v (by rw [hv]; exact List.getElem_mem _)
      clear hv
      obtain ⟨es, les, ces, res⟩ := hf k v hvk
      obtain rfl := MValue.op_en res
      have q0 := hx.cell (show w.cell? ⟨bf, of' + k * 3, none⟩ = some _ from ces 0 (by omega))
      have q1 := hx.cell (show w.cell? ⟨bf, of' + k * 3 + 1, none⟩ = some _ from ces 1 (by omega))
      have q2 := hx.cell (show w.cell? ⟨bf, of' + k * 3 + 2, none⟩ = some _ from ces 2 (by omega))
      have S0 := Ext.cell hx1 s0
      have S1 := Ext.cell hx1 s1
      have S2 := Ext.cell hx1 s2
      have S3 := Ext.cell hx1 s3
      have S4 := Ext.cell hx1 s4
      have S5 := Ext.cell hx1 s5
      have zS : w.heap.size < wr.heap.size := lt_of_cell S0
      have HVK := Lib.hid hvk
      have CE : Hid (∀ W, Ext w W → Calls Tryz.prog 54 #[.agg #[.slice (some ⟨bl, ol, none⟩) l.length c1, .slice a2 n2 c2, .slice a3 n3 c3, .int .i64 i1, .int .i64 i2, .int .i64 i3], .agg #[.int .i64 v.kind, .int .i64 v.number, .string v.text], .int .i64 bk] W fun e w' => e = .returned (.bool (fitB l.length n2 bk v)) ∧ Ext W w') := Lib.hid fun W h => exists_any v [.int .i64 v.kind, .int .i64 v.number, .string v.text] _ _ _ _ _ _ _ _ _ _ _ _ _ W (MValue.shut (w := W) (x := v)).rep hvz (hM.ext h)
      clear les ces res hvk
      obtain ⟨vk, vn, vt⟩ := v
      simp only at q0 q1 q2 CE HVK
      cases hfit : fitB l.length n2 bk ⟨vk, vn, vt⟩
      · have HF : Hid (¬ ∀ v, v ∈ F → FitP l.length n2 bk v) := Lib.hid fun h => by
          have := fitB_tt (h _ (List.mem_of_getElem? HVK.out))
          rw [hfit] at this; cases this
        rw [hfit] at CE; clear hfit
        go_wp2_with fail
        refine (CE.out _ (hx.alloc _)).mono ?_
        rintro e w3 ⟨rfl, hx3⟩
        go_wp2_with fail
        go_ret
        exact ⟨ret_bool (NB.out HF.out).symm, (hx.alloc _).trans hx3⟩
      · have HF := Lib.hid (fitB_iff.1 hfit)
        rw [hfit] at CE; clear hfit
        go_wp2_with fail
        refine (CE.out _ (hx.alloc _)).mono ?_
        rintro e w3 ⟨rfl, hx3⟩
        go_wp2_with fail
        go_roundw
        case rel => exact ⟨k + 1, by omega, by go_num, (hx1.alloc _).trans hx3, Lib.hid fun i v hi hv => by
          by_cases h2 : i < k
          · exact hR.out i v h2 hv
          · obtain rfl : i = k := by omega
            rw [HVK.out] at hv; injection hv with hv; subst hv; exact HF.out⟩
        case measure => simp [intOf]; omega
    have HB : Hid (∀ b : Bool, (b = true ↔ KindOk l ⟨K, C, F, N⟩) → objB l n2 bk ⟨K, C, F, N⟩ = b) := Lib.hid (HB0.out fun v hv => by
      obtain ⟨i, hi, rfl⟩ := List.mem_iff_getElem.1 hv
      exact hR.out i _ (by omega) (by simp [hi]))
    have O0 := Ext.cell hx1 o0
    have O1 := Ext.cell hx1 o1
    have O2 := Ext.cell hx1 o2
    have O3 := Ext.cell hx1 o3
    have S0 := Ext.cell hx1 s0
    clear o0 o1 o2 o3 s0 s1 s2 s3 s4 s5 NB HB0 hf pf
    by_cases h1 : K = 1
    · subst h1
      by_cases hc : 0 ≤ C ∧ C ≤ (l.length : Int) - 1
      rotate_left
      · have hd : decide ((0 : Int) ≤ C ∧ C ≤ (l.length : Int) - 1) = false := decide_eq_false hc
        have HC := Lib.hid hc; clear hc
        have HD0 := Lib.hid hd
        go_wp2_with fail
        have r1 := reg (Ext.refl _) O1
        have r2 := reg (Ext.refl _) O2
        have r3 := reg (Ext.refl _) O3
        have rs := reg (Ext.refl _) S0
        refine wp_region_quiet_below (by kernel_rfl) (by kernel_rfl) ?_
        repeat (go_big_quiet_step ((go_at_call 139; exact Calls.regrown_of (CB.out _ _ _ _ _ HD0.out))))
        refine wpQuiet_nil ?_
        clear r1 r2 r3 rs
        intro _ hw'
        obtain ⟨pw, hw''⟩ := hw'
        subst hw''
        have XW4 := regx wr pw
        generalize hWR : «Sort».grow (redrawn wr pw.d) pw.os = W4 at *
        clear hWR
        go_wp2_with fail
        go_ret
        exact ⟨ret_bool (HB.out _ (by simp [KindOk]; intro h1 h2; exact absurd ⟨h1, h2⟩ HC.out)).symm, hx.trans XW4⟩
      have hd : decide ((0 : Int) ≤ C ∧ C ≤ (l.length : Int) - 1) = true := decide_eq_true hc
      obtain ⟨m, rfl⟩ : ∃ m : Nat, C = m := ⟨C.toNat, by omega⟩
      have hm : m < l.length := by omega
      have HD0 := Lib.hid hd
      clear hd
      by_cases h5 : 5 ≤ (m : Int) ∧ (m : Int) ≤ 15
      · have hd : decide ((5 : Int) ≤ m ∧ (m : Int) ≤ 15) = true := decide_eq_true h5
        have H5 := Lib.hid h5; clear h5
        have HD5 := Lib.hid hd
        clear hd
        go_wp2_with fail
        have r1 := reg (Ext.refl _) O1
        have r2 := reg (Ext.refl _) O2
        have r3 := reg (Ext.refl _) O3
        have rs := reg (Ext.refl _) S0
        refine wp_region_quiet_below (by kernel_rfl) (by kernel_rfl) ?_
        repeat (go_big_quiet_step ((go_at_call 139; exact Calls.regrown_of (CB.out _ _ _ _ _ (by first | exact HD0.out | exact HD5.out)))))
        refine wpQuiet_nil ?_
        clear r1 r2 r3 rs
        intro _ hw'
        obtain ⟨pw, hw''⟩ := hw'
        subst hw''
        have XW4 := regx wr pw
        generalize hWR : «Sort».grow (redrawn wr pw.d) pw.os = W4 at *
        clear hWR
        go_wp2_with fail
        go_ret
        exact ⟨ret_bool (HB.out _ (by simp only [KindOk]; constructor <;> intro h <;> first | (cases h; done) | (have := H5.out; omega))).symm, hx.trans XW4⟩
      have hd : decide ((5 : Int) ≤ m ∧ (m : Int) ≤ 15) = false := decide_eq_false h5
      have H5 := Lib.hid h5; clear h5
      have HD5 := Lib.hid hd
      clear hd
      obtain ⟨c, hcc⟩ : ∃ c, c = l[m] := ⟨_, rfl⟩
      have hcm : l[m]? = some c := by rw [hcc]; simp [hm]
      clear hcc
      obtain ⟨es, les, ces, res⟩ := ha m c hcm
      obtain ⟨acf, ccf, rfl, -⟩ := MClassInfo.op_en res
      have q2 : w.cell? ⟨bl, ol + m * 3 + 2, none⟩ = some _ := ces 2 (by omega)
      have HCM := Lib.hid hcm
      clear les ces res hcm
      obtain ⟨cnm, cpar, cfs⟩ := c
      simp only at q2 HCM
      have KO : Hid (KindOk l ⟨1, m, F, N⟩ ↔ F.length = cfs.length ∧ N.length = (if isaB l m = true then 3 else 0)) := Lib.hid (by
        simp only [KindOk]
        constructor
        · rintro (⟨-, -, -, h1, h2⟩ | ⟨h, -⟩ | ⟨h, -⟩)
          · exact ⟨h1 _ (by rw [Int.toNat_natCast]; exact HCM.out), h2⟩
          · omega
          · omega
        · rintro ⟨h1, h2⟩
          refine Or.inl ⟨trivial, hc, H5.out, fun c h => ?_, h2⟩
          rw [Int.toNat_natCast, HCM.out] at h; injection h with h; subst h; exact h1)
      have m0 : (0 : Int) ≤ m := by omega
      have m1 : (m : Int) < l.length := by omega
      by_cases hfl : F.length = cfs.length
      rotate_left
      · have tf : ((F.length : Int) != (cfs.length : Int)) = true := int_nen (by omega)
        have HFL := Lib.hid hfl; clear hfl
        go_wp2_with fail
        have r1 := reg (Ext.refl _) O1
        have r2 := reg (Ext.refl _) O2
        have r3 := reg (Ext.refl _) O3
        have rs := reg (Ext.refl _) S0
        have rq := reg hx q2
        refine wp_region_quiet_below (by kernel_rfl) (by kernel_rfl) ?_
        repeat (go_big_quiet_step ((go_at_call 139; exact Calls.regrown_of (CB.out _ _ _ _ _ (by first | exact HD0.out | exact HD5.out)))))
        refine wpQuiet_nil ?_
        clear r1 r2 r3 rs rq
        intro _ hw'
        obtain ⟨pw, hw''⟩ := hw'
        subst hw''
        have XW4 := regx wr pw
        generalize hWR : «Sort».grow (redrawn wr pw.d) pw.os = W4 at *
        clear hWR
        go_wp2_with fail
        go_ret
        exact ⟨ret_bool (HB.out _ (by rw [KO.out]; constructor <;> intro h <;> first | (cases h; done) | exact absurd h.1 HFL.out)).symm, hx.trans XW4⟩
      have tf : ((F.length : Int) != (cfs.length : Int)) = false := int_eqn (by omega)
      have HFL := Lib.hid hfl; clear hfl
      go_wp2_with fail
      have r1 := reg (Ext.refl _) O1
      have r2 := reg (Ext.refl _) O2
      have r3 := reg (Ext.refl _) O3
      have rs := reg (Ext.refl _) S0
      have rq := reg hx q2
      refine wp_region_quiet_below (by kernel_rfl) (by kernel_rfl) ?_
      repeat (go_big_quiet_step ((go_at_call 139; exact Calls.regrown_of (CB.out _ _ _ _ _ (by first | exact HD0.out | exact HD5.out)))))
      refine wpQuiet_nil ?_
      clear r1 r2 r3 rs rq
      intro _ hw'
      obtain ⟨pw, hw''⟩ := hw'
      subst hw''
      have XW4 := regx wr pw
      generalize hWR : «Sort».grow (redrawn wr pw.d) pw.os = W4 at *
      clear hWR
      replace S0 := Ext.cell XW4 S0
      replace O1 := Ext.cell XW4 O1
      replace O3 := Ext.cell XW4 O3
      go_wp2_with fail
      refine (isBelow_any l _ m _ (Rep.ext (hx.trans XW4) RL.out) HOK.out hm).mono ?_
      cases hi : isaB l m
      · have HI := Lib.hid hi; clear hi
        rintro e w5 ⟨rfl, hw5⟩
        subst w5
        go_wp2_with fail
        go_ret
        exact ⟨ret_bool (HB.out _ (by rw [KO.out, HI.out]; simp [HFL.out])).symm, hx.trans XW4⟩
      · have HI := Lib.hid hi; clear hi
        rintro e w5 ⟨rfl, hw5⟩
        subst w5
        go_wp2_with fail
        go_ret
        exact ⟨ret_bool (HB.out _ (by rw [KO.out, HI.out]; simp [HFL.out]; omega)).symm, hx.trans XW4⟩
    have t1 : (K == 1) = false := int_ne h1
    by_cases h2 : K = 2
    · subst h2
      clear h1 t1
      have KO : Hid (KindOk l ⟨2, C, F, N⟩ ↔ C = 10 ∧ F.length ≤ 50 ∧ N.length = 0) := Lib.hid (by simp [KindOk])
      by_cases hc : C = 10
      rotate_left
      · have tc : (C == 10) = false := int_ne hc
        have HC := Lib.hid hc; clear hc
        go_wp2_with fail
        go_ret
        exact ⟨ret_bool (HB.out _ (by rw [KO.out]; simp [HC.out])).symm, hx⟩
      have tc : (C == 10) = true := int_eq hc
      have HC := Lib.hid hc; clear hc
      by_cases h50 : F.length ≤ 50
      rotate_left
      · have tl : ¬ (F.length : Int) ≤ 50 := by omega
        go_wp2_with fail
        go_ret
        exact ⟨ret_bool (HB.out _ (by rw [KO.out]; simp [h50])).symm, hx⟩
      have tl : (F.length : Int) ≤ 50 := by omega
      go_wp2_with fail
      go_ret
      exact ⟨ret_bool (HB.out _ (by rw [KO.out]; simp only [HC.out, h50, true_and, decide_eq_true_eq]; first | done | rfl | omega | (simp; done) | (simp; omega))).symm, hx⟩
    have t2 : (K == 2) = false := int_ne h2
    by_cases h3 : K = 3
    rotate_left
    · have t3 : (K == 3) = false := int_ne h3
      have KO : Hid (¬ KindOk l ⟨K, C, F, N⟩) := Lib.hid (by simp [KindOk, h1, h2, h3])
      clear h1 h2 h3
      go_wp2_with fail
      go_ret
      exact ⟨ret_bool (HB.out _ (by simp [KO.out])).symm, hx⟩
    subst h3
    clear h1 h2 t1 t2
    have KO : Hid (KindOk l ⟨3, C, F, N⟩ ↔ C = 12 ∧ F.length = 0 ∧ 1 ≤ N.length ∧ ∀ n, n ∈ N → 0 ≤ n) := Lib.hid (by simp [KindOk])
    by_cases hc : C = 12
    rotate_left
    · have tc : (C == 12) = false := int_ne hc
      have HC := Lib.hid hc; clear hc
      go_wp2_with fail
      go_ret
      exact ⟨ret_bool (HB.out _ (by rw [KO.out]; simp [HC.out])).symm, hx⟩
    have tc : (C == 12) = true := int_eq hc
    have HC := Lib.hid hc; clear hc
    by_cases h0 : F.length = 0
    rotate_left
    · have tl : ((F.length : Int) == 0) = false := int_ne (by omega)
      have H0 := Lib.hid h0; clear h0
      go_wp2_with fail
      go_ret
      exact ⟨ret_bool (HB.out _ (by rw [KO.out]; simp only [Bool.false_eq_true, false_iff]; exact fun h => H0.out h.2.1)).symm, hx⟩
    have tl : ((F.length : Int) == 0) = true := int_eq (by omega)
    have H0 := Lib.hid h0; clear h0
    by_cases hn : 1 ≤ N.length
    rotate_left
    · have tn : ¬ (1 : Int) ≤ (N.length : Int) := by omega
      go_wp2_with fail
      go_ret
      exact ⟨ret_bool (HB.out _ (by rw [KO.out]; simp only [Bool.false_eq_true, false_iff]; exact fun h => hn h.2.2.1)).symm, hx⟩
    have tn : (1 : Int) ≤ (N.length : Int) := by omega
    obtain ⟨ao9, ca9, bn, on, h1, hln, hmn, pn, hn9⟩ := Rep.ints RN.out
    simp only [List.cons.injEq, and_true, Value.slice.injEq] at h1
    obtain ⟨rfl, -, rfl⟩ := h1
    obtain rfl := pn (by omega)
    unfold maxLen at hmn
    have CM : Hid (∀ W, Ext w W → Calls Tryz.prog 228 #[.slice (some ⟨bn, on, none⟩) N.length cn] W fun e w' => e = .returned (.int .i64 (Lib.minOf N)) ∧ w' = W) := Lib.hid fun W h => by
      have := Tryz.slices_Min_int bn on N.length cn N W (by omega) (Nat.le_refl _) (by omega) (fun j hj => Ext.cell h (hn9 j _ (by rw [List.getD_eq_getElem?_getD, List.getElem?_eq_getElem hj]; rfl)))
      rwa [List.take_length] at this
    have HMN : Hid (0 ≤ Lib.minOf N ↔ ∀ n, n ∈ N → 0 ≤ n) := Lib.hid (min_ge N (by omega))
    have HN1 := Lib.hid hn
    clear hn9 pn hn
    go_wp2_with fail
    refine (CM.out _ hx).mono ?_
    obtain ⟨mn, hmn2⟩ : ∃ q, Lib.minOf N = q := ⟨_, rfl⟩
    rw [hmn2] at HMN ⊢
    clear hmn2
    rintro e w5 ⟨rfl, hw5⟩
    subst w5
    by_cases h0 : 0 ≤ mn
    · have H00 := Lib.hid h0
      go_wp2_with fail
      go_ret
      exact ⟨ret_bool (HB.out _ (by rw [KO.out]; simp only [HC.out, H0.out, HN1.out, true_and]; rw [← HMN.out]; simp [H00.out])).symm, hx⟩
    · have H00 := Lib.hid h0
      go_wp2_with fail
      go_ret
      exact ⟨ret_bool (HB.out _ (by rw [KO.out]; simp only [HC.out, H0.out, HN1.out, true_and]; rw [← HMN.out]; simp [H00.out])).symm, hx⟩

end Go.Proofs.YticdmbmjlaomiaaGreatDoor
