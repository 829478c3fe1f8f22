/-
  CONTRACTS: an object of a store, of the reference.
  Conditions: those that each lemma states.
-/
import Derived.Test.YticdmbmjlaomiaaGreatDoorRows
import Derived.Test.YticdmbmjlaomiaaGreatDoorFnObjI
namespace Go.Proofs.YticdmbmjlaomiaaGreatDoor
open Go.RowKit
set_option linter.unusedSimpArgs false
set_option linter.unusedVariables false

set_option maxRecDepth 100000 in
set_option maxHeartbeats 4000000 in
theorem l9Object_any (l : List MClassInfo) (o : MObject) (co : List Value) (B : Nat) (a1 : Option Addr) (c1 : Nat) (a2 : Option Addr) (n2 c2 : Nat) (bk : Int) (w : World)
    (b0 : w.cell? ⟨B, 0, none⟩ = some (.slice a1 l.length c1)) (b1 : w.cell? ⟨B, 1, none⟩ = some (.slice a2 n2 c2))
    (rl : Rep w (MClassInfos l) [.slice a1 l.length c1]) (ro : Rep w o.d co) (hok : ClsOk l) (hv : ∀ v, v ∈ o.fields → v.text.size ≤ 1048576) :
    Calls Tryz.prog 130 #[.pointer (some ⟨B, 0, none⟩), .agg co.toArray, .int .i64 bk] w fun e w' => e = .returned (.bool (objB l n2 bk o)) ∧ Ext w w' := by
  have RL := Lib.hid rl
  obtain ⟨af, cf, an, cn, rfl, rf, rn⟩ := MObject.op_en ro
  clear ro
  obtain ⟨ao, ca, bl, ol, h1, hla, hma, pa, ha⟩ := Rep.slmap rl
  simp only [List.cons.injEq, and_true, Value.slice.injEq] at h1
  obtain ⟨rfl, -, rfl⟩ := h1
  have hlen := hok.1.1
  have hl24 := hok.1.2
  obtain rfl := pa (by omega)
  obtain ⟨afo, cfo, bf, of', h1, hlf, hmf, pf, hf⟩ := Rep.slmap rf
  simp only [List.cons.injEq, and_true, Value.slice.injEq] at h1
  obtain ⟨rfl, -, rfl⟩ := h1
  have RN := Lib.hid rn
  have HOK := Lib.hid hok
  have HV := Lib.hid hv
  clear rl rf rn pa hok hv
  unfold maxLen at hma hmf
  have CB : Hid (∀ (n a b : Int) W (v : Bool), decide (a ≤ n ∧ n ≤ b) = v → Calls Tryz.prog 127 #[.int .i64 n, .int .i64 a, .int .i64 b] W fun e w' => e = .returned (.bool v) ∧ Ext W w') := Lib.hid fun n a b W v h => (l1In_any n a b W).mono fun e w' ⟨h1, h2⟩ => ⟨by rw [h1, ← h], by rw [h2]; exact Ext.refl _⟩
  obtain ⟨K, C, F, N⟩ := o
  simp only at *
  have NB : Hid ((¬ ∀ v, v ∈ F → FitP l.length n2 bk v) → objB l n2 bk ⟨K, C, F, N⟩ = false) := Lib.hid fun h => objB_ff fun hh => h hh.1
  have HB0 : Hid ((∀ v, v ∈ F → FitP l.length n2 bk v) → ∀ b : Bool, (b = true ↔ KindOk l ⟨K, C, F, N⟩) → objB l n2 bk ⟨K, C, F, N⟩ = b) := Lib.hid fun hf b h => objB_of hf h
  have zB : B < w.heap.size := lt_of_cell b0
  go_enter Tryz.func130, Tryz.ntmps130
  go_wp2_with fail
  generalize hS : World.alloc w _ = W1
  have x1 : Ext w W1 := by rw [← hS]; exact (Ext.refl _).alloc _
  have o0 : W1.cell? ⟨w.heap.size, 0, none⟩ = some (.int .i64 K) := by rw [← hS]; simp
  have o1 : W1.cell? ⟨w.heap.size, 1, none⟩ = some (.int .i64 C) := by rw [← hS]; simp
  have o2 : W1.cell? ⟨w.heap.size, 2, none⟩ = some (.slice af F.length cf) := by rw [← hS]; simp
  have o3 : W1.cell? ⟨w.heap.size, 3, none⟩ = some (.slice an N.length cn) := by rw [← hS]; simp
  have s0 := Ext.cell x1 b0
  have s1 := Ext.cell x1 b1
  clear hS
  go_loopw [7] (fun iv wr => ∃ k : Nat, k ≤ F.length ∧ iv = .int .i64 k ∧ Ext W1 wr ∧ Hid (∀ i v, i < k → F[i]? = some v → FitP l.length n2 bk v)) (fun iv _ => F.length - (intOf iv).toNat)
  case atStart => exact ⟨0, Nat.zero_le _, rfl, Ext.refl _, Lib.hid fun i v hi => by omega⟩
  case round =>
    obtain ⟨k, hk, rfl, hx1, hR⟩ := hrel
    have hx := x1.trans hx1
    have O2 := Ext.cell hx1 o2
    by_cases hlt : k < F.length
    · obtain rfl := pf (by omega)
      obtain ⟨v, hv⟩ : ∃ v, v = F[k] := ⟨_, rfl⟩
      have hvk : F[k]? = some v := by rw [hv]; simp [hlt]
      have hvz := HV.out v (by rw [hv]; exact List.getElem_mem _)
      clear hv
      obtain ⟨es, les, ces, res⟩ := hf k v hvk
      obtain rfl := MValue.op_en res
      have q0 := hx.cell (show w.cell? ⟨bf, of' + k * 3, none⟩ = some _ from ces 0 (by omega))
      have q1 := hx.cell (show w.cell? ⟨bf, of' + k * 3 + 1, none⟩ = some _ from ces 1 (by omega))
      have q2 := hx.cell (show w.cell? ⟨bf, of' + k * 3 + 2, none⟩ = some _ from ces 2 (by omega))
      have S0 := Ext.cell hx1 s0
      have S1 := Ext.cell hx1 s1
      have HVK := Lib.hid hvk
      have CE : Hid (∀ W, Ext wr W → Calls Tryz.prog 48 #[.pointer (some ⟨B, 0, none⟩), .agg #[.int .i64 v.kind, .int .i64 v.number, .string v.text], .int .i64 bk] W fun e w' => e = .returned (.bool (fitB l.length n2 bk v)) ∧ Ext W w') := Lib.hid fun W h => l9Fits_any v [.int .i64 v.kind, .int .i64 v.number, .string v.text] B _ _ _ _ _ _ _ W (MValue.shut (w := W) (x := v)).rep hvz (h.cell S0) (h.cell S1)
      clear les ces res hvk
      obtain ⟨vk, vn, vt⟩ := v
      simp only at q0 q1 q2 CE HVK
      cases hfit : fitB l.length n2 bk ⟨vk, vn, vt⟩
      · have HF : Hid (¬ ∀ v, v ∈ F → FitP l.length n2 bk v) := Lib.hid fun h => by
          have := fitB_tt (h _ (List.mem_of_getElem? HVK.out))
          rw [hfit] at this; cases this
        rw [hfit] at CE; clear hfit
        go_wp2_with fail
        refine (CE.out _ (Ext.refl _)).mono ?_
        rintro e w3 ⟨rfl, hx3⟩
        go_wp2_with fail
        go_ret
        exact ⟨ret_bool (NB.out HF.out).symm, hx.trans hx3⟩
      · have HF := Lib.hid (fitB_iff.1 hfit)
        rw [hfit] at CE; clear hfit
        go_wp2_with fail
        refine (CE.out _ (Ext.refl _)).mono ?_
        rintro e w3 ⟨rfl, hx3⟩
        go_wp2_with fail
        go_roundw
        case rel => exact ⟨k + 1, by omega, by go_num, hx1.trans hx3, Lib.hid fun i v hi hv => by
          by_cases h2 : i < k
          · exact hR.out i v h2 hv
          · obtain rfl : i = k := by omega
            rw [HVK.out] at hv; injection hv with hv; subst hv; exact HF.out⟩
        case measure => simp [intOf]; omega
    have HB : Hid (∀ b : Bool, (b = true ↔ KindOk l ⟨K, C, F, N⟩) → objB l n2 bk ⟨K, C, F, N⟩ = b) := Lib.hid (HB0.out fun v hv => by
      obtain ⟨i, hi, rfl⟩ := List.mem_iff_getElem.1 hv
      exact hR.out i _ (by omega) (by simp [hi]))
    have O0 := Ext.cell hx1 o0
    have O1 := Ext.cell hx1 o1
    have O3 := Ext.cell hx1 o3
    have S0 := Ext.cell hx1 s0
    clear o0 o1 o2 o3 s0 s1 NB HB0 hf pf
    by_cases h1 : K = 1
    · subst h1
      have CI : Hid (∀ (b : Bool) (W : World), Ext w W → isaB l C = b → Calls Tryz.prog 222 #[.slice (some ⟨bl, ol, none⟩) l.length c1, .int .i64 C, .int .i64 1] W fun e w' => e = .returned (.bool b) ∧ Ext W w') := Lib.hid fun b W h hb => (l9IsA_any l _ C W (Rep.ext h RL.out) HOK.out).mono fun e w' ⟨h1, h2⟩ => ⟨by rw [h1, hb], by rw [h2]; exact Ext.refl _⟩
      obtain ⟨b, hb⟩ : ∃ b, isaB l C = b := ⟨_, rfl⟩
      have HB1 := Lib.hid hb; clear hb
      by_cases hin : 0 ≤ C ∧ C ≤ (l.length : Int) - 1 ∧ ¬ (5 ≤ C ∧ C ≤ 15)
      rotate_left
      · have HIN := Lib.hid hin
        have NK : Hid (false = true ↔ KindOk l ⟨1, C, F, N⟩) := Lib.hid (by
          constructor
          · intro h; cases h
          · rintro (⟨-, h1, h2, -⟩ | ⟨h, -⟩ | ⟨h, -⟩)
            · exact absurd ⟨h1.1, h1.2, h2⟩ HIN.out
            · exact absurd (show (1 : Int) = 2 from h) (by decide)
            · exact absurd (show (1 : Int) = 3 from h) (by decide))
        have t0 : (C == 0) = false := int_ne (by omega)
        have HA : Hid (decide ((1 : Int) ≤ C ∧ C ≤ 4) = false) := Lib.hid (decide_eq_false (by omega))
        have HG : Hid (decide ((16 : Int) ≤ C ∧ C ≤ (l.length : Int) - 1) = false) := Lib.hid (decide_eq_false (by omega))
        clear hin
        cases b
        · skip
          go_wp2_with fail
          have r1 := reg (Ext.refl _) O1
          have r2 := reg (Ext.refl _) O2
          have r3 := reg (Ext.refl _) O3
          have rs := reg (Ext.refl _) S0
          refine wp_region_quiet_below (by kernel_rfl) (by kernel_rfl) ?_
          repeat (go_big_quiet_step ((go_at_call 222; exact Calls.regrown_of (CI.out _ _ (hx.trans (regx _ _)) HB1.out))))
          refine wpQuiet_nil ?_
          clear r1 r2 r3 rs
          intro _ hw'
          obtain ⟨pw, hw''⟩ := hw'
          subst hw''
          have XW3 := regx wr pw
          generalize hWR : «Sort».grow (redrawn wr pw.d) pw.os = W3 at *
          clear hWR
          replace O1 := Ext.cell XW3 O1
          replace O2 := Ext.cell XW3 O2
          replace O3 := Ext.cell XW3 O3
          replace S0 := Ext.cell XW3 S0
          replace hx := hx.trans XW3
          go_wp2_with fail
          have r1 := reg (Ext.refl _) O1
          have r2 := reg (Ext.refl _) O2
          have r3 := reg (Ext.refl _) O3
          have rs := reg (Ext.refl _) S0
          refine wp_region_quiet_below (by kernel_rfl) (by kernel_rfl) ?_
          repeat (go_big_quiet_step ((go_at_call 127; exact Calls.regrown_of (CB.out _ _ _ _ _ (by first | exact HA.out | exact HG.out)))))
          refine wpQuiet_nil ?_
          clear r1 r2 r3 rs
          intro _ hw'
          obtain ⟨pw, hw''⟩ := hw'
          subst hw''
          have XW4 := regx W3 pw
          generalize hWR : «Sort».grow (redrawn W3 pw.d) pw.os = W4 at *
          clear hWR
          replace O1 := Ext.cell XW4 O1
          replace O2 := Ext.cell XW4 O2
          replace O3 := Ext.cell XW4 O3
          replace S0 := Ext.cell XW4 S0
          go_wp2_with fail
          have r1 := reg (Ext.refl _) O1
          have r2 := reg (Ext.refl _) O2
          have r3 := reg (Ext.refl _) O3
          have rs := reg (Ext.refl _) S0
          refine wp_region_quiet_below (by kernel_rfl) (by kernel_rfl) ?_
          repeat (go_big_quiet_step (fail))
          refine wpQuiet_nil ?_
          clear r1 r2 r3 rs
          intro _ hw'
          obtain ⟨pw, hw''⟩ := hw'
          subst hw''
          have XW5 := regx W4 pw
          generalize hWR : «Sort».grow (redrawn W4 pw.d) pw.os = W5 at *
          clear hWR
          go_wp2_with fail
          go_ret
          exact ⟨ret_bool (HB.out _ (NK.out)).symm, (hx.trans XW4).trans XW5⟩
        · skip
          go_wp2_with fail
          have r1 := reg (Ext.refl _) O1
          have r2 := reg (Ext.refl _) O2
          have r3 := reg (Ext.refl _) O3
          have rs := reg (Ext.refl _) S0
          refine wp_region_quiet_below (by kernel_rfl) (by kernel_rfl) ?_
          repeat (go_big_quiet_step ((go_at_call 222; exact Calls.regrown_of (CI.out _ _ (hx.trans (regx _ _)) HB1.out))))
          refine wpQuiet_nil ?_
          clear r1 r2 r3 rs
          intro _ hw'
          obtain ⟨pw, hw''⟩ := hw'
          subst hw''
          have XW3 := regx wr pw
          generalize hWR : «Sort».grow (redrawn wr pw.d) pw.os = W3 at *
          clear hWR
          replace O1 := Ext.cell XW3 O1
          replace O2 := Ext.cell XW3 O2
          replace O3 := Ext.cell XW3 O3
          replace S0 := Ext.cell XW3 S0
          replace hx := hx.trans XW3
          go_wp2_with fail
          have r1 := reg (Ext.refl _) O1
          have r2 := reg (Ext.refl _) O2
          have r3 := reg (Ext.refl _) O3
          have rs := reg (Ext.refl _) S0
          refine wp_region_quiet_below (by kernel_rfl) (by kernel_rfl) ?_
          repeat (go_big_quiet_step ((go_at_call 127; exact Calls.regrown_of (CB.out _ _ _ _ _ (by first | exact HA.out | exact HG.out)))))
          refine wpQuiet_nil ?_
          clear r1 r2 r3 rs
          intro _ hw'
          obtain ⟨pw, hw''⟩ := hw'
          subst hw''
          have XW4 := regx W3 pw
          generalize hWR : «Sort».grow (redrawn W3 pw.d) pw.os = W4 at *
          clear hWR
          replace O1 := Ext.cell XW4 O1
          replace O2 := Ext.cell XW4 O2
          replace O3 := Ext.cell XW4 O3
          replace S0 := Ext.cell XW4 S0
          go_wp2_with fail
          have r1 := reg (Ext.refl _) O1
          have r2 := reg (Ext.refl _) O2
          have r3 := reg (Ext.refl _) O3
          have rs := reg (Ext.refl _) S0
          refine wp_region_quiet_below (by kernel_rfl) (by kernel_rfl) ?_
          repeat (go_big_quiet_step (fail))
          refine wpQuiet_nil ?_
          clear r1 r2 r3 rs
          intro _ hw'
          obtain ⟨pw, hw''⟩ := hw'
          subst hw''
          have XW5 := regx W4 pw
          generalize hWR : «Sort».grow (redrawn W4 pw.d) pw.os = W5 at *
          clear hWR
          go_wp2_with fail
          go_ret
          exact ⟨ret_bool (HB.out _ (NK.out)).symm, (hx.trans XW4).trans XW5⟩
      obtain ⟨m, rfl⟩ : ∃ m : Nat, C = m := ⟨C.toNat, by omega⟩
      have hm : m < l.length := by omega
      have HI : Hid (isaB l m = b) := HB1
      obtain ⟨c, hcc⟩ : ∃ c, c = l[m] := ⟨_, rfl⟩
      have hcm : l[m]? = some c := by rw [hcc]; simp [hm]
      clear hcc
      obtain ⟨es, les, ces, res⟩ := ha m c hcm
      obtain ⟨acf, ccf, rfl, -⟩ := MClassInfo.op_en res
      have q2 : w.cell? ⟨bl, ol + m * 3 + 2, none⟩ = some _ := ces 2 (by omega)
      replace q2 := Ext.cell hx q2
      have HCM := Lib.hid hcm
      clear les ces res hcm
      obtain ⟨cnm, cpar, cfs⟩ := c
      simp only at q2 HCM
      have HIN := Lib.hid hin
      have KO : Hid (KindOk l ⟨1, m, F, N⟩ ↔ F.length = cfs.length ∧ N.length = (if isaB l m = true then 3 else 0)) := Lib.hid (by
        simp only [KindOk]
        constructor
        · rintro (⟨-, -, -, h1, h2⟩ | ⟨h, -⟩ | ⟨h, -⟩)
          · exact ⟨h1 _ (by rw [Int.toNat_natCast]; exact HCM.out), h2⟩
          · omega
          · omega
        · rintro ⟨h1, h2⟩
          refine Or.inl ⟨trivial, ⟨HIN.out.1, HIN.out.2.1⟩, HIN.out.2.2, fun c h => ?_, h2⟩
          rw [Int.toNat_natCast, HCM.out] at h; injection h with h; subst h; exact h1)
      have m0 : (0 : Int) ≤ m := by omega
      have m1 : (m : Int) < l.length := by omega
      have t015 : ¬ (5 ≤ (m : Int) ∧ (m : Int) ≤ 15) := hin.2.2
      clear hin
      cases b
      · skip
        by_cases h0 : (m : Int) = 0
        · have t0 : ((m : Int) == 0) = true := int_eq (by omega)
          have HA : Hid (decide ((1 : Int) ≤ m ∧ (m : Int) ≤ 4) = false) := Lib.hid (decide_eq_false (by omega))
          have HG : Hid (decide ((16 : Int) ≤ m ∧ (m : Int) ≤ (l.length : Int) - 1) = false) := Lib.hid (decide_eq_false (by omega))
          clear h0 t015
          by_cases hfl : F.length = cfs.length
          rotate_left
          · have tf : ((F.length : Int) == (cfs.length : Int)) = false := int_ne (by omega)
            have HFL := Lib.hid hfl; clear hfl
            go_wp2_with fail
            have r1 := reg (Ext.refl _) O1
            have r2 := reg (Ext.refl _) O2
            have r3 := reg (Ext.refl _) O3
            have rs := reg (Ext.refl _) S0
            refine wp_region_quiet_below (by kernel_rfl) (by kernel_rfl) ?_
            repeat (go_big_quiet_step ((go_at_call 222; exact Calls.regrown_of (CI.out _ _ (hx.trans (regx _ _)) HB1.out))))
            refine wpQuiet_nil ?_
            clear r1 r2 r3 rs
            intro _ hw'
            obtain ⟨pw, hw''⟩ := hw'
            subst hw''
            have XW3 := regx wr pw
            generalize hWR : «Sort».grow (redrawn wr pw.d) pw.os = W3 at *
            clear hWR
            replace O1 := Ext.cell XW3 O1
            replace O2 := Ext.cell XW3 O2
            replace O3 := Ext.cell XW3 O3
            replace S0 := Ext.cell XW3 S0
            replace hx := hx.trans XW3
            go_wp2_with fail
            have r1 := reg (Ext.refl _) O1
            have r2 := reg (Ext.refl _) O2
            have r3 := reg (Ext.refl _) O3
            have rs := reg (Ext.refl _) S0
            refine wp_region_quiet_below (by kernel_rfl) (by kernel_rfl) ?_
            repeat (go_big_quiet_step ((go_at_call 127; exact Calls.regrown_of (CB.out _ _ _ _ _ (by first | exact HA.out | exact HG.out)))))
            refine wpQuiet_nil ?_
            clear r1 r2 r3 rs
            intro _ hw'
            obtain ⟨pw, hw''⟩ := hw'
            subst hw''
            have XW4 := regx W3 pw
            generalize hWR : «Sort».grow (redrawn W3 pw.d) pw.os = W4 at *
            clear hWR
            replace O1 := Ext.cell XW4 O1
            replace O2 := Ext.cell XW4 O2
            replace O3 := Ext.cell XW4 O3
            replace S0 := Ext.cell XW4 S0
            have Q2 := Ext.cell XW4 (Ext.cell XW3 q2)
            go_wp2_with fail
            have r1 := reg (Ext.refl _) O1
            have r2 := reg (Ext.refl _) O2
            have r3 := reg (Ext.refl _) O3
            have rs := reg (Ext.refl _) S0
            have rq := reg (Ext.refl _) Q2
            refine wp_region_quiet_below (by kernel_rfl) (by kernel_rfl) ?_
            repeat (go_big_quiet_step (fail))
            refine wpQuiet_nil ?_
            clear r1 r2 r3 rs rq
            intro _ hw'
            obtain ⟨pw, hw''⟩ := hw'
            subst hw''
            have XW5 := regx W4 pw
            generalize hWR : «Sort».grow (redrawn W4 pw.d) pw.os = W5 at *
            clear hWR
            go_wp2_with fail
            go_ret
            exact ⟨ret_bool (HB.out _ (by rw [KO.out]; constructor <;> intro h <;> first | (cases h; done) | exact absurd h.1 HFL.out)).symm, (hx.trans XW4).trans XW5⟩
          have tf : ((F.length : Int) == (cfs.length : Int)) = true := int_eq (by omega)
          have HFL := Lib.hid hfl; clear hfl
          by_cases hnl : N.length = 0
          rotate_left
          · have tn : ((N.length : Int) == 0) = false := int_ne (by omega)
            have HNL := Lib.hid hnl; clear hnl
            go_wp2_with fail
            have r1 := reg (Ext.refl _) O1
            have r2 := reg (Ext.refl _) O2
            have r3 := reg (Ext.refl _) O3
            have rs := reg (Ext.refl _) S0
            refine wp_region_quiet_below (by kernel_rfl) (by kernel_rfl) ?_
            repeat (go_big_quiet_step ((go_at_call 222; exact Calls.regrown_of (CI.out _ _ (hx.trans (regx _ _)) HB1.out))))
            refine wpQuiet_nil ?_
            clear r1 r2 r3 rs
            intro _ hw'
            obtain ⟨pw, hw''⟩ := hw'
            subst hw''
            have XW3 := regx wr pw
            generalize hWR : «Sort».grow (redrawn wr pw.d) pw.os = W3 at *
            clear hWR
            replace O1 := Ext.cell XW3 O1
            replace O2 := Ext.cell XW3 O2
            replace O3 := Ext.cell XW3 O3
            replace S0 := Ext.cell XW3 S0
            replace hx := hx.trans XW3
            go_wp2_with fail
            have r1 := reg (Ext.refl _) O1
            have r2 := reg (Ext.refl _) O2
            have r3 := reg (Ext.refl _) O3
            have rs := reg (Ext.refl _) S0
            refine wp_region_quiet_below (by kernel_rfl) (by kernel_rfl) ?_
            repeat (go_big_quiet_step ((go_at_call 127; exact Calls.regrown_of (CB.out _ _ _ _ _ (by first | exact HA.out | exact HG.out)))))
            refine wpQuiet_nil ?_
            clear r1 r2 r3 rs
            intro _ hw'
            obtain ⟨pw, hw''⟩ := hw'
            subst hw''
            have XW4 := regx W3 pw
            generalize hWR : «Sort».grow (redrawn W3 pw.d) pw.os = W4 at *
            clear hWR
            replace O1 := Ext.cell XW4 O1
            replace O2 := Ext.cell XW4 O2
            replace O3 := Ext.cell XW4 O3
            replace S0 := Ext.cell XW4 S0
            have Q2 := Ext.cell XW4 (Ext.cell XW3 q2)
            go_wp2_with fail
            have r1 := reg (Ext.refl _) O1
            have r2 := reg (Ext.refl _) O2
            have r3 := reg (Ext.refl _) O3
            have rs := reg (Ext.refl _) S0
            have rq := reg (Ext.refl _) Q2
            refine wp_region_quiet_below (by kernel_rfl) (by kernel_rfl) ?_
            repeat (go_big_quiet_step (fail))
            refine wpQuiet_nil ?_
            clear r1 r2 r3 rs rq
            intro _ hw'
            obtain ⟨pw, hw''⟩ := hw'
            subst hw''
            have XW5 := regx W4 pw
            generalize hWR : «Sort».grow (redrawn W4 pw.d) pw.os = W5 at *
            clear hWR
            go_wp2_with fail
            go_ret
            exact ⟨ret_bool (HB.out _ (by rw [KO.out]; constructor <;> intro h <;> first | (cases h; done) | exact absurd h.2 (by simpa [HI.out] using HNL.out))).symm, (hx.trans XW4).trans XW5⟩
          have tn : ((N.length : Int) == 0) = true := int_eq (by omega)
          have HNL := Lib.hid hnl; clear hnl
          go_wp2_with fail
          have r1 := reg (Ext.refl _) O1
          have r2 := reg (Ext.refl _) O2
          have r3 := reg (Ext.refl _) O3
          have rs := reg (Ext.refl _) S0
          refine wp_region_quiet_below (by kernel_rfl) (by kernel_rfl) ?_
          repeat (go_big_quiet_step ((go_at_call 222; exact Calls.regrown_of (CI.out _ _ (hx.trans (regx _ _)) HB1.out))))
          refine wpQuiet_nil ?_
          clear r1 r2 r3 rs
          intro _ hw'
          obtain ⟨pw, hw''⟩ := hw'
          subst hw''
          have XW3 := regx wr pw
          generalize hWR : «Sort».grow (redrawn wr pw.d) pw.os = W3 at *
          clear hWR
          replace O1 := Ext.cell XW3 O1
          replace O2 := Ext.cell XW3 O2
          replace O3 := Ext.cell XW3 O3
          replace S0 := Ext.cell XW3 S0
          replace hx := hx.trans XW3
          go_wp2_with fail
          have r1 := reg (Ext.refl _) O1
          have r2 := reg (Ext.refl _) O2
          have r3 := reg (Ext.refl _) O3
          have rs := reg (Ext.refl _) S0
          refine wp_region_quiet_below (by kernel_rfl) (by kernel_rfl) ?_
          repeat (go_big_quiet_step ((go_at_call 127; exact Calls.regrown_of (CB.out _ _ _ _ _ (by first | exact HA.out | exact HG.out)))))
          refine wpQuiet_nil ?_
          clear r1 r2 r3 rs
          intro _ hw'
          obtain ⟨pw, hw''⟩ := hw'
          subst hw''
          have XW4 := regx W3 pw
          generalize hWR : «Sort».grow (redrawn W3 pw.d) pw.os = W4 at *
          clear hWR
          replace O1 := Ext.cell XW4 O1
          replace O2 := Ext.cell XW4 O2
          replace O3 := Ext.cell XW4 O3
          replace S0 := Ext.cell XW4 S0
          have Q2 := Ext.cell XW4 (Ext.cell XW3 q2)
          go_wp2_with fail
          have r1 := reg (Ext.refl _) O1
          have r2 := reg (Ext.refl _) O2
          have r3 := reg (Ext.refl _) O3
          have rs := reg (Ext.refl _) S0
          have rq := reg (Ext.refl _) Q2
          refine wp_region_quiet_below (by kernel_rfl) (by kernel_rfl) ?_
          repeat (go_big_quiet_step (fail))
          refine wpQuiet_nil ?_
          clear r1 r2 r3 rs rq
          intro _ hw'
          obtain ⟨pw, hw''⟩ := hw'
          subst hw''
          have XW5 := regx W4 pw
          generalize hWR : «Sort».grow (redrawn W4 pw.d) pw.os = W5 at *
          clear hWR
          go_wp2_with fail
          go_ret
          exact ⟨ret_bool (HB.out _ (by rw [KO.out, HFL.out, HNL.out, HI.out]; simp)).symm, (hx.trans XW4).trans XW5⟩
        by_cases h14 : 1 ≤ (m : Int) ∧ (m : Int) ≤ 4
        · have t0 : ((m : Int) == 0) = false := int_ne (by omega)
          have HA : Hid (decide ((1 : Int) ≤ m ∧ (m : Int) ≤ 4) = true) := Lib.hid (decide_eq_true (by omega))
          have HG : Hid (decide ((16 : Int) ≤ m ∧ (m : Int) ≤ (l.length : Int) - 1) = false) := Lib.hid (decide_eq_false (by omega))
          clear h0 h14 t015
          by_cases hfl : F.length = cfs.length
          rotate_left
          · have tf : ((F.length : Int) == (cfs.length : Int)) = false := int_ne (by omega)
            have HFL := Lib.hid hfl; clear hfl
            go_wp2_with fail
            have r1 := reg (Ext.refl _) O1
            have r2 := reg (Ext.refl _) O2
            have r3 := reg (Ext.refl _) O3
            have rs := reg (Ext.refl _) S0
            refine wp_region_quiet_below (by kernel_rfl) (by kernel_rfl) ?_
            repeat (go_big_quiet_step ((go_at_call 222; exact Calls.regrown_of (CI.out _ _ (hx.trans (regx _ _)) HB1.out))))
            refine wpQuiet_nil ?_
            clear r1 r2 r3 rs
            intro _ hw'
            obtain ⟨pw, hw''⟩ := hw'
            subst hw''
            have XW3 := regx wr pw
            generalize hWR : «Sort».grow (redrawn wr pw.d) pw.os = W3 at *
            clear hWR
            replace O1 := Ext.cell XW3 O1
            replace O2 := Ext.cell XW3 O2
            replace O3 := Ext.cell XW3 O3
            replace S0 := Ext.cell XW3 S0
            replace hx := hx.trans XW3
            go_wp2_with fail
            have r1 := reg (Ext.refl _) O1
            have r2 := reg (Ext.refl _) O2
            have r3 := reg (Ext.refl _) O3
            have rs := reg (Ext.refl _) S0
            refine wp_region_quiet_below (by kernel_rfl) (by kernel_rfl) ?_
            repeat (go_big_quiet_step ((go_at_call 127; exact Calls.regrown_of (CB.out _ _ _ _ _ (by first | exact HA.out | exact HG.out)))))
            refine wpQuiet_nil ?_
            clear r1 r2 r3 rs
            intro _ hw'
            obtain ⟨pw, hw''⟩ := hw'
            subst hw''
            have XW4 := regx W3 pw
            generalize hWR : «Sort».grow (redrawn W3 pw.d) pw.os = W4 at *
            clear hWR
            replace O1 := Ext.cell XW4 O1
            replace O2 := Ext.cell XW4 O2
            replace O3 := Ext.cell XW4 O3
            replace S0 := Ext.cell XW4 S0
            have Q2 := Ext.cell XW4 (Ext.cell XW3 q2)
            go_wp2_with fail
            have r1 := reg (Ext.refl _) O1
            have r2 := reg (Ext.refl _) O2
            have r3 := reg (Ext.refl _) O3
            have rs := reg (Ext.refl _) S0
            have rq := reg (Ext.refl _) Q2
            refine wp_region_quiet_below (by kernel_rfl) (by kernel_rfl) ?_
            repeat (go_big_quiet_step (fail))
            refine wpQuiet_nil ?_
            clear r1 r2 r3 rs rq
            intro _ hw'
            obtain ⟨pw, hw''⟩ := hw'
            subst hw''
            have XW5 := regx W4 pw
            generalize hWR : «Sort».grow (redrawn W4 pw.d) pw.os = W5 at *
            clear hWR
            go_wp2_with fail
            go_ret
            exact ⟨ret_bool (HB.out _ (by rw [KO.out]; constructor <;> intro h <;> first | (cases h; done) | exact absurd h.1 HFL.out)).symm, (hx.trans XW4).trans XW5⟩
          have tf : ((F.length : Int) == (cfs.length : Int)) = true := int_eq (by omega)
          have HFL := Lib.hid hfl; clear hfl
          by_cases hnl : N.length = 0
          rotate_left
          · have tn : ((N.length : Int) == 0) = false := int_ne (by omega)
            have HNL := Lib.hid hnl; clear hnl
            go_wp2_with fail
            have r1 := reg (Ext.refl _) O1
            have r2 := reg (Ext.refl _) O2
            have r3 := reg (Ext.refl _) O3
            have rs := reg (Ext.refl _) S0
            refine wp_region_quiet_below (by kernel_rfl) (by kernel_rfl) ?_
            repeat (go_big_quiet_step ((go_at_call 222; exact Calls.regrown_of (CI.out _ _ (hx.trans (regx _ _)) HB1.out))))
            refine wpQuiet_nil ?_
            clear r1 r2 r3 rs
            intro _ hw'
            obtain ⟨pw, hw''⟩ := hw'
            subst hw''
            have XW3 := regx wr pw
            generalize hWR : «Sort».grow (redrawn wr pw.d) pw.os = W3 at *
            clear hWR
            replace O1 := Ext.cell XW3 O1
            replace O2 := Ext.cell XW3 O2
            replace O3 := Ext.cell XW3 O3
            replace S0 := Ext.cell XW3 S0
            replace hx := hx.trans XW3
            go_wp2_with fail
            have r1 := reg (Ext.refl _) O1
            have r2 := reg (Ext.refl _) O2
            have r3 := reg (Ext.refl _) O3
            have rs := reg (Ext.refl _) S0
            refine wp_region_quiet_below (by kernel_rfl) (by kernel_rfl) ?_
            repeat (go_big_quiet_step ((go_at_call 127; exact Calls.regrown_of (CB.out _ _ _ _ _ (by first | exact HA.out | exact HG.out)))))
            refine wpQuiet_nil ?_
            clear r1 r2 r3 rs
            intro _ hw'
            obtain ⟨pw, hw''⟩ := hw'
            subst hw''
            have XW4 := regx W3 pw
            generalize hWR : «Sort».grow (redrawn W3 pw.d) pw.os = W4 at *
            clear hWR
            replace O1 := Ext.cell XW4 O1
            replace O2 := Ext.cell XW4 O2
            replace O3 := Ext.cell XW4 O3
            replace S0 := Ext.cell XW4 S0
            have Q2 := Ext.cell XW4 (Ext.cell XW3 q2)
            go_wp2_with fail
            have r1 := reg (Ext.refl _) O1
            have r2 := reg (Ext.refl _) O2
            have r3 := reg (Ext.refl _) O3
            have rs := reg (Ext.refl _) S0
            have rq := reg (Ext.refl _) Q2
            refine wp_region_quiet_below (by kernel_rfl) (by kernel_rfl) ?_
            repeat (go_big_quiet_step (fail))
            refine wpQuiet_nil ?_
            clear r1 r2 r3 rs rq
            intro _ hw'
            obtain ⟨pw, hw''⟩ := hw'
            subst hw''
            have XW5 := regx W4 pw
            generalize hWR : «Sort».grow (redrawn W4 pw.d) pw.os = W5 at *
            clear hWR
            go_wp2_with fail
            go_ret
            exact ⟨ret_bool (HB.out _ (by rw [KO.out]; constructor <;> intro h <;> first | (cases h; done) | exact absurd h.2 (by simpa [HI.out] using HNL.out))).symm, (hx.trans XW4).trans XW5⟩
          have tn : ((N.length : Int) == 0) = true := int_eq (by omega)
          have HNL := Lib.hid hnl; clear hnl
          go_wp2_with fail
          have r1 := reg (Ext.refl _) O1
          have r2 := reg (Ext.refl _) O2
          have r3 := reg (Ext.refl _) O3
          have rs := reg (Ext.refl _) S0
          refine wp_region_quiet_below (by kernel_rfl) (by kernel_rfl) ?_
          repeat (go_big_quiet_step ((go_at_call 222; exact Calls.regrown_of (CI.out _ _ (hx.trans (regx _ _)) HB1.out))))
          refine wpQuiet_nil ?_
          clear r1 r2 r3 rs
          intro _ hw'
          obtain ⟨pw, hw''⟩ := hw'
          subst hw''
          have XW3 := regx wr pw
          generalize hWR : «Sort».grow (redrawn wr pw.d) pw.os = W3 at *
          clear hWR
          replace O1 := Ext.cell XW3 O1
          replace O2 := Ext.cell XW3 O2
          replace O3 := Ext.cell XW3 O3
          replace S0 := Ext.cell XW3 S0
          replace hx := hx.trans XW3
          go_wp2_with fail
          have r1 := reg (Ext.refl _) O1
          have r2 := reg (Ext.refl _) O2
          have r3 := reg (Ext.refl _) O3
          have rs := reg (Ext.refl _) S0
          refine wp_region_quiet_below (by kernel_rfl) (by kernel_rfl) ?_
          repeat (go_big_quiet_step ((go_at_call 127; exact Calls.regrown_of (CB.out _ _ _ _ _ (by first | exact HA.out | exact HG.out)))))
          refine wpQuiet_nil ?_
          clear r1 r2 r3 rs
          intro _ hw'
          obtain ⟨pw, hw''⟩ := hw'
          subst hw''
          have XW4 := regx W3 pw
          generalize hWR : «Sort».grow (redrawn W3 pw.d) pw.os = W4 at *
          clear hWR
          replace O1 := Ext.cell XW4 O1
          replace O2 := Ext.cell XW4 O2
          replace O3 := Ext.cell XW4 O3
          replace S0 := Ext.cell XW4 S0
          have Q2 := Ext.cell XW4 (Ext.cell XW3 q2)
          go_wp2_with fail
          have r1 := reg (Ext.refl _) O1
          have r2 := reg (Ext.refl _) O2
          have r3 := reg (Ext.refl _) O3
          have rs := reg (Ext.refl _) S0
          have rq := reg (Ext.refl _) Q2
          refine wp_region_quiet_below (by kernel_rfl) (by kernel_rfl) ?_
          repeat (go_big_quiet_step (fail))
          refine wpQuiet_nil ?_
          clear r1 r2 r3 rs rq
          intro _ hw'
          obtain ⟨pw, hw''⟩ := hw'
          subst hw''
          have XW5 := regx W4 pw
          generalize hWR : «Sort».grow (redrawn W4 pw.d) pw.os = W5 at *
          clear hWR
          go_wp2_with fail
          go_ret
          exact ⟨ret_bool (HB.out _ (by rw [KO.out, HFL.out, HNL.out, HI.out]; simp)).symm, (hx.trans XW4).trans XW5⟩
        have t0 : ((m : Int) == 0) = false := int_ne (by omega)
        have HA : Hid (decide ((1 : Int) ≤ m ∧ (m : Int) ≤ 4) = false) := Lib.hid (decide_eq_false (by omega))
        have HG : Hid (decide ((16 : Int) ≤ m ∧ (m : Int) ≤ (l.length : Int) - 1) = true) := Lib.hid (decide_eq_true (by omega))
        clear h0 h14 t015
        by_cases hfl : F.length = cfs.length
        rotate_left
        · have tf : ((F.length : Int) == (cfs.length : Int)) = false := int_ne (by omega)
          have HFL := Lib.hid hfl; clear hfl
          go_wp2_with fail
          have r1 := reg (Ext.refl _) O1
          have r2 := reg (Ext.refl _) O2
          have r3 := reg (Ext.refl _) O3
          have rs := reg (Ext.refl _) S0
          refine wp_region_quiet_below (by kernel_rfl) (by kernel_rfl) ?_
          repeat (go_big_quiet_step ((go_at_call 222; exact Calls.regrown_of (CI.out _ _ (hx.trans (regx _ _)) HB1.out))))
          refine wpQuiet_nil ?_
          clear r1 r2 r3 rs
          intro _ hw'
          obtain ⟨pw, hw''⟩ := hw'
          subst hw''
          have XW3 := regx wr pw
          generalize hWR : «Sort».grow (redrawn wr pw.d) pw.os = W3 at *
          clear hWR
          replace O1 := Ext.cell XW3 O1
          replace O2 := Ext.cell XW3 O2
          replace O3 := Ext.cell XW3 O3
          replace S0 := Ext.cell XW3 S0
          replace hx := hx.trans XW3
          go_wp2_with fail
          have r1 := reg (Ext.refl _) O1
          have r2 := reg (Ext.refl _) O2
          have r3 := reg (Ext.refl _) O3
          have rs := reg (Ext.refl _) S0
          refine wp_region_quiet_below (by kernel_rfl) (by kernel_rfl) ?_
          repeat (go_big_quiet_step ((go_at_call 127; exact Calls.regrown_of (CB.out _ _ _ _ _ (by first | exact HA.out | exact HG.out)))))
          refine wpQuiet_nil ?_
          clear r1 r2 r3 rs
          intro _ hw'
          obtain ⟨pw, hw''⟩ := hw'
          subst hw''
          have XW4 := regx W3 pw
          generalize hWR : «Sort».grow (redrawn W3 pw.d) pw.os = W4 at *
          clear hWR
          replace O1 := Ext.cell XW4 O1
          replace O2 := Ext.cell XW4 O2
          replace O3 := Ext.cell XW4 O3
          replace S0 := Ext.cell XW4 S0
          have Q2 := Ext.cell XW4 (Ext.cell XW3 q2)
          go_wp2_with fail
          have r1 := reg (Ext.refl _) O1
          have r2 := reg (Ext.refl _) O2
          have r3 := reg (Ext.refl _) O3
          have rs := reg (Ext.refl _) S0
          have rq := reg (Ext.refl _) Q2
          refine wp_region_quiet_below (by kernel_rfl) (by kernel_rfl) ?_
          repeat (go_big_quiet_step (fail))
          refine wpQuiet_nil ?_
          clear r1 r2 r3 rs rq
          intro _ hw'
          obtain ⟨pw, hw''⟩ := hw'
          subst hw''
          have XW5 := regx W4 pw
          generalize hWR : «Sort».grow (redrawn W4 pw.d) pw.os = W5 at *
          clear hWR
          go_wp2_with fail
          go_ret
          exact ⟨ret_bool (HB.out _ (by rw [KO.out]; constructor <;> intro h <;> first | (cases h; done) | exact absurd h.1 HFL.out)).symm, (hx.trans XW4).trans XW5⟩
        have tf : ((F.length : Int) == (cfs.length : Int)) = true := int_eq (by omega)
        have HFL := Lib.hid hfl; clear hfl
        by_cases hnl : N.length = 0
        rotate_left
        · have tn : ((N.length : Int) == 0) = false := int_ne (by omega)
          have HNL := Lib.hid hnl; clear hnl
          go_wp2_with fail
          have r1 := reg (Ext.refl _) O1
          have r2 := reg (Ext.refl _) O2
          have r3 := reg (Ext.refl _) O3
          have rs := reg (Ext.refl _) S0
          refine wp_region_quiet_below (by kernel_rfl) (by kernel_rfl) ?_
          repeat (go_big_quiet_step ((go_at_call 222; exact Calls.regrown_of (CI.out _ _ (hx.trans (regx _ _)) HB1.out))))
          refine wpQuiet_nil ?_
          clear r1 r2 r3 rs
          intro _ hw'
          obtain ⟨pw, hw''⟩ := hw'
          subst hw''
          have XW3 := regx wr pw
          generalize hWR : «Sort».grow (redrawn wr pw.d) pw.os = W3 at *
          clear hWR
          replace O1 := Ext.cell XW3 O1
          replace O2 := Ext.cell XW3 O2
          replace O3 := Ext.cell XW3 O3
          replace S0 := Ext.cell XW3 S0
          replace hx := hx.trans XW3
          go_wp2_with fail
          have r1 := reg (Ext.refl _) O1
          have r2 := reg (Ext.refl _) O2
          have r3 := reg (Ext.refl _) O3
          have rs := reg (Ext.refl _) S0
          refine wp_region_quiet_below (by kernel_rfl) (by kernel_rfl) ?_
          repeat (go_big_quiet_step ((go_at_call 127; exact Calls.regrown_of (CB.out _ _ _ _ _ (by first | exact HA.out | exact HG.out)))))
          refine wpQuiet_nil ?_
          clear r1 r2 r3 rs
          intro _ hw'
          obtain ⟨pw, hw''⟩ := hw'
          subst hw''
          have XW4 := regx W3 pw
          generalize hWR : «Sort».grow (redrawn W3 pw.d) pw.os = W4 at *
          clear hWR
          replace O1 := Ext.cell XW4 O1
          replace O2 := Ext.cell XW4 O2
          replace O3 := Ext.cell XW4 O3
          replace S0 := Ext.cell XW4 S0
          have Q2 := Ext.cell XW4 (Ext.cell XW3 q2)
          go_wp2_with fail
          have r1 := reg (Ext.refl _) O1
          have r2 := reg (Ext.refl _) O2
          have r3 := reg (Ext.refl _) O3
          have rs := reg (Ext.refl _) S0
          have rq := reg (Ext.refl _) Q2
          refine wp_region_quiet_below (by kernel_rfl) (by kernel_rfl) ?_
          repeat (go_big_quiet_step (fail))
          refine wpQuiet_nil ?_
          clear r1 r2 r3 rs rq
          intro _ hw'
          obtain ⟨pw, hw''⟩ := hw'
          subst hw''
          have XW5 := regx W4 pw
          generalize hWR : «Sort».grow (redrawn W4 pw.d) pw.os = W5 at *
          clear hWR
          go_wp2_with fail
          go_ret
          exact ⟨ret_bool (HB.out _ (by rw [KO.out]; constructor <;> intro h <;> first | (cases h; done) | exact absurd h.2 (by simpa [HI.out] using HNL.out))).symm, (hx.trans XW4).trans XW5⟩
        have tn : ((N.length : Int) == 0) = true := int_eq (by omega)
        have HNL := Lib.hid hnl; clear hnl
        go_wp2_with fail
        have r1 := reg (Ext.refl _) O1
        have r2 := reg (Ext.refl _) O2
        have r3 := reg (Ext.refl _) O3
        have rs := reg (Ext.refl _) S0
        refine wp_region_quiet_below (by kernel_rfl) (by kernel_rfl) ?_
        repeat (go_big_quiet_step ((go_at_call 222; exact Calls.regrown_of (CI.out _ _ (hx.trans (regx _ _)) HB1.out))))
        refine wpQuiet_nil ?_
        clear r1 r2 r3 rs
        intro _ hw'
        obtain ⟨pw, hw''⟩ := hw'
        subst hw''
        have XW3 := regx wr pw
        generalize hWR : «Sort».grow (redrawn wr pw.d) pw.os = W3 at *
        clear hWR
        replace O1 := Ext.cell XW3 O1
        replace O2 := Ext.cell XW3 O2
        replace O3 := Ext.cell XW3 O3
        replace S0 := Ext.cell XW3 S0
        replace hx := hx.trans XW3
        go_wp2_with fail
        have r1 := reg (Ext.refl _) O1
        have r2 := reg (Ext.refl _) O2
        have r3 := reg (Ext.refl _) O3
        have rs := reg (Ext.refl _) S0
        refine wp_region_quiet_below (by kernel_rfl) (by kernel_rfl) ?_
        repeat (go_big_quiet_step ((go_at_call 127; exact Calls.regrown_of (CB.out _ _ _ _ _ (by first | exact HA.out | exact HG.out)))))
        refine wpQuiet_nil ?_
        clear r1 r2 r3 rs
        intro _ hw'
        obtain ⟨pw, hw''⟩ := hw'
        subst hw''
        have XW4 := regx W3 pw
        generalize hWR : «Sort».grow (redrawn W3 pw.d) pw.os = W4 at *
        clear hWR
        replace O1 := Ext.cell XW4 O1
        replace O2 := Ext.cell XW4 O2
        replace O3 := Ext.cell XW4 O3
        replace S0 := Ext.cell XW4 S0
        have Q2 := Ext.cell XW4 (Ext.cell XW3 q2)
        go_wp2_with fail
        have r1 := reg (Ext.refl _) O1
        have r2 := reg (Ext.refl _) O2
        have r3 := reg (Ext.refl _) O3
        have rs := reg (Ext.refl _) S0
        have rq := reg (Ext.refl _) Q2
        refine wp_region_quiet_below (by kernel_rfl) (by kernel_rfl) ?_
        repeat (go_big_quiet_step (fail))
        refine wpQuiet_nil ?_
        clear r1 r2 r3 rs rq
        intro _ hw'
        obtain ⟨pw, hw''⟩ := hw'
        subst hw''
        have XW5 := regx W4 pw
        generalize hWR : «Sort».grow (redrawn W4 pw.d) pw.os = W5 at *
        clear hWR
        go_wp2_with fail
        go_ret
        exact ⟨ret_bool (HB.out _ (by rw [KO.out, HFL.out, HNL.out, HI.out]; simp)).symm, (hx.trans XW4).trans XW5⟩
      · skip
        by_cases h0 : (m : Int) = 0
        · have t0 : ((m : Int) == 0) = true := int_eq (by omega)
          have HA : Hid (decide ((1 : Int) ≤ m ∧ (m : Int) ≤ 4) = false) := Lib.hid (decide_eq_false (by omega))
          have HG : Hid (decide ((16 : Int) ≤ m ∧ (m : Int) ≤ (l.length : Int) - 1) = false) := Lib.hid (decide_eq_false (by omega))
          clear h0 t015
          by_cases hfl : F.length = cfs.length
          rotate_left
          · have tf : ((F.length : Int) == (cfs.length : Int)) = false := int_ne (by omega)
            have HFL := Lib.hid hfl; clear hfl
            go_wp2_with fail
            have r1 := reg (Ext.refl _) O1
            have r2 := reg (Ext.refl _) O2
            have r3 := reg (Ext.refl _) O3
            have rs := reg (Ext.refl _) S0
            refine wp_region_quiet_below (by kernel_rfl) (by kernel_rfl) ?_
            repeat (go_big_quiet_step ((go_at_call 222; exact Calls.regrown_of (CI.out _ _ (hx.trans (regx _ _)) HB1.out))))
            refine wpQuiet_nil ?_
            clear r1 r2 r3 rs
            intro _ hw'
            obtain ⟨pw, hw''⟩ := hw'
            subst hw''
            have XW3 := regx wr pw
            generalize hWR : «Sort».grow (redrawn wr pw.d) pw.os = W3 at *
            clear hWR
            replace O1 := Ext.cell XW3 O1
            replace O2 := Ext.cell XW3 O2
            replace O3 := Ext.cell XW3 O3
            replace S0 := Ext.cell XW3 S0
            replace hx := hx.trans XW3
            go_wp2_with fail
            have r1 := reg (Ext.refl _) O1
            have r2 := reg (Ext.refl _) O2
            have r3 := reg (Ext.refl _) O3
            have rs := reg (Ext.refl _) S0
            refine wp_region_quiet_below (by kernel_rfl) (by kernel_rfl) ?_
            repeat (go_big_quiet_step ((go_at_call 127; exact Calls.regrown_of (CB.out _ _ _ _ _ (by first | exact HA.out | exact HG.out)))))
            refine wpQuiet_nil ?_
            clear r1 r2 r3 rs
            intro _ hw'
            obtain ⟨pw, hw''⟩ := hw'
            subst hw''
            have XW4 := regx W3 pw
            generalize hWR : «Sort».grow (redrawn W3 pw.d) pw.os = W4 at *
            clear hWR
            replace O1 := Ext.cell XW4 O1
            replace O2 := Ext.cell XW4 O2
            replace O3 := Ext.cell XW4 O3
            replace S0 := Ext.cell XW4 S0
            have Q2 := Ext.cell XW4 (Ext.cell XW3 q2)
            go_wp2_with fail
            have r1 := reg (Ext.refl _) O1
            have r2 := reg (Ext.refl _) O2
            have r3 := reg (Ext.refl _) O3
            have rs := reg (Ext.refl _) S0
            have rq := reg (Ext.refl _) Q2
            refine wp_region_quiet_below (by kernel_rfl) (by kernel_rfl) ?_
            repeat (go_big_quiet_step (fail))
            refine wpQuiet_nil ?_
            clear r1 r2 r3 rs rq
            intro _ hw'
            obtain ⟨pw, hw''⟩ := hw'
            subst hw''
            have XW5 := regx W4 pw
            generalize hWR : «Sort».grow (redrawn W4 pw.d) pw.os = W5 at *
            clear hWR
            go_wp2_with fail
            go_ret
            exact ⟨ret_bool (HB.out _ (by rw [KO.out]; constructor <;> intro h <;> first | (cases h; done) | exact absurd h.1 HFL.out)).symm, (hx.trans XW4).trans XW5⟩
          have tf : ((F.length : Int) == (cfs.length : Int)) = true := int_eq (by omega)
          have HFL := Lib.hid hfl; clear hfl
          by_cases hnl : N.length = 3
          rotate_left
          · have tn : ((N.length : Int) == 3) = false := int_ne (by omega)
            have HNL := Lib.hid hnl; clear hnl
            go_wp2_with fail
            have r1 := reg (Ext.refl _) O1
            have r2 := reg (Ext.refl _) O2
            have r3 := reg (Ext.refl _) O3
            have rs := reg (Ext.refl _) S0
            refine wp_region_quiet_below (by kernel_rfl) (by kernel_rfl) ?_
            repeat (go_big_quiet_step ((go_at_call 222; exact Calls.regrown_of (CI.out _ _ (hx.trans (regx _ _)) HB1.out))))
            refine wpQuiet_nil ?_
            clear r1 r2 r3 rs
            intro _ hw'
            obtain ⟨pw, hw''⟩ := hw'
            subst hw''
            have XW3 := regx wr pw
            generalize hWR : «Sort».grow (redrawn wr pw.d) pw.os = W3 at *
            clear hWR
            replace O1 := Ext.cell XW3 O1
            replace O2 := Ext.cell XW3 O2
            replace O3 := Ext.cell XW3 O3
            replace S0 := Ext.cell XW3 S0
            replace hx := hx.trans XW3
            go_wp2_with fail
            have r1 := reg (Ext.refl _) O1
            have r2 := reg (Ext.refl _) O2
            have r3 := reg (Ext.refl _) O3
            have rs := reg (Ext.refl _) S0
            refine wp_region_quiet_below (by kernel_rfl) (by kernel_rfl) ?_
            repeat (go_big_quiet_step ((go_at_call 127; exact Calls.regrown_of (CB.out _ _ _ _ _ (by first | exact HA.out | exact HG.out)))))
            refine wpQuiet_nil ?_
            clear r1 r2 r3 rs
            intro _ hw'
            obtain ⟨pw, hw''⟩ := hw'
            subst hw''
            have XW4 := regx W3 pw
            generalize hWR : «Sort».grow (redrawn W3 pw.d) pw.os = W4 at *
            clear hWR
            replace O1 := Ext.cell XW4 O1
            replace O2 := Ext.cell XW4 O2
            replace O3 := Ext.cell XW4 O3
            replace S0 := Ext.cell XW4 S0
            have Q2 := Ext.cell XW4 (Ext.cell XW3 q2)
            go_wp2_with fail
            have r1 := reg (Ext.refl _) O1
            have r2 := reg (Ext.refl _) O2
            have r3 := reg (Ext.refl _) O3
            have rs := reg (Ext.refl _) S0
            have rq := reg (Ext.refl _) Q2
            refine wp_region_quiet_below (by kernel_rfl) (by kernel_rfl) ?_
            repeat (go_big_quiet_step (fail))
            refine wpQuiet_nil ?_
            clear r1 r2 r3 rs rq
            intro _ hw'
            obtain ⟨pw, hw''⟩ := hw'
            subst hw''
            have XW5 := regx W4 pw
            generalize hWR : «Sort».grow (redrawn W4 pw.d) pw.os = W5 at *
            clear hWR
            go_wp2_with fail
            go_ret
            exact ⟨ret_bool (HB.out _ (by rw [KO.out]; constructor <;> intro h <;> first | (cases h; done) | exact absurd h.2 (by simpa [HI.out] using HNL.out))).symm, (hx.trans XW4).trans XW5⟩
          have tn : ((N.length : Int) == 3) = true := int_eq (by omega)
          have HNL := Lib.hid hnl; clear hnl
          go_wp2_with fail
          have r1 := reg (Ext.refl _) O1
          have r2 := reg (Ext.refl _) O2
          have r3 := reg (Ext.refl _) O3
          have rs := reg (Ext.refl _) S0
          refine wp_region_quiet_below (by kernel_rfl) (by kernel_rfl) ?_
          repeat (go_big_quiet_step ((go_at_call 222; exact Calls.regrown_of (CI.out _ _ (hx.trans (regx _ _)) HB1.out))))
          refine wpQuiet_nil ?_
          clear r1 r2 r3 rs
          intro _ hw'
          obtain ⟨pw, hw''⟩ := hw'
          subst hw''
          have XW3 := regx wr pw
          generalize hWR : «Sort».grow (redrawn wr pw.d) pw.os = W3 at *
          clear hWR
          replace O1 := Ext.cell XW3 O1
          replace O2 := Ext.cell XW3 O2
          replace O3 := Ext.cell XW3 O3
          replace S0 := Ext.cell XW3 S0
          replace hx := hx.trans XW3
          go_wp2_with fail
          have r1 := reg (Ext.refl _) O1
          have r2 := reg (Ext.refl _) O2
          have r3 := reg (Ext.refl _) O3
          have rs := reg (Ext.refl _) S0
          refine wp_region_quiet_below (by kernel_rfl) (by kernel_rfl) ?_
          repeat (go_big_quiet_step ((go_at_call 127; exact Calls.regrown_of (CB.out _ _ _ _ _ (by first | exact HA.out | exact HG.out)))))
          refine wpQuiet_nil ?_
          clear r1 r2 r3 rs
          intro _ hw'
          obtain ⟨pw, hw''⟩ := hw'
          subst hw''
          have XW4 := regx W3 pw
          generalize hWR : «Sort».grow (redrawn W3 pw.d) pw.os = W4 at *
          clear hWR
          replace O1 := Ext.cell XW4 O1
          replace O2 := Ext.cell XW4 O2
          replace O3 := Ext.cell XW4 O3
          replace S0 := Ext.cell XW4 S0
          have Q2 := Ext.cell XW4 (Ext.cell XW3 q2)
          go_wp2_with fail
          have r1 := reg (Ext.refl _) O1
          have r2 := reg (Ext.refl _) O2
          have r3 := reg (Ext.refl _) O3
          have rs := reg (Ext.refl _) S0
          have rq := reg (Ext.refl _) Q2
          refine wp_region_quiet_below (by kernel_rfl) (by kernel_rfl) ?_
          repeat (go_big_quiet_step (fail))
          refine wpQuiet_nil ?_
          clear r1 r2 r3 rs rq
          intro _ hw'
          obtain ⟨pw, hw''⟩ := hw'
          subst hw''
          have XW5 := regx W4 pw
          generalize hWR : «Sort».grow (redrawn W4 pw.d) pw.os = W5 at *
          clear hWR
          go_wp2_with fail
          go_ret
          exact ⟨ret_bool (HB.out _ (by rw [KO.out, HFL.out, HNL.out, HI.out]; simp)).symm, (hx.trans XW4).trans XW5⟩
        by_cases h14 : 1 ≤ (m : Int) ∧ (m : Int) ≤ 4
        · have t0 : ((m : Int) == 0) = false := int_ne (by omega)
          have HA : Hid (decide ((1 : Int) ≤ m ∧ (m : Int) ≤ 4) = true) := Lib.hid (decide_eq_true (by omega))
          have HG : Hid (decide ((16 : Int) ≤ m ∧ (m : Int) ≤ (l.length : Int) - 1) = false) := Lib.hid (decide_eq_false (by omega))
          clear h0 h14 t015
          by_cases hfl : F.length = cfs.length
          rotate_left
          · have tf : ((F.length : Int) == (cfs.length : Int)) = false := int_ne (by omega)
            have HFL := Lib.hid hfl; clear hfl
            go_wp2_with fail
            have r1 := reg (Ext.refl _) O1
            have r2 := reg (Ext.refl _) O2
            have r3 := reg (Ext.refl _) O3
            have rs := reg (Ext.refl _) S0
            refine wp_region_quiet_below (by kernel_rfl) (by kernel_rfl) ?_
            repeat (go_big_quiet_step ((go_at_call 222; exact Calls.regrown_of (CI.out _ _ (hx.trans (regx _ _)) HB1.out))))
            refine wpQuiet_nil ?_
            clear r1 r2 r3 rs
            intro _ hw'
            obtain ⟨pw, hw''⟩ := hw'
            subst hw''
            have XW3 := regx wr pw
            generalize hWR : «Sort».grow (redrawn wr pw.d) pw.os = W3 at *
            clear hWR
            replace O1 := Ext.cell XW3 O1
            replace O2 := Ext.cell XW3 O2
            replace O3 := Ext.cell XW3 O3
            replace S0 := Ext.cell XW3 S0
            replace hx := hx.trans XW3
            go_wp2_with fail
            have r1 := reg (Ext.refl _) O1
            have r2 := reg (Ext.refl _) O2
            have r3 := reg (Ext.refl _) O3
            have rs := reg (Ext.refl _) S0
            refine wp_region_quiet_below (by kernel_rfl) (by kernel_rfl) ?_
            repeat (go_big_quiet_step ((go_at_call 127; exact Calls.regrown_of (CB.out _ _ _ _ _ (by first | exact HA.out | exact HG.out)))))
            refine wpQuiet_nil ?_
            clear r1 r2 r3 rs
            intro _ hw'
            obtain ⟨pw, hw''⟩ := hw'
            subst hw''
            have XW4 := regx W3 pw
            generalize hWR : «Sort».grow (redrawn W3 pw.d) pw.os = W4 at *
            clear hWR
            replace O1 := Ext.cell XW4 O1
            replace O2 := Ext.cell XW4 O2
            replace O3 := Ext.cell XW4 O3
            replace S0 := Ext.cell XW4 S0
            have Q2 := Ext.cell XW4 (Ext.cell XW3 q2)
            go_wp2_with fail
            have r1 := reg (Ext.refl _) O1
            have r2 := reg (Ext.refl _) O2
            have r3 := reg (Ext.refl _) O3
            have rs := reg (Ext.refl _) S0
            have rq := reg (Ext.refl _) Q2
            refine wp_region_quiet_below (by kernel_rfl) (by kernel_rfl) ?_
            repeat (go_big_quiet_step (fail))
            refine wpQuiet_nil ?_
            clear r1 r2 r3 rs rq
            intro _ hw'
            obtain ⟨pw, hw''⟩ := hw'
            subst hw''
            have XW5 := regx W4 pw
            generalize hWR : «Sort».grow (redrawn W4 pw.d) pw.os = W5 at *
            clear hWR
            go_wp2_with fail
            go_ret
            exact ⟨ret_bool (HB.out _ (by rw [KO.out]; constructor <;> intro h <;> first | (cases h; done) | exact absurd h.1 HFL.out)).symm, (hx.trans XW4).trans XW5⟩
          have tf : ((F.length : Int) == (cfs.length : Int)) = true := int_eq (by omega)
          have HFL := Lib.hid hfl; clear hfl
          by_cases hnl : N.length = 3
          rotate_left
          · have tn : ((N.length : Int) == 3) = false := int_ne (by omega)
            have HNL := Lib.hid hnl; clear hnl
            go_wp2_with fail
            have r1 := reg (Ext.refl _) O1
            have r2 := reg (Ext.refl _) O2
            have r3 := reg (Ext.refl _) O3
            have rs := reg (Ext.refl _) S0
            refine wp_region_quiet_below (by kernel_rfl) (by kernel_rfl) ?_
            repeat (go_big_quiet_step ((go_at_call 222; exact Calls.regrown_of (CI.out _ _ (hx.trans (regx _ _)) HB1.out))))
            refine wpQuiet_nil ?_
            clear r1 r2 r3 rs
            intro _ hw'
            obtain ⟨pw, hw''⟩ := hw'
            subst hw''
            have XW3 := regx wr pw
            generalize hWR : «Sort».grow (redrawn wr pw.d) pw.os = W3 at *
            clear hWR
            replace O1 := Ext.cell XW3 O1
            replace O2 := Ext.cell XW3 O2
            replace O3 := Ext.cell XW3 O3
            replace S0 := Ext.cell XW3 S0
            replace hx := hx.trans XW3
            go_wp2_with fail
            have r1 := reg (Ext.refl _) O1
            have r2 := reg (Ext.refl _) O2
            have r3 := reg (Ext.refl _) O3
            have rs := reg (Ext.refl _) S0
            refine wp_region_quiet_below (by kernel_rfl) (by kernel_rfl) ?_
            repeat (go_big_quiet_step ((go_at_call 127; exact Calls.regrown_of (CB.out _ _ _ _ _ (by first | exact HA.out | exact HG.out)))))
            refine wpQuiet_nil ?_
            clear r1 r2 r3 rs
            intro _ hw'
            obtain ⟨pw, hw''⟩ := hw'
            subst hw''
            have XW4 := regx W3 pw
            generalize hWR : «Sort».grow (redrawn W3 pw.d) pw.os = W4 at *
            clear hWR
            replace O1 := Ext.cell XW4 O1
            replace O2 := Ext.cell XW4 O2
            replace O3 := Ext.cell XW4 O3
            replace S0 := Ext.cell XW4 S0
            have Q2 := Ext.cell XW4 (Ext.cell XW3 q2)
            go_wp2_with fail
            have r1 := reg (Ext.refl _) O1
            have r2 := reg (Ext.refl _) O2
            have r3 := reg (Ext.refl _) O3
            have rs := reg (Ext.refl _) S0
            have rq := reg (Ext.refl _) Q2
            refine wp_region_quiet_below (by kernel_rfl) (by kernel_rfl) ?_
            repeat (go_big_quiet_step (fail))
            refine wpQuiet_nil ?_
            clear r1 r2 r3 rs rq
            intro _ hw'
            obtain ⟨pw, hw''⟩ := hw'
            subst hw''
            have XW5 := regx W4 pw
            generalize hWR : «Sort».grow (redrawn W4 pw.d) pw.os = W5 at *
            clear hWR
            go_wp2_with fail
            go_ret
            exact ⟨ret_bool (HB.out _ (by rw [KO.out]; constructor <;> intro h <;> first | (cases h; done) | exact absurd h.2 (by simpa [HI.out] using HNL.out))).symm, (hx.trans XW4).trans XW5⟩
          have tn : ((N.length : Int) == 3) = true := int_eq (by omega)
          have HNL := Lib.hid hnl; clear hnl
          go_wp2_with fail
          have r1 := reg (Ext.refl _) O1
          have r2 := reg (Ext.refl _) O2
          have r3 := reg (Ext.refl _) O3
          have rs := reg (Ext.refl _) S0
          refine wp_region_quiet_below (by kernel_rfl) (by kernel_rfl) ?_
          repeat (go_big_quiet_step ((go_at_call 222; exact Calls.regrown_of (CI.out _ _ (hx.trans (regx _ _)) HB1.out))))
          refine wpQuiet_nil ?_
          clear r1 r2 r3 rs
          intro _ hw'
          obtain ⟨pw, hw''⟩ := hw'
          subst hw''
          have XW3 := regx wr pw
          generalize hWR : «Sort».grow (redrawn wr pw.d) pw.os = W3 at *
          clear hWR
          replace O1 := Ext.cell XW3 O1
          replace O2 := Ext.cell XW3 O2
          replace O3 := Ext.cell XW3 O3
          replace S0 := Ext.cell XW3 S0
          replace hx := hx.trans XW3
          go_wp2_with fail
          have r1 := reg (Ext.refl _) O1
          have r2 := reg (Ext.refl _) O2
          have r3 := reg (Ext.refl _) O3
          have rs := reg (Ext.refl _) S0
          refine wp_region_quiet_below (by kernel_rfl) (by kernel_rfl) ?_
          repeat (go_big_quiet_step ((go_at_call 127; exact Calls.regrown_of (CB.out _ _ _ _ _ (by first | exact HA.out | exact HG.out)))))
          refine wpQuiet_nil ?_
          clear r1 r2 r3 rs
          intro _ hw'
          obtain ⟨pw, hw''⟩ := hw'
          subst hw''
          have XW4 := regx W3 pw
          generalize hWR : «Sort».grow (redrawn W3 pw.d) pw.os = W4 at *
          clear hWR
          replace O1 := Ext.cell XW4 O1
          replace O2 := Ext.cell XW4 O2
          replace O3 := Ext.cell XW4 O3
          replace S0 := Ext.cell XW4 S0
          have Q2 := Ext.cell XW4 (Ext.cell XW3 q2)
          go_wp2_with fail
          have r1 := reg (Ext.refl _) O1
          have r2 := reg (Ext.refl _) O2
          have r3 := reg (Ext.refl _) O3
          have rs := reg (Ext.refl _) S0
          have rq := reg (Ext.refl _) Q2
          refine wp_region_quiet_below (by kernel_rfl) (by kernel_rfl) ?_
          repeat (go_big_quiet_step (fail))
          refine wpQuiet_nil ?_
          clear r1 r2 r3 rs rq
          intro _ hw'
          obtain ⟨pw, hw''⟩ := hw'
          subst hw''
          have XW5 := regx W4 pw
          generalize hWR : «Sort».grow (redrawn W4 pw.d) pw.os = W5 at *
          clear hWR
          go_wp2_with fail
          go_ret
          exact ⟨ret_bool (HB.out _ (by rw [KO.out, HFL.out, HNL.out, HI.out]; simp)).symm, (hx.trans XW4).trans XW5⟩
        have t0 : ((m : Int) == 0) = false := int_ne (by omega)
        have HA : Hid (decide ((1 : Int) ≤ m ∧ (m : Int) ≤ 4) = false) := Lib.hid (decide_eq_false (by omega))
        have HG : Hid (decide ((16 : Int) ≤ m ∧ (m : Int) ≤ (l.length : Int) - 1) = true) := Lib.hid (decide_eq_true (by omega))
        clear h0 h14 t015
        by_cases hfl : F.length = cfs.length
        rotate_left
        · have tf : ((F.length : Int) == (cfs.length : Int)) = false := int_ne (by omega)
          have HFL := Lib.hid hfl; clear hfl
          go_wp2_with fail
          have r1 := reg (Ext.refl _) O1
          have r2 := reg (Ext.refl _) O2
          have r3 := reg (Ext.refl _) O3
          have rs := reg (Ext.refl _) S0
          refine wp_region_quiet_below (by kernel_rfl) (by kernel_rfl) ?_
          repeat (go_big_quiet_step ((go_at_call 222; exact Calls.regrown_of (CI.out _ _ (hx.trans (regx _ _)) HB1.out))))
          refine wpQuiet_nil ?_
          clear r1 r2 r3 rs
          intro _ hw'
          obtain ⟨pw, hw''⟩ := hw'
          subst hw''
          have XW3 := regx wr pw
          generalize hWR : «Sort».grow (redrawn wr pw.d) pw.os = W3 at *
          clear hWR
          replace O1 := Ext.cell XW3 O1
          replace O2 := Ext.cell XW3 O2
          replace O3 := Ext.cell XW3 O3
          replace S0 := Ext.cell XW3 S0
          replace hx := hx.trans XW3
          go_wp2_with fail
          have r1 := reg (Ext.refl _) O1
          have r2 := reg (Ext.refl _) O2
          have r3 := reg (Ext.refl _) O3
          have rs := reg (Ext.refl _) S0
          refine wp_region_quiet_below (by kernel_rfl) (by kernel_rfl) ?_
          repeat (go_big_quiet_step ((go_at_call 127; exact Calls.regrown_of (CB.out _ _ _ _ _ (by first | exact HA.out | exact HG.out)))))
          refine wpQuiet_nil ?_
          clear r1 r2 r3 rs
          intro _ hw'
          obtain ⟨pw, hw''⟩ := hw'
          subst hw''
          have XW4 := regx W3 pw
          generalize hWR : «Sort».grow (redrawn W3 pw.d) pw.os = W4 at *
          clear hWR
          replace O1 := Ext.cell XW4 O1
          replace O2 := Ext.cell XW4 O2
          replace O3 := Ext.cell XW4 O3
          replace S0 := Ext.cell XW4 S0
          have Q2 := Ext.cell XW4 (Ext.cell XW3 q2)
          go_wp2_with fail
          have r1 := reg (Ext.refl _) O1
          have r2 := reg (Ext.refl _) O2
          have r3 := reg (Ext.refl _) O3
          have rs := reg (Ext.refl _) S0
          have rq := reg (Ext.refl _) Q2
          refine wp_region_quiet_below (by kernel_rfl) (by kernel_rfl) ?_
          repeat (go_big_quiet_step (fail))
          refine wpQuiet_nil ?_
          clear r1 r2 r3 rs rq
          intro _ hw'
          obtain ⟨pw, hw''⟩ := hw'
          subst hw''
          have XW5 := regx W4 pw
          generalize hWR : «Sort».grow (redrawn W4 pw.d) pw.os = W5 at *
          clear hWR
          go_wp2_with fail
          go_ret
          exact ⟨ret_bool (HB.out _ (by rw [KO.out]; constructor <;> intro h <;> first | (cases h; done) | exact absurd h.1 HFL.out)).symm, (hx.trans XW4).trans XW5⟩
        have tf : ((F.length : Int) == (cfs.length : Int)) = true := int_eq (by omega)
        have HFL := Lib.hid hfl; clear hfl
        by_cases hnl : N.length = 3
        rotate_left
        · have tn : ((N.length : Int) == 3) = false := int_ne (by omega)
          have HNL := Lib.hid hnl; clear hnl
          go_wp2_with fail
          have r1 := reg (Ext.refl _) O1
          have r2 := reg (Ext.refl _) O2
          have r3 := reg (Ext.refl _) O3
          have rs := reg (Ext.refl _) S0
          refine wp_region_quiet_below (by kernel_rfl) (by kernel_rfl) ?_
          repeat (go_big_quiet_step ((go_at_call 222; exact Calls.regrown_of (CI.out _ _ (hx.trans (regx _ _)) HB1.out))))
          refine wpQuiet_nil ?_
          clear r1 r2 r3 rs
          intro _ hw'
          obtain ⟨pw, hw''⟩ := hw'
          subst hw''
          have XW3 := regx wr pw
          generalize hWR : «Sort».grow (redrawn wr pw.d) pw.os = W3 at *
          clear hWR
          replace O1 := Ext.cell XW3 O1
          replace O2 := Ext.cell XW3 O2
          replace O3 := Ext.cell XW3 O3
          replace S0 := Ext.cell XW3 S0
          replace hx := hx.trans XW3
          go_wp2_with fail
          have r1 := reg (Ext.refl _) O1
          have r2 := reg (Ext.refl _) O2
          have r3 := reg (Ext.refl _) O3
          have rs := reg (Ext.refl _) S0
          refine wp_region_quiet_below (by kernel_rfl) (by kernel_rfl) ?_
          repeat (go_big_quiet_step ((go_at_call 127; exact Calls.regrown_of (CB.out _ _ _ _ _ (by first | exact HA.out | exact HG.out)))))
          refine wpQuiet_nil ?_
          clear r1 r2 r3 rs
          intro _ hw'
          obtain ⟨pw, hw''⟩ := hw'
          subst hw''
          have XW4 := regx W3 pw
          generalize hWR : «Sort».grow (redrawn W3 pw.d) pw.os = W4 at *
          clear hWR
          replace O1 := Ext.cell XW4 O1
          replace O2 := Ext.cell XW4 O2
          replace O3 := Ext.cell XW4 O3
          replace S0 := Ext.cell XW4 S0
          have Q2 := Ext.cell XW4 (Ext.cell XW3 q2)
          go_wp2_with fail
          have r1 := reg (Ext.refl _) O1
          have r2 := reg (Ext.refl _) O2
          have r3 := reg (Ext.refl _) O3
          have rs := reg (Ext.refl _) S0
          have rq := reg (Ext.refl _) Q2
          refine wp_region_quiet_below (by kernel_rfl) (by kernel_rfl) ?_
          repeat (go_big_quiet_step (fail))
          refine wpQuiet_nil ?_
          clear r1 r2 r3 rs rq
          intro _ hw'
          obtain ⟨pw, hw''⟩ := hw'
          subst hw''
          have XW5 := regx W4 pw
          generalize hWR : «Sort».grow (redrawn W4 pw.d) pw.os = W5 at *
          clear hWR
          go_wp2_with fail
          go_ret
          exact ⟨ret_bool (HB.out _ (by rw [KO.out]; constructor <;> intro h <;> first | (cases h; done) | exact absurd h.2 (by simpa [HI.out] using HNL.out))).symm, (hx.trans XW4).trans XW5⟩
        have tn : ((N.length : Int) == 3) = true := int_eq (by omega)
        have HNL := Lib.hid hnl; clear hnl
        go_wp2_with fail
        have r1 := reg (Ext.refl _) O1
        have r2 := reg (Ext.refl _) O2
        have r3 := reg (Ext.refl _) O3
        have rs := reg (Ext.refl _) S0
        refine wp_region_quiet_below (by kernel_rfl) (by kernel_rfl) ?_
        repeat (go_big_quiet_step ((go_at_call 222; exact Calls.regrown_of (CI.out _ _ (hx.trans (regx _ _)) HB1.out))))
        refine wpQuiet_nil ?_
        clear r1 r2 r3 rs
        intro _ hw'
        obtain ⟨pw, hw''⟩ := hw'
        subst hw''
        have XW3 := regx wr pw
        generalize hWR : «Sort».grow (redrawn wr pw.d) pw.os = W3 at *
        clear hWR
        replace O1 := Ext.cell XW3 O1
        replace O2 := Ext.cell XW3 O2
        replace O3 := Ext.cell XW3 O3
        replace S0 := Ext.cell XW3 S0
        replace hx := hx.trans XW3
        go_wp2_with fail
        have r1 := reg (Ext.refl _) O1
        have r2 := reg (Ext.refl _) O2
        have r3 := reg (Ext.refl _) O3
        have rs := reg (Ext.refl _) S0
        refine wp_region_quiet_below (by kernel_rfl) (by kernel_rfl) ?_
        repeat (go_big_quiet_step ((go_at_call 127; exact Calls.regrown_of (CB.out _ _ _ _ _ (by first | exact HA.out | exact HG.out)))))
        refine wpQuiet_nil ?_
        clear r1 r2 r3 rs
        intro _ hw'
        obtain ⟨pw, hw''⟩ := hw'
        subst hw''
        have XW4 := regx W3 pw
        generalize hWR : «Sort».grow (redrawn W3 pw.d) pw.os = W4 at *
        clear hWR
        replace O1 := Ext.cell XW4 O1
        replace O2 := Ext.cell XW4 O2
        replace O3 := Ext.cell XW4 O3
        replace S0 := Ext.cell XW4 S0
        have Q2 := Ext.cell XW4 (Ext.cell XW3 q2)
        go_wp2_with fail
        have r1 := reg (Ext.refl _) O1
        have r2 := reg (Ext.refl _) O2
        have r3 := reg (Ext.refl _) O3
        have rs := reg (Ext.refl _) S0
        have rq := reg (Ext.refl _) Q2
        refine wp_region_quiet_below (by kernel_rfl) (by kernel_rfl) ?_
        repeat (go_big_quiet_step (fail))
        refine wpQuiet_nil ?_
        clear r1 r2 r3 rs rq
        intro _ hw'
        obtain ⟨pw, hw''⟩ := hw'
        subst hw''
        have XW5 := regx W4 pw
        generalize hWR : «Sort».grow (redrawn W4 pw.d) pw.os = W5 at *
        clear hWR
        go_wp2_with fail
        go_ret
        exact ⟨ret_bool (HB.out _ (by rw [KO.out, HFL.out, HNL.out, HI.out]; simp)).symm, (hx.trans XW4).trans XW5⟩
    have t1 : (K == 1) = false := int_ne h1
    by_cases h2 : K = 2
    · subst h2
      clear h1 t1
      have KO : Hid (KindOk l ⟨2, C, F, N⟩ ↔ C = 10 ∧ F.length ≤ 50 ∧ N.length = 0) := Lib.hid (by simp [KindOk])
      by_cases hc : C = 10
      rotate_left
      · have tc : (C == 10) = false := int_ne hc
        have HC := Lib.hid hc; clear hc
        go_wp2_with fail
        go_ret
        exact ⟨ret_bool (HB.out _ (by rw [KO.out]; simp [HC.out])).symm, hx⟩
      have tc : (C == 10) = true := int_eq hc
      have HC := Lib.hid hc; clear hc
      by_cases h50 : F.length ≤ 50
      rotate_left
      · have tl : ¬ (F.length : Int) ≤ 50 := by omega
        go_wp2_with fail
        go_ret
        exact ⟨ret_bool (HB.out _ (by rw [KO.out]; simp [h50])).symm, hx⟩
      have tl : (F.length : Int) ≤ 50 := by omega
      go_wp2_with fail
      go_ret
      exact ⟨ret_bool (HB.out _ (by rw [KO.out]; simp only [HC.out, h50, true_and, decide_eq_true_eq]; first | done | rfl | omega | (simp; done) | (simp; omega))).symm, hx⟩
    have t2 : (K == 2) = false := int_ne h2
    by_cases h3 : K = 3
    rotate_left
    · have t3 : (K == 3) = false := int_ne h3
      have KO : Hid (¬ KindOk l ⟨K, C, F, N⟩) := Lib.hid (by simp [KindOk, h1, h2, h3])
      clear h1 h2 h3
      go_wp2_with fail
      go_ret
      exact ⟨ret_bool (HB.out _ (by simp [KO.out])).symm, hx⟩
    subst h3
    clear h1 h2 t1 t2
    have KO : Hid (KindOk l ⟨3, C, F, N⟩ ↔ C = 12 ∧ F.length = 0 ∧ 1 ≤ N.length ∧ ∀ n, n ∈ N → 0 ≤ n) := Lib.hid (by simp [KindOk])
    obtain ⟨ao9, ca9, bn, on, h1, hln, hmn, pn, hn9⟩ := Rep.ints RN.out
    simp only [List.cons.injEq, and_true, Value.slice.injEq] at h1
    obtain ⟨rfl, -, rfl⟩ := h1
    unfold maxLen at hmn
    by_cases hc : C = 12
    rotate_left
    · have tc : (C != 12) = true := int_nen hc
      have HC := Lib.hid hc; clear hc
      go_wp2_with fail
      go_ret
      exact ⟨ret_bool (HB.out _ (by rw [KO.out]; simp [HC.out])).symm, hx⟩
    have tc : (C != 12) = false := int_eqn hc
    have HC := Lib.hid hc; clear hc
    by_cases h0 : F.length = 0
    rotate_left
    · have tl : 0 < F.length := by omega
      have H0 := Lib.hid h0; clear h0
      go_wp2_with fail
      go_ret
      exact ⟨ret_bool (HB.out _ (by rw [KO.out]; simp only [Bool.false_eq_true, false_iff]; exact fun h => H0.out h.2.1)).symm, hx⟩
    obtain rfl : F = [] := List.eq_nil_of_length_eq_zero h0
    have H0 := Lib.hid h0; clear h0
    by_cases hn : 1 ≤ N.length
    rotate_left
    · obtain rfl : N = [] := List.eq_nil_of_length_eq_zero (by omega)
      go_wp2_with fail
      go_ret
      exact ⟨ret_bool (HB.out _ (by rw [KO.out]; simp only [Bool.false_eq_true, false_iff]; exact fun h => by have := h.2.2.1; simp at this)).symm, hx⟩
    have tn : ¬ (N.length : Int) < 1 := by omega
    obtain rfl := pn (by omega)
    have HN1 := Lib.hid hn
    have p0 : w.cell? ⟨bn, on, none⟩ = some (.int .i64 N[0]) := by
      have := hn9 0 N[0] (List.getElem?_eq_getElem (by omega))
      simpa using this
    obtain ⟨z, hz⟩ : ∃ z, z = N[0] := ⟨_, rfl⟩
    rw [← hz] at p0
    replace p0 := hx.cell p0
    have HZ : Hid (N[0]? = some z) := Lib.hid (by rw [hz]; exact List.getElem?_eq_getElem (by omega))
    clear hz
    by_cases hz0 : z < 0
    · have HZ0 := Lib.hid hz0
      go_wp2_with fail
      go_ret
      exact ⟨ret_bool (HB.out _ (by rw [KO.out]; simp only [Bool.false_eq_true, false_iff]; exact fun h => absurd (h.2.2.2 _ (List.mem_of_getElem? HZ.out)) (by have := HZ0.out; omega))).symm, hx⟩
    have HZ0 := Lib.hid hz0
    obtain ⟨W4, hwo⟩ : ∃ x, x = wr := ⟨_, rfl⟩
    subst hwo
    go_wp2_with fail
    have O4 := O3
    have xw4 := hx
    clear hx hx1 O0 O1 O2 O3 S0
    go_loopw [10] (fun iv wr => ∃ k : Nat, 1 ≤ k ∧ k ≤ N.length ∧ iv = .int .i64 k ∧ wr = W4 ∧ Hid (∀ i z, i < k → N[i]? = some z → 0 ≤ z)) (fun iv _ => N.length - (intOf iv).toNat)
    case atStart => exact ⟨1, by omega, hn, rfl, rfl, Lib.hid fun i z' hi hq => by
      obtain rfl : i = 0 := by omega
      rw [HZ.out] at hq; injection hq with hq; have := HZ0.out; omega⟩
    case round =>
      obtain ⟨j, hj1, hj, rfl, hwr, hR2⟩ := hrel
      subst wr
      by_cases hlt : j < N.length
      · obtain ⟨y, hy⟩ : ∃ y, y = N[j] := ⟨_, rfl⟩
        have hyj : N[j]? = some y := by rw [hy]; simp [hlt]
        clear hy
        have py := xw4.cell (hn9 j y hyj)
        have HY := Lib.hid hyj; clear hyj
        by_cases hy0 : y < 0
        · have HY0 := Lib.hid hy0
          go_wp2_with fail
          go_ret
          exact ⟨ret_bool (HB.out _ (by rw [KO.out]; simp only [Bool.false_eq_true, false_iff]; exact fun h => absurd (h.2.2.2 _ (List.mem_of_getElem? HY.out)) (by have := HY0.out; omega))).symm, xw4⟩
        · have HY0 := Lib.hid hy0
          go_wp2_with fail
          go_roundw
          case rel => exact ⟨j + 1, by omega, by omega, by go_num, trivial, Lib.hid fun i z hi hz => by
            by_cases h2 : i < j
            · exact hR2.out i z h2 hz
            · obtain rfl : i = j := by omega
              rw [HY.out] at hz; injection hz with hz; have := HY0.out; omega⟩
          case measure => simp [intOf]; omega
      go_wp2_with fail
      go_ret
      exact ⟨ret_bool (HB.out _ (by rw [KO.out]; simp only [true_iff]; exact ⟨HC.out, H0.out, HN1.out, fun n hn => by obtain ⟨i, hi, rfl⟩ := List.mem_iff_getElem.1 hn; exact hR2.out i _ (by omega) (by simp [hi])⟩)).symm, xw4⟩

end Go.Proofs.YticdmbmjlaomiaaGreatDoor
