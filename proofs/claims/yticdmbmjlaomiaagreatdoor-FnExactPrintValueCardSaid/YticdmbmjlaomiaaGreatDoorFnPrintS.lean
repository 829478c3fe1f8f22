/-
  CONTRACTS: PrintValue of the reference.
  Conditions: those that each lemma states.
-/
import Derived.Test.YticdmbmjlaomiaaGreatDoorRows
import Derived.Test.YticdmbmjlaomiaaGreatDoorFnPrint
import Derived.BigQuiet
namespace Go.Proofs.YticdmbmjlaomiaaGreatDoor
open Go.RowKit
set_option linter.unusedSimpArgs false
set_option linter.unusedVariables false

set_option maxHeartbeats 4000000 in
set_option maxRecDepth 100000 in
theorem l9Print_step (x : MStore) (hs : StoreOk 1000 x) (d : Nat) (hd : d ≤ 3) (IH : Hid (∀ d', d = d' + 1 → ∀ (v : MValue) (B : Nat) (ac : Option Addr) (cc : Nat) (ab : Option Addr) (cb : Nat) (au : Option Addr) (cu : Nat) (w : World), Rep w x.d [.slice ac x.classes.length cc, .slice ab x.objects.length cb, .slice au x.output.length cu, .int .i64 x.ticks, .int .i64 x.budget, .int .i64 x.made] → w.cell? ⟨B, 0, none⟩ = some (.slice ac x.classes.length cc) → w.cell? ⟨B, 1, none⟩ = some (.slice ab x.objects.length cb) → w.cell? ⟨B, 2, none⟩ = some (.slice au x.output.length cu) → w.cell? ⟨B, 3, none⟩ = some (.int .i64 x.ticks) → w.cell? ⟨B, 4, none⟩ = some (.int .i64 x.budget) → w.cell? ⟨B, 5, none⟩ = some (.int .i64 x.made) → FitP x.classes.length x.objects.length 1000 v → v.text.size ≤ 1048576 → (∀ o, o ∈ x.objects → ∀ u, u ∈ o.fields → u.text.size ≤ 1048576) → Calls Tryz.prog 49 #[.pointer (some ⟨B, 0, none⟩), .agg #[.int .i64 v.kind, .int .i64 v.number, .string v.text], .int .i64 (d' : Nat)] w fun e w' => e = .returned (.string (prT x d' v)) ∧ Ext w w')) : ∀ (v : MValue) (B : Nat) (ac : Option Addr) (cc : Nat) (ab : Option Addr) (cb : Nat) (au : Option Addr) (cu : Nat) (w : World), Rep w x.d [.slice ac x.classes.length cc, .slice ab x.objects.length cb, .slice au x.output.length cu, .int .i64 x.ticks, .int .i64 x.budget, .int .i64 x.made] → w.cell? ⟨B, 0, none⟩ = some (.slice ac x.classes.length cc) → w.cell? ⟨B, 1, none⟩ = some (.slice ab x.objects.length cb) → w.cell? ⟨B, 2, none⟩ = some (.slice au x.output.length cu) → w.cell? ⟨B, 3, none⟩ = some (.int .i64 x.ticks) → w.cell? ⟨B, 4, none⟩ = some (.int .i64 x.budget) → w.cell? ⟨B, 5, none⟩ = some (.int .i64 x.made) → FitP x.classes.length x.objects.length 1000 v → v.text.size ≤ 1048576 → (∀ o, o ∈ x.objects → ∀ u, u ∈ o.fields → u.text.size ≤ 1048576) → Calls Tryz.prog 49 #[.pointer (some ⟨B, 0, none⟩), .agg #[.int .i64 v.kind, .int .i64 v.number, .string v.text], .int .i64 (d : Nat)] w fun e w' => e = .returned (.string (prT x d v)) ∧ Ext w w' := by
  intro v B ac cc ab cb au cu w rx b0 b1 b2 b3 b4 b5 hf hvz hoz
  have RX := Lib.hid rx
  have HF := Lib.hid hf
  have HS := Lib.hid hs
  have HOZ := Lib.hid hoz
  obtain ⟨_, _, _, _, _, _, h1, rc, rb, -⟩ := MStore.op_en rx
  simp only [List.cons.injEq, Value.slice.injEq, and_true] at h1
  obtain ⟨⟨rfl, -, rfl⟩, ⟨rfl, -, rfl⟩, ⟨rfl, -, rfl⟩⟩ := h1
  obtain ⟨aco, cco, bc, oc, h1, hlc, hmc, pc, hac⟩ := Rep.slmap rc
  simp only [List.cons.injEq, and_true, Value.slice.injEq] at h1
  obtain ⟨rfl, -, rfl⟩ := h1
  obtain ⟨abo, cbo, bb, ob, h1, hlb, hmb, pb, hab⟩ := Rep.slmap rb
  simp only [List.cons.injEq, and_true, Value.slice.injEq] at h1
  obtain ⟨rfl, -, rfl⟩ := h1
  unfold maxLen at hmc hmb
  have HAC := Lib.hid hac
  have HAB := Lib.hid hab
  have zB := lt_of_cell b0
  have HB0 : Hid (w.cell? ⟨B, 0, none⟩ = some (.slice ac x.classes.length cc) ∧ w.cell? ⟨B, 1, none⟩ = some (.slice ab x.objects.length cb) ∧ w.cell? ⟨B, 2, none⟩ = some (.slice au x.output.length cu) ∧ w.cell? ⟨B, 3, none⟩ = some (.int .i64 x.ticks) ∧ w.cell? ⟨B, 4, none⟩ = some (.int .i64 x.budget) ∧ w.cell? ⟨B, 5, none⟩ = some (.int .i64 x.made)) := Lib.hid ⟨b0, b1, b2, b3, b4, b5⟩
  clear rx rc rb hac hab hs hoz
  obtain ⟨K, n, t⟩ := v
  simp only at *
  have hk := kinds_fit hf
  simp only at hk
  have hv := hf.1
  rcases hk with rfl | rfl | rfl | rfl | rfl | rfl | rfl | rfl
  · have HV : Hid (prT x d ⟨0, n, t⟩ = ⟨#[110, 105, 108]⟩) := Lib.hid (by cases d <;> simp [prT, prHead])
    clear hv hf
    go_enter Tryz.func49, Tryz.ntmps49
    go_wp2_with fail
    go_ret
    exact ⟨by rw [HV.out]; rfl, by first | exact Ext.refl _ | exact (Ext.refl _).alloc _ | exact ((Ext.refl _).alloc _).alloc _⟩
  · have hn : n = 0 ∨ n = 1 := by rcases hv with h | h | h | h | h | h <;> simp at h <;> omega
    clear hv
    rcases hn with rfl | rfl
    · have HV : Hid (prT x d ⟨1, 0, t⟩ = ⟨#[102, 97, 108, 115, 101]⟩) := Lib.hid (by cases d <;> simp [prT, prHead])
      clear hf
      go_enter Tryz.func49, Tryz.ntmps49
      go_wp2_with fail
      go_ret
      exact ⟨by rw [HV.out]; rfl, by first | exact Ext.refl _ | exact (Ext.refl _).alloc _ | exact ((Ext.refl _).alloc _).alloc _⟩
    · have HV : Hid (prT x d ⟨1, 1, t⟩ = ⟨#[116, 114, 117, 101]⟩) := Lib.hid (by cases d <;> simp [prT, prHead])
      clear hf
      go_enter Tryz.func49, Tryz.ntmps49
      go_wp2_with fail
      go_ret
      exact ⟨by rw [HV.out]; rfl, by first | exact Ext.refl _ | exact (Ext.refl _).alloc _ | exact ((Ext.refl _).alloc _).alloc _⟩
  · have hn : -999999999 ≤ n ∧ n ≤ 999999999 := by rcases hv with h | h | h | h | h | h <;> simp at h <;> omega
    have HV : Hid (prT x d ⟨2, n, t⟩ = itoaB n) := Lib.hid (by cases d <;> simp [prT, prHead])
    clear hv hf
    go_enter Tryz.func49, Tryz.ntmps49
    go_wp2_with fail
    refine (spec_FormatInt_any n _ (by omega) (by omega)).mono ?_
    rintro e w2 ⟨rfl, hx2⟩
    go_wp2_with fail
    go_ret
    exact ⟨by rw [HV.out]; rfl, ((Ext.refl w).alloc _).trans hx2⟩
  · have HV : Hid (prT x d ⟨3, n, t⟩ = cutT (quoteB t)) := Lib.hid (by cases d <;> simp [prT, prHead])
    have HT : Hid (tokB ⟨4, t, 0⟩ = quoteB t) := Lib.hid (by simp [tokB])
    have hqz : (quoteB t).size ≤ 4194304 := by
      have := subL_len 39 t.data.toList
      have e1 : t.data.toList.length = t.size := by simp
      have e2 : (quoteB t).size = (subL 39 [39, 39] t.data.toList).length + 2 := by simp [quoteB, ByteArray.size]
      omega
    clear hv hf
    go_enter Tryz.func49, Tryz.ntmps49
    go_wp2_with fail
    refine (spec_FormatToken_any ⟨4, t, 0⟩ [.int .i64 4, .string t, .int .i64 0] _ (MToken.shut (x := ⟨4, t, 0⟩)).rep (by rw [MToken.d_eq]; simp only [D.bulk, D.bulkL]; omega) (by rw [MToken.d_eq]; simp only [D.ok, D.okL]; exact ⟨⟨by omega, by omega⟩, by omega, ⟨by omega, by omega⟩, trivial⟩)).mono ?_
    rw [HT.out]
    rintro e w2 ⟨rfl, hx2⟩
    go_wp2_with fail
    refine (l9Cut_any (quoteB t) _ hqz).mono ?_
    rintro e w3 ⟨rfl, rfl⟩
    go_wp2_with fail
    go_ret
    exact ⟨by rw [HV.out]; rfl, ((Ext.refl w).alloc _).trans hx2⟩
  · have HV : Hid (prT x d ⟨4, n, t⟩ = ⟨#[35]⟩ ++ t) := Lib.hid (by cases d <;> simp [prT, prHead])
    clear hv hf
    go_enter Tryz.func49, Tryz.ntmps49
    go_wp2_with fail
    go_ret
    exact ⟨by rw [HV.out]; rfl, by first | exact Ext.refl _ | exact (Ext.refl _).alloc _ | exact ((Ext.refl _).alloc _).alloc _⟩
  · have hn := hf.2.1 rfl
    simp only at hn
    have hn0 : 0 ≤ n := by rcases hv with h | h | h | h | h | h <;> simp at h <;> omega
    obtain ⟨m, rfl⟩ : ∃ m : Nat, n = m := ⟨n.toNat, by omega⟩
    have hm : m < x.classes.length := by omega
    obtain ⟨c, hc⟩ : ∃ c, x.classes[m]? = some c := ⟨_, List.getElem?_eq_getElem hm⟩
    have HV : Hid (prT x d ⟨5, m, t⟩ = c.name) := Lib.hid (by cases d <;> simp [prT, prHead, List.getD, hc])
    obtain rfl := pc (by omega)
    obtain ⟨es, les, ces, res⟩ := HAC.out m c hc
    obtain ⟨af, cf, rfl, -⟩ := MClassInfo.op_en res
    have q0 : w.cell? ⟨bc, oc + m * 3, none⟩ = some (.string c.name) := ces 0 (by omega)
    have zq := lt_of_cell q0
    have m0 : (0 : Int) ≤ m := by omega
    have m1 : (m : Int) < x.classes.length := by omega
    clear les ces res hc hv hf
    go_enter Tryz.func49, Tryz.ntmps49
    go_wp2_with fail
    generalize hS : World.alloc w _ = W1
    have x1 : Ext w W1 := by rw [← hS]; exact (Ext.refl _).alloc _
    have v1 : W1.cell? ⟨w.heap.size, 1, none⟩ = some (.int .i64 m) := by rw [← hS]; simp
    clear hS
    have g1 := reg (Ext.refl _) v1
    have g2 := reg x1 b0
    have g3 := reg x1 q0
    refine wp_region_quiet_below (by kernel_rfl) (by kernel_rfl) ?_
    repeat (go_big_quiet_step (fail))
    refine wpQuiet_nil ?_
    clear g1 g2 g3
    intro _ hw'
    obtain ⟨pw, hw''⟩ := hw'
    subst hw''
    go_wp2_with fail
    go_ret
    exact ⟨by rw [HV.out]; rfl, x1.trans (regx _ _)⟩
  · obtain ⟨m, ob2, hm, hlt, hom, hat, hok⟩ := obj_of HS.out HF.out rfl
    simp only at hm
    subst hm
    have hmem := List.mem_of_getElem? hom
    obtain ⟨cm, c, hcm, hcl, hcc, hcd⟩ := obj_cls HS.out.1 hok
    obtain rfl := pb (by omega)
    obtain rfl := pc (by omega)
    obtain ⟨es, les, ces, res⟩ := HAB.out m ob2 hom
    obtain ⟨af, cf, an, cn, rfl, rf, -⟩ := MObject.op_en res
    obtain ⟨es2, les2, ces2, res2⟩ := HAC.out cm c hcc
    obtain ⟨ag, cg, rfl, -⟩ := MClassInfo.op_en res2
    have q0 : w.cell? ⟨bb, ob + m * 4, none⟩ = some (.int .i64 ob2.kind) := ces 0 (by omega)
    have q1 : w.cell? ⟨bb, ob + m * 4 + 1, none⟩ = some (.int .i64 ob2.cls) := ces 1 (by omega)
    have q2 : w.cell? ⟨bb, ob + m * 4 + 2, none⟩ = some (.slice af ob2.fields.length cf) := ces 2 (by omega)
    have q3 : w.cell? ⟨bb, ob + m * 4 + 3, none⟩ = some (.slice an ob2.numbers.length cn) := ces 3 (by omega)
    have p0 : w.cell? ⟨bc, oc + cm * 3, none⟩ = some (.string c.name) := ces2 0 (by omega)
    have zq := lt_of_cell q0
    have zp := lt_of_cell p0
    have hnm := cls_name HS.out.1 hcc
    have RF := Lib.hid rf
    have hmi : (m : Int) < x.objects.length := by omega
    rw [hcm] at q1
    have HCM := Lib.hid hcm
    have hci : (cm : Int) < x.classes.length := by omega
    clear les ces res les2 ces2 res2 rf hv hf hcc hom hcm
    have m0 : (0 : Int) ≤ m := by omega
    have m1 : (m : Int) < x.objects.length := by omega
    go_enter Tryz.func49, Tryz.ntmps49
    go_upto_region 18 with fail
    generalize hS : World.alloc w _ = W1
    have x1 : Ext w W1 := by rw [← hS]; exact (Ext.refl _).alloc _
    have v1 : W1.cell? ⟨w.heap.size, 1, none⟩ = some (.int .i64 m) := by rw [← hS]; simp
    clear hS
    have KS : Hid (∀ w'', Ext W1 w'' → w''.cell? ⟨B, 1, none⟩ = some (.slice (some ⟨bb, ob, none⟩) x.objects.length cb) ∧ w''.cell? ⟨w.heap.size, 1, none⟩ = some (.int .i64 m) ∧ w''.cell? ⟨bb, ob + m * 4, none⟩ = some (.int .i64 ob2.kind) ∧ w''.cell? ⟨bb, ob + m * 4 + 1, none⟩ = some (.int .i64 cm) ∧ w''.cell? ⟨bb, ob + m * 4 + 2, none⟩ = some (.slice af ob2.fields.length cf) ∧ w''.cell? ⟨bb, ob + m * 4 + 3, none⟩ = some (.slice an ob2.numbers.length cn) ∧ Ext W1 w'') := Lib.hid fun w'' h => ⟨h.cell (x1.cell b1), h.cell v1, h.cell (x1.cell q0), h.cell (x1.cell q1), h.cell (x1.cell q2), h.cell (x1.cell q3), h⟩
    have b1' := x1.cell b1
    have q0' := x1.cell q0
    have q1' := x1.cell q1
    have q2' := x1.cell q2
    have q3' := x1.cell q3
    have zW := x1.size
    go_cut [7] (fun pv wx => ∃ g : Nat, pv = .pointer (some ⟨g, 0, none⟩) ∧ Ext W1 wx ∧ wx.cell? ⟨g, 0, none⟩ = some (.int .i64 ob2.kind) ∧ wx.cell? ⟨g, 1, none⟩ = some (.int .i64 cm) ∧ wx.cell? ⟨g, 2, none⟩ = some (.slice af ob2.fields.length cf) ∧ wx.cell? ⟨g, 3, none⟩ = some (.slice an ob2.numbers.length cn))
    case first =>
      go_region_held3 (fun w'' => w''.cell? ⟨B, 1, none⟩ = some (.slice (some ⟨bb, ob, none⟩) x.objects.length cb) ∧ w''.cell? ⟨w.heap.size, 1, none⟩ = some (.int .i64 m) ∧ w''.cell? ⟨bb, ob + m * 4, none⟩ = some (.int .i64 ob2.kind) ∧ w''.cell? ⟨bb, ob + m * 4 + 1, none⟩ = some (.int .i64 cm) ∧ w''.cell? ⟨bb, ob + m * 4 + 2, none⟩ = some (.slice af ob2.fields.length cf) ∧ w''.cell? ⟨bb, ob + m * 4 + 3, none⟩ = some (.slice an ob2.numbers.length cn) ∧ Ext W1 w'')
        (exact KS.out _ (by repeat (first | exact Ext.drew (Ext.refl _) | exact Ext.refl _ | refine Ext.drew ?_ | refine Ext.alloc ?_ _ | refine Ext.setCell ?_ (by first | exact Nat.le_refl _ | (simp; done) | (simp; omega)) _)))
        (first | fail)
      all_goals
        go_wp2_with fail
        go_meet
        exact ⟨_, rfl, Ext.drew ((Ext.refl W1).alloc _), by simp, by simp, by simp, by simp⟩
    case rest =>
    obtain ⟨g, rfl, hx2, d0, d1, d2, d3⟩ := hcut
    have x2 := x1.trans hx2
    have zg := lt_of_cell d0
    have c0 := x2.cell b0
    have p0' := x2.cell p0
    have zp' := lt_of_cell p0'
    clear KS b1' q0' q1' q2' q3' q0 q1 q2 q3 v1 zW
    by_cases hk2 : ob2.kind = 2
    rotate_left
    · have HV : Hid (prT x d ⟨6, m, t⟩ = artB c.name) := Lib.hid (by
        have e : ∀ arr, prHead x ⟨6, m, t⟩ arr = artB c.name := fun arr => by
          unfold prHead
          rw [if_neg (by simp), if_neg (by simp), if_neg (by simp), if_neg (by simp), if_neg (by simp), if_neg (by simp), if_neg (by simp), hat, if_neg hk2, hcd]
        cases d
        · exact e _
        · exact e _)
      have t2 := int_nen hk2
      have hz1 : 1 ≤ c.name.size := hnm.1
      have hz20 : c.name.size ≤ 1048576 := by have := hnm.2.1; omega
      have y0 : (0 : Int) ≤ cm := by omega
      clear hk2 hnm
      go_wp2_with fail
      have g1 := reg (Ext.refl _) d1
      have g2 := reg (Ext.refl _) c0
      have g3 := reg (Ext.refl _) p0'
      refine wp_region_quiet_below (by kernel_rfl) (by kernel_rfl) ?_
      repeat (go_big_quiet_step ((go_at_call 134; exact Calls.regrown_of (l9Article_any c.name _ hz1 hz20))))
      refine wpQuiet_nil ?_
      clear g1 g2 g3
      intro _ hw'
      obtain ⟨pw, hw''⟩ := hw'
      subst hw''
      go_wp2_with fail
      go_ret
      exact ⟨by rw [HV.out]; rfl, x2.trans (regx _ _)⟩
    have HK2 := Lib.hid hk2
    have t2 := int_eqn hk2
    clear hk2 hnm p0 p0' zp zp' HCM hci hcd c0
    cases d with
    | zero =>
      have HV : Hid (prT x 0 ⟨6, m, t⟩ = ⟨#[46, 46, 46]⟩) := Lib.hid (by
        show prHead x ⟨6, m, t⟩ _ = _
        unfold prHead
        rw [if_neg (by simp), if_neg (by simp), if_neg (by simp), if_neg (by simp), if_neg (by simp), if_neg (by simp), if_neg (by simp), hat, if_pos HK2.out])
      have td : (((0 : Nat) : Int) == 0) = true := by decide
      go_wp2_with fail
      go_ret
      exact ⟨by rw [HV.out]; rfl, x2⟩
    | succ d =>
      have HV : Hid (prT x (d + 1) ⟨6, m, t⟩ = cutT (⟨#[40]⟩ ++ joinB (ob2.fields.map (prT x d)) ⟨#[32]⟩ ++ ⟨#[41]⟩)) := Lib.hid (by
        show prHead x ⟨6, m, t⟩ _ = _
        unfold prHead
        rw [if_neg (by simp), if_neg (by simp), if_neg (by simp), if_neg (by simp), if_neg (by simp), if_neg (by simp), if_neg (by simp), hat, if_pos HK2.out])
      have hfl : ob2.fields.length ≤ 50 := by rcases hok.2 with h | h | h <;> (have := HK2.out; omega)
      have HOK := Lib.hid hok
      have HOM : Hid (ob2 ∈ x.objects) := Lib.hid hmem
      obtain ⟨D0, hD0⟩ : ∃ D0 : Int, ((d + 1 : Nat) : Int) = D0 := ⟨_, rfl⟩
      rw [hD0]
      have hq : ((d : Nat) : Int) = D0 - 1 := by omega
      have hDb : 1 ≤ D0 ∧ D0 ≤ 3 := by omega
      have td : (D0 == 0) = false := int_ne (by omega)
      have CP : Hid (∀ (u : MValue) (W : World), Ext w W → u ∈ ob2.fields → Calls Tryz.prog 49 #[.pointer (some ⟨B, 0, none⟩), .agg #[.int .i64 u.kind, .int .i64 u.number, .string u.text], .int .i64 (D0 - 1)] W fun e w' => e = .returned (.string (prT x d u)) ∧ Ext W w') := Lib.hid fun u W hW hu => by
        have := IH.out d rfl u B _ _ _ _ _ _ W (Rep.ext hW RX.out) (hW.cell HB0.out.1) (hW.cell HB0.out.2.1) (hW.cell HB0.out.2.2.1) (hW.cell HB0.out.2.2.2.1) (hW.cell HB0.out.2.2.2.2.1) (hW.cell HB0.out.2.2.2.2.2) (HOK.out.1 u hu) (HOZ.out ob2 HOM.out u hu) HOZ.out
        rw [hq] at this
        exact this
      obtain ⟨afo, cfo, fb, fo, h1, hlf, hmf, pf, haf⟩ := Rep.slmap RF.out
      simp only [List.cons.injEq, and_true, Value.slice.injEq] at h1
      obtain ⟨rfl, -, rfl⟩ := h1
      unfold maxLen at hmf
      have HAF := Lib.hid haf
      have HPS : Hid (∀ u, u ∈ ob2.fields → (prT x d u).size ≤ 200) := Lib.hid fun u hu => prT_size HS.out d (HOK.out.1 u hu).1
      clear hD0 hq haf hok hat hmem
      have hA : AccT wc.heap.size (wc.alloc (.cells #[] 9)) (.slice (some ⟨wc.heap.size, 0, none⟩) 0 0) ((ob2.fields.take 0).map (prT x d)) := Acc.empty _ _ (Nat.le_refl _)
      have hy : Ext wc (wc.alloc (.cells #[] 9)) := (Ext.refl wc).alloc _
      go_wp2_with fail
      go_loopw [8, 9] (fun pv iv wr => ∃ i : Nat, i ≤ ob2.fields.length ∧ iv = .int .i64 i ∧ AccT wc.heap.size wr pv ((ob2.fields.take i).map (prT x d)) ∧ Ext wc wr) (fun _ iv _ => ob2.fields.length - (intOf iv).toNat)
      case atStart => exact ⟨0, Nat.zero_le _, rfl, hA, hy⟩
      case round =>
        obtain ⟨i, hi, rfl, hacc, hx⟩ := hrel
        clear hA hy
        have d2r := hx.cell d2
        have zb := lt_of_cell d2r
        by_cases hlt2 : i < ob2.fields.length
        · obtain rfl := pf (by omega)
          obtain ⟨u, hu⟩ : ∃ u, ob2.fields[i]? = some u := ⟨_, List.getElem?_eq_getElem hlt2⟩
          obtain ⟨es, les, ces, res⟩ := HAF.out i u hu
          have hcu := MValue.op_en res
          subst hcu
          have X := x2.trans hx
          have p0 : wr.cell? ⟨fb, fo + i * 3, none⟩ = some (.int .i64 u.kind) := X.cell (ces 0 (by omega))
          have p1 : wr.cell? ⟨fb, fo + i * 3 + 1, none⟩ = some (.int .i64 u.number) := X.cell (ces 1 (by omega))
          have p2 : wr.cell? ⟨fb, fo + i * 3 + 2, none⟩ = some (.string u.text) := X.cell (ces 2 (by omega))
          have HST : Hid ((ob2.fields.take i).map (prT x d) ++ [prT x d u] = (ob2.fields.take (i + 1)).map (prT x d)) := Lib.hid (by rw [List.take_add_one, hu]; simp)
          have hlen : ((ob2.fields.take i).map (prT x d)).length = i := by simp; omega
          have hum := List.mem_of_getElem? hu
          have hil : (i : Int) < ob2.fields.length := by omega
          clear les ces res hu
          generalize (ob2.fields.take i).map (prT x d) = P at *
          go_wp2_with fail
          refine (CP.out u _ X hum).mono ?_
          rintro e w5 ⟨rfl, hx5⟩
          have hac5 := hacc.ext hx5
          have hx45 := hx.trans hx5
          have hz5 := hx45.size
          go_wp2_with (at_builtin; refine wpList_append_strs rfl _ _ rfl wc.heap.size _ P rfl (hac5.ext ((Ext.refl _).alloc _)) [prT x d u] _ _ _ rfl (rep_one _ _) (by first | omega | (simp; omega)) (by first | omega | (simp; omega)) ?_)
          intro ao3 cap3 w6 ac hg
          have hx6 : Ext wc w6 := AccT.below (hac5.ext ((Ext.refl _).alloc (.cells #[.string (prT x d u)] 9))) (hx45.alloc _) hg (by simp; omega)
          go_wp2_with fail
          go_roundw
          case rel => exact ⟨i + 1, by omega, by go_num, by rw [← HST.out]; exact ac, hx6⟩
          case measure => simp [intOf]; omega
        · obtain rfl : i = ob2.fields.length := by omega
          rw [List.take_length] at hacc
          obtain ⟨ao5, cap5, gp5, rfl, h5, -⟩ := hacc.rep
          rw [List.length_map] at h5 ⊢
          have H5 := Lib.hid h5.rep
          clear h5
          go_wp2_with fail
          refine (spec_Join_any (ob2.fields.map (prT x d)) ⟨#[32]⟩ _ _ H5.out (by decide) (fun y hy => by
            obtain ⟨u, hu, rfl⟩ := List.mem_map.1 hy
            have := HPS.out u hu; omega)).mono ?_
          rintro e w7 ⟨rfl, hx7⟩
          have hjz := joinB_size (ob2.fields.map (prT x d)) ⟨#[32]⟩
          have HV2 : Hid (∀ J, joinB (ob2.fields.map (prT x d)) ⟨#[32]⟩ = J → prT x (d + 1) ⟨6, m, t⟩ = cutT (⟨#[40]⟩ ++ J ++ ⟨#[41]⟩)) := Lib.hid fun J h => by rw [HV.out, h]
          obtain ⟨J, hJ⟩ : ∃ J, joinB (ob2.fields.map (prT x d)) ⟨#[32]⟩ = J := ⟨_, rfl⟩
          have HV3 := Lib.hid (HV2.out J hJ)
          rw [hJ] at hjz ⊢
          have hcz : (⟨#[40]⟩ ++ J ++ ⟨#[41]⟩ : ByteArray).size ≤ 4194304 := by
            rw [ByteArray.size_append, ByteArray.size_append]
            have e1 : (⟨#[40]⟩ : ByteArray).size = 1 := rfl
            have e2 : (⟨#[41]⟩ : ByteArray).size = 1 := rfl
            omega
          clear hJ HV2
          go_wp2_with fail
          refine (l9Cut_any _ _ hcz).mono ?_
          rintro e w8 ⟨rfl, rfl⟩
          go_wp2_with fail
          go_ret
          exact ⟨by rw [HV3.out]; rfl, (x2.trans hx).trans hx7⟩
  · have HV : Hid (prT x d ⟨7, n, t⟩ = ⟨#[97, 32, 66, 108, 111, 99, 107]⟩) := Lib.hid (by cases d <;> simp [prT, prHead])
    clear hv hf
    go_enter Tryz.func49, Tryz.ntmps49
    go_wp2_with fail
    go_ret
    exact ⟨by rw [HV.out]; rfl, by first | exact Ext.refl _ | exact (Ext.refl _).alloc _ | exact ((Ext.refl _).alloc _).alloc _⟩

set_option maxHeartbeats 4000000 in
set_option maxRecDepth 100000 in
theorem l9Print_any (x : MStore) (hs : StoreOk 1000 x) : ∀ (d : Nat), d ≤ 3 → ∀ (v : MValue) (B : Nat) (ac : Option Addr) (cc : Nat) (ab : Option Addr) (cb : Nat) (au : Option Addr) (cu : Nat) (w : World), Rep w x.d [.slice ac x.classes.length cc, .slice ab x.objects.length cb, .slice au x.output.length cu, .int .i64 x.ticks, .int .i64 x.budget, .int .i64 x.made] → w.cell? ⟨B, 0, none⟩ = some (.slice ac x.classes.length cc) → w.cell? ⟨B, 1, none⟩ = some (.slice ab x.objects.length cb) → w.cell? ⟨B, 2, none⟩ = some (.slice au x.output.length cu) → w.cell? ⟨B, 3, none⟩ = some (.int .i64 x.ticks) → w.cell? ⟨B, 4, none⟩ = some (.int .i64 x.budget) → w.cell? ⟨B, 5, none⟩ = some (.int .i64 x.made) → FitP x.classes.length x.objects.length 1000 v → v.text.size ≤ 1048576 → (∀ o, o ∈ x.objects → ∀ u, u ∈ o.fields → u.text.size ≤ 1048576) → Calls Tryz.prog 49 #[.pointer (some ⟨B, 0, none⟩), .agg #[.int .i64 v.kind, .int .i64 v.number, .string v.text], .int .i64 (d : Nat)] w fun e w' => e = .returned (.string (prT x d v)) ∧ Ext w w'
  | 0, hd => l9Print_step x hs 0 hd (Lib.hid fun d' e => absurd e (by omega))
  | d + 1, hd => l9Print_step x hs (d + 1) hd (Lib.hid fun d' e => by
    obtain rfl : d = d' := by omega
    exact l9Print_any x hs d (by omega))

set_option maxHeartbeats 4000000 in
theorem spec_PrintValue_any (x : MStore) (v : MValue) (cx cv : List Value) (w : World) (rx : Rep w x.d cx) (rv : Rep w v.d cv) (hz : StoreSz x) (hs : v.text.size ≤ 1048576) :
    Calls Tryz.prog 11 #[.agg cx.toArray, .agg cv.toArray] w fun e w' => e = .returned (.string (printV x v)) ∧ Ext w w' := by
  obtain ⟨ac, cc, ab, cb, au, cu, rfl, rc, rb, ru⟩ := MStore.op_en rx
  have hcv := MValue.op_en rv
  subst hcv
  have RX := Lib.hid rx
  have RC := Lib.hid rc
  have RB := Lib.hid rb
  have RU := Lib.hid ru
  have RV := Lib.hid rv
  have HZ := Lib.hid hz
  have HS := Lib.hid hs
  clear rx rc rb ru rv hz hs
  go_enter Tryz.func11, Tryz.ntmps11
  go_wp2_with fail
  generalize hS : World.alloc (World.alloc w _) _ = W1
  have x1 : Ext w W1 := by rw [← hS]; exact ((Ext.refl _).alloc _).alloc _
  have s0 : W1.cell? ⟨w.heap.size, 0, none⟩ = some (.slice ac x.classes.length cc) := by rw [← hS]; simp
  have s1 : W1.cell? ⟨w.heap.size, 1, none⟩ = some (.slice ab x.objects.length cb) := by rw [← hS]; simp
  have s2 : W1.cell? ⟨w.heap.size, 2, none⟩ = some (.slice au x.output.length cu) := by rw [← hS]; simp
  have s3 : W1.cell? ⟨w.heap.size, 3, none⟩ = some (.int .i64 x.ticks) := by rw [← hS]; simp
  have s4 : W1.cell? ⟨w.heap.size, 4, none⟩ = some (.int .i64 x.budget) := by rw [← hS]; simp
  have s5 : W1.cell? ⟨w.heap.size, 5, none⟩ = some (.int .i64 x.made) := by rw [← hS]; simp
  have t0 : W1.cell? ⟨w.heap.size + 1, 0, none⟩ = some (.int .i64 v.kind) := by rw [← hS]; simp
  have t1 : W1.cell? ⟨w.heap.size + 1, 1, none⟩ = some (.int .i64 v.number) := by rw [← hS]; simp
  have t2 : W1.cell? ⟨w.heap.size + 1, 2, none⟩ = some (.string v.text) := by rw [← hS]; simp
  clear hS
  refine (l9IsStore_any x w.heap.size _ _ _ _ _ _ 1000 W1 (Rep.ext x1 RC.out) (Rep.ext x1 RB.out) (Rep.ext x1 RU.out) s0 s1 s2 s3 s4 s5 HZ.out).mono ?_
  rintro e w2 ⟨rfl, hx2⟩
  have e2 := x1.trans hx2
  replace s0 := Ext.cell hx2 s0
  replace s1 := Ext.cell hx2 s1
  replace s2 := Ext.cell hx2 s2
  replace s3 := Ext.cell hx2 s3
  replace s4 := Ext.cell hx2 s4
  replace s5 := Ext.cell hx2 s5
  replace t0 := Ext.cell hx2 t0
  replace t1 := Ext.cell hx2 t1
  replace t2 := Ext.cell hx2 t2
  cases hb : storeB 1000 x
  · have HV : Hid (⟨#[]⟩ = printV x v) := Lib.hid (printV_no (fun h => by rw [hb] at h; cases h))
    clear hb
    go_wp2_with fail
    go_ret
    exact ⟨ret_str HV.out, e2⟩
  have HB := Lib.hid hb; clear hb
  go_wp2_with fail
  refine (l9Fits_any v _ w.heap.size _ _ _ _ _ _ 1000 w2 (Rep.ext e2 RV.out) HS.out s0 s1).mono ?_
  rintro e w3 ⟨rfl, hx3⟩
  have e3 := e2.trans hx3
  replace s0 := Ext.cell hx3 s0
  replace s1 := Ext.cell hx3 s1
  replace s2 := Ext.cell hx3 s2
  replace s3 := Ext.cell hx3 s3
  replace s4 := Ext.cell hx3 s4
  replace s5 := Ext.cell hx3 s5
  replace t0 := Ext.cell hx3 t0
  replace t1 := Ext.cell hx3 t1
  replace t2 := Ext.cell hx3 t2
  cases hb : fitB x.classes.length x.objects.length 1000 v
  · have HV : Hid (⟨#[]⟩ = printV x v) := Lib.hid (printV_no (fun _ h => by rw [hb] at h; cases h))
    clear hb
    go_wp2_with fail
    go_ret
    exact ⟨ret_str HV.out, e3⟩
  have HF := Lib.hid hb; clear hb
  go_wp2_with fail
  have CP : Hid (Calls Tryz.prog 49 #[.pointer (some ⟨w.heap.size, 0, none⟩), .agg #[.int .i64 v.kind, .int .i64 v.number, .string v.text], .int .i64 3] w3 fun e w' => e = .returned (.string (prT x 3 v)) ∧ Ext w3 w') := Lib.hid (l9Print_any x (storeB_iff.1 HB.out) 3 (Nat.le_refl _) v _ _ _ _ _ _ _ w3 (Rep.ext e3 RX.out) s0 s1 s2 s3 s4 s5 (fitB_iff.1 HF.out) HS.out HZ.out.2.2)
  refine CP.out.mono ?_
  rintro e w4 ⟨rfl, hx4⟩
  go_wp2_with fail
  go_ret
  exact ⟨ret_str (printV_yes HB.out HF.out), e3.trans hx4⟩

end Go.Proofs.YticdmbmjlaomiaaGreatDoor
