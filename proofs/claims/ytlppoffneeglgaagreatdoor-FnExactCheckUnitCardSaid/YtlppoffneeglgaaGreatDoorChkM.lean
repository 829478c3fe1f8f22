/-
  CONTRACTS: a method and a class, of the reference.
  Conditions: those that each lemma states.
-/
import Derived.Test.YtlppoffneeglgaaGreatDoorRows
import Derived.Test.YtlppoffneeglgaaGreatDoorChkX
import Derived.Deep.RegionHeld3
namespace Go.Proofs.YtlppoffneeglgaaGreatDoor
open Go.RowKit
set_option linter.unusedSimpArgs false
set_option linter.unusedVariables false

set_option maxHeartbeats 8000000 in
set_option maxRecDepth 100000 in
theorem l7Method_any (l : List MClassDef) (hl : l.length ≤ 8) (hc : Clean l) (hz : ∀ d, d ∈ l → d.fields.length ≤ 4) (owner : Int) (m : MMethod) (cm : List Value) (V : List ByteArray) (n : Nat) (B : Nat) (a : Option Addr) (c : Nat) (w : World) (ho : owner = -1 ∨ (16 ≤ owner ∧ owner < 16 + l.length)) (hV : V = if 16 ≤ owner ∧ m.cls = false then flds l owner else [])
    (hok : okR n true (blockM m.params m.temps m.body)) (hb : (blockM m.params m.temps m.body).d.bulk ≤ 4194304) (hp : m.params.length + m.temps.length ≤ 1048576) (rm : Rep w m.d cm) (b0 : w.cell? ⟨B, 0, none⟩ = some (.slice a l.length c)) (rl : Rep w (MClassDefs l) [.slice a l.length c]) :
    Calls Tryz.prog 13 #[.pointer (some ⟨B, 0, none⟩), .int .i64 owner, .agg cm.toArray] w fun e w' => e = .returned (.string (exV (builtinsL ++ namesC l) V (decide (16 ≤ owner)) [] (blockM m.params m.temps m.body))) ∧ Ext w w' := by
  have RM := Lib.hid rm
  obtain ⟨a1, c1, a2, c2, a3, c3, rfl, -, -, -⟩ := MMethod.op_en rm
  have RL := Lib.hid rl
  have HB0 := Lib.hid b0
  have zB := lt_of_cell b0
  obtain ⟨R, hR⟩ : ∃ R, exV (builtinsL ++ namesC l) V (decide (16 ≤ owner)) [] (blockM m.params m.temps m.body) = R := ⟨_, rfl⟩
  have HR := Lib.hid hR
  have CX : Hid (∀ (W : World) (vV : Value) (ob : Bool) (cs : List Value), ob = decide (16 ≤ owner) → Ext w W → Rep W (strs V) [vV] → Rep W (blockM m.params m.temps m.body).d cs → Calls Tryz.prog 33 #[.agg #[.pointer (some ⟨B, 0, none⟩), .slice none 0 0, .slice none 0 0, vV, .bool ob], .agg cs.toArray] W fun e w' => e = .returned (.string R) ∧ Ext W w') := Lib.hid fun W vV ob cs hob hW hv hr => by
    subst hob
    rw [← hR]
    have rn : Rep W (strs ([] : List ByteArray)) [.slice none 0 0] := ⟨[], RepF.sl_iff.2 ⟨none, 0, rfl, by simp, by unfold maxLen; omega, by simp, Or.inl ⟨rfl, rfl⟩⟩⟩
    exact sx_at l hl V _ n true _ cs [] [] [] B a c none none 0 0 vV W hok hr SRel.nil rn rn hv (hW.cell b0) (Rep.ext hW rl) (by simpa using hb)
  have C5 : Hid (∀ W, Ext w W → Calls Tryz.prog 27 #[.agg #[.string m.selector, .bool m.cls, .slice a1 m.params.length c1, .slice a2 m.temps.length c2, .slice a3 m.body.length c3]] W fun e w' => ∃ cs, e = .returned (.agg cs.toArray) ∧ Rep w' (blockM m.params m.temps m.body).d cs ∧ Ext W w') := Lib.hid fun W hW => l5Body_any m _ W (Rep.ext hW rm) hp
  have CF : Hid (16 ≤ owner → ∀ W, Ext w W → Calls Tryz.prog 32 #[.pointer (some ⟨B, 0, none⟩), .int .i64 owner] W fun e w' => ∃ v, e = .returned v ∧ AccT W.heap.size w' v (flds l owner) ∧ Ext W w') := Lib.hid fun h W hW => by
    have : owner < 16 + (l.length : Int) := by omega
    exact l7Fields_at l hc hz hl B a c l.length owner W (Nat.le_refl _) (by omega) this (hW.cell b0) (Rep.ext hW rl)
  have HV := Lib.hid hV
  clear hR hok hb rm rl hV hc
  by_cases h16 : 16 ≤ owner
  rotate_left
  · have hge : ¬ owner ≥ 16 := h16
    have HOB : Hid (false = decide (16 ≤ owner)) := Lib.hid (by simp; omega)
    have HVE : Hid (V = []) := Lib.hid (by rw [HV.out, if_neg (fun h => h16 h.1)])
    go_enter Tryz.func13, Tryz.ntmps13
    go_upto_region 4 with fail
    generalize hW : World.alloc (World.alloc w _) _ = W1
    have x1 : Ext w W1 := by rw [← hW]; exact ((Ext.refl _).alloc _).alloc _
    have n0 : W1.cell? ⟨w.heap.size, 0, none⟩ = some (.string m.selector) := by rw [← hW]; simp
    have n1 : W1.cell? ⟨w.heap.size, 1, none⟩ = some (.bool m.cls) := by rw [← hW]; simp
    have n2 : W1.cell? ⟨w.heap.size, 2, none⟩ = some (.slice a1 m.params.length c1) := by rw [← hW]; simp
    have n3 : W1.cell? ⟨w.heap.size, 3, none⟩ = some (.slice a2 m.temps.length c2) := by rw [← hW]; simp
    have n4 : W1.cell? ⟨w.heap.size, 4, none⟩ = some (.slice a3 m.body.length c3) := by rw [← hW]; simp
    have O1 : Own W1 (w.heap.size + 1) 78 #[.pointer (some ⟨B, 0, none⟩), .slice none 0 0, .slice none 0 0, .slice none 0 0, .bool false] := by rw [← hW]; exact own_new2 w _ _ _
    clear hW
    have s0 : W1.cell? ⟨w.heap.size + 1, 0, none⟩ = some (.pointer (some ⟨B, 0, none⟩)) := by rw [O1.cell]; rfl
    have s1 : W1.cell? ⟨w.heap.size + 1, 1, none⟩ = some (.slice none 0 0) := by rw [O1.cell]; rfl
    have s2 : W1.cell? ⟨w.heap.size + 1, 2, none⟩ = some (.slice none 0 0) := by rw [O1.cell]; rfl
    have s3 : W1.cell? ⟨w.heap.size + 1, 3, none⟩ = some (.slice none 0 0) := by rw [O1.cell]; rfl
    have s4 : W1.cell? ⟨w.heap.size + 1, 4, none⟩ = some (.bool false) := by rw [O1.cell]; rfl
    have RVN : Hid (Rep W1 (strs V) [.slice none 0 0]) := Lib.hid (by rw [HVE.out]; exact ⟨[], RepF.sl_iff.2 ⟨none, 0, rfl, by simp, by unfold maxLen; omega, by simp, Or.inl ⟨rfl, rfl⟩⟩⟩)
    have KS : Hid (∀ w'', Ext W1 w'' → w''.cell? ⟨w.heap.size + 1, 0, none⟩ = some (.pointer (some ⟨B, 0, none⟩)) ∧ w''.cell? ⟨w.heap.size + 1, 1, none⟩ = some (.slice none 0 0) ∧ w''.cell? ⟨w.heap.size + 1, 2, none⟩ = some (.slice none 0 0) ∧ w''.cell? ⟨w.heap.size + 1, 3, none⟩ = some (.slice none 0 0) ∧ w''.cell? ⟨w.heap.size + 1, 4, none⟩ = some (.bool false) ∧ w''.cell? ⟨w.heap.size, 0, none⟩ = some (.string m.selector) ∧ w''.cell? ⟨w.heap.size, 1, none⟩ = some (.bool m.cls) ∧ w''.cell? ⟨w.heap.size, 2, none⟩ = some (.slice a1 m.params.length c1) ∧ w''.cell? ⟨w.heap.size, 3, none⟩ = some (.slice a2 m.temps.length c2) ∧ w''.cell? ⟨w.heap.size, 4, none⟩ = some (.slice a3 m.body.length c3) ∧ Ext W1 w'') := Lib.hid fun w'' h => ⟨h.cell s0, h.cell s1, h.cell s2, h.cell s3, h.cell s4, h.cell n0, h.cell n1, h.cell n2, h.cell n3, h.cell n4, h⟩
    have zs := lt_of_cell s0
    have zn := lt_of_cell n0
    go_region_held3 (fun w'' => w''.cell? ⟨w.heap.size + 1, 0, none⟩ = some (.pointer (some ⟨B, 0, none⟩)) ∧ w''.cell? ⟨w.heap.size + 1, 1, none⟩ = some (.slice none 0 0) ∧ w''.cell? ⟨w.heap.size + 1, 2, none⟩ = some (.slice none 0 0) ∧ w''.cell? ⟨w.heap.size + 1, 3, none⟩ = some (.slice none 0 0) ∧ w''.cell? ⟨w.heap.size + 1, 4, none⟩ = some (.bool false) ∧ w''.cell? ⟨w.heap.size, 0, none⟩ = some (.string m.selector) ∧ w''.cell? ⟨w.heap.size, 1, none⟩ = some (.bool m.cls) ∧ w''.cell? ⟨w.heap.size, 2, none⟩ = some (.slice a1 m.params.length c1) ∧ w''.cell? ⟨w.heap.size, 3, none⟩ = some (.slice a2 m.temps.length c2) ∧ w''.cell? ⟨w.heap.size, 4, none⟩ = some (.slice a3 m.body.length c3) ∧ Ext W1 w'')
      (first | exact KS.out _ (((Ext.drew (Ext.refl _)).trans hx8).trans hx9) | exact KS.out _ ((Ext.drew (Ext.refl _)).trans hx8) | exact KS.out _ (Ext.drew (Ext.refl _)))
      (first
        | (go_at_call 27; refine (C5.out _ (x1.trans (Ext.drew (Ext.refl _)))).mono ?_; rintro e w8 ⟨cs8, rfl, hr8, hx8⟩)
        | (go_at_call 33; refine (CX.out _ _ _ _ HOB.out (x1.trans ((Ext.drew (Ext.refl _)).trans hx8)) (Rep.ext ((Ext.drew (Ext.refl _)).trans hx8) RVN.out) hr8).mono ?_; rintro e w9 ⟨rfl, hx9⟩))
    go_wp2_with fail
    go_ret
    exact ⟨by rw [HR.out]; rfl, x1.trans (((Ext.drew (Ext.refl _)).trans hx8).trans hx9)⟩
  have hge : owner ≥ 16 := h16
  have HOB : Hid (true = decide (16 ≤ owner)) := Lib.hid (by simp; omega)
  cases hcl : m.cls
  rotate_left
  · have HVE : Hid (V = []) := Lib.hid (by rw [HV.out, if_neg (fun h => by rw [hcl] at h; cases h.2)])
    rw [hcl] at C5
    clear hcl
    go_enter Tryz.func13, Tryz.ntmps13
    go_upto_region 4 with fail
    generalize hW : World.alloc (World.alloc w _) _ = W1
    have x1 : Ext w W1 := by rw [← hW]; exact ((Ext.refl _).alloc _).alloc _
    have n0 : W1.cell? ⟨w.heap.size, 0, none⟩ = some (.string m.selector) := by rw [← hW]; simp
    have n1 : W1.cell? ⟨w.heap.size, 1, none⟩ = some (.bool true) := by rw [← hW]; simp
    have n2 : W1.cell? ⟨w.heap.size, 2, none⟩ = some (.slice a1 m.params.length c1) := by rw [← hW]; simp
    have n3 : W1.cell? ⟨w.heap.size, 3, none⟩ = some (.slice a2 m.temps.length c2) := by rw [← hW]; simp
    have n4 : W1.cell? ⟨w.heap.size, 4, none⟩ = some (.slice a3 m.body.length c3) := by rw [← hW]; simp
    have O1 : Own W1 (w.heap.size + 1) 78 #[.pointer (some ⟨B, 0, none⟩), .slice none 0 0, .slice none 0 0, .slice none 0 0, .bool true] := by rw [← hW]; exact own_new2 w _ _ _
    clear hW
    have s0 : W1.cell? ⟨w.heap.size + 1, 0, none⟩ = some (.pointer (some ⟨B, 0, none⟩)) := by rw [O1.cell]; rfl
    have s1 : W1.cell? ⟨w.heap.size + 1, 1, none⟩ = some (.slice none 0 0) := by rw [O1.cell]; rfl
    have s2 : W1.cell? ⟨w.heap.size + 1, 2, none⟩ = some (.slice none 0 0) := by rw [O1.cell]; rfl
    have s3 : W1.cell? ⟨w.heap.size + 1, 3, none⟩ = some (.slice none 0 0) := by rw [O1.cell]; rfl
    have s4 : W1.cell? ⟨w.heap.size + 1, 4, none⟩ = some (.bool true) := by rw [O1.cell]; rfl
    have RVN : Hid (Rep W1 (strs V) [.slice none 0 0]) := Lib.hid (by rw [HVE.out]; exact ⟨[], RepF.sl_iff.2 ⟨none, 0, rfl, by simp, by unfold maxLen; omega, by simp, Or.inl ⟨rfl, rfl⟩⟩⟩)
    have KS : Hid (∀ w'', Ext W1 w'' → w''.cell? ⟨w.heap.size + 1, 0, none⟩ = some (.pointer (some ⟨B, 0, none⟩)) ∧ w''.cell? ⟨w.heap.size + 1, 1, none⟩ = some (.slice none 0 0) ∧ w''.cell? ⟨w.heap.size + 1, 2, none⟩ = some (.slice none 0 0) ∧ w''.cell? ⟨w.heap.size + 1, 3, none⟩ = some (.slice none 0 0) ∧ w''.cell? ⟨w.heap.size + 1, 4, none⟩ = some (.bool true) ∧ w''.cell? ⟨w.heap.size, 0, none⟩ = some (.string m.selector) ∧ w''.cell? ⟨w.heap.size, 1, none⟩ = some (.bool true) ∧ w''.cell? ⟨w.heap.size, 2, none⟩ = some (.slice a1 m.params.length c1) ∧ w''.cell? ⟨w.heap.size, 3, none⟩ = some (.slice a2 m.temps.length c2) ∧ w''.cell? ⟨w.heap.size, 4, none⟩ = some (.slice a3 m.body.length c3) ∧ Ext W1 w'') := Lib.hid fun w'' h => ⟨h.cell s0, h.cell s1, h.cell s2, h.cell s3, h.cell s4, h.cell n0, h.cell n1, h.cell n2, h.cell n3, h.cell n4, h⟩
    have zs := lt_of_cell s0
    have zn := lt_of_cell n0
    go_region_held3 (fun w'' => w''.cell? ⟨w.heap.size + 1, 0, none⟩ = some (.pointer (some ⟨B, 0, none⟩)) ∧ w''.cell? ⟨w.heap.size + 1, 1, none⟩ = some (.slice none 0 0) ∧ w''.cell? ⟨w.heap.size + 1, 2, none⟩ = some (.slice none 0 0) ∧ w''.cell? ⟨w.heap.size + 1, 3, none⟩ = some (.slice none 0 0) ∧ w''.cell? ⟨w.heap.size + 1, 4, none⟩ = some (.bool true) ∧ w''.cell? ⟨w.heap.size, 0, none⟩ = some (.string m.selector) ∧ w''.cell? ⟨w.heap.size, 1, none⟩ = some (.bool true) ∧ w''.cell? ⟨w.heap.size, 2, none⟩ = some (.slice a1 m.params.length c1) ∧ w''.cell? ⟨w.heap.size, 3, none⟩ = some (.slice a2 m.temps.length c2) ∧ w''.cell? ⟨w.heap.size, 4, none⟩ = some (.slice a3 m.body.length c3) ∧ Ext W1 w'')
      (first | exact KS.out _ (((Ext.drew (Ext.refl _)).trans hx8).trans hx9) | exact KS.out _ ((Ext.drew (Ext.refl _)).trans hx8) | exact KS.out _ (Ext.drew (Ext.refl _)))
      (first
        | (go_at_call 27; refine (C5.out _ (x1.trans (Ext.drew (Ext.refl _)))).mono ?_; rintro e w8 ⟨cs8, rfl, hr8, hx8⟩)
        | (go_at_call 33; refine (CX.out _ _ _ _ HOB.out (x1.trans ((Ext.drew (Ext.refl _)).trans hx8)) (Rep.ext ((Ext.drew (Ext.refl _)).trans hx8) RVN.out) hr8).mono ?_; rintro e w9 ⟨rfl, hx9⟩))
    go_wp2_with fail
    go_ret
    exact ⟨by rw [HR.out]; rfl, x1.trans (((Ext.drew (Ext.refl _)).trans hx8).trans hx9)⟩
  · have HVE : Hid (V = flds l owner) := Lib.hid (by rw [HV.out, if_pos ⟨h16, hcl⟩])
    rw [hcl] at C5
    clear hcl
    go_enter Tryz.func13, Tryz.ntmps13
    go_upto_region 3 with fail
    generalize hW : World.alloc (World.alloc w _) _ = W1
    have x1 : Ext w W1 := by rw [← hW]; exact ((Ext.refl _).alloc _).alloc _
    have n0 : W1.cell? ⟨w.heap.size, 0, none⟩ = some (.string m.selector) := by rw [← hW]; simp
    have n1 : W1.cell? ⟨w.heap.size, 1, none⟩ = some (.bool false) := by rw [← hW]; simp
    have n2 : W1.cell? ⟨w.heap.size, 2, none⟩ = some (.slice a1 m.params.length c1) := by rw [← hW]; simp
    have n3 : W1.cell? ⟨w.heap.size, 3, none⟩ = some (.slice a2 m.temps.length c2) := by rw [← hW]; simp
    have n4 : W1.cell? ⟨w.heap.size, 4, none⟩ = some (.slice a3 m.body.length c3) := by rw [← hW]; simp
    have O1 : Own W1 (w.heap.size + 1) 78 #[.pointer (some ⟨B, 0, none⟩), .slice none 0 0, .slice none 0 0, .slice none 0 0, .bool true] := by rw [← hW]; exact own_new2 w _ _ _
    clear hW
    have s0 : W1.cell? ⟨w.heap.size + 1, 0, none⟩ = some (.pointer (some ⟨B, 0, none⟩)) := by rw [O1.cell]; rfl
    have s1 : W1.cell? ⟨w.heap.size + 1, 1, none⟩ = some (.slice none 0 0) := by rw [O1.cell]; rfl
    have s2 : W1.cell? ⟨w.heap.size + 1, 2, none⟩ = some (.slice none 0 0) := by rw [O1.cell]; rfl
    have s3 : W1.cell? ⟨w.heap.size + 1, 3, none⟩ = some (.slice none 0 0) := by rw [O1.cell]; rfl
    have s4 : W1.cell? ⟨w.heap.size + 1, 4, none⟩ = some (.bool true) := by rw [O1.cell]; rfl
    have fz := O1.frozen 3
    have zs0 := lt_of_cell s0
    go_wp2_with fail
    refine (CF.out h16 _ x1).mono ?_
    rintro e w2 ⟨v2, rfl, ac2, hx2⟩
    obtain ⟨ao2, cap2, gp2, rfl, h22, h23⟩ := ac2.rep
    have O2 := O1.ext hx2
    have fz2 := O2.frozen 3
    have t3 := hx2.cell s3
    have zs2 := lt_of_cell t3
    go_upto_region 4 with fail
    generalize hW3 : World.setCell w2 _ _ = W3
    have O3 : Own W3 (w.heap.size + 1) 78 #[.pointer (some ⟨B, 0, none⟩), .slice none 0 0, .slice none 0 0, .slice ao2 (flds l owner).length cap2, .bool true] := by rw [← hW3]; exact O2.set 3 _
    have T3 : Touch w2 W3 [w.heap.size + 1] := by rw [← hW3]; exact (Touch.of_ext (Ext.refl _) _).setCell (by simp) _
    have x3 : Ext w W3 := Touch.ext (x1.trans hx2) T3 (fun b hb => by simp at hb; omega)
    have RVN : Hid (Rep W3 (strs V) [.slice ao2 (flds l owner).length cap2]) := Lib.hid (by
      rw [HVE.out]
      exact (h22.touch T3 (fun b hb hm => by have := h23.ge b hb; have := lt_of_cell s0; simp at hm; omega)).rep)
    replace n0 := Touch.cellAt T3 (by simp) (hx2.cell n0)
    replace n1 := Touch.cellAt T3 (by simp) (hx2.cell n1)
    replace n2 := Touch.cellAt T3 (by simp) (hx2.cell n2)
    replace n3 := Touch.cellAt T3 (by simp) (hx2.cell n3)
    replace n4 := Touch.cellAt T3 (by simp) (hx2.cell n4)
    clear hW3 s0 s1 s2 s3 s4 t3 fz fz2 O1 O2 zs0 zs2
    have s0 : W3.cell? ⟨w.heap.size + 1, 0, none⟩ = some (.pointer (some ⟨B, 0, none⟩)) := by rw [O3.cell]; rfl
    have s1 : W3.cell? ⟨w.heap.size + 1, 1, none⟩ = some (.slice none 0 0) := by rw [O3.cell]; rfl
    have s2 : W3.cell? ⟨w.heap.size + 1, 2, none⟩ = some (.slice none 0 0) := by rw [O3.cell]; rfl
    have s3 : W3.cell? ⟨w.heap.size + 1, 3, none⟩ = some (.slice ao2 (flds l owner).length cap2) := by rw [O3.cell]; rfl
    have s4 : W3.cell? ⟨w.heap.size + 1, 4, none⟩ = some (.bool true) := by rw [O3.cell]; rfl
    have KS : Hid (∀ w'', Ext W3 w'' → w''.cell? ⟨w.heap.size + 1, 0, none⟩ = some (.pointer (some ⟨B, 0, none⟩)) ∧ w''.cell? ⟨w.heap.size + 1, 1, none⟩ = some (.slice none 0 0) ∧ w''.cell? ⟨w.heap.size + 1, 2, none⟩ = some (.slice none 0 0) ∧ w''.cell? ⟨w.heap.size + 1, 3, none⟩ = some (.slice ao2 (flds l owner).length cap2) ∧ w''.cell? ⟨w.heap.size + 1, 4, none⟩ = some (.bool true) ∧ w''.cell? ⟨w.heap.size, 0, none⟩ = some (.string m.selector) ∧ w''.cell? ⟨w.heap.size, 1, none⟩ = some (.bool false) ∧ w''.cell? ⟨w.heap.size, 2, none⟩ = some (.slice a1 m.params.length c1) ∧ w''.cell? ⟨w.heap.size, 3, none⟩ = some (.slice a2 m.temps.length c2) ∧ w''.cell? ⟨w.heap.size, 4, none⟩ = some (.slice a3 m.body.length c3) ∧ Ext W3 w'') := Lib.hid fun w'' h => ⟨h.cell s0, h.cell s1, h.cell s2, h.cell s3, h.cell s4, h.cell n0, h.cell n1, h.cell n2, h.cell n3, h.cell n4, h⟩
    have zs := lt_of_cell s0
    have zn := lt_of_cell n0
    go_region_held3 (fun w'' => w''.cell? ⟨w.heap.size + 1, 0, none⟩ = some (.pointer (some ⟨B, 0, none⟩)) ∧ w''.cell? ⟨w.heap.size + 1, 1, none⟩ = some (.slice none 0 0) ∧ w''.cell? ⟨w.heap.size + 1, 2, none⟩ = some (.slice none 0 0) ∧ w''.cell? ⟨w.heap.size + 1, 3, none⟩ = some (.slice ao2 (flds l owner).length cap2) ∧ w''.cell? ⟨w.heap.size + 1, 4, none⟩ = some (.bool true) ∧ w''.cell? ⟨w.heap.size, 0, none⟩ = some (.string m.selector) ∧ w''.cell? ⟨w.heap.size, 1, none⟩ = some (.bool false) ∧ w''.cell? ⟨w.heap.size, 2, none⟩ = some (.slice a1 m.params.length c1) ∧ w''.cell? ⟨w.heap.size, 3, none⟩ = some (.slice a2 m.temps.length c2) ∧ w''.cell? ⟨w.heap.size, 4, none⟩ = some (.slice a3 m.body.length c3) ∧ Ext W3 w'')
      (first | exact KS.out _ (((Ext.drew (Ext.refl _)).trans hx8).trans hx9) | exact KS.out _ ((Ext.drew (Ext.refl _)).trans hx8) | exact KS.out _ (Ext.drew (Ext.refl _)))
      (first
        | (go_at_call 27; refine (C5.out _ (x3.trans (Ext.drew (Ext.refl _)))).mono ?_; rintro e w8 ⟨cs8, rfl, hr8, hx8⟩)
        | (go_at_call 33; refine (CX.out _ _ _ _ HOB.out (x3.trans ((Ext.drew (Ext.refl _)).trans hx8)) (Rep.ext ((Ext.drew (Ext.refl _)).trans hx8) RVN.out) hr8).mono ?_; rintro e w9 ⟨rfl, hx9⟩))
    go_wp2_with fail
    go_ret
    exact ⟨by rw [HR.out]; rfl, x3.trans (((Ext.drew (Ext.refl _)).trans hx8).trans hx9)⟩

end Go.Proofs.YtlppoffneeglgaaGreatDoor
