/-
  CONTRACTS: l3Block, l5Body, blockOf, EqualMethods.
  Conditions: those that each lemma states.
-/
import Derived.Test.YtlppoffneeglgaaGreatDoorRows
import Derived.Test.YtlppoffneeglgaaGreatDoorLem
import Derived.Test.YtlppoffneeglgaaGreatDoorAcc
import Derived.Deep.RegionHeld3
import Derived.Deep.RegionHeldLaw
namespace Go.Proofs.YtlppoffneeglgaaGreatDoor
open Go.RowKit
set_option linter.unusedSimpArgs false
set_option linter.unusedVariables false

theorem RepF.off {w : World} {d : D} {cs : List Value} {fp : List Nat} {B : Nat} (h : RepF w d cs fp) (hB : B ∉ fp) (o : Nat) (v : Value) : RepF (w.setCell ⟨B, o, none⟩ v) d cs fp :=
  h.keep d fun b hb => heap_setCell_other w ⟨B, o, none⟩ b v (show b ≠ B from fun e => hB (e ▸ hb))
/-- A method's block. -/
def blockM (p t : List ByteArray) (b : List MExpr) : MExpr := ⟨8, ⟨#[]⟩, p.length, p ++ t, b⟩

set_option maxHeartbeats 1000000 in
set_option maxRecDepth 100000 in
theorem l3Block_any (p t : List ByteArray) (b : List MExpr) (vp vt vb : Value) (w : World) (rp : Rep w (strs p) [vp]) (rt : Rep w (strs t) [vt]) (fb : List Nat) (rb : RepF w (MExprs b) [vb] fb) (hl : p.length + t.length ≤ 1048576) :
    Calls Tryz.prog 55 #[vp, vt, vb] w fun e w' => ∃ cs fp, e = .returned (.agg cs.toArray) ∧ RepF w' (blockM p t b).d cs fp ∧ (∀ k, k ∈ fp → k ∈ fb ∨ w.heap.size ≤ k) ∧ Ext w w' := by
  obtain ⟨ap, cp, bp, op, h1, hlp, hmp, pp, hp⟩ := Rep.strs rp
  obtain ⟨at', ct, bt, ot, h2, hlt, hmt, pt, ht⟩ := Rep.strs rt
  obtain ⟨ab, cb, bb, ob, h3, hlb, hmb, pb, hb⟩ := Rep.slmap rb.rep
  simp only [List.cons.injEq, and_true] at h1 h2 h3
  subst h1 h2 h3
  go_enter Tryz.func55, Tryz.ntmps55
  have hA : ∀ o : Obj, AccT (w.heap.size + 1) ((w.alloc o).alloc (.cells #[] 9)) (.slice (some ⟨w.heap.size + 1, 0, none⟩) 0 0) [] := fun o => Acc.empty_at (own_new2 w o #[] _) (Nat.le_refl _)
  go_wp2_with (at_builtin; refine wpList_append_strs rfl _ _ rfl _ (.slice (some ⟨w.heap.size + 1, 0, none⟩) 0 0) [] rfl (hA _) p _ _ _ rfl (Rep.ext (((Ext.refl w).alloc _).alloc _) rp) (by first | omega | (simp; omega)) (by simp) ?_)
  intro a1 c1 w1 ac1 hg1
  have hx1 := AccT.below (hA _) (Below.alloc (Below.refl (w.heap.size + 1) _) (by simp) _) hg1 (by simp)
  clear hg1
  have hz1 : w.heap.size + 1 ≤ w1.heap.size := by have := hx1.size; simpa using this
  go_wp2_with (at_builtin; refine wpList_append_strs rfl _ _ rfl _ _ _ rfl ac1 t _ _ _ rfl (Rep.ext (((Ext.refl w).alloc _).trans (ext_box hx1)) rt) (by first | omega | (simp; omega)) hz1 ?_)
  intro a2 c2 w2 ac2 hg2
  have hx2 := ext_box (AccT.below ac1 hx1 hg2 hz1)
  clear hg2 hx1 ac1 hz1
  obtain ⟨q1, q2⟩ := bcell hx2
  have hz : w.heap.size + 1 ≤ w2.heap.size := by have := hx2.size; simpa using this
  go_wp2_with fail
  obtain ⟨a3, c3, gp, e1, h4, hf4⟩ := ac2.rep
  simp only [List.length_append, Value.slice.injEq] at e1
  obtain ⟨rfl, -, rfl⟩ := e1
  have fin : ∀ W, Ext w W → RepF W (strs (p ++ t)) [.slice a2 (p.length + t.length) c2] gp →
      ∃ cs fp, Ending.returned (.agg #[.int .i64 8, .string ⟨#[]⟩, .int .i64 p.length, .slice a2 (p.length + t.length) c2, .slice ab b.length cb]) = .returned (.agg cs.toArray) ∧ RepF W (blockM p t b).d cs fp ∧ (∀ k, k ∈ fp → k ∈ fb ∨ w.heap.size ≤ k) ∧ Ext w W := by
    intro W hE hN
    refine ⟨_, _, rfl, MExpr.shut (x := blockM p t b) hN (rb.ext hE), fun k hk => ?_, hE⟩
    simp only [List.append_nil, List.mem_append] at hk
    rcases hk with hk | hk
    · have := hf4.ge k hk; exact Or.inr (by omega)
    · exact Or.inl hk
  refine bodyPost_ret (v := .agg #[.int .i64 8, .string ⟨#[]⟩, .int .i64 p.length, .slice a2 (p.length + t.length) c2, .slice ab b.length cb]) (by simp [results, Tryz.results55, go_sem, q1, hz]) rfl (fin _ ?_ ?_)
  · iterate 5 refine Ext.setCell ?_ (Nat.le_refl _) _
    exact ((Ext.refl w).alloc _).trans hx2
  · iterate 5 refine RepF.low ?_ hf4.ge (Nat.lt_succ_self _) _
    simpa only [List.length_append] using h4

set_option maxHeartbeats 1000000 in
theorem l5Body_any (x : MMethod) (cx : List Value) (w : World) (rx : Rep w x.d cx) (hl : x.params.length + x.temps.length ≤ 1048576) :
    Calls Tryz.prog 27 #[.agg cx.toArray] w fun e w' => ∃ cs, e = .returned (.agg cs.toArray) ∧ Rep w' (blockM x.params x.temps x.body).d cs ∧ Ext w w' := by
  obtain ⟨a1, c1, a2, c2, a3, c3, rfl, r1, r2, r3⟩ := MMethod.op_en rx
  obtain ⟨fb, r3⟩ := r3
  go_enter Tryz.func27, Tryz.ntmps27
  go_wp2_with fail
  refine (l3Block_any _ _ _ _ _ _ _ (Rep.ext (((Ext.refl w).alloc _).alloc _) r1) (Rep.ext (((Ext.refl w).alloc _).alloc _) r2) fb (RepF.ext (((Ext.refl w).alloc _).alloc _) r3) hl).mono ?_
  rintro e w1 ⟨cs, fp, rfl, h1, hfp, hx1⟩
  obtain ⟨b1, d1, b2, d2, rfl, k1, k2⟩ := MExpr.op_en h1.rep
  obtain ⟨q1, q2⟩ := bcell hx1
  have hz : w.heap.size < w1.heap.size ∧ w.heap.size + 1 < w1.heap.size := by have := hx1.size; simp at this; omega
  go_wp2_with fail
  refine bodyPost_ret (v := .agg #[.int .i64 (blockM x.params x.temps x.body).kind, .string (blockM x.params x.temps x.body).text, .int .i64 (blockM x.params x.temps x.body).number, .slice b1 (blockM x.params x.temps x.body).names.length d1, .slice b2 (blockM x.params x.temps x.body).kids.length d2]) (by simp [results, Tryz.results27, go_sem, q1, hz]) rfl ⟨[.int .i64 (blockM x.params x.temps x.body).kind, .string (blockM x.params x.temps x.body).text, .int .i64 (blockM x.params x.temps x.body).number, .slice b1 (blockM x.params x.temps x.body).names.length d1, .slice b2 (blockM x.params x.temps x.body).kids.length d2], rfl, ⟨fp, ?_⟩, ?_⟩
  · have hoff : w.heap.size + 1 ∉ fp := fun hk => by
      rcases hfp _ hk with h | h
      · have := r3.lt _ _ h; omega
      · simp at h; omega
    iterate 5 refine RepF.off ?_ hoff _ _
    exact h1
  · iterate 5 refine Ext.setCell ?_ (Nat.le_succ _) _
    exact (((Ext.refl w).alloc _).alloc _).trans hx1

set_option maxHeartbeats 1000000 in
theorem blockOf_any (x : MMethod) (cx : List Value) (w : World) (rx : Rep w x.d cx) (hl : x.params.length + x.temps.length ≤ 1048576) :
    Calls Tryz.prog 20 #[.agg cx.toArray] w fun e w' => ∃ cs, e = .returned (.agg cs.toArray) ∧ Rep w' (blockM x.params x.temps x.body).d cs ∧ Ext w w' := by
  obtain ⟨a1, c1, a2, c2, a3, c3, rfl, r1, r2, r3⟩ := MMethod.op_en rx
  go_enter Tryz.func20, Tryz.ntmps20
  have hA : ∀ o o2 : Obj, AccT (w.heap.size + 1 + 1) (((w.alloc o).alloc o2).alloc (.cells #[] 9)) (.slice (some ⟨w.heap.size + 1 + 1, 0, none⟩) 0 0) [] := fun o o2 => Acc.empty_at (own_new3 w o o2 #[] _) (Nat.le_refl _)
  obtain ⟨W0, hW0⟩ : ∃ W0, W0 = ((w.alloc (.cells #[.string x.selector, .bool x.cls, .slice a1 x.params.length c1, .slice a2 x.temps.length c2, .slice a3 x.body.length c3] 35)).alloc (.cells #[.int .i64 0, .string ⟨#[]⟩, .int .i64 0, .slice none 0 0, .slice none 0 0] 61)) := ⟨_, rfl⟩
  have E0 : Ext w W0 := by rw [hW0]; exact ((Ext.refl w).alloc _).alloc _
  have KS : Hid (∀ w', Below (w.heap.size + 1 + 1) W0 w' → w'.cell? ⟨w.heap.size, 2, none⟩ = some (.slice a1 x.params.length c1) ∧ w'.cell? ⟨w.heap.size, 3, none⟩ = some (.slice a2 x.temps.length c2) ∧ Below (w.heap.size + 1 + 1) W0 w') := Lib.hid fun w' h => ⟨by
    rw [h.cell (by show w.heap.size < _; omega), hW0]; simp, by
    rw [h.cell (by show w.heap.size < _; omega), hW0]; simp, h⟩
  have KE : ∀ w', Below (w.heap.size + 1 + 1) W0 w' → Ext w w' := fun w' h => E0.trans (by subst hW0; exact ext_box2 h)
  have HA : AccT (w.heap.size + 1 + 1) (W0.alloc (.cells #[] 9)) (.slice (some ⟨w.heap.size + 1 + 1, 0, none⟩) 0 0) [] := by rw [hW0]; exact hA _ _
  have zW : W0.heap.size = w.heap.size + 1 + 1 := by rw [hW0]; simp
  clear hA
  subst hW0
  have HD := HA.ext (Ext.drew (Ext.refl _))
  have HB := Below.drew (Below.alloc (Below.refl (w.heap.size + 1 + 1) _) (Nat.le_of_eq zW.symm) (.cells #[] 9))
  have HZ := HB.size
  rw [zW] at HZ
  have hb0 := HB
  have HR1 := Rep.ext (KE _ HB) r1
  go_wp2_with fail
  go_region_held3 (fun w' => w'.cell? ⟨w.heap.size, 2, none⟩ = some (.slice a1 x.params.length c1) ∧ w'.cell? ⟨w.heap.size, 3, none⟩ = some (.slice a2 x.temps.length c2) ∧ Below (w.heap.size + 1 + 1) ((w.alloc (.cells #[.string x.selector, .bool x.cls, .slice a1 x.params.length c1, .slice a2 x.temps.length c2, .slice a3 x.body.length c3] 35)).alloc (.cells #[.int .i64 0, .string ⟨#[]⟩, .int .i64 0, .slice none 0 0, .slice none 0 0] 61)) w')
    (first | exact KS.out _ hb2 | exact KS.out _ hb1 | exact KS.out _ HB | exact KS.out _ (Below.drew (Below.refl _ _)))
    (first
      | (refine step_append_strs rfl _ _ rfl (w.heap.size + 1 + 1) (.slice (some ⟨w.heap.size + 1 + 1, 0, none⟩) 0 0) [] rfl HD x.params _ _ _ rfl HR1 (by first | omega | (simp; omega)) HZ ?_; intro a4 c4 w1 ac1 hg1; have hb1 := AccT.below HD HB hg1 HZ; simp only [List.length_nil, Nat.zero_add, List.nil_append] at ac1 ⊢)
      | (go_loud (have hz1 : w.heap.size + 1 + 1 ≤ w1.heap.size := by (have := hb1.size; rw [zW] at this; exact this)
                  refine step_append_strs rfl _ _ rfl (w.heap.size + 1 + 1) _ x.params rfl ac1 x.temps _ _ _ rfl (Rep.ext (KE _ hb1) r2) (by omega) hz1 ?_; intro a5 c5 w2 ac2 hg2; have hb2 := AccT.below ac1 hb1 hg2 hz1)))
  clear hb1 KS HR1 HD HB HZ HA
  have E2 := KE _ hb2
  obtain ⟨q1, q2⟩ := bcell (ext_box2 hb2)
  have hz : w.heap.size + 1 + 1 ≤ w2.heap.size := by have := hb2.size; rw [zW] at this; exact this
  clear KE zW hb2
  go_wp2_with fail
  obtain ⟨a6, c6, gp, e1, h4, hf4⟩ := ac2.rep
  simp only [List.length_append, Value.slice.injEq] at e1
  obtain ⟨rfl, -, rfl⟩ := e1
  have fin : ∀ W, Ext w W → RepF W (strs (x.params ++ x.temps)) [.slice a5 (x.params.length + x.temps.length) c5] gp →
      ∃ cs, Ending.returned (.agg #[.int .i64 8, .string ⟨#[]⟩, .int .i64 x.params.length, .slice a5 (x.params.length + x.temps.length) c5, .slice a3 x.body.length c3]) = .returned (.agg cs.toArray) ∧ Rep W (blockM x.params x.temps x.body).d cs ∧ Ext w W := by
    intro W hE hN
    obtain ⟨fb, hb'⟩ := Rep.ext hE r3
    exact ⟨_, rfl, (MExpr.shut (x := blockM x.params x.temps x.body) hN hb').rep, hE⟩
  refine bodyPost_ret (v := .agg #[.int .i64 8, .string ⟨#[]⟩, .int .i64 x.params.length, .slice a5 (x.params.length + x.temps.length) c5, .slice a3 x.body.length c3]) (by simp [results, Tryz.results20, go_sem, q1, hz]) rfl (fin _ ?_ ?_)
  · iterate 5 refine Ext.setCell ?_ (Nat.le_succ _) _
    exact E2
  · iterate 5 refine RepF.low ?_ hf4.ge (Nat.lt_succ_self _) _
    simpa only [List.length_append] using h4

theorem blockM_inj {p t p' t' : List ByteArray} {b b' : List MExpr} (h : blockM p t b = blockM p' t' b') : p = p' ∧ t = t' ∧ b = b' := by
  simp only [blockM, MExpr.mk.injEq, true_and] at h
  obtain ⟨h1, h2, h3⟩ := h
  have h1' : p.length = p'.length := by omega
  obtain ⟨h4, h5⟩ := List.append_inj h2 h1'
  exact ⟨h4, h5, h3⟩
theorem bulk_method {x : MMethod} (h : x.d.bulk ≤ 1048576) : x.params.length + x.temps.length ≤ 1048576 := by
  simp only [MMethod.d, D.bulk, D.bulkL, strs, List.length_map] at h
  omega
theorem method_ext {x y : MMethod} (h1 : x.selector = y.selector) (h2 : x.cls = y.cls) (h : blockM x.params x.temps x.body = blockM y.params y.temps y.body) : x = y := by
  obtain ⟨p1, p2, p3⟩ := blockM_inj h
  cases x; cases y
  simp only at h1 h2 p1 p2 p3
  subst h1 h2 p1 p2 p3
  rfl

end Go.Proofs.YtlppoffneeglgaaGreatDoor
