/-
  CONTRACTS: blockOf and its blocks; the checker's map.
  Conditions: those that each lemma states.
-/
import Derived.Test.YtlppoffneeglgaaGreatDoorRows
import Derived.Test.YtlppoffneeglgaaGreatDoorChkI
import Derived.Test.YtlppoffneeglgaaGreatDoorChkQ
import Derived.Maps.OwnOps
import Derived.Maps.OwnSet
namespace Go.Proofs.YtlppoffneeglgaaGreatDoor
open Go.RowKit Go.Maps Go.WideMaps
set_option linter.unusedSimpArgs false
set_option linter.unusedVariables false

theorem MMethod.op_enF {w : World} {x : MMethod} {cs : List Value} {fp : List Nat} (h : RepF w x.d cs fp) : ∃ a1 c1 a2 c2 a3 c3 f3, cs = [.string x.selector, .bool x.cls, .slice a1 x.params.length c1, .slice a2 x.temps.length c2, .slice a3 x.body.length c3] ∧
    Rep w (strs x.params) [.slice a1 x.params.length c1] ∧ Rep w (strs x.temps) [.slice a2 x.temps.length c2] ∧ RepF w (MExprs x.body) [.slice a3 x.body.length c3] f3 ∧ ∀ k, k ∈ f3 → k ∈ fp := by
  rw [MMethod.d_eq] at h
  obtain ⟨k1, rfl, g1⟩ := RepS.un_str (RepF.un_st h)
  obtain ⟨k2, rfl, g2⟩ := RepS.un_bool g1
  obtain ⟨a1, c1, k3, f1, f2, rfl, rfl, h1, g3⟩ := RepS.un_sl g2
  obtain ⟨a2, c2, k4, f3, f4, rfl, rfl, h2, g4⟩ := RepS.un_sl g3
  obtain ⟨a3, c3, k5, f5, f6, rfl, rfl, h3, g5⟩ := RepS.un_sl g4
  simp only [RepS] at g5
  obtain ⟨rfl, rfl⟩ := g5
  simp only [List.length_map] at h1 h2 h3 ⊢
  exact ⟨a1, c1, a2, c2, a3, c3, f5, rfl, h1.rep, h2.rep, h3, fun k hk => List.mem_append_right _ (List.mem_append_right _ (List.mem_append_left _ hk))⟩

set_option maxHeartbeats 1000000 in
theorem blockOf_f (x : MMethod) (cx : List Value) (fx : List Nat) (w : World) (rx : RepF w x.d cx fx) (hl : x.params.length + x.temps.length ≤ 1048576) :
    Calls Tryz.prog 20 #[.agg cx.toArray] w fun e w' => ∃ cs fp, e = .returned (.agg cs.toArray) ∧ RepF w' (blockM x.params x.temps x.body).d cs fp ∧ (∀ k, k ∈ fp → k ∈ fx ∨ w.heap.size ≤ k) ∧ Ext w w' := by
  obtain ⟨a1, c1, a2, c2, a3, c3, f3, rfl, r1, r2, r3f, hf3⟩ := MMethod.op_enF rx
  have r3 := r3f.rep
  go_enter Tryz.func20, Tryz.ntmps20
  have hA : ∀ o o2 : Obj, AccT (w.heap.size + 1 + 1) (((w.alloc o).alloc o2).alloc (.cells #[] 9)) (.slice (some ⟨w.heap.size + 1 + 1, 0, none⟩) 0 0) [] := fun o o2 => Acc.empty_at (own_new3 w o o2 #[] _) (Nat.le_refl _)
  obtain ⟨W0, hW0⟩ : ∃ W0, W0 = ((w.alloc (.cells #[.string x.selector, .bool x.cls, .slice a1 x.params.length c1, .slice a2 x.temps.length c2, .slice a3 x.body.length c3] 35)).alloc (.cells #[.int .i64 0, .string ⟨#[]⟩, .int .i64 0, .slice none 0 0, .slice none 0 0] 61)) := ⟨_, rfl⟩
  have E0 : Ext w W0 := by rw [hW0]; exact ((Ext.refl w).alloc _).alloc _
  have KS : Hid (∀ w', Below (w.heap.size + 1 + 1) W0 w' → w'.cell? ⟨w.heap.size, 2, none⟩ = some (.slice a1 x.params.length c1) ∧ w'.cell? ⟨w.heap.size, 3, none⟩ = some (.slice a2 x.temps.length c2) ∧ Below (w.heap.size + 1 + 1) W0 w') := Lib.hid fun w' h => ⟨by
    rw [h.cell (by show w.heap.size < _; omega), hW0]; simp, by
    rw [h.cell (by show w.heap.size < _; omega), hW0]; simp, h⟩
  have KE : ∀ w', Below (w.heap.size + 1 + 1) W0 w' → Ext w w' := fun w' h => E0.trans (by subst hW0; exact ext_box2 h)
  have HA : AccT (w.heap.size + 1 + 1) (W0.alloc (.cells #[] 9)) (.slice (some ⟨w.heap.size + 1 + 1, 0, none⟩) 0 0) [] := by rw [hW0]; exact hA _ _
  have zW : W0.heap.size = w.heap.size + 1 + 1 := by rw [hW0]; simp
  clear hA
  subst hW0
  have HD := HA.ext (Ext.drew (Ext.refl _))
  have HB := Below.drew (Below.alloc (Below.refl (w.heap.size + 1 + 1) _) (Nat.le_of_eq zW.symm) (.cells #[] 9))
  have HZ := HB.size
  rw [zW] at HZ
  have hb0 := HB
  have HR1 := Rep.ext (KE _ HB) r1
  go_wp2_with fail
  go_region_held3 (fun w' => w'.cell? ⟨w.heap.size, 2, none⟩ = some (.slice a1 x.params.length c1) ∧ w'.cell? ⟨w.heap.size, 3, none⟩ = some (.slice a2 x.temps.length c2) ∧ Below (w.heap.size + 1 + 1) ((w.alloc (.cells #[.string x.selector, .bool x.cls, .slice a1 x.params.length c1, .slice a2 x.temps.length c2, .slice a3 x.body.length c3] 35)).alloc (.cells #[.int .i64 0, .string ⟨#[]⟩, .int .i64 0, .slice none 0 0, .slice none 0 0] 61)) w')
    (first | exact KS.out _ hb2 | exact KS.out _ hb1 | exact KS.out _ HB | exact KS.out _ (Below.drew (Below.refl _ _)))
    (first
      | (refine step_append_strs rfl _ _ rfl (w.heap.size + 1 + 1) (.slice (some ⟨w.heap.size + 1 + 1, 0, none⟩) 0 0) [] rfl HD x.params _ _ _ rfl HR1 (by first | omega | (simp; omega)) HZ ?_; intro a4 c4 w1 ac1 hg1; have hb1 := AccT.below HD HB hg1 HZ; simp only [List.length_nil, Nat.zero_add, List.nil_append] at ac1 ⊢)
      | (go_loud (have hz1 : w.heap.size + 1 + 1 ≤ w1.heap.size := by (have := hb1.size; rw [zW] at this; exact this)
                  refine step_append_strs rfl _ _ rfl (w.heap.size + 1 + 1) _ x.params rfl ac1 x.temps _ _ _ rfl (Rep.ext (KE _ hb1) r2) (by omega) hz1 ?_; intro a5 c5 w2 ac2 hg2; have hb2 := AccT.below ac1 hb1 hg2 hz1)))
  clear hb1 KS HR1 HD HB HZ HA
  have E2 := KE _ hb2
  obtain ⟨q1, q2⟩ := bcell (ext_box2 hb2)
  have hz : w.heap.size + 1 + 1 ≤ w2.heap.size := by have := hb2.size; rw [zW] at this; exact this
  clear KE zW hb2
  go_wp2_with fail
  obtain ⟨a6, c6, gp, e1, h4, hf4⟩ := ac2.rep
  simp only [List.length_append, Value.slice.injEq] at e1
  obtain ⟨rfl, -, rfl⟩ := e1
  have fin : ∀ W, Ext w W → RepF W (strs (x.params ++ x.temps)) [.slice a5 (x.params.length + x.temps.length) c5] gp →
      ∃ cs fp, Ending.returned (.agg #[.int .i64 8, .string ⟨#[]⟩, .int .i64 x.params.length, .slice a5 (x.params.length + x.temps.length) c5, .slice a3 x.body.length c3]) = .returned (.agg cs.toArray) ∧ RepF W (blockM x.params x.temps x.body).d cs fp ∧ (∀ k, k ∈ fp → k ∈ fx ∨ w.heap.size ≤ k) ∧ Ext w W := by
    intro W hE hN
    refine ⟨_, _, rfl, MExpr.shut (x := blockM x.params x.temps x.body) hN (r3f.ext hE), fun k hk => ?_, hE⟩
    simp only [List.append_nil, List.mem_append] at hk
    rcases hk with hk | hk
    · have := hf4.ge k hk; exact Or.inr (by omega)
    · exact Or.inl (hf3 k hk)
  refine bodyPost_ret (v := .agg #[.int .i64 8, .string ⟨#[]⟩, .int .i64 x.params.length, .slice a5 (x.params.length + x.temps.length) c5, .slice a3 x.body.length c3]) (by simp [results, Tryz.results20, go_sem, q1, hz]) rfl (fin _ ?_ ?_)
  · iterate 5 refine Ext.setCell ?_ (Nat.le_succ _) _
    exact E2
  · iterate 5 refine RepF.low ?_ hf4.ge (Nat.lt_succ_self _) _
    simpa only [List.length_append] using h4

theorem keyS2 : Keyed Tryz.prog 9 := string_keyed Tryz.underlying9
/-- The map's elements are read as what they are. -/
def RM (v : Value) : Option (DataW Value × List MemPlace) := some (.held v, [])
/-- The map gives, for each name, its class's fields, in rows that are neither the checker's struct nor the map. -/
def FmIs (w : World) (B mb : Nat) (Dm : DataW Value) (fm : FMap) : Prop := ∀ s : ByteArray, ∃ (ao : Option Addr) (cap : Nat) (fp : List Nat), Dm.atKey (.string s.data.toList) (.held (.slice none 0 0)) = .held (.slice ao (fm s).length cap) ∧ RepF w (strs (fm s)) [.slice ao (fm s).length cap] fp ∧ B ∉ fp ∧ mb ∉ fp
theorem FmIs.touch {w w' : World} {B mb : Nat} {Dm : DataW Value} {fm : FMap} (h : FmIs w B mb Dm fm) (ht : Touch w w' [B, mb]) : FmIs w' B mb Dm fm := fun s => by
  obtain ⟨ao, cap, fp, h1, h2, h3, h4⟩ := h s
  exact ⟨ao, cap, fp, h1, h2.touch ht (fun b hb hm => by simp at hm; rcases hm with rfl | rfl; exact h3 hb; exact h4 hb), h3, h4⟩
theorem FmIs.put {w : World} {B mb : Nat} {Dm : DataW Value} {fm : FMap} (h : FmIs w B mb Dm fm) (hD : IsMap Dm) (n : ByteArray) (l : List ByteArray) {ao : Option Addr} {cap : Nat} {fp : List Nat} (h2 : RepF w (strs l) [.slice ao l.length cap] fp) (h3 : B ∉ fp) (h4 : mb ∉ fp) : FmIs w B mb (Dm.put (.string n.data.toList) (.held (.slice ao l.length cap))) (putF fm n l) := fun s => by
  unfold putF
  by_cases hs : s = n
  · subst hs
    rw [if_pos rfl]
    exact ⟨ao, cap, fp, by rw [atKey_put_same hD (by trivial)], h2, h3, h4⟩
  · rw [if_neg hs]
    obtain ⟨ao', cap', fp', g1, g2⟩ := h s
    have hk : Lit.string s.data.toList ≠ Lit.string n.data.toList := fun h => hs (by cases s; cases n; simpa using h)
    exact ⟨ao', cap', fp', by rw [atKey_put_other hk]; exact g1, g2⟩

end Go.Proofs.YtlppoffneeglgaaGreatDoor
