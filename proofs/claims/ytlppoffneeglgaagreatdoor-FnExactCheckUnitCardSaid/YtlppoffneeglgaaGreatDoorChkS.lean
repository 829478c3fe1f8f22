/-
  THE CHECKER IN MEMORY: its struct and the two rows that it gathers.
  Conditions: those that each lemma states.
-/
import Derived.Test.YtlppoffneeglgaaGreatDoorRows
import Derived.Test.YtlppoffneeglgaaGreatDoorChkP
import Derived.Test.YtlppoffneeglgaaGreatDoorAccAt
import Derived.Test.YtlppoffneeglgaaGreatDoorMarkD
namespace Go.Proofs.YtlppoffneeglgaaGreatDoor
open Go.RowKit
set_option linter.unusedSimpArgs false
set_option linter.unusedVariables false

theorem Touch.trans' {a b c : World} {fp gp : List Nat} (h : Touch a b fp) (k : Touch b c gp) (hg : ∀ x, x ∈ gp → x ∈ fp ∨ a.heap.size ≤ x) : Touch a c fp :=
  ⟨k.os.trans h.os, k.tape.trans h.tape, k.output.trans h.output, Nat.le_trans h.size k.size, fun i hi hn => (k.block i (Nat.lt_of_lt_of_le hi h.size) (fun hm => (hg i hm).elim hn (fun h => by omega))).trans (h.block i hi hn)⟩
theorem Acc.touch {B0 : Nat} {w w' : World} {e : TypeId} {size : Nat} {v : Value} {ds : List D} {fp gp : List Nat} (h : Acc B0 w e size v ds gp) (ht : Touch w w' fp) (hv : ∀ k, v.ownBlock = some k → k ∉ fp) (hg : ∀ k, k ∈ gp → k ∉ fp) : Acc B0 w' e size v ds gp := by
  obtain ⟨xs, h1, h2, h3, h4⟩ := h
  refine ⟨xs, ?_, h2.keep _ _ fun k hk => ht.block k (h3.lt hk) (hg k hk), h3.touch ht hg, h4⟩
  obtain ⟨k1, k2⟩ := h1
  refine ⟨k1, ?_⟩
  rcases k2 with k2 | ⟨g, cap, cur, rfl, hg, hh, r⟩
  · exact Or.inl k2
  · exact Or.inr ⟨g, cap, cur, rfl, hg, (ht.block g (Array.getElem?_eq_some_iff.1 hh).1 (hv g rfl)).trans hh, r⟩
theorem Acc.ge {B0 : Nat} {w : World} {e : TypeId} {size : Nat} {v : Value} {ds : List D} {fp : List Nat} (h : Acc B0 w e size v ds fp) {k : Nat} (hk : v.ownBlock = some k) : B0 ≤ k ∧ k < w.heap.size := by
  obtain ⟨xs, ⟨_, h2⟩, _⟩ := h
  rcases h2 with ⟨rfl, _⟩ | ⟨g, cap, cur, rfl, hg, hh, _⟩
  · cases hk
  · simp [Value.ownBlock] at hk
    subst hk
    exact ⟨hg, (Array.getElem?_eq_some_iff.1 hh).1⟩
/-- nil, or a row with room. -/
theorem Acc.form {B0 : Nat} {w : World} {e : TypeId} {size : Nat} {v : Value} {ds : List D} {fp : List Nat} (h : Acc B0 w e size v ds fp) : (v = .slice none 0 0 ∧ ds = []) ∨ ∃ g cap, v = .slice (some ⟨g, 0, none⟩) ds.length cap ∧ ds.length ≤ cap ∧ cap ≤ maxLen := by
  obtain ⟨xs, ⟨_, h2⟩, _⟩ := h
  rcases h2 with ⟨rfl, h0⟩ | ⟨g, cap, cur, rfl, hg, hh, hc, hm, _⟩
  · exact Or.inl ⟨rfl, List.length_eq_zero_iff.1 h0⟩
  · exact Or.inr ⟨g, cap, rfl, hc, hm⟩
/-- 'v[:m]' of one-celled elements. -/
theorem Acc.cut {B0 : Nat} {w : World} {e : TypeId} {g cap n m : Nat} {A E : List D} (h : Acc B0 w e 1 (.slice (some ⟨g, 0, none⟩) n cap) (A ++ E) []) (hm : A.length = m) : Acc B0 w e 1 (.slice (some ⟨g, 0, none⟩) m cap) A [] := by
  obtain ⟨xs, ⟨h1, h2⟩, h3, h4, h5⟩ := h
  obtain ⟨c1, c2, f1, f2, rfl, hf, hl, r1, r2⟩ := RepR.split h3
  have hf := (List.append_eq_nil_iff.1 hf.symm)
  rw [hf.1] at r1
  rw [Nat.mul_one] at hl
  refine ⟨c1, ⟨by rw [hl]; simp, ?_⟩, r1, Fresh.nil _ _, fun k _ => by simp⟩
  rcases h2 with ⟨h2, _⟩ | ⟨g', cap', cur, h2, hg, hh, hc, hmx, hcs, htk⟩
  · cases h2
  · simp only [Value.slice.injEq, Option.some.injEq, Addr.mk.injEq, and_true] at h2
    obtain ⟨rfl, -, rfl⟩ := h2
    subst hm
    refine Or.inr ⟨g, cap, cur, rfl, hg, hh, ?_, hmx, hcs, ?_⟩
    · rw [List.length_append] at hc; omega
    · rw [List.length_append, Nat.mul_one] at htk
      rw [Nat.mul_one, ← hl]
      have := congrArg (List.take c1.length) htk
      rw [List.take_take, List.take_append_of_le_length (Nat.le_refl _), List.take_length] at this
      rwa [Nat.min_eq_left (by omega)] at this
def AccB (B0 : Nat) (w : World) (v : Value) (l : List Bool) : Prop := Acc B0 w 4 1 v (l.map .bool) []
theorem boolInfo : (Tryz.prog.info? 4).map (fun i => (i.zero, i.size, i.bytes)) = some (some (.bool false), 1, 1) := by kernel_rfl
def bools (l : List Bool) : D := .sl 1 (l.map .bool)
theorem repR_bools_fp {w : World} : ∀ {l : List Bool} {cs : List Value} {fp : List Nat}, RepR w 1 (l.map D.bool) cs fp → fp = []
  | [], cs, fp, h => by simp only [List.map_nil, RepR] at h; exact h.2
  | s :: l, cs, fp, h => by
    simp only [List.map_cons, RepR, RepF] at h
    obtain ⟨c1, c2, f1, f2, rfl, rfl, -, ⟨-, rfl⟩, h2⟩ := h
    simpa using repR_bools_fp h2
theorem RepF.bools_tail {w : World} {l : List Bool} {cs : List Value} {fp : List Nat} (h : RepF w (bools l) cs fp) : fp.tail = [] := by
  obtain ⟨ao, cap, -, -, -, -, h⟩ := RepF.sl_iff.1 h
  rcases h with ⟨-, rfl⟩ | ⟨b, o, cells, fp', -, -, rfl, -, -, h5⟩
  · rfl
  · exact repR_bools_fp h5
theorem wpList_append_bools {w : World} {ops : Array Oper} {rest : List Oper} {o : Oper} {a : Act} {Q : Exit → Act → World → Prop} (hgd : o.guard = none) (s x : Operand)
    (ho : o.op = .call { callee := .builtin .append, args := #[s, x], argTypes := #[55, 55] })
    (B0 : Nat) (v : Value) (l : List Bool) (hs : a.eval s = v) (hacc : AccB B0 w v l)
    (ys : List Bool) (ao : Option Addr) (m c : Nat) (hx : a.eval x = .slice ao m c) (hr : Rep w (bools ys) [.slice ao m c])
    (hlen : l.length + ys.length ≤ 1073741824) (hbase : B0 ≤ w.heap.size)
    (h : ∀ ao' cap' w', AccB B0 w' (.slice ao' (l.length + ys.length) cap') (l ++ ys) → w.grownBy w' v.ownBlock → ((Value.slice ao' (l.length + ys.length) cap').ownBlock = v.ownBlock ∨ (Value.slice ao' (l.length + ys.length) cap').ownBlock = some w.heap.size) → wpList Tryz.prog ops Q rest (a.put o.dst (.slice ao' (l.length + ys.length) cap')) w') : wpList Tryz.prog ops Q (o :: rest) a w := by
  obtain ⟨i0, hi, hz0, hz1, hz2⟩ := info_parts boolInfo
  obtain ⟨gp, hr⟩ := hr
  have ht := hr.bools_tail
  have hm : m = ys.length := by
    obtain ⟨_, _, h1, _⟩ := RepF.sl_iff.1 hr
    simp at h1; omega
  subst hm
  refine wpList_append_at hgd s x 55 ho B0 4 i0 _ 1 1 Tryz.underlying55 hi hz0 hz1 hz2 rfl (by decide) v (l.map .bool) [] hs hacc (ys.map .bool) ao ys.length c gp hx hr (by rw [ht]; exact Fresh.nil _ _) (by rw [ht]; simp) (by simp [maxLen]; omega) (by simp; omega) hbase ?_
  intro ao' cap' w' h2 h3 h4
  rw [ht] at h2
  simp only [List.length_map, List.append_nil, ← List.map_append] at h2 h4 ⊢
  exact h ao' cap' w' h2 h3 h4
theorem wpList_append_strs_at {w : World} {ops : Array Oper} {rest : List Oper} {o : Oper} {a : Act} {Q : Exit → Act → World → Prop} (hgd : o.guard = none) (s x : Operand)
    (ho : o.op = .call { callee := .builtin .append, args := #[s, x], argTypes := #[23, 23] })
    (B0 : Nat) (v : Value) (l : List ByteArray) (hs : a.eval s = v) (hacc : AccT B0 w v l)
    (ys : List ByteArray) (ao : Option Addr) (m c : Nat) (hx : a.eval x = .slice ao m c) (hr : Rep w (strs ys) [.slice ao m c])
    (hlen : l.length + ys.length ≤ 1073741824) (hbase : B0 ≤ w.heap.size)
    (h : ∀ ao' cap' w', AccT B0 w' (.slice ao' (l.length + ys.length) cap') (l ++ ys) → w.grownBy w' v.ownBlock → ((Value.slice ao' (l.length + ys.length) cap').ownBlock = v.ownBlock ∨ (Value.slice ao' (l.length + ys.length) cap').ownBlock = some w.heap.size) → wpList Tryz.prog ops Q rest (a.put o.dst (.slice ao' (l.length + ys.length) cap')) w') : wpList Tryz.prog ops Q (o :: rest) a w := by
  obtain ⟨i0, hi, hz0, hz1, hz2⟩ := info_parts strInfo
  obtain ⟨gp, hr⟩ := hr
  have ht := hr.strs_tail
  have hm : m = ys.length := by
    obtain ⟨_, _, h1, _⟩ := RepF.sl_iff.1 hr
    simp at h1; omega
  subst hm
  refine wpList_append_at hgd s x 23 ho B0 9 i0 _ 1 16 Tryz.underlying23 hi hz0 hz1 hz2 rfl (by decide) v (l.map .str) [] hs hacc (ys.map .str) ao ys.length c gp hx hr (by rw [ht]; exact Fresh.nil _ _) (by rw [ht]; simp) (by simp [maxLen]; omega) (by simp; omega) hbase ?_
  intro ao' cap' w' h2 h3 h4
  rw [ht] at h2
  simp only [List.length_map, List.append_nil, ← List.map_append] at h2 h4 ⊢
  exact h ao' cap' w' h2 h3 h4

/-- Element i of a row: its cells, its own reading, its blocks. -/
theorem RepR.at_sub {w : World} {sz : Nat} : ∀ {ds : List D} {cs : List Value} {fp : List Nat}, RepR w sz ds cs fp → ∀ (i : Nat) (d : D), ds[i]? = some d →
    ∃ es gp, es.length = sz ∧ (∀ j, j < sz → cs[i * sz + j]? = es[j]?) ∧ RepF w d es gp ∧ ∀ k, k ∈ gp → k ∈ fp
  | [], _, _, _, i, d, hd => by simp at hd
  | x :: ds, _, _, r, 0, d, hd => by
    simp only [RepR] at r
    obtain ⟨c1, c2, f1, f2, rfl, rfl, h2, h3, h4⟩ := r
    simp at hd; subst hd
    exact ⟨c1, f1, h2, fun j hj => by rw [Nat.zero_mul, Nat.zero_add, List.getElem?_append_left (by omega)], h3, fun k hk => List.mem_append_left _ hk⟩
  | x :: ds, _, _, r, i + 1, d, hd => by
    simp only [RepR] at r
    obtain ⟨c1, c2, f1, f2, rfl, rfl, h2, h3, h4⟩ := r
    obtain ⟨es, gp, g1, g2, g3, g4⟩ := RepR.at_sub h4 i d (by simpa using hd)
    refine ⟨es, gp, g1, fun j hj => ?_, g3, fun k hk => List.mem_append_right _ (g4 k hk)⟩
    rw [← g2 j hj, List.getElem?_append_right (by rw [h2, Nat.succ_mul]; omega), h2]
    congr 1
    rw [Nat.succ_mul]; omega
theorem RepF.slmap {α : Type} {f : α → D} {w : World} {sz : Nat} {l : List α} {cs : List Value} {fp : List Nat} (h : RepF w (.sl sz (l.map f)) cs fp) :
    ∃ ao cap b o, cs = [.slice ao l.length cap] ∧ l.length ≤ cap ∧ cap ≤ maxLen ∧ (0 < l.length → ao = some ⟨b, o, none⟩) ∧
      ∀ (i : Nat) (x : α), l[i]? = some x → ∃ es gp, es.length = sz ∧ (∀ j, j < sz → w.cell? ⟨b, o + i * sz + j, none⟩ = es[j]?) ∧ RepF w (f x) es gp ∧ (∀ k, k ∈ gp → k ∈ fp) ∧ b ∈ fp := by
  obtain ⟨ao, cap, rfl, hl, hm, hn, hh⟩ := RepF.sl_iff.1 h
  simp only [List.length_map] at hl ⊢
  rcases hh with ⟨h0, rfl⟩ | ⟨b, o, cells, fp', h0, rfl, rfl, hb, h4, h5⟩
  · have : l = [] := by simpa using h0
    subst this
    exact ⟨ao, cap, 0, 0, rfl, hl, hm, fun h => absurd h (by simp), fun i x hx => by simp at hx⟩
  · refine ⟨_, cap, b, o, rfl, hl, hm, fun _ => rfl, fun i x hx => ?_⟩
    obtain ⟨es, gp, g1, g2, g3, g4⟩ := RepR.at_sub h5 i (f x) (by simp [hx])
    refine ⟨es, gp, g1, fun j hj => ?_, g3, fun k hk => List.mem_cons_of_mem _ (g4 k hk), List.mem_cons_self⟩
    have hg := g2 j hj
    rw [← hg]
    have hjl : j < es.length := by omega
    rw [List.getElem?_eq_getElem hjl] at hg
    rw [hg, Nat.add_assoc]
    exact h4 _ _ hg
theorem MExpr.op_enF {w : World} {x : MExpr} {cs : List Value} {fp : List Nat} (h : RepF w x.d cs fp) : ∃ a1 c1 a2 c2 f1 f2, cs = [.int .i64 x.kind, .string x.text, .int .i64 x.number, .slice a1 x.names.length c1, .slice a2 x.kids.length c2] ∧
    RepF w (strs x.names) [.slice a1 x.names.length c1] f1 ∧ RepF w (MExprs x.kids) [.slice a2 x.kids.length c2] f2 ∧ (∀ k, k ∈ f1 → k ∈ fp) ∧ ∀ k, k ∈ f2 → k ∈ fp := by
  rw [MExpr.d_eq] at h
  obtain ⟨k1, rfl, g1⟩ := RepS.un_int (RepF.un_st h)
  obtain ⟨k2, rfl, g2⟩ := RepS.un_str g1
  obtain ⟨k3, rfl, g3⟩ := RepS.un_int g2
  obtain ⟨a1, c1, k4, f1, f2, rfl, rfl, h1, g4⟩ := RepS.un_sl g3
  obtain ⟨a2, c2, k5, f3, f4, rfl, rfl, h2, g5⟩ := RepS.un_sl g4
  simp only [RepS] at g5
  obtain ⟨rfl, rfl⟩ := g5
  simp only [List.length_map] at h1 h2 ⊢
  exact ⟨a1, c1, a2, c2, f1, f3, rfl, h1, h2, fun k hk => List.mem_append_left _ hk, fun k hk => List.mem_append_right _ (List.mem_append_left _ hk)⟩
/-- 'l[1:]' -/
theorem RepF.sl_tail {w : World} {sz : Nat} {x : D} {xs : List D} {b o n cap : Nat} {fp : List Nat} (h : RepF w (.sl sz (x :: xs)) [.slice (some ⟨b, o, none⟩) n cap] fp) : ∃ gp, RepF w (.sl sz xs) [.slice (some ⟨b, o + sz, none⟩) (n - 1) (cap - 1)] gp ∧ ∀ k, k ∈ gp → k ∈ fp := by
  obtain ⟨ao, cap', h1, hl, hm, hn, hh⟩ := RepF.sl_iff.1 h
  simp only [List.cons.injEq, and_true, Value.slice.injEq, List.length_cons] at h1 hl
  obtain ⟨rfl, rfl, rfl⟩ := h1
  rcases hh with ⟨h0, -⟩ | ⟨b', o', cells, fp', h0, h2, rfl, hb, h4, h5⟩
  · cases h0
  · simp only [Option.some.injEq, Addr.mk.injEq, and_true] at h2
    obtain ⟨rfl, rfl⟩ := h2
    simp only [RepR] at h5
    obtain ⟨c1, c2, f1, f2, rfl, rfl, g1, g2, g3⟩ := h5
    by_cases he : xs = []
    · subst he
      exact ⟨[], RepF.sl_iff.2 ⟨_, _, rfl, by first | omega | (simp; done) | (simp; omega), by omega, by simp, Or.inl ⟨rfl, rfl⟩⟩, fun k hk => by simp at hk⟩
    · refine ⟨b :: f2, RepF.sl_iff.2 ⟨_, _, rfl, by omega, by omega, by simp, Or.inr ⟨b, o + sz, c2, f2, he, rfl, rfl, hb, fun j c hj => ?_, g3⟩⟩, fun k hk => ?_⟩
      · rw [Nat.add_assoc]
        refine h4 (sz + j) c ?_
        rw [List.getElem?_append_right (by omega), g1, Nat.add_sub_cancel_left]; exact hj
      · rcases List.mem_cons.1 hk with rfl | hk
        · exact List.mem_cons_self
        · exact List.mem_cons_of_mem _ (List.mem_append_right _ hk)
theorem contains_any (l : List ByteArray) (va : Value) (x : ByteArray) (w : World) (ra : Rep w (strs l) [va]) : Calls Tryz.prog 40 #[va, .string x] w fun e w' => e = .returned (.bool (hasB l x)) ∧ w' = w := by
  obtain ⟨ao, ca, ba, oa, h1, hla, hma, pa, ha⟩ := ra.strs
  simp only [List.cons.injEq, and_true] at h1
  subst h1
  have e2 : Lib.containsS l x = hasB l x := by rw [Bool.eq_iff_iff, Lib.containsS_iff, hasB_iff]
  by_cases h0 : 0 < l.length
  · obtain rfl := pa h0
    have h := Tryz.slices_Contains_string ba oa l.length ca l x w (Nat.le_refl _) (by unfold maxLen at hma; omega) (fun j hj => ha j _ (by rw [List.getD_eq_getElem?_getD, List.getElem?_eq_getElem hj]; rfl))
    rw [List.take_length, e2] at h
    exact h
  · obtain rfl : l = [] := List.eq_nil_of_length_eq_zero (by omega)
    rw [← e2]
    exact (Tryz.slices_Contains_string_empty ao ca x w).mono fun e w2 h => h
theorem index_any (l : List ByteArray) (va : Value) (x : ByteArray) (w : World) (ra : Rep w (strs l) [va]) : Calls Tryz.prog 45 #[va, .string x] w fun e w' => e = .returned (.int .i64 (Lib.idxOfS l x)) ∧ w' = w := by
  obtain ⟨ao, ca, ba, oa, h1, hla, hma, pa, ha⟩ := ra.strs
  simp only [List.cons.injEq, and_true] at h1
  subst h1
  by_cases h0 : 0 < l.length
  · obtain rfl := pa h0
    have := Tryz.slices_Index_string ba oa l.length ca l x w (Nat.le_refl _) (by unfold maxLen at hma; omega) (fun j hj => ha j _ (by rw [List.getD_eq_getElem?_getD, List.getElem?_eq_getElem hj]; rfl))
    rwa [List.take_length] at this
  · obtain rfl : l = [] := List.eq_nil_of_length_eq_zero (by omega)
    exact Tryz.slices_Index_string_empty ao ca x w

/-- The checker: its struct in block B, its scope in two rows of their own. -/
structure Chk (w : World) (B B0 : Nat) (cC mp cV : Value) (own : Bool) (p : ByteArray) (D : Scope) (vd vp : Value) : Prop where
  own : Own w B 57 #[cC, mp, .string p, cV, .bool own, vd, vp]
  lt : B < B0
  le : B0 ≤ w.heap.size
  ds : AccT B0 w vd (D.map Prod.fst)
  ps : AccB B0 w vp (D.map Prod.snd)
  ne : ∀ k, vd.ownBlock = some k → vp.ownBlock ≠ some k
def obs (B : Nat) (vd vp : Value) : List Nat := B :: (vd.ownBlock.toList ++ vp.ownBlock.toList)
theorem mem_obs {B : Nat} {vd vp : Value} {k : Nat} : k ∈ obs B vd vp ↔ k = B ∨ vd.ownBlock = some k ∨ vp.ownBlock = some k := by
  unfold obs
  simp [List.mem_append, Option.mem_toList, eq_comm]
/-- What lies off the checker's blocks. -/
def Off (fp : List Nat) (B : Nat) (vd vp : Value) : Prop := ∀ k, k ∈ fp → k ∉ obs B vd vp
/-- The rows' blocks are those of before, or new. -/
def Newer (w : World) (v v' : Value) : Prop := v'.ownBlock = v.ownBlock ∨ ∃ k, v'.ownBlock = some k ∧ w.heap.size ≤ k
theorem Newer.refl (w : World) (v : Value) : Newer w v v := Or.inl rfl
theorem Newer.trans {w w' : World} {a b c : Value} (h : Newer w a b) (k : Newer w' b c) (hs : w.heap.size ≤ w'.heap.size) : Newer w a c := by
  rcases k with k | ⟨x, k, hx⟩
  · rcases h with h | ⟨y, h, hy⟩
    · exact Or.inl (k.trans h)
    · exact Or.inr ⟨y, k.trans h, hy⟩
  · exact Or.inr ⟨x, k, by omega⟩
theorem Off.newer {w : World} {fp : List Nat} {B : Nat} {vd vp vd' vp' : Value} (h : Off fp B vd vp) (hd : Newer w vd vd') (hp : Newer w vp vp') (hl : ∀ k, k ∈ fp → k < w.heap.size) : Off fp B vd' vp' := fun k hk hm => by
  have h1 := h k hk
  rw [mem_obs] at h1 hm
  have hlt := hl k hk
  rcases hm with rfl | hm | hm
  · exact h1 (Or.inl rfl)
  · rcases hd with hd | ⟨x, hd, hx⟩
    · exact h1 (Or.inr (Or.inl (hd.symm.trans hm)))
    · rw [hd] at hm; injection hm with hm; omega
  · rcases hp with hp | ⟨x, hp, hx⟩
    · exact h1 (Or.inr (Or.inr (hp.symm.trans hm)))
    · rw [hp] at hm; injection hm with hm; omega
theorem obs_newer {w : World} {B : Nat} {vd vp vd' vp' : Value} (hd : Newer w vd vd') (hp : Newer w vp vp') : ∀ x, x ∈ obs B vd' vp' → x ∈ obs B vd vp ∨ w.heap.size ≤ x := fun x hx => by
  rw [mem_obs] at hx ⊢
  rcases hx with rfl | hx | hx
  · exact Or.inl (Or.inl rfl)
  · rcases hd with hd | ⟨y, hd, hy⟩
    · exact Or.inl (Or.inr (Or.inl (hd.symm.trans hx)))
    · rw [hd] at hx; injection hx with hx; subst hx; exact Or.inr hy
  · rcases hp with hp | ⟨y, hp, hy⟩
    · exact Or.inl (Or.inr (Or.inr (hp.symm.trans hx)))
    · rw [hp] at hx; injection hx with hx; subst hx; exact Or.inr hy
theorem Off.sub {fp gp : List Nat} {B : Nat} {vd vp : Value} (h : Off fp B vd vp) (hs : ∀ k, k ∈ gp → k ∈ fp) : Off gp B vd vp := fun k hk => h k (hs k hk)
theorem Chk.cells {w : World} {B B0 : Nat} {cC mp cV : Value} {own : Bool} {p : ByteArray} {D : Scope} {vd vp : Value} (h : Chk w B B0 cC mp cV own p D vd vp) :
    w.cell? ⟨B, 0, none⟩ = some cC ∧ w.cell? ⟨B, 1, none⟩ = some mp ∧ w.cell? ⟨B, 2, none⟩ = some (.string p) ∧ w.cell? ⟨B, 3, none⟩ = some cV ∧ w.cell? ⟨B, 4, none⟩ = some (.bool own) ∧ w.cell? ⟨B, 5, none⟩ = some vd ∧ w.cell? ⟨B, 6, none⟩ = some vp := by
  refine ⟨?_, ?_, ?_, ?_, ?_, ?_, ?_⟩ <;> (rw [h.own.cell]; rfl)
/-- Where the checker's own blocks are left alone, it is the same. -/
theorem Chk.ext {w w' : World} {B B0 : Nat} {cC mp cV : Value} {own : Bool} {p : ByteArray} {D : Scope} {vd vp : Value} (h : Chk w B B0 cC mp cV own p D vd vp) (hx : Ext w w') : Chk w' B B0 cC mp cV own p D vd vp :=
  ⟨h.own.ext hx, h.lt, Nat.le_trans h.le hx.size, h.ds.ext hx, Acc.ext h.ps hx, h.ne⟩
/-- A store into the struct. -/
theorem Chk.set {w : World} {B B0 : Nat} {cC mp cV : Value} {own : Bool} {p : ByteArray} {D : Scope} {vd vp : Value} (h : Chk w B B0 cC mp cV own p D vd vp) (q : ByteArray) : Chk (w.setCell ⟨B, 2, none⟩ (.string q)) B B0 cC mp cV own q D vd vp ∧ Touch w (w.setCell ⟨B, 2, none⟩ (.string q)) [B] := by
  have T : Touch w (w.setCell ⟨B, 2, none⟩ (.string q)) [B] := (Touch.of_ext (Ext.refl w) [B]).setCell (by simp) _
  have hB0 := h.lt
  refine ⟨⟨h.own.set 2 _, h.lt, Nat.le_trans h.le T.size, Acc.touch h.ds T (fun k hk => ?_) (fun k hk => nomatch hk), Acc.touch h.ps T (fun k hk => ?_) (fun k hk => nomatch hk), h.ne⟩, T⟩
  · have := (Acc.ge h.ds hk).1; simp; omega
  · have := (Acc.ge h.ps hk).1; simp; omega
theorem obs_low {w : World} {B B0 : Nat} {cC mp cV : Value} {own : Bool} {p : ByteArray} {D : Scope} {vd vp : Value} (h : Chk w B B0 cC mp cV own p D vd vp) : ∀ k, k ∈ obs B vd vp → k = B ∨ B0 ≤ k := fun k hk => by
  rw [mem_obs] at hk
  rcases hk with rfl | hk | hk
  · exact Or.inl rfl
  · exact Or.inr (Acc.ge h.ds hk).1
  · exact Or.inr (Acc.ge h.ps hk).1
/-- What lies below the checker's rows. -/
def RepL (w : World) (B B0 : Nat) (d : D) (v : Value) : Prop := ∃ fp, RepF w d [v] fp ∧ ∀ k, k ∈ fp → k < B0 ∧ k ≠ B
theorem RepL.rep {w : World} {B B0 : Nat} {d : D} {v : Value} (h : RepL w B B0 d v) : Rep w d [v] := let ⟨fp, h, _⟩ := h; ⟨fp, h⟩
theorem RepL.ext {w w' : World} {B B0 : Nat} {d : D} {v : Value} (h : RepL w B B0 d v) (hx : Ext w w') : RepL w' B B0 d v := let ⟨fp, h, k⟩ := h; ⟨fp, h.ext hx, k⟩
theorem RepL.touch {w w' : World} {B B0 : Nat} {d : D} {v : Value} {L : List Nat} (h : RepL w B B0 d v) (ht : Touch w w' L) (hL : ∀ k, k ∈ L → k = B ∨ B0 ≤ k) : RepL w' B B0 d v := by
  obtain ⟨fp, h, k⟩ := h
  exact ⟨fp, h.touch ht fun b hb hm => by
    have h1 := k b hb
    rcases hL b hm with h2 | h2
    · exact h1.2 h2
    · omega, k⟩
theorem Chk.app1 {w w2 w3 : World} {B B0 : Nat} {cC mp cV : Value} {own : Bool} {p : ByteArray} {D : Scope} {vd vp : Value} (K : Chk w B B0 cC mp cV own p D vd vp) (x1 : Ext w w2) (g1 : w2.grownBy w3 vd.ownBlock) {v1 : Value} {L : List ByteArray} (ac : AccT B0 w3 v1 L)
    (n1 : v1.ownBlock = vd.ownBlock ∨ v1.ownBlock = some w2.heap.size) :
    Own w3 B 57 #[cC, mp, .string p, cV, .bool own, vd, vp] ∧ Own (w3.setCell ⟨B, 5, none⟩ v1) B 57 #[cC, mp, .string p, cV, .bool own, v1, vp] ∧
    AccT B0 (w3.setCell ⟨B, 5, none⟩ v1) v1 L ∧ AccB B0 (w3.setCell ⟨B, 5, none⟩ v1) vp (D.map Prod.snd) ∧ Touch w (w3.setCell ⟨B, 5, none⟩ v1) (obs B vd vp) ∧ (∀ k, v1.ownBlock = some k → vp.ownBlock ≠ some k) ∧ Newer w vd v1 := by
  have T3 : Touch w w3 vd.ownBlock.toList := (Touch.of_ext x1 _).grown g1 fun k hk => Or.inl (by simp [hk])
  have hB := K.lt
  have O3 := K.own.touch' T3 (fun hm => by
    have := (Acc.ge K.ds (k := B) (by simpa using hm)).1
    omega)
  have P3 : AccB B0 w3 vp (D.map Prod.snd) := Acc.touch K.ps T3 (fun k hk hm => K.ne k (by simpa using hm) hk) (fun k hk => nomatch hk)
  have T4 : Touch w3 (w3.setCell ⟨B, 5, none⟩ v1) [B] := (Touch.of_ext (Ext.refl w3) [B]).setCell (by simp) _
  refine ⟨O3, O3.set 5 _, Acc.touch ac T4 (fun k hk hm => ?_) (fun k hk => nomatch hk), Acc.touch P3 T4 (fun k hk hm => ?_) (fun k hk => nomatch hk), ?_, fun k hk hp => ?_, ?_⟩
  · have := (Acc.ge ac hk).1; simp at hm; omega
  · have := (Acc.ge P3 hk).1; simp at hm; omega
  · refine (T3.mono fun b hb => ?_).trans (T4.mono fun b hb => ?_)
    · exact mem_obs.2 (Or.inr (Or.inl (by simpa using hb)))
    · exact mem_obs.2 (Or.inl (by simpa using hb))
  · rcases n1 with n1 | n1
    · exact K.ne k (n1.symm.trans hk) hp
    · have := (Acc.ge K.ps hp).2
      have hs := x1.size
      rw [n1] at hk; injection hk with hk; omega
  · rcases n1 with n1 | n1
    · exact Or.inl n1
    · exact Or.inr ⟨_, n1, x1.size⟩
theorem Chk.app2 {w w1 w2 w3 : World} {B B0 : Nat} {cC mp cV : Value} {own : Bool} {p : ByteArray} {D E : Scope} {vd vp v1 : Value} (K : Chk w B B0 cC mp cV own p D vd vp) (O1 : Own w1 B 57 #[cC, mp, .string p, cV, .bool own, v1, vp])
    (A1 : AccT B0 w1 v1 (E.map Prod.fst)) (P1 : AccB B0 w1 vp (D.map Prod.snd)) (T1 : Touch w w1 (obs B vd vp)) (ne1 : ∀ k, v1.ownBlock = some k → vp.ownBlock ≠ some k) (nw1 : Newer w vd v1)
    (x2 : Ext w1 w2) (g2 : w2.grownBy w3 vp.ownBlock) {v2 : Value} (ac : AccB B0 w3 v2 (E.map Prod.snd)) (n2 : v2.ownBlock = vp.ownBlock ∨ v2.ownBlock = some w2.heap.size) :
    Own w3 B 57 #[cC, mp, .string p, cV, .bool own, v1, vp] ∧ Chk (w3.setCell ⟨B, 6, none⟩ v2) B B0 cC mp cV own p E v1 v2 ∧ Touch w (w3.setCell ⟨B, 6, none⟩ v2) (obs B vd vp) ∧ Newer w vp v2 := by
  have T3 : Touch w1 w3 vp.ownBlock.toList := (Touch.of_ext x2 _).grown g2 fun k hk => Or.inl (by simp [hk])
  have hB := K.lt
  have O3 := O1.touch' T3 (fun hm => by
    have := (Acc.ge K.ps (k := B) (by simpa using hm)).1
    omega)
  have A3 : AccT B0 w3 v1 (E.map Prod.fst) := Acc.touch A1 T3 (fun k hk hm => ne1 k hk (by simpa using hm)) (fun k hk => nomatch hk)
  have T4 : Touch w3 (w3.setCell ⟨B, 6, none⟩ v2) [B] := (Touch.of_ext (Ext.refl w3) [B]).setCell (by simp) _
  have TT : Touch w (w3.setCell ⟨B, 6, none⟩ v2) (obs B vd vp) := by
    refine (T1.trans (T3.mono fun b hb => ?_)).trans (T4.mono fun b hb => ?_)
    · exact mem_obs.2 (Or.inr (Or.inr (by simpa using hb)))
    · exact mem_obs.2 (Or.inl (by simpa using hb))
  refine ⟨O3, ⟨O3.set 6 _, hB, Nat.le_trans K.le TT.size, Acc.touch A3 T4 (fun k hk hm => ?_) (fun k hk => nomatch hk), Acc.touch ac T4 (fun k hk hm => ?_) (fun k hk => nomatch hk), fun k hk hp => ?_⟩, TT, ?_⟩
  · have := (Acc.ge A3 hk).1; simp at hm; omega
  · have := (Acc.ge ac hk).1; simp at hm; omega
  · rcases n2 with n2 | n2
    · exact ne1 k hk (n2.symm.trans hp)
    · have := (Acc.ge A1 hk).2
      have hs := x2.size
      rw [n2] at hp; injection hp with hp; omega
  · rcases n2 with n2 | n2
    · exact Or.inl n2
    · exact Or.inr ⟨_, n2, Nat.le_trans T1.size x2.size⟩
theorem rep_oneb (w : World) (x : Bool) : Rep (w.alloc (.cells #[.bool x] 4)) (bools [x]) [.slice (some ⟨w.heap.size, 0, none⟩) 1 1] := by
  have O := own_new w #[.bool x] 4
  refine ⟨[w.heap.size], RepF.sl_iff.2 ⟨_, _, rfl, by simp, by unfold maxLen; omega, by simp, Or.inr ⟨w.heap.size, 0, [.bool x], [], by simp, rfl, rfl, O.lt, fun j c hj => ?_, RepR.one (by simp [RepF]) rfl⟩⟩⟩
  rw [Nat.zero_add, O.cell]
  simpa using hj
/-- The rows are cut back to what they were. -/
theorem Chk.cuts {w : World} {B B0 : Nat} {cC mp cV : Value} {own : Bool} {p : ByteArray} {D E : Scope} {vd vp v1 v2 : Value} (K : Chk w B B0 cC mp cV own p E vd vp) (A1 : AccT B0 w v1 (D.map Prod.fst)) (P2 : AccB B0 w v2 (D.map Prod.snd))
    (h1 : v1.ownBlock = vd.ownBlock) (h2 : v2.ownBlock = vp.ownBlock) : Chk ((w.setCell ⟨B, 5, none⟩ v1).setCell ⟨B, 6, none⟩ v2) B B0 cC mp cV own p D v1 v2 ∧ Touch w ((w.setCell ⟨B, 5, none⟩ v1).setCell ⟨B, 6, none⟩ v2) [B] := by
  have T : Touch w ((w.setCell ⟨B, 5, none⟩ v1).setCell ⟨B, 6, none⟩ v2) [B] := ((Touch.of_ext (Ext.refl w) [B]).setCell (by simp) _).setCell (by simp) _
  have hB := K.lt
  refine ⟨⟨(K.own.set 5 _).set 6 _, hB, Nat.le_trans K.le T.size, Acc.touch A1 T (fun k hk hm => ?_) (fun k hk => nomatch hk), Acc.touch P2 T (fun k hk hm => ?_) (fun k hk => nomatch hk), fun k hk hp => K.ne k (h1.symm.trans hk) (h2.symm.trans hp)⟩, T⟩
  · have := (Acc.ge A1 hk).1; simp at hm; omega
  · have := (Acc.ge P2 hk).1; simp at hm; omega
theorem AccB.cell {B0 : Nat} {w : World} {v : Value} {l : List Bool} (h : AccB B0 w v l) {k : Nat} {b : Bool} (hk : l[k]? = some b) : ∃ g cap, v = .slice (some ⟨g, 0, none⟩) l.length cap ∧ w.cell? ⟨g, k, none⟩ = some (.bool b) := by
  obtain ⟨ao, cap, gp, h1, h2, -⟩ := Acc.rep h
  rcases Acc.form h with ⟨-, h0⟩ | ⟨g, c2, h3, -⟩
  · have : l = [] := by simpa using h0
    subst this; simp at hk
  · rw [List.length_map] at h1 h3
    rw [h3] at h1
    simp only [Value.slice.injEq, true_and] at h1
    obtain ⟨rfl, rfl⟩ := h1
    obtain ⟨ao', cap', b', o', e1, -, -, hp, hc⟩ := Rep.slmap (f := D.bool) h2.rep
    simp only [List.cons.injEq, and_true, Value.slice.injEq] at e1
    obtain ⟨rfl, -, rfl⟩ := e1
    have := hp (by have := (List.getElem?_eq_some_iff.1 hk).1; simp; omega)
    simp only [Option.some.injEq, Addr.mk.injEq, and_true] at this
    obtain ⟨rfl, rfl⟩ := this
    obtain ⟨es, _, g2, g3⟩ := hc k b hk
    obtain ⟨fp, g3⟩ := g3
    simp only [RepF] at g3
    have := g2 0 (by omega)
    rw [g3.1] at this
    refine ⟨g, _, h3, ?_⟩
    simpa using this
theorem isSuper_any (z : MExpr) (cs : List Value) (w : World) (rz : Rep w z.d cs) : Calls Tryz.prog 46 #[.agg cs.toArray] w fun e w' => e = .returned (.bool (supB z)) ∧ Ext w w' := by
  obtain ⟨a1, c1, a2, c2, rfl, -, -⟩ := MExpr.op_en rz
  clear rz
  by_cases h4 : z.kind = 4
  · have t4 := int_eq h4
    by_cases hs : z.text = superN
    · have HV := Lib.hid (supB_tt h4 hs)
      have ts := str_eq' (l := [115, 117, 112, 101, 114]) hs
      clear h4 hs
      go_enter Tryz.func46, Tryz.ntmps46
      go_wp2_with fail
      go_ret
      exact ⟨ret_bool HV.out.symm, (Ext.refl _).alloc _⟩
    · have HV := Lib.hid (supB_ff (x := z) (fun h => hs h.2))
      have ts := str_ne' (l := [115, 117, 112, 101, 114]) hs
      clear h4 hs
      go_enter Tryz.func46, Tryz.ntmps46
      go_wp2_with fail
      go_ret
      exact ⟨ret_bool HV.out.symm, (Ext.refl _).alloc _⟩
  · have HV := Lib.hid (supB_ff (x := z) (fun h => h4 h.1))
    have t4 := int_ne h4
    clear h4
    go_enter Tryz.func46, Tryz.ntmps46
    go_wp2_with fail
    go_ret
    exact ⟨ret_bool HV.out.symm, (Ext.refl _).alloc _⟩

end Go.Proofs.YtlppoffneeglgaaGreatDoor
