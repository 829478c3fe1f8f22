/-
  PLAIN: the classes of a right unit, by index and by name.
  Conditions: those that each lemma states.
-/
import Derived.Test.YtlppoffneeglgaaGreatDoorRows
import Derived.Test.YtlppoffneeglgaaGreatDoorChkP
namespace Go.Proofs.YtlppoffneeglgaaGreatDoor
open Go.RowKit
set_option linter.unusedSimpArgs false
set_option linter.unusedVariables false

def namesC (l : List MClassDef) : List ByteArray := l.map (·.name)
/-- The index of a class, the built-in ones first; -1: there is none. -/
noncomputable def clsIx (l : List MClassDef) (n : ByteArray) : Int := if 0 ≤ Lib.idxOfS builtinsL n then Lib.idxOfS builtinsL n else if 0 ≤ Lib.idxOfS (namesC l) n then 16 + Lib.idxOfS (namesC l) n else -1
theorem clsIx_iff {l : List MClassDef} {n : ByteArray} : 0 ≤ clsIx l n ↔ n ∈ builtinsL ++ namesC l := by
  rw [List.mem_append, ← Lib.idxOfS_nonneg_iff, ← Lib.idxOfS_nonneg_iff]
  unfold clsIx
  split
  · rename_i h; simp [h]
  · rename_i h
    split
    · rename_i h2; simp only [h2, or_true, iff_true]; omega
    · rename_i h2; simp [h, h2]
theorem clsIx_has {l : List MClassDef} {n : ByteArray} : decide (0 ≤ clsIx l n) = hasB (builtinsL ++ namesC l) n := by
  rw [Bool.eq_iff_iff, decide_eq_true_eq, hasB_iff, clsIx_iff]
theorem idx_lt {zs : List ByteArray} {x : ByteArray} (h : 0 ≤ Lib.idxOfS zs x) : ∃ k : Nat, Lib.idxOfS zs x = k ∧ zs[k]? = some x ∧ k < zs.length ∧ ∀ j : Nat, j < k → zs[j]? ≠ some x := by
  obtain ⟨k, h1, h2, h3⟩ := idx_first zs x 0 h ((Lib.idxOfS_nonneg_iff zs x).1 h)
  rw [Nat.zero_add] at h1
  exact ⟨k, h1, h2, (List.getElem?_eq_some_iff.1 h2).1, h3⟩
theorem idx_neg {zs : List ByteArray} {x : ByteArray} (h : x ∉ zs) : Lib.idxOfS zs x < 0 := by
  apply Int.not_le.1
  exact fun hh => h ((Lib.idxOfS_nonneg_iff zs x).1 hh)
theorem clsIx_lt {l : List MClassDef} {n : ByteArray} : -1 ≤ clsIx l n ∧ clsIx l n < 16 + l.length := by
  unfold clsIx
  split
  · rename_i h
    obtain ⟨k, h1, -, h2, -⟩ := idx_lt h
    have e : builtinsL.length = 16 := rfl
    omega
  · split
    · rename_i h
      obtain ⟨k, h1, -, h2, -⟩ := idx_lt h
      have e : (namesC l).length = l.length := List.length_map _
      omega
    · omega
/-- The classes are right: their names are new, their parents are there. -/
def Clean (l : List MClassDef) : Prop := ∀ (i : Nat) (d : MClassDef), l[i]? = some d → d.name ∉ builtinsL ++ namesC (l.take i) ∧ (d.parent ∈ extB ∨ d.parent ∈ namesC (l.take i))
theorem Clean.take {l : List MClassDef} (h : Clean l) (k : Nat) : Clean (l.take k) := fun i d hd => by
  have hik : i < k := by
    have := (List.getElem?_eq_some_iff.1 hd).1
    rw [List.length_take] at this; omega
  have hd' : l[i]? = some d := by rw [List.getElem?_take_of_lt hik] at hd; exact hd
  have := h i d hd'
  rwa [List.take_take, Nat.min_eq_left (by omega)]
theorem fmAll_snoc (l : List MClassDef) (d : MClassDef) : fmAll (l ++ [d]) = clsF (fmAll l) d := by unfold fmAll; rw [List.foldl_append]; rfl
theorem fold_off (s : ByteArray) : ∀ (l : List MClassDef) (fm : FMap), s ∉ namesC l → l.foldl clsF fm s = fm s
  | [], fm, _ => rfl
  | d :: l, fm, h => by
    simp only [namesC, List.map_cons, List.mem_cons, not_or] at h
    rw [List.foldl_cons, fold_off s l _ h.2, clsF, putF, if_neg h.1]
theorem fmAll_off (l : List MClassDef) (s : ByteArray) (h : s ∉ namesC l) : fmAll l s = baseF s := fold_off s l baseF h
/-- What later classes leave alone. -/
theorem fmAll_take {l : List MClassDef} {i : Nat} {s : ByteArray} (h : s ∉ namesC (l.drop i)) : fmAll l s = fmAll (l.take i) s := by
  have key : ∀ (b a : List MClassDef), s ∉ namesC b → fmAll (a ++ b) s = fmAll a s := by
    intro b
    induction b with
    | nil => intro a _; rw [List.append_nil]
    | cons d b ih =>
      intro a hb
      simp only [namesC, List.map_cons, List.mem_cons, not_or] at hb
      rw [show a ++ d :: b = (a ++ [d]) ++ b by simp, ih _ hb.2, fmAll_snoc, clsF, putF, if_neg hb.1]
  have := key (l.drop i) (l.take i) h
  rwa [List.take_append_drop] at this
/-- Names of a right unit are all different. -/
theorem Clean.later {l : List MClassDef} (h : Clean l) {i j : Nat} {d e : MClassDef} (hi : l[i]? = some d) (hj : l[j]? = some e) (hij : i < j) : e.name ≠ d.name := fun he => by
  have := (h j e hj).1
  rw [List.mem_append, not_or] at this
  refine this.2 (List.mem_map.2 ⟨d, ?_, he.symm⟩)
  exact List.mem_of_getElem? (by rw [List.getElem?_take_of_lt hij]; exact hi)
theorem Clean.notin {l : List MClassDef} (h : Clean l) {i : Nat} {s : ByteArray} (hs : s ∈ builtinsL ∨ s ∈ namesC (l.take i)) : s ∉ namesC (l.drop i) := fun hm => by
  obtain ⟨e, he, rfl⟩ := List.mem_map.1 hm
  obtain ⟨j, hj, rfl⟩ := List.mem_iff_getElem.1 he
  have hj' : l[i + j]? = some (l.drop i)[j] := by
    rw [List.getElem_drop, List.getElem?_eq_getElem (by rw [List.length_drop] at hj; omega)]
  have := (h _ _ hj').1
  rw [List.mem_append, not_or] at this
  rcases hs with hs | hs
  · exact this.1 hs
  · refine this.2 ?_
    obtain ⟨d, hd, hn⟩ := List.mem_map.1 hs
    refine List.mem_map.2 ⟨d, ?_, hn⟩
    exact (List.take_subset_take_left l (by omega : i ≤ i + j)) hd
theorem ext_builtin {s : ByteArray} (h : s ∈ extB) : s ∈ builtinsL := by
  simp only [extB, List.mem_cons, List.not_mem_nil, or_false] at h
  rcases h with rfl | rfl | rfl | rfl | rfl <;> simp [builtinsL]
/-- The fields of a class by its index. -/
noncomputable def flds (l : List MClassDef) (k : Int) : List ByteArray := if k = 1 ∨ k = 2 ∨ k = 3 ∨ k = 4 then [textN] else if k < 16 then [] else match l[(k - 16).toNat]? with | some d => fmAll l d.name | none => []
theorem flds_low {l l' : List MClassDef} {k : Int} (h : k < 16) : flds l k = flds l' k := by
  unfold flds
  split
  · rfl
  · rfl
theorem flds_at {l : List MClassDef} {i : Nat} {d : MClassDef} (h : l[i]? = some d) : flds l (16 + (i : Int)) = fmAll l d.name := by
  unfold flds
  rw [if_neg (by omega), if_neg (by omega), show (16 + (i : Int) - 16).toNat = i by omega, h]
/-- A class that may be extended: its fields by its name. -/
theorem flds_parent {l : List MClassDef} (h : Clean l) {s : ByteArray} (hs : s ∈ extB ∨ s ∈ namesC l) : flds l (clsIx l s) = fmAll l s ∧ 0 ≤ clsIx l s ∧ (clsIx l s ≤ 4 ∨ 16 ≤ clsIx l s) := by
  by_cases hb : s ∈ builtinsL
  · have hoff : s ∉ namesC l := by
      have := h.notin (i := 0) (Or.inl hb)
      simpa using this
    have hx : s ∈ extB := hs.resolve_right hoff
    rw [fmAll_off l s hoff]
    have h0 := (Lib.idxOfS_nonneg_iff builtinsL s).2 hb
    have e : clsIx l s = Lib.idxOfS builtinsL s := if_pos h0
    rw [e]
    simp only [extB, List.mem_cons, List.not_mem_nil, or_false] at hx
    rcases hx with rfl | rfl | rfl | rfl | rfl
    · rw [show Lib.idxOfS builtinsL _ = (0 : Int) by decide]
      refine ⟨?_, by omega, by omega⟩
      rw [flds, if_neg (by omega), if_pos (by omega), baseF, if_neg]
      rw [hasB_iff]; simp [extB]
    all_goals
      first
        | rw [show Lib.idxOfS builtinsL _ = (1 : Int) by decide]
        | rw [show Lib.idxOfS builtinsL _ = (2 : Int) by decide]
        | rw [show Lib.idxOfS builtinsL _ = (3 : Int) by decide]
        | rw [show Lib.idxOfS builtinsL _ = (4 : Int) by decide]
      refine ⟨?_, by omega, by omega⟩
      rw [flds, if_pos (by omega), baseF, if_pos]
      rw [hasB_iff]; simp [extB]
  · have hn : s ∈ namesC l := hs.resolve_left fun h => hb (ext_builtin h)
    have h0 := idx_neg hb
    have h1 := (Lib.idxOfS_nonneg_iff (namesC l) s).2 hn
    obtain ⟨k, hk, hg, hlt, -⟩ := idx_lt h1
    have e : clsIx l s = 16 + (k : Int) := by
      unfold clsIx
      rw [if_neg (by omega), if_pos h1, hk]
    unfold namesC at hg
    rw [List.getElem?_map] at hg
    cases hd : l[k]? with
    | none => rw [hd] at hg; cases hg
    | some d =>
      rw [hd] at hg
      simp at hg
      subst hg
      rw [e, flds_at hd]
      exact ⟨rfl, by omega, by omega⟩
/-- A class's fields are its parent's and its own. -/
theorem flds_class {l : List MClassDef} (h : Clean l) {i : Nat} {d : MClassDef} (hd : l[i]? = some d) : flds l (16 + (i : Int)) = flds l (clsIx l d.parent) ++ d.fields ∧ 0 ≤ clsIx l d.parent ∧ clsIx l d.parent < 16 + i := by
  have hi := (List.getElem?_eq_some_iff.1 hd).1
  have ht : l.take (i + 1) = l.take i ++ [d] := by rw [List.take_add_one, hd]; rfl
  have hp := (h i d hd).2
  have hpl : d.parent ∈ extB ∨ d.parent ∈ namesC l := hp.imp id fun hm => by
    obtain ⟨e, he, hn⟩ := List.mem_map.1 hm
    exact List.mem_map.2 ⟨e, List.mem_of_mem_take he, hn⟩
  obtain ⟨h1, h2, h3⟩ := flds_parent h hpl
  have hown : fmAll l d.name = fmAll (l.take i) d.parent ++ d.fields := by
    rw [fmAll_take (i := i + 1) (h.notin (Or.inr (by rw [ht]; unfold namesC; simp))), ht, fmAll_snoc, clsF, putF, if_pos rfl]
  have hpar : fmAll (l.take i) d.parent = fmAll l d.parent := (fmAll_take (h.notin (hp.imp ext_builtin id))).symm
  refine ⟨by rw [flds_at hd, hown, hpar, h1], h2, ?_⟩
  rcases hp with hx | hm
  · have : clsIx l d.parent = Lib.idxOfS builtinsL d.parent := if_pos ((Lib.idxOfS_nonneg_iff builtinsL _).2 (ext_builtin hx))
    rw [this]
    obtain ⟨k, hk, -, hk2, -⟩ := idx_lt ((Lib.idxOfS_nonneg_iff builtinsL _).2 (ext_builtin hx))
    have e : builtinsL.length = 16 := rfl
    omega
  · have hnb : d.parent ∉ builtinsL := by
      obtain ⟨e, he, hn⟩ := List.mem_map.1 hm
      obtain ⟨j, hj, rfl⟩ := List.mem_iff_getElem.1 he
      have hj' : j < i := by rw [List.length_take] at hj; omega
      have := (h j (l.take i)[j] (by rw [List.getElem_take, List.getElem?_eq_getElem (by omega)])).1
      rw [List.mem_append, not_or] at this
      rw [← hn]; exact this.1
    have h0 := idx_neg hnb
    obtain ⟨e, he, hn⟩ := List.mem_map.1 hm
    obtain ⟨j, hj, rfl⟩ := List.mem_iff_getElem.1 he
    have hj' : j < i := by rw [List.length_take] at hj; omega
    have hjn : (namesC l)[j]? = some d.parent := by
      unfold namesC
      rw [List.getElem?_map, List.getElem?_eq_getElem (by omega : j < l.length), ← hn, List.getElem_take]
      rfl
    have h1' := (Lib.idxOfS_nonneg_iff (namesC l) d.parent).2 (List.mem_of_getElem? hjn)
    obtain ⟨k, hk, -, -, hfirst⟩ := idx_lt h1'
    have hkj : k ≤ j := by
      apply Decidable.byContradiction
      intro hc
      exact hfirst j (by omega) hjn
    unfold clsIx
    rw [if_neg (by omega), if_pos h1', hk]
    omega

end Go.Proofs.YtlppoffneeglgaaGreatDoor
