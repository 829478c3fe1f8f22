/-
  PLAIN: what PrintValue prints.
  Conditions: those that each lemma states.
-/
import Derived.Test.YticdmbmjlaomiaaGreatDoorRows
import Derived.Test.YticdmbmjlaomiaaGreatDoorFnToken
import Derived.Test.YticdmbmjlaomiaaGreatDoorFnJoin
import Derived.Test.YticdmbmjlaomiaaGreatDoorFnClassOf
import Derived.Test.YticdmbmjlaomiaaGreatDoorNums
import Derived.Lib.ItoaLen
namespace Go.Proofs.YticdmbmjlaomiaaGreatDoor
open Go.RowKit
set_option linter.unusedSimpArgs false
set_option linter.unusedVariables false

/-- A selector is short. -/
theorem flat_len (c : UInt8) : ∀ ps : List (List UInt8), (∀ p, p ∈ ps → p.length ≤ 20) → (ps.flatMap (fun p => p ++ [c])).length ≤ 21 * ps.length
  | [], _ => by simp
  | p :: ps, h => by
    have h1 := flat_len c ps fun q hq => h q (List.mem_cons_of_mem _ hq)
    have h2 := h p List.mem_cons_self
    simp only [List.flatMap_cons, List.length_append, List.length_cons, List.length_nil]
    omega
theorem cutGo_flat (c : UInt8) : ∀ (l cur : List UInt8), (cutGo c cur l).flatMap (fun p => p ++ [c]) = cur ++ l ++ [c]
  | [], cur => by simp [cutGo]
  | b :: t, cur => by
    by_cases h : b = c
    · subst h; simp [cutGo, cutGo_flat b t []]
    · simp [cutGo, h, cutGo_flat c t (cur ++ [b])]
theorem part_len {s : ByteArray} (h : partB s = true) : 1 ≤ s.size ∧ s.size ≤ 20 := by
  unfold partB at h
  have := of_decide_eq_true h
  exact ⟨this.1, this.2.1⟩
theorem name_len {s : ByteArray} (h : nameB s = true) : 1 ≤ s.size ∧ s.size ≤ 20 := by
  unfold nameB at h
  exact part_len (by simp at h; exact h.1)
/-- A text begins with a letter. -/
def headLtr' (s : ByteArray) : Bool := match s.data.toList with | [] => false | b :: _ => ltrB (b.toNat : Int)
theorem name_ltr {s : ByteArray} (h : nameB s = true) : headLtr' s = true := by
  unfold nameB at h
  have h : partB s = true := by simp at h; exact h.1
  unfold partB at h
  obtain ⟨h1, h2, h3, h4, h5⟩ := of_decide_eq_true h
  unfold headLtr'
  cases hd : s.data.toList with
  | nil => have : s.data.toList.length = s.size := by simp
           rw [hd] at this; simp at this; omega
  | cons b t =>
    have : s[0] = b := by
      have : s.data.toList[0]? = some s[0] := by rw [List.getElem?_eq_getElem (by simpa using h3)]; rfl
      rw [hd] at this; simpa using this.symm
    rw [← this]; exact h4
theorem kw_len {s : ByteArray} (h : kwB s = true) : s.size ≤ 84 := by
  unfold kwB at h
  simp only [Bool.and_eq_true, decide_eq_true_eq] at h
  obtain ⟨h1, h2, h3⟩ := h
  have h2 := allB_iff.1 h2
  have e := cutGo_flat 58 (stem s).data.toList []
  have e2 := congrArg List.length e
  have hl : (cutGo 58 [] (stem s).data.toList).length ≤ 4 := by simpa [cutB] using h3
  have h4 := flat_len 58 (cutGo 58 [] (stem s).data.toList) fun p hp => by
    have := (part_len (h2 (mkB p) (by unfold cutB; exact List.mem_map_of_mem hp))).2
    rwa [mkB_size] at this
  have h5 : (stem s).size = s.size - 1 := by unfold stem; simp
  have h6 : (stem s).data.toList.length = (stem s).size := by simp
  simp only [List.length_append, List.length_cons, List.length_nil] at e2
  omega
theorem sel_len' {s : ByteArray} (h : selB s = true) : s.size ≤ 84 := by
  unfold selB at h
  simp only [Bool.or_eq_true] at h
  rcases h with h | h | h
  · have h := hasB_iff.1 h
    simp only [opsL, List.mem_cons, List.not_mem_nil, or_false] at h
    rcases h with rfl | rfl | rfl | rfl | rfl | rfl | rfl | rfl | rfl | rfl | rfl | rfl | rfl | rfl | rfl <;> decide
  · have := (name_len h).2; omega
  · exact kw_len h
/-- The first 200 bytes. -/
def cutT (s : ByteArray) : ByteArray := if 200 < s.size then s.extract 0 200 else s
theorem cutT_size (s : ByteArray) : (cutT s).size ≤ 200 := by
  unfold cutT
  split
  · simp; omega
  · omega
def vowelsL : List ByteArray := [⟨#[65]⟩, ⟨#[69]⟩, ⟨#[73]⟩, ⟨#[79]⟩, ⟨#[85]⟩]
/-- A name behind its article. -/
noncomputable def artB (s : ByteArray) : ByteArray := if hasB vowelsL (s.extract 0 1) = true then ⟨#[97, 110, 32]⟩ ++ s else ⟨#[97, 32]⟩ ++ s
def dCls : MClassInfo := ⟨⟨#[]⟩, 0, []⟩
def dObj : MObject := ⟨0, 0, [], []⟩
def objAt (x : MStore) (v : MValue) : MObject := x.objects.getD v.number.toNat dObj
/-- What is printed of a value; arr: where it is an array. -/
noncomputable def prHead (x : MStore) (v : MValue) (arr : ByteArray) : ByteArray :=
  if v.kind = 0 then ⟨#[110, 105, 108]⟩ else if v.kind = 1 then (if v.number = 1 then ⟨#[116, 114, 117, 101]⟩ else ⟨#[102, 97, 108, 115, 101]⟩) else if v.kind = 2 then itoaB v.number
  else if v.kind = 3 then cutT (quoteB v.text) else if v.kind = 4 then ⟨#[35]⟩ ++ v.text else if v.kind = 5 then (x.classes.getD v.number.toNat dCls).name else if v.kind = 7 then ⟨#[97, 32, 66, 108, 111, 99, 107]⟩
  else if (objAt x v).kind = 2 then arr else artB (x.classes.getD (objAt x v).cls.toNat dCls).name
noncomputable def prT (x : MStore) : Nat → MValue → ByteArray
  | 0, v => prHead x v ⟨#[46, 46, 46]⟩
  | d + 1, v => prHead x v (cutT (⟨#[40]⟩ ++ joinB ((objAt x v).fields.map (prT x d)) ⟨#[32]⟩ ++ ⟨#[41]⟩))
noncomputable def printV (x : MStore) (v : MValue) : ByteArray := if storeB 1000 x = true ∧ fitB x.classes.length x.objects.length 1000 v = true then prT x 3 v else ⟨#[]⟩
theorem printV_yes {x : MStore} {v : MValue} (h1 : storeB 1000 x = true) (h2 : fitB x.classes.length x.objects.length 1000 v = true) : prT x 3 v = printV x v := by unfold printV; rw [if_pos ⟨h1, h2⟩]
theorem printV_no {x : MStore} {v : MValue} (h : storeB 1000 x = true → ¬ fitB x.classes.length x.objects.length 1000 v = true) : (⟨#[]⟩ : ByteArray) = printV x v := by unfold printV; rw [if_neg (fun g => h g.1 g.2)]
/-- A class of a right store has a short name that begins with a letter. -/
theorem cls_name {l : List MClassInfo} (h : ClsOk l) {i : Nat} {c : MClassInfo} (hc : l[i]? = some c) : 1 ≤ c.name.size ∧ c.name.size ≤ 20 ∧ headLtr' c.name = true := by
  obtain ⟨h1, h2⟩ := h.2 i c hc
  by_cases hi : i < 16
  · rw [h1 hi]
    have : ∀ j, j < 16 → 1 ≤ (infoAt j).name.size ∧ (infoAt j).name.size ≤ 20 ∧ headLtr' (infoAt j).name = true := by decide
    exact this i hi
  · have hn := (h2 (by omega)).1
    exact ⟨(name_len hn).1, (name_len hn).2, name_ltr hn⟩
theorem art_size (s : ByteArray) : (artB s).size ≤ s.size + 3 := by
  unfold artB
  have e1 : (⟨#[97, 110, 32]⟩ : ByteArray).size = 3 := rfl
  have e2 : (⟨#[97, 32]⟩ : ByteArray).size = 2 := rfl
  split
  · rw [ByteArray.size_append]; omega
  · rw [ByteArray.size_append]; omega
theorem cls_size {l : List MClassInfo} (h : ClsOk l) (k : Nat) : (l.getD k dCls).name.size ≤ 20 := by
  by_cases hk : k < l.length
  · rw [List.getD, List.getElem?_eq_getElem hk]
    exact (cls_name h (List.getElem?_eq_getElem hk)).2.1
  · rw [List.getD, List.getElem?_eq_none (by omega)]; exact Nat.zero_le _
theorem prHead_size {x : MStore} (hs : StoreOk 1000 x) {v : MValue} (hv : ValOk v) {arr : ByteArray} (ha : arr.size ≤ 200) : (prHead x v arr).size ≤ 200 := by
  unfold prHead
  split
  · exact (by decide : (⟨#[110, 105, 108]⟩ : ByteArray).size ≤ 200)
  · split
    · split
      · exact (by decide : (⟨#[116, 114, 117, 101]⟩ : ByteArray).size ≤ 200)
      · exact (by decide : (⟨#[102, 97, 108, 115, 101]⟩ : ByteArray).size ≤ 200)
    · split
      · rename_i h0 h1 h2
        have hb : -999999999 ≤ v.number ∧ v.number ≤ 999999999 := by rcases hv with h | h | h | h | h | h <;> omega
        have := Lib.itoa_length_le v.number (by omega) (by omega)
        have e : (itoaB v.number).size = (Lib.itoa v.number).length := by unfold itoaB; simp [ByteArray.size]
        omega
      · split
        · exact cutT_size _
        · split
          · rename_i h0 h1 h2 h3 h4
            have hb : selB v.text = true := by
              rcases hv with h | h | h | h | h | h
              · omega
              · omega
              · omega
              · omega
              · exact h.2.2
              · omega
            have := sel_len' hb
            rw [ByteArray.size_append]
            have e : (⟨#[35]⟩ : ByteArray).size = 1 := rfl
            omega
          · split
            · have := cls_size hs.1 v.number.toNat; omega
            · split
              · exact (by decide : (⟨#[97, 32, 66, 108, 111, 99, 107]⟩ : ByteArray).size ≤ 200)
              · split
                · exact ha
                · have := art_size (x.classes.getD (objAt x v).cls.toNat dCls).name
                  have := cls_size hs.1 (objAt x v).cls.toNat
                  omega
theorem prT_size {x : MStore} (hs : StoreOk 1000 x) : ∀ (d : Nat) {v : MValue}, ValOk v → (prT x d v).size ≤ 200
  | 0, v, hv => by rw [prT]; exact prHead_size hs hv (by decide)
  | d + 1, v, hv => by rw [prT]; exact prHead_size hs hv (cutT_size _)
theorem lens_le : ∀ (l : List ByteArray), (∀ y, y ∈ l → y.size ≤ 200) → Lib.lens (l.map (·.data.toList)) ≤ 200 * l.length
  | [], _ => by simp [Lib.lens]
  | y :: l, h => by
    have h1 := lens_le l fun z hz => h z (List.mem_cons_of_mem _ hz)
    have h2 := h y List.mem_cons_self
    simp only [List.map_cons, Lib.lens, List.sum_cons, List.length_cons] at *
    simp at *
    omega
/-- The object that a value names. -/
theorem obj_of {x : MStore} (hs : StoreOk 1000 x) {v : MValue} (hf : FitP x.classes.length x.objects.length 1000 v) (h6 : v.kind = 6) : ∃ (m : Nat) (o : MObject), v.number = m ∧ m < x.objects.length ∧ x.objects[m]? = some o ∧ objAt x v = o ∧ ObjOk x.classes x.objects.length 1000 o := by
  obtain ⟨m, hm, hlt⟩ := num_fit hf h6
  refine ⟨m, x.objects[m], hm, hlt, List.getElem?_eq_getElem hlt, ?_, hs.2.2.2.2.2.2 _ (List.getElem_mem hlt)⟩
  unfold objAt
  rw [hm]
  simp [List.getD, hlt]

end Go.Proofs.YticdmbmjlaomiaaGreatDoor
