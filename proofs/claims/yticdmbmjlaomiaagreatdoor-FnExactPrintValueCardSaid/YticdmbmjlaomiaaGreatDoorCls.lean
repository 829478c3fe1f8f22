/-
  CONTRACTS: none: what the classes of a system are, as plain data.
  Conditions: those that each lemma states.
-/
import Derived.Test.YticdmbmjlaomiaaGreatDoorRows
import Derived.Test.YticdmbmjlaomiaaGreatDoorTypes
import Derived.Test.YticdmbmjlaomiaaGreatDoorFnClasses
import Derived.Test.YticdmbmjlaomiaaGreatDoorFnLex
namespace Go.Proofs.YticdmbmjlaomiaaGreatDoor
open Go.RowKit
set_option linter.unusedSimpArgs false
set_option linter.unusedVariables false

def parentsL : List Int := [-1, 0, 1, 2, 2, 0, 0, 0, 0, 0, 0, 0, 0, 0, 0, 0]
/-- The fields of a built-in class. -/
def fieldsAt (i : Nat) : List ByteArray := if 1 ≤ i ∧ i ≤ 4 then [⟨#[116, 101, 120, 116]⟩] else []
def infoAt (i : Nat) : MClassInfo := ⟨builtinsL.getD i ⟨#[]⟩, parentsL.getD i 0, fieldsAt i⟩
def infosL : List MClassInfo := (List.range 16).map infoAt
theorem infosL_length : infosL.length = 16 := by simp [infosL]
theorem infosL_get {i : Nat} (h : i < 16) : infosL[i]? = some (infoAt i) := by
  rw [infosL, List.getElem?_map, List.getElem?_range h]; rfl
theorem infosL_take (i : Nat) (h : i < 16) : infosL.take (i + 1) = infosL.take i ++ [infoAt i] := by
  rw [List.take_add_one, infosL_get h]; rfl

/-- The class c at place i is right. -/
def ClsAt (l : List MClassInfo) (i : Nat) (c : MClassInfo) : Prop :=
  (i < 16 → c = infoAt i) ∧ (16 ≤ i → nameB c.name = true ∧ (0 ≤ c.parent ∧ c.parent ≤ (i : Int) - 1) ∧ ¬ (5 ≤ c.parent ∧ c.parent ≤ 15) ∧ c.fields.length ≤ 8 ∧ (∀ k e, k < i → l[k]? = some e → e.name ≠ c.name) ∧
    (∀ p, l[c.parent.toNat]? = some p → p.fields.length ≤ c.fields.length ∧ c.fields.take p.fields.length = p.fields) ∧ (∀ k f, c.fields[k]? = some f → nameB f = true ∧ f ∉ c.fields.take k))
def ClsOk (l : List MClassInfo) : Prop := (16 ≤ l.length ∧ l.length ≤ 24) ∧ ∀ i c, l[i]? = some c → ClsAt l i c
noncomputable def clsB (l : List MClassInfo) : Bool := eqB (ClsOk l) True
theorem clsB_tt {l : List MClassInfo} (h : ClsOk l) : clsB l = true := eqB_tt (by simp [h])
theorem clsB_ff {l : List MClassInfo} (h : ¬ ClsOk l) : clsB l = false := eqB_ff (by simp [h])
theorem clsB_iff {l : List MClassInfo} : clsB l = true ↔ ClsOk l := by simp [clsB, eqB_iff]
/-- A parent stands ahead of its class. -/
theorem ClsOk.parent {l : List MClassInfo} (h : ClsOk l) {i : Nat} {c : MClassInfo} (hc : l[i]? = some c) : -1 ≤ c.parent ∧ c.parent < i := by
  obtain ⟨h1, h2⟩ := h.2 i c hc
  by_cases hi : i < 16
  · rw [h1 hi]
    have : ∀ j, j < 16 → -1 ≤ parentsL.getD j 0 ∧ parentsL.getD j 0 < (j : Int) := by decide
    exact this i hi
  · obtain ⟨-, ⟨p0, p1⟩, -⟩ := h2 (by omega)
    omega

/-- A class is Exception or below it. -/
inductive Isa (l : List MClassInfo) : Int → Prop
  | here : Isa l 1
  | up {k : Int} {c : MClassInfo} (h0 : 0 ≤ k) (hc : l[k.toNat]? = some c) (h : Isa l c.parent) : Isa l k
noncomputable def isaB (l : List MClassInfo) (k : Int) : Bool := eqB (Isa l k) True
theorem isaB_one (l : List MClassInfo) : isaB l 1 = true := eqB_tt (by simp [Isa.here])
theorem Isa.ge {l : List MClassInfo} {k : Int} (h : Isa l k) : 0 ≤ k := by cases h <;> omega
theorem isaB_neg {l : List MClassInfo} {k : Int} (h : ¬ 0 ≤ k) : isaB l k = false := eqB_ff (by simp; exact fun e => h e.ge)
theorem isaB_up {l : List MClassInfo} {k : Int} {c : MClassInfo} (h0 : 0 ≤ k) (h1 : ¬ k = 1) (hc : l[k.toNat]? = some c) : isaB l k = isaB l c.parent := by
  unfold isaB
  congr 1
  apply propext
  constructor
  · intro h
    cases h with
    | here => exact absurd rfl h1
    | up _ hc' h =>
      rw [hc] at hc'; injection hc' with e; subst e; exact h
  · exact fun h => .up h0 hc h

end Go.Proofs.YticdmbmjlaomiaaGreatDoor
