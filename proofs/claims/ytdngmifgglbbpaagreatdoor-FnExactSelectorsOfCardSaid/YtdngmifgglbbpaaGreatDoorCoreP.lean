/-
  CONTRACTS: none: plain facts of core trees that are right.
  Conditions: those that each lemma states.
-/
import Derived.Test.YtdngmifgglbbpaaGreatDoorRows
import Derived.Test.YtdngmifgglbbpaaGreatDoorFnCore
namespace Go.Proofs.YtdngmifgglbbpaaGreatDoor
open Go.RowKit
set_option linter.unusedSimpArgs false
set_option linter.unusedVariables false

/-- The parameters and slots of the methods and blocks around a node, the innermost last. -/
abbrev Fr := List (Int × Int)
def frD (F : Fr) : D := .sl 2 (F.map fun f => .st [.int f.1, .int f.2])
def frAt (F : Fr) (d : Int) : Int × Int := F.getD (F.length - 1 - d.toNat) (0, 0)
def FrOk (F : Fr) : Prop := F ≠ [] ∧ ∀ f, f ∈ F → 0 ≤ f.1 ∧ f.1 ≤ f.2 ∧ f.2 ≤ 30
def inR (a b n : Int) : Bool := decide (a ≤ n ∧ n ≤ b)
def emptyT (s : ByteArray) : Bool := decide (s = ⟨#[]⟩)
noncomputable def tI (x : MCore) : Bool :=
  if x.kind = 2 then textB 40 x.text else if x.kind = 3 ∨ x.kind = 13 ∨ x.kind = 14 then selB x.text else if x.kind = 10 ∨ x.kind = 11 then nameB x.text else false
def nI (K : Int) (F : Fr) (x : MCore) : Bool :=
  if x.kind = 1 then inR 0 999999999 x.number
  else if x.kind = 8 then inR 0 ((frAt F x.depth).2 - 1) x.number
  else if x.kind = 9 then inR (frAt F x.depth).1 ((frAt F x.depth).2 - 1) x.number
  else if x.kind = 12 ∨ x.kind = 14 then inR 0 (K - 1) x.number
  else if x.kind = 16 then true
  else if x.kind = 20 then inR 0 1 x.number
  else if x.kind = 21 then inR (frAt F 0).1 ((frAt F 0).2 - 1) x.number
  else false
def dI (x : MCore) : Bool := decide (x.kind = 8 ∨ x.kind = 9 ∨ x.kind = 16)
noncomputable def kI (x : MCore) : Int :=
  if x.kind = 9 ∨ x.kind = 11 ∨ x.kind = 16 ∨ x.kind = 18 then 1
  else if x.kind = 13 then argsB x.text + 1
  else if x.kind = 14 then argsB x.text
  else if x.kind = 17 then max 2 (x.kids.length : Int)
  else if x.kind = 19 ∨ x.kind = 21 then 3
  else if x.kind = 20 then 2
  else 0
def txK (k : Int) : Bool := decide (k = 2 ∨ k = 3 ∨ k = 10 ∨ k = 11 ∨ k = 13 ∨ k = 14)
def nuK (k : Int) : Bool := decide (k = 1 ∨ k = 12 ∨ k = 14 ∨ k = 20 ∨ k = 21)
/-- What is asked at once. -/
def eI (K : Int) (F : Fr) (x : MCore) : Prop :=
  (1 ≤ x.kind ∧ x.kind ≤ 21) ∧ ((x.kind = 8 ∨ x.kind = 9) → inR 0 ((F.length : Int) - 1) x.depth = true ∧ nI K F x = true) ∧ (x.kind = 16 → inR 0 30 x.depth = true ∧ inR 0 x.depth x.number = true)
/-- What is asked then, the kids aside. -/
def gI (x : MCore) (t n d : Bool) (k : Int) : Prop :=
  (x.kids.length : Int) = k ∧ (t = true ∨ (x.text = ⟨#[]⟩ ∧ txK x.kind = false)) ∧ (n = true ∨ (x.number = 0 ∧ nuK x.kind = false)) ∧ (d = true ∨ x.depth = 0)
def frIn (F : Fr) (x : MCore) : Fr := if x.kind = 16 then F ++ [(x.number, x.depth)] else F
def msgC (m : MCore) : Prop := m.kind = 13 ∧ m.number = 0 ∧ m.depth = 0 ∧ argsB m.text = (m.kids.length : Int)
def cascH (x : MCore) : Prop := 2 ≤ x.kids.length ∧ x.text = ⟨#[]⟩ ∧ x.number = 0 ∧ x.depth = 0
/-- A right core tree; n: fuel. -/
def okN : Nat → Int → Fr → MCore → Prop
  | 0, _, _, _ => False
  | n + 1, K, F, x =>
    (x.kind = 15 → cascH x ∧ (∀ z, z ∈ x.kids.take 1 → okN n K F z) ∧ ∀ m, m ∈ x.kids.tail → msgC m ∧ ∀ z, z ∈ m.kids → okN n K F z) ∧
    (x.kind ≠ 15 → eI K F x ∧ gI x (tI x) (nI K F x) (dI x) (kI x) ∧ ∀ z, z ∈ x.kids → okN n K (frIn F x) z)
theorem okN_casc {n : Nat} {K : Int} {F : Fr} {x : MCore} (h : x.kind = 15) : okN (n + 1) K F x ↔ cascH x ∧ (∀ z, z ∈ x.kids.take 1 → okN n K F z) ∧ ∀ m, m ∈ x.kids.tail → msgC m ∧ ∀ z, z ∈ m.kids → okN n K F z := by
  show ((_ → _) ∧ (_ → _)) ↔ _
  constructor
  · intro g; exact g.1 h
  · intro g; exact ⟨fun _ => g, fun e => absurd h e⟩
theorem okN_node {n : Nat} {K : Int} {F : Fr} {x : MCore} (h : x.kind ≠ 15) : okN (n + 1) K F x ↔ eI K F x ∧ gI x (tI x) (nI K F x) (dI x) (kI x) ∧ ∀ z, z ∈ x.kids → okN n K (frIn F x) z := by
  show ((_ → _) ∧ (_ → _)) ↔ _
  constructor
  · intro g; exact g.2 h
  · intro g; exact ⟨fun e => absurd e h, fun _ => g⟩

theorem inR_iff {a b n : Int} : inR a b n = true ↔ a ≤ n ∧ n ≤ b := by simp [inR]
theorem frOk_in {F : Fr} {x : MCore} (h : FrOk F) (hx : x.kind = 16 → 0 ≤ x.number ∧ x.number ≤ x.depth ∧ x.depth ≤ 30) : FrOk (frIn F x) := by
  unfold frIn
  split
  · rename_i e
    refine ⟨by simp, fun f hf => ?_⟩
    rcases List.mem_append.1 hf with hf | hf
    · exact h.2 f hf
    · simp at hf; subst hf; exact hx e
  · exact h
theorem frAt_ok {F : Fr} (h : FrOk F) (d : Int) : 0 ≤ (frAt F d).1 ∧ (frAt F d).1 ≤ (frAt F d).2 ∧ (frAt F d).2 ≤ 30 := by
  unfold frAt
  have hl : 0 < F.length := List.length_pos_iff.2 h.1
  have hi : F.length - 1 - d.toNat < F.length := by omega
  rw [List.getD_eq_getElem?_getD, List.getElem?_eq_getElem hi]
  exact h.2 _ (List.getElem_mem hi)
theorem sel_args {s : ByteArray} : selB s = true ↔ 0 ≤ argsB s := by
  unfold selB argsB
  cases hasB opsL s <;> cases nameB s <;> cases kwB s <;> simp

end Go.Proofs.YtdngmifgglbbpaaGreatDoor
