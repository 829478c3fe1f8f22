/-
  CONTRACTS: BasicMessage, of the program and of the reference.
  Conditions: those that each lemma states.
-/
import Derived.Test.YtdngmifgglbbpaaGreatDoorRows
import Derived.Test.YtdngmifgglbbpaaGreatDoorFnBasicJ
import Derived.Test.YtdngmifgglbbpaaGreatDoorFnBasicK
import Derived.Test.YtdngmifgglbbpaaGreatDoorFnBasicT
namespace Go.Proofs.YtdngmifgglbbpaaGreatDoor
open Go.RowKit
set_option linter.unusedSimpArgs false
set_option linter.unusedVariables false

noncomputable def boolR (a : Bool) (s : ByteArray) (args : List MValue) : MResult :=
  if s = ⟨#[110, 111, 116]⟩ then doneR (boolV (!a)) else if s = ⟨#[38]⟩ then (if (hdV args).kind = 1 then doneR (boolV (a && ((hdV args).number == 1))) else wrongR ⟨#[110, 111, 116, 32, 97, 32, 98, 111, 111, 108, 101, 97, 110]⟩) else missR
noncomputable def applyR (v : MValue) (s : ByteArray) (args : List MValue) : MResult :=
  if v.kind = 1 then boolR (v.number == 1) s args else if v.kind = 2 then intR v.number s args else if v.kind = 3 then textR v.text s args else if v.kind = 4 ∧ s = ⟨#[97, 115, 83, 116, 114, 105, 110, 103]⟩ then doneR (textV v.text) else missR
def ArgOk (s : ByteArray) (args : List MValue) : Prop := argsB s = args.length ∧ ∀ a, a ∈ args → ValOk a
noncomputable def argB (s : ByteArray) (args : List MValue) : Bool := eqB (ArgOk s args) True
theorem argB_tt {s : ByteArray} {args : List MValue} (h : ArgOk s args) : argB s args = true := eqB_tt (by simp [h])
theorem argB_ff {s : ByteArray} {args : List MValue} (h : ¬ ArgOk s args) : argB s args = false := eqB_ff (by simp [h])
theorem argB_iff {s : ByteArray} {args : List MValue} : argB s args = true ↔ ArgOk s args := by simp [argB, eqB_iff]
/-- What BasicMessage gives. -/
noncomputable def basicR (v : MValue) (s : ByteArray) (args : List MValue) : MResult := if valueB v = true ∧ v.kind ≤ 4 ∧ argB s args = true then applyR v s args else missR
theorem basic_no {v : MValue} {s : ByteArray} {args : List MValue} (h : ¬ (valueB v = true ∧ v.kind ≤ 4 ∧ argB s args = true)) : missR = basicR v s args := by unfold basicR; rw [if_neg h]
theorem basic_yes {v : MValue} {s : ByteArray} {args : List MValue} (h1 : valueB v = true) (h2 : v.kind ≤ 4) (h3 : argB s args = true) : basicR v s args = applyR v s args := by unfold basicR; rw [if_pos ⟨h1, h2, h3⟩]
theorem val_bool {v : MValue} (h : ValOk v) (hk : v.kind = 1) : v.number = 0 ∨ v.number = 1 := by
  rcases h with h | h | h | h | h | h
  · omega
  · omega
  · omega
  · omega
  · omega
  · omega
theorem val_kind {v : MValue} (h : ValOk v) (hk : v.kind ≤ 4) : v.kind = 0 ∨ v.kind = 1 ∨ v.kind = 2 ∨ v.kind = 3 ∨ v.kind = 4 := by
  rcases h with h | h | h | h | h | h <;> omega

end Go.Proofs.YtdngmifgglbbpaaGreatDoor
