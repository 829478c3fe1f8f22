/-
  CONTRACTS: what FnTexts asks of BasicMessage.
  Conditions: those that each lemma states.
-/
import Derived.Test.YtdngmifgglbbpaaGreatDoorRows
import Derived.Test.YtdngmifgglbbpaaGreatDoorFnDivP
namespace Go.Proofs.YtdngmifgglbbpaaGreatDoor
open Go.RowKit
set_option linter.unusedSimpArgs false
set_option linter.unusedVariables false

theorem text_app {a b : ByteArray} (ha : textB 200 a = true) (hb : textB 200 b = true) (hs : a.size + b.size ≤ 200) : textB 200 (a ++ b) = true := by
  have h1 := (textB_iff.1 ha).1
  have h2 := (textB_iff.1 hb).1
  refine textB_tt ⟨fun x hx => ?_, by rw [ByteArray.size_append]; exact hs⟩
  have : (a ++ b).data.toList = a.data.toList ++ b.data.toList := by rw [ByteArray.data_append]; simp
  rw [this] at hx
  rcases List.mem_append.1 hx with h | h
  · exact h1 x h
  · exact h2 x h
theorem args_nm {s : ByteArray} (h1 : hasB opsL s = false) (h2 : nameB s = true) : argsB s = 0 := by simp [argsB, h1, h2]
theorem nm_of {s : ByteArray} (h1 : partB s = true) (h2 : hasB wordsL s = false) : nameB s = true := by simp [nameB, h1, h2]
theorem args_size : argsB ⟨#[115, 105, 122, 101]⟩ = 0 := args_nm (hasB_ff (by simp [opsL])) (nm_of (by decide) (hasB_ff (by simp [wordsL])))
theorem args_asSymbol : argsB ⟨#[97, 115, 83, 121, 109, 98, 111, 108]⟩ = 0 := args_nm (hasB_ff (by simp [opsL])) (nm_of (by decide) (hasB_ff (by simp [wordsL])))
theorem args_asString : argsB ⟨#[97, 115, 83, 116, 114, 105, 110, 103]⟩ = 0 := args_nm (hasB_ff (by simp [opsL])) (nm_of (by decide) (hasB_ff (by simp [wordsL])))
theorem arg_none {s : ByteArray} (h : argsB s = 0) : argB s [] = true := argB_tt ⟨by rw [h]; rfl, fun a ha => by cases ha⟩
theorem bt_comma {a b : ByteArray} (ha : textB 200 a = true) (hb : textB 200 b = true) (hs : a.size + b.size ≤ 200) : basicR (textV a) ⟨#[44]⟩ [textV b] = ⟨0, ⟨3, 0, a ++ b⟩, ⟨#[]⟩⟩ := by
  rw [basic_yes (valueB_tt (text_ok ha)) (by simp [textV]) (arg_one (args_op (hasB_tt (by simp [opsL]))) (text_ok hb))]
  unfold applyR
  rw [if_neg (by simp [textV]), if_neg (by simp [textV]), if_pos (by simp [textV])]
  unfold textR
  rw [if_neg (by decide), if_neg (by decide), if_neg (by decide), if_neg (by decide), if_pos rfl, hd_one, if_pos (by simp [textV]), if_pos (by simp [textV]; exact hs)]
  simp [doneR, textV]
theorem text_ok3 {s : ByteArray} (h : textB 200 s = true) : ValOk ⟨3, 0, s⟩ := text_ok h
theorem bt_size {t : ByteArray} (ht : textB 200 t = true) : basicR ⟨3, 0, t⟩ ⟨#[115, 105, 122, 101]⟩ [] = ⟨0, ⟨2, t.size, ⟨#[]⟩⟩, ⟨#[]⟩⟩ := by
  rw [basic_yes (valueB_tt (text_ok3 ht)) (by simp) (arg_none args_size)]
  unfold applyR
  rw [if_neg (by simp), if_neg (by simp), if_pos (by simp)]
  unfold textR
  rw [if_pos rfl]
  simp [doneR, intV]
theorem bt_at {t : ByteArray} (ht : textB 200 t = true) {i : Nat} (hi : i < t.size) : basicR ⟨3, 0, t⟩ ⟨#[97, 116, 58]⟩ [⟨2, (i : Int) + 1, ⟨#[]⟩⟩] = ⟨0, ⟨3, 0, t.extract i (i + 1)⟩, ⟨#[]⟩⟩ := by
  have hz := (textB_iff.1 ht).2
  have h1 : ValOk (⟨2, (i : Int) + 1, ⟨#[]⟩⟩ : MValue) := int_ok (by omega) (by omega)
  rw [basic_yes (valueB_tt (text_ok3 ht)) (by simp) (arg_one args_at h1)]
  unfold applyR
  rw [if_neg (by simp), if_neg (by simp), if_pos (by simp)]
  unfold textR
  rw [if_neg (by decide), if_neg (by decide), if_neg (by decide), if_pos rfl, hd_one, if_pos ⟨rfl, decide_eq_true ⟨by show (1 : Int) ≤ (i : Int) + 1; omega, by show (i : Int) + 1 ≤ t.size; omega⟩⟩]
  have h2 : (⟨2, (i : Int) + 1, ⟨#[]⟩⟩ : MValue).number.toNat = i + 1 := by simp
  rw [h2]
  simp [doneR, textV]
theorem bt_sym {t : ByteArray} (ht : textB 200 t = true) (hs : selB t = true) : basicR ⟨3, 0, t⟩ ⟨#[97, 115, 83, 121, 109, 98, 111, 108]⟩ [] = ⟨0, ⟨4, 0, t⟩, ⟨#[]⟩⟩ := by
  rw [basic_yes (valueB_tt (text_ok3 ht)) (by simp) (arg_none args_asSymbol)]
  unfold applyR
  rw [if_neg (by simp), if_neg (by simp), if_pos (by simp)]
  unfold textR
  rw [if_neg (by decide), if_pos rfl, if_pos hs]
  simp [doneR, symV]
theorem bt_nosym {t : ByteArray} (ht : textB 200 t = true) (hs : selB t = false) : basicR ⟨3, 0, t⟩ ⟨#[97, 115, 83, 121, 109, 98, 111, 108]⟩ [] = ⟨2, ⟨0, 0, ⟨#[]⟩⟩, ⟨#[110, 111, 116, 32, 97, 32, 115, 101, 108, 101, 99, 116, 111, 114]⟩⟩ := by
  rw [basic_yes (valueB_tt (text_ok3 ht)) (by simp) (arg_none args_asSymbol)]
  unfold applyR
  rw [if_neg (by simp), if_neg (by simp), if_pos (by simp)]
  unfold textR
  rw [if_neg (by decide), if_pos rfl, if_neg (by rw [hs]; simp)]
  simp [wrongR, nilV]
theorem bt_back {t : ByteArray} (hs : selB t = true) : basicR ⟨4, 0, t⟩ ⟨#[97, 115, 83, 116, 114, 105, 110, 103]⟩ [] = ⟨0, ⟨3, 0, t⟩, ⟨#[]⟩⟩ := by
  rw [basic_yes (valueB_tt (Or.inr (Or.inr (Or.inr (Or.inr (Or.inl ⟨rfl, rfl, hs⟩)))))) (by simp) (arg_none args_asString)]
  unfold applyR
  rw [if_neg (by simp), if_neg (by simp), if_neg (by simp), if_pos ⟨rfl, rfl⟩]
  simp [doneR, textV]
theorem bt_noback : basicR ⟨0, 0, ⟨#[]⟩⟩ ⟨#[97, 115, 83, 116, 114, 105, 110, 103]⟩ [] = ⟨1, ⟨0, 0, ⟨#[]⟩⟩, ⟨#[]⟩⟩ := by
  rw [basic_yes (valueB_tt (Or.inl ⟨rfl, rfl, rfl⟩)) (by simp) (arg_none args_asString)]
  unfold applyR
  rw [if_neg (by simp), if_neg (by simp), if_neg (by simp), if_neg (by simp)]
  simp [missR, nilV]

end Go.Proofs.YtdngmifgglbbpaaGreatDoor
