/-
  SEVERAL TEXTS IN ONE: THE PROGRAM's TYPES AS PLAIN DATA; MORE LEMMAS on plain data in memory.
  Conditions: those that each lemma states.
-/
import Derived.Test.YtndhpbjhkgdieaaGreatDoorP00
namespace Go.Proofs.YtndhpbjhkgdieaaGreatDoor
open Go.RowKit
set_option maxHeartbeats 8000000
set_option maxRecDepth 100000
set_option linter.unusedSimpArgs false
set_option linter.unusedVariables false
structure MToken where
 kind : Int
 text : ByteArray
 number : Int
def MToken.d (x : MToken) : D := .st [.int x.kind, .str x.text, .int x.number]
theorem MToken.d_eq (x : MToken) : x.d = .st [.int x.kind, .str x.text, .int x.number] := rfl
def MTokens (l : List MToken) : D := .sl 3 (l.map MToken.d)
theorem MToken.op_en {w : World} {x : MToken} {cs : List Value} (h : Rep w x.d cs) : cs = [.int .i64 x.kind, .string x.text, .int .i64 x.number] := by
 obtain ⟨fp, h⟩ := h
 rw [MToken.d_eq] at h
 have h0 := RepF.un_st h
 clear h
 obtain ⟨cs1, rfl, h1⟩ := RepS.un_int h0
 clear h0
 obtain ⟨cs2, rfl, h2⟩ := RepS.un_str h1
 clear h1
 obtain ⟨cs3, rfl, h3⟩ := RepS.un_int h2
 clear h2
 have h := h3
 obtain ⟨rfl, rfl⟩ := h
 rfl
theorem MToken.shut {w : World} {x : MToken}  : RepF w x.d (.int .i64 x.kind :: (.string x.text :: (.int .i64 x.number :: ([])))) ([]) := by
 rw [MToken.d_eq]
 exact RepF.st (.int _ (.str _ (.int _ (.nil _))))
structure MExpr where
 kind : Int
 text : ByteArray
 number : Int
 names : List ByteArray
 kids : List MExpr
mutual
def MExpr.d : MExpr -> D
 | ⟨kind, text, number, names, kids⟩ => .st [.int kind, .str text, .int number, strs names, .sl 5 (MExpr.dl kids)]
def MExpr.dl : List MExpr -> List D
 | [] => []
 | x :: xs => x.d :: MExpr.dl xs
end
theorem MExpr.dl_eq (l : List MExpr) : MExpr.dl l = l.map MExpr.d := by
 induction l with
 | nil => simp [MExpr.dl]
 | cons x xs ih => simp [MExpr.dl, ih]
def MExprs (l : List MExpr) : D := .sl 5 (l.map MExpr.d)
theorem MExpr.d_eq (x : MExpr) : x.d = .st [.int x.kind, .str x.text, .int x.number, strs x.names, MExprs x.kids] := by
 obtain ⟨kind, text, number, names, kids⟩ := x
 rw [MExpr.d, MExpr.dl_eq]; rfl
theorem MExpr.kid_lt {x k : MExpr} (h : k ∈ x.kids) : SizeOf.sizeOf k < SizeOf.sizeOf x := by
 obtain ⟨_, _, _, _, _⟩ := x
 have := List.sizeOf_lt_of_mem h
 simp only [MExpr.mk.sizeOf_spec]
 simp at this
 omega
theorem MExpr.op_en {w : World} {x : MExpr} {cs : List Value} (h : Rep w x.d cs) : ∃ a_x_names c_x_names, ∃ a_x_kids c_x_kids, cs = [.int .i64 x.kind, .string x.text, .int .i64 x.number, .slice a_x_names x.names.length c_x_names, .slice a_x_kids x.kids.length c_x_kids] /\ Rep w (strs x.names) [.slice a_x_names x.names.length c_x_names] /\ Rep w (MExprs x.kids) [.slice a_x_kids x.kids.length c_x_kids] := by
 obtain ⟨fp, h⟩ := h
 rw [MExpr.d_eq] at h
 have h0 := RepF.un_st h
 clear h
 obtain ⟨cs1, rfl, h1⟩ := RepS.un_int h0
 clear h0
 obtain ⟨cs2, rfl, h2⟩ := RepS.un_str h1
 clear h1
 obtain ⟨cs3, rfl, h3⟩ := RepS.un_int h2
 clear h2
 obtain ⟨a_x_names, c_x_names, cs4, _, _, rfl, rfl, r_names, h4⟩ := RepS.un_sl h3
 simp only [List.length_map] at r_names
 clear h3
 obtain ⟨a_x_kids, c_x_kids, cs5, _, _, rfl, rfl, r_kids, h5⟩ := RepS.un_sl h4
 simp only [List.length_map] at r_kids
 clear h4
 have h := h5
 obtain ⟨rfl, rfl⟩ := h
 exact ⟨_, _, _, _, by first | rfl | (simp only [List.length_map]; done) | (simp only [List.length_map]; rfl), r_names.rep, r_kids.rep⟩
theorem MExpr.shut {w : World} {x : MExpr} {v_names : Value} {f_names : List Nat} (h_names : RepF w (strs x.names) [v_names] f_names) {v_kids : Value} {f_kids : List Nat} (h_kids : RepF w (MExprs x.kids) [v_kids] f_kids) : RepF w x.d (.int .i64 x.kind :: (.string x.text :: (.int .i64 x.number :: (v_names :: (v_kids :: ([])))))) (f_names ++ (f_kids ++ ([]))) := by
 rw [MExpr.d_eq]
 exact RepF.st (.int _ (.str _ (.int _ (.one h_names (.one h_kids (.nil _))))))
theorem ret_str {a b : ByteArray} (h : a = b) : Ending.returned (.string a) = .returned (.string b) := by rw [h]
theorem own_new (w : World) (C : Array Value) (e : TypeId) : Own (w.alloc (.cells C e)) w.heap.size e C := heap_alloc_new w _
theorem repR_strs (w : World) : ∀ l : List ByteArray, RepR w 1 (l.map D.str) (l.map Value.string) []
 | [] => by simp [RepR]
 | s :: l => by
  simp only [List.map_cons, RepR]
  exact ⟨[.string s], _, [], [], rfl, rfl, rfl, by simp [RepF], repR_strs w l⟩
theorem gives_strs (w : World) (l : List ByteArray) (e : TypeId) (hl : l.length <= maxLen) (h0 : l ≠ []) :
 GivesV w (strs l) (.returned (.slice (some ⟨w.heap.size, 0, none⟩) l.length l.length)) (w.alloc (.cells (l.map Value.string).toArray e)) := by
 refine ⟨_, _, _, [w.heap.size], rfl, ?_, ⟨by simp, by simp, fun b hb => ?_⟩, (XR w).alloc _⟩
 · refine RepF.sl_iff.2 ⟨_, _, by simp, by simp, hl, by simp, Or.inr ⟨w.heap.size, 0, l.map Value.string, [], by simpa using h0, rfl, rfl, (own_new w _ e).lt, fun j c hc => ?_, repR_strs _ l⟩⟩
   rw [Nat.zero_add, (own_new w _ e).cell]
   simpa using hc
 · simp at hb; subst hb; exact ⟨_, _, own_new w _ e⟩
theorem str_ne' {a : ByteArray} {l : List UInt8} (h : ¬ a = ⟨l.toArray⟩) : (a.toList == l) = false := by
 have := str_ne h
 rwa [show (⟨l.toArray⟩ : ByteArray).toList = l from by simp [ByteArray.toList_eq]] at this
theorem str_eq' {a : ByteArray} {l : List UInt8} (h : a = ⟨l.toArray⟩) : (a.toList == l) = true := by
 have := str_eq h
 rwa [show (⟨l.toArray⟩ : ByteArray).toList = l from by simp [ByteArray.toList_eq]] at this
end Go.Proofs.YtndhpbjhkgdieaaGreatDoor
