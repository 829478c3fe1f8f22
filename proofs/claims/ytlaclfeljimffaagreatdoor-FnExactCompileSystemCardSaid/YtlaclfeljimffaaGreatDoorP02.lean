/-
  SEVERAL TEXTS IN ONE: THE PROGRAM's TYPES AS PLAIN DATA; MORE LEMMAS on plain data in memory; CONTRACTS: letters, digits, names, of the program and of the reference; A TEXT CUT AT A BYTE: plain laws.
  Conditions: those that each lemma states.
-/
import Derived.Test.YtlaclfeljimffaaGreatDoorRows
import Derived.Lib.SplitLaws
import Derived.Test.YtlaclfeljimffaaGreatDoorP00
namespace Go.Proofs.YtlaclfeljimffaaGreatDoor
open Go.RowKit
set_option maxHeartbeats 8000000
set_option maxRecDepth 100000
set_option linter.unusedSimpArgs false
set_option linter.unusedVariables false
structure MClassInfo where
 name : ByteArray
 parent : Int
 fields : List ByteArray
def MClassInfo.d (x : MClassInfo) : D := .st [.str x.name, .int x.parent, strs x.fields]
theorem MClassInfo.d_eq (x : MClassInfo) : x.d = .st [.str x.name, .int x.parent, strs x.fields] := rfl
def MClassInfos (l : List MClassInfo) : D := .sl 3 (l.map MClassInfo.d)
theorem MClassInfo.op_en {w : World} {x : MClassInfo} {cs : List Value} (h : Rep w x.d cs) : ∃ a_x_fields c_x_fields, cs = [.string x.name, .int .i64 x.parent, .slice a_x_fields x.fields.length c_x_fields] /\ Rep w (strs x.fields) [.slice a_x_fields x.fields.length c_x_fields] := by
 obtain ⟨fp, h⟩ := h
 rw [MClassInfo.d_eq] at h
 have h0 := RepF.un_st h
 clear h
 obtain ⟨cs1, rfl, h1⟩ := RepS.un_str h0
 clear h0
 obtain ⟨cs2, rfl, h2⟩ := RepS.un_int h1
 clear h1
 obtain ⟨a_x_fields, c_x_fields, cs3, _, _, rfl, rfl, r_fields, h3⟩ := RepS.un_sl h2
 simp only [List.length_map] at r_fields
 clear h2
 have h := h3
 obtain ⟨rfl, rfl⟩ := h
 exact ⟨_, _, by first | rfl | (simp only [List.length_map]; done) | (simp only [List.length_map]; rfl), r_fields.rep⟩
theorem MClassInfo.shut {w : World} {x : MClassInfo} {v_fields : Value} {f_fields : List Nat} (h_fields : RepF w (strs x.fields) [v_fields] f_fields) : RepF w x.d (.string x.name :: (.int .i64 x.parent :: (v_fields :: ([])))) (f_fields ++ ([])) := by
 rw [MClassInfo.d_eq]
 exact RepF.st (.str _ (.int _ (.one h_fields (.nil _))))
structure MCore where
 kind : Int
 text : ByteArray
 number : Int
 depth : Int
 kids : List MCore
mutual
def MCore.d : MCore -> D
 | ⟨kind, text, number, depth, kids⟩ => .st [.int kind, .str text, .int number, .int depth, .sl 5 (MCore.dl kids)]
def MCore.dl : List MCore -> List D
 | [] => []
 | x :: xs => x.d :: MCore.dl xs
end
theorem MCore.dl_eq (l : List MCore) : MCore.dl l = l.map MCore.d := by
 induction l with
 | nil => simp [MCore.dl]
 | cons x xs ih => simp [MCore.dl, ih]
def MCores (l : List MCore) : D := .sl 5 (l.map MCore.d)
theorem MCore.d_eq (x : MCore) : x.d = .st [.int x.kind, .str x.text, .int x.number, .int x.depth, MCores x.kids] := by
 obtain ⟨kind, text, number, depth, kids⟩ := x
 rw [MCore.d, MCore.dl_eq]; rfl
theorem MCore.kid_lt {x k : MCore} (h : k ∈ x.kids) : SizeOf.sizeOf k < SizeOf.sizeOf x := by
 obtain ⟨_, _, _, _, _⟩ := x
 have := List.sizeOf_lt_of_mem h
 simp only [MCore.mk.sizeOf_spec]
 simp at this
 omega
theorem MCore.op_en {w : World} {x : MCore} {cs : List Value} (h : Rep w x.d cs) : ∃ a_x_kids c_x_kids, cs = [.int .i64 x.kind, .string x.text, .int .i64 x.number, .int .i64 x.depth, .slice a_x_kids x.kids.length c_x_kids] /\ Rep w (MCores x.kids) [.slice a_x_kids x.kids.length c_x_kids] := by
 obtain ⟨fp, h⟩ := h
 rw [MCore.d_eq] at h
 have h0 := RepF.un_st h
 clear h
 obtain ⟨cs1, rfl, h1⟩ := RepS.un_int h0
 clear h0
 obtain ⟨cs2, rfl, h2⟩ := RepS.un_str h1
 clear h1
 obtain ⟨cs3, rfl, h3⟩ := RepS.un_int h2
 clear h2
 obtain ⟨cs4, rfl, h4⟩ := RepS.un_int h3
 clear h3
 obtain ⟨a_x_kids, c_x_kids, cs5, _, _, rfl, rfl, r_kids, h5⟩ := RepS.un_sl h4
 simp only [List.length_map] at r_kids
 clear h4
 have h := h5
 obtain ⟨rfl, rfl⟩ := h
 exact ⟨_, _, by first | rfl | (simp only [List.length_map]; done) | (simp only [List.length_map]; rfl), r_kids.rep⟩
theorem MCore.shut {w : World} {x : MCore} {v_kids : Value} {f_kids : List Nat} (h_kids : RepF w (MCores x.kids) [v_kids] f_kids) : RepF w x.d (.int .i64 x.kind :: (.string x.text :: (.int .i64 x.number :: (.int .i64 x.depth :: (v_kids :: ([])))))) (f_kids ++ ([])) := by
 rw [MCore.d_eq]
 exact RepF.st (.int _ (.str _ (.int _ (.int _ (.one h_kids (.nil _))))))
structure MRoutine where
 selector : ByteArray
 owner : Int
 cls : Bool
 params : Int
 slots : Int
 body : MCore
def MRoutine.d (x : MRoutine) : D := .st [.str x.selector, .int x.owner, .bool x.cls, .int x.params, .int x.slots, x.body.d]
theorem MRoutine.d_eq (x : MRoutine) : x.d = .st [.str x.selector, .int x.owner, .bool x.cls, .int x.params, .int x.slots, x.body.d] := rfl
def MRoutines (l : List MRoutine) : D := .sl 10 (l.map MRoutine.d)
theorem MRoutine.op_en {w : World} {x : MRoutine} {cs : List Value} (h : Rep w x.d cs) : ∃ a_x_body_kids c_x_body_kids, cs = [.string x.selector, .int .i64 x.owner, .bool x.cls, .int .i64 x.params, .int .i64 x.slots, .int .i64 x.body.kind, .string x.body.text, .int .i64 x.body.number, .int .i64 x.body.depth, .slice a_x_body_kids x.body.kids.length c_x_body_kids] /\ Rep w (MCores x.body.kids) [.slice a_x_body_kids x.body.kids.length c_x_body_kids] /\ Rep w x.body.d [.int .i64 x.body.kind, .string x.body.text, .int .i64 x.body.number, .int .i64 x.body.depth, .slice a_x_body_kids x.body.kids.length c_x_body_kids] := by
 obtain ⟨fp, h⟩ := h
 rw [MRoutine.d_eq] at h
 have h0 := RepF.un_st h
 clear h
 obtain ⟨cs1, rfl, h1⟩ := RepS.un_str h0
 clear h0
 obtain ⟨cs2, rfl, h2⟩ := RepS.un_int h1
 clear h1
 obtain ⟨cs3, rfl, h3⟩ := RepS.un_bool h2
 clear h2
 obtain ⟨cs4, rfl, h4⟩ := RepS.un_int h3
 clear h3
 obtain ⟨cs5, rfl, h5⟩ := RepS.un_int h4
 clear h4
 obtain ⟨_, cs6, _, _, rfl, rfl, r_body, h6⟩ := RepS.un_sub h5
 obtain ⟨a_x_body_kids, c_x_body_kids, rfl, r_body_kids⟩ := MCore.op_en r_body.rep
 clear h5
 have h := h6
 obtain ⟨rfl, rfl⟩ := h
 exact ⟨_, _, by first | rfl | (simp only [List.length_map]; done) | (simp only [List.length_map]; rfl), r_body_kids, r_body.rep⟩
theorem MRoutine.shut {w : World} {x : MRoutine} {c_body : List Value} {f_body : List Nat} (h_body : RepF w x.body.d c_body f_body) : RepF w x.d (.string x.selector :: (.int .i64 x.owner :: (.bool x.cls :: (.int .i64 x.params :: (.int .i64 x.slots :: (c_body ++ ([]))))))) (f_body ++ ([])) := by
 rw [MRoutine.d_eq]
 exact RepF.st (.str _ (.int _ (.bool _ (.int _ (.int _ (.sub h_body (.nil _)))))))
structure MSystem where
 classes : List MClassInfo
 routines : List MRoutine
 main : MRoutine
def MSystem.d (x : MSystem) : D := .st [MClassInfos x.classes, MRoutines x.routines, x.main.d]
theorem MSystem.d_eq (x : MSystem) : x.d = .st [MClassInfos x.classes, MRoutines x.routines, x.main.d] := rfl
theorem MSystem.op_en {w : World} {x : MSystem} {cs : List Value} (h : Rep w x.d cs) : ∃ a_x_classes c_x_classes, ∃ a_x_routines c_x_routines, ∃ a_x_main_body_kids c_x_main_body_kids, cs = [.slice a_x_classes x.classes.length c_x_classes, .slice a_x_routines x.routines.length c_x_routines, .string x.main.selector, .int .i64 x.main.owner, .bool x.main.cls, .int .i64 x.main.params, .int .i64 x.main.slots, .int .i64 x.main.body.kind, .string x.main.body.text, .int .i64 x.main.body.number, .int .i64 x.main.body.depth, .slice a_x_main_body_kids x.main.body.kids.length c_x_main_body_kids] /\ Rep w (MClassInfos x.classes) [.slice a_x_classes x.classes.length c_x_classes] /\ Rep w (MRoutines x.routines) [.slice a_x_routines x.routines.length c_x_routines] /\ Rep w (MCores x.main.body.kids) [.slice a_x_main_body_kids x.main.body.kids.length c_x_main_body_kids] /\ Rep w x.main.d [.string x.main.selector, .int .i64 x.main.owner, .bool x.main.cls, .int .i64 x.main.params, .int .i64 x.main.slots, .int .i64 x.main.body.kind, .string x.main.body.text, .int .i64 x.main.body.number, .int .i64 x.main.body.depth, .slice a_x_main_body_kids x.main.body.kids.length c_x_main_body_kids] := by
 obtain ⟨fp, h⟩ := h
 rw [MSystem.d_eq] at h
 have h0 := RepF.un_st h
 clear h
 obtain ⟨a_x_classes, c_x_classes, cs1, _, _, rfl, rfl, r_classes, h1⟩ := RepS.un_sl h0
 simp only [List.length_map] at r_classes
 clear h0
 obtain ⟨a_x_routines, c_x_routines, cs2, _, _, rfl, rfl, r_routines, h2⟩ := RepS.un_sl h1
 simp only [List.length_map] at r_routines
 clear h1
 obtain ⟨_, cs3, _, _, rfl, rfl, r_main, h3⟩ := RepS.un_sub h2
 obtain ⟨a_x_main_body_kids, c_x_main_body_kids, rfl, r_main_body_kids, _⟩ := MRoutine.op_en r_main.rep
 clear h2
 have h := h3
 obtain ⟨rfl, rfl⟩ := h
 exact ⟨_, _, _, _, _, _, by first | rfl | (simp only [List.length_map]; done) | (simp only [List.length_map]; rfl), r_classes.rep, r_routines.rep, r_main_body_kids, r_main.rep⟩
theorem MSystem.shut {w : World} {x : MSystem} {v_classes : Value} {f_classes : List Nat} (h_classes : RepF w (MClassInfos x.classes) [v_classes] f_classes) {v_routines : Value} {f_routines : List Nat} (h_routines : RepF w (MRoutines x.routines) [v_routines] f_routines) {c_main : List Value} {f_main : List Nat} (h_main : RepF w x.main.d c_main f_main) : RepF w x.d (v_classes :: (v_routines :: (c_main ++ ([])))) (f_classes ++ (f_routines ++ (f_main ++ ([])))) := by
 rw [MSystem.d_eq]
 exact RepF.st (.one h_classes (.one h_routines (.sub h_main (.nil _))))
structure MInstr where
 op : Int
 a : Int
 b : Int
 text : ByteArray
def MInstr.d (x : MInstr) : D := .st [.int x.op, .int x.a, .int x.b, .str x.text]
theorem MInstr.d_eq (x : MInstr) : x.d = .st [.int x.op, .int x.a, .int x.b, .str x.text] := rfl
def MInstrs (l : List MInstr) : D := .sl 4 (l.map MInstr.d)
theorem MInstr.op_en {w : World} {x : MInstr} {cs : List Value} (h : Rep w x.d cs) : cs = [.int .i64 x.op, .int .i64 x.a, .int .i64 x.b, .string x.text] := by
 obtain ⟨fp, h⟩ := h
 rw [MInstr.d_eq] at h
 have h0 := RepF.un_st h
 clear h
 obtain ⟨cs1, rfl, h1⟩ := RepS.un_int h0
 clear h0
 obtain ⟨cs2, rfl, h2⟩ := RepS.un_int h1
 clear h1
 obtain ⟨cs3, rfl, h3⟩ := RepS.un_int h2
 clear h2
 obtain ⟨cs4, rfl, h4⟩ := RepS.un_str h3
 clear h3
 have h := h4
 obtain ⟨rfl, rfl⟩ := h
 rfl
theorem MInstr.shut {w : World} {x : MInstr}  : RepF w x.d (.int .i64 x.op :: (.int .i64 x.a :: (.int .i64 x.b :: (.string x.text :: ([]))))) ([]) := by
 rw [MInstr.d_eq]
 exact RepF.st (.int _ (.int _ (.int _ (.str _ (.nil _)))))
structure MCode where
 block : Bool
 params : Int
 slots : Int
 instrs : List MInstr
def MCode.d (x : MCode) : D := .st [.bool x.block, .int x.params, .int x.slots, MInstrs x.instrs]
theorem MCode.d_eq (x : MCode) : x.d = .st [.bool x.block, .int x.params, .int x.slots, MInstrs x.instrs] := rfl
def MCodes (l : List MCode) : D := .sl 4 (l.map MCode.d)
theorem MCode.op_en {w : World} {x : MCode} {cs : List Value} (h : Rep w x.d cs) : ∃ a_x_instrs c_x_instrs, cs = [.bool x.block, .int .i64 x.params, .int .i64 x.slots, .slice a_x_instrs x.instrs.length c_x_instrs] /\ Rep w (MInstrs x.instrs) [.slice a_x_instrs x.instrs.length c_x_instrs] := by
 obtain ⟨fp, h⟩ := h
 rw [MCode.d_eq] at h
 have h0 := RepF.un_st h
 clear h
 obtain ⟨cs1, rfl, h1⟩ := RepS.un_bool h0
 clear h0
 obtain ⟨cs2, rfl, h2⟩ := RepS.un_int h1
 clear h1
 obtain ⟨cs3, rfl, h3⟩ := RepS.un_int h2
 clear h2
 obtain ⟨a_x_instrs, c_x_instrs, cs4, _, _, rfl, rfl, r_instrs, h4⟩ := RepS.un_sl h3
 simp only [List.length_map] at r_instrs
 clear h3
 have h := h4
 obtain ⟨rfl, rfl⟩ := h
 exact ⟨_, _, by first | rfl | (simp only [List.length_map]; done) | (simp only [List.length_map]; rfl), r_instrs.rep⟩
theorem MCode.shut {w : World} {x : MCode} {v_instrs : Value} {f_instrs : List Nat} (h_instrs : RepF w (MInstrs x.instrs) [v_instrs] f_instrs) : RepF w x.d (.bool x.block :: (.int .i64 x.params :: (.int .i64 x.slots :: (v_instrs :: ([]))))) (f_instrs ++ ([])) := by
 rw [MCode.d_eq]
 exact RepF.st (.bool _ (.int _ (.int _ (.one h_instrs (.nil _)))))
structure MEntry where
 owner : Int
 cls : Bool
 selector : ByteArray
 code : Int
def MEntry.d (x : MEntry) : D := .st [.int x.owner, .bool x.cls, .str x.selector, .int x.code]
theorem MEntry.d_eq (x : MEntry) : x.d = .st [.int x.owner, .bool x.cls, .str x.selector, .int x.code] := rfl
def MEntrys (l : List MEntry) : D := .sl 4 (l.map MEntry.d)
theorem MEntry.op_en {w : World} {x : MEntry} {cs : List Value} (h : Rep w x.d cs) : cs = [.int .i64 x.owner, .bool x.cls, .string x.selector, .int .i64 x.code] := by
 obtain ⟨fp, h⟩ := h
 rw [MEntry.d_eq] at h
 have h0 := RepF.un_st h
 clear h
 obtain ⟨cs1, rfl, h1⟩ := RepS.un_int h0
 clear h0
 obtain ⟨cs2, rfl, h2⟩ := RepS.un_bool h1
 clear h1
 obtain ⟨cs3, rfl, h3⟩ := RepS.un_str h2
 clear h2
 obtain ⟨cs4, rfl, h4⟩ := RepS.un_int h3
 clear h3
 have h := h4
 obtain ⟨rfl, rfl⟩ := h
 rfl
theorem MEntry.shut {w : World} {x : MEntry}  : RepF w x.d (.int .i64 x.owner :: (.bool x.cls :: (.string x.selector :: (.int .i64 x.code :: ([]))))) ([]) := by
 rw [MEntry.d_eq]
 exact RepF.st (.int _ (.bool _ (.str _ (.int _ (.nil _)))))
structure MCodeBase where
 classes : List MClassInfo
 codes : List MCode
 entries : List MEntry
 main : Int
def MCodeBase.d (x : MCodeBase) : D := .st [MClassInfos x.classes, MCodes x.codes, MEntrys x.entries, .int x.main]
theorem MCodeBase.d_eq (x : MCodeBase) : x.d = .st [MClassInfos x.classes, MCodes x.codes, MEntrys x.entries, .int x.main] := rfl
theorem MCodeBase.op_en {w : World} {x : MCodeBase} {cs : List Value} (h : Rep w x.d cs) : ∃ a_x_classes c_x_classes, ∃ a_x_codes c_x_codes, ∃ a_x_entries c_x_entries, cs = [.slice a_x_classes x.classes.length c_x_classes, .slice a_x_codes x.codes.length c_x_codes, .slice a_x_entries x.entries.length c_x_entries, .int .i64 x.main] /\ Rep w (MClassInfos x.classes) [.slice a_x_classes x.classes.length c_x_classes] /\ Rep w (MCodes x.codes) [.slice a_x_codes x.codes.length c_x_codes] /\ Rep w (MEntrys x.entries) [.slice a_x_entries x.entries.length c_x_entries] := by
 obtain ⟨fp, h⟩ := h
 rw [MCodeBase.d_eq] at h
 have h0 := RepF.un_st h
 clear h
 obtain ⟨a_x_classes, c_x_classes, cs1, _, _, rfl, rfl, r_classes, h1⟩ := RepS.un_sl h0
 simp only [List.length_map] at r_classes
 clear h0
 obtain ⟨a_x_codes, c_x_codes, cs2, _, _, rfl, rfl, r_codes, h2⟩ := RepS.un_sl h1
 simp only [List.length_map] at r_codes
 clear h1
 obtain ⟨a_x_entries, c_x_entries, cs3, _, _, rfl, rfl, r_entries, h3⟩ := RepS.un_sl h2
 simp only [List.length_map] at r_entries
 clear h2
 obtain ⟨cs4, rfl, h4⟩ := RepS.un_int h3
 clear h3
 have h := h4
 obtain ⟨rfl, rfl⟩ := h
 exact ⟨_, _, _, _, _, _, by first | rfl | (simp only [List.length_map]; done) | (simp only [List.length_map]; rfl), r_classes.rep, r_codes.rep, r_entries.rep⟩
theorem MCodeBase.shut {w : World} {x : MCodeBase} {v_classes : Value} {f_classes : List Nat} (h_classes : RepF w (MClassInfos x.classes) [v_classes] f_classes) {v_codes : Value} {f_codes : List Nat} (h_codes : RepF w (MCodes x.codes) [v_codes] f_codes) {v_entries : Value} {f_entries : List Nat} (h_entries : RepF w (MEntrys x.entries) [v_entries] f_entries) : RepF w x.d (v_classes :: (v_codes :: (v_entries :: (.int .i64 x.main :: ([]))))) (f_classes ++ (f_codes ++ (f_entries ++ ([])))) := by
 rw [MCodeBase.d_eq]
 exact RepF.st (.one h_classes (.one h_codes (.one h_entries (.int _ (.nil _)))))
theorem ret_str {a b : ByteArray} (h : a = b) : Ending.returned (.string a) = .returned (.string b) := by rw [h]
theorem own_new (w : World) (C : Array Value) (e : TypeId) : Own (w.alloc (.cells C e)) w.heap.size e C := heap_alloc_new w _
theorem repR_strs (w : World) : ∀ l : List ByteArray, RepR w 1 (l.map D.str) (l.map Value.string) []
 | [] => by simp [RepR]
 | s :: l => by
  simp only [List.map_cons, RepR]
  exact ⟨[.string s], _, [], [], rfl, rfl, rfl, by simp [RepF], repR_strs w l⟩
theorem gives_strs (w : World) (l : List ByteArray) (e : TypeId) (hl : l.length <= maxLen) (h0 : l ≠ []) :
 GivesV w (strs l) (.returned (.slice (some ⟨w.heap.size, 0, none⟩) l.length l.length)) (w.alloc (.cells (l.map Value.string).toArray e)) := by
 refine ⟨_, _, _, [w.heap.size], rfl, ?_, ⟨by simp, by simp, fun b hb => ?_⟩, (XR w).alloc _⟩
 · refine RepF.sl_iff.2 ⟨_, _, by simp, by simp, hl, by simp, Or.inr ⟨w.heap.size, 0, l.map Value.string, [], by simpa using h0, rfl, rfl, (own_new w _ e).lt, fun j c hc => ?_, repR_strs _ l⟩⟩
   rw [Nat.zero_add, (own_new w _ e).cell]
   simpa using hc
 · simp at hb; subst hb; exact ⟨_, _, own_new w _ e⟩
theorem str_ne' {a : ByteArray} {l : List UInt8} (h : ¬ a = ⟨l.toArray⟩) : (a.toList == l) = false := by
 have := str_ne h
 rwa [show (⟨l.toArray⟩ : ByteArray).toList = l from by simp [ByteArray.toList_eq]] at this
theorem str_eq' {a : ByteArray} {l : List UInt8} (h : a = ⟨l.toArray⟩) : (a.toList == l) = true := by
 have := str_eq h
 rwa [show (⟨l.toArray⟩ : ByteArray).toList = l from by simp [ByteArray.toList_eq]] at this
def ltrB (n : Int) : Bool := decide (97 <= n /\ n <= 122 ∨ 65 <= n /\ n <= 90)
def dgtB (n : Int) : Bool := decide (48 <= n /\ n <= 57)
theorem l2Letter_any (n : Int) (w : World) (h0 : 0 <= n) (h1 : n <= 255) : Calls Tryz.prog 102 #[.int .u8 n] w fun e w' => e = .returned (.bool (ltrB n)) /\ w' = w := by
 go_enter Tryz.func102, Tryz.ntmps102
 go_wp2
 all_goals go_ret
 all_goals exact ⟨ret_bool (by rw [Bool.eq_iff_iff]; simp [ltrB] <;> omega), rfl⟩
theorem l2Digit_any (n : Int) (w : World) (h0 : 0 <= n) (h1 : n <= 255) : Calls Tryz.prog 132 #[.int .u8 n] w fun e w' => e = .returned (.bool (dgtB n)) /\ w' = w := by
 go_enter Tryz.func132, Tryz.ntmps132
 go_wp2
 all_goals go_ret
 all_goals exact ⟨ret_bool (by rw [Bool.eq_iff_iff]; simp [dgtB] <;> omega), rfl⟩
theorem isLetter_any (n : Int) (w : World) (h0 : 0 <= n) (h1 : n <= 255) : Calls Tryz.prog 133 #[.int .u8 n] w fun e w' => e = .returned (.bool (ltrB n)) /\ w' = w := by
 go_enter Tryz.func133, Tryz.ntmps133
 go_wp2
 all_goals go_ret
 all_goals exact ⟨ret_bool (by rw [Bool.eq_iff_iff]; simp [ltrB] <;> omega), rfl⟩
theorem isDigit_any (n : Int) (w : World) (h0 : 0 <= n) (h1 : n <= 255) : Calls Tryz.prog 138 #[.int .u8 n] w fun e w' => e = .returned (.bool (dgtB n)) /\ w' = w := by
 go_enter Tryz.func138, Tryz.ntmps138
 go_wp2
 all_goals go_ret
 all_goals exact ⟨ret_bool (by rw [Bool.eq_iff_iff]; simp [dgtB] <;> omega), rfl⟩
def alnB (b : UInt8) : Bool := ltrB b.toNat || dgtB b.toNat
def runL : List UInt8 -> Nat
 | [] => 0
 | b :: l => if alnB b then runL l + 1 else 0
theorem runL_le : ∀ l, runL l <= l.length
 | [] => by simp [runL]
 | b :: l => by have := runL_le l; simp only [runL]; split <;> simp <;> omega
def runAt (s : ByteArray) (k : Nat) : Nat := k + runL (s.data.toList.drop k)
theorem runAt_le {s : ByteArray} {k : Nat} (h : k <= s.size) : runAt s k <= s.size := by
 have := runL_le (s.data.toList.drop k)
 have e : s.data.toList.length = s.size := by simp
 unfold runAt; simp at this ⊢; have : s.data.size = s.size := rfl; omega
theorem drop_get {s : ByteArray} {k : Nat} (h : k < s.size) : s.data.toList.drop k = s[k] :: s.data.toList.drop (k + 1) := by
 rw [List.drop_eq_getElem_cons (by simpa using h)]; rfl
theorem runAt_yes {s : ByteArray} {k : Nat} (h : k < s.size) (ha : alnB s[k] = true) : runAt s (k + 1) = runAt s k := by
 unfold runAt; rw [drop_get h, runL, if_pos ha]; omega
theorem runAt_no {s : ByteArray} {k : Nat} (h : k < s.size) (ha : alnB s[k] = false) : runAt s k = k := by
 unfold runAt; rw [drop_get h, runL, if_neg (by simp [ha])]; omega
theorem runAt_end {s : ByteArray} {k : Nat} (h : s.size <= k) : runAt s k = k := by
 unfold runAt; rw [List.drop_eq_nil_of_le (by simpa using h)]; simp [runL]
theorem byte_bd (b : UInt8) : (0 : Int) <= (b.toNat : Int) /\ (b.toNat : Int) <= 255 := by have := b.toNat_lt; omega
theorem l2Run_any (s : ByteArray) (k0 : Nat) (w : World) (hs : s.size <= 9223372036854775806) (hk : k0 <= s.size) :
 Calls Tryz.prog 103 #[.string s, .int .i64 k0] w fun e w' => e = .returned (.int .i64 (runAt s k0)) /\ w' = w := by
 go_enter Tryz.func103, Tryz.ntmps103
 go_wp2_with fail
 go_loop [1] (fun i => ∃ k : Nat, k <= s.size /\ i = .int .i64 k /\ Hid (runAt s k = runAt s k0)) (fun i => s.size - (intOf i).toNat)
 case atStart => exact ⟨k0, hk, rfl, LH rfl⟩
 case round =>
  obtain ⟨k, hk1, rfl, hR⟩ := hrel
  by_cases hlt : k < s.size
  · obtain ⟨hb0, hb1⟩ := byte_bd s[k]
    cases hl : ltrB (s[k].toNat : Int)
    · cases hd : dgtB (s[k].toNat : Int)
      · have ha : Hid (alnB s[k] = false) := LH (by simp [alnB, hl, hd])
        go_wp2_with (first | (go_at_call 102; refine (l2Letter_any _ _ hb0 hb1).mono ?_; rintro e w' ⟨rfl, rfl⟩) | (go_at_call 132; refine (l2Digit_any _ _ hb0 hb1).mono ?_; rintro e w' ⟨rfl, rfl⟩))
        go_ret
        exact ⟨ret_int (by rw [<- hR.out, runAt_no hlt ha.out]), rfl⟩
      · have ha : Hid (alnB s[k] = true) := LH (by simp [alnB, hl, hd])
        go_wp2_with (first | (go_at_call 102; refine (l2Letter_any _ _ hb0 hb1).mono ?_; rintro e w' ⟨rfl, rfl⟩) | (go_at_call 132; refine (l2Digit_any _ _ hb0 hb1).mono ?_; rintro e w' ⟨rfl, rfl⟩))
        go_round
        case rel => exact ⟨k + 1, by omega, by go_num, LH (by rw [<- hR.out, runAt_yes hlt ha.out])⟩
        case measure => simp [intOf]; omega
    · have ha : Hid (alnB s[k] = true) := LH (by simp [alnB, hl])
      go_wp2_with (first | (go_at_call 102; refine (l2Letter_any _ _ hb0 hb1).mono ?_; rintro e w' ⟨rfl, rfl⟩) | (go_at_call 132; refine (l2Digit_any _ _ hb0 hb1).mono ?_; rintro e w' ⟨rfl, rfl⟩))
      go_round
      case rel => exact ⟨k + 1, by omega, by go_num, LH (by rw [<- hR.out, runAt_yes hlt ha.out])⟩
      case measure => simp [intOf]; omega
  · go_wp2_with fail
    go_ret
    exact ⟨ret_int (by rw [<- hR.out, runAt_end (by omega)]), rfl⟩
theorem runOf_any (s : ByteArray) (w : World) (hs : s.size <= 9223372036854775806) :
 Calls Tryz.prog 134 #[.string s] w fun e w' => e = .returned (.string (s.extract 0 (runAt s 0))) /\ w' = w := by
 go_enter Tryz.func134, Tryz.ntmps134
 go_wp2_with fail
 go_loop [3] (fun i => ∃ k : Nat, k <= s.size /\ i = .int .i64 k /\ Hid (runAt s k = runAt s 0)) (fun i => s.size - (intOf i).toNat)
 case atStart => exact ⟨0, Nat.zero_le _, rfl, LH rfl⟩
 case round =>
  obtain ⟨k, hk1, rfl, hR⟩ := hrel
  by_cases hlt : k < s.size
  · obtain ⟨hb0, hb1⟩ := byte_bd s[k]
    cases hl : ltrB (s[k].toNat : Int)
    · cases hd : dgtB (s[k].toNat : Int)
      · have ha : Hid (alnB s[k] = false) := LH (by simp [alnB, hl, hd])
        go_wp2_with (first | (go_at_call 133; refine (isLetter_any _ _ hb0 hb1).mono ?_; rintro e w' ⟨rfl, rfl⟩) | (go_at_call 138; refine (isDigit_any _ _ hb0 hb1).mono ?_; rintro e w' ⟨rfl, rfl⟩))
        go_ret
        exact ⟨ret_str (by rw [<- hR.out, runAt_no hlt ha.out]), rfl⟩
      · have ha : Hid (alnB s[k] = true) := LH (by simp [alnB, hl, hd])
        go_wp2_with (first | (go_at_call 133; refine (isLetter_any _ _ hb0 hb1).mono ?_; rintro e w' ⟨rfl, rfl⟩) | (go_at_call 138; refine (isDigit_any _ _ hb0 hb1).mono ?_; rintro e w' ⟨rfl, rfl⟩))
        go_round
        case rel => exact ⟨k + 1, by omega, by go_num, LH (by rw [<- hR.out, runAt_yes hlt ha.out])⟩
        case measure => simp [intOf]; omega
    · have ha : Hid (alnB s[k] = true) := LH (by simp [alnB, hl])
      go_wp2_with (first | (go_at_call 133; refine (isLetter_any _ _ hb0 hb1).mono ?_; rintro e w' ⟨rfl, rfl⟩) | (go_at_call 138; refine (isDigit_any _ _ hb0 hb1).mono ?_; rintro e w' ⟨rfl, rfl⟩))
      go_round
      case rel => exact ⟨k + 1, by omega, by go_num, LH (by rw [<- hR.out, runAt_yes hlt ha.out])⟩
      case measure => simp [intOf]; omega
  · go_wp2_with fail
    go_ret
    exact ⟨ret_str (by rw [<- hR.out, runAt_end (by omega)]), rfl⟩
def partB (s : ByteArray) : Bool := decide (1 <= s.size /\ s.size <= 20 /\ ∃ h : 0 < s.size, ltrB (s[0].toNat : Int) = true /\ runAt s 0 = s.size)
theorem partB_tt {s : ByteArray} (h1 : 0 < s.size) (h2 : s.size <= 20) (h3 : ltrB (s[0].toNat : Int) = true) (h4 : runAt s 0 = s.size) : partB s = true := by
 unfold partB; exact decide_eq_true ⟨by omega, h2, h1, h3, h4⟩
theorem partB_ff {s : ByteArray} (h : ¬ (1 <= s.size /\ s.size <= 20 /\ ∃ h : 0 < s.size, ltrB (s[0].toNat : Int) = true /\ runAt s 0 = s.size)) : partB s = false := by
 unfold partB; exact decide_eq_false h
theorem within_any (n a b : Int) (w : World) : Calls Tryz.prog 52 #[.int .i64 n, .int .i64 a, .int .i64 b] w fun e w' => e = .returned (.bool (decide (a <= n /\ n <= b))) /\ w' = w := by
 go_enter Tryz.func52, Tryz.ntmps52
 go_wp2
 all_goals go_ret
 all_goals exact ⟨ret_bool (by first | rfl | (apply Bool.eq_iff_iff.2; first | (simp; done) | (simp; omega))), rfl⟩
theorem l2IsName_any (s : ByteArray) (w : World) (hs : s.size <= 9223372036854775806) :
 Calls Tryz.prog 76 #[.string s] w fun e w' => e = .returned (.bool (partB s)) /\ w' = w := by
 by_cases h1 : 0 < s.size
 rotate_left
 · have hp := LH (partB_ff (s := s) (by rintro ⟨a, b, c, d⟩; omega))
   go_enter Tryz.func76, Tryz.ntmps76
   go_wp2_with fail
   go_ret
   exact ⟨ret_bool (by rw [hp.out]), rfl⟩
 by_cases h2 : s.size <= 20
 rotate_left
 · have hp := LH (partB_ff (s := s) (by rintro ⟨a, b, c, d⟩; omega))
   go_enter Tryz.func76, Tryz.ntmps76
   go_wp2_with fail
   go_ret
   exact ⟨ret_bool (by rw [hp.out]), rfl⟩
 obtain ⟨hb0, hb1⟩ := byte_bd s[0]
 cases h3 : ltrB (s[0].toNat : Int)
 · have hp := LH (partB_ff (s := s) (by rintro ⟨a, b, c, d, e⟩; rw [d] at h3; cases h3))
   go_enter Tryz.func76, Tryz.ntmps76
   go_wp2_with (go_at_call 102; refine (l2Letter_any _ _ hb0 hb1).mono ?_; rintro e w' ⟨rfl, rfl⟩)
   go_ret
   exact ⟨ret_bool (by rw [hp.out]), rfl⟩
 have hr := runAt_le (s := s) (k := 0) (by omega)
 by_cases h4 : runAt s 0 = s.size
 · have hp := LH (partB_tt h1 h2 h3 h4)
   have ht : ((runAt s 0 : Int) == (s.size : Int)) = true := by simp [h4]
   clear h4
   go_enter Tryz.func76, Tryz.ntmps76
   go_wp2_with (first | (go_at_call 102; refine (l2Letter_any _ _ hb0 hb1).mono ?_; rintro e w' ⟨rfl, rfl⟩) | (go_at_call 103; refine (l2Run_any s 0 _ hs (by omega)).mono ?_; rintro e w' ⟨rfl, rfl⟩))
   go_ret
   exact ⟨ret_bool (by rw [hp.out]), rfl⟩
 · have hp := LH (partB_ff (s := s) (by rintro ⟨a, b, c, d, e⟩; exact h4 e))
   have ht : ((runAt s 0 : Int) == (s.size : Int)) = false := by simp; omega
   clear h4
   go_enter Tryz.func76, Tryz.ntmps76
   go_wp2_with (first | (go_at_call 102; refine (l2Letter_any _ _ hb0 hb1).mono ?_; rintro e w' ⟨rfl, rfl⟩) | (go_at_call 103; refine (l2Run_any s 0 _ hs (by omega)).mono ?_; rintro e w' ⟨rfl, rfl⟩))
   go_ret
   exact ⟨ret_bool (by rw [hp.out]), rfl⟩
theorem extract_all (s : ByteArray) (n : Nat) (h : n = s.size) : s.extract 0 n = s := by subst h; simp
theorem extract_ne {s : ByteArray} {n : Nat} (h : n <= s.size) (h' : n ≠ s.size) : ¬ s.extract 0 n = s := by
 intro e
 have := congrArg ByteArray.size e
 simp at this; omega
theorem isPart_any (s : ByteArray) (w : World) (hs : s.size <= 9223372036854775806) :
 Calls Tryz.prog 111 #[.string s] w fun e w' => e = .returned (.bool (partB s)) /\ w' = w := by
 by_cases h1 : 0 < s.size
 rotate_left
 · have hp := LH (partB_ff (s := s) (by rintro ⟨a, b, c, d⟩; omega))
   have hw : decide ((1 : Int) <= (s.size : Int) /\ (s.size : Int) <= 20) = false := decide_eq_false (by omega)
   go_enter Tryz.func111, Tryz.ntmps111
   go_wp2_with fail
   refine (within_any _ _ _ _).mono ?_
   rw [hw]
   rintro e w' ⟨rfl, rfl⟩
   go_wp2_with fail
   go_ret
   exact ⟨ret_bool (by rw [hp.out]), rfl⟩
 by_cases h2 : s.size <= 20
 rotate_left
 · have hp := LH (partB_ff (s := s) (by rintro ⟨a, b, c, d⟩; omega))
   have hw : decide ((1 : Int) <= (s.size : Int) /\ (s.size : Int) <= 20) = false := decide_eq_false (by omega)
   go_enter Tryz.func111, Tryz.ntmps111
   go_wp2_with fail
   refine (within_any _ _ _ _).mono ?_
   rw [hw]
   rintro e w' ⟨rfl, rfl⟩
   go_wp2_with fail
   go_ret
   exact ⟨ret_bool (by rw [hp.out]), rfl⟩
 have hw : decide ((1 : Int) <= (s.size : Int) /\ (s.size : Int) <= 20) = true := decide_eq_true (by omega)
 obtain ⟨hb0, hb1⟩ := byte_bd s[0]
 cases h3 : ltrB (s[0].toNat : Int)
 · have hp := LH (partB_ff (s := s) (by rintro ⟨a, b, c, d, e⟩; rw [d] at h3; cases h3))
   go_enter Tryz.func111, Tryz.ntmps111
   go_wp2_with fail
   refine (within_any _ _ _ _).mono ?_
   rw [hw]
   rintro e w' ⟨rfl, rfl⟩
   go_wp2_with (go_at_call 133; refine (isLetter_any _ _ hb0 hb1).mono ?_; rintro e w' ⟨rfl, rfl⟩)
   go_ret
   exact ⟨ret_bool (by rw [hp.out]), rfl⟩
 have hr := runAt_le (s := s) (k := 0) (by omega)
 by_cases h4 : runAt s 0 = s.size
 · have hp := LH (partB_tt h1 h2 h3 h4)
   have ht := str_eq (extract_all s _ h4)
   clear h4
   go_enter Tryz.func111, Tryz.ntmps111
   go_wp2_with fail
   refine (within_any _ _ _ _).mono ?_
   rw [hw]
   rintro e w' ⟨rfl, rfl⟩
   go_wp2_with (first | (go_at_call 133; refine (isLetter_any _ _ hb0 hb1).mono ?_; rintro e w' ⟨rfl, rfl⟩) | (go_at_call 134; refine (runOf_any s _ hs).mono ?_; rintro e w' ⟨rfl, rfl⟩))
   go_ret
   exact ⟨ret_bool (by rw [hp.out]), rfl⟩
 · have hp := LH (partB_ff (s := s) (by rintro ⟨a, b, c, d, e⟩; exact h4 e))
   have ht := str_ne (extract_ne hr h4)
   clear h4
   go_enter Tryz.func111, Tryz.ntmps111
   go_wp2_with fail
   refine (within_any _ _ _ _).mono ?_
   rw [hw]
   rintro e w' ⟨rfl, rfl⟩
   go_wp2_with (first | (go_at_call 133; refine (isLetter_any _ _ hb0 hb1).mono ?_; rintro e w' ⟨rfl, rfl⟩) | (go_at_call 134; refine (runOf_any s _ hs).mono ?_; rintro e w' ⟨rfl, rfl⟩))
   go_ret
   exact ⟨ret_bool (by rw [hp.out]), rfl⟩
def wordsL : List ByteArray := [⟨#[99, 108, 97, 115, 115]⟩, ⟨#[101, 120, 116, 101, 110, 100, 115]⟩, ⟨#[102, 105, 101, 108, 100, 115]⟩, ⟨#[109, 101, 116, 104, 111, 100]⟩, ⟨#[99, 108, 97, 115, 115, 109, 101, 116, 104, 111, 100]⟩, ⟨#[101, 110, 100]⟩, ⟨#[109, 97, 105, 110]⟩]
noncomputable def hasB (l : List ByteArray) (s : ByteArray) : Bool := eqB (s ∈ l) True
theorem hasB_tt {l : List ByteArray} {s : ByteArray} (h : s ∈ l) : hasB l s = true := eqB_tt (by simp [h])
theorem hasB_ff {l : List ByteArray} {s : ByteArray} (h : ¬ s ∈ l) : hasB l s = false := eqB_ff (by simp [h])
theorem hasB_iff {l : List ByteArray} {s : ByteArray} : hasB l s = true ↔ s ∈ l := by simp [hasB, eqB_iff]
theorem isWord_any (s : ByteArray) (w : World) : Calls Tryz.prog 112 #[.string s] w fun e w' => e = .returned (.bool (hasB wordsL s)) /\ w' = w := by
 by_cases h : s ∈ wordsL
 · have hp := LH (hasB_tt h)
   simp only [wordsL, List.mem_cons, List.not_mem_nil, or_false] at h
   rcases h with rfl | rfl | rfl | rfl | rfl | rfl | rfl
   all_goals
    go_enter Tryz.func112, Tryz.ntmps112
    go_wp2
    go_ret
    exact ⟨ret_bool (by rw [hp.out]), rfl⟩
 · have hp := LH (hasB_ff h)
   simp only [wordsL, List.mem_cons, List.not_mem_nil, or_false, not_or] at h
   obtain ⟨h0, h1, h2, h3, h4, h5, h6⟩ := h
   have k0 := str_ne' h0
   have k1 := str_ne' h1
   have k2 := str_ne' h2
   have k3 := str_ne' h3
   have k4 := str_ne' h4
   have k5 := str_ne' h5
   have k6 := str_ne' h6
   clear h0 h1 h2 h3 h4 h5 h6
   go_enter Tryz.func112, Tryz.ntmps112
   go_wp2
   go_ret
   exact ⟨ret_bool (by rw [hp.out]), rfl⟩
theorem l2Words_any (w : World) : Calls Tryz.prog 77 #[] w (GivesV w (strs wordsL)) := by
 go_enter Tryz.func77, Tryz.ntmps77
 go_wp2
 go_ret
 exact gives_strs w wordsL 9 (by simp [wordsL, maxLen]) (by simp [wordsL])
theorem l1Has_any (l : List ByteArray) (s : ByteArray) (va : Value) (w : World) (ra : Rep w (strs l) [va]) :
 Calls Tryz.prog 71 #[va, .string s] w fun e w' => e = .returned (.bool (hasB l s)) /\ w' = w := by
 obtain ⟨ao, ca, ba, oa, h1, hla, hma, pa, ha⟩ := ra.strs
 simp only [List.cons.injEq, and_true] at h1
 subst h1
 clear ra
 unfold maxLen at hma
 go_enter Tryz.func71, Tryz.ntmps71
 go_wp2_with fail
 go_loop [5] (fun i => ∃ k : Nat, k <= l.length /\ i = .int .i64 k /\ Hid (∀ j, j < k -> l[j]? ≠ some s)) (fun i => l.length - (intOf i).toNat)
 case atStart => exact ⟨0, Nat.zero_le _, rfl, LH fun j hj => by omega⟩
 case round =>
  obtain ⟨k, hk, rfl, hR⟩ := hrel
  by_cases hlt : k < l.length
  · obtain rfl := pa (by omega)
    have a0 := ha k l[k] (by simp [hlt])
    clear ha pa
    by_cases hs : l[k] = s
    · have ht := str_eq hs
      have hp := LH (hasB_tt (show s ∈ l from hs ▸ List.getElem_mem hlt))
      clear hs
      go_wp2_with fail
      go_ret
      exact ⟨ret_bool (by rw [hp.out]), rfl⟩
    · have ht := str_ne hs
      have HS := LH hs; clear hs
      go_wp2_with fail
      go_round
      case rel => exact ⟨k + 1, by omega, by go_num, LH fun j hj => by
       by_cases h : j < k
       · exact hR.out j h
       · obtain rfl : j = k := by omega
         simpa [hlt] using HS.out⟩
      case measure => simp [intOf]; omega
  · go_wp2_with fail
    go_ret
    have hp : hasB l s = false := hasB_ff fun hm => by
     obtain ⟨j, hj, he⟩ := List.mem_iff_getElem.1 hm
     exact hR.out j (by omega) (by simp [hj, he])
    exact ⟨ret_bool (by rw [hp]), rfl⟩
noncomputable def nameB (s : ByteArray) : Bool := partB s && !hasB wordsL s
theorem spec_IsName_any (s : ByteArray) (w : World) (hs : s.size <= 9223372036854775806) :
 Calls Tryz.prog 70 #[.string s] w fun e w' => e = .returned (.bool (nameB s)) /\ Ext w w' := by
 have hn : Hid (nameB s = (partB s && !hasB wordsL s)) := LH rfl
 go_enter Tryz.func70, Tryz.ntmps70
 cases hp : partB s
 · go_wp2_with fail
   refine (l2IsName_any s _ hs).mono ?_
   rw [hp]
   rintro e w' ⟨rfl, rfl⟩
   go_wp2_with fail
   go_ret
   exact ⟨ret_bool (by rw [hn.out, hp]; rfl), XR _⟩
 · go_wp2_with fail
   refine (l2IsName_any s _ hs).mono ?_
   rw [hp]
   rintro e w' ⟨rfl, rfl⟩
   go_wp2_with fail
   refine (l2Words_any _).mono ?_
   rintro e w1 ⟨ao, n, cap, fp, rfl, hr, hf, hx⟩
   go_wp2_with fail
   refine (l1Has_any wordsL s _ _ hr.rep).mono ?_
   rintro e w' ⟨rfl, rfl⟩
   go_wp2_with fail
   go_ret
   exact ⟨ret_bool (by rw [hn.out, hp]; rfl), hx⟩
theorem impl_IsName_any (s : ByteArray) (w : World) (hs : s.size <= 9223372036854775806) :
 Calls Tryz.prog 84 #[.string s] w fun e w' => e = .returned (.bool (nameB s)) /\ Ext w w' := by
 have hn : Hid (nameB s = (partB s && !hasB wordsL s)) := LH rfl
 go_enter Tryz.func84, Tryz.ntmps84
 cases hp : partB s
 · go_wp2_with fail
   refine (isPart_any s _ hs).mono ?_
   rw [hp]
   rintro e w' ⟨rfl, rfl⟩
   go_wp2_with fail
   go_ret
   exact ⟨ret_bool (by rw [hn.out, hp]; rfl), XR _⟩
 · go_wp2_with fail
   refine (isPart_any s _ hs).mono ?_
   rw [hp]
   rintro e w' ⟨rfl, rfl⟩
   go_wp2_with fail
   refine (isWord_any s _).mono ?_
   rintro e w' ⟨rfl, rfl⟩
   go_wp2_with fail
   go_ret
   exact ⟨ret_bool (by rw [hn.out, hp]; rfl), XR _⟩
def cutGo (c : UInt8) : List UInt8 -> List UInt8 -> List (List UInt8)
 | cur, [] => [cur]
 | cur, b :: t => if b = c then cur :: cutGo c [] t else cutGo c (cur ++ [b]) t
def onto (cur : List UInt8) : List (List UInt8) -> List (List UInt8)
 | [] => []
 | h :: t => (cur ++ h) :: t
theorem splitK_ne (c b : UInt8) (hb : b ≠ c) : ∀ (k : Nat) (t : List UInt8), Lib.splitK [c] 0 k (b :: t) = onto [b] (Lib.splitK [c] 0 k t)
 | 0, t => rfl
 | k + 1, t => by
  have hp : ([c] : List UInt8).isPrefixOf (b :: t) = false := by simp [List.isPrefixOf, Ne.symm hb]
  have hix : Lib.index (b :: t) [c] = if Lib.index t [c] == -1 then -1 else Lib.index t [c] + 1 := by rw [Lib.index, hp]; simp
  by_cases hm : Lib.index t [c] = -1
  · simp [Lib.splitK, hix, hm, onto]
  · have hge := Lib.index_ge t [c]
    obtain ⟨j, hj⟩ : ∃ j : Nat, Lib.index t [c] = j := ⟨(Lib.index t [c]).toNat, by omega⟩
    have h1 : ((j : Int) == -1) = false := by simp <;> omega
    have h2 : ((j : Int) + 1 == -1) = false := by simp <;> omega
    have h3 : ((j : Int) + 1).toNat = j + 1 := by omega
    simp [Lib.splitK, hix, hj, h1, h2, h3, onto]
theorem cutGo_split (c : UInt8) : ∀ (s : List UInt8) (cur : List UInt8), cutGo c cur s = onto cur (Lib.splitK [c] 0 (Lib.count s [c]) s)
 | [], cur => by rw [Lib.count_miss (by simp [Lib.index])]; simp [cutGo, Lib.splitK, onto]
 | b :: t, cur => by
  by_cases h : b = c
  · subst h
    rw [Lib.count_cons_eq, Nat.add_comm]
    have hix : Lib.index (b :: t) [b] = ((0 : Nat) : Int) := by rw [Lib.index]; simp [List.isPrefixOf]
    have e : Lib.splitK [b] 0 (Lib.count t [b] + 1) (b :: t) = [] :: Lib.splitK [b] 0 (Lib.count t [b]) t := by simp [Lib.splitK, hix]
    rw [cutGo, if_pos rfl, e, cutGo_split b t]
    cases hk : Lib.splitK [b] 0 (Lib.count t [b]) t <;> simp [onto]
  · rw [Lib.count_cons_ne b c t h, splitK_ne c b h, cutGo, if_neg h, cutGo_split c t]
    cases hk : Lib.splitK [c] 0 (Lib.count t [c]) t <;> simp [onto]
theorem cutGo_length (c : UInt8) : ∀ (s cur : List UInt8), (cutGo c cur s).length = s.count c + 1
 | [], cur => by simp [cutGo]
 | b :: t, cur => by
  by_cases h : b = c
  · subst h; simp [cutGo, cutGo_length b t]
  · rw [cutGo, if_neg h, cutGo_length c t, List.count_cons_of_ne (by simpa using h)]
theorem cutGo_last (c : UInt8) : ∀ (s cur : List UInt8), cutGo c cur (s ++ [c]) = cutGo c cur s ++ [[]]
 | [], cur => by simp [cutGo]
 | b :: t, cur => by
  by_cases h : b = c
  · subst h; simp [cutGo, cutGo_last b t]
  · simp [cutGo, h, cutGo_last c t]
theorem cutGo_snoc (c b : UInt8) (hb : b ≠ c) : ∀ (s cur : List UInt8), ∃ l m, cutGo c cur (s ++ [b]) = l ++ [m ++ [b]]
 | [], cur => ⟨[], cur, by simp [cutGo, hb]⟩
 | a :: t, cur => by
  by_cases h : a = c
  · subst h
    obtain ⟨l, m, e⟩ := cutGo_snoc a b hb t []
    exact ⟨cur :: l, m, by simp [cutGo, e]⟩
  · obtain ⟨l, m, e⟩ := cutGo_snoc c b hb t (cur ++ [a])
    exact ⟨l, m, by simp [cutGo, h, e]⟩
theorem cutGo_none (c : UInt8) : ∀ (s cur : List UInt8), c ∉ s -> cutGo c cur s = [cur ++ s]
 | [], cur, _ => by simp [cutGo]
 | b :: t, cur, h => by
  have h1 : b ≠ c := fun e => h (by simp [e])
  rw [cutGo, if_neg h1, cutGo_none c t _ (fun m => h (by simp [m]))]
  simp
theorem cutGo_size (c : UInt8) : ∀ (s cur : List UInt8) (x : List UInt8), x ∈ cutGo c cur s -> x.length <= cur.length + s.length
 | [], cur, x, h => by simp [cutGo] at h; subst h; simp
 | b :: t, cur, x, h => by
  by_cases e : b = c
  · subst e
    simp only [cutGo, if_pos, List.mem_cons] at h
    rcases h with rfl | h
    · simp
    · have := cutGo_size b t [] x h; simp at this ⊢; omega
  · rw [cutGo, if_neg e] at h
    have := cutGo_size c t _ x h
    simp at this ⊢; omega
def mkB (l : List UInt8) : ByteArray := ⟨l.toArray⟩
theorem mkB_data (s : ByteArray) : mkB s.data.toList = s := by apply ByteArray.ext; simp [mkB]
theorem data_mkB (l : List UInt8) : (mkB l).data.toList = l := by simp [mkB]
theorem mkB_size (l : List UInt8) : (mkB l).size = l.length := by simp [mkB, ByteArray.size]
theorem extract_mk (s : ByteArray) (a b : Nat) : s.extract a b = mkB ((s.data.toList.drop a).take (b - a)) := by
 rw [<- mkB_data (s.extract a b)]
 simp [mkB, List.extract_eq_take_drop]
def cutB (c : UInt8) (s : ByteArray) : List ByteArray := (cutGo c [] s.data.toList).map mkB
theorem splitB_cut (c : UInt8) (s : ByteArray) : Lib.splitB ⟨#[c]⟩ 0 (Lib.countB s ⟨#[c]⟩) s = cutB c s := by
 have h := Lib.splitB_data ⟨#[c]⟩ 0 (Lib.countB s ⟨#[c]⟩) s
 have h1 : Lib.splitK [c] 0 (Lib.count s.data.toList [c]) s.data.toList = cutGo c [] s.data.toList := by
  rw [cutGo_split]
  cases hk : Lib.splitK [c] 0 (Lib.count s.data.toList [c]) s.data.toList <;> simp [onto]
 have h2 : (Lib.splitB ⟨#[c]⟩ 0 (Lib.countB s ⟨#[c]⟩) s).map (fun x : ByteArray => x.data.toList) = cutGo c [] s.data.toList := by
  rw [<- h1]; exact h
 unfold cutB
 rw [<- h2, List.map_map]
 conv => lhs; rw [<- List.map_id (Lib.splitB ⟨#[c]⟩ 0 (Lib.countB s ⟨#[c]⟩) s)]
 exact List.map_congr_left fun x _ => (mkB_data x).symm
theorem cutB_length (c : UInt8) (s : ByteArray) : (cutB c s).length = s.data.toList.count c + 1 := by simp only [cutB, List.length_map, cutGo_length]
theorem cutB_le (c : UInt8) (s : ByteArray) : (cutB c s).length <= s.size + 1 := by
 rw [cutB_length]
 have := List.count_le_length (a := c) (l := s.data.toList)
 have e : s.data.toList.length = s.size := by simp
 omega
theorem cutB_mem {c : UInt8} {s x : ByteArray} (h : x ∈ cutB c s) : x.size <= s.size := by
 simp only [cutB, List.mem_map] at h
 obtain ⟨l, hl, rfl⟩ := h
 have := cutGo_size c _ _ l hl
 have e : s.data.toList.length = s.size := by simp
 rw [mkB_size]; simp only [List.length_nil] at this; omega
theorem countB_cut (c : UInt8) (s : ByteArray) : Lib.countB s ⟨#[c]⟩ + 1 = (cutB c s).length := by
 rw [cutB_length, <- Lib.count_one]
def cutAt (c : UInt8) (s : ByteArray) (a i : Nat) : List ByteArray := (cutGo c ((s.data.toList.drop a).take (i - a)) (s.data.toList.drop i)).map mkB
theorem cutAt_zero (c : UInt8) (s : ByteArray) : cutAt c s 0 0 = cutB c s := by simp [cutAt, cutB]
theorem cutAt_yes {c : UInt8} {s : ByteArray} {a i : Nat} (h : i < s.size) (hc : s[i] = c) : cutAt c s a i = s.extract a i :: cutAt c s (i + 1) (i + 1) := by
 simp only [cutAt, drop_get h, cutGo, hc, if_pos]
 rw [extract_mk]; simp
theorem take_snoc {l : List UInt8} {n : Nat} {b : UInt8} (h : l[n]? = some b) : l.take (n + 1) = l.take n ++ [b] := by
 rw [List.take_add_one, h]; simp
theorem cutAt_no {c : UInt8} {s : ByteArray} {a i : Nat} (h : i < s.size) (ha : a <= i) (hc : ¬ s[i] = c) : cutAt c s a i = cutAt c s a (i + 1) := by
 simp only [cutAt, drop_get h, cutGo, if_neg hc]
 have e : (s.data.toList.drop a)[i - a]? = some s[i] := by
  rw [List.getElem?_drop, show a + (i - a) = i from by omega, List.getElem?_eq_getElem (by simpa using h)]
  rfl
 rw [<- take_snoc e, show i - a + 1 = i + 1 - a from by omega]
theorem cutAt_end {c : UInt8} {s : ByteArray} {a i : Nat} (h : s.size = i) : cutAt c s a i = [s.extract a i] := by
 have e : s.data.toList.drop i = [] := List.drop_eq_nil_of_le (by simp; exact Nat.le_of_eq h)
 simp only [cutAt, e, cutGo]
 rw [extract_mk]; simp
def opsL : List ByteArray := [⟨#[47, 47]⟩, ⟨#[92, 92]⟩, ⟨#[60, 61]⟩, ⟨#[62, 61]⟩, ⟨#[61, 61]⟩, ⟨#[126, 61]⟩, ⟨#[126, 126]⟩, ⟨#[43]⟩, ⟨#[45]⟩, ⟨#[42]⟩, ⟨#[60]⟩, ⟨#[62]⟩, ⟨#[61]⟩, ⟨#[44]⟩, ⟨#[38]⟩]
theorem runL_all : ∀ l : List UInt8, runL l = l.length -> ∀ b, b ∈ l -> alnB b = true
 | [], _, b, h => by simp at h
 | a :: l, h, b, hb => by
  have hle := runL_le l
  by_cases ha : alnB a = true
  · rw [runL, if_pos ha] at h
    simp only [List.length_cons] at h
    rcases List.mem_cons.1 hb with rfl | hb
    · exact ha
    · exact runL_all l (by omega) b hb
  · rw [runL, if_neg ha] at h; simp at h
theorem part_bytes {s : ByteArray} (h : partB s = true) : ∀ b, b ∈ s.data.toList -> alnB b = true := by
 unfold partB at h
 obtain ⟨h1, h2, h3, h4, h5⟩ := of_decide_eq_true h
 refine runL_all _ ?_
 unfold runAt at h5
 simp at h5 ⊢; have : s.data.size = s.size := rfl; omega
theorem part_no {s : ByteArray} (c : UInt8) (hc : alnB c = false) (h : partB s = true) : c ∉ s.data.toList := fun m => by
 have := part_bytes h c m; rw [hc] at this; cases this
noncomputable def allB (p : ByteArray -> Bool) (l : List ByteArray) : Bool := eqB (∀ x, x ∈ l -> p x = true) True
theorem allB_tt {p : ByteArray -> Bool} {l : List ByteArray} (h : ∀ x, x ∈ l -> p x = true) : allB p l = true := eqB_tt (by simpa using h)
theorem allB_ff {p : ByteArray -> Bool} {l : List ByteArray} {x : ByteArray} (h : x ∈ l) (hp : p x = false) : allB p l = false := eqB_ff (by simp; exact ⟨x, h, hp⟩)
def colB (s : ByteArray) : Bool := Lib.hasSuffix s.data.toList [58]
def stem (s : ByteArray) : ByteArray := s.extract 0 (s.size - 1)
noncomputable def kwB (s : ByteArray) : Bool := colB s && (allB partB (cutB 58 (stem s)) && decide ((cutB 58 (stem s)).length <= 4))
noncomputable def selB (s : ByteArray) : Bool := hasB opsL s || (nameB s || kwB s)
noncomputable def argsB (s : ByteArray) : Int := if hasB opsL s then 1 else if nameB s then 0 else if kwB s then (cutB 58 (stem s)).length else -1
theorem colB_iff {s : ByteArray} : colB s = true ↔ ∃ l, s.data.toList = l ++ [58] := by
 simp only [colB, Lib.hasSuffix, List.isSuffixOf_iff_suffix]
 constructor
 · rintro ⟨l, h⟩; exact ⟨l, h.symm⟩
 · rintro ⟨l, h⟩; exact ⟨l, h.symm⟩
theorem stem_data {s : ByteArray} {l : List UInt8} (h : s.data.toList = l ++ [58]) : (stem s).data.toList = l := by
 have e : s.size = l.length + 1 := by have := congrArg List.length h; simpa using this
 rw [stem, extract_mk, data_mkB, h, e]; simp
theorem cut_col {s : ByteArray} (h : colB s = true) : cutB 58 s = cutB 58 (stem s) ++ [ByteArray.empty] := by
 obtain ⟨l, hl⟩ := colB_iff.1 h
 simp only [cutB, stem_data hl]
 rw [hl, cutGo_last]
 simp only [List.map_append, List.map_cons, List.map_nil]
 rfl
theorem cut_last {s : ByteArray} (h : colB s = false) (hn : (cutB 58 s).length ≠ 1) : ∃ l x, cutB 58 s = l ++ [x] /\ x.size ≠ 0 := by
 rcases List.eq_nil_or_concat s.data.toList with h0 | ⟨l, b, hl⟩
 · exact absurd (by simp [cutB, h0, cutGo]) hn
 · have hb : b ≠ 58 := by
    rintro rfl
    have := colB_iff.2 ⟨l, by simpa using hl⟩
    rw [h] at this; cases this
   obtain ⟨a, m, e⟩ := cutGo_snoc 58 b hb l []
   refine ⟨a.map mkB, mkB (m ++ [b]), ?_, by rw [mkB_size]; simp⟩
   simp only [cutB]
   rw [show s.data.toList = l ++ [b] from by simpa using hl, e]
   simp
theorem cut_single {s : ByteArray} (h : (cutB 58 s).length = 1) : cutB 58 s = [s] := by
 have hc : (58 : UInt8) ∉ s.data.toList := by
  rw [cutB_length] at h
  exact List.count_eq_zero.1 (by omega)
 rw [cutB, cutGo_none 58 _ _ hc]
 simp [mkB_data]
theorem name_single {s : ByteArray} (h : (cutB 58 s).length ≠ 1) : nameB s = false := by
 unfold nameB
 cases hp : partB s
 · rfl
 · have := part_no 58 (by decide) hp
   rw [cutB_length] at h
   exact absurd (by rw [List.count_eq_zero.2 this]) h
theorem single_col {s : ByteArray} (h : (cutB 58 s).length = 1) : colB s = false := by
 cases hc : colB s
 · rfl
 · have := cutB_length 58 (stem s)
   rw [cut_col hc, List.length_append, this] at h; simp only [List.length_cons, List.length_nil] at h; omega
theorem sel_one {s : ByteArray} (ho : hasB opsL s = false) (h : (cutB 58 s).length = 1) : selB s = nameB s /\ (nameB s = true -> argsB s = 0) := by
 have hc := single_col h
 refine ⟨by simp [selB, ho, kwB, hc], fun hn => by simp [argsB, ho, hn]⟩
theorem sel_col {s : ByteArray} (ho : hasB opsL s = false) (h : colB s = true) : selB s = (allB partB (cutB 58 (stem s)) && decide ((cutB 58 (stem s)).length <= 4)) /\ (selB s = true -> argsB s = (cutB 58 (stem s)).length) := by
 have hn : nameB s = false := name_single fun e => by rw [single_col e] at h; cases h
 refine ⟨by simp [selB, ho, kwB, h, hn], fun hs => ?_⟩
 have : kwB s = true := by simpa [selB, ho, hn] using hs
 simp [argsB, ho, hn, this]
theorem sel_none {s : ByteArray} (ho : hasB opsL s = false) (h : colB s = false) (h1 : (cutB 58 s).length ≠ 1) : selB s = false := by
 simp [selB, ho, kwB, h, name_single h1]
theorem args_none {s : ByteArray} (h : selB s = false) : argsB s = -1 := by
 simp only [selB, Bool.or_eq_false_iff] at h
 obtain ⟨h1, h2, h3⟩ := h
 simp [argsB, h1, h2, h3]
theorem args_op {s : ByteArray} (h : hasB opsL s = true) : argsB s = 1 := by simp [argsB, h]
end Go.Proofs.YtlaclfeljimffaaGreatDoor
