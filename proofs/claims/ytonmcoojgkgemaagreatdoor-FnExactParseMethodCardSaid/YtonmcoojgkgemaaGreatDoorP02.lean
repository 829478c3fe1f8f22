/-
  SEVERAL TEXTS IN ONE: THE PROGRAM's TYPES AS PLAIN DATA; MORE LEMMAS on plain data in memory.
  Conditions: those that each lemma states.
-/
import Derived.Test.YtonmcoojgkgemaaGreatDoorData
namespace Go.Proofs.YtonmcoojgkgemaaGreatDoor
open Go.RowKit
set_option linter.unusedSimpArgs false
set_option linter.unusedVariables false


structure MToken where
  kind : Int
  text : ByteArray
  number : Int

def MToken.d (x : MToken) : D := .st [.int x.kind, .str x.text, .int x.number]

theorem MToken.d_eq (x : MToken) : x.d = .st [.int x.kind, .str x.text, .int x.number] := rfl

def MTokens (l : List MToken) : D := .sl 3 (l.map MToken.d)

theorem MToken.op_en {w : World} {x : MToken} {cs : List Value} (h : Rep w x.d cs) : cs = [.int .i64 x.kind, .string x.text, .int .i64 x.number] := by
  obtain ⟨fp, h⟩ := h
  rw [MToken.d_eq] at h
  have h0 := RepF.un_st h
  clear h
  obtain ⟨cs1, rfl, h1⟩ := RepS.un_int h0
  clear h0
  obtain ⟨cs2, rfl, h2⟩ := RepS.un_str h1
  clear h1
  obtain ⟨cs3, rfl, h3⟩ := RepS.un_int h2
  clear h2
  have h := h3
  obtain ⟨rfl, rfl⟩ := h
  rfl

theorem MToken.shut {w : World} {x : MToken}  : RepF w x.d (.int .i64 x.kind :: (.string x.text :: (.int .i64 x.number :: ([])))) ([]) := by
  rw [MToken.d_eq]
  exact RepF.st (.int _ (.str _ (.int _ (.nil _))))

structure MExpr where
  kind : Int
  text : ByteArray
  number : Int
  names : List ByteArray
  kids : List MExpr

mutual
def MExpr.d : MExpr → D
  | ⟨kind, text, number, names, kids⟩ => .st [.int kind, .str text, .int number, strs names, .sl 5 (MExpr.dl kids)]
def MExpr.dl : List MExpr → List D
  | [] => []
  | x :: xs => x.d :: MExpr.dl xs
end

theorem MExpr.dl_eq (l : List MExpr) : MExpr.dl l = l.map MExpr.d := by
  induction l with
  | nil => simp [MExpr.dl]
  | cons x xs ih => simp [MExpr.dl, ih]

def MExprs (l : List MExpr) : D := .sl 5 (l.map MExpr.d)

theorem MExpr.d_eq (x : MExpr) : x.d = .st [.int x.kind, .str x.text, .int x.number, strs x.names, MExprs x.kids] := by
  obtain ⟨kind, text, number, names, kids⟩ := x
  rw [MExpr.d, MExpr.dl_eq]; rfl

theorem MExpr.kid_lt {x k : MExpr} (h : k ∈ x.kids) : SizeOf.sizeOf k < SizeOf.sizeOf x := by
  obtain ⟨_, _, _, _, _⟩ := x
  have := List.sizeOf_lt_of_mem h
  simp only [MExpr.mk.sizeOf_spec]
  simp at this
  omega

theorem MExpr.op_en {w : World} {x : MExpr} {cs : List Value} (h : Rep w x.d cs) : ∃ a_x_names c_x_names, ∃ a_x_kids c_x_kids, cs = [.int .i64 x.kind, .string x.text, .int .i64 x.number, .slice a_x_names x.names.length c_x_names, .slice a_x_kids x.kids.length c_x_kids] ∧ Rep w (strs x.names) [.slice a_x_names x.names.length c_x_names] ∧ Rep w (MExprs x.kids) [.slice a_x_kids x.kids.length c_x_kids] := by
  obtain ⟨fp, h⟩ := h
  rw [MExpr.d_eq] at h
  have h0 := RepF.un_st h
  clear h
  obtain ⟨cs1, rfl, h1⟩ := RepS.un_int h0
  clear h0
  obtain ⟨cs2, rfl, h2⟩ := RepS.un_str h1
  clear h1
  obtain ⟨cs3, rfl, h3⟩ := RepS.un_int h2
  clear h2
  obtain ⟨a_x_names, c_x_names, cs4, _, _, rfl, rfl, r_names, h4⟩ := RepS.un_sl h3
  simp only [List.length_map] at r_names
  clear h3
  obtain ⟨a_x_kids, c_x_kids, cs5, _, _, rfl, rfl, r_kids, h5⟩ := RepS.un_sl h4
  simp only [List.length_map] at r_kids
  clear h4
  have h := h5
  obtain ⟨rfl, rfl⟩ := h
  exact ⟨_, _, _, _, by first | rfl | (simp only [List.length_map]; done) | (simp only [List.length_map]; rfl), r_names.rep, r_kids.rep⟩

theorem MExpr.shut {w : World} {x : MExpr} {v_names : Value} {f_names : List Nat} (h_names : RepF w (strs x.names) [v_names] f_names) {v_kids : Value} {f_kids : List Nat} (h_kids : RepF w (MExprs x.kids) [v_kids] f_kids) : RepF w x.d (.int .i64 x.kind :: (.string x.text :: (.int .i64 x.number :: (v_names :: (v_kids :: ([])))))) (f_names ++ (f_kids ++ ([]))) := by
  rw [MExpr.d_eq]
  exact RepF.st (.int _ (.str _ (.int _ (.one h_names (.one h_kids (.nil _))))))

structure MMethod where
  selector : ByteArray
  cls : Bool
  params : List ByteArray
  temps : List ByteArray
  body : List MExpr

def MMethod.d (x : MMethod) : D := .st [.str x.selector, .bool x.cls, strs x.params, strs x.temps, MExprs x.body]

theorem MMethod.d_eq (x : MMethod) : x.d = .st [.str x.selector, .bool x.cls, strs x.params, strs x.temps, MExprs x.body] := rfl

def MMethods (l : List MMethod) : D := .sl 5 (l.map MMethod.d)

theorem MMethod.op_en {w : World} {x : MMethod} {cs : List Value} (h : Rep w x.d cs) : ∃ a_x_params c_x_params, ∃ a_x_temps c_x_temps, ∃ a_x_body c_x_body, cs = [.string x.selector, .bool x.cls, .slice a_x_params x.params.length c_x_params, .slice a_x_temps x.temps.length c_x_temps, .slice a_x_body x.body.length c_x_body] ∧ Rep w (strs x.params) [.slice a_x_params x.params.length c_x_params] ∧ Rep w (strs x.temps) [.slice a_x_temps x.temps.length c_x_temps] ∧ Rep w (MExprs x.body) [.slice a_x_body x.body.length c_x_body] := by
  obtain ⟨fp, h⟩ := h
  rw [MMethod.d_eq] at h
  have h0 := RepF.un_st h
  clear h
  obtain ⟨cs1, rfl, h1⟩ := RepS.un_str h0
  clear h0
  obtain ⟨cs2, rfl, h2⟩ := RepS.un_bool h1
  clear h1
  obtain ⟨a_x_params, c_x_params, cs3, _, _, rfl, rfl, r_params, h3⟩ := RepS.un_sl h2
  simp only [List.length_map] at r_params
  clear h2
  obtain ⟨a_x_temps, c_x_temps, cs4, _, _, rfl, rfl, r_temps, h4⟩ := RepS.un_sl h3
  simp only [List.length_map] at r_temps
  clear h3
  obtain ⟨a_x_body, c_x_body, cs5, _, _, rfl, rfl, r_body, h5⟩ := RepS.un_sl h4
  simp only [List.length_map] at r_body
  clear h4
  have h := h5
  obtain ⟨rfl, rfl⟩ := h
  exact ⟨_, _, _, _, _, _, by first | rfl | (simp only [List.length_map]; done) | (simp only [List.length_map]; rfl), r_params.rep, r_temps.rep, r_body.rep⟩

theorem MMethod.shut {w : World} {x : MMethod} {v_params : Value} {f_params : List Nat} (h_params : RepF w (strs x.params) [v_params] f_params) {v_temps : Value} {f_temps : List Nat} (h_temps : RepF w (strs x.temps) [v_temps] f_temps) {v_body : Value} {f_body : List Nat} (h_body : RepF w (MExprs x.body) [v_body] f_body) : RepF w x.d (.string x.selector :: (.bool x.cls :: (v_params :: (v_temps :: (v_body :: ([])))))) (f_params ++ (f_temps ++ (f_body ++ ([])))) := by
  rw [MMethod.d_eq]
  exact RepF.st (.str _ (.bool _ (.one h_params (.one h_temps (.one h_body (.nil _))))))

structure MClassDef where
  name : ByteArray
  parent : ByteArray
  fields : List ByteArray
  methods : List MMethod

def MClassDef.d (x : MClassDef) : D := .st [.str x.name, .str x.parent, strs x.fields, MMethods x.methods]

theorem MClassDef.d_eq (x : MClassDef) : x.d = .st [.str x.name, .str x.parent, strs x.fields, MMethods x.methods] := rfl

def MClassDefs (l : List MClassDef) : D := .sl 4 (l.map MClassDef.d)

theorem MClassDef.op_en {w : World} {x : MClassDef} {cs : List Value} (h : Rep w x.d cs) : ∃ a_x_fields c_x_fields, ∃ a_x_methods c_x_methods, cs = [.string x.name, .string x.parent, .slice a_x_fields x.fields.length c_x_fields, .slice a_x_methods x.methods.length c_x_methods] ∧ Rep w (strs x.fields) [.slice a_x_fields x.fields.length c_x_fields] ∧ Rep w (MMethods x.methods) [.slice a_x_methods x.methods.length c_x_methods] := by
  obtain ⟨fp, h⟩ := h
  rw [MClassDef.d_eq] at h
  have h0 := RepF.un_st h
  clear h
  obtain ⟨cs1, rfl, h1⟩ := RepS.un_str h0
  clear h0
  obtain ⟨cs2, rfl, h2⟩ := RepS.un_str h1
  clear h1
  obtain ⟨a_x_fields, c_x_fields, cs3, _, _, rfl, rfl, r_fields, h3⟩ := RepS.un_sl h2
  simp only [List.length_map] at r_fields
  clear h2
  obtain ⟨a_x_methods, c_x_methods, cs4, _, _, rfl, rfl, r_methods, h4⟩ := RepS.un_sl h3
  simp only [List.length_map] at r_methods
  clear h3
  have h := h4
  obtain ⟨rfl, rfl⟩ := h
  exact ⟨_, _, _, _, by first | rfl | (simp only [List.length_map]; done) | (simp only [List.length_map]; rfl), r_fields.rep, r_methods.rep⟩

theorem MClassDef.shut {w : World} {x : MClassDef} {v_fields : Value} {f_fields : List Nat} (h_fields : RepF w (strs x.fields) [v_fields] f_fields) {v_methods : Value} {f_methods : List Nat} (h_methods : RepF w (MMethods x.methods) [v_methods] f_methods) : RepF w x.d (.string x.name :: (.string x.parent :: (v_fields :: (v_methods :: ([]))))) (f_fields ++ (f_methods ++ ([]))) := by
  rw [MClassDef.d_eq]
  exact RepF.st (.str _ (.str _ (.one h_fields (.one h_methods (.nil _)))))

structure MUnit where
  classes : List MClassDef
  main : MMethod

def MUnit.d (x : MUnit) : D := .st [MClassDefs x.classes, x.main.d]

theorem MUnit.d_eq (x : MUnit) : x.d = .st [MClassDefs x.classes, x.main.d] := rfl

def MUnits (l : List MUnit) : D := .sl 6 (l.map MUnit.d)

theorem MUnit.op_en {w : World} {x : MUnit} {cs : List Value} (h : Rep w x.d cs) : ∃ a_x_classes c_x_classes, ∃ a_x_main_params c_x_main_params, ∃ a_x_main_temps c_x_main_temps, ∃ a_x_main_body c_x_main_body, cs = [.slice a_x_classes x.classes.length c_x_classes, .string x.main.selector, .bool x.main.cls, .slice a_x_main_params x.main.params.length c_x_main_params, .slice a_x_main_temps x.main.temps.length c_x_main_temps, .slice a_x_main_body x.main.body.length c_x_main_body] ∧ Rep w (MClassDefs x.classes) [.slice a_x_classes x.classes.length c_x_classes] ∧ Rep w (strs x.main.params) [.slice a_x_main_params x.main.params.length c_x_main_params] ∧ Rep w (strs x.main.temps) [.slice a_x_main_temps x.main.temps.length c_x_main_temps] ∧ Rep w (MExprs x.main.body) [.slice a_x_main_body x.main.body.length c_x_main_body] ∧ Rep w x.main.d [.string x.main.selector, .bool x.main.cls, .slice a_x_main_params x.main.params.length c_x_main_params, .slice a_x_main_temps x.main.temps.length c_x_main_temps, .slice a_x_main_body x.main.body.length c_x_main_body] := by
  obtain ⟨fp, h⟩ := h
  rw [MUnit.d_eq] at h
  have h0 := RepF.un_st h
  clear h
  obtain ⟨a_x_classes, c_x_classes, cs1, _, _, rfl, rfl, r_classes, h1⟩ := RepS.un_sl h0
  simp only [List.length_map] at r_classes
  clear h0
  obtain ⟨_, cs2, _, _, rfl, rfl, r_main, h2⟩ := RepS.un_sub h1
  obtain ⟨a_x_main_params, c_x_main_params, a_x_main_temps, c_x_main_temps, a_x_main_body, c_x_main_body, rfl, r_main_params, r_main_temps, r_main_body⟩ := MMethod.op_en r_main.rep
  clear h1
  have h := h2
  obtain ⟨rfl, rfl⟩ := h
  exact ⟨_, _, _, _, _, _, _, _, by first | rfl | (simp only [List.length_map]; done) | (simp only [List.length_map]; rfl), r_classes.rep, r_main_params, r_main_temps, r_main_body, r_main.rep⟩

theorem MUnit.shut {w : World} {x : MUnit} {v_classes : Value} {f_classes : List Nat} (h_classes : RepF w (MClassDefs x.classes) [v_classes] f_classes) {c_main : List Value} {f_main : List Nat} (h_main : RepF w x.main.d c_main f_main) : RepF w x.d (v_classes :: (c_main ++ ([]))) (f_classes ++ (f_main ++ ([]))) := by
  rw [MUnit.d_eq]
  exact RepF.st (.one h_classes (.sub h_main (.nil _)))

structure MClassInfo where
  name : ByteArray
  parent : Int
  fields : List ByteArray

def MClassInfo.d (x : MClassInfo) : D := .st [.str x.name, .int x.parent, strs x.fields]

theorem MClassInfo.d_eq (x : MClassInfo) : x.d = .st [.str x.name, .int x.parent, strs x.fields] := rfl

def MClassInfos (l : List MClassInfo) : D := .sl 3 (l.map MClassInfo.d)

theorem MClassInfo.op_en {w : World} {x : MClassInfo} {cs : List Value} (h : Rep w x.d cs) : ∃ a_x_fields c_x_fields, cs = [.string x.name, .int .i64 x.parent, .slice a_x_fields x.fields.length c_x_fields] ∧ Rep w (strs x.fields) [.slice a_x_fields x.fields.length c_x_fields] := by
  obtain ⟨fp, h⟩ := h
  rw [MClassInfo.d_eq] at h
  have h0 := RepF.un_st h
  clear h
  obtain ⟨cs1, rfl, h1⟩ := RepS.un_str h0
  clear h0
  obtain ⟨cs2, rfl, h2⟩ := RepS.un_int h1
  clear h1
  obtain ⟨a_x_fields, c_x_fields, cs3, _, _, rfl, rfl, r_fields, h3⟩ := RepS.un_sl h2
  simp only [List.length_map] at r_fields
  clear h2
  have h := h3
  obtain ⟨rfl, rfl⟩ := h
  exact ⟨_, _, by first | rfl | (simp only [List.length_map]; done) | (simp only [List.length_map]; rfl), r_fields.rep⟩

theorem MClassInfo.shut {w : World} {x : MClassInfo} {v_fields : Value} {f_fields : List Nat} (h_fields : RepF w (strs x.fields) [v_fields] f_fields) : RepF w x.d (.string x.name :: (.int .i64 x.parent :: (v_fields :: ([])))) (f_fields ++ ([])) := by
  rw [MClassInfo.d_eq]
  exact RepF.st (.str _ (.int _ (.one h_fields (.nil _))))

structure MCore where
  kind : Int
  text : ByteArray
  number : Int
  depth : Int
  kids : List MCore

mutual
def MCore.d : MCore → D
  | ⟨kind, text, number, depth, kids⟩ => .st [.int kind, .str text, .int number, .int depth, .sl 5 (MCore.dl kids)]
def MCore.dl : List MCore → List D
  | [] => []
  | x :: xs => x.d :: MCore.dl xs
end

theorem MCore.dl_eq (l : List MCore) : MCore.dl l = l.map MCore.d := by
  induction l with
  | nil => simp [MCore.dl]
  | cons x xs ih => simp [MCore.dl, ih]

def MCores (l : List MCore) : D := .sl 5 (l.map MCore.d)

theorem MCore.d_eq (x : MCore) : x.d = .st [.int x.kind, .str x.text, .int x.number, .int x.depth, MCores x.kids] := by
  obtain ⟨kind, text, number, depth, kids⟩ := x
  rw [MCore.d, MCore.dl_eq]; rfl

theorem MCore.kid_lt {x k : MCore} (h : k ∈ x.kids) : SizeOf.sizeOf k < SizeOf.sizeOf x := by
  obtain ⟨_, _, _, _, _⟩ := x
  have := List.sizeOf_lt_of_mem h
  simp only [MCore.mk.sizeOf_spec]
  simp at this
  omega

theorem MCore.op_en {w : World} {x : MCore} {cs : List Value} (h : Rep w x.d cs) : ∃ a_x_kids c_x_kids, cs = [.int .i64 x.kind, .string x.text, .int .i64 x.number, .int .i64 x.depth, .slice a_x_kids x.kids.length c_x_kids] ∧ Rep w (MCores x.kids) [.slice a_x_kids x.kids.length c_x_kids] := by
  obtain ⟨fp, h⟩ := h
  rw [MCore.d_eq] at h
  have h0 := RepF.un_st h
  clear h
  obtain ⟨cs1, rfl, h1⟩ := RepS.un_int h0
  clear h0
  obtain ⟨cs2, rfl, h2⟩ := RepS.un_str h1
  clear h1
  obtain ⟨cs3, rfl, h3⟩ := RepS.un_int h2
  clear h2
  obtain ⟨cs4, rfl, h4⟩ := RepS.un_int h3
  clear h3
  obtain ⟨a_x_kids, c_x_kids, cs5, _, _, rfl, rfl, r_kids, h5⟩ := RepS.un_sl h4
  simp only [List.length_map] at r_kids
  clear h4
  have h := h5
  obtain ⟨rfl, rfl⟩ := h
  exact ⟨_, _, by first | rfl | (simp only [List.length_map]; done) | (simp only [List.length_map]; rfl), r_kids.rep⟩

theorem MCore.shut {w : World} {x : MCore} {v_kids : Value} {f_kids : List Nat} (h_kids : RepF w (MCores x.kids) [v_kids] f_kids) : RepF w x.d (.int .i64 x.kind :: (.string x.text :: (.int .i64 x.number :: (.int .i64 x.depth :: (v_kids :: ([])))))) (f_kids ++ ([])) := by
  rw [MCore.d_eq]
  exact RepF.st (.int _ (.str _ (.int _ (.int _ (.one h_kids (.nil _))))))

structure MRoutine where
  selector : ByteArray
  owner : Int
  cls : Bool
  params : Int
  slots : Int
  body : MCore

def MRoutine.d (x : MRoutine) : D := .st [.str x.selector, .int x.owner, .bool x.cls, .int x.params, .int x.slots, x.body.d]

theorem MRoutine.d_eq (x : MRoutine) : x.d = .st [.str x.selector, .int x.owner, .bool x.cls, .int x.params, .int x.slots, x.body.d] := rfl

def MRoutines (l : List MRoutine) : D := .sl 10 (l.map MRoutine.d)

theorem MRoutine.op_en {w : World} {x : MRoutine} {cs : List Value} (h : Rep w x.d cs) : ∃ a_x_body_kids c_x_body_kids, cs = [.string x.selector, .int .i64 x.owner, .bool x.cls, .int .i64 x.params, .int .i64 x.slots, .int .i64 x.body.kind, .string x.body.text, .int .i64 x.body.number, .int .i64 x.body.depth, .slice a_x_body_kids x.body.kids.length c_x_body_kids] ∧ Rep w (MCores x.body.kids) [.slice a_x_body_kids x.body.kids.length c_x_body_kids] ∧ Rep w x.body.d [.int .i64 x.body.kind, .string x.body.text, .int .i64 x.body.number, .int .i64 x.body.depth, .slice a_x_body_kids x.body.kids.length c_x_body_kids] := by
  obtain ⟨fp, h⟩ := h
  rw [MRoutine.d_eq] at h
  have h0 := RepF.un_st h
  clear h
  obtain ⟨cs1, rfl, h1⟩ := RepS.un_str h0
  clear h0
  obtain ⟨cs2, rfl, h2⟩ := RepS.un_int h1
  clear h1
  obtain ⟨cs3, rfl, h3⟩ := RepS.un_bool h2
  clear h2
  obtain ⟨cs4, rfl, h4⟩ := RepS.un_int h3
  clear h3
  obtain ⟨cs5, rfl, h5⟩ := RepS.un_int h4
  clear h4
  obtain ⟨_, cs6, _, _, rfl, rfl, r_body, h6⟩ := RepS.un_sub h5
  obtain ⟨a_x_body_kids, c_x_body_kids, rfl, r_body_kids⟩ := MCore.op_en r_body.rep
  clear h5
  have h := h6
  obtain ⟨rfl, rfl⟩ := h
  exact ⟨_, _, by first | rfl | (simp only [List.length_map]; done) | (simp only [List.length_map]; rfl), r_body_kids, r_body.rep⟩

theorem MRoutine.shut {w : World} {x : MRoutine} {c_body : List Value} {f_body : List Nat} (h_body : RepF w x.body.d c_body f_body) : RepF w x.d (.string x.selector :: (.int .i64 x.owner :: (.bool x.cls :: (.int .i64 x.params :: (.int .i64 x.slots :: (c_body ++ ([]))))))) (f_body ++ ([])) := by
  rw [MRoutine.d_eq]
  exact RepF.st (.str _ (.int _ (.bool _ (.int _ (.int _ (.sub h_body (.nil _)))))))

structure MSystem where
  classes : List MClassInfo
  routines : List MRoutine
  main : MRoutine

def MSystem.d (x : MSystem) : D := .st [MClassInfos x.classes, MRoutines x.routines, x.main.d]

theorem MSystem.d_eq (x : MSystem) : x.d = .st [MClassInfos x.classes, MRoutines x.routines, x.main.d] := rfl

def MSystems (l : List MSystem) : D := .sl 12 (l.map MSystem.d)

theorem MSystem.op_en {w : World} {x : MSystem} {cs : List Value} (h : Rep w x.d cs) : ∃ a_x_classes c_x_classes, ∃ a_x_routines c_x_routines, ∃ a_x_main_body_kids c_x_main_body_kids, cs = [.slice a_x_classes x.classes.length c_x_classes, .slice a_x_routines x.routines.length c_x_routines, .string x.main.selector, .int .i64 x.main.owner, .bool x.main.cls, .int .i64 x.main.params, .int .i64 x.main.slots, .int .i64 x.main.body.kind, .string x.main.body.text, .int .i64 x.main.body.number, .int .i64 x.main.body.depth, .slice a_x_main_body_kids x.main.body.kids.length c_x_main_body_kids] ∧ Rep w (MClassInfos x.classes) [.slice a_x_classes x.classes.length c_x_classes] ∧ Rep w (MRoutines x.routines) [.slice a_x_routines x.routines.length c_x_routines] ∧ Rep w (MCores x.main.body.kids) [.slice a_x_main_body_kids x.main.body.kids.length c_x_main_body_kids] ∧ Rep w x.main.d [.string x.main.selector, .int .i64 x.main.owner, .bool x.main.cls, .int .i64 x.main.params, .int .i64 x.main.slots, .int .i64 x.main.body.kind, .string x.main.body.text, .int .i64 x.main.body.number, .int .i64 x.main.body.depth, .slice a_x_main_body_kids x.main.body.kids.length c_x_main_body_kids] := by
  obtain ⟨fp, h⟩ := h
  rw [MSystem.d_eq] at h
  have h0 := RepF.un_st h
  clear h
  obtain ⟨a_x_classes, c_x_classes, cs1, _, _, rfl, rfl, r_classes, h1⟩ := RepS.un_sl h0
  simp only [List.length_map] at r_classes
  clear h0
  obtain ⟨a_x_routines, c_x_routines, cs2, _, _, rfl, rfl, r_routines, h2⟩ := RepS.un_sl h1
  simp only [List.length_map] at r_routines
  clear h1
  obtain ⟨_, cs3, _, _, rfl, rfl, r_main, h3⟩ := RepS.un_sub h2
  obtain ⟨a_x_main_body_kids, c_x_main_body_kids, rfl, r_main_body_kids, _⟩ := MRoutine.op_en r_main.rep
  clear h2
  have h := h3
  obtain ⟨rfl, rfl⟩ := h
  exact ⟨_, _, _, _, _, _, by first | rfl | (simp only [List.length_map]; done) | (simp only [List.length_map]; rfl), r_classes.rep, r_routines.rep, r_main_body_kids, r_main.rep⟩

theorem MSystem.shut {w : World} {x : MSystem} {v_classes : Value} {f_classes : List Nat} (h_classes : RepF w (MClassInfos x.classes) [v_classes] f_classes) {v_routines : Value} {f_routines : List Nat} (h_routines : RepF w (MRoutines x.routines) [v_routines] f_routines) {c_main : List Value} {f_main : List Nat} (h_main : RepF w x.main.d c_main f_main) : RepF w x.d (v_classes :: (v_routines :: (c_main ++ ([])))) (f_classes ++ (f_routines ++ (f_main ++ ([])))) := by
  rw [MSystem.d_eq]
  exact RepF.st (.one h_classes (.one h_routines (.sub h_main (.nil _))))

structure MValue where
  kind : Int
  number : Int
  text : ByteArray

def MValue.d (x : MValue) : D := .st [.int x.kind, .int x.number, .str x.text]

theorem MValue.d_eq (x : MValue) : x.d = .st [.int x.kind, .int x.number, .str x.text] := rfl

def MValues (l : List MValue) : D := .sl 3 (l.map MValue.d)

theorem MValue.op_en {w : World} {x : MValue} {cs : List Value} (h : Rep w x.d cs) : cs = [.int .i64 x.kind, .int .i64 x.number, .string x.text] := by
  obtain ⟨fp, h⟩ := h
  rw [MValue.d_eq] at h
  have h0 := RepF.un_st h
  clear h
  obtain ⟨cs1, rfl, h1⟩ := RepS.un_int h0
  clear h0
  obtain ⟨cs2, rfl, h2⟩ := RepS.un_int h1
  clear h1
  obtain ⟨cs3, rfl, h3⟩ := RepS.un_str h2
  clear h2
  have h := h3
  obtain ⟨rfl, rfl⟩ := h
  rfl

theorem MValue.shut {w : World} {x : MValue}  : RepF w x.d (.int .i64 x.kind :: (.int .i64 x.number :: (.string x.text :: ([])))) ([]) := by
  rw [MValue.d_eq]
  exact RepF.st (.int _ (.int _ (.str _ (.nil _))))

structure MObject where
  kind : Int
  cls : Int
  fields : List MValue
  numbers : List Int

def MObject.d (x : MObject) : D := .st [.int x.kind, .int x.cls, MValues x.fields, ints x.numbers]

theorem MObject.d_eq (x : MObject) : x.d = .st [.int x.kind, .int x.cls, MValues x.fields, ints x.numbers] := rfl

def MObjects (l : List MObject) : D := .sl 4 (l.map MObject.d)

theorem MObject.op_en {w : World} {x : MObject} {cs : List Value} (h : Rep w x.d cs) : ∃ a_x_fields c_x_fields, ∃ a_x_numbers c_x_numbers, cs = [.int .i64 x.kind, .int .i64 x.cls, .slice a_x_fields x.fields.length c_x_fields, .slice a_x_numbers x.numbers.length c_x_numbers] ∧ Rep w (MValues x.fields) [.slice a_x_fields x.fields.length c_x_fields] ∧ Rep w (ints x.numbers) [.slice a_x_numbers x.numbers.length c_x_numbers] := by
  obtain ⟨fp, h⟩ := h
  rw [MObject.d_eq] at h
  have h0 := RepF.un_st h
  clear h
  obtain ⟨cs1, rfl, h1⟩ := RepS.un_int h0
  clear h0
  obtain ⟨cs2, rfl, h2⟩ := RepS.un_int h1
  clear h1
  obtain ⟨a_x_fields, c_x_fields, cs3, _, _, rfl, rfl, r_fields, h3⟩ := RepS.un_sl h2
  simp only [List.length_map] at r_fields
  clear h2
  obtain ⟨a_x_numbers, c_x_numbers, cs4, _, _, rfl, rfl, r_numbers, h4⟩ := RepS.un_sl h3
  simp only [List.length_map] at r_numbers
  clear h3
  have h := h4
  obtain ⟨rfl, rfl⟩ := h
  exact ⟨_, _, _, _, by first | rfl | (simp only [List.length_map]; done) | (simp only [List.length_map]; rfl), r_fields.rep, r_numbers.rep⟩

theorem MObject.shut {w : World} {x : MObject} {v_fields : Value} {f_fields : List Nat} (h_fields : RepF w (MValues x.fields) [v_fields] f_fields) {v_numbers : Value} {f_numbers : List Nat} (h_numbers : RepF w (ints x.numbers) [v_numbers] f_numbers) : RepF w x.d (.int .i64 x.kind :: (.int .i64 x.cls :: (v_fields :: (v_numbers :: ([]))))) (f_fields ++ (f_numbers ++ ([]))) := by
  rw [MObject.d_eq]
  exact RepF.st (.int _ (.int _ (.one h_fields (.one h_numbers (.nil _)))))

structure MStore where
  classes : List MClassInfo
  objects : List MObject
  output : List ByteArray
  ticks : Int
  budget : Int
  made : Int

def MStore.d (x : MStore) : D := .st [MClassInfos x.classes, MObjects x.objects, strs x.output, .int x.ticks, .int x.budget, .int x.made]

theorem MStore.d_eq (x : MStore) : x.d = .st [MClassInfos x.classes, MObjects x.objects, strs x.output, .int x.ticks, .int x.budget, .int x.made] := rfl

def MStores (l : List MStore) : D := .sl 6 (l.map MStore.d)

theorem MStore.op_en {w : World} {x : MStore} {cs : List Value} (h : Rep w x.d cs) : ∃ a_x_classes c_x_classes, ∃ a_x_objects c_x_objects, ∃ a_x_output c_x_output, cs = [.slice a_x_classes x.classes.length c_x_classes, .slice a_x_objects x.objects.length c_x_objects, .slice a_x_output x.output.length c_x_output, .int .i64 x.ticks, .int .i64 x.budget, .int .i64 x.made] ∧ Rep w (MClassInfos x.classes) [.slice a_x_classes x.classes.length c_x_classes] ∧ Rep w (MObjects x.objects) [.slice a_x_objects x.objects.length c_x_objects] ∧ Rep w (strs x.output) [.slice a_x_output x.output.length c_x_output] := by
  obtain ⟨fp, h⟩ := h
  rw [MStore.d_eq] at h
  have h0 := RepF.un_st h
  clear h
  obtain ⟨a_x_classes, c_x_classes, cs1, _, _, rfl, rfl, r_classes, h1⟩ := RepS.un_sl h0
  simp only [List.length_map] at r_classes
  clear h0
  obtain ⟨a_x_objects, c_x_objects, cs2, _, _, rfl, rfl, r_objects, h2⟩ := RepS.un_sl h1
  simp only [List.length_map] at r_objects
  clear h1
  obtain ⟨a_x_output, c_x_output, cs3, _, _, rfl, rfl, r_output, h3⟩ := RepS.un_sl h2
  simp only [List.length_map] at r_output
  clear h2
  obtain ⟨cs4, rfl, h4⟩ := RepS.un_int h3
  clear h3
  obtain ⟨cs5, rfl, h5⟩ := RepS.un_int h4
  clear h4
  obtain ⟨cs6, rfl, h6⟩ := RepS.un_int h5
  clear h5
  have h := h6
  obtain ⟨rfl, rfl⟩ := h
  exact ⟨_, _, _, _, _, _, by first | rfl | (simp only [List.length_map]; done) | (simp only [List.length_map]; rfl), r_classes.rep, r_objects.rep, r_output.rep⟩

theorem MStore.shut {w : World} {x : MStore} {v_classes : Value} {f_classes : List Nat} (h_classes : RepF w (MClassInfos x.classes) [v_classes] f_classes) {v_objects : Value} {f_objects : List Nat} (h_objects : RepF w (MObjects x.objects) [v_objects] f_objects) {v_output : Value} {f_output : List Nat} (h_output : RepF w (strs x.output) [v_output] f_output) : RepF w x.d (v_classes :: (v_objects :: (v_output :: (.int .i64 x.ticks :: (.int .i64 x.budget :: (.int .i64 x.made :: ([]))))))) (f_classes ++ (f_objects ++ (f_output ++ ([])))) := by
  rw [MStore.d_eq]
  exact RepF.st (.one h_classes (.one h_objects (.one h_output (.int _ (.int _ (.int _ (.nil _)))))))

structure MOutcome where
  status : Int
  value : ByteArray
  fault : ByteArray
  output : List ByteArray
  ticks : Int

def MOutcome.d (x : MOutcome) : D := .st [.int x.status, .str x.value, .str x.fault, strs x.output, .int x.ticks]

theorem MOutcome.d_eq (x : MOutcome) : x.d = .st [.int x.status, .str x.value, .str x.fault, strs x.output, .int x.ticks] := rfl

def MOutcomes (l : List MOutcome) : D := .sl 5 (l.map MOutcome.d)

theorem MOutcome.op_en {w : World} {x : MOutcome} {cs : List Value} (h : Rep w x.d cs) : ∃ a_x_output c_x_output, cs = [.int .i64 x.status, .string x.value, .string x.fault, .slice a_x_output x.output.length c_x_output, .int .i64 x.ticks] ∧ Rep w (strs x.output) [.slice a_x_output x.output.length c_x_output] := by
  obtain ⟨fp, h⟩ := h
  rw [MOutcome.d_eq] at h
  have h0 := RepF.un_st h
  clear h
  obtain ⟨cs1, rfl, h1⟩ := RepS.un_int h0
  clear h0
  obtain ⟨cs2, rfl, h2⟩ := RepS.un_str h1
  clear h1
  obtain ⟨cs3, rfl, h3⟩ := RepS.un_str h2
  clear h2
  obtain ⟨a_x_output, c_x_output, cs4, _, _, rfl, rfl, r_output, h4⟩ := RepS.un_sl h3
  simp only [List.length_map] at r_output
  clear h3
  obtain ⟨cs5, rfl, h5⟩ := RepS.un_int h4
  clear h4
  have h := h5
  obtain ⟨rfl, rfl⟩ := h
  exact ⟨_, _, by first | rfl | (simp only [List.length_map]; done) | (simp only [List.length_map]; rfl), r_output.rep⟩

theorem MOutcome.shut {w : World} {x : MOutcome} {v_output : Value} {f_output : List Nat} (h_output : RepF w (strs x.output) [v_output] f_output) : RepF w x.d (.int .i64 x.status :: (.string x.value :: (.string x.fault :: (v_output :: (.int .i64 x.ticks :: ([])))))) (f_output ++ ([])) := by
  rw [MOutcome.d_eq]
  exact RepF.st (.int _ (.str _ (.str _ (.one h_output (.int _ (.nil _))))))

structure MInstr where
  op : Int
  a : Int
  b : Int
  text : ByteArray

def MInstr.d (x : MInstr) : D := .st [.int x.op, .int x.a, .int x.b, .str x.text]

theorem MInstr.d_eq (x : MInstr) : x.d = .st [.int x.op, .int x.a, .int x.b, .str x.text] := rfl

def MInstrs (l : List MInstr) : D := .sl 4 (l.map MInstr.d)

theorem MInstr.op_en {w : World} {x : MInstr} {cs : List Value} (h : Rep w x.d cs) : cs = [.int .i64 x.op, .int .i64 x.a, .int .i64 x.b, .string x.text] := by
  obtain ⟨fp, h⟩ := h
  rw [MInstr.d_eq] at h
  have h0 := RepF.un_st h
  clear h
  obtain ⟨cs1, rfl, h1⟩ := RepS.un_int h0
  clear h0
  obtain ⟨cs2, rfl, h2⟩ := RepS.un_int h1
  clear h1
  obtain ⟨cs3, rfl, h3⟩ := RepS.un_int h2
  clear h2
  obtain ⟨cs4, rfl, h4⟩ := RepS.un_str h3
  clear h3
  have h := h4
  obtain ⟨rfl, rfl⟩ := h
  rfl

theorem MInstr.shut {w : World} {x : MInstr}  : RepF w x.d (.int .i64 x.op :: (.int .i64 x.a :: (.int .i64 x.b :: (.string x.text :: ([]))))) ([]) := by
  rw [MInstr.d_eq]
  exact RepF.st (.int _ (.int _ (.int _ (.str _ (.nil _)))))

structure MCode where
  block : Bool
  params : Int
  slots : Int
  instrs : List MInstr

def MCode.d (x : MCode) : D := .st [.bool x.block, .int x.params, .int x.slots, MInstrs x.instrs]

theorem MCode.d_eq (x : MCode) : x.d = .st [.bool x.block, .int x.params, .int x.slots, MInstrs x.instrs] := rfl

def MCodes (l : List MCode) : D := .sl 4 (l.map MCode.d)

theorem MCode.op_en {w : World} {x : MCode} {cs : List Value} (h : Rep w x.d cs) : ∃ a_x_instrs c_x_instrs, cs = [.bool x.block, .int .i64 x.params, .int .i64 x.slots, .slice a_x_instrs x.instrs.length c_x_instrs] ∧ Rep w (MInstrs x.instrs) [.slice a_x_instrs x.instrs.length c_x_instrs] := by
  obtain ⟨fp, h⟩ := h
  rw [MCode.d_eq] at h
  have h0 := RepF.un_st h
  clear h
  obtain ⟨cs1, rfl, h1⟩ := RepS.un_bool h0
  clear h0
  obtain ⟨cs2, rfl, h2⟩ := RepS.un_int h1
  clear h1
  obtain ⟨cs3, rfl, h3⟩ := RepS.un_int h2
  clear h2
  obtain ⟨a_x_instrs, c_x_instrs, cs4, _, _, rfl, rfl, r_instrs, h4⟩ := RepS.un_sl h3
  simp only [List.length_map] at r_instrs
  clear h3
  have h := h4
  obtain ⟨rfl, rfl⟩ := h
  exact ⟨_, _, by first | rfl | (simp only [List.length_map]; done) | (simp only [List.length_map]; rfl), r_instrs.rep⟩

theorem MCode.shut {w : World} {x : MCode} {v_instrs : Value} {f_instrs : List Nat} (h_instrs : RepF w (MInstrs x.instrs) [v_instrs] f_instrs) : RepF w x.d (.bool x.block :: (.int .i64 x.params :: (.int .i64 x.slots :: (v_instrs :: ([]))))) (f_instrs ++ ([])) := by
  rw [MCode.d_eq]
  exact RepF.st (.bool _ (.int _ (.int _ (.one h_instrs (.nil _)))))

structure MEntry where
  owner : Int
  cls : Bool
  selector : ByteArray
  code : Int

def MEntry.d (x : MEntry) : D := .st [.int x.owner, .bool x.cls, .str x.selector, .int x.code]

theorem MEntry.d_eq (x : MEntry) : x.d = .st [.int x.owner, .bool x.cls, .str x.selector, .int x.code] := rfl

def MEntrys (l : List MEntry) : D := .sl 4 (l.map MEntry.d)

theorem MEntry.op_en {w : World} {x : MEntry} {cs : List Value} (h : Rep w x.d cs) : cs = [.int .i64 x.owner, .bool x.cls, .string x.selector, .int .i64 x.code] := by
  obtain ⟨fp, h⟩ := h
  rw [MEntry.d_eq] at h
  have h0 := RepF.un_st h
  clear h
  obtain ⟨cs1, rfl, h1⟩ := RepS.un_int h0
  clear h0
  obtain ⟨cs2, rfl, h2⟩ := RepS.un_bool h1
  clear h1
  obtain ⟨cs3, rfl, h3⟩ := RepS.un_str h2
  clear h2
  obtain ⟨cs4, rfl, h4⟩ := RepS.un_int h3
  clear h3
  have h := h4
  obtain ⟨rfl, rfl⟩ := h
  rfl

theorem MEntry.shut {w : World} {x : MEntry}  : RepF w x.d (.int .i64 x.owner :: (.bool x.cls :: (.string x.selector :: (.int .i64 x.code :: ([]))))) ([]) := by
  rw [MEntry.d_eq]
  exact RepF.st (.int _ (.bool _ (.str _ (.int _ (.nil _)))))

structure MCodeBase where
  classes : List MClassInfo
  codes : List MCode
  entries : List MEntry
  main : Int

def MCodeBase.d (x : MCodeBase) : D := .st [MClassInfos x.classes, MCodes x.codes, MEntrys x.entries, .int x.main]

theorem MCodeBase.d_eq (x : MCodeBase) : x.d = .st [MClassInfos x.classes, MCodes x.codes, MEntrys x.entries, .int x.main] := rfl

def MCodeBases (l : List MCodeBase) : D := .sl 4 (l.map MCodeBase.d)

theorem MCodeBase.op_en {w : World} {x : MCodeBase} {cs : List Value} (h : Rep w x.d cs) : ∃ a_x_classes c_x_classes, ∃ a_x_codes c_x_codes, ∃ a_x_entries c_x_entries, cs = [.slice a_x_classes x.classes.length c_x_classes, .slice a_x_codes x.codes.length c_x_codes, .slice a_x_entries x.entries.length c_x_entries, .int .i64 x.main] ∧ Rep w (MClassInfos x.classes) [.slice a_x_classes x.classes.length c_x_classes] ∧ Rep w (MCodes x.codes) [.slice a_x_codes x.codes.length c_x_codes] ∧ Rep w (MEntrys x.entries) [.slice a_x_entries x.entries.length c_x_entries] := by
  obtain ⟨fp, h⟩ := h
  rw [MCodeBase.d_eq] at h
  have h0 := RepF.un_st h
  clear h
  obtain ⟨a_x_classes, c_x_classes, cs1, _, _, rfl, rfl, r_classes, h1⟩ := RepS.un_sl h0
  simp only [List.length_map] at r_classes
  clear h0
  obtain ⟨a_x_codes, c_x_codes, cs2, _, _, rfl, rfl, r_codes, h2⟩ := RepS.un_sl h1
  simp only [List.length_map] at r_codes
  clear h1
  obtain ⟨a_x_entries, c_x_entries, cs3, _, _, rfl, rfl, r_entries, h3⟩ := RepS.un_sl h2
  simp only [List.length_map] at r_entries
  clear h2
  obtain ⟨cs4, rfl, h4⟩ := RepS.un_int h3
  clear h3
  have h := h4
  obtain ⟨rfl, rfl⟩ := h
  exact ⟨_, _, _, _, _, _, by first | rfl | (simp only [List.length_map]; done) | (simp only [List.length_map]; rfl), r_classes.rep, r_codes.rep, r_entries.rep⟩

theorem MCodeBase.shut {w : World} {x : MCodeBase} {v_classes : Value} {f_classes : List Nat} (h_classes : RepF w (MClassInfos x.classes) [v_classes] f_classes) {v_codes : Value} {f_codes : List Nat} (h_codes : RepF w (MCodes x.codes) [v_codes] f_codes) {v_entries : Value} {f_entries : List Nat} (h_entries : RepF w (MEntrys x.entries) [v_entries] f_entries) : RepF w x.d (v_classes :: (v_codes :: (v_entries :: (.int .i64 x.main :: ([]))))) (f_classes ++ (f_codes ++ (f_entries ++ ([])))) := by
  rw [MCodeBase.d_eq]
  exact RepF.st (.one h_classes (.one h_codes (.one h_entries (.int _ (.nil _)))))

structure MResult where
  code : Int
  value : MValue
  text : ByteArray

def MResult.d (x : MResult) : D := .st [.int x.code, x.value.d, .str x.text]

theorem MResult.d_eq (x : MResult) : x.d = .st [.int x.code, x.value.d, .str x.text] := rfl

def MResults (l : List MResult) : D := .sl 5 (l.map MResult.d)

theorem MResult.op_en {w : World} {x : MResult} {cs : List Value} (h : Rep w x.d cs) : cs = [.int .i64 x.code, .int .i64 x.value.kind, .int .i64 x.value.number, .string x.value.text, .string x.text] ∧ Rep w x.value.d [.int .i64 x.value.kind, .int .i64 x.value.number, .string x.value.text] := by
  obtain ⟨fp, h⟩ := h
  rw [MResult.d_eq] at h
  have h0 := RepF.un_st h
  clear h
  obtain ⟨cs1, rfl, h1⟩ := RepS.un_int h0
  clear h0
  obtain ⟨_, cs2, _, _, rfl, rfl, r_value, h2⟩ := RepS.un_sub h1
  obtain rfl := MValue.op_en r_value.rep
  clear h1
  obtain ⟨cs3, rfl, h3⟩ := RepS.un_str h2
  clear h2
  have h := h3
  obtain ⟨rfl, rfl⟩ := h
  exact ⟨rfl, r_value.rep⟩

theorem MResult.shut {w : World} {x : MResult} {c_value : List Value} {f_value : List Nat} (h_value : RepF w x.value.d c_value f_value) : RepF w x.d (.int .i64 x.code :: (c_value ++ (.string x.text :: ([])))) (f_value ++ ([])) := by
  rw [MResult.d_eq]
  exact RepF.st (.int _ (.sub h_value (.str _ (.nil _))))


open Go.RowKit
set_option linter.unusedSimpArgs false
set_option linter.unusedVariables false

theorem ret_str {a b : ByteArray} (h : a = b) : Ending.returned (.string a) = .returned (.string b) := by rw [h]
theorem own_new (w : World) (C : Array Value) (e : TypeId) : Own (w.alloc (.cells C e)) w.heap.size e C := heap_alloc_new w _
theorem repR_strs (w : World) : ∀ l : List ByteArray, RepR w 1 (l.map D.str) (l.map Value.string) []
  | [] => by simp [RepR]
  | s :: l => by
    simp only [List.map_cons, RepR]
    exact ⟨[.string s], _, [], [], rfl, rfl, rfl, by simp [RepF], repR_strs w l⟩
/-- A literal slice of texts. -/
theorem gives_strs (w : World) (l : List ByteArray) (e : TypeId) (hl : l.length ≤ maxLen) (h0 : l ≠ []) :
    GivesV w (strs l) (.returned (.slice (some ⟨w.heap.size, 0, none⟩) l.length l.length)) (w.alloc (.cells (l.map Value.string).toArray e)) := by
  refine ⟨_, _, _, [w.heap.size], rfl, ?_, ⟨by simp, by simp, fun b hb => ?_⟩, (Ext.refl w).alloc _⟩
  · refine RepF.sl_iff.2 ⟨_, _, by simp, by simp, hl, by simp, Or.inr ⟨w.heap.size, 0, l.map Value.string, [], by simpa using h0, rfl, rfl, (own_new w _ e).lt, fun j c hc => ?_, repR_strs _ l⟩⟩
    rw [Nat.zero_add, (own_new w _ e).cell]
    simpa using hc
  · simp at hb; subst hb; exact ⟨_, _, own_new w _ e⟩

theorem str_ne' {a : ByteArray} {l : List UInt8} (h : ¬ a = ⟨l.toArray⟩) : (a.toList == l) = false := by
  have := str_ne h
  rwa [show (⟨l.toArray⟩ : ByteArray).toList = l from by simp [ByteArray.toList_eq]] at this
theorem str_eq' {a : ByteArray} {l : List UInt8} (h : a = ⟨l.toArray⟩) : (a.toList == l) = true := by
  have := str_eq h
  rwa [show (⟨l.toArray⟩ : ByteArray).toList = l from by simp [ByteArray.toList_eq]] at this

end Go.Proofs.YtonmcoojgkgemaaGreatDoor
