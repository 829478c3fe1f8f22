/-
  THE LAWS' ARGUMENTS, type by type.
  Conditions: those that each lemma states.
-/
import Derived.Test.YtdngmifgglbbpaaGreatDoorRows
import Derived.Test.YtdngmifgglbbpaaGreatDoorArgs
namespace Go.Proofs.YtdngmifgglbbpaaGreatDoor
open Go.RowKit
set_option linter.unusedSimpArgs false
set_option linter.unusedVariables false


variable {H : Type} {enc : TypeId × Value → H} {W : World} {spare : Nat → Bool} {held : Bool}

theorem Tryz.cells3 : Tryz.prog.cellsOf 3 = 1 := by kernel_rfl

theorem Tryz.cells9 : Tryz.prog.cellsOf 9 = 1 := by kernel_rfl

theorem Tryz.cells48 : Tryz.prog.cellsOf 48 = 1 := by kernel_rfl

theorem Tryz.cells80 : Tryz.prog.cellsOf 80 = 1 := by kernel_rfl

theorem Tryz.cells255 : Tryz.prog.cellsOf 255 = 5 := by kernel_rfl

theorem trod_Expr_lt : ∀ (N fuel : Nat), fuel < N → ∀ (cs : List Value) (d : DataW H × List MemPlace), DataW.trod enc Tryz.prog W 0 spare held fuel 255 cs = some d → ∃ x : MExpr, Rep W x.d cs ∧ x.d.ok := by
  intro N
  induction N with
  | zero => intro fuel hf; omega
  | succ N ih =>
  intro fuel hfu cs d h
  obtain ⟨xs, n, rfl, -, hlen, hxs, hf⟩ := DataW.trod_struct Tryz.underlying255 h
  rw [Tryz.cells255] at hlen
  have hl0 := hlen; clear hlen
  obtain ⟨c0, cs1, rfl, hl1⟩ := len_cons hl0
  obtain ⟨c1, cs2, rfl, hl2⟩ := len_cons hl1
  obtain ⟨c2, cs3, rfl, hl3⟩ := len_cons hl2
  obtain ⟨c3, cs4, rfl, hl4⟩ := len_cons hl3
  obtain ⟨c4, cs5, rfl, hl5⟩ := len_cons hl4
  obtain rfl := len_nil hl5
  obtain ⟨y0, hy0⟩ : ∃ y, xs[0]? = some y := ⟨xs[0]'(by rw [hxs]; decide), by simp⟩
  have g0 := (hf 0 ⟨_, 3, 0, _, _, _, _⟩ rfl).trans hy0
  try dsimp only at g0
  rw [Tryz.cells3] at g0
  have g0 : DataW.trod enc Tryz.prog W 0 spare held n 3 [c0] = some y0 := g0
  obtain ⟨x0, ⟨f0, r0⟩, o0⟩ := trod_int1 Tryz.underlying3 g0
  obtain ⟨y1, hy1⟩ : ∃ y, xs[1]? = some y := ⟨xs[1]'(by rw [hxs]; decide), by simp⟩
  have g1 := (hf 1 ⟨_, 9, 1, _, _, _, _⟩ rfl).trans hy1
  try dsimp only at g1
  rw [Tryz.cells9] at g1
  have g1 : DataW.trod enc Tryz.prog W 0 spare held n 9 [c1] = some y1 := g1
  obtain ⟨x1, ⟨f1, r1⟩, o1⟩ := trod_str1 Tryz.underlying9 g1
  obtain ⟨y2, hy2⟩ : ∃ y, xs[2]? = some y := ⟨xs[2]'(by rw [hxs]; decide), by simp⟩
  have g2 := (hf 2 ⟨_, 3, 2, _, _, _, _⟩ rfl).trans hy2
  try dsimp only at g2
  rw [Tryz.cells3] at g2
  have g2 : DataW.trod enc Tryz.prog W 0 spare held n 3 [c2] = some y2 := g2
  obtain ⟨x2, ⟨f2, r2⟩, o2⟩ := trod_int1 Tryz.underlying3 g2
  obtain ⟨y3, hy3⟩ : ∃ y, xs[3]? = some y := ⟨xs[3]'(by rw [hxs]; decide), by simp⟩
  have g3 := (hf 3 ⟨_, 48, 3, _, _, _, _⟩ rfl).trans hy3
  try dsimp only at g3
  rw [Tryz.cells48] at g3
  have g3 : DataW.trod enc Tryz.prog W 0 spare held n 48 [c3] = some y3 := g3
  obtain ⟨x3, ⟨f3, r3⟩, o3⟩ := trod_sl (f := D.str) Tryz.underlying48 Tryz.cells9 (by decide) (fun _ _ _ _ h => trod_str1 Tryz.underlying9 h) g3
  obtain ⟨y4, hy4⟩ : ∃ y, xs[4]? = some y := ⟨xs[4]'(by rw [hxs]; decide), by simp⟩
  have g4 := (hf 4 ⟨_, 80, 4, _, _, _, _⟩ rfl).trans hy4
  try dsimp only at g4
  rw [Tryz.cells80] at g4
  have g4 : DataW.trod enc Tryz.prog W 0 spare held n 80 [c4] = some y4 := g4
  obtain ⟨x4, ⟨f4, r4⟩, o4⟩ := trod_sl (f := MExpr.d) Tryz.underlying80 Tryz.cells255 (by decide) (fun m hm es d h => ih m (by omega) es d h) g4
  refine ⟨⟨x0, x1, x2, x3, x4⟩, ⟨_, by rw [MExpr.d_eq]; exact RepF.st (.sub r0 (.sub r1 (.sub r2 (.sub r3 (.sub r4 (.nil _))))))⟩, by rw [MExpr.d_eq]; exact ⟨o0, o1, o2, o3, o4, trivial⟩⟩
theorem trod_Expr {fuel : Nat} {cs : List Value} {d : DataW H × List MemPlace} (h : DataW.trod enc Tryz.prog W 0 spare held fuel 255 cs = some d) : ∃ x : MExpr, Rep W x.d cs ∧ x.d.ok := trod_Expr_lt _ _ (Nat.lt_succ_self _) cs d h

theorem Tryz.cells4 : Tryz.prog.cellsOf 4 = 1 := by kernel_rfl

theorem Tryz.cells82 : Tryz.prog.cellsOf 82 = 5 := by kernel_rfl

theorem trod_Method {fuel : Nat} {cs : List Value} {d : DataW H × List MemPlace} (h : DataW.trod enc Tryz.prog W 0 spare held fuel 82 cs = some d) : ∃ x : MMethod, Rep W x.d cs ∧ x.d.ok := by
  obtain ⟨xs, n, rfl, -, hlen, hxs, hf⟩ := DataW.trod_struct Tryz.underlying82 h
  rw [Tryz.cells82] at hlen
  have hl0 := hlen; clear hlen
  obtain ⟨c0, cs1, rfl, hl1⟩ := len_cons hl0
  obtain ⟨c1, cs2, rfl, hl2⟩ := len_cons hl1
  obtain ⟨c2, cs3, rfl, hl3⟩ := len_cons hl2
  obtain ⟨c3, cs4, rfl, hl4⟩ := len_cons hl3
  obtain ⟨c4, cs5, rfl, hl5⟩ := len_cons hl4
  obtain rfl := len_nil hl5
  obtain ⟨y0, hy0⟩ : ∃ y, xs[0]? = some y := ⟨xs[0]'(by rw [hxs]; decide), by simp⟩
  have g0 := (hf 0 ⟨_, 9, 0, _, _, _, _⟩ rfl).trans hy0
  try dsimp only at g0
  rw [Tryz.cells9] at g0
  have g0 : DataW.trod enc Tryz.prog W 0 spare held n 9 [c0] = some y0 := g0
  obtain ⟨x0, ⟨f0, r0⟩, o0⟩ := trod_str1 Tryz.underlying9 g0
  obtain ⟨y1, hy1⟩ : ∃ y, xs[1]? = some y := ⟨xs[1]'(by rw [hxs]; decide), by simp⟩
  have g1 := (hf 1 ⟨_, 4, 1, _, _, _, _⟩ rfl).trans hy1
  try dsimp only at g1
  rw [Tryz.cells4] at g1
  have g1 : DataW.trod enc Tryz.prog W 0 spare held n 4 [c1] = some y1 := g1
  obtain ⟨x1, ⟨f1, r1⟩, o1⟩ := trod_bool1 Tryz.underlying4 g1
  obtain ⟨y2, hy2⟩ : ∃ y, xs[2]? = some y := ⟨xs[2]'(by rw [hxs]; decide), by simp⟩
  have g2 := (hf 2 ⟨_, 48, 2, _, _, _, _⟩ rfl).trans hy2
  try dsimp only at g2
  rw [Tryz.cells48] at g2
  have g2 : DataW.trod enc Tryz.prog W 0 spare held n 48 [c2] = some y2 := g2
  obtain ⟨x2, ⟨f2, r2⟩, o2⟩ := trod_sl (f := D.str) Tryz.underlying48 Tryz.cells9 (by decide) (fun _ _ _ _ h => trod_str1 Tryz.underlying9 h) g2
  obtain ⟨y3, hy3⟩ : ∃ y, xs[3]? = some y := ⟨xs[3]'(by rw [hxs]; decide), by simp⟩
  have g3 := (hf 3 ⟨_, 48, 3, _, _, _, _⟩ rfl).trans hy3
  try dsimp only at g3
  rw [Tryz.cells48] at g3
  have g3 : DataW.trod enc Tryz.prog W 0 spare held n 48 [c3] = some y3 := g3
  obtain ⟨x3, ⟨f3, r3⟩, o3⟩ := trod_sl (f := D.str) Tryz.underlying48 Tryz.cells9 (by decide) (fun _ _ _ _ h => trod_str1 Tryz.underlying9 h) g3
  obtain ⟨y4, hy4⟩ : ∃ y, xs[4]? = some y := ⟨xs[4]'(by rw [hxs]; decide), by simp⟩
  have g4 := (hf 4 ⟨_, 80, 4, _, _, _, _⟩ rfl).trans hy4
  try dsimp only at g4
  rw [Tryz.cells80] at g4
  have g4 : DataW.trod enc Tryz.prog W 0 spare held n 80 [c4] = some y4 := g4
  obtain ⟨x4, ⟨f4, r4⟩, o4⟩ := trod_sl (f := MExpr.d) Tryz.underlying80 Tryz.cells255 (by decide) (fun _ _ _ _ h => trod_Expr h) g4
  refine ⟨⟨x0, x1, x2, x3, x4⟩, ⟨_, by rw [MMethod.d_eq]; exact RepF.st (.sub r0 (.sub r1 (.sub r2 (.sub r3 (.sub r4 (.nil _))))))⟩, by rw [MMethod.d_eq]; exact ⟨o0, o1, o2, o3, o4, trivial⟩⟩

theorem Tryz.cells213 : Tryz.prog.cellsOf 213 = 1 := by kernel_rfl

theorem Tryz.cells215 : Tryz.prog.cellsOf 215 = 4 := by kernel_rfl

theorem trod_ClassDef {fuel : Nat} {cs : List Value} {d : DataW H × List MemPlace} (h : DataW.trod enc Tryz.prog W 0 spare held fuel 215 cs = some d) : ∃ x : MClassDef, Rep W x.d cs ∧ x.d.ok := by
  obtain ⟨xs, n, rfl, -, hlen, hxs, hf⟩ := DataW.trod_struct Tryz.underlying215 h
  rw [Tryz.cells215] at hlen
  have hl0 := hlen; clear hlen
  obtain ⟨c0, cs1, rfl, hl1⟩ := len_cons hl0
  obtain ⟨c1, cs2, rfl, hl2⟩ := len_cons hl1
  obtain ⟨c2, cs3, rfl, hl3⟩ := len_cons hl2
  obtain ⟨c3, cs4, rfl, hl4⟩ := len_cons hl3
  obtain rfl := len_nil hl4
  obtain ⟨y0, hy0⟩ : ∃ y, xs[0]? = some y := ⟨xs[0]'(by rw [hxs]; decide), by simp⟩
  have g0 := (hf 0 ⟨_, 9, 0, _, _, _, _⟩ rfl).trans hy0
  try dsimp only at g0
  rw [Tryz.cells9] at g0
  have g0 : DataW.trod enc Tryz.prog W 0 spare held n 9 [c0] = some y0 := g0
  obtain ⟨x0, ⟨f0, r0⟩, o0⟩ := trod_str1 Tryz.underlying9 g0
  obtain ⟨y1, hy1⟩ : ∃ y, xs[1]? = some y := ⟨xs[1]'(by rw [hxs]; decide), by simp⟩
  have g1 := (hf 1 ⟨_, 9, 1, _, _, _, _⟩ rfl).trans hy1
  try dsimp only at g1
  rw [Tryz.cells9] at g1
  have g1 : DataW.trod enc Tryz.prog W 0 spare held n 9 [c1] = some y1 := g1
  obtain ⟨x1, ⟨f1, r1⟩, o1⟩ := trod_str1 Tryz.underlying9 g1
  obtain ⟨y2, hy2⟩ : ∃ y, xs[2]? = some y := ⟨xs[2]'(by rw [hxs]; decide), by simp⟩
  have g2 := (hf 2 ⟨_, 48, 2, _, _, _, _⟩ rfl).trans hy2
  try dsimp only at g2
  rw [Tryz.cells48] at g2
  have g2 : DataW.trod enc Tryz.prog W 0 spare held n 48 [c2] = some y2 := g2
  obtain ⟨x2, ⟨f2, r2⟩, o2⟩ := trod_sl (f := D.str) Tryz.underlying48 Tryz.cells9 (by decide) (fun _ _ _ _ h => trod_str1 Tryz.underlying9 h) g2
  obtain ⟨y3, hy3⟩ : ∃ y, xs[3]? = some y := ⟨xs[3]'(by rw [hxs]; decide), by simp⟩
  have g3 := (hf 3 ⟨_, 213, 3, _, _, _, _⟩ rfl).trans hy3
  try dsimp only at g3
  rw [Tryz.cells213] at g3
  have g3 : DataW.trod enc Tryz.prog W 0 spare held n 213 [c3] = some y3 := g3
  obtain ⟨x3, ⟨f3, r3⟩, o3⟩ := trod_sl (f := MMethod.d) Tryz.underlying213 Tryz.cells82 (by decide) (fun _ _ _ _ h => trod_Method h) g3
  refine ⟨⟨x0, x1, x2, x3⟩, ⟨_, by rw [MClassDef.d_eq]; exact RepF.st (.sub r0 (.sub r1 (.sub r2 (.sub r3 (.nil _)))))⟩, by rw [MClassDef.d_eq]; exact ⟨o0, o1, o2, o3, trivial⟩⟩

theorem Tryz.cells79 : Tryz.prog.cellsOf 79 = 1 := by kernel_rfl

theorem Tryz.cells84 : Tryz.prog.cellsOf 84 = 6 := by kernel_rfl

theorem trod_Unit {fuel : Nat} {cs : List Value} {d : DataW H × List MemPlace} (h : DataW.trod enc Tryz.prog W 0 spare held fuel 84 cs = some d) : ∃ x : MUnit, Rep W x.d cs ∧ x.d.ok := by
  obtain ⟨xs, n, rfl, -, hlen, hxs, hf⟩ := DataW.trod_struct Tryz.underlying84 h
  rw [Tryz.cells84] at hlen
  have hl0 := hlen; clear hlen
  obtain ⟨c0, cs1, rfl, hl1⟩ := len_cons hl0
  obtain ⟨c1, cs2, rfl, hl2⟩ := len_cons hl1
  obtain ⟨c2, cs3, rfl, hl3⟩ := len_cons hl2
  obtain ⟨c3, cs4, rfl, hl4⟩ := len_cons hl3
  obtain ⟨c4, cs5, rfl, hl5⟩ := len_cons hl4
  obtain ⟨c5, cs6, rfl, hl6⟩ := len_cons hl5
  obtain rfl := len_nil hl6
  obtain ⟨y0, hy0⟩ : ∃ y, xs[0]? = some y := ⟨xs[0]'(by rw [hxs]; decide), by simp⟩
  have g0 := (hf 0 ⟨_, 79, 0, _, _, _, _⟩ rfl).trans hy0
  try dsimp only at g0
  rw [Tryz.cells79] at g0
  have g0 : DataW.trod enc Tryz.prog W 0 spare held n 79 [c0] = some y0 := g0
  obtain ⟨x0, ⟨f0, r0⟩, o0⟩ := trod_sl (f := MClassDef.d) Tryz.underlying79 Tryz.cells215 (by decide) (fun _ _ _ _ h => trod_ClassDef h) g0
  obtain ⟨y1, hy1⟩ : ∃ y, xs[1]? = some y := ⟨xs[1]'(by rw [hxs]; decide), by simp⟩
  have g1 := (hf 1 ⟨_, 82, 1, _, _, _, _⟩ rfl).trans hy1
  try dsimp only at g1
  rw [Tryz.cells82] at g1
  have g1 : DataW.trod enc Tryz.prog W 0 spare held n 82 [c1, c2, c3, c4, c5] = some y1 := g1
  obtain ⟨x1, ⟨f1, r1⟩, o1⟩ := trod_Method g1
  refine ⟨⟨x0, x1⟩, ⟨_, by rw [MUnit.d_eq]; exact RepF.st (.sub r0 (.sub r1 (.nil _)))⟩, by rw [MUnit.d_eq]; exact ⟨o0, o1, trivial⟩⟩

theorem Tryz.cells170 : Tryz.prog.cellsOf 170 = 3 := by kernel_rfl

theorem trod_ClassInfo {fuel : Nat} {cs : List Value} {d : DataW H × List MemPlace} (h : DataW.trod enc Tryz.prog W 0 spare held fuel 170 cs = some d) : ∃ x : MClassInfo, Rep W x.d cs ∧ x.d.ok := by
  obtain ⟨xs, n, rfl, -, hlen, hxs, hf⟩ := DataW.trod_struct Tryz.underlying170 h
  rw [Tryz.cells170] at hlen
  have hl0 := hlen; clear hlen
  obtain ⟨c0, cs1, rfl, hl1⟩ := len_cons hl0
  obtain ⟨c1, cs2, rfl, hl2⟩ := len_cons hl1
  obtain ⟨c2, cs3, rfl, hl3⟩ := len_cons hl2
  obtain rfl := len_nil hl3
  obtain ⟨y0, hy0⟩ : ∃ y, xs[0]? = some y := ⟨xs[0]'(by rw [hxs]; decide), by simp⟩
  have g0 := (hf 0 ⟨_, 9, 0, _, _, _, _⟩ rfl).trans hy0
  try dsimp only at g0
  rw [Tryz.cells9] at g0
  have g0 : DataW.trod enc Tryz.prog W 0 spare held n 9 [c0] = some y0 := g0
  obtain ⟨x0, ⟨f0, r0⟩, o0⟩ := trod_str1 Tryz.underlying9 g0
  obtain ⟨y1, hy1⟩ : ∃ y, xs[1]? = some y := ⟨xs[1]'(by rw [hxs]; decide), by simp⟩
  have g1 := (hf 1 ⟨_, 3, 1, _, _, _, _⟩ rfl).trans hy1
  try dsimp only at g1
  rw [Tryz.cells3] at g1
  have g1 : DataW.trod enc Tryz.prog W 0 spare held n 3 [c1] = some y1 := g1
  obtain ⟨x1, ⟨f1, r1⟩, o1⟩ := trod_int1 Tryz.underlying3 g1
  obtain ⟨y2, hy2⟩ : ∃ y, xs[2]? = some y := ⟨xs[2]'(by rw [hxs]; decide), by simp⟩
  have g2 := (hf 2 ⟨_, 48, 2, _, _, _, _⟩ rfl).trans hy2
  try dsimp only at g2
  rw [Tryz.cells48] at g2
  have g2 : DataW.trod enc Tryz.prog W 0 spare held n 48 [c2] = some y2 := g2
  obtain ⟨x2, ⟨f2, r2⟩, o2⟩ := trod_sl (f := D.str) Tryz.underlying48 Tryz.cells9 (by decide) (fun _ _ _ _ h => trod_str1 Tryz.underlying9 h) g2
  refine ⟨⟨x0, x1, x2⟩, ⟨_, by rw [MClassInfo.d_eq]; exact RepF.st (.sub r0 (.sub r1 (.sub r2 (.nil _))))⟩, by rw [MClassInfo.d_eq]; exact ⟨o0, o1, o2, trivial⟩⟩

theorem Tryz.cells24 : Tryz.prog.cellsOf 24 = 1 := by kernel_rfl

theorem Tryz.cells26 : Tryz.prog.cellsOf 26 = 5 := by kernel_rfl

theorem trod_Core_lt : ∀ (N fuel : Nat), fuel < N → ∀ (cs : List Value) (d : DataW H × List MemPlace), DataW.trod enc Tryz.prog W 0 spare held fuel 26 cs = some d → ∃ x : MCore, Rep W x.d cs ∧ x.d.ok := by
  intro N
  induction N with
  | zero => intro fuel hf; omega
  | succ N ih =>
  intro fuel hfu cs d h
  obtain ⟨xs, n, rfl, -, hlen, hxs, hf⟩ := DataW.trod_struct Tryz.underlying26 h
  rw [Tryz.cells26] at hlen
  have hl0 := hlen; clear hlen
  obtain ⟨c0, cs1, rfl, hl1⟩ := len_cons hl0
  obtain ⟨c1, cs2, rfl, hl2⟩ := len_cons hl1
  obtain ⟨c2, cs3, rfl, hl3⟩ := len_cons hl2
  obtain ⟨c3, cs4, rfl, hl4⟩ := len_cons hl3
  obtain ⟨c4, cs5, rfl, hl5⟩ := len_cons hl4
  obtain rfl := len_nil hl5
  obtain ⟨y0, hy0⟩ : ∃ y, xs[0]? = some y := ⟨xs[0]'(by rw [hxs]; decide), by simp⟩
  have g0 := (hf 0 ⟨_, 3, 0, _, _, _, _⟩ rfl).trans hy0
  try dsimp only at g0
  rw [Tryz.cells3] at g0
  have g0 : DataW.trod enc Tryz.prog W 0 spare held n 3 [c0] = some y0 := g0
  obtain ⟨x0, ⟨f0, r0⟩, o0⟩ := trod_int1 Tryz.underlying3 g0
  obtain ⟨y1, hy1⟩ : ∃ y, xs[1]? = some y := ⟨xs[1]'(by rw [hxs]; decide), by simp⟩
  have g1 := (hf 1 ⟨_, 9, 1, _, _, _, _⟩ rfl).trans hy1
  try dsimp only at g1
  rw [Tryz.cells9] at g1
  have g1 : DataW.trod enc Tryz.prog W 0 spare held n 9 [c1] = some y1 := g1
  obtain ⟨x1, ⟨f1, r1⟩, o1⟩ := trod_str1 Tryz.underlying9 g1
  obtain ⟨y2, hy2⟩ : ∃ y, xs[2]? = some y := ⟨xs[2]'(by rw [hxs]; decide), by simp⟩
  have g2 := (hf 2 ⟨_, 3, 2, _, _, _, _⟩ rfl).trans hy2
  try dsimp only at g2
  rw [Tryz.cells3] at g2
  have g2 : DataW.trod enc Tryz.prog W 0 spare held n 3 [c2] = some y2 := g2
  obtain ⟨x2, ⟨f2, r2⟩, o2⟩ := trod_int1 Tryz.underlying3 g2
  obtain ⟨y3, hy3⟩ : ∃ y, xs[3]? = some y := ⟨xs[3]'(by rw [hxs]; decide), by simp⟩
  have g3 := (hf 3 ⟨_, 3, 3, _, _, _, _⟩ rfl).trans hy3
  try dsimp only at g3
  rw [Tryz.cells3] at g3
  have g3 : DataW.trod enc Tryz.prog W 0 spare held n 3 [c3] = some y3 := g3
  obtain ⟨x3, ⟨f3, r3⟩, o3⟩ := trod_int1 Tryz.underlying3 g3
  obtain ⟨y4, hy4⟩ : ∃ y, xs[4]? = some y := ⟨xs[4]'(by rw [hxs]; decide), by simp⟩
  have g4 := (hf 4 ⟨_, 24, 4, _, _, _, _⟩ rfl).trans hy4
  try dsimp only at g4
  rw [Tryz.cells24] at g4
  have g4 : DataW.trod enc Tryz.prog W 0 spare held n 24 [c4] = some y4 := g4
  obtain ⟨x4, ⟨f4, r4⟩, o4⟩ := trod_sl (f := MCore.d) Tryz.underlying24 Tryz.cells26 (by decide) (fun m hm es d h => ih m (by omega) es d h) g4
  refine ⟨⟨x0, x1, x2, x3, x4⟩, ⟨_, by rw [MCore.d_eq]; exact RepF.st (.sub r0 (.sub r1 (.sub r2 (.sub r3 (.sub r4 (.nil _))))))⟩, by rw [MCore.d_eq]; exact ⟨o0, o1, o2, o3, o4, trivial⟩⟩
theorem trod_Core {fuel : Nat} {cs : List Value} {d : DataW H × List MemPlace} (h : DataW.trod enc Tryz.prog W 0 spare held fuel 26 cs = some d) : ∃ x : MCore, Rep W x.d cs ∧ x.d.ok := trod_Core_lt _ _ (Nat.lt_succ_self _) cs d h

theorem Tryz.cells28 : Tryz.prog.cellsOf 28 = 10 := by kernel_rfl

theorem trod_Routine {fuel : Nat} {cs : List Value} {d : DataW H × List MemPlace} (h : DataW.trod enc Tryz.prog W 0 spare held fuel 28 cs = some d) : ∃ x : MRoutine, Rep W x.d cs ∧ x.d.ok := by
  obtain ⟨xs, n, rfl, -, hlen, hxs, hf⟩ := DataW.trod_struct Tryz.underlying28 h
  rw [Tryz.cells28] at hlen
  have hl0 := hlen; clear hlen
  obtain ⟨c0, cs1, rfl, hl1⟩ := len_cons hl0
  obtain ⟨c1, cs2, rfl, hl2⟩ := len_cons hl1
  obtain ⟨c2, cs3, rfl, hl3⟩ := len_cons hl2
  obtain ⟨c3, cs4, rfl, hl4⟩ := len_cons hl3
  obtain ⟨c4, cs5, rfl, hl5⟩ := len_cons hl4
  obtain ⟨c5, cs6, rfl, hl6⟩ := len_cons hl5
  obtain ⟨c6, cs7, rfl, hl7⟩ := len_cons hl6
  obtain ⟨c7, cs8, rfl, hl8⟩ := len_cons hl7
  obtain ⟨c8, cs9, rfl, hl9⟩ := len_cons hl8
  obtain ⟨c9, cs10, rfl, hl10⟩ := len_cons hl9
  obtain rfl := len_nil hl10
  obtain ⟨y0, hy0⟩ : ∃ y, xs[0]? = some y := ⟨xs[0]'(by rw [hxs]; decide), by simp⟩
  have g0 := (hf 0 ⟨_, 9, 0, _, _, _, _⟩ rfl).trans hy0
  try dsimp only at g0
  rw [Tryz.cells9] at g0
  have g0 : DataW.trod enc Tryz.prog W 0 spare held n 9 [c0] = some y0 := g0
  obtain ⟨x0, ⟨f0, r0⟩, o0⟩ := trod_str1 Tryz.underlying9 g0
  obtain ⟨y1, hy1⟩ : ∃ y, xs[1]? = some y := ⟨xs[1]'(by rw [hxs]; decide), by simp⟩
  have g1 := (hf 1 ⟨_, 3, 1, _, _, _, _⟩ rfl).trans hy1
  try dsimp only at g1
  rw [Tryz.cells3] at g1
  have g1 : DataW.trod enc Tryz.prog W 0 spare held n 3 [c1] = some y1 := g1
  obtain ⟨x1, ⟨f1, r1⟩, o1⟩ := trod_int1 Tryz.underlying3 g1
  obtain ⟨y2, hy2⟩ : ∃ y, xs[2]? = some y := ⟨xs[2]'(by rw [hxs]; decide), by simp⟩
  have g2 := (hf 2 ⟨_, 4, 2, _, _, _, _⟩ rfl).trans hy2
  try dsimp only at g2
  rw [Tryz.cells4] at g2
  have g2 : DataW.trod enc Tryz.prog W 0 spare held n 4 [c2] = some y2 := g2
  obtain ⟨x2, ⟨f2, r2⟩, o2⟩ := trod_bool1 Tryz.underlying4 g2
  obtain ⟨y3, hy3⟩ : ∃ y, xs[3]? = some y := ⟨xs[3]'(by rw [hxs]; decide), by simp⟩
  have g3 := (hf 3 ⟨_, 3, 3, _, _, _, _⟩ rfl).trans hy3
  try dsimp only at g3
  rw [Tryz.cells3] at g3
  have g3 : DataW.trod enc Tryz.prog W 0 spare held n 3 [c3] = some y3 := g3
  obtain ⟨x3, ⟨f3, r3⟩, o3⟩ := trod_int1 Tryz.underlying3 g3
  obtain ⟨y4, hy4⟩ : ∃ y, xs[4]? = some y := ⟨xs[4]'(by rw [hxs]; decide), by simp⟩
  have g4 := (hf 4 ⟨_, 3, 4, _, _, _, _⟩ rfl).trans hy4
  try dsimp only at g4
  rw [Tryz.cells3] at g4
  have g4 : DataW.trod enc Tryz.prog W 0 spare held n 3 [c4] = some y4 := g4
  obtain ⟨x4, ⟨f4, r4⟩, o4⟩ := trod_int1 Tryz.underlying3 g4
  obtain ⟨y5, hy5⟩ : ∃ y, xs[5]? = some y := ⟨xs[5]'(by rw [hxs]; decide), by simp⟩
  have g5 := (hf 5 ⟨_, 26, 5, _, _, _, _⟩ rfl).trans hy5
  try dsimp only at g5
  rw [Tryz.cells26] at g5
  have g5 : DataW.trod enc Tryz.prog W 0 spare held n 26 [c5, c6, c7, c8, c9] = some y5 := g5
  obtain ⟨x5, ⟨f5, r5⟩, o5⟩ := trod_Core g5
  refine ⟨⟨x0, x1, x2, x3, x4, x5⟩, ⟨_, by rw [MRoutine.d_eq]; exact RepF.st (.sub r0 (.sub r1 (.sub r2 (.sub r3 (.sub r4 (.sub r5 (.nil _)))))))⟩, by rw [MRoutine.d_eq]; exact ⟨o0, o1, o2, o3, o4, o5, trivial⟩⟩

theorem Tryz.cells22 : Tryz.prog.cellsOf 22 = 1 := by kernel_rfl

theorem Tryz.cells23 : Tryz.prog.cellsOf 23 = 1 := by kernel_rfl

theorem Tryz.cells30 : Tryz.prog.cellsOf 30 = 12 := by kernel_rfl

theorem trod_System {fuel : Nat} {cs : List Value} {d : DataW H × List MemPlace} (h : DataW.trod enc Tryz.prog W 0 spare held fuel 30 cs = some d) : ∃ x : MSystem, Rep W x.d cs ∧ x.d.ok := by
  obtain ⟨xs, n, rfl, -, hlen, hxs, hf⟩ := DataW.trod_struct Tryz.underlying30 h
  rw [Tryz.cells30] at hlen
  have hl0 := hlen; clear hlen
  obtain ⟨c0, cs1, rfl, hl1⟩ := len_cons hl0
  obtain ⟨c1, cs2, rfl, hl2⟩ := len_cons hl1
  obtain ⟨c2, cs3, rfl, hl3⟩ := len_cons hl2
  obtain ⟨c3, cs4, rfl, hl4⟩ := len_cons hl3
  obtain ⟨c4, cs5, rfl, hl5⟩ := len_cons hl4
  obtain ⟨c5, cs6, rfl, hl6⟩ := len_cons hl5
  obtain ⟨c6, cs7, rfl, hl7⟩ := len_cons hl6
  obtain ⟨c7, cs8, rfl, hl8⟩ := len_cons hl7
  obtain ⟨c8, cs9, rfl, hl9⟩ := len_cons hl8
  obtain ⟨c9, cs10, rfl, hl10⟩ := len_cons hl9
  obtain ⟨c10, cs11, rfl, hl11⟩ := len_cons hl10
  obtain ⟨c11, cs12, rfl, hl12⟩ := len_cons hl11
  obtain rfl := len_nil hl12
  obtain ⟨y0, hy0⟩ : ∃ y, xs[0]? = some y := ⟨xs[0]'(by rw [hxs]; decide), by simp⟩
  have g0 := (hf 0 ⟨_, 22, 0, _, _, _, _⟩ rfl).trans hy0
  try dsimp only at g0
  rw [Tryz.cells22] at g0
  have g0 : DataW.trod enc Tryz.prog W 0 spare held n 22 [c0] = some y0 := g0
  obtain ⟨x0, ⟨f0, r0⟩, o0⟩ := trod_sl (f := MClassInfo.d) Tryz.underlying22 Tryz.cells170 (by decide) (fun _ _ _ _ h => trod_ClassInfo h) g0
  obtain ⟨y1, hy1⟩ : ∃ y, xs[1]? = some y := ⟨xs[1]'(by rw [hxs]; decide), by simp⟩
  have g1 := (hf 1 ⟨_, 23, 1, _, _, _, _⟩ rfl).trans hy1
  try dsimp only at g1
  rw [Tryz.cells23] at g1
  have g1 : DataW.trod enc Tryz.prog W 0 spare held n 23 [c1] = some y1 := g1
  obtain ⟨x1, ⟨f1, r1⟩, o1⟩ := trod_sl (f := MRoutine.d) Tryz.underlying23 Tryz.cells28 (by decide) (fun _ _ _ _ h => trod_Routine h) g1
  obtain ⟨y2, hy2⟩ : ∃ y, xs[2]? = some y := ⟨xs[2]'(by rw [hxs]; decide), by simp⟩
  have g2 := (hf 2 ⟨_, 28, 2, _, _, _, _⟩ rfl).trans hy2
  try dsimp only at g2
  rw [Tryz.cells28] at g2
  have g2 : DataW.trod enc Tryz.prog W 0 spare held n 28 [c2, c3, c4, c5, c6, c7, c8, c9, c10, c11] = some y2 := g2
  obtain ⟨x2, ⟨f2, r2⟩, o2⟩ := trod_Routine g2
  refine ⟨⟨x0, x1, x2⟩, ⟨_, by rw [MSystem.d_eq]; exact RepF.st (.sub r0 (.sub r1 (.sub r2 (.nil _))))⟩, by rw [MSystem.d_eq]; exact ⟨o0, o1, o2, trivial⟩⟩

theorem Tryz.cells52 : Tryz.prog.cellsOf 52 = 3 := by kernel_rfl

theorem trod_Value {fuel : Nat} {cs : List Value} {d : DataW H × List MemPlace} (h : DataW.trod enc Tryz.prog W 0 spare held fuel 52 cs = some d) : ∃ x : MValue, Rep W x.d cs ∧ x.d.ok := by
  obtain ⟨xs, n, rfl, -, hlen, hxs, hf⟩ := DataW.trod_struct Tryz.underlying52 h
  rw [Tryz.cells52] at hlen
  have hl0 := hlen; clear hlen
  obtain ⟨c0, cs1, rfl, hl1⟩ := len_cons hl0
  obtain ⟨c1, cs2, rfl, hl2⟩ := len_cons hl1
  obtain ⟨c2, cs3, rfl, hl3⟩ := len_cons hl2
  obtain rfl := len_nil hl3
  obtain ⟨y0, hy0⟩ : ∃ y, xs[0]? = some y := ⟨xs[0]'(by rw [hxs]; decide), by simp⟩
  have g0 := (hf 0 ⟨_, 3, 0, _, _, _, _⟩ rfl).trans hy0
  try dsimp only at g0
  rw [Tryz.cells3] at g0
  have g0 : DataW.trod enc Tryz.prog W 0 spare held n 3 [c0] = some y0 := g0
  obtain ⟨x0, ⟨f0, r0⟩, o0⟩ := trod_int1 Tryz.underlying3 g0
  obtain ⟨y1, hy1⟩ : ∃ y, xs[1]? = some y := ⟨xs[1]'(by rw [hxs]; decide), by simp⟩
  have g1 := (hf 1 ⟨_, 3, 1, _, _, _, _⟩ rfl).trans hy1
  try dsimp only at g1
  rw [Tryz.cells3] at g1
  have g1 : DataW.trod enc Tryz.prog W 0 spare held n 3 [c1] = some y1 := g1
  obtain ⟨x1, ⟨f1, r1⟩, o1⟩ := trod_int1 Tryz.underlying3 g1
  obtain ⟨y2, hy2⟩ : ∃ y, xs[2]? = some y := ⟨xs[2]'(by rw [hxs]; decide), by simp⟩
  have g2 := (hf 2 ⟨_, 9, 2, _, _, _, _⟩ rfl).trans hy2
  try dsimp only at g2
  rw [Tryz.cells9] at g2
  have g2 : DataW.trod enc Tryz.prog W 0 spare held n 9 [c2] = some y2 := g2
  obtain ⟨x2, ⟨f2, r2⟩, o2⟩ := trod_str1 Tryz.underlying9 g2
  refine ⟨⟨x0, x1, x2⟩, ⟨_, by rw [MValue.d_eq]; exact RepF.st (.sub r0 (.sub r1 (.sub r2 (.nil _))))⟩, by rw [MValue.d_eq]; exact ⟨o0, o1, o2, trivial⟩⟩

theorem Tryz.cells187 : Tryz.prog.cellsOf 187 = 1 := by kernel_rfl

theorem Tryz.cells175 : Tryz.prog.cellsOf 175 = 1 := by kernel_rfl

theorem Tryz.cells189 : Tryz.prog.cellsOf 189 = 4 := by kernel_rfl

theorem trod_Object {fuel : Nat} {cs : List Value} {d : DataW H × List MemPlace} (h : DataW.trod enc Tryz.prog W 0 spare held fuel 189 cs = some d) : ∃ x : MObject, Rep W x.d cs ∧ x.d.ok := by
  obtain ⟨xs, n, rfl, -, hlen, hxs, hf⟩ := DataW.trod_struct Tryz.underlying189 h
  rw [Tryz.cells189] at hlen
  have hl0 := hlen; clear hlen
  obtain ⟨c0, cs1, rfl, hl1⟩ := len_cons hl0
  obtain ⟨c1, cs2, rfl, hl2⟩ := len_cons hl1
  obtain ⟨c2, cs3, rfl, hl3⟩ := len_cons hl2
  obtain ⟨c3, cs4, rfl, hl4⟩ := len_cons hl3
  obtain rfl := len_nil hl4
  obtain ⟨y0, hy0⟩ : ∃ y, xs[0]? = some y := ⟨xs[0]'(by rw [hxs]; decide), by simp⟩
  have g0 := (hf 0 ⟨_, 3, 0, _, _, _, _⟩ rfl).trans hy0
  try dsimp only at g0
  rw [Tryz.cells3] at g0
  have g0 : DataW.trod enc Tryz.prog W 0 spare held n 3 [c0] = some y0 := g0
  obtain ⟨x0, ⟨f0, r0⟩, o0⟩ := trod_int1 Tryz.underlying3 g0
  obtain ⟨y1, hy1⟩ : ∃ y, xs[1]? = some y := ⟨xs[1]'(by rw [hxs]; decide), by simp⟩
  have g1 := (hf 1 ⟨_, 3, 1, _, _, _, _⟩ rfl).trans hy1
  try dsimp only at g1
  rw [Tryz.cells3] at g1
  have g1 : DataW.trod enc Tryz.prog W 0 spare held n 3 [c1] = some y1 := g1
  obtain ⟨x1, ⟨f1, r1⟩, o1⟩ := trod_int1 Tryz.underlying3 g1
  obtain ⟨y2, hy2⟩ : ∃ y, xs[2]? = some y := ⟨xs[2]'(by rw [hxs]; decide), by simp⟩
  have g2 := (hf 2 ⟨_, 187, 2, _, _, _, _⟩ rfl).trans hy2
  try dsimp only at g2
  rw [Tryz.cells187] at g2
  have g2 : DataW.trod enc Tryz.prog W 0 spare held n 187 [c2] = some y2 := g2
  obtain ⟨x2, ⟨f2, r2⟩, o2⟩ := trod_sl (f := MValue.d) Tryz.underlying187 Tryz.cells52 (by decide) (fun _ _ _ _ h => trod_Value h) g2
  obtain ⟨y3, hy3⟩ : ∃ y, xs[3]? = some y := ⟨xs[3]'(by rw [hxs]; decide), by simp⟩
  have g3 := (hf 3 ⟨_, 175, 3, _, _, _, _⟩ rfl).trans hy3
  try dsimp only at g3
  rw [Tryz.cells175] at g3
  have g3 : DataW.trod enc Tryz.prog W 0 spare held n 175 [c3] = some y3 := g3
  obtain ⟨x3, ⟨f3, r3⟩, o3⟩ := trod_sl (f := D.int) Tryz.underlying175 Tryz.cells3 (by decide) (fun _ _ _ _ h => trod_int1 Tryz.underlying3 h) g3
  refine ⟨⟨x0, x1, x2, x3⟩, ⟨_, by rw [MObject.d_eq]; exact RepF.st (.sub r0 (.sub r1 (.sub r2 (.sub r3 (.nil _)))))⟩, by rw [MObject.d_eq]; exact ⟨o0, o1, o2, o3, trivial⟩⟩

theorem Tryz.cells47 : Tryz.prog.cellsOf 47 = 1 := by kernel_rfl

theorem Tryz.cells50 : Tryz.prog.cellsOf 50 = 6 := by kernel_rfl

theorem trod_Store {fuel : Nat} {cs : List Value} {d : DataW H × List MemPlace} (h : DataW.trod enc Tryz.prog W 0 spare held fuel 50 cs = some d) : ∃ x : MStore, Rep W x.d cs ∧ x.d.ok := by
  obtain ⟨xs, n, rfl, -, hlen, hxs, hf⟩ := DataW.trod_struct Tryz.underlying50 h
  rw [Tryz.cells50] at hlen
  have hl0 := hlen; clear hlen
  obtain ⟨c0, cs1, rfl, hl1⟩ := len_cons hl0
  obtain ⟨c1, cs2, rfl, hl2⟩ := len_cons hl1
  obtain ⟨c2, cs3, rfl, hl3⟩ := len_cons hl2
  obtain ⟨c3, cs4, rfl, hl4⟩ := len_cons hl3
  obtain ⟨c4, cs5, rfl, hl5⟩ := len_cons hl4
  obtain ⟨c5, cs6, rfl, hl6⟩ := len_cons hl5
  obtain rfl := len_nil hl6
  obtain ⟨y0, hy0⟩ : ∃ y, xs[0]? = some y := ⟨xs[0]'(by rw [hxs]; decide), by simp⟩
  have g0 := (hf 0 ⟨_, 22, 0, _, _, _, _⟩ rfl).trans hy0
  try dsimp only at g0
  rw [Tryz.cells22] at g0
  have g0 : DataW.trod enc Tryz.prog W 0 spare held n 22 [c0] = some y0 := g0
  obtain ⟨x0, ⟨f0, r0⟩, o0⟩ := trod_sl (f := MClassInfo.d) Tryz.underlying22 Tryz.cells170 (by decide) (fun _ _ _ _ h => trod_ClassInfo h) g0
  obtain ⟨y1, hy1⟩ : ∃ y, xs[1]? = some y := ⟨xs[1]'(by rw [hxs]; decide), by simp⟩
  have g1 := (hf 1 ⟨_, 47, 1, _, _, _, _⟩ rfl).trans hy1
  try dsimp only at g1
  rw [Tryz.cells47] at g1
  have g1 : DataW.trod enc Tryz.prog W 0 spare held n 47 [c1] = some y1 := g1
  obtain ⟨x1, ⟨f1, r1⟩, o1⟩ := trod_sl (f := MObject.d) Tryz.underlying47 Tryz.cells189 (by decide) (fun _ _ _ _ h => trod_Object h) g1
  obtain ⟨y2, hy2⟩ : ∃ y, xs[2]? = some y := ⟨xs[2]'(by rw [hxs]; decide), by simp⟩
  have g2 := (hf 2 ⟨_, 48, 2, _, _, _, _⟩ rfl).trans hy2
  try dsimp only at g2
  rw [Tryz.cells48] at g2
  have g2 : DataW.trod enc Tryz.prog W 0 spare held n 48 [c2] = some y2 := g2
  obtain ⟨x2, ⟨f2, r2⟩, o2⟩ := trod_sl (f := D.str) Tryz.underlying48 Tryz.cells9 (by decide) (fun _ _ _ _ h => trod_str1 Tryz.underlying9 h) g2
  obtain ⟨y3, hy3⟩ : ∃ y, xs[3]? = some y := ⟨xs[3]'(by rw [hxs]; decide), by simp⟩
  have g3 := (hf 3 ⟨_, 3, 3, _, _, _, _⟩ rfl).trans hy3
  try dsimp only at g3
  rw [Tryz.cells3] at g3
  have g3 : DataW.trod enc Tryz.prog W 0 spare held n 3 [c3] = some y3 := g3
  obtain ⟨x3, ⟨f3, r3⟩, o3⟩ := trod_int1 Tryz.underlying3 g3
  obtain ⟨y4, hy4⟩ : ∃ y, xs[4]? = some y := ⟨xs[4]'(by rw [hxs]; decide), by simp⟩
  have g4 := (hf 4 ⟨_, 3, 4, _, _, _, _⟩ rfl).trans hy4
  try dsimp only at g4
  rw [Tryz.cells3] at g4
  have g4 : DataW.trod enc Tryz.prog W 0 spare held n 3 [c4] = some y4 := g4
  obtain ⟨x4, ⟨f4, r4⟩, o4⟩ := trod_int1 Tryz.underlying3 g4
  obtain ⟨y5, hy5⟩ : ∃ y, xs[5]? = some y := ⟨xs[5]'(by rw [hxs]; decide), by simp⟩
  have g5 := (hf 5 ⟨_, 3, 5, _, _, _, _⟩ rfl).trans hy5
  try dsimp only at g5
  rw [Tryz.cells3] at g5
  have g5 : DataW.trod enc Tryz.prog W 0 spare held n 3 [c5] = some y5 := g5
  obtain ⟨x5, ⟨f5, r5⟩, o5⟩ := trod_int1 Tryz.underlying3 g5
  refine ⟨⟨x0, x1, x2, x3, x4, x5⟩, ⟨_, by rw [MStore.d_eq]; exact RepF.st (.sub r0 (.sub r1 (.sub r2 (.sub r3 (.sub r4 (.sub r5 (.nil _)))))))⟩, by rw [MStore.d_eq]; exact ⟨o0, o1, o2, o3, o4, o5, trivial⟩⟩


end Go.Proofs.YtdngmifgglbbpaaGreatDoor
