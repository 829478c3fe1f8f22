/-
  THE LAWS' ARGUMENTS, type by type.
  Conditions: those that each lemma states.
-/
import Derived.Test.YticdmbmjlaomiaaGreatDoorRows
import Derived.Test.YticdmbmjlaomiaaGreatDoorArgs
namespace Go.Proofs.YticdmbmjlaomiaaGreatDoor
open Go.RowKit
set_option linter.unusedSimpArgs false
set_option linter.unusedVariables false


variable {H : Type} {enc : TypeId × Value → H} {W : World} {spare : Nat → Bool} {held : Bool}

theorem Tryz.cells3 : Tryz.prog.cellsOf 3 = 1 := by kernel_rfl

theorem Tryz.cells9 : Tryz.prog.cellsOf 9 = 1 := by kernel_rfl

theorem Tryz.cells24 : Tryz.prog.cellsOf 24 = 1 := by kernel_rfl

theorem Tryz.cells42 : Tryz.prog.cellsOf 42 = 1 := by kernel_rfl

theorem Tryz.cells302 : Tryz.prog.cellsOf 302 = 5 := by kernel_rfl

theorem trod_Expr_lt : ∀ (N fuel : Nat), fuel < N → ∀ (cs : List Value) (d : DataW H × List MemPlace), DataW.trod enc Tryz.prog W 0 spare held fuel 302 cs = some d → ∃ x : MExpr, Rep W x.d cs ∧ x.d.ok := by
  intro N
  induction N with
  | zero => intro fuel hf; omega
  | succ N ih =>
  intro fuel hfu cs d h
  obtain ⟨xs, n, rfl, -, hlen, hxs, hf⟩ := DataW.trod_struct Tryz.underlying302 h
  rw [Tryz.cells302] at hlen
  have hl0 := hlen; clear hlen
  obtain ⟨c0, cs1, rfl, hl1⟩ := len_cons hl0
  obtain ⟨c1, cs2, rfl, hl2⟩ := len_cons hl1
  obtain ⟨c2, cs3, rfl, hl3⟩ := len_cons hl2
  obtain ⟨c3, cs4, rfl, hl4⟩ := len_cons hl3
  obtain ⟨c4, cs5, rfl, hl5⟩ := len_cons hl4
  obtain rfl := len_nil hl5
  obtain ⟨y0, hy0⟩ : ∃ y, xs[0]? = some y := ⟨xs[0]'(by rw [hxs]; decide), by simp⟩
  have g0 := (hf 0 ⟨_, 3, 0, _, _, _, _⟩ rfl).trans hy0
  try dsimp only at g0
  rw [Tryz.cells3] at g0
  have g0 : DataW.trod enc Tryz.prog W 0 spare held n 3 [c0] = some y0 := g0
  obtain ⟨x0, ⟨f0, r0⟩, o0⟩ := trod_int1 Tryz.underlying3 g0
  obtain ⟨y1, hy1⟩ : ∃ y, xs[1]? = some y := ⟨xs[1]'(by rw [hxs]; decide), by simp⟩
  have g1 := (hf 1 ⟨_, 9, 1, _, _, _, _⟩ rfl).trans hy1
  try dsimp only at g1
  rw [Tryz.cells9] at g1
  have g1 : DataW.trod enc Tryz.prog W 0 spare held n 9 [c1] = some y1 := g1
  obtain ⟨x1, ⟨f1, r1⟩, o1⟩ := trod_str1 Tryz.underlying9 g1
  obtain ⟨y2, hy2⟩ : ∃ y, xs[2]? = some y := ⟨xs[2]'(by rw [hxs]; decide), by simp⟩
  have g2 := (hf 2 ⟨_, 3, 2, _, _, _, _⟩ rfl).trans hy2
  try dsimp only at g2
  rw [Tryz.cells3] at g2
  have g2 : DataW.trod enc Tryz.prog W 0 spare held n 3 [c2] = some y2 := g2
  obtain ⟨x2, ⟨f2, r2⟩, o2⟩ := trod_int1 Tryz.underlying3 g2
  obtain ⟨y3, hy3⟩ : ∃ y, xs[3]? = some y := ⟨xs[3]'(by rw [hxs]; decide), by simp⟩
  have g3 := (hf 3 ⟨_, 24, 3, _, _, _, _⟩ rfl).trans hy3
  try dsimp only at g3
  rw [Tryz.cells24] at g3
  have g3 : DataW.trod enc Tryz.prog W 0 spare held n 24 [c3] = some y3 := g3
  obtain ⟨x3, ⟨f3, r3⟩, o3⟩ := trod_sl (f := D.str) Tryz.underlying24 Tryz.cells9 (by decide) (fun _ _ _ _ h => trod_str1 Tryz.underlying9 h) g3
  obtain ⟨y4, hy4⟩ : ∃ y, xs[4]? = some y := ⟨xs[4]'(by rw [hxs]; decide), by simp⟩
  have g4 := (hf 4 ⟨_, 42, 4, _, _, _, _⟩ rfl).trans hy4
  try dsimp only at g4
  rw [Tryz.cells42] at g4
  have g4 : DataW.trod enc Tryz.prog W 0 spare held n 42 [c4] = some y4 := g4
  obtain ⟨x4, ⟨f4, r4⟩, o4⟩ := trod_sl (f := MExpr.d) Tryz.underlying42 Tryz.cells302 (by decide) (fun m hm es d h => ih m (by omega) es d h) g4
  refine ⟨⟨x0, x1, x2, x3, x4⟩, ⟨_, by rw [MExpr.d_eq]; exact RepF.st (.sub r0 (.sub r1 (.sub r2 (.sub r3 (.sub r4 (.nil _))))))⟩, by rw [MExpr.d_eq]; exact ⟨o0, o1, o2, o3, o4, trivial⟩⟩
theorem trod_Expr {fuel : Nat} {cs : List Value} {d : DataW H × List MemPlace} (h : DataW.trod enc Tryz.prog W 0 spare held fuel 302 cs = some d) : ∃ x : MExpr, Rep W x.d cs ∧ x.d.ok := trod_Expr_lt _ _ (Nat.lt_succ_self _) cs d h

theorem Tryz.cells4 : Tryz.prog.cellsOf 4 = 1 := by kernel_rfl

theorem Tryz.cells44 : Tryz.prog.cellsOf 44 = 5 := by kernel_rfl

theorem trod_Method {fuel : Nat} {cs : List Value} {d : DataW H × List MemPlace} (h : DataW.trod enc Tryz.prog W 0 spare held fuel 44 cs = some d) : ∃ x : MMethod, Rep W x.d cs ∧ x.d.ok := by
  obtain ⟨xs, n, rfl, -, hlen, hxs, hf⟩ := DataW.trod_struct Tryz.underlying44 h
  rw [Tryz.cells44] at hlen
  have hl0 := hlen; clear hlen
  obtain ⟨c0, cs1, rfl, hl1⟩ := len_cons hl0
  obtain ⟨c1, cs2, rfl, hl2⟩ := len_cons hl1
  obtain ⟨c2, cs3, rfl, hl3⟩ := len_cons hl2
  obtain ⟨c3, cs4, rfl, hl4⟩ := len_cons hl3
  obtain ⟨c4, cs5, rfl, hl5⟩ := len_cons hl4
  obtain rfl := len_nil hl5
  obtain ⟨y0, hy0⟩ : ∃ y, xs[0]? = some y := ⟨xs[0]'(by rw [hxs]; decide), by simp⟩
  have g0 := (hf 0 ⟨_, 9, 0, _, _, _, _⟩ rfl).trans hy0
  try dsimp only at g0
  rw [Tryz.cells9] at g0
  have g0 : DataW.trod enc Tryz.prog W 0 spare held n 9 [c0] = some y0 := g0
  obtain ⟨x0, ⟨f0, r0⟩, o0⟩ := trod_str1 Tryz.underlying9 g0
  obtain ⟨y1, hy1⟩ : ∃ y, xs[1]? = some y := ⟨xs[1]'(by rw [hxs]; decide), by simp⟩
  have g1 := (hf 1 ⟨_, 4, 1, _, _, _, _⟩ rfl).trans hy1
  try dsimp only at g1
  rw [Tryz.cells4] at g1
  have g1 : DataW.trod enc Tryz.prog W 0 spare held n 4 [c1] = some y1 := g1
  obtain ⟨x1, ⟨f1, r1⟩, o1⟩ := trod_bool1 Tryz.underlying4 g1
  obtain ⟨y2, hy2⟩ : ∃ y, xs[2]? = some y := ⟨xs[2]'(by rw [hxs]; decide), by simp⟩
  have g2 := (hf 2 ⟨_, 24, 2, _, _, _, _⟩ rfl).trans hy2
  try dsimp only at g2
  rw [Tryz.cells24] at g2
  have g2 : DataW.trod enc Tryz.prog W 0 spare held n 24 [c2] = some y2 := g2
  obtain ⟨x2, ⟨f2, r2⟩, o2⟩ := trod_sl (f := D.str) Tryz.underlying24 Tryz.cells9 (by decide) (fun _ _ _ _ h => trod_str1 Tryz.underlying9 h) g2
  obtain ⟨y3, hy3⟩ : ∃ y, xs[3]? = some y := ⟨xs[3]'(by rw [hxs]; decide), by simp⟩
  have g3 := (hf 3 ⟨_, 24, 3, _, _, _, _⟩ rfl).trans hy3
  try dsimp only at g3
  rw [Tryz.cells24] at g3
  have g3 : DataW.trod enc Tryz.prog W 0 spare held n 24 [c3] = some y3 := g3
  obtain ⟨x3, ⟨f3, r3⟩, o3⟩ := trod_sl (f := D.str) Tryz.underlying24 Tryz.cells9 (by decide) (fun _ _ _ _ h => trod_str1 Tryz.underlying9 h) g3
  obtain ⟨y4, hy4⟩ : ∃ y, xs[4]? = some y := ⟨xs[4]'(by rw [hxs]; decide), by simp⟩
  have g4 := (hf 4 ⟨_, 42, 4, _, _, _, _⟩ rfl).trans hy4
  try dsimp only at g4
  rw [Tryz.cells42] at g4
  have g4 : DataW.trod enc Tryz.prog W 0 spare held n 42 [c4] = some y4 := g4
  obtain ⟨x4, ⟨f4, r4⟩, o4⟩ := trod_sl (f := MExpr.d) Tryz.underlying42 Tryz.cells302 (by decide) (fun _ _ _ _ h => trod_Expr h) g4
  refine ⟨⟨x0, x1, x2, x3, x4⟩, ⟨_, by rw [MMethod.d_eq]; exact RepF.st (.sub r0 (.sub r1 (.sub r2 (.sub r3 (.sub r4 (.nil _))))))⟩, by rw [MMethod.d_eq]; exact ⟨o0, o1, o2, o3, o4, trivial⟩⟩

theorem Tryz.cells221 : Tryz.prog.cellsOf 221 = 1 := by kernel_rfl

theorem Tryz.cells223 : Tryz.prog.cellsOf 223 = 4 := by kernel_rfl

theorem trod_ClassDef {fuel : Nat} {cs : List Value} {d : DataW H × List MemPlace} (h : DataW.trod enc Tryz.prog W 0 spare held fuel 223 cs = some d) : ∃ x : MClassDef, Rep W x.d cs ∧ x.d.ok := by
  obtain ⟨xs, n, rfl, -, hlen, hxs, hf⟩ := DataW.trod_struct Tryz.underlying223 h
  rw [Tryz.cells223] at hlen
  have hl0 := hlen; clear hlen
  obtain ⟨c0, cs1, rfl, hl1⟩ := len_cons hl0
  obtain ⟨c1, cs2, rfl, hl2⟩ := len_cons hl1
  obtain ⟨c2, cs3, rfl, hl3⟩ := len_cons hl2
  obtain ⟨c3, cs4, rfl, hl4⟩ := len_cons hl3
  obtain rfl := len_nil hl4
  obtain ⟨y0, hy0⟩ : ∃ y, xs[0]? = some y := ⟨xs[0]'(by rw [hxs]; decide), by simp⟩
  have g0 := (hf 0 ⟨_, 9, 0, _, _, _, _⟩ rfl).trans hy0
  try dsimp only at g0
  rw [Tryz.cells9] at g0
  have g0 : DataW.trod enc Tryz.prog W 0 spare held n 9 [c0] = some y0 := g0
  obtain ⟨x0, ⟨f0, r0⟩, o0⟩ := trod_str1 Tryz.underlying9 g0
  obtain ⟨y1, hy1⟩ : ∃ y, xs[1]? = some y := ⟨xs[1]'(by rw [hxs]; decide), by simp⟩
  have g1 := (hf 1 ⟨_, 9, 1, _, _, _, _⟩ rfl).trans hy1
  try dsimp only at g1
  rw [Tryz.cells9] at g1
  have g1 : DataW.trod enc Tryz.prog W 0 spare held n 9 [c1] = some y1 := g1
  obtain ⟨x1, ⟨f1, r1⟩, o1⟩ := trod_str1 Tryz.underlying9 g1
  obtain ⟨y2, hy2⟩ : ∃ y, xs[2]? = some y := ⟨xs[2]'(by rw [hxs]; decide), by simp⟩
  have g2 := (hf 2 ⟨_, 24, 2, _, _, _, _⟩ rfl).trans hy2
  try dsimp only at g2
  rw [Tryz.cells24] at g2
  have g2 : DataW.trod enc Tryz.prog W 0 spare held n 24 [c2] = some y2 := g2
  obtain ⟨x2, ⟨f2, r2⟩, o2⟩ := trod_sl (f := D.str) Tryz.underlying24 Tryz.cells9 (by decide) (fun _ _ _ _ h => trod_str1 Tryz.underlying9 h) g2
  obtain ⟨y3, hy3⟩ : ∃ y, xs[3]? = some y := ⟨xs[3]'(by rw [hxs]; decide), by simp⟩
  have g3 := (hf 3 ⟨_, 221, 3, _, _, _, _⟩ rfl).trans hy3
  try dsimp only at g3
  rw [Tryz.cells221] at g3
  have g3 : DataW.trod enc Tryz.prog W 0 spare held n 221 [c3] = some y3 := g3
  obtain ⟨x3, ⟨f3, r3⟩, o3⟩ := trod_sl (f := MMethod.d) Tryz.underlying221 Tryz.cells44 (by decide) (fun _ _ _ _ h => trod_Method h) g3
  refine ⟨⟨x0, x1, x2, x3⟩, ⟨_, by rw [MClassDef.d_eq]; exact RepF.st (.sub r0 (.sub r1 (.sub r2 (.sub r3 (.nil _)))))⟩, by rw [MClassDef.d_eq]; exact ⟨o0, o1, o2, o3, trivial⟩⟩

theorem Tryz.cells41 : Tryz.prog.cellsOf 41 = 1 := by kernel_rfl

theorem Tryz.cells46 : Tryz.prog.cellsOf 46 = 6 := by kernel_rfl

theorem trod_Unit {fuel : Nat} {cs : List Value} {d : DataW H × List MemPlace} (h : DataW.trod enc Tryz.prog W 0 spare held fuel 46 cs = some d) : ∃ x : MUnit, Rep W x.d cs ∧ x.d.ok := by
  obtain ⟨xs, n, rfl, -, hlen, hxs, hf⟩ := DataW.trod_struct Tryz.underlying46 h
  rw [Tryz.cells46] at hlen
  have hl0 := hlen; clear hlen
  obtain ⟨c0, cs1, rfl, hl1⟩ := len_cons hl0
  obtain ⟨c1, cs2, rfl, hl2⟩ := len_cons hl1
  obtain ⟨c2, cs3, rfl, hl3⟩ := len_cons hl2
  obtain ⟨c3, cs4, rfl, hl4⟩ := len_cons hl3
  obtain ⟨c4, cs5, rfl, hl5⟩ := len_cons hl4
  obtain ⟨c5, cs6, rfl, hl6⟩ := len_cons hl5
  obtain rfl := len_nil hl6
  obtain ⟨y0, hy0⟩ : ∃ y, xs[0]? = some y := ⟨xs[0]'(by rw [hxs]; decide), by simp⟩
  have g0 := (hf 0 ⟨_, 41, 0, _, _, _, _⟩ rfl).trans hy0
  try dsimp only at g0
  rw [Tryz.cells41] at g0
  have g0 : DataW.trod enc Tryz.prog W 0 spare held n 41 [c0] = some y0 := g0
  obtain ⟨x0, ⟨f0, r0⟩, o0⟩ := trod_sl (f := MClassDef.d) Tryz.underlying41 Tryz.cells223 (by decide) (fun _ _ _ _ h => trod_ClassDef h) g0
  obtain ⟨y1, hy1⟩ : ∃ y, xs[1]? = some y := ⟨xs[1]'(by rw [hxs]; decide), by simp⟩
  have g1 := (hf 1 ⟨_, 44, 1, _, _, _, _⟩ rfl).trans hy1
  try dsimp only at g1
  rw [Tryz.cells44] at g1
  have g1 : DataW.trod enc Tryz.prog W 0 spare held n 44 [c1, c2, c3, c4, c5] = some y1 := g1
  obtain ⟨x1, ⟨f1, r1⟩, o1⟩ := trod_Method g1
  refine ⟨⟨x0, x1⟩, ⟨_, by rw [MUnit.d_eq]; exact RepF.st (.sub r0 (.sub r1 (.nil _)))⟩, by rw [MUnit.d_eq]; exact ⟨o0, o1, trivial⟩⟩

theorem Tryz.cells193 : Tryz.prog.cellsOf 193 = 3 := by kernel_rfl

theorem trod_ClassInfo {fuel : Nat} {cs : List Value} {d : DataW H × List MemPlace} (h : DataW.trod enc Tryz.prog W 0 spare held fuel 193 cs = some d) : ∃ x : MClassInfo, Rep W x.d cs ∧ x.d.ok := by
  obtain ⟨xs, n, rfl, -, hlen, hxs, hf⟩ := DataW.trod_struct Tryz.underlying193 h
  rw [Tryz.cells193] at hlen
  have hl0 := hlen; clear hlen
  obtain ⟨c0, cs1, rfl, hl1⟩ := len_cons hl0
  obtain ⟨c1, cs2, rfl, hl2⟩ := len_cons hl1
  obtain ⟨c2, cs3, rfl, hl3⟩ := len_cons hl2
  obtain rfl := len_nil hl3
  obtain ⟨y0, hy0⟩ : ∃ y, xs[0]? = some y := ⟨xs[0]'(by rw [hxs]; decide), by simp⟩
  have g0 := (hf 0 ⟨_, 9, 0, _, _, _, _⟩ rfl).trans hy0
  try dsimp only at g0
  rw [Tryz.cells9] at g0
  have g0 : DataW.trod enc Tryz.prog W 0 spare held n 9 [c0] = some y0 := g0
  obtain ⟨x0, ⟨f0, r0⟩, o0⟩ := trod_str1 Tryz.underlying9 g0
  obtain ⟨y1, hy1⟩ : ∃ y, xs[1]? = some y := ⟨xs[1]'(by rw [hxs]; decide), by simp⟩
  have g1 := (hf 1 ⟨_, 3, 1, _, _, _, _⟩ rfl).trans hy1
  try dsimp only at g1
  rw [Tryz.cells3] at g1
  have g1 : DataW.trod enc Tryz.prog W 0 spare held n 3 [c1] = some y1 := g1
  obtain ⟨x1, ⟨f1, r1⟩, o1⟩ := trod_int1 Tryz.underlying3 g1
  obtain ⟨y2, hy2⟩ : ∃ y, xs[2]? = some y := ⟨xs[2]'(by rw [hxs]; decide), by simp⟩
  have g2 := (hf 2 ⟨_, 24, 2, _, _, _, _⟩ rfl).trans hy2
  try dsimp only at g2
  rw [Tryz.cells24] at g2
  have g2 : DataW.trod enc Tryz.prog W 0 spare held n 24 [c2] = some y2 := g2
  obtain ⟨x2, ⟨f2, r2⟩, o2⟩ := trod_sl (f := D.str) Tryz.underlying24 Tryz.cells9 (by decide) (fun _ _ _ _ h => trod_str1 Tryz.underlying9 h) g2
  refine ⟨⟨x0, x1, x2⟩, ⟨_, by rw [MClassInfo.d_eq]; exact RepF.st (.sub r0 (.sub r1 (.sub r2 (.nil _))))⟩, by rw [MClassInfo.d_eq]; exact ⟨o0, o1, o2, trivial⟩⟩

theorem Tryz.cells60 : Tryz.prog.cellsOf 60 = 1 := by kernel_rfl

theorem Tryz.cells62 : Tryz.prog.cellsOf 62 = 5 := by kernel_rfl

theorem trod_Core_lt : ∀ (N fuel : Nat), fuel < N → ∀ (cs : List Value) (d : DataW H × List MemPlace), DataW.trod enc Tryz.prog W 0 spare held fuel 62 cs = some d → ∃ x : MCore, Rep W x.d cs ∧ x.d.ok := by
  intro N
  induction N with
  | zero => intro fuel hf; omega
  | succ N ih =>
  intro fuel hfu cs d h
  obtain ⟨xs, n, rfl, -, hlen, hxs, hf⟩ := DataW.trod_struct Tryz.underlying62 h
  rw [Tryz.cells62] at hlen
  have hl0 := hlen; clear hlen
  obtain ⟨c0, cs1, rfl, hl1⟩ := len_cons hl0
  obtain ⟨c1, cs2, rfl, hl2⟩ := len_cons hl1
  obtain ⟨c2, cs3, rfl, hl3⟩ := len_cons hl2
  obtain ⟨c3, cs4, rfl, hl4⟩ := len_cons hl3
  obtain ⟨c4, cs5, rfl, hl5⟩ := len_cons hl4
  obtain rfl := len_nil hl5
  obtain ⟨y0, hy0⟩ : ∃ y, xs[0]? = some y := ⟨xs[0]'(by rw [hxs]; decide), by simp⟩
  have g0 := (hf 0 ⟨_, 3, 0, _, _, _, _⟩ rfl).trans hy0
  try dsimp only at g0
  rw [Tryz.cells3] at g0
  have g0 : DataW.trod enc Tryz.prog W 0 spare held n 3 [c0] = some y0 := g0
  obtain ⟨x0, ⟨f0, r0⟩, o0⟩ := trod_int1 Tryz.underlying3 g0
  obtain ⟨y1, hy1⟩ : ∃ y, xs[1]? = some y := ⟨xs[1]'(by rw [hxs]; decide), by simp⟩
  have g1 := (hf 1 ⟨_, 9, 1, _, _, _, _⟩ rfl).trans hy1
  try dsimp only at g1
  rw [Tryz.cells9] at g1
  have g1 : DataW.trod enc Tryz.prog W 0 spare held n 9 [c1] = some y1 := g1
  obtain ⟨x1, ⟨f1, r1⟩, o1⟩ := trod_str1 Tryz.underlying9 g1
  obtain ⟨y2, hy2⟩ : ∃ y, xs[2]? = some y := ⟨xs[2]'(by rw [hxs]; decide), by simp⟩
  have g2 := (hf 2 ⟨_, 3, 2, _, _, _, _⟩ rfl).trans hy2
  try dsimp only at g2
  rw [Tryz.cells3] at g2
  have g2 : DataW.trod enc Tryz.prog W 0 spare held n 3 [c2] = some y2 := g2
  obtain ⟨x2, ⟨f2, r2⟩, o2⟩ := trod_int1 Tryz.underlying3 g2
  obtain ⟨y3, hy3⟩ : ∃ y, xs[3]? = some y := ⟨xs[3]'(by rw [hxs]; decide), by simp⟩
  have g3 := (hf 3 ⟨_, 3, 3, _, _, _, _⟩ rfl).trans hy3
  try dsimp only at g3
  rw [Tryz.cells3] at g3
  have g3 : DataW.trod enc Tryz.prog W 0 spare held n 3 [c3] = some y3 := g3
  obtain ⟨x3, ⟨f3, r3⟩, o3⟩ := trod_int1 Tryz.underlying3 g3
  obtain ⟨y4, hy4⟩ : ∃ y, xs[4]? = some y := ⟨xs[4]'(by rw [hxs]; decide), by simp⟩
  have g4 := (hf 4 ⟨_, 60, 4, _, _, _, _⟩ rfl).trans hy4
  try dsimp only at g4
  rw [Tryz.cells60] at g4
  have g4 : DataW.trod enc Tryz.prog W 0 spare held n 60 [c4] = some y4 := g4
  obtain ⟨x4, ⟨f4, r4⟩, o4⟩ := trod_sl (f := MCore.d) Tryz.underlying60 Tryz.cells62 (by decide) (fun m hm es d h => ih m (by omega) es d h) g4
  refine ⟨⟨x0, x1, x2, x3, x4⟩, ⟨_, by rw [MCore.d_eq]; exact RepF.st (.sub r0 (.sub r1 (.sub r2 (.sub r3 (.sub r4 (.nil _))))))⟩, by rw [MCore.d_eq]; exact ⟨o0, o1, o2, o3, o4, trivial⟩⟩
theorem trod_Core {fuel : Nat} {cs : List Value} {d : DataW H × List MemPlace} (h : DataW.trod enc Tryz.prog W 0 spare held fuel 62 cs = some d) : ∃ x : MCore, Rep W x.d cs ∧ x.d.ok := trod_Core_lt _ _ (Nat.lt_succ_self _) cs d h

theorem Tryz.cells64 : Tryz.prog.cellsOf 64 = 10 := by kernel_rfl

theorem trod_Routine {fuel : Nat} {cs : List Value} {d : DataW H × List MemPlace} (h : DataW.trod enc Tryz.prog W 0 spare held fuel 64 cs = some d) : ∃ x : MRoutine, Rep W x.d cs ∧ x.d.ok := by
  obtain ⟨xs, n, rfl, -, hlen, hxs, hf⟩ := DataW.trod_struct Tryz.underlying64 h
  rw [Tryz.cells64] at hlen
  have hl0 := hlen; clear hlen
  obtain ⟨c0, cs1, rfl, hl1⟩ := len_cons hl0
  obtain ⟨c1, cs2, rfl, hl2⟩ := len_cons hl1
  obtain ⟨c2, cs3, rfl, hl3⟩ := len_cons hl2
  obtain ⟨c3, cs4, rfl, hl4⟩ := len_cons hl3
  obtain ⟨c4, cs5, rfl, hl5⟩ := len_cons hl4
  obtain ⟨c5, cs6, rfl, hl6⟩ := len_cons hl5
  obtain ⟨c6, cs7, rfl, hl7⟩ := len_cons hl6
  obtain ⟨c7, cs8, rfl, hl8⟩ := len_cons hl7
  obtain ⟨c8, cs9, rfl, hl9⟩ := len_cons hl8
  obtain ⟨c9, cs10, rfl, hl10⟩ := len_cons hl9
  obtain rfl := len_nil hl10
  obtain ⟨y0, hy0⟩ : ∃ y, xs[0]? = some y := ⟨xs[0]'(by rw [hxs]; decide), by simp⟩
  have g0 := (hf 0 ⟨_, 9, 0, _, _, _, _⟩ rfl).trans hy0
  try dsimp only at g0
  rw [Tryz.cells9] at g0
  have g0 : DataW.trod enc Tryz.prog W 0 spare held n 9 [c0] = some y0 := g0
  obtain ⟨x0, ⟨f0, r0⟩, o0⟩ := trod_str1 Tryz.underlying9 g0
  obtain ⟨y1, hy1⟩ : ∃ y, xs[1]? = some y := ⟨xs[1]'(by rw [hxs]; decide), by simp⟩
  have g1 := (hf 1 ⟨_, 3, 1, _, _, _, _⟩ rfl).trans hy1
  try dsimp only at g1
  rw [Tryz.cells3] at g1
  have g1 : DataW.trod enc Tryz.prog W 0 spare held n 3 [c1] = some y1 := g1
  obtain ⟨x1, ⟨f1, r1⟩, o1⟩ := trod_int1 Tryz.underlying3 g1
  obtain ⟨y2, hy2⟩ : ∃ y, xs[2]? = some y := ⟨xs[2]'(by rw [hxs]; decide), by simp⟩
  have g2 := (hf 2 ⟨_, 4, 2, _, _, _, _⟩ rfl).trans hy2
  try dsimp only at g2
  rw [Tryz.cells4] at g2
  have g2 : DataW.trod enc Tryz.prog W 0 spare held n 4 [c2] = some y2 := g2
  obtain ⟨x2, ⟨f2, r2⟩, o2⟩ := trod_bool1 Tryz.underlying4 g2
  obtain ⟨y3, hy3⟩ : ∃ y, xs[3]? = some y := ⟨xs[3]'(by rw [hxs]; decide), by simp⟩
  have g3 := (hf 3 ⟨_, 3, 3, _, _, _, _⟩ rfl).trans hy3
  try dsimp only at g3
  rw [Tryz.cells3] at g3
  have g3 : DataW.trod enc Tryz.prog W 0 spare held n 3 [c3] = some y3 := g3
  obtain ⟨x3, ⟨f3, r3⟩, o3⟩ := trod_int1 Tryz.underlying3 g3
  obtain ⟨y4, hy4⟩ : ∃ y, xs[4]? = some y := ⟨xs[4]'(by rw [hxs]; decide), by simp⟩
  have g4 := (hf 4 ⟨_, 3, 4, _, _, _, _⟩ rfl).trans hy4
  try dsimp only at g4
  rw [Tryz.cells3] at g4
  have g4 : DataW.trod enc Tryz.prog W 0 spare held n 3 [c4] = some y4 := g4
  obtain ⟨x4, ⟨f4, r4⟩, o4⟩ := trod_int1 Tryz.underlying3 g4
  obtain ⟨y5, hy5⟩ : ∃ y, xs[5]? = some y := ⟨xs[5]'(by rw [hxs]; decide), by simp⟩
  have g5 := (hf 5 ⟨_, 62, 5, _, _, _, _⟩ rfl).trans hy5
  try dsimp only at g5
  rw [Tryz.cells62] at g5
  have g5 : DataW.trod enc Tryz.prog W 0 spare held n 62 [c5, c6, c7, c8, c9] = some y5 := g5
  obtain ⟨x5, ⟨f5, r5⟩, o5⟩ := trod_Core g5
  refine ⟨⟨x0, x1, x2, x3, x4, x5⟩, ⟨_, by rw [MRoutine.d_eq]; exact RepF.st (.sub r0 (.sub r1 (.sub r2 (.sub r3 (.sub r4 (.sub r5 (.nil _)))))))⟩, by rw [MRoutine.d_eq]; exact ⟨o0, o1, o2, o3, o4, o5, trivial⟩⟩

theorem Tryz.cells22 : Tryz.prog.cellsOf 22 = 1 := by kernel_rfl

theorem Tryz.cells59 : Tryz.prog.cellsOf 59 = 1 := by kernel_rfl

theorem Tryz.cells66 : Tryz.prog.cellsOf 66 = 12 := by kernel_rfl

theorem trod_System {fuel : Nat} {cs : List Value} {d : DataW H × List MemPlace} (h : DataW.trod enc Tryz.prog W 0 spare held fuel 66 cs = some d) : ∃ x : MSystem, Rep W x.d cs ∧ x.d.ok := by
  obtain ⟨xs, n, rfl, -, hlen, hxs, hf⟩ := DataW.trod_struct Tryz.underlying66 h
  rw [Tryz.cells66] at hlen
  have hl0 := hlen; clear hlen
  obtain ⟨c0, cs1, rfl, hl1⟩ := len_cons hl0
  obtain ⟨c1, cs2, rfl, hl2⟩ := len_cons hl1
  obtain ⟨c2, cs3, rfl, hl3⟩ := len_cons hl2
  obtain ⟨c3, cs4, rfl, hl4⟩ := len_cons hl3
  obtain ⟨c4, cs5, rfl, hl5⟩ := len_cons hl4
  obtain ⟨c5, cs6, rfl, hl6⟩ := len_cons hl5
  obtain ⟨c6, cs7, rfl, hl7⟩ := len_cons hl6
  obtain ⟨c7, cs8, rfl, hl8⟩ := len_cons hl7
  obtain ⟨c8, cs9, rfl, hl9⟩ := len_cons hl8
  obtain ⟨c9, cs10, rfl, hl10⟩ := len_cons hl9
  obtain ⟨c10, cs11, rfl, hl11⟩ := len_cons hl10
  obtain ⟨c11, cs12, rfl, hl12⟩ := len_cons hl11
  obtain rfl := len_nil hl12
  obtain ⟨y0, hy0⟩ : ∃ y, xs[0]? = some y := ⟨xs[0]'(by rw [hxs]; decide), by simp⟩
  have g0 := (hf 0 ⟨_, 22, 0, _, _, _, _⟩ rfl).trans hy0
  try dsimp only at g0
  rw [Tryz.cells22] at g0
  have g0 : DataW.trod enc Tryz.prog W 0 spare held n 22 [c0] = some y0 := g0
  obtain ⟨x0, ⟨f0, r0⟩, o0⟩ := trod_sl (f := MClassInfo.d) Tryz.underlying22 Tryz.cells193 (by decide) (fun _ _ _ _ h => trod_ClassInfo h) g0
  obtain ⟨y1, hy1⟩ : ∃ y, xs[1]? = some y := ⟨xs[1]'(by rw [hxs]; decide), by simp⟩
  have g1 := (hf 1 ⟨_, 59, 1, _, _, _, _⟩ rfl).trans hy1
  try dsimp only at g1
  rw [Tryz.cells59] at g1
  have g1 : DataW.trod enc Tryz.prog W 0 spare held n 59 [c1] = some y1 := g1
  obtain ⟨x1, ⟨f1, r1⟩, o1⟩ := trod_sl (f := MRoutine.d) Tryz.underlying59 Tryz.cells64 (by decide) (fun _ _ _ _ h => trod_Routine h) g1
  obtain ⟨y2, hy2⟩ : ∃ y, xs[2]? = some y := ⟨xs[2]'(by rw [hxs]; decide), by simp⟩
  have g2 := (hf 2 ⟨_, 64, 2, _, _, _, _⟩ rfl).trans hy2
  try dsimp only at g2
  rw [Tryz.cells64] at g2
  have g2 : DataW.trod enc Tryz.prog W 0 spare held n 64 [c2, c3, c4, c5, c6, c7, c8, c9, c10, c11] = some y2 := g2
  obtain ⟨x2, ⟨f2, r2⟩, o2⟩ := trod_Routine g2
  refine ⟨⟨x0, x1, x2⟩, ⟨_, by rw [MSystem.d_eq]; exact RepF.st (.sub r0 (.sub r1 (.sub r2 (.nil _))))⟩, by rw [MSystem.d_eq]; exact ⟨o0, o1, o2, trivial⟩⟩

theorem Tryz.cells28 : Tryz.prog.cellsOf 28 = 3 := by kernel_rfl

theorem trod_Value {fuel : Nat} {cs : List Value} {d : DataW H × List MemPlace} (h : DataW.trod enc Tryz.prog W 0 spare held fuel 28 cs = some d) : ∃ x : MValue, Rep W x.d cs ∧ x.d.ok := by
  obtain ⟨xs, n, rfl, -, hlen, hxs, hf⟩ := DataW.trod_struct Tryz.underlying28 h
  rw [Tryz.cells28] at hlen
  have hl0 := hlen; clear hlen
  obtain ⟨c0, cs1, rfl, hl1⟩ := len_cons hl0
  obtain ⟨c1, cs2, rfl, hl2⟩ := len_cons hl1
  obtain ⟨c2, cs3, rfl, hl3⟩ := len_cons hl2
  obtain rfl := len_nil hl3
  obtain ⟨y0, hy0⟩ : ∃ y, xs[0]? = some y := ⟨xs[0]'(by rw [hxs]; decide), by simp⟩
  have g0 := (hf 0 ⟨_, 3, 0, _, _, _, _⟩ rfl).trans hy0
  try dsimp only at g0
  rw [Tryz.cells3] at g0
  have g0 : DataW.trod enc Tryz.prog W 0 spare held n 3 [c0] = some y0 := g0
  obtain ⟨x0, ⟨f0, r0⟩, o0⟩ := trod_int1 Tryz.underlying3 g0
  obtain ⟨y1, hy1⟩ : ∃ y, xs[1]? = some y := ⟨xs[1]'(by rw [hxs]; decide), by simp⟩
  have g1 := (hf 1 ⟨_, 3, 1, _, _, _, _⟩ rfl).trans hy1
  try dsimp only at g1
  rw [Tryz.cells3] at g1
  have g1 : DataW.trod enc Tryz.prog W 0 spare held n 3 [c1] = some y1 := g1
  obtain ⟨x1, ⟨f1, r1⟩, o1⟩ := trod_int1 Tryz.underlying3 g1
  obtain ⟨y2, hy2⟩ : ∃ y, xs[2]? = some y := ⟨xs[2]'(by rw [hxs]; decide), by simp⟩
  have g2 := (hf 2 ⟨_, 9, 2, _, _, _, _⟩ rfl).trans hy2
  try dsimp only at g2
  rw [Tryz.cells9] at g2
  have g2 : DataW.trod enc Tryz.prog W 0 spare held n 9 [c2] = some y2 := g2
  obtain ⟨x2, ⟨f2, r2⟩, o2⟩ := trod_str1 Tryz.underlying9 g2
  refine ⟨⟨x0, x1, x2⟩, ⟨_, by rw [MValue.d_eq]; exact RepF.st (.sub r0 (.sub r1 (.sub r2 (.nil _))))⟩, by rw [MValue.d_eq]; exact ⟨o0, o1, o2, trivial⟩⟩

theorem Tryz.cells195 : Tryz.prog.cellsOf 195 = 1 := by kernel_rfl

theorem Tryz.cells196 : Tryz.prog.cellsOf 196 = 1 := by kernel_rfl

theorem Tryz.cells198 : Tryz.prog.cellsOf 198 = 4 := by kernel_rfl

theorem trod_Object {fuel : Nat} {cs : List Value} {d : DataW H × List MemPlace} (h : DataW.trod enc Tryz.prog W 0 spare held fuel 198 cs = some d) : ∃ x : MObject, Rep W x.d cs ∧ x.d.ok := by
  obtain ⟨xs, n, rfl, -, hlen, hxs, hf⟩ := DataW.trod_struct Tryz.underlying198 h
  rw [Tryz.cells198] at hlen
  have hl0 := hlen; clear hlen
  obtain ⟨c0, cs1, rfl, hl1⟩ := len_cons hl0
  obtain ⟨c1, cs2, rfl, hl2⟩ := len_cons hl1
  obtain ⟨c2, cs3, rfl, hl3⟩ := len_cons hl2
  obtain ⟨c3, cs4, rfl, hl4⟩ := len_cons hl3
  obtain rfl := len_nil hl4
  obtain ⟨y0, hy0⟩ : ∃ y, xs[0]? = some y := ⟨xs[0]'(by rw [hxs]; decide), by simp⟩
  have g0 := (hf 0 ⟨_, 3, 0, _, _, _, _⟩ rfl).trans hy0
  try dsimp only at g0
  rw [Tryz.cells3] at g0
  have g0 : DataW.trod enc Tryz.prog W 0 spare held n 3 [c0] = some y0 := g0
  obtain ⟨x0, ⟨f0, r0⟩, o0⟩ := trod_int1 Tryz.underlying3 g0
  obtain ⟨y1, hy1⟩ : ∃ y, xs[1]? = some y := ⟨xs[1]'(by rw [hxs]; decide), by simp⟩
  have g1 := (hf 1 ⟨_, 3, 1, _, _, _, _⟩ rfl).trans hy1
  try dsimp only at g1
  rw [Tryz.cells3] at g1
  have g1 : DataW.trod enc Tryz.prog W 0 spare held n 3 [c1] = some y1 := g1
  obtain ⟨x1, ⟨f1, r1⟩, o1⟩ := trod_int1 Tryz.underlying3 g1
  obtain ⟨y2, hy2⟩ : ∃ y, xs[2]? = some y := ⟨xs[2]'(by rw [hxs]; decide), by simp⟩
  have g2 := (hf 2 ⟨_, 195, 2, _, _, _, _⟩ rfl).trans hy2
  try dsimp only at g2
  rw [Tryz.cells195] at g2
  have g2 : DataW.trod enc Tryz.prog W 0 spare held n 195 [c2] = some y2 := g2
  obtain ⟨x2, ⟨f2, r2⟩, o2⟩ := trod_sl (f := MValue.d) Tryz.underlying195 Tryz.cells28 (by decide) (fun _ _ _ _ h => trod_Value h) g2
  obtain ⟨y3, hy3⟩ : ∃ y, xs[3]? = some y := ⟨xs[3]'(by rw [hxs]; decide), by simp⟩
  have g3 := (hf 3 ⟨_, 196, 3, _, _, _, _⟩ rfl).trans hy3
  try dsimp only at g3
  rw [Tryz.cells196] at g3
  have g3 : DataW.trod enc Tryz.prog W 0 spare held n 196 [c3] = some y3 := g3
  obtain ⟨x3, ⟨f3, r3⟩, o3⟩ := trod_sl (f := D.int) Tryz.underlying196 Tryz.cells3 (by decide) (fun _ _ _ _ h => trod_int1 Tryz.underlying3 h) g3
  refine ⟨⟨x0, x1, x2, x3⟩, ⟨_, by rw [MObject.d_eq]; exact RepF.st (.sub r0 (.sub r1 (.sub r2 (.sub r3 (.nil _)))))⟩, by rw [MObject.d_eq]; exact ⟨o0, o1, o2, o3, trivial⟩⟩

theorem Tryz.cells23 : Tryz.prog.cellsOf 23 = 1 := by kernel_rfl

theorem Tryz.cells26 : Tryz.prog.cellsOf 26 = 6 := by kernel_rfl

theorem trod_Store {fuel : Nat} {cs : List Value} {d : DataW H × List MemPlace} (h : DataW.trod enc Tryz.prog W 0 spare held fuel 26 cs = some d) : ∃ x : MStore, Rep W x.d cs ∧ x.d.ok := by
  obtain ⟨xs, n, rfl, -, hlen, hxs, hf⟩ := DataW.trod_struct Tryz.underlying26 h
  rw [Tryz.cells26] at hlen
  have hl0 := hlen; clear hlen
  obtain ⟨c0, cs1, rfl, hl1⟩ := len_cons hl0
  obtain ⟨c1, cs2, rfl, hl2⟩ := len_cons hl1
  obtain ⟨c2, cs3, rfl, hl3⟩ := len_cons hl2
  obtain ⟨c3, cs4, rfl, hl4⟩ := len_cons hl3
  obtain ⟨c4, cs5, rfl, hl5⟩ := len_cons hl4
  obtain ⟨c5, cs6, rfl, hl6⟩ := len_cons hl5
  obtain rfl := len_nil hl6
  obtain ⟨y0, hy0⟩ : ∃ y, xs[0]? = some y := ⟨xs[0]'(by rw [hxs]; decide), by simp⟩
  have g0 := (hf 0 ⟨_, 22, 0, _, _, _, _⟩ rfl).trans hy0
  try dsimp only at g0
  rw [Tryz.cells22] at g0
  have g0 : DataW.trod enc Tryz.prog W 0 spare held n 22 [c0] = some y0 := g0
  obtain ⟨x0, ⟨f0, r0⟩, o0⟩ := trod_sl (f := MClassInfo.d) Tryz.underlying22 Tryz.cells193 (by decide) (fun _ _ _ _ h => trod_ClassInfo h) g0
  obtain ⟨y1, hy1⟩ : ∃ y, xs[1]? = some y := ⟨xs[1]'(by rw [hxs]; decide), by simp⟩
  have g1 := (hf 1 ⟨_, 23, 1, _, _, _, _⟩ rfl).trans hy1
  try dsimp only at g1
  rw [Tryz.cells23] at g1
  have g1 : DataW.trod enc Tryz.prog W 0 spare held n 23 [c1] = some y1 := g1
  obtain ⟨x1, ⟨f1, r1⟩, o1⟩ := trod_sl (f := MObject.d) Tryz.underlying23 Tryz.cells198 (by decide) (fun _ _ _ _ h => trod_Object h) g1
  obtain ⟨y2, hy2⟩ : ∃ y, xs[2]? = some y := ⟨xs[2]'(by rw [hxs]; decide), by simp⟩
  have g2 := (hf 2 ⟨_, 24, 2, _, _, _, _⟩ rfl).trans hy2
  try dsimp only at g2
  rw [Tryz.cells24] at g2
  have g2 : DataW.trod enc Tryz.prog W 0 spare held n 24 [c2] = some y2 := g2
  obtain ⟨x2, ⟨f2, r2⟩, o2⟩ := trod_sl (f := D.str) Tryz.underlying24 Tryz.cells9 (by decide) (fun _ _ _ _ h => trod_str1 Tryz.underlying9 h) g2
  obtain ⟨y3, hy3⟩ : ∃ y, xs[3]? = some y := ⟨xs[3]'(by rw [hxs]; decide), by simp⟩
  have g3 := (hf 3 ⟨_, 3, 3, _, _, _, _⟩ rfl).trans hy3
  try dsimp only at g3
  rw [Tryz.cells3] at g3
  have g3 : DataW.trod enc Tryz.prog W 0 spare held n 3 [c3] = some y3 := g3
  obtain ⟨x3, ⟨f3, r3⟩, o3⟩ := trod_int1 Tryz.underlying3 g3
  obtain ⟨y4, hy4⟩ : ∃ y, xs[4]? = some y := ⟨xs[4]'(by rw [hxs]; decide), by simp⟩
  have g4 := (hf 4 ⟨_, 3, 4, _, _, _, _⟩ rfl).trans hy4
  try dsimp only at g4
  rw [Tryz.cells3] at g4
  have g4 : DataW.trod enc Tryz.prog W 0 spare held n 3 [c4] = some y4 := g4
  obtain ⟨x4, ⟨f4, r4⟩, o4⟩ := trod_int1 Tryz.underlying3 g4
  obtain ⟨y5, hy5⟩ : ∃ y, xs[5]? = some y := ⟨xs[5]'(by rw [hxs]; decide), by simp⟩
  have g5 := (hf 5 ⟨_, 3, 5, _, _, _, _⟩ rfl).trans hy5
  try dsimp only at g5
  rw [Tryz.cells3] at g5
  have g5 : DataW.trod enc Tryz.prog W 0 spare held n 3 [c5] = some y5 := g5
  obtain ⟨x5, ⟨f5, r5⟩, o5⟩ := trod_int1 Tryz.underlying3 g5
  refine ⟨⟨x0, x1, x2, x3, x4, x5⟩, ⟨_, by rw [MStore.d_eq]; exact RepF.st (.sub r0 (.sub r1 (.sub r2 (.sub r3 (.sub r4 (.sub r5 (.nil _)))))))⟩, by rw [MStore.d_eq]; exact ⟨o0, o1, o2, o3, o4, o5, trivial⟩⟩


end Go.Proofs.YticdmbmjlaomiaaGreatDoor
