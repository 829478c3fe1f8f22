/-
  THE LAWS' ARGUMENTS, type by type.
  Conditions: those that each lemma states.
-/
import Derived.Test.YtlppoffneeglgaaGreatDoorRows
import Derived.Test.YtlppoffneeglgaaGreatDoorArgs
namespace Go.Proofs.YtlppoffneeglgaaGreatDoor
open Go.RowKit
set_option linter.unusedSimpArgs false
set_option linter.unusedVariables false


variable {H : Type} {enc : TypeId × Value → H} {W : World} {spare : Nat → Bool} {held : Bool}

theorem Tryz.cells3 : Tryz.prog.cellsOf 3 = 1 := by kernel_rfl

theorem Tryz.cells9 : Tryz.prog.cellsOf 9 = 1 := by kernel_rfl

theorem Tryz.cells23 : Tryz.prog.cellsOf 23 = 1 := by kernel_rfl

theorem Tryz.cells24 : Tryz.prog.cellsOf 24 = 1 := by kernel_rfl

theorem Tryz.cells92 : Tryz.prog.cellsOf 92 = 5 := by kernel_rfl

theorem trod_Expr_lt : ∀ (N fuel : Nat), fuel < N → ∀ (cs : List Value) (d : DataW H × List MemPlace), DataW.trod enc Tryz.prog W 0 spare held fuel 92 cs = some d → ∃ x : MExpr, Rep W x.d cs ∧ x.d.ok := by
  intro N
  induction N with
  | zero => intro fuel hf; omega
  | succ N ih =>
  intro fuel hfu cs d h
  obtain ⟨xs, n, rfl, -, hlen, hxs, hf⟩ := DataW.trod_struct Tryz.underlying92 h
  rw [Tryz.cells92] at hlen
  have hl0 := hlen; clear hlen
  obtain ⟨c0, cs1, rfl, hl1⟩ := len_cons hl0
  obtain ⟨c1, cs2, rfl, hl2⟩ := len_cons hl1
  obtain ⟨c2, cs3, rfl, hl3⟩ := len_cons hl2
  obtain ⟨c3, cs4, rfl, hl4⟩ := len_cons hl3
  obtain ⟨c4, cs5, rfl, hl5⟩ := len_cons hl4
  obtain rfl := len_nil hl5
  obtain ⟨y0, hy0⟩ : ∃ y, xs[0]? = some y := ⟨xs[0]'(by rw [hxs]; decide), by simp⟩
  have g0 := (hf 0 ⟨_, 3, 0, _, _, _, _⟩ rfl).trans hy0
  try dsimp only at g0
  rw [Tryz.cells3] at g0
  have g0 : DataW.trod enc Tryz.prog W 0 spare held n 3 [c0] = some y0 := g0
  obtain ⟨x0, ⟨f0, r0⟩, o0⟩ := trod_int1 Tryz.underlying3 g0
  obtain ⟨y1, hy1⟩ : ∃ y, xs[1]? = some y := ⟨xs[1]'(by rw [hxs]; decide), by simp⟩
  have g1 := (hf 1 ⟨_, 9, 1, _, _, _, _⟩ rfl).trans hy1
  try dsimp only at g1
  rw [Tryz.cells9] at g1
  have g1 : DataW.trod enc Tryz.prog W 0 spare held n 9 [c1] = some y1 := g1
  obtain ⟨x1, ⟨f1, r1⟩, o1⟩ := trod_str1 Tryz.underlying9 g1
  obtain ⟨y2, hy2⟩ : ∃ y, xs[2]? = some y := ⟨xs[2]'(by rw [hxs]; decide), by simp⟩
  have g2 := (hf 2 ⟨_, 3, 2, _, _, _, _⟩ rfl).trans hy2
  try dsimp only at g2
  rw [Tryz.cells3] at g2
  have g2 : DataW.trod enc Tryz.prog W 0 spare held n 3 [c2] = some y2 := g2
  obtain ⟨x2, ⟨f2, r2⟩, o2⟩ := trod_int1 Tryz.underlying3 g2
  obtain ⟨y3, hy3⟩ : ∃ y, xs[3]? = some y := ⟨xs[3]'(by rw [hxs]; decide), by simp⟩
  have g3 := (hf 3 ⟨_, 23, 3, _, _, _, _⟩ rfl).trans hy3
  try dsimp only at g3
  rw [Tryz.cells23] at g3
  have g3 : DataW.trod enc Tryz.prog W 0 spare held n 23 [c3] = some y3 := g3
  obtain ⟨x3, ⟨f3, r3⟩, o3⟩ := trod_sl (f := D.str) Tryz.underlying23 Tryz.cells9 (by decide) (fun _ _ _ _ h => trod_str1 Tryz.underlying9 h) g3
  obtain ⟨y4, hy4⟩ : ∃ y, xs[4]? = some y := ⟨xs[4]'(by rw [hxs]; decide), by simp⟩
  have g4 := (hf 4 ⟨_, 24, 4, _, _, _, _⟩ rfl).trans hy4
  try dsimp only at g4
  rw [Tryz.cells24] at g4
  have g4 : DataW.trod enc Tryz.prog W 0 spare held n 24 [c4] = some y4 := g4
  obtain ⟨x4, ⟨f4, r4⟩, o4⟩ := trod_sl (f := MExpr.d) Tryz.underlying24 Tryz.cells92 (by decide) (fun m hm es d h => ih m (by omega) es d h) g4
  refine ⟨⟨x0, x1, x2, x3, x4⟩, ⟨_, by rw [MExpr.d_eq]; exact RepF.st (.sub r0 (.sub r1 (.sub r2 (.sub r3 (.sub r4 (.nil _))))))⟩, by rw [MExpr.d_eq]; exact ⟨o0, o1, o2, o3, o4, trivial⟩⟩
theorem trod_Expr {fuel : Nat} {cs : List Value} {d : DataW H × List MemPlace} (h : DataW.trod enc Tryz.prog W 0 spare held fuel 92 cs = some d) : ∃ x : MExpr, Rep W x.d cs ∧ x.d.ok := trod_Expr_lt _ _ (Nat.lt_succ_self _) cs d h

theorem Tryz.cells4 : Tryz.prog.cellsOf 4 = 1 := by kernel_rfl

theorem Tryz.cells26 : Tryz.prog.cellsOf 26 = 5 := by kernel_rfl

theorem trod_Method {fuel : Nat} {cs : List Value} {d : DataW H × List MemPlace} (h : DataW.trod enc Tryz.prog W 0 spare held fuel 26 cs = some d) : ∃ x : MMethod, Rep W x.d cs ∧ x.d.ok := by
  obtain ⟨xs, n, rfl, -, hlen, hxs, hf⟩ := DataW.trod_struct Tryz.underlying26 h
  rw [Tryz.cells26] at hlen
  have hl0 := hlen; clear hlen
  obtain ⟨c0, cs1, rfl, hl1⟩ := len_cons hl0
  obtain ⟨c1, cs2, rfl, hl2⟩ := len_cons hl1
  obtain ⟨c2, cs3, rfl, hl3⟩ := len_cons hl2
  obtain ⟨c3, cs4, rfl, hl4⟩ := len_cons hl3
  obtain ⟨c4, cs5, rfl, hl5⟩ := len_cons hl4
  obtain rfl := len_nil hl5
  obtain ⟨y0, hy0⟩ : ∃ y, xs[0]? = some y := ⟨xs[0]'(by rw [hxs]; decide), by simp⟩
  have g0 := (hf 0 ⟨_, 9, 0, _, _, _, _⟩ rfl).trans hy0
  try dsimp only at g0
  rw [Tryz.cells9] at g0
  have g0 : DataW.trod enc Tryz.prog W 0 spare held n 9 [c0] = some y0 := g0
  obtain ⟨x0, ⟨f0, r0⟩, o0⟩ := trod_str1 Tryz.underlying9 g0
  obtain ⟨y1, hy1⟩ : ∃ y, xs[1]? = some y := ⟨xs[1]'(by rw [hxs]; decide), by simp⟩
  have g1 := (hf 1 ⟨_, 4, 1, _, _, _, _⟩ rfl).trans hy1
  try dsimp only at g1
  rw [Tryz.cells4] at g1
  have g1 : DataW.trod enc Tryz.prog W 0 spare held n 4 [c1] = some y1 := g1
  obtain ⟨x1, ⟨f1, r1⟩, o1⟩ := trod_bool1 Tryz.underlying4 g1
  obtain ⟨y2, hy2⟩ : ∃ y, xs[2]? = some y := ⟨xs[2]'(by rw [hxs]; decide), by simp⟩
  have g2 := (hf 2 ⟨_, 23, 2, _, _, _, _⟩ rfl).trans hy2
  try dsimp only at g2
  rw [Tryz.cells23] at g2
  have g2 : DataW.trod enc Tryz.prog W 0 spare held n 23 [c2] = some y2 := g2
  obtain ⟨x2, ⟨f2, r2⟩, o2⟩ := trod_sl (f := D.str) Tryz.underlying23 Tryz.cells9 (by decide) (fun _ _ _ _ h => trod_str1 Tryz.underlying9 h) g2
  obtain ⟨y3, hy3⟩ : ∃ y, xs[3]? = some y := ⟨xs[3]'(by rw [hxs]; decide), by simp⟩
  have g3 := (hf 3 ⟨_, 23, 3, _, _, _, _⟩ rfl).trans hy3
  try dsimp only at g3
  rw [Tryz.cells23] at g3
  have g3 : DataW.trod enc Tryz.prog W 0 spare held n 23 [c3] = some y3 := g3
  obtain ⟨x3, ⟨f3, r3⟩, o3⟩ := trod_sl (f := D.str) Tryz.underlying23 Tryz.cells9 (by decide) (fun _ _ _ _ h => trod_str1 Tryz.underlying9 h) g3
  obtain ⟨y4, hy4⟩ : ∃ y, xs[4]? = some y := ⟨xs[4]'(by rw [hxs]; decide), by simp⟩
  have g4 := (hf 4 ⟨_, 24, 4, _, _, _, _⟩ rfl).trans hy4
  try dsimp only at g4
  rw [Tryz.cells24] at g4
  have g4 : DataW.trod enc Tryz.prog W 0 spare held n 24 [c4] = some y4 := g4
  obtain ⟨x4, ⟨f4, r4⟩, o4⟩ := trod_sl (f := MExpr.d) Tryz.underlying24 Tryz.cells92 (by decide) (fun _ _ _ _ h => trod_Expr h) g4
  refine ⟨⟨x0, x1, x2, x3, x4⟩, ⟨_, by rw [MMethod.d_eq]; exact RepF.st (.sub r0 (.sub r1 (.sub r2 (.sub r3 (.sub r4 (.nil _))))))⟩, by rw [MMethod.d_eq]; exact ⟨o0, o1, o2, o3, o4, trivial⟩⟩

theorem Tryz.cells66 : Tryz.prog.cellsOf 66 = 1 := by kernel_rfl

theorem Tryz.cells68 : Tryz.prog.cellsOf 68 = 4 := by kernel_rfl

theorem trod_ClassDef {fuel : Nat} {cs : List Value} {d : DataW H × List MemPlace} (h : DataW.trod enc Tryz.prog W 0 spare held fuel 68 cs = some d) : ∃ x : MClassDef, Rep W x.d cs ∧ x.d.ok := by
  obtain ⟨xs, n, rfl, -, hlen, hxs, hf⟩ := DataW.trod_struct Tryz.underlying68 h
  rw [Tryz.cells68] at hlen
  have hl0 := hlen; clear hlen
  obtain ⟨c0, cs1, rfl, hl1⟩ := len_cons hl0
  obtain ⟨c1, cs2, rfl, hl2⟩ := len_cons hl1
  obtain ⟨c2, cs3, rfl, hl3⟩ := len_cons hl2
  obtain ⟨c3, cs4, rfl, hl4⟩ := len_cons hl3
  obtain rfl := len_nil hl4
  obtain ⟨y0, hy0⟩ : ∃ y, xs[0]? = some y := ⟨xs[0]'(by rw [hxs]; decide), by simp⟩
  have g0 := (hf 0 ⟨_, 9, 0, _, _, _, _⟩ rfl).trans hy0
  try dsimp only at g0
  rw [Tryz.cells9] at g0
  have g0 : DataW.trod enc Tryz.prog W 0 spare held n 9 [c0] = some y0 := g0
  obtain ⟨x0, ⟨f0, r0⟩, o0⟩ := trod_str1 Tryz.underlying9 g0
  obtain ⟨y1, hy1⟩ : ∃ y, xs[1]? = some y := ⟨xs[1]'(by rw [hxs]; decide), by simp⟩
  have g1 := (hf 1 ⟨_, 9, 1, _, _, _, _⟩ rfl).trans hy1
  try dsimp only at g1
  rw [Tryz.cells9] at g1
  have g1 : DataW.trod enc Tryz.prog W 0 spare held n 9 [c1] = some y1 := g1
  obtain ⟨x1, ⟨f1, r1⟩, o1⟩ := trod_str1 Tryz.underlying9 g1
  obtain ⟨y2, hy2⟩ : ∃ y, xs[2]? = some y := ⟨xs[2]'(by rw [hxs]; decide), by simp⟩
  have g2 := (hf 2 ⟨_, 23, 2, _, _, _, _⟩ rfl).trans hy2
  try dsimp only at g2
  rw [Tryz.cells23] at g2
  have g2 : DataW.trod enc Tryz.prog W 0 spare held n 23 [c2] = some y2 := g2
  obtain ⟨x2, ⟨f2, r2⟩, o2⟩ := trod_sl (f := D.str) Tryz.underlying23 Tryz.cells9 (by decide) (fun _ _ _ _ h => trod_str1 Tryz.underlying9 h) g2
  obtain ⟨y3, hy3⟩ : ∃ y, xs[3]? = some y := ⟨xs[3]'(by rw [hxs]; decide), by simp⟩
  have g3 := (hf 3 ⟨_, 66, 3, _, _, _, _⟩ rfl).trans hy3
  try dsimp only at g3
  rw [Tryz.cells66] at g3
  have g3 : DataW.trod enc Tryz.prog W 0 spare held n 66 [c3] = some y3 := g3
  obtain ⟨x3, ⟨f3, r3⟩, o3⟩ := trod_sl (f := MMethod.d) Tryz.underlying66 Tryz.cells26 (by decide) (fun _ _ _ _ h => trod_Method h) g3
  refine ⟨⟨x0, x1, x2, x3⟩, ⟨_, by rw [MClassDef.d_eq]; exact RepF.st (.sub r0 (.sub r1 (.sub r2 (.sub r3 (.nil _)))))⟩, by rw [MClassDef.d_eq]; exact ⟨o0, o1, o2, o3, trivial⟩⟩

theorem Tryz.cells22 : Tryz.prog.cellsOf 22 = 1 := by kernel_rfl

theorem Tryz.cells28 : Tryz.prog.cellsOf 28 = 6 := by kernel_rfl

theorem trod_Unit {fuel : Nat} {cs : List Value} {d : DataW H × List MemPlace} (h : DataW.trod enc Tryz.prog W 0 spare held fuel 28 cs = some d) : ∃ x : MUnit, Rep W x.d cs ∧ x.d.ok := by
  obtain ⟨xs, n, rfl, -, hlen, hxs, hf⟩ := DataW.trod_struct Tryz.underlying28 h
  rw [Tryz.cells28] at hlen
  have hl0 := hlen; clear hlen
  obtain ⟨c0, cs1, rfl, hl1⟩ := len_cons hl0
  obtain ⟨c1, cs2, rfl, hl2⟩ := len_cons hl1
  obtain ⟨c2, cs3, rfl, hl3⟩ := len_cons hl2
  obtain ⟨c3, cs4, rfl, hl4⟩ := len_cons hl3
  obtain ⟨c4, cs5, rfl, hl5⟩ := len_cons hl4
  obtain ⟨c5, cs6, rfl, hl6⟩ := len_cons hl5
  obtain rfl := len_nil hl6
  obtain ⟨y0, hy0⟩ : ∃ y, xs[0]? = some y := ⟨xs[0]'(by rw [hxs]; decide), by simp⟩
  have g0 := (hf 0 ⟨_, 22, 0, _, _, _, _⟩ rfl).trans hy0
  try dsimp only at g0
  rw [Tryz.cells22] at g0
  have g0 : DataW.trod enc Tryz.prog W 0 spare held n 22 [c0] = some y0 := g0
  obtain ⟨x0, ⟨f0, r0⟩, o0⟩ := trod_sl (f := MClassDef.d) Tryz.underlying22 Tryz.cells68 (by decide) (fun _ _ _ _ h => trod_ClassDef h) g0
  obtain ⟨y1, hy1⟩ : ∃ y, xs[1]? = some y := ⟨xs[1]'(by rw [hxs]; decide), by simp⟩
  have g1 := (hf 1 ⟨_, 26, 1, _, _, _, _⟩ rfl).trans hy1
  try dsimp only at g1
  rw [Tryz.cells26] at g1
  have g1 : DataW.trod enc Tryz.prog W 0 spare held n 26 [c1, c2, c3, c4, c5] = some y1 := g1
  obtain ⟨x1, ⟨f1, r1⟩, o1⟩ := trod_Method g1
  refine ⟨⟨x0, x1⟩, ⟨_, by rw [MUnit.d_eq]; exact RepF.st (.sub r0 (.sub r1 (.nil _)))⟩, by rw [MUnit.d_eq]; exact ⟨o0, o1, trivial⟩⟩


end Go.Proofs.YtlppoffneeglgaaGreatDoor
