/-
  THE LAWS' ARGUMENTS, type by type.
  Conditions: those that each lemma states.
-/
import Derived.Test.YtihibfdnmbapkaaDoorRows
import Derived.Test.YtihibfdnmbapkaaDoorArgs
namespace Go.Proofs.YtihibfdnmbapkaaDoor
open Go.RowKit
set_option linter.unusedSimpArgs false
set_option linter.unusedVariables false


variable {H : Type} {enc : TypeId × Value → H} {W : World} {spare : Nat → Bool} {held : Bool}

theorem Tryd.cells3 : Tryd.prog.cellsOf 3 = 1 := by kernel_rfl

theorem Tryd.cells9 : Tryd.prog.cellsOf 9 = 1 := by kernel_rfl

theorem Tryd.cells45 : Tryd.prog.cellsOf 45 = 3 := by kernel_rfl

theorem trod_Token {fuel : Nat} {cs : List Value} {d : DataW H × List MemPlace} (h : DataW.trod enc Tryd.prog W 0 spare held fuel 45 cs = some d) : ∃ x : MToken, Rep W x.d cs ∧ x.d.ok := by
  obtain ⟨xs, n, rfl, -, hlen, hxs, hf⟩ := DataW.trod_struct Tryd.underlying45 h
  rw [Tryd.cells45] at hlen
  have hl0 := hlen; clear hlen
  obtain ⟨c0, cs1, rfl, hl1⟩ := len_cons hl0
  obtain ⟨c1, cs2, rfl, hl2⟩ := len_cons hl1
  obtain ⟨c2, cs3, rfl, hl3⟩ := len_cons hl2
  obtain rfl := len_nil hl3
  obtain ⟨y0, hy0⟩ : ∃ y, xs[0]? = some y := ⟨xs[0]'(by rw [hxs]; decide), by simp⟩
  have g0 := (hf 0 ⟨_, 3, 0, _, _, _, _⟩ rfl).trans hy0
  try dsimp only at g0
  rw [Tryd.cells3] at g0
  have g0 : DataW.trod enc Tryd.prog W 0 spare held n 3 [c0] = some y0 := g0
  obtain ⟨x0, ⟨f0, r0⟩, o0⟩ := trod_int1 Tryd.underlying3 g0
  obtain ⟨y1, hy1⟩ : ∃ y, xs[1]? = some y := ⟨xs[1]'(by rw [hxs]; decide), by simp⟩
  have g1 := (hf 1 ⟨_, 9, 1, _, _, _, _⟩ rfl).trans hy1
  try dsimp only at g1
  rw [Tryd.cells9] at g1
  have g1 : DataW.trod enc Tryd.prog W 0 spare held n 9 [c1] = some y1 := g1
  obtain ⟨x1, ⟨f1, r1⟩, o1⟩ := trod_str1 Tryd.underlying9 g1
  obtain ⟨y2, hy2⟩ : ∃ y, xs[2]? = some y := ⟨xs[2]'(by rw [hxs]; decide), by simp⟩
  have g2 := (hf 2 ⟨_, 3, 2, _, _, _, _⟩ rfl).trans hy2
  try dsimp only at g2
  rw [Tryd.cells3] at g2
  have g2 : DataW.trod enc Tryd.prog W 0 spare held n 3 [c2] = some y2 := g2
  obtain ⟨x2, ⟨f2, r2⟩, o2⟩ := trod_int1 Tryd.underlying3 g2
  refine ⟨⟨x0, x1, x2⟩, ⟨_, by rw [MToken.d_eq]; exact RepF.st (.sub r0 (.sub r1 (.sub r2 (.nil _))))⟩, by rw [MToken.d_eq]; exact ⟨o0, o1, o2, trivial⟩⟩

theorem Tryd.cells33 : Tryd.prog.cellsOf 33 = 1 := by kernel_rfl

theorem Tryd.cells54 : Tryd.prog.cellsOf 54 = 1 := by kernel_rfl

theorem Tryd.cells56 : Tryd.prog.cellsOf 56 = 5 := by kernel_rfl

theorem trod_Expr_lt : ∀ (N fuel : Nat), fuel < N → ∀ (cs : List Value) (d : DataW H × List MemPlace), DataW.trod enc Tryd.prog W 0 spare held fuel 56 cs = some d → ∃ x : MExpr, Rep W x.d cs ∧ x.d.ok := by
  intro N
  induction N with
  | zero => intro fuel hf; omega
  | succ N ih =>
  intro fuel hfu cs d h
  obtain ⟨xs, n, rfl, -, hlen, hxs, hf⟩ := DataW.trod_struct Tryd.underlying56 h
  rw [Tryd.cells56] at hlen
  have hl0 := hlen; clear hlen
  obtain ⟨c0, cs1, rfl, hl1⟩ := len_cons hl0
  obtain ⟨c1, cs2, rfl, hl2⟩ := len_cons hl1
  obtain ⟨c2, cs3, rfl, hl3⟩ := len_cons hl2
  obtain ⟨c3, cs4, rfl, hl4⟩ := len_cons hl3
  obtain ⟨c4, cs5, rfl, hl5⟩ := len_cons hl4
  obtain rfl := len_nil hl5
  obtain ⟨y0, hy0⟩ : ∃ y, xs[0]? = some y := ⟨xs[0]'(by rw [hxs]; decide), by simp⟩
  have g0 := (hf 0 ⟨_, 3, 0, _, _, _, _⟩ rfl).trans hy0
  try dsimp only at g0
  rw [Tryd.cells3] at g0
  have g0 : DataW.trod enc Tryd.prog W 0 spare held n 3 [c0] = some y0 := g0
  obtain ⟨x0, ⟨f0, r0⟩, o0⟩ := trod_int1 Tryd.underlying3 g0
  obtain ⟨y1, hy1⟩ : ∃ y, xs[1]? = some y := ⟨xs[1]'(by rw [hxs]; decide), by simp⟩
  have g1 := (hf 1 ⟨_, 9, 1, _, _, _, _⟩ rfl).trans hy1
  try dsimp only at g1
  rw [Tryd.cells9] at g1
  have g1 : DataW.trod enc Tryd.prog W 0 spare held n 9 [c1] = some y1 := g1
  obtain ⟨x1, ⟨f1, r1⟩, o1⟩ := trod_str1 Tryd.underlying9 g1
  obtain ⟨y2, hy2⟩ : ∃ y, xs[2]? = some y := ⟨xs[2]'(by rw [hxs]; decide), by simp⟩
  have g2 := (hf 2 ⟨_, 3, 2, _, _, _, _⟩ rfl).trans hy2
  try dsimp only at g2
  rw [Tryd.cells3] at g2
  have g2 : DataW.trod enc Tryd.prog W 0 spare held n 3 [c2] = some y2 := g2
  obtain ⟨x2, ⟨f2, r2⟩, o2⟩ := trod_int1 Tryd.underlying3 g2
  obtain ⟨y3, hy3⟩ : ∃ y, xs[3]? = some y := ⟨xs[3]'(by rw [hxs]; decide), by simp⟩
  have g3 := (hf 3 ⟨_, 33, 3, _, _, _, _⟩ rfl).trans hy3
  try dsimp only at g3
  rw [Tryd.cells33] at g3
  have g3 : DataW.trod enc Tryd.prog W 0 spare held n 33 [c3] = some y3 := g3
  obtain ⟨x3, ⟨f3, r3⟩, o3⟩ := trod_sl (f := D.str) Tryd.underlying33 Tryd.cells9 (by decide) (fun _ _ _ _ h => trod_str1 Tryd.underlying9 h) g3
  obtain ⟨y4, hy4⟩ : ∃ y, xs[4]? = some y := ⟨xs[4]'(by rw [hxs]; decide), by simp⟩
  have g4 := (hf 4 ⟨_, 54, 4, _, _, _, _⟩ rfl).trans hy4
  try dsimp only at g4
  rw [Tryd.cells54] at g4
  have g4 : DataW.trod enc Tryd.prog W 0 spare held n 54 [c4] = some y4 := g4
  obtain ⟨x4, ⟨f4, r4⟩, o4⟩ := trod_sl (f := MExpr.d) Tryd.underlying54 Tryd.cells56 (by decide) (fun m hm es d h => ih m (by omega) es d h) g4
  refine ⟨⟨x0, x1, x2, x3, x4⟩, ⟨_, by rw [MExpr.d_eq]; exact RepF.st (.sub r0 (.sub r1 (.sub r2 (.sub r3 (.sub r4 (.nil _))))))⟩, by rw [MExpr.d_eq]; exact ⟨o0, o1, o2, o3, o4, trivial⟩⟩
theorem trod_Expr {fuel : Nat} {cs : List Value} {d : DataW H × List MemPlace} (h : DataW.trod enc Tryd.prog W 0 spare held fuel 56 cs = some d) : ∃ x : MExpr, Rep W x.d cs ∧ x.d.ok := trod_Expr_lt _ _ (Nat.lt_succ_self _) cs d h

theorem Tryd.cells4 : Tryd.prog.cellsOf 4 = 1 := by kernel_rfl

theorem Tryd.cells71 : Tryd.prog.cellsOf 71 = 5 := by kernel_rfl

theorem trod_Method {fuel : Nat} {cs : List Value} {d : DataW H × List MemPlace} (h : DataW.trod enc Tryd.prog W 0 spare held fuel 71 cs = some d) : ∃ x : MMethod, Rep W x.d cs ∧ x.d.ok := by
  obtain ⟨xs, n, rfl, -, hlen, hxs, hf⟩ := DataW.trod_struct Tryd.underlying71 h
  rw [Tryd.cells71] at hlen
  have hl0 := hlen; clear hlen
  obtain ⟨c0, cs1, rfl, hl1⟩ := len_cons hl0
  obtain ⟨c1, cs2, rfl, hl2⟩ := len_cons hl1
  obtain ⟨c2, cs3, rfl, hl3⟩ := len_cons hl2
  obtain ⟨c3, cs4, rfl, hl4⟩ := len_cons hl3
  obtain ⟨c4, cs5, rfl, hl5⟩ := len_cons hl4
  obtain rfl := len_nil hl5
  obtain ⟨y0, hy0⟩ : ∃ y, xs[0]? = some y := ⟨xs[0]'(by rw [hxs]; decide), by simp⟩
  have g0 := (hf 0 ⟨_, 9, 0, _, _, _, _⟩ rfl).trans hy0
  try dsimp only at g0
  rw [Tryd.cells9] at g0
  have g0 : DataW.trod enc Tryd.prog W 0 spare held n 9 [c0] = some y0 := g0
  obtain ⟨x0, ⟨f0, r0⟩, o0⟩ := trod_str1 Tryd.underlying9 g0
  obtain ⟨y1, hy1⟩ : ∃ y, xs[1]? = some y := ⟨xs[1]'(by rw [hxs]; decide), by simp⟩
  have g1 := (hf 1 ⟨_, 4, 1, _, _, _, _⟩ rfl).trans hy1
  try dsimp only at g1
  rw [Tryd.cells4] at g1
  have g1 : DataW.trod enc Tryd.prog W 0 spare held n 4 [c1] = some y1 := g1
  obtain ⟨x1, ⟨f1, r1⟩, o1⟩ := trod_bool1 Tryd.underlying4 g1
  obtain ⟨y2, hy2⟩ : ∃ y, xs[2]? = some y := ⟨xs[2]'(by rw [hxs]; decide), by simp⟩
  have g2 := (hf 2 ⟨_, 33, 2, _, _, _, _⟩ rfl).trans hy2
  try dsimp only at g2
  rw [Tryd.cells33] at g2
  have g2 : DataW.trod enc Tryd.prog W 0 spare held n 33 [c2] = some y2 := g2
  obtain ⟨x2, ⟨f2, r2⟩, o2⟩ := trod_sl (f := D.str) Tryd.underlying33 Tryd.cells9 (by decide) (fun _ _ _ _ h => trod_str1 Tryd.underlying9 h) g2
  obtain ⟨y3, hy3⟩ : ∃ y, xs[3]? = some y := ⟨xs[3]'(by rw [hxs]; decide), by simp⟩
  have g3 := (hf 3 ⟨_, 33, 3, _, _, _, _⟩ rfl).trans hy3
  try dsimp only at g3
  rw [Tryd.cells33] at g3
  have g3 : DataW.trod enc Tryd.prog W 0 spare held n 33 [c3] = some y3 := g3
  obtain ⟨x3, ⟨f3, r3⟩, o3⟩ := trod_sl (f := D.str) Tryd.underlying33 Tryd.cells9 (by decide) (fun _ _ _ _ h => trod_str1 Tryd.underlying9 h) g3
  obtain ⟨y4, hy4⟩ : ∃ y, xs[4]? = some y := ⟨xs[4]'(by rw [hxs]; decide), by simp⟩
  have g4 := (hf 4 ⟨_, 54, 4, _, _, _, _⟩ rfl).trans hy4
  try dsimp only at g4
  rw [Tryd.cells54] at g4
  have g4 : DataW.trod enc Tryd.prog W 0 spare held n 54 [c4] = some y4 := g4
  obtain ⟨x4, ⟨f4, r4⟩, o4⟩ := trod_sl (f := MExpr.d) Tryd.underlying54 Tryd.cells56 (by decide) (fun _ _ _ _ h => trod_Expr h) g4
  refine ⟨⟨x0, x1, x2, x3, x4⟩, ⟨_, by rw [MMethod.d_eq]; exact RepF.st (.sub r0 (.sub r1 (.sub r2 (.sub r3 (.sub r4 (.nil _))))))⟩, by rw [MMethod.d_eq]; exact ⟨o0, o1, o2, o3, o4, trivial⟩⟩

theorem Tryd.cells171 : Tryd.prog.cellsOf 171 = 1 := by kernel_rfl

theorem Tryd.cells173 : Tryd.prog.cellsOf 173 = 4 := by kernel_rfl

theorem trod_ClassDef {fuel : Nat} {cs : List Value} {d : DataW H × List MemPlace} (h : DataW.trod enc Tryd.prog W 0 spare held fuel 173 cs = some d) : ∃ x : MClassDef, Rep W x.d cs ∧ x.d.ok := by
  obtain ⟨xs, n, rfl, -, hlen, hxs, hf⟩ := DataW.trod_struct Tryd.underlying173 h
  rw [Tryd.cells173] at hlen
  have hl0 := hlen; clear hlen
  obtain ⟨c0, cs1, rfl, hl1⟩ := len_cons hl0
  obtain ⟨c1, cs2, rfl, hl2⟩ := len_cons hl1
  obtain ⟨c2, cs3, rfl, hl3⟩ := len_cons hl2
  obtain ⟨c3, cs4, rfl, hl4⟩ := len_cons hl3
  obtain rfl := len_nil hl4
  obtain ⟨y0, hy0⟩ : ∃ y, xs[0]? = some y := ⟨xs[0]'(by rw [hxs]; decide), by simp⟩
  have g0 := (hf 0 ⟨_, 9, 0, _, _, _, _⟩ rfl).trans hy0
  try dsimp only at g0
  rw [Tryd.cells9] at g0
  have g0 : DataW.trod enc Tryd.prog W 0 spare held n 9 [c0] = some y0 := g0
  obtain ⟨x0, ⟨f0, r0⟩, o0⟩ := trod_str1 Tryd.underlying9 g0
  obtain ⟨y1, hy1⟩ : ∃ y, xs[1]? = some y := ⟨xs[1]'(by rw [hxs]; decide), by simp⟩
  have g1 := (hf 1 ⟨_, 9, 1, _, _, _, _⟩ rfl).trans hy1
  try dsimp only at g1
  rw [Tryd.cells9] at g1
  have g1 : DataW.trod enc Tryd.prog W 0 spare held n 9 [c1] = some y1 := g1
  obtain ⟨x1, ⟨f1, r1⟩, o1⟩ := trod_str1 Tryd.underlying9 g1
  obtain ⟨y2, hy2⟩ : ∃ y, xs[2]? = some y := ⟨xs[2]'(by rw [hxs]; decide), by simp⟩
  have g2 := (hf 2 ⟨_, 33, 2, _, _, _, _⟩ rfl).trans hy2
  try dsimp only at g2
  rw [Tryd.cells33] at g2
  have g2 : DataW.trod enc Tryd.prog W 0 spare held n 33 [c2] = some y2 := g2
  obtain ⟨x2, ⟨f2, r2⟩, o2⟩ := trod_sl (f := D.str) Tryd.underlying33 Tryd.cells9 (by decide) (fun _ _ _ _ h => trod_str1 Tryd.underlying9 h) g2
  obtain ⟨y3, hy3⟩ : ∃ y, xs[3]? = some y := ⟨xs[3]'(by rw [hxs]; decide), by simp⟩
  have g3 := (hf 3 ⟨_, 171, 3, _, _, _, _⟩ rfl).trans hy3
  try dsimp only at g3
  rw [Tryd.cells171] at g3
  have g3 : DataW.trod enc Tryd.prog W 0 spare held n 171 [c3] = some y3 := g3
  obtain ⟨x3, ⟨f3, r3⟩, o3⟩ := trod_sl (f := MMethod.d) Tryd.underlying171 Tryd.cells71 (by decide) (fun _ _ _ _ h => trod_Method h) g3
  refine ⟨⟨x0, x1, x2, x3⟩, ⟨_, by rw [MClassDef.d_eq]; exact RepF.st (.sub r0 (.sub r1 (.sub r2 (.sub r3 (.nil _)))))⟩, by rw [MClassDef.d_eq]; exact ⟨o0, o1, o2, o3, trivial⟩⟩

theorem Tryd.cells90 : Tryd.prog.cellsOf 90 = 1 := by kernel_rfl

theorem Tryd.cells92 : Tryd.prog.cellsOf 92 = 6 := by kernel_rfl

theorem trod_Unit {fuel : Nat} {cs : List Value} {d : DataW H × List MemPlace} (h : DataW.trod enc Tryd.prog W 0 spare held fuel 92 cs = some d) : ∃ x : MUnit, Rep W x.d cs ∧ x.d.ok := by
  obtain ⟨xs, n, rfl, -, hlen, hxs, hf⟩ := DataW.trod_struct Tryd.underlying92 h
  rw [Tryd.cells92] at hlen
  have hl0 := hlen; clear hlen
  obtain ⟨c0, cs1, rfl, hl1⟩ := len_cons hl0
  obtain ⟨c1, cs2, rfl, hl2⟩ := len_cons hl1
  obtain ⟨c2, cs3, rfl, hl3⟩ := len_cons hl2
  obtain ⟨c3, cs4, rfl, hl4⟩ := len_cons hl3
  obtain ⟨c4, cs5, rfl, hl5⟩ := len_cons hl4
  obtain ⟨c5, cs6, rfl, hl6⟩ := len_cons hl5
  obtain rfl := len_nil hl6
  obtain ⟨y0, hy0⟩ : ∃ y, xs[0]? = some y := ⟨xs[0]'(by rw [hxs]; decide), by simp⟩
  have g0 := (hf 0 ⟨_, 90, 0, _, _, _, _⟩ rfl).trans hy0
  try dsimp only at g0
  rw [Tryd.cells90] at g0
  have g0 : DataW.trod enc Tryd.prog W 0 spare held n 90 [c0] = some y0 := g0
  obtain ⟨x0, ⟨f0, r0⟩, o0⟩ := trod_sl (f := MClassDef.d) Tryd.underlying90 Tryd.cells173 (by decide) (fun _ _ _ _ h => trod_ClassDef h) g0
  obtain ⟨y1, hy1⟩ : ∃ y, xs[1]? = some y := ⟨xs[1]'(by rw [hxs]; decide), by simp⟩
  have g1 := (hf 1 ⟨_, 71, 1, _, _, _, _⟩ rfl).trans hy1
  try dsimp only at g1
  rw [Tryd.cells71] at g1
  have g1 : DataW.trod enc Tryd.prog W 0 spare held n 71 [c1, c2, c3, c4, c5] = some y1 := g1
  obtain ⟨x1, ⟨f1, r1⟩, o1⟩ := trod_Method g1
  refine ⟨⟨x0, x1⟩, ⟨_, by rw [MUnit.d_eq]; exact RepF.st (.sub r0 (.sub r1 (.nil _)))⟩, by rw [MUnit.d_eq]; exact ⟨o0, o1, trivial⟩⟩

theorem Tryd.cells23 : Tryd.prog.cellsOf 23 = 4 := by kernel_rfl

theorem trod_Instr {fuel : Nat} {cs : List Value} {d : DataW H × List MemPlace} (h : DataW.trod enc Tryd.prog W 0 spare held fuel 23 cs = some d) : ∃ x : MInstr, Rep W x.d cs ∧ x.d.ok := by
  obtain ⟨xs, n, rfl, -, hlen, hxs, hf⟩ := DataW.trod_struct Tryd.underlying23 h
  rw [Tryd.cells23] at hlen
  have hl0 := hlen; clear hlen
  obtain ⟨c0, cs1, rfl, hl1⟩ := len_cons hl0
  obtain ⟨c1, cs2, rfl, hl2⟩ := len_cons hl1
  obtain ⟨c2, cs3, rfl, hl3⟩ := len_cons hl2
  obtain ⟨c3, cs4, rfl, hl4⟩ := len_cons hl3
  obtain rfl := len_nil hl4
  obtain ⟨y0, hy0⟩ : ∃ y, xs[0]? = some y := ⟨xs[0]'(by rw [hxs]; decide), by simp⟩
  have g0 := (hf 0 ⟨_, 3, 0, _, _, _, _⟩ rfl).trans hy0
  try dsimp only at g0
  rw [Tryd.cells3] at g0
  have g0 : DataW.trod enc Tryd.prog W 0 spare held n 3 [c0] = some y0 := g0
  obtain ⟨x0, ⟨f0, r0⟩, o0⟩ := trod_int1 Tryd.underlying3 g0
  obtain ⟨y1, hy1⟩ : ∃ y, xs[1]? = some y := ⟨xs[1]'(by rw [hxs]; decide), by simp⟩
  have g1 := (hf 1 ⟨_, 3, 1, _, _, _, _⟩ rfl).trans hy1
  try dsimp only at g1
  rw [Tryd.cells3] at g1
  have g1 : DataW.trod enc Tryd.prog W 0 spare held n 3 [c1] = some y1 := g1
  obtain ⟨x1, ⟨f1, r1⟩, o1⟩ := trod_int1 Tryd.underlying3 g1
  obtain ⟨y2, hy2⟩ : ∃ y, xs[2]? = some y := ⟨xs[2]'(by rw [hxs]; decide), by simp⟩
  have g2 := (hf 2 ⟨_, 3, 2, _, _, _, _⟩ rfl).trans hy2
  try dsimp only at g2
  rw [Tryd.cells3] at g2
  have g2 : DataW.trod enc Tryd.prog W 0 spare held n 3 [c2] = some y2 := g2
  obtain ⟨x2, ⟨f2, r2⟩, o2⟩ := trod_int1 Tryd.underlying3 g2
  obtain ⟨y3, hy3⟩ : ∃ y, xs[3]? = some y := ⟨xs[3]'(by rw [hxs]; decide), by simp⟩
  have g3 := (hf 3 ⟨_, 9, 3, _, _, _, _⟩ rfl).trans hy3
  try dsimp only at g3
  rw [Tryd.cells9] at g3
  have g3 : DataW.trod enc Tryd.prog W 0 spare held n 9 [c3] = some y3 := g3
  obtain ⟨x3, ⟨f3, r3⟩, o3⟩ := trod_str1 Tryd.underlying9 g3
  refine ⟨⟨x0, x1, x2, x3⟩, ⟨_, by rw [MInstr.d_eq]; exact RepF.st (.sub r0 (.sub r1 (.sub r2 (.sub r3 (.nil _)))))⟩, by rw [MInstr.d_eq]; exact ⟨o0, o1, o2, o3, trivial⟩⟩

theorem Tryd.cells29 : Tryd.prog.cellsOf 29 = 1 := by kernel_rfl

theorem Tryd.cells31 : Tryd.prog.cellsOf 31 = 4 := by kernel_rfl

theorem trod_Code {fuel : Nat} {cs : List Value} {d : DataW H × List MemPlace} (h : DataW.trod enc Tryd.prog W 0 spare held fuel 31 cs = some d) : ∃ x : MCode, Rep W x.d cs ∧ x.d.ok := by
  obtain ⟨xs, n, rfl, -, hlen, hxs, hf⟩ := DataW.trod_struct Tryd.underlying31 h
  rw [Tryd.cells31] at hlen
  have hl0 := hlen; clear hlen
  obtain ⟨c0, cs1, rfl, hl1⟩ := len_cons hl0
  obtain ⟨c1, cs2, rfl, hl2⟩ := len_cons hl1
  obtain ⟨c2, cs3, rfl, hl3⟩ := len_cons hl2
  obtain ⟨c3, cs4, rfl, hl4⟩ := len_cons hl3
  obtain rfl := len_nil hl4
  obtain ⟨y0, hy0⟩ : ∃ y, xs[0]? = some y := ⟨xs[0]'(by rw [hxs]; decide), by simp⟩
  have g0 := (hf 0 ⟨_, 4, 0, _, _, _, _⟩ rfl).trans hy0
  try dsimp only at g0
  rw [Tryd.cells4] at g0
  have g0 : DataW.trod enc Tryd.prog W 0 spare held n 4 [c0] = some y0 := g0
  obtain ⟨x0, ⟨f0, r0⟩, o0⟩ := trod_bool1 Tryd.underlying4 g0
  obtain ⟨y1, hy1⟩ : ∃ y, xs[1]? = some y := ⟨xs[1]'(by rw [hxs]; decide), by simp⟩
  have g1 := (hf 1 ⟨_, 3, 1, _, _, _, _⟩ rfl).trans hy1
  try dsimp only at g1
  rw [Tryd.cells3] at g1
  have g1 : DataW.trod enc Tryd.prog W 0 spare held n 3 [c1] = some y1 := g1
  obtain ⟨x1, ⟨f1, r1⟩, o1⟩ := trod_int1 Tryd.underlying3 g1
  obtain ⟨y2, hy2⟩ : ∃ y, xs[2]? = some y := ⟨xs[2]'(by rw [hxs]; decide), by simp⟩
  have g2 := (hf 2 ⟨_, 3, 2, _, _, _, _⟩ rfl).trans hy2
  try dsimp only at g2
  rw [Tryd.cells3] at g2
  have g2 : DataW.trod enc Tryd.prog W 0 spare held n 3 [c2] = some y2 := g2
  obtain ⟨x2, ⟨f2, r2⟩, o2⟩ := trod_int1 Tryd.underlying3 g2
  obtain ⟨y3, hy3⟩ : ∃ y, xs[3]? = some y := ⟨xs[3]'(by rw [hxs]; decide), by simp⟩
  have g3 := (hf 3 ⟨_, 29, 3, _, _, _, _⟩ rfl).trans hy3
  try dsimp only at g3
  rw [Tryd.cells29] at g3
  have g3 : DataW.trod enc Tryd.prog W 0 spare held n 29 [c3] = some y3 := g3
  obtain ⟨x3, ⟨f3, r3⟩, o3⟩ := trod_sl (f := MInstr.d) Tryd.underlying29 Tryd.cells23 (by decide) (fun _ _ _ _ h => trod_Instr h) g3
  refine ⟨⟨x0, x1, x2, x3⟩, ⟨_, by rw [MCode.d_eq]; exact RepF.st (.sub r0 (.sub r1 (.sub r2 (.sub r3 (.nil _)))))⟩, by rw [MCode.d_eq]; exact ⟨o0, o1, o2, o3, trivial⟩⟩


end Go.Proofs.YtihibfdnmbapkaaDoor
