/-
  THE LAWS' ARGUMENTS, type by type.
  Conditions: those that each lemma states.
-/
import Derived.Test.YtpajlbmjlhafoaaDoorRows
import Derived.Test.YtpajlbmjlhafoaaDoorArgs
namespace Go.Proofs.YtpajlbmjlhafoaaDoor
open Go.RowKit
set_option linter.unusedSimpArgs false
set_option linter.unusedVariables false


variable {H : Type} {enc : TypeId × Value → H} {W : World} {spare : Nat → Bool} {held : Bool}

theorem Tryd.cells9 : Tryd.prog.cellsOf 9 = 1 := by kernel_rfl

theorem Tryd.cells3 : Tryd.prog.cellsOf 3 = 1 := by kernel_rfl

theorem Tryd.cells24 : Tryd.prog.cellsOf 24 = 1 := by kernel_rfl

theorem Tryd.cells72 : Tryd.prog.cellsOf 72 = 3 := by kernel_rfl

theorem trod_ClassInfo {fuel : Nat} {cs : List Value} {d : DataW H × List MemPlace} (h : DataW.trod enc Tryd.prog W 0 spare held fuel 72 cs = some d) : ∃ x : MClassInfo, Rep W x.d cs ∧ x.d.ok := by
  obtain ⟨xs, n, rfl, -, hlen, hxs, hf⟩ := DataW.trod_struct Tryd.underlying72 h
  rw [Tryd.cells72] at hlen
  have hl0 := hlen; clear hlen
  obtain ⟨c0, cs1, rfl, hl1⟩ := len_cons hl0
  obtain ⟨c1, cs2, rfl, hl2⟩ := len_cons hl1
  obtain ⟨c2, cs3, rfl, hl3⟩ := len_cons hl2
  obtain rfl := len_nil hl3
  obtain ⟨y0, hy0⟩ : ∃ y, xs[0]? = some y := ⟨xs[0]'(by rw [hxs]; decide), by simp⟩
  have g0 := (hf 0 ⟨_, 9, 0, _, _, _, _⟩ rfl).trans hy0
  try dsimp only at g0
  rw [Tryd.cells9] at g0
  have g0 : DataW.trod enc Tryd.prog W 0 spare held n 9 [c0] = some y0 := g0
  obtain ⟨x0, ⟨f0, r0⟩, o0⟩ := trod_str1 Tryd.underlying9 g0
  obtain ⟨y1, hy1⟩ : ∃ y, xs[1]? = some y := ⟨xs[1]'(by rw [hxs]; decide), by simp⟩
  have g1 := (hf 1 ⟨_, 3, 1, _, _, _, _⟩ rfl).trans hy1
  try dsimp only at g1
  rw [Tryd.cells3] at g1
  have g1 : DataW.trod enc Tryd.prog W 0 spare held n 3 [c1] = some y1 := g1
  obtain ⟨x1, ⟨f1, r1⟩, o1⟩ := trod_int1 Tryd.underlying3 g1
  obtain ⟨y2, hy2⟩ : ∃ y, xs[2]? = some y := ⟨xs[2]'(by rw [hxs]; decide), by simp⟩
  have g2 := (hf 2 ⟨_, 24, 2, _, _, _, _⟩ rfl).trans hy2
  try dsimp only at g2
  rw [Tryd.cells24] at g2
  have g2 : DataW.trod enc Tryd.prog W 0 spare held n 24 [c2] = some y2 := g2
  obtain ⟨x2, ⟨f2, r2⟩, o2⟩ := trod_sl (f := D.str) Tryd.underlying24 Tryd.cells9 (by decide) (fun _ _ _ _ h => trod_str1 Tryd.underlying9 h) g2
  refine ⟨⟨x0, x1, x2⟩, ⟨_, by rw [MClassInfo.d_eq]; exact RepF.st (.sub r0 (.sub r1 (.sub r2 (.nil _))))⟩, by rw [MClassInfo.d_eq]; exact ⟨o0, o1, o2, trivial⟩⟩

theorem Tryd.cells138 : Tryd.prog.cellsOf 138 = 3 := by kernel_rfl

theorem trod_Value {fuel : Nat} {cs : List Value} {d : DataW H × List MemPlace} (h : DataW.trod enc Tryd.prog W 0 spare held fuel 138 cs = some d) : ∃ x : MValue, Rep W x.d cs ∧ x.d.ok := by
  obtain ⟨xs, n, rfl, -, hlen, hxs, hf⟩ := DataW.trod_struct Tryd.underlying138 h
  rw [Tryd.cells138] at hlen
  have hl0 := hlen; clear hlen
  obtain ⟨c0, cs1, rfl, hl1⟩ := len_cons hl0
  obtain ⟨c1, cs2, rfl, hl2⟩ := len_cons hl1
  obtain ⟨c2, cs3, rfl, hl3⟩ := len_cons hl2
  obtain rfl := len_nil hl3
  obtain ⟨y0, hy0⟩ : ∃ y, xs[0]? = some y := ⟨xs[0]'(by rw [hxs]; decide), by simp⟩
  have g0 := (hf 0 ⟨_, 3, 0, _, _, _, _⟩ rfl).trans hy0
  try dsimp only at g0
  rw [Tryd.cells3] at g0
  have g0 : DataW.trod enc Tryd.prog W 0 spare held n 3 [c0] = some y0 := g0
  obtain ⟨x0, ⟨f0, r0⟩, o0⟩ := trod_int1 Tryd.underlying3 g0
  obtain ⟨y1, hy1⟩ : ∃ y, xs[1]? = some y := ⟨xs[1]'(by rw [hxs]; decide), by simp⟩
  have g1 := (hf 1 ⟨_, 3, 1, _, _, _, _⟩ rfl).trans hy1
  try dsimp only at g1
  rw [Tryd.cells3] at g1
  have g1 : DataW.trod enc Tryd.prog W 0 spare held n 3 [c1] = some y1 := g1
  obtain ⟨x1, ⟨f1, r1⟩, o1⟩ := trod_int1 Tryd.underlying3 g1
  obtain ⟨y2, hy2⟩ : ∃ y, xs[2]? = some y := ⟨xs[2]'(by rw [hxs]; decide), by simp⟩
  have g2 := (hf 2 ⟨_, 9, 2, _, _, _, _⟩ rfl).trans hy2
  try dsimp only at g2
  rw [Tryd.cells9] at g2
  have g2 : DataW.trod enc Tryd.prog W 0 spare held n 9 [c2] = some y2 := g2
  obtain ⟨x2, ⟨f2, r2⟩, o2⟩ := trod_str1 Tryd.underlying9 g2
  refine ⟨⟨x0, x1, x2⟩, ⟨_, by rw [MValue.d_eq]; exact RepF.st (.sub r0 (.sub r1 (.sub r2 (.nil _))))⟩, by rw [MValue.d_eq]; exact ⟨o0, o1, o2, trivial⟩⟩

theorem Tryd.cells74 : Tryd.prog.cellsOf 74 = 1 := by kernel_rfl

theorem Tryd.cells75 : Tryd.prog.cellsOf 75 = 1 := by kernel_rfl

theorem Tryd.cells77 : Tryd.prog.cellsOf 77 = 4 := by kernel_rfl

theorem trod_Object {fuel : Nat} {cs : List Value} {d : DataW H × List MemPlace} (h : DataW.trod enc Tryd.prog W 0 spare held fuel 77 cs = some d) : ∃ x : MObject, Rep W x.d cs ∧ x.d.ok := by
  obtain ⟨xs, n, rfl, -, hlen, hxs, hf⟩ := DataW.trod_struct Tryd.underlying77 h
  rw [Tryd.cells77] at hlen
  have hl0 := hlen; clear hlen
  obtain ⟨c0, cs1, rfl, hl1⟩ := len_cons hl0
  obtain ⟨c1, cs2, rfl, hl2⟩ := len_cons hl1
  obtain ⟨c2, cs3, rfl, hl3⟩ := len_cons hl2
  obtain ⟨c3, cs4, rfl, hl4⟩ := len_cons hl3
  obtain rfl := len_nil hl4
  obtain ⟨y0, hy0⟩ : ∃ y, xs[0]? = some y := ⟨xs[0]'(by rw [hxs]; decide), by simp⟩
  have g0 := (hf 0 ⟨_, 3, 0, _, _, _, _⟩ rfl).trans hy0
  try dsimp only at g0
  rw [Tryd.cells3] at g0
  have g0 : DataW.trod enc Tryd.prog W 0 spare held n 3 [c0] = some y0 := g0
  obtain ⟨x0, ⟨f0, r0⟩, o0⟩ := trod_int1 Tryd.underlying3 g0
  obtain ⟨y1, hy1⟩ : ∃ y, xs[1]? = some y := ⟨xs[1]'(by rw [hxs]; decide), by simp⟩
  have g1 := (hf 1 ⟨_, 3, 1, _, _, _, _⟩ rfl).trans hy1
  try dsimp only at g1
  rw [Tryd.cells3] at g1
  have g1 : DataW.trod enc Tryd.prog W 0 spare held n 3 [c1] = some y1 := g1
  obtain ⟨x1, ⟨f1, r1⟩, o1⟩ := trod_int1 Tryd.underlying3 g1
  obtain ⟨y2, hy2⟩ : ∃ y, xs[2]? = some y := ⟨xs[2]'(by rw [hxs]; decide), by simp⟩
  have g2 := (hf 2 ⟨_, 74, 2, _, _, _, _⟩ rfl).trans hy2
  try dsimp only at g2
  rw [Tryd.cells74] at g2
  have g2 : DataW.trod enc Tryd.prog W 0 spare held n 74 [c2] = some y2 := g2
  obtain ⟨x2, ⟨f2, r2⟩, o2⟩ := trod_sl (f := MValue.d) Tryd.underlying74 Tryd.cells138 (by decide) (fun _ _ _ _ h => trod_Value h) g2
  obtain ⟨y3, hy3⟩ : ∃ y, xs[3]? = some y := ⟨xs[3]'(by rw [hxs]; decide), by simp⟩
  have g3 := (hf 3 ⟨_, 75, 3, _, _, _, _⟩ rfl).trans hy3
  try dsimp only at g3
  rw [Tryd.cells75] at g3
  have g3 : DataW.trod enc Tryd.prog W 0 spare held n 75 [c3] = some y3 := g3
  obtain ⟨x3, ⟨f3, r3⟩, o3⟩ := trod_sl (f := D.int) Tryd.underlying75 Tryd.cells3 (by decide) (fun _ _ _ _ h => trod_int1 Tryd.underlying3 h) g3
  refine ⟨⟨x0, x1, x2, x3⟩, ⟨_, by rw [MObject.d_eq]; exact RepF.st (.sub r0 (.sub r1 (.sub r2 (.sub r3 (.nil _)))))⟩, by rw [MObject.d_eq]; exact ⟨o0, o1, o2, o3, trivial⟩⟩

theorem Tryd.cells22 : Tryd.prog.cellsOf 22 = 1 := by kernel_rfl

theorem Tryd.cells23 : Tryd.prog.cellsOf 23 = 1 := by kernel_rfl

theorem Tryd.cells26 : Tryd.prog.cellsOf 26 = 6 := by kernel_rfl

theorem trod_Store {fuel : Nat} {cs : List Value} {d : DataW H × List MemPlace} (h : DataW.trod enc Tryd.prog W 0 spare held fuel 26 cs = some d) : ∃ x : MStore, Rep W x.d cs ∧ x.d.ok := by
  obtain ⟨xs, n, rfl, -, hlen, hxs, hf⟩ := DataW.trod_struct Tryd.underlying26 h
  rw [Tryd.cells26] at hlen
  have hl0 := hlen; clear hlen
  obtain ⟨c0, cs1, rfl, hl1⟩ := len_cons hl0
  obtain ⟨c1, cs2, rfl, hl2⟩ := len_cons hl1
  obtain ⟨c2, cs3, rfl, hl3⟩ := len_cons hl2
  obtain ⟨c3, cs4, rfl, hl4⟩ := len_cons hl3
  obtain ⟨c4, cs5, rfl, hl5⟩ := len_cons hl4
  obtain ⟨c5, cs6, rfl, hl6⟩ := len_cons hl5
  obtain rfl := len_nil hl6
  obtain ⟨y0, hy0⟩ : ∃ y, xs[0]? = some y := ⟨xs[0]'(by rw [hxs]; decide), by simp⟩
  have g0 := (hf 0 ⟨_, 22, 0, _, _, _, _⟩ rfl).trans hy0
  try dsimp only at g0
  rw [Tryd.cells22] at g0
  have g0 : DataW.trod enc Tryd.prog W 0 spare held n 22 [c0] = some y0 := g0
  obtain ⟨x0, ⟨f0, r0⟩, o0⟩ := trod_sl (f := MClassInfo.d) Tryd.underlying22 Tryd.cells72 (by decide) (fun _ _ _ _ h => trod_ClassInfo h) g0
  obtain ⟨y1, hy1⟩ : ∃ y, xs[1]? = some y := ⟨xs[1]'(by rw [hxs]; decide), by simp⟩
  have g1 := (hf 1 ⟨_, 23, 1, _, _, _, _⟩ rfl).trans hy1
  try dsimp only at g1
  rw [Tryd.cells23] at g1
  have g1 : DataW.trod enc Tryd.prog W 0 spare held n 23 [c1] = some y1 := g1
  obtain ⟨x1, ⟨f1, r1⟩, o1⟩ := trod_sl (f := MObject.d) Tryd.underlying23 Tryd.cells77 (by decide) (fun _ _ _ _ h => trod_Object h) g1
  obtain ⟨y2, hy2⟩ : ∃ y, xs[2]? = some y := ⟨xs[2]'(by rw [hxs]; decide), by simp⟩
  have g2 := (hf 2 ⟨_, 24, 2, _, _, _, _⟩ rfl).trans hy2
  try dsimp only at g2
  rw [Tryd.cells24] at g2
  have g2 : DataW.trod enc Tryd.prog W 0 spare held n 24 [c2] = some y2 := g2
  obtain ⟨x2, ⟨f2, r2⟩, o2⟩ := trod_sl (f := D.str) Tryd.underlying24 Tryd.cells9 (by decide) (fun _ _ _ _ h => trod_str1 Tryd.underlying9 h) g2
  obtain ⟨y3, hy3⟩ : ∃ y, xs[3]? = some y := ⟨xs[3]'(by rw [hxs]; decide), by simp⟩
  have g3 := (hf 3 ⟨_, 3, 3, _, _, _, _⟩ rfl).trans hy3
  try dsimp only at g3
  rw [Tryd.cells3] at g3
  have g3 : DataW.trod enc Tryd.prog W 0 spare held n 3 [c3] = some y3 := g3
  obtain ⟨x3, ⟨f3, r3⟩, o3⟩ := trod_int1 Tryd.underlying3 g3
  obtain ⟨y4, hy4⟩ : ∃ y, xs[4]? = some y := ⟨xs[4]'(by rw [hxs]; decide), by simp⟩
  have g4 := (hf 4 ⟨_, 3, 4, _, _, _, _⟩ rfl).trans hy4
  try dsimp only at g4
  rw [Tryd.cells3] at g4
  have g4 : DataW.trod enc Tryd.prog W 0 spare held n 3 [c4] = some y4 := g4
  obtain ⟨x4, ⟨f4, r4⟩, o4⟩ := trod_int1 Tryd.underlying3 g4
  obtain ⟨y5, hy5⟩ : ∃ y, xs[5]? = some y := ⟨xs[5]'(by rw [hxs]; decide), by simp⟩
  have g5 := (hf 5 ⟨_, 3, 5, _, _, _, _⟩ rfl).trans hy5
  try dsimp only at g5
  rw [Tryd.cells3] at g5
  have g5 : DataW.trod enc Tryd.prog W 0 spare held n 3 [c5] = some y5 := g5
  obtain ⟨x5, ⟨f5, r5⟩, o5⟩ := trod_int1 Tryd.underlying3 g5
  refine ⟨⟨x0, x1, x2, x3, x4, x5⟩, ⟨_, by rw [MStore.d_eq]; exact RepF.st (.sub r0 (.sub r1 (.sub r2 (.sub r3 (.sub r4 (.sub r5 (.nil _)))))))⟩, by rw [MStore.d_eq]; exact ⟨o0, o1, o2, o3, o4, o5, trivial⟩⟩


end Go.Proofs.YtpajlbmjlhafoaaDoor
