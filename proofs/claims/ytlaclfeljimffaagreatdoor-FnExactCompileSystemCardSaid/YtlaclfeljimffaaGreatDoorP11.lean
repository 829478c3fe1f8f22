/-
  SEVERAL TEXTS IN ONE: THE LAWS' ARGUMENTS, type by type; THE LAWS' MARKS: a result's memory is written over and read again; A SLICE THAT A CALL GATHERS: where it lies behind an append; PLAIN: what marks make of any datum in memory ('mkD', 'mtD'), and a row of structs while its marks are stored.
  Conditions: those that each lemma states.
-/
import Derived.Test.YtlaclfeljimffaaGreatDoorRows
import Derived.Test.YtlaclfeljimffaaGreatDoorP10
import Derived.Test.YtlaclfeljimffaaGreatDoorP02
import Derived.Test.YtlaclfeljimffaaGreatDoorP03
namespace Go.Proofs.YtlaclfeljimffaaGreatDoor
open Go.RowKit
set_option maxHeartbeats 8000000
set_option maxRecDepth 100000
set_option linter.unusedSimpArgs false
set_option linter.unusedVariables false
variable {H : Type} {enc : TypeId × Value -> H} {W : World} {spare : Nat -> Bool} {held : Bool}
theorem Tryz.cells9 : Tryz.prog.cellsOf 9 = 1 := by kernel_rfl
theorem Tryz.cells3 : Tryz.prog.cellsOf 3 = 1 := by kernel_rfl
theorem Tryz.cells77 : Tryz.prog.cellsOf 77 = 1 := by kernel_rfl
theorem Tryz.cells79 : Tryz.prog.cellsOf 79 = 3 := by kernel_rfl
theorem trod_ClassInfo {fuel : Nat} {cs : List Value} {d : DataW H × List MemPlace} (h : DataW.trod enc Tryz.prog W 0 spare held fuel 79 cs = some d) : ∃ x : MClassInfo, Rep W x.d cs /\ x.d.ok := by
 obtain ⟨xs, n, rfl, -, hlen, hxs, hf⟩ := DataW.trod_struct Tryz.underlying79 h
 rw [Tryz.cells79] at hlen
 have hl0 := hlen; clear hlen
 obtain ⟨c0, cs1, rfl, hl1⟩ := len_cons hl0
 obtain ⟨c1, cs2, rfl, hl2⟩ := len_cons hl1
 obtain ⟨c2, cs3, rfl, hl3⟩ := len_cons hl2
 obtain rfl := len_nil hl3
 obtain ⟨y0, hy0⟩ : ∃ y, xs[0]? = some y := ⟨xs[0]'(by rw [hxs]; decide), by simp⟩
 have g0 := (hf 0 ⟨_, 9, 0, _, _, _, _⟩ rfl).trans hy0
 try dsimp only at g0
 rw [Tryz.cells9] at g0
 have g0 : DataW.trod enc Tryz.prog W 0 spare held n 9 [c0] = some y0 := g0
 obtain ⟨x0, ⟨f0, r0⟩, o0⟩ := trod_str1 Tryz.underlying9 g0
 obtain ⟨y1, hy1⟩ : ∃ y, xs[1]? = some y := ⟨xs[1]'(by rw [hxs]; decide), by simp⟩
 have g1 := (hf 1 ⟨_, 3, 1, _, _, _, _⟩ rfl).trans hy1
 try dsimp only at g1
 rw [Tryz.cells3] at g1
 have g1 : DataW.trod enc Tryz.prog W 0 spare held n 3 [c1] = some y1 := g1
 obtain ⟨x1, ⟨f1, r1⟩, o1⟩ := trod_int1 Tryz.underlying3 g1
 obtain ⟨y2, hy2⟩ : ∃ y, xs[2]? = some y := ⟨xs[2]'(by rw [hxs]; decide), by simp⟩
 have g2 := (hf 2 ⟨_, 77, 2, _, _, _, _⟩ rfl).trans hy2
 try dsimp only at g2
 rw [Tryz.cells77] at g2
 have g2 : DataW.trod enc Tryz.prog W 0 spare held n 77 [c2] = some y2 := g2
 obtain ⟨x2, ⟨f2, r2⟩, o2⟩ := trod_sl (f := D.str) Tryz.underlying77 Tryz.cells9 (by decide) (fun _ _ _ _ h => trod_str1 Tryz.underlying9 h) g2
 refine ⟨⟨x0, x1, x2⟩, ⟨_, by rw [MClassInfo.d_eq]; exact RepF.st (.sub r0 (.sub r1 (.sub r2 (.nil _))))⟩, by rw [MClassInfo.d_eq]; exact ⟨o0, o1, o2, trivial⟩⟩
theorem Tryz.cells24 : Tryz.prog.cellsOf 24 = 1 := by kernel_rfl
theorem Tryz.cells26 : Tryz.prog.cellsOf 26 = 5 := by kernel_rfl
theorem trod_Core_lt : ∀ (N fuel : Nat), fuel < N -> ∀ (cs : List Value) (d : DataW H × List MemPlace), DataW.trod enc Tryz.prog W 0 spare held fuel 26 cs = some d -> ∃ x : MCore, Rep W x.d cs /\ x.d.ok := by
 intro N
 induction N with
 | zero => intro fuel hf; omega
 | succ N ih =>
 intro fuel hfu cs d h
 obtain ⟨xs, n, rfl, -, hlen, hxs, hf⟩ := DataW.trod_struct Tryz.underlying26 h
 rw [Tryz.cells26] at hlen
 have hl0 := hlen; clear hlen
 obtain ⟨c0, cs1, rfl, hl1⟩ := len_cons hl0
 obtain ⟨c1, cs2, rfl, hl2⟩ := len_cons hl1
 obtain ⟨c2, cs3, rfl, hl3⟩ := len_cons hl2
 obtain ⟨c3, cs4, rfl, hl4⟩ := len_cons hl3
 obtain ⟨c4, cs5, rfl, hl5⟩ := len_cons hl4
 obtain rfl := len_nil hl5
 obtain ⟨y0, hy0⟩ : ∃ y, xs[0]? = some y := ⟨xs[0]'(by rw [hxs]; decide), by simp⟩
 have g0 := (hf 0 ⟨_, 3, 0, _, _, _, _⟩ rfl).trans hy0
 try dsimp only at g0
 rw [Tryz.cells3] at g0
 have g0 : DataW.trod enc Tryz.prog W 0 spare held n 3 [c0] = some y0 := g0
 obtain ⟨x0, ⟨f0, r0⟩, o0⟩ := trod_int1 Tryz.underlying3 g0
 obtain ⟨y1, hy1⟩ : ∃ y, xs[1]? = some y := ⟨xs[1]'(by rw [hxs]; decide), by simp⟩
 have g1 := (hf 1 ⟨_, 9, 1, _, _, _, _⟩ rfl).trans hy1
 try dsimp only at g1
 rw [Tryz.cells9] at g1
 have g1 : DataW.trod enc Tryz.prog W 0 spare held n 9 [c1] = some y1 := g1
 obtain ⟨x1, ⟨f1, r1⟩, o1⟩ := trod_str1 Tryz.underlying9 g1
 obtain ⟨y2, hy2⟩ : ∃ y, xs[2]? = some y := ⟨xs[2]'(by rw [hxs]; decide), by simp⟩
 have g2 := (hf 2 ⟨_, 3, 2, _, _, _, _⟩ rfl).trans hy2
 try dsimp only at g2
 rw [Tryz.cells3] at g2
 have g2 : DataW.trod enc Tryz.prog W 0 spare held n 3 [c2] = some y2 := g2
 obtain ⟨x2, ⟨f2, r2⟩, o2⟩ := trod_int1 Tryz.underlying3 g2
 obtain ⟨y3, hy3⟩ : ∃ y, xs[3]? = some y := ⟨xs[3]'(by rw [hxs]; decide), by simp⟩
 have g3 := (hf 3 ⟨_, 3, 3, _, _, _, _⟩ rfl).trans hy3
 try dsimp only at g3
 rw [Tryz.cells3] at g3
 have g3 : DataW.trod enc Tryz.prog W 0 spare held n 3 [c3] = some y3 := g3
 obtain ⟨x3, ⟨f3, r3⟩, o3⟩ := trod_int1 Tryz.underlying3 g3
 obtain ⟨y4, hy4⟩ : ∃ y, xs[4]? = some y := ⟨xs[4]'(by rw [hxs]; decide), by simp⟩
 have g4 := (hf 4 ⟨_, 24, 4, _, _, _, _⟩ rfl).trans hy4
 try dsimp only at g4
 rw [Tryz.cells24] at g4
 have g4 : DataW.trod enc Tryz.prog W 0 spare held n 24 [c4] = some y4 := g4
 obtain ⟨x4, ⟨f4, r4⟩, o4⟩ := trod_sl (f := MCore.d) Tryz.underlying24 Tryz.cells26 (by decide) (fun m hm es d h => ih m (by omega) es d h) g4
 refine ⟨⟨x0, x1, x2, x3, x4⟩, ⟨_, by rw [MCore.d_eq]; exact RepF.st (.sub r0 (.sub r1 (.sub r2 (.sub r3 (.sub r4 (.nil _))))))⟩, by rw [MCore.d_eq]; exact ⟨o0, o1, o2, o3, o4, trivial⟩⟩
theorem trod_Core {fuel : Nat} {cs : List Value} {d : DataW H × List MemPlace} (h : DataW.trod enc Tryz.prog W 0 spare held fuel 26 cs = some d) : ∃ x : MCore, Rep W x.d cs /\ x.d.ok := trod_Core_lt _ _ (Nat.lt_succ_self _) cs d h
theorem Tryz.cells4 : Tryz.prog.cellsOf 4 = 1 := by kernel_rfl
theorem Tryz.cells28 : Tryz.prog.cellsOf 28 = 10 := by kernel_rfl
theorem trod_Routine {fuel : Nat} {cs : List Value} {d : DataW H × List MemPlace} (h : DataW.trod enc Tryz.prog W 0 spare held fuel 28 cs = some d) : ∃ x : MRoutine, Rep W x.d cs /\ x.d.ok := by
 obtain ⟨xs, n, rfl, -, hlen, hxs, hf⟩ := DataW.trod_struct Tryz.underlying28 h
 rw [Tryz.cells28] at hlen
 have hl0 := hlen; clear hlen
 obtain ⟨c0, cs1, rfl, hl1⟩ := len_cons hl0
 obtain ⟨c1, cs2, rfl, hl2⟩ := len_cons hl1
 obtain ⟨c2, cs3, rfl, hl3⟩ := len_cons hl2
 obtain ⟨c3, cs4, rfl, hl4⟩ := len_cons hl3
 obtain ⟨c4, cs5, rfl, hl5⟩ := len_cons hl4
 obtain ⟨c5, cs6, rfl, hl6⟩ := len_cons hl5
 obtain ⟨c6, cs7, rfl, hl7⟩ := len_cons hl6
 obtain ⟨c7, cs8, rfl, hl8⟩ := len_cons hl7
 obtain ⟨c8, cs9, rfl, hl9⟩ := len_cons hl8
 obtain ⟨c9, cs10, rfl, hl10⟩ := len_cons hl9
 obtain rfl := len_nil hl10
 obtain ⟨y0, hy0⟩ : ∃ y, xs[0]? = some y := ⟨xs[0]'(by rw [hxs]; decide), by simp⟩
 have g0 := (hf 0 ⟨_, 9, 0, _, _, _, _⟩ rfl).trans hy0
 try dsimp only at g0
 rw [Tryz.cells9] at g0
 have g0 : DataW.trod enc Tryz.prog W 0 spare held n 9 [c0] = some y0 := g0
 obtain ⟨x0, ⟨f0, r0⟩, o0⟩ := trod_str1 Tryz.underlying9 g0
 obtain ⟨y1, hy1⟩ : ∃ y, xs[1]? = some y := ⟨xs[1]'(by rw [hxs]; decide), by simp⟩
 have g1 := (hf 1 ⟨_, 3, 1, _, _, _, _⟩ rfl).trans hy1
 try dsimp only at g1
 rw [Tryz.cells3] at g1
 have g1 : DataW.trod enc Tryz.prog W 0 spare held n 3 [c1] = some y1 := g1
 obtain ⟨x1, ⟨f1, r1⟩, o1⟩ := trod_int1 Tryz.underlying3 g1
 obtain ⟨y2, hy2⟩ : ∃ y, xs[2]? = some y := ⟨xs[2]'(by rw [hxs]; decide), by simp⟩
 have g2 := (hf 2 ⟨_, 4, 2, _, _, _, _⟩ rfl).trans hy2
 try dsimp only at g2
 rw [Tryz.cells4] at g2
 have g2 : DataW.trod enc Tryz.prog W 0 spare held n 4 [c2] = some y2 := g2
 obtain ⟨x2, ⟨f2, r2⟩, o2⟩ := trod_bool1 Tryz.underlying4 g2
 obtain ⟨y3, hy3⟩ : ∃ y, xs[3]? = some y := ⟨xs[3]'(by rw [hxs]; decide), by simp⟩
 have g3 := (hf 3 ⟨_, 3, 3, _, _, _, _⟩ rfl).trans hy3
 try dsimp only at g3
 rw [Tryz.cells3] at g3
 have g3 : DataW.trod enc Tryz.prog W 0 spare held n 3 [c3] = some y3 := g3
 obtain ⟨x3, ⟨f3, r3⟩, o3⟩ := trod_int1 Tryz.underlying3 g3
 obtain ⟨y4, hy4⟩ : ∃ y, xs[4]? = some y := ⟨xs[4]'(by rw [hxs]; decide), by simp⟩
 have g4 := (hf 4 ⟨_, 3, 4, _, _, _, _⟩ rfl).trans hy4
 try dsimp only at g4
 rw [Tryz.cells3] at g4
 have g4 : DataW.trod enc Tryz.prog W 0 spare held n 3 [c4] = some y4 := g4
 obtain ⟨x4, ⟨f4, r4⟩, o4⟩ := trod_int1 Tryz.underlying3 g4
 obtain ⟨y5, hy5⟩ : ∃ y, xs[5]? = some y := ⟨xs[5]'(by rw [hxs]; decide), by simp⟩
 have g5 := (hf 5 ⟨_, 26, 5, _, _, _, _⟩ rfl).trans hy5
 try dsimp only at g5
 rw [Tryz.cells26] at g5
 have g5 : DataW.trod enc Tryz.prog W 0 spare held n 26 [c5, c6, c7, c8, c9] = some y5 := g5
 obtain ⟨x5, ⟨f5, r5⟩, o5⟩ := trod_Core g5
 refine ⟨⟨x0, x1, x2, x3, x4, x5⟩, ⟨_, by rw [MRoutine.d_eq]; exact RepF.st (.sub r0 (.sub r1 (.sub r2 (.sub r3 (.sub r4 (.sub r5 (.nil _)))))))⟩, by rw [MRoutine.d_eq]; exact ⟨o0, o1, o2, o3, o4, o5, trivial⟩⟩
theorem Tryz.cells22 : Tryz.prog.cellsOf 22 = 1 := by kernel_rfl
theorem Tryz.cells23 : Tryz.prog.cellsOf 23 = 1 := by kernel_rfl
theorem Tryz.cells30 : Tryz.prog.cellsOf 30 = 12 := by kernel_rfl
theorem trod_System {fuel : Nat} {cs : List Value} {d : DataW H × List MemPlace} (h : DataW.trod enc Tryz.prog W 0 spare held fuel 30 cs = some d) : ∃ x : MSystem, Rep W x.d cs /\ x.d.ok := by
 obtain ⟨xs, n, rfl, -, hlen, hxs, hf⟩ := DataW.trod_struct Tryz.underlying30 h
 rw [Tryz.cells30] at hlen
 have hl0 := hlen; clear hlen
 obtain ⟨c0, cs1, rfl, hl1⟩ := len_cons hl0
 obtain ⟨c1, cs2, rfl, hl2⟩ := len_cons hl1
 obtain ⟨c2, cs3, rfl, hl3⟩ := len_cons hl2
 obtain ⟨c3, cs4, rfl, hl4⟩ := len_cons hl3
 obtain ⟨c4, cs5, rfl, hl5⟩ := len_cons hl4
 obtain ⟨c5, cs6, rfl, hl6⟩ := len_cons hl5
 obtain ⟨c6, cs7, rfl, hl7⟩ := len_cons hl6
 obtain ⟨c7, cs8, rfl, hl8⟩ := len_cons hl7
 obtain ⟨c8, cs9, rfl, hl9⟩ := len_cons hl8
 obtain ⟨c9, cs10, rfl, hl10⟩ := len_cons hl9
 obtain ⟨c10, cs11, rfl, hl11⟩ := len_cons hl10
 obtain ⟨c11, cs12, rfl, hl12⟩ := len_cons hl11
 obtain rfl := len_nil hl12
 obtain ⟨y0, hy0⟩ : ∃ y, xs[0]? = some y := ⟨xs[0]'(by rw [hxs]; decide), by simp⟩
 have g0 := (hf 0 ⟨_, 22, 0, _, _, _, _⟩ rfl).trans hy0
 try dsimp only at g0
 rw [Tryz.cells22] at g0
 have g0 : DataW.trod enc Tryz.prog W 0 spare held n 22 [c0] = some y0 := g0
 obtain ⟨x0, ⟨f0, r0⟩, o0⟩ := trod_sl (f := MClassInfo.d) Tryz.underlying22 Tryz.cells79 (by decide) (fun _ _ _ _ h => trod_ClassInfo h) g0
 obtain ⟨y1, hy1⟩ : ∃ y, xs[1]? = some y := ⟨xs[1]'(by rw [hxs]; decide), by simp⟩
 have g1 := (hf 1 ⟨_, 23, 1, _, _, _, _⟩ rfl).trans hy1
 try dsimp only at g1
 rw [Tryz.cells23] at g1
 have g1 : DataW.trod enc Tryz.prog W 0 spare held n 23 [c1] = some y1 := g1
 obtain ⟨x1, ⟨f1, r1⟩, o1⟩ := trod_sl (f := MRoutine.d) Tryz.underlying23 Tryz.cells28 (by decide) (fun _ _ _ _ h => trod_Routine h) g1
 obtain ⟨y2, hy2⟩ : ∃ y, xs[2]? = some y := ⟨xs[2]'(by rw [hxs]; decide), by simp⟩
 have g2 := (hf 2 ⟨_, 28, 2, _, _, _, _⟩ rfl).trans hy2
 try dsimp only at g2
 rw [Tryz.cells28] at g2
 have g2 : DataW.trod enc Tryz.prog W 0 spare held n 28 [c2, c3, c4, c5, c6, c7, c8, c9, c10, c11] = some y2 := g2
 obtain ⟨x2, ⟨f2, r2⟩, o2⟩ := trod_Routine g2
 refine ⟨⟨x0, x1, x2⟩, ⟨_, by rw [MSystem.d_eq]; exact RepF.st (.sub r0 (.sub r1 (.sub r2 (.nil _))))⟩, by rw [MSystem.d_eq]; exact ⟨o0, o1, o2, trivial⟩⟩
structure Touch (w w' : World) (fp : List Nat) : Prop where
 os : w'.os = w.os
 tape : w'.tape = w.tape
 output : w'.output = w.output
 size : w.heap.size <= w'.heap.size
 block : ∀ k, k < w.heap.size -> k ∉ fp -> w'.heap[k]? = w.heap[k]?
theorem Touch.of_ext {w w' : World} (h : Ext w w') (fp : List Nat) : Touch w w' fp := ⟨h.os, h.tape, h.output, h.size, fun k hk _ => h.block k hk⟩
theorem Touch.trans {a b c : World} {fp : List Nat} (h : Touch a b fp) (k : Touch b c fp) : Touch a c fp :=
 ⟨k.os.trans h.os, k.tape.trans h.tape, k.output.trans h.output, Nat.le_trans h.size k.size, fun i hi hn => (k.block i (Nat.lt_of_lt_of_le hi h.size) hn).trans (h.block i hi hn)⟩
theorem Touch.setCell {a w : World} {fp : List Nat} (h : Touch a w fp) {b o : Nat} (hb : b ∈ fp) (v : Value) : Touch a (w.setCell ⟨b, o, none⟩ v) fp :=
 h.trans ⟨rfl, rfl, rfl, by simp [World.setCell], fun k hk hn => heap_setCell_other w ⟨b, o, none⟩ k v (show k ≠ b from fun e => hn (e ▸ hb))⟩
theorem Touch.ext {w w1 w2 : World} {fp : List Nat} (h : Ext w w1) (k : Touch w1 w2 fp) (hf : ∀ b, b ∈ fp -> w.heap.size <= b) : Ext w w2 :=
 ⟨k.os.trans h.os, k.tape.trans h.tape, k.output.trans h.output, Nat.le_trans h.size k.size, fun i hi => (k.block i (Nat.lt_of_lt_of_le hi h.size) fun hm => by have := hf i hm; omega).trans (h.block i hi)⟩
theorem RepF.touch {w w' : World} {d : D} {cs : List Value} {fp gp : List Nat} (h : RepF w d cs gp) (k : Touch w w' fp) (hd : ∀ b, b ∈ gp -> b ∉ fp) : RepF w' d cs gp :=
 h.keep d fun b hb => k.block b (h.lt d b hb) (hd b hb)
def mdig : Nat -> Nat -> List UInt8 -> List UInt8
 | 0, _, acc => acc
 | f + 1, k, acc => if k = 0 then acc else mdig f (k / 10) (UInt8.ofNat (48 + k % 10) :: acc)
def mtext (k : Int) : ByteArray := if k <= 0 then ⟨#[109, 48]⟩ else ⟨(109 :: mdig (k.toNat + 1) k.toNat []).toArray⟩
theorem mdig_fuel : ∀ (f k : Nat) (acc : List UInt8), k < f -> mdig f k acc = mdig (k + 1) k acc
 | 0, k, acc, h => by omega
 | f + 1, k, acc, h => by
  by_cases h0 : k = 0
  · subst h0; simp [mdig]
  · rw [mdig, if_neg h0, mdig, if_neg h0, mdig_fuel f (k / 10) _ (by omega), mdig_fuel k (k / 10) _ (by omega)]
theorem markText_any (k0 : Int) (w : World) (h0 : 0 <= k0) (h1 : k0 <= 4611686018427387904) : Calls Tryz.prog 59 #[.int .i64 k0] w fun e w' => e = .returned (.string (mtext k0)) /\ Ext w w' := by
 go_enter Tryz.func59, Tryz.ntmps59
 by_cases hk : k0 <= 0
 · go_wp2_with fail
   go_ret
   exact ⟨ret_str (by rw [mtext, if_pos hk]), XR _⟩
 go_wp2_with fail
 go_loopw [0, 3] (fun kv ov wr => ∃ (k : Nat) (acc : List UInt8), kv = .int .i64 k /\ acc.length + k <= 4611686018427387904 /\ ov = .string ⟨acc.toArray⟩ /\ Ext w wr /\ Hid (mdig (k + 1) k acc = mdig (k0.toNat + 1) k0.toNat [])) (fun kv _ _ => (intOf kv).toNat)
 case atStart => exact ⟨k0.toNat, [], by rw [Int.toNat_of_nonneg h0], by simp only [List.length_nil]; omega, rfl, XR _, LH rfl⟩
 case round =>
  obtain ⟨k, acc, rfl, hk1, rfl, hx, hR⟩ := hrel
  by_cases hz : (0 : Int) < k
  · have hcv : ∀ W : World, W.cell? ⟨wr.heap.size, 0, none⟩ = some (.int .u8 (48 + (k : Int) % 10)) -> (convert 145 9 (.slice (some ⟨wr.heap.size, 0, none⟩) 1 1)).run Tryz.prog W = .ok (.string (strOfNums [48 + (k : Int) % 10])) W := fun W h =>
     run_convert_bytes_arg (P := Tryz.prog) W 145 5 Tryz.underlying145 Tryz.underlying5 wr.heap.size 0 1 1 [48 + (k : Int) % 10] rfl (fun i hi => by
      obtain rfl : i = 0 := by omega
      exact h) 9 Tryz.underlying9
    have hcv := hcv (wr.alloc (.cells #[.int .u8 (48 + (k : Int) % 10)] 5)) (by simp)
    have hsz : ¬ 9223372036854775807 < (strOfNums [48 + (k : Int) % 10]).size + (⟨acc.toArray⟩ : ByteArray).size := by
     have e1 : (⟨acc.toArray⟩ : ByteArray).size = acc.length := by simp [ByteArray.size]
     rw [strOfNums_size, e1]; simp; omega
    set_option maxRecDepth 100000 in
    go_wp2_with fail
    clear hcv hsz
    go_roundw
    case rel =>
     refine ⟨k / 10, UInt8.ofNat (48 + k % 10) :: acc, by go_num, by simp; omega, ?_, hx.alloc _, LH ?_⟩
     · have : strOfNums [48 + (k : Int) % 10] ++ (⟨acc.toArray⟩ : ByteArray) = ⟨(UInt8.ofNat (48 + k % 10) :: acc).toArray⟩ := by
        simp only [strOfNums, List.map_cons, List.map_nil]
        rw [show (48 + (k : Int) % 10).toNat = 48 + k % 10 from by omega]
        apply ByteArray.ext
        simp
       rw [this]
     · have : mdig (k + 1) k acc = mdig (k / 10 + 1) (k / 10) (UInt8.ofNat (48 + k % 10) :: acc) := by
        rw [mdig, if_neg (by omega), mdig_fuel k (k / 10) _ (by omega)]
       rw [<- hR.out, this]
    case measure => simp [intOf]; omega
  · have hsz : ¬ 9223372036854775807 < 1 + (⟨acc.toArray⟩ : ByteArray).size := by
     have e1 : (⟨acc.toArray⟩ : ByteArray).size = acc.length := by simp [ByteArray.size]
     rw [e1]; omega
    go_wp2_with fail
    go_ret
    obtain rfl : k = 0 := by omega
    have hr := hR.out
    rw [show mdig (0 + 1) 0 acc = acc from by simp [mdig]] at hr
    refine ⟨ret_str ?_, hx⟩
    rw [mtext, if_neg (by omega), <- hr]
    apply ByteArray.ext
    simp
def markL (k : Int) : Nat -> List ByteArray
 | 0 => []
 | n + 1 => markL k n ++ [mtext (k + n)]
theorem markL_length (k : Int) : ∀ n, (markL k n).length = n
 | 0 => rfl
 | n + 1 => by simp [markL, markL_length k n]
theorem markL_get (k : Int) : ∀ n i, i < n -> (markL k n)[i]? = some (mtext (k + i))
 | 0, i, h => by omega
 | n + 1, i, h => by
  rw [markL]
  by_cases hi : i < n
  · rw [List.getElem?_append_left (by rw [markL_length]; exact hi), markL_get k n i hi]
  · obtain rfl : i = n := by omega
    rw [List.getElem?_append_right (by rw [markL_length]; omega), markL_length]; simp
theorem repR_strs_inv {w : World} : ∀ {l : List ByteArray} {cells : List Value} {fp : List Nat}, RepR w 1 (l.map D.str) cells fp -> cells = l.map Value.string /\ fp = []
 | [], cells, fp, h => by simpa [RepR] using h
 | s :: l, cells, fp, h => by
  simp only [List.map_cons, RepR, RepF] at h
  obtain ⟨c1, c2, f1, f2, rfl, rfl, -, ⟨rfl, rfl⟩, h⟩ := h
  obtain ⟨rfl, rfl⟩ := repR_strs_inv h
  exact ⟨rfl, rfl⟩
theorem RepF.strs_own {w : World} {l : List ByteArray} {v : Value} {fp : List Nat} (h : RepF w (strs l) [v] fp) (ho : ∀ b, b ∈ fp -> ∃ C e, Own w b e C) :
 ∃ ao cap, v = .slice ao l.length cap /\ l.length <= cap /\ cap <= maxLen /\ ((l = [] /\ fp = []) ∨ ∃ b o C e, l ≠ [] /\ ao = some ⟨b, o, none⟩ /\ fp = [b] /\ Own w b e C /\ o + l.length <= C.size) := by
 obtain ⟨ao, cap, hv, hl, hm, -, h⟩ := RepF.sl_iff.1 h
 simp only [List.length_map, List.cons.injEq, and_true] at hv hl
 refine ⟨ao, cap, hv, hl, hm, ?_⟩
 rcases h with ⟨h1, h2⟩ | ⟨b, o, cells, fp', h1, h2, rfl, hb, h4, h5⟩
 · exact Or.inl ⟨by simpa using h1, h2⟩
 · obtain ⟨rfl, rfl⟩ := repR_strs_inv h5
   obtain ⟨C, e, hO⟩ := ho b List.mem_cons_self
   have hne : l ≠ [] := by simpa using h1
   refine Or.inr ⟨b, o, C, e, hne, h2, rfl, hO, ?_⟩
   have hpos : 0 < l.length := by cases l with | nil => exact absurd rfl hne | cons _ _ => simp
   have := h4 (l.length - 1) (.string (l[l.length - 1]'(by omega))) (by simp [hpos])
   rw [hO.cell] at this
   have := (Array.getElem?_eq_some_iff.1 this).1
   omega
theorem RepF.strs_mk {w : World} {l : List ByteArray} {b o cap : Nat} (hl : l.length <= cap) (hm : cap <= maxLen) (h0 : l ≠ []) (hb : b < w.heap.size) (hc : ∀ i s, l[i]? = some s -> w.cell? ⟨b, o + i, none⟩ = some (.string s)) :
 RepF w (strs l) [.slice (some ⟨b, o, none⟩) l.length cap] [b] := by
 refine RepF.sl_iff.2 ⟨_, cap, by simp, by simpa using hl, hm, by simp, Or.inr ⟨b, o, l.map Value.string, [], by simpa using h0, rfl, rfl, hb, fun j c hj => ?_, repR_strs w l⟩⟩
 rw [List.getElem?_map, Option.map_eq_some_iff] at hj
 obtain ⟨s, hs, rfl⟩ := hj
 exact hc j s hs
def MarkPost (w : World) (d' : D) (v : Value) (fp : List Nat) (k' : Int) (e : Ending) (w' : World) : Prop :=
 e = .returned (.int .i64 k') /\ RepF w' d' [v] fp /\ (∀ b, b ∈ fp -> ∃ C e, Own w' b e C) /\ Touch w w' fp
theorem markStringS_any (l : List ByteArray) (v : Value) (fp : List Nat) (k0 : Int) (w : World) (hr : RepF w (strs l) [v] fp) (ho : ∀ b, b ∈ fp -> ∃ C e, Own w b e C) (h0 : 0 <= k0) (h1 : k0 + l.length <= 1099511627776) :
 Calls Tryz.prog 60 #[v, .int .i64 k0] w (MarkPost w (strs (markL k0 l.length)) v fp (k0 + l.length)) := by
 obtain ⟨ao, cap, rfl, hl, hm, h⟩ := hr.strs_own ho
 rcases h with ⟨rfl, rfl⟩ | ⟨b, o, C, e, hne, rfl, rfl, hO, hsz⟩
 · go_enter Tryz.func60, Tryz.ntmps60
   go_wp2_with fail
   refine wp_loop_rounds 1 ?_
   rw [rounds_succ]
   go_wp2_with fail
   go_ret
   exact ⟨ret_int (by simp), hr, ho, Touch.of_ext (XR _) _⟩
 · have hpos : 0 < l.length := by cases l with | nil => exact absurd rfl hne | cons _ _ => simp
   clear hr ho
   unfold maxLen at hm
   go_enter Tryz.func60, Tryz.ntmps60
   go_wp2_with fail
   go_loopw [1, 5] (fun kv iv wr => ∃ (i : Nat) (C' : Array Value), i <= l.length /\ iv = .int .i64 i /\ kv = .int .i64 (k0 + i) /\ Own wr b e C' /\ Touch w wr [b] /\ Hid (C'.size = C.size /\ ∀ j, j < i -> C'[o + j]? = some (.string (mtext (k0 + j))))) (fun _ iv _ => l.length - (intOf iv).toNat)
   case atStart => exact ⟨0, C, Nat.zero_le _, rfl, by go_num, hO, Touch.of_ext (XR _) _, LH ⟨rfl, fun j hj => by omega⟩⟩
   case round =>
    obtain ⟨i, C', hi, rfl, rfl, hO', hT, hR⟩ := hrel
    by_cases hlt : i < l.length
    · go_wp2_with fail
      refine (markText_any (k0 + i) _ (by omega) (by omega)).mono ?_
      rintro e2 w2 ⟨rfl, hx2⟩
      have hO2 := hO'.ext hx2
      obtain ⟨v0, c0⟩ := hO2.some (o + i) (by have := hR.out.1; omega)
      have f0 := hO2.frozen (o + i)
      go_wp2_with fail
      clear c0 f0
      go_roundw
      case rel =>
       refine ⟨i + 1, C'.setIfInBounds (o + i) (.string (mtext (k0 + i))), by omega, by go_num, by go_num, hO2.set _ _, (hT.trans (Touch.of_ext hx2 _)).setCell (by simp) _, LH ⟨by simp [hR.out.1], fun j hj => ?_⟩⟩
       by_cases hj2 : j < i
       · rw [Array.getElem?_setIfInBounds, if_neg (by omega)]; exact hR.out.2 j hj2
       · obtain rfl : j = i := by omega
         rw [Array.getElem?_setIfInBounds, if_pos rfl, if_pos (by have := hR.out.1; omega)]
      case measure => simp [intOf]; omega
    · go_wp2_with fail
      go_ret
      obtain rfl : i = l.length := by omega
      refine ⟨rfl, ?_, fun b' hb' => by simp at hb'; subst hb'; exact ⟨_, _, hO'⟩, hT⟩
      have hL := markL_length k0 l.length
      have hk := RepF.strs_mk (w := wr) (l := markL k0 l.length) (b := b) (o := o) (cap := cap) (by omega) (by unfold maxLen; omega) (by intro h; rw [h] at hL; simp at hL; omega) hO'.lt (fun j s hs => by
       have hj : j < l.length := by have := (List.getElem?_eq_some_iff.1 hs).1; omega
       rw [markL_get k0 _ j hj] at hs
       injection hs with hs
       subst hs
       rw [hO'.cell]; exact hR.out.2 j hj)
      rwa [hL] at hk
theorem heldStringS_any (n : Nat) (v : Value) (k0 : Int) (w : World) (hr : Rep w (strs (markL k0 n)) [v]) (h0 : 0 <= k0) (h1 : k0 + n <= 1099511627776) :
 Calls Tryz.prog 64 #[v, .int .i64 k0] w fun e w' => e = .returned (.int .i64 (k0 + n)) /\ Ext w w' := by
 obtain ⟨ao, ca, ba, oa, e1, hla, hma, pa, ha⟩ := hr.strs
 simp only [List.cons.injEq, and_true] at e1
 subst e1
 clear hr
 rw [markL_length] at hla pa ⊢
 unfold maxLen at hma
 go_enter Tryz.func64, Tryz.ntmps64
 go_wp2_with fail
 go_loopw [1, 5] (fun kv iv wr => ∃ i : Nat, i <= n /\ iv = .int .i64 i /\ kv = .int .i64 (k0 + i) /\ Ext w wr) (fun _ iv _ => n - (intOf iv).toNat)
 case atStart => exact ⟨0, Nat.zero_le _, rfl, by go_num, XR _⟩
 case round =>
  obtain ⟨i, hi, rfl, rfl, hx⟩ := hrel
  by_cases hlt : i < n
  · obtain rfl := pa (by omega)
    have a0 := reg hx (ha i _ (markL_get k0 n i hlt))
    have ht := str_eqn (rfl : mtext (k0 + i) = mtext (k0 + i))
    clear ha pa
    go_wp2_with fail
    refine wp_region_quiet_below (by kernel_rfl) (by kernel_rfl) ?_
    repeat (quiet_step (exact Calls.regrown_of (markText_any _ _ (by omega) (by omega))))
    refine wpQuiet_nil ?_
    clear a0
    intro _ hw'
    obtain ⟨pw, hw''⟩ := hw'
    subst hw''
    go_wp2_with fail
    go_roundw
    case rel => exact ⟨i + 1, by omega, by go_num, by go_num, hx.trans (regx _ _)⟩
    case measure => simp [intOf]; omega
  · go_wp2_with fail
    go_ret
    obtain rfl : i = n := by omega
    exact ⟨rfl, hx⟩
theorem run_append_at {P : Program} {w : World} (t ty : TypeId) (B0 : Nat) (e : TypeId) (i : TypeInfo) (z : Value) (size bytes : Nat) (ht : P.underlying t = some (.slice e)) (hi : P.info? e = some i) (hz : i.zero = some z)
 (hsize : i.size = size) (hby : i.bytes = bytes) (hzs : z.cells.size = size) (hsz : 0 < size)
 (v : Value) (ds : List D) (fp : List Nat) (hacc : Acc B0 w e size v ds fp) (ys : List D) (ao : Option Addr) (m c : Nat) (gp : List Nat) (hr : RepF w (.sl size ys) [.slice ao m c] gp)
 (hF : Fresh w B0 (fp ++ gp.tail)) (hown : ∀ k, v.ownBlock = some k -> k ∉ gp.tail)
 (h63 : ds.length + m <= maxLen) (hbytes : (ds.length + m) * bytes <= 140737488355328) (hbase : B0 <= w.heap.size) :
 ∃ ao' cap' w', (Builtin.append_ #[t, t] ty #[v, .slice ao m c]).run P w = .ok (.slice ao' (ds.length + m) cap') w' /\ Acc B0 w' e size (.slice ao' (ds.length + m) cap') (ds ++ ys) (fp ++ gp.tail) /\ w.grownBy w' v.ownBlock /\ ((Value.slice ao' (ds.length + m) cap').ownBlock = v.ownBlock ∨ (Value.slice ao' (ds.length + m) cap').ownBlock = some w.heap.size) := by
 obtain ⟨xs, h1, h2, h3, h4⟩ := hacc
 obtain ⟨hm, hml, news, hnr, hsrc⟩ := hr.source
 rcases hsrc with ⟨rfl, rfl, rfl, rfl⟩ | ⟨ad, rfl, hcells⟩
 · have hgp : gp.tail = [] := by
    simp only [RepR] at hnr; exact hnr.2
   have hv : ∃ ao' cap', v = .slice ao' (ds.length + 0) cap' := by
    rcases h1.2 with ⟨rfl, hn⟩ | ⟨g, cap, cur, rfl, _⟩
    · exact ⟨none, 0, by rw [hn]⟩
    · exact ⟨_, cap, by rw [Nat.add_zero]⟩
   obtain ⟨ao', cap', hv⟩ := hv
   refine ⟨ao', cap', w, ?_, ⟨xs, by rw [<- hv]; simpa using h1, by rw [hgp]; simpa using h2, by rw [hgp]; simpa using h3, by rw [<- hv, hgp]; simpa using h4⟩, World.grownBy.refl _ _, Or.inl (by rw [<- hv])⟩
   rw [<- hv]
   exact run_append_owned_none (P := P) (w := w) B0 t ty e i size ht hi v ds.length xs h1
 · obtain ⟨v', w', hrun, hown', hgrow, hnil, hat⟩ := run_append_own_at (P := P) w B0 t ty e i z size bytes ht hi hz hsize hby hzs hsz v ds.length xs h1 ad m c news (by rw [hm]; exact hnr.length) hcells (fun u hu => RepR.one_cell hnr u hu) h63 hbytes hbase
   have hv : ∃ ao' cap', v' = .slice ao' (ds.length + m) cap' := by
    rcases hown'.2 with ⟨rfl, hn⟩ | ⟨g, cap, cur, rfl, _⟩
    · exact ⟨none, 0, by rw [hn]⟩
    · exact ⟨_, cap, rfl⟩
   have hkeep : ∀ k, k ∈ fp ++ gp.tail -> w'.heap[k]? = w.heap[k]? := fun k hk => grown_keep hgrow (hF.lt hk) (fun e => by
    rcases List.mem_append.1 hk with hk | hk
    · exact h4 k e hk
    · exact hown k e hk)
   obtain ⟨ao', cap', rfl⟩ := hv
   refine ⟨ao', cap', w', hrun, ⟨xs ++ news, by rw [List.length_append, <- hm]; exact hown', (h2.keep size ds fun k hk => hkeep k (List.mem_append_left _ hk)).append (hnr.keep size ys fun k hk => hkeep k (List.mem_append_right _ hk)),
    ⟨hF.nodup, hF.ge, fun b hb => let ⟨C, e', hO⟩ := hF.own b hb; ⟨C, e', (hkeep b hb).trans hO⟩⟩, fun k hk hkm => ?_⟩, hgrow, hat⟩
   rcases hat with hat | hat
   · rw [hat] at hk
     rcases List.mem_append.1 hkm with hkm | hkm
     · exact h4 k hk hkm
     · exact hown k hk hkm
   · have := hF.lt hkm
     rw [hat] at hk; injection hk with hk; omega
theorem wp_append_at {P : Program} {w : World} {o : Oper} {a : Act} {K : Act -> World -> Prop} {Q : Exit -> Act -> World -> Prop} (s x : Operand) (t : TypeId)
 (ho : o.op = .call { callee := .builtin .append, args := #[s, x], argTypes := #[t, t] })
 (B0 : Nat) (e : TypeId) (i : TypeInfo) (z : Value) (size bytes : Nat) (ht : P.underlying t = some (.slice e)) (hi : P.info? e = some i) (hz : i.zero = some z)
 (hsize : i.size = size) (hby : i.bytes = bytes) (hzs : z.cells.size = size) (hsz : 0 < size)
 (v : Value) (ds : List D) (fp : List Nat) (hs : a.eval s = v) (hacc : Acc B0 w e size v ds fp)
 (ys : List D) (ao : Option Addr) (m c : Nat) (gp : List Nat) (hx : a.eval x = .slice ao m c) (hr : RepF w (.sl size ys) [.slice ao m c] gp)
 (hF : Fresh w B0 (fp ++ gp.tail)) (hown : ∀ k, v.ownBlock = some k -> k ∉ gp.tail)
 (h63 : ds.length + m <= maxLen) (hbytes : (ds.length + m) * bytes <= 140737488355328) (hbase : B0 <= w.heap.size)
 (h : ∀ ao' cap' w', Acc B0 w' e size (.slice ao' (ds.length + m) cap') (ds ++ ys) (fp ++ gp.tail) -> w.grownBy w' v.ownBlock -> ((Value.slice ao' (ds.length + m) cap').ownBlock = v.ownBlock ∨ (Value.slice ao' (ds.length + m) cap').ownBlock = some w.heap.size) -> K (a.put o.dst (.slice ao' (ds.length + m) cap')) w') : o.wp P a w K Q := by
 obtain ⟨ao', cap', w', hrun, h2, h3, h4⟩ := run_append_at (P := P) t o.type B0 e i z size bytes ht hi hz hsize hby hzs hsz v ds fp hacc ys ao m c gp hr hF hown h63 hbytes hbase
 unfold Oper.wp execOp
 simp only [ho, resolve, invoke, builtin, Sem.run_bind, Sem.run_pure, Result.andThen_ok, List.map_toArray, List.map_cons, List.map_nil, hs, hx, hrun]
 exact h ao' cap' w' h2 h3 h4
theorem wpList_append_at {P : Program} {w : World} {ops : Array Oper} {rest : List Oper} {o : Oper} {a : Act} {Q : Exit -> Act -> World -> Prop} (hgd : o.guard = none) (s x : Operand) (t : TypeId)
 (ho : o.op = .call { callee := .builtin .append, args := #[s, x], argTypes := #[t, t] })
 (B0 : Nat) (e : TypeId) (i : TypeInfo) (z : Value) (size bytes : Nat) (ht : P.underlying t = some (.slice e)) (hi : P.info? e = some i) (hz : i.zero = some z)
 (hsize : i.size = size) (hby : i.bytes = bytes) (hzs : z.cells.size = size) (hsz : 0 < size)
 (v : Value) (ds : List D) (fp : List Nat) (hs : a.eval s = v) (hacc : Acc B0 w e size v ds fp)
 (ys : List D) (ao : Option Addr) (m c : Nat) (gp : List Nat) (hx : a.eval x = .slice ao m c) (hr : RepF w (.sl size ys) [.slice ao m c] gp)
 (hF : Fresh w B0 (fp ++ gp.tail)) (hown : ∀ k, v.ownBlock = some k -> k ∉ gp.tail)
 (h63 : ds.length + m <= maxLen) (hbytes : (ds.length + m) * bytes <= 140737488355328) (hbase : B0 <= w.heap.size)
 (h : ∀ ao' cap' w', Acc B0 w' e size (.slice ao' (ds.length + m) cap') (ds ++ ys) (fp ++ gp.tail) -> w.grownBy w' v.ownBlock -> ((Value.slice ao' (ds.length + m) cap').ownBlock = v.ownBlock ∨ (Value.slice ao' (ds.length + m) cap').ownBlock = some w.heap.size) -> wpList P ops Q rest (a.put o.dst (.slice ao' (ds.length + m) cap')) w') : wpList P ops Q (o :: rest) a w :=
 wpList_plain hgd fun _ hK => wp_append_at s x t ho B0 e i z size bytes ht hi hz hsize hby hzs hsz v ds fp hs hacc ys ao m c gp hx hr hF hown h63 hbytes hbase fun ao' cap' w' h2 h3 h4 => hK _ _ (h ao' cap' w' h2 h3 h4)
theorem step_append_at {P : Program} {w : World} {ops : Array Oper} {o : Oper} {a : Act} {K : Act -> World -> Prop} {Q : Exit -> Act -> World -> Prop} {E : Prop} (hgd : o.guard = none) (s x : Operand) (t : TypeId)
 (ho : o.op = .call { callee := .builtin .append, args := #[s, x], argTypes := #[t, t] })
 (B0 : Nat) (e : TypeId) (i : TypeInfo) (z : Value) (size bytes : Nat) (ht : P.underlying t = some (.slice e)) (hi : P.info? e = some i) (hz : i.zero = some z)
 (hsize : i.size = size) (hby : i.bytes = bytes) (hzs : z.cells.size = size) (hsz : 0 < size)
 (v : Value) (ds : List D) (fp : List Nat) (hs : a.eval s = v) (hacc : Acc B0 w e size v ds fp)
 (ys : List D) (ao : Option Addr) (m c : Nat) (gp : List Nat) (hx : a.eval x = .slice ao m c) (hr : RepF w (.sl size ys) [.slice ao m c] gp)
 (hF : Fresh w B0 (fp ++ gp.tail)) (hown : ∀ k, v.ownBlock = some k -> k ∉ gp.tail)
 (h63 : ds.length + m <= maxLen) (hbytes : (ds.length + m) * bytes <= 140737488355328) (hbase : B0 <= w.heap.size)
 (h : ∀ ao' cap' w', Acc B0 w' e size (.slice ao' (ds.length + m) cap') (ds ++ ys) (fp ++ gp.tail) -> w.grownBy w' v.ownBlock -> ((Value.slice ao' (ds.length + m) cap').ownBlock = v.ownBlock ∨ (Value.slice ao' (ds.length + m) cap').ownBlock = some w.heap.size) -> K (a.put o.dst (.slice ao' (ds.length + m) cap')) w') :
 if Region.wanted o (yielded ops a.tmps) = true then Oper.wp P o a w K Q else E := by
 have hw : Region.wanted o (yielded ops a.tmps) = true := by simp [Region.wanted, hgd]
 rw [if_pos hw]
 exact wp_append_at s x t ho B0 e i z size bytes ht hi hz hsize hby hzs hsz v ds fp hs hacc ys ao m c gp hx hr hF hown h63 hbytes hbase h
theorem Touch.cellAt {w w' : World} {fp : List Nat} {a : Addr} {v : Value} (h : Touch w w' fp) (ha : a.block ∉ fp) (hc : w.cell? a = some v) : w'.cell? a = some v := by
 have hb := h.block a.block (lt_of_cell hc) ha
 unfold World.cell? at hc ⊢
 rw [hb]; exact hc
theorem Touch.grown {w0 w w' : World} {row : Option Nat} {fp : List Nat} (h : Touch w0 w fp) (hg : w.grownBy w' row) (hr : ∀ k, row = some k -> k ∈ fp ∨ w0.heap.size <= k) : Touch w0 w' fp :=
 ⟨hg.os.trans h.os, hg.tape.trans h.tape, hg.output.trans h.output, Nat.le_trans h.size hg.size, fun k hk hn => by
  rw [grown_keep hg (Nat.lt_of_lt_of_le hk h.size) fun e => by
   rcases hr k e with h1 | h1
   · exact hn h1
   · omega]
  exact h.block k hk hn⟩
mutual
def D.cnt : D -> Nat
 | .int _ => 1
 | .str _ => 1
 | .bool _ => 1
 | .st fs => D.cntL fs
 | .sl _ xs => D.cntL xs
def D.cntL : List D -> Nat
 | [] => 0
 | d :: ds => d.cnt + D.cntL ds
end
mutual
def mkD (k : Int) : D -> D
 | .int _ => .int k
 | .str _ => .str (mtext k)
 | .bool _ => .bool (k % 3 == 0)
 | .st fs => .st (mkL k fs)
 | .sl sz xs => .sl sz (mkL k xs)
def mkL (k : Int) : List D -> List D
 | [] => []
 | d :: ds => mkD k d :: mkL (k + d.cnt) ds
end
mutual
def D.tcnt : D -> Nat
 | .int _ => 0
 | .str _ => 0
 | .bool _ => 0
 | .st fs => D.tcntL fs
 | .sl _ xs => D.cntL xs
def D.tcntL : List D -> Nat
 | [] => 0
 | d :: ds => d.tcnt + D.tcntL ds
end
mutual
def mtD (k : Int) : D -> D
 | .int n => .int n
 | .str s => .str s
 | .bool b => .bool b
 | .st fs => .st (mtL k fs)
 | .sl sz xs => .sl sz (mkL k xs)
def mtL (k : Int) : List D -> List D
 | [] => []
 | d :: ds => mtD k d :: mtL (k + d.tcnt) ds
end
theorem D.cntL_append : ∀ (a b : List D), D.cntL (a ++ b) = D.cntL a + D.cntL b
 | [], b => by simp [D.cntL]
 | x :: a, b => by simp only [List.cons_append, D.cntL, D.cntL_append a b]; omega
theorem mkL_append : ∀ (k : Int) (a b : List D), mkL k (a ++ b) = mkL k a ++ mkL (k + D.cntL a) b
 | k, [], b => by simp [mkL, D.cntL]
 | k, x :: a, b => by
  simp only [List.cons_append, mkL, D.cntL, mkL_append (k + x.cnt) a b]
  rw [show k + (x.cnt : Int) + (D.cntL a : Int) = k + ((x.cnt + D.cntL a : Nat) : Int) by omega]
theorem mkL_length : ∀ (k : Int) (a : List D), (mkL k a).length = a.length
 | _, [] => rfl
 | k, x :: a => by simp [mkL, mkL_length (k + x.cnt) a]
theorem mkL_get : ∀ (k : Int) (a : List D) (i : Nat) (d : D), a[i]? = some d -> (mkL k a)[i]? = some (mkD (k + D.cntL (a.take i)) d)
 | _, [], i, d, h => by simp at h
 | k, x :: a, 0, d, h => by simp at h; subst h; simp [mkL, D.cntL]
 | k, x :: a, i + 1, d, h => by
  have := mkL_get (k + x.cnt) a i d (by simpa using h)
  simp only [mkL, List.getElem?_cons_succ, List.take_succ_cons, D.cntL]
  rw [this, show k + (x.cnt : Int) + (D.cntL (a.take i) : Int) = k + ((x.cnt + D.cntL (a.take i) : Nat) : Int) by omega]
theorem D.cntL_take : ∀ (a : List D) (i : Nat) (d : D), a[i]? = some d -> D.cntL (a.take (i + 1)) = D.cntL (a.take i) + d.cnt
 | [], i, d, h => by simp at h
 | x :: a, 0, d, h => by simp at h; subst h; simp [D.cntL]
 | x :: a, i + 1, d, h => by
  have := D.cntL_take a i d (by simpa using h)
  simp only [List.take_succ_cons, D.cntL] at *
  omega
theorem D.cntL_take_le : ∀ (a : List D) (i : Nat), D.cntL (a.take i) <= D.cntL a
 | [], i => by simp [D.cntL]
 | x :: a, 0 => by simp [D.cntL]
 | x :: a, i + 1 => by
  have := D.cntL_take_le a i
  simp only [List.take_succ_cons, D.cntL]
  omega
theorem D.cntL_mem : ∀ {xs : List D} {x : D}, x ∈ xs -> x.cnt <= D.cntL xs
 | [], _, h => by simp at h
 | y :: ys, x, hx => by
  simp only [D.cntL]
  rcases List.mem_cons.1 hx with rfl | hx
  · omega
  · have := D.cntL_mem hx; omega
def MarkP (w : World) (d' : D) (cs : List Value) (fp : List Nat) (B0 : Nat) (k' : Int) (e : Ending) (w' : World) : Prop :=
 e = .returned (.int .i64 k') /\ RepF w' d' cs fp /\ Fresh w' B0 fp /\ Touch w w' fp
theorem Own.touch' {w w' : World} {B : Nat} {e : TypeId} {C : Array Value} {fp : List Nat} (h : Own w B e C) (ht : Touch w w' fp) (hB : B ∉ fp) : Own w' B e C := (ht.block B h.lt hB).trans h
theorem Touch.mono {w w' : World} {fp gp : List Nat} (h : Touch w w' fp) (hs : ∀ b, b ∈ fp -> b ∈ gp) : Touch w w' gp :=
 ⟨h.os, h.tape, h.output, h.size, fun k hk hn => h.block k hk fun hm => hn (hs k hm)⟩
theorem Fresh.touch {w w' : World} {B0 : Nat} {fp gp : List Nat} (h : Fresh w B0 gp) (ht : Touch w w' fp) (hd : ∀ b, b ∈ gp -> b ∉ fp) : Fresh w' B0 gp :=
 ⟨h.nodup, h.ge, fun b hb => let ⟨C, e, ho⟩ := h.own b hb; ⟨C, e, ho.touch' ht (hd b hb)⟩⟩
theorem Fresh.sub {w : World} {B0 : Nat} {fp gp : List Nat} (h : Fresh w B0 gp) (hs : fp.Sublist gp) : Fresh w B0 fp :=
 ⟨h.nodup.sublist hs, fun b hb => h.ge b (hs.subset hb), fun b hb => h.own b (hs.subset hb)⟩
def RowIs (w : World) (b o : Nat) (e : TypeId) (C : Array Value) (sz : Nat) (ds : List D) (fp : List Nat) (B0 : Nat) : Prop :=
 Own w b e C /\ ∃ cells, (∀ (j : Nat) c, cells[j]? = some c -> C[o + j]? = some c) /\ RepR w sz ds cells fp /\ Fresh w B0 (b :: fp)
theorem RepR.split {w : World} {sz : Nat} : ∀ {xs ys : List D} {cs : List Value} {fp : List Nat}, RepR w sz (xs ++ ys) cs fp -> ∃ c1 c2 f1 f2, cs = c1 ++ c2 /\ fp = f1 ++ f2 /\ c1.length = xs.length * sz /\ RepR w sz xs c1 f1 /\ RepR w sz ys c2 f2
 | [], ys, cs, fp, h => ⟨[], cs, [], fp, rfl, rfl, by simp, by simp [RepR], h⟩
 | x :: xs, ys, cs, fp, h => by
  simp only [List.cons_append, RepR] at h
  obtain ⟨c1, c2, f1, f2, rfl, rfl, h2, h3, h4⟩ := h
  obtain ⟨d1, d2, g1, g2, rfl, rfl, k2, k3, k4⟩ := RepR.split h4
  refine ⟨c1 ++ d1, d2, f1 ++ g1, g2, by simp, by simp, by simp [h2, k2, Nat.succ_mul]; omega, ?_, k4⟩
  simp only [RepR]
  exact ⟨c1, d1, f1, g1, rfl, rfl, h2, h3, k3⟩
theorem RowIs.at {w : World} {b o : Nat} {e : TypeId} {C : Array Value} {sz : Nat} {A E : List D} {d : D} {fp : List Nat} {B0 : Nat} (h : RowIs w b o e C sz (A ++ d :: E) fp B0) (hz : 0 < sz) :
 ∃ ci fi, RepF w d ci fi /\ Fresh w B0 fi /\ b ∉ fi /\ ci.length = sz /\ (∀ (j : Nat) c, ci[j]? = some c -> C[o + A.length * sz + j]? = some c) /\ (∀ x, x ∈ fi -> x ∈ fp) /\
  ∀ (w' : World) (d' : D) (vs : List Value), vs.length <= sz -> Own w' b e (sets C (o + A.length * sz) vs) -> Touch w w' (b :: fi) -> RepF w' d' (vs ++ ci.drop vs.length) fi -> Fresh w' B0 fi -> RowIs w' b o e (sets C (o + A.length * sz) vs) sz (A ++ d' :: E) fp B0 := by
 obtain ⟨hO, cells, hc, hr, hF⟩ := h
 obtain ⟨c1, c2, f1, f2, rfl, rfl, hl, h1, h2⟩ := RepR.split hr
 simp only [RepR] at h2
 obtain ⟨ci, c3, fi, f3, rfl, rfl, hs, h3, h4⟩ := h2
 have hnd := List.nodup_cons.1 hF.nodup
 have nd2 := List.nodup_append.1 hnd.2
 have nd3 := List.nodup_append.1 nd2.2.1
 have hci : ∀ (j : Nat) c, ci[j]? = some c -> C[o + A.length * sz + j]? = some c := fun j c hj => by
  have hjl : j < ci.length := (List.getElem?_eq_some_iff.1 hj).1
  have := hc (c1.length + j) c (by rw [List.getElem?_append_right (by omega), Nat.add_sub_cancel_left, List.getElem?_append_left hjl]; exact hj)
  rw [hl] at this
  rw [Nat.add_assoc]
  exact this
 have hbfi : b ∉ fi := fun hm => hnd.1 (by simp [hm])
 refine ⟨ci, fi, h3, hF.sub ((List.sublist_append_left fi f3).trans ((List.sublist_append_right f1 _).trans (List.sublist_cons_self b _))), hbfi, hs, hci, fun x hx => by simp [hx], fun w' d' vs hv hO' hT hr' hF' => ?_⟩
 have k1 : ∀ x, x ∈ f1 -> x ∉ b :: fi := fun x hx hm => by
  rcases List.mem_cons.1 hm with rfl | hm
  · exact hnd.1 (by simp [hx])
  · exact nd2.2.2 x hx x (by simp [hm]) rfl
 have k3 : ∀ x, x ∈ f3 -> x ∉ b :: fi := fun x hx hm => by
  rcases List.mem_cons.1 hm with rfl | hm
  · exact hnd.1 (by simp [hx])
  · exact nd3.2.2 x hm x hx rfl
 have e1 : RepR w' sz A c1 f1 := h1.keep sz A fun x hx => hT.block x (h1.lt sz A x hx) (k1 x hx)
 have e3 : RepR w' sz E c3 f3 := h4.keep sz E fun x hx => hT.block x (h4.lt sz E x hx) (k3 x hx)
 have hlen : (vs ++ ci.drop vs.length).length = sz := by simp; omega
 have hCs : o + A.length * sz + sz <= C.size := by
  have hj : ci[sz - 1]? = some (ci[sz - 1]'(by omega)) := List.getElem?_eq_getElem (by omega)
  have := (Array.getElem?_eq_some_iff.1 (hci _ _ hj)).1
  omega
 refine ⟨hO', c1 ++ ((vs ++ ci.drop vs.length) ++ c3), fun j c hj => ?_, RepR.append e1 (by simp only [RepR]; exact ⟨_, c3, fi, f3, rfl, rfl, hlen, hr', e3⟩), ?_⟩
 · rw [<- Array.getElem?_toList, toList_sets vs C _ (by omega)]
   have hTl : (C.toList.take (o + A.length * sz)).length = o + A.length * sz := by simp; omega
   by_cases h1' : j < A.length * sz
   · rw [List.getElem?_append_left (by omega)] at hj
     have := hc j c (by rw [List.getElem?_append_left (by omega)]; exact hj)
     rw [List.append_assoc, List.getElem?_append_left (by omega), List.getElem?_take_of_lt (by omega), Array.getElem?_toList]
     exact this
   · rw [List.getElem?_append_right (by omega)] at hj
     rw [List.append_assoc, List.getElem?_append_right (by omega), hTl]
     by_cases h2' : j - c1.length < vs.length
     · rw [List.append_assoc, List.getElem?_append_left h2'] at hj
       rw [List.getElem?_append_left (by omega), show o + j - (o + A.length * sz) = j - c1.length by omega]
       exact hj
     · rw [List.append_assoc, List.getElem?_append_right (by omega)] at hj
       rw [List.getElem?_append_right (by omega), List.getElem?_drop, show o + A.length * sz + vs.length + (o + j - (o + A.length * sz) - vs.length) = o + j by omega, Array.getElem?_toList]
       refine hc j c ?_
       rw [List.getElem?_append_right (by omega)]
       by_cases h3' : j - c1.length - vs.length < (ci.drop vs.length).length
       · rw [List.getElem?_append_left h3', List.getElem?_drop, show vs.length + (j - c1.length - vs.length) = j - c1.length by omega] at hj
         rw [List.getElem?_append_left (by simp at h3'; omega)]
         exact hj
       · rw [List.getElem?_append_right (by omega)] at hj
         simp only [List.length_drop] at hj h3'
         rw [List.getElem?_append_right (by omega), show j - c1.length - ci.length = j - c1.length - vs.length - (ci.length - vs.length) by omega]
         exact hj
 · refine ⟨hF.nodup, hF.ge, fun x hx => ?_⟩
   rcases List.mem_cons.1 hx with rfl | hx
   · exact ⟨_, _, hO'⟩
   · rcases List.mem_append.1 hx with hx | hx
     · obtain ⟨C2, e2, ho2⟩ := hF.own x (by simp [hx])
       exact ⟨C2, e2, ho2.touch' hT (k1 x hx)⟩
     · rcases List.mem_append.1 hx with hx | hx
       · exact hF'.own x hx
       · obtain ⟨C2, e2, ho2⟩ := hF.own x (by simp [hx])
         exact ⟨C2, e2, ho2.touch' hT (k3 x hx)⟩
theorem cnt_at {α : Type} {f : α -> D} {l : List α} {i : Nat} {x : α} (h : l[i]? = some x) : D.cntL ((l.take (i + 1)).map f) = D.cntL ((l.take i).map f) + (f x).cnt /\ D.cntL ((l.take i).map f) + (f x).cnt <= D.cntL (l.map f) := by
 have h1 : (l.map f)[i]? = some (f x) := by simp [h]
 have h2 := D.cntL_take (l.map f) i _ h1
 have h3 := D.cntL_take_le (l.map f) (i + 1)
 rw [List.map_take, List.map_take]
 exact ⟨h2, by omega⟩
theorem take_get {α : Type} {l : List α} {i : Nat} {x : α} (h : l[i]? = some x) : l.take (i + 1) = l.take i ++ [x] /\ l.drop i = x :: l.drop (i + 1) /\ i < l.length := by
 obtain ⟨hi, rfl⟩ := List.getElem?_eq_some_iff.1 h
 exact ⟨by rw [List.take_add_one, List.getElem?_eq_getElem hi]; rfl, List.drop_eq_getElem_cons hi, hi⟩
theorem RowIs.elem {α : Type} {f : α -> D} {l : List α} {k0 : Int} {i : Nat} {x : α} {w : World} {b o : Nat} {e : TypeId} {C : Array Value} {sz : Nat} {fp : List Nat} {B0 : Nat} (hx : l[i]? = some x) (h : RowIs w b o e C sz (mkL k0 ((l.take i).map f) ++ (l.drop i).map f) fp B0) (hz : 0 < sz) :
 ∃ ci fi, RepF w (f x) ci fi /\ Fresh w B0 fi /\ b ∉ fi /\ ci.length = sz /\ (∀ (j : Nat) c, ci[j]? = some c -> C[o + i * sz + j]? = some c) /\ (∀ x, x ∈ fi -> x ∈ fp) /\
  ∀ (w' : World) (vs : List Value), vs.length <= sz -> Own w' b e (sets C (o + i * sz) vs) -> Touch w w' (b :: fi) -> RepF w' (mkD (k0 + D.cntL ((l.take i).map f)) (f x)) (vs ++ ci.drop vs.length) fi -> Fresh w' B0 fi -> RowIs w' b o e (sets C (o + i * sz) vs) sz (mkL k0 ((l.take (i + 1)).map f) ++ (l.drop (i + 1)).map f) fp B0 := by
 obtain ⟨h1, h2, h3⟩ := take_get hx
 rw [h2, List.map_cons] at h
 have hA : (mkL k0 ((l.take i).map f)).length = i := by rw [mkL_length]; simp; omega
 obtain ⟨ci, fi, k1, k2, k3, k4, k5, k6, k7⟩ := h.at hz
 rw [hA] at k5 k7
 refine ⟨ci, fi, k1, k2, k3, k4, k5, k6, fun w' vs hv hO hT hr hF => ?_⟩
 have := k7 w' (mkD (k0 + D.cntL ((l.take i).map f)) (f x)) vs hv hO hT hr hF
 rw [h1, List.map_append, mkL_append, List.append_assoc]
 exact this
theorem Fresh.both {w w' : World} {B0 : Nat} {f1 f2 : List Nat} (h : Fresh w B0 (f1 ++ f2)) (h1 : Fresh w' B0 f1) (h2 : Fresh w' B0 f2) : Fresh w' B0 (f1 ++ f2) :=
 ⟨h.nodup, h.ge, fun b hb => (List.mem_append.1 hb).elim (h1.own b) (h2.own b)⟩
theorem Fresh.left {w : World} {B0 : Nat} {f1 f2 : List Nat} (h : Fresh w B0 (f1 ++ f2)) : Fresh w B0 f1 := h.sub (List.sublist_append_left _ _)
theorem Fresh.right {w : World} {B0 : Nat} {f1 f2 : List Nat} (h : Fresh w B0 (f1 ++ f2)) : Fresh w B0 f2 := h.sub (List.sublist_append_right _ _)
theorem Fresh.apart {w : World} {B0 : Nat} {f1 f2 : List Nat} (h : Fresh w B0 (f1 ++ f2)) : ∀ b, b ∈ f1 -> b ∉ f2 := fun b h1 h2 => (List.nodup_append.1 h.nodup).2.2 b h1 b h2 rfl
theorem Fresh.apart' {w : World} {B0 : Nat} {f1 f2 : List Nat} (h : Fresh w B0 (f1 ++ f2)) : ∀ b, b ∈ f2 -> b ∉ f1 := fun b h2 h1 => (List.nodup_append.1 h.nodup).2.2 b h1 b h2 rfl
theorem RowIs.start {w : World} {sz : Nat} {ds : List D} {v : Value} {fp : List Nat} {B0 : Nat} (h0 : RepF w (.sl sz ds) [v] fp) (hF : Fresh w B0 fp) (hd : ds ≠ []) :
 ∃ b o cap e C fp', v = .slice (some ⟨b, o, none⟩) ds.length cap /\ ds.length <= cap /\ cap <= maxLen /\ fp = b :: fp' /\ RowIs w b o e C sz ds fp' B0 := by
 obtain ⟨ao, cap, hv, hl, hm, hn, h⟩ := RepF.sl_iff.1 h0
 simp only [List.cons.injEq, and_true] at hv
 subst hv
 rcases h with ⟨h, rfl⟩ | ⟨b, o, cells, fp', hne, rfl, rfl, hb, h4, h5⟩
 · exact absurd h hd
 · obtain ⟨C, e, hO⟩ := hF.own b (by simp)
   exact ⟨b, o, cap, e, C, fp', rfl, hl, hm, rfl, hO, cells, fun j c hj => by rw [<- hO.cell]; exact h4 j c hj, h5, hF⟩
theorem RowIs.done {w : World} {b o : Nat} {e : TypeId} {C : Array Value} {sz : Nat} {ds : List D} {fp : List Nat} {B0 cap n : Nat} (h : RowIs w b o e C sz ds fp B0) (hn : ds.length = n) (hl : n <= cap) (hm : cap <= maxLen) (h0 : 0 < n) :
 RepF w (.sl sz ds) [.slice (some ⟨b, o, none⟩) n cap] (b :: fp) /\ Fresh w B0 (b :: fp) := by
 obtain ⟨hO, cells, hc, hr, hF⟩ := h
 refine ⟨RepF.sl_iff.2 ⟨_, cap, by rw [hn], by omega, hm, by simp, Or.inr ⟨b, o, cells, fp, ?_, rfl, rfl, hO.lt, fun j c hj => by rw [hO.cell]; exact hc j c hj, hr⟩⟩, hF⟩
 intro h; rw [h] at hn; simp at hn; omega
end Go.Proofs.YtlaclfeljimffaaGreatDoor
