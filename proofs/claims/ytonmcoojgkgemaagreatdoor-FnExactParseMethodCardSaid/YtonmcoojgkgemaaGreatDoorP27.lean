/-
  SEVERAL TEXTS IN ONE: CONTRACTS: the program's parser: binary expressions; CONTRACTS: the program's parser: keyword messages.
  Conditions: those that each lemma states.
-/
import Derived.Test.YtonmcoojgkgemaaGreatDoorRows
import Derived.Test.YtonmcoojgkgemaaGreatDoorParK
namespace Go.Proofs.YtonmcoojgkgemaaGreatDoor
open Go.RowKit
set_option linter.unusedSimpArgs false
set_option linter.unusedVariables false

def UPostB (B tb to_ cap : Nat) (ao : Option Addr) (ts : List MToken) (w : World) (eb j : Nat) (bf : Bool) (y : MExpr) (WF : World) : Prop :=
  ∃ cs fp, Own WF eb 25 (List.toArray cs) ∧ RepF WF y.d cs fp ∧ (∀ k, k ∈ fp → w.heap.size < k ∧ k ≠ eb) ∧ Prs 54 B tb to_ cap ao ts WF (j) bf ∧ Own WF w.heap.size 25 #[.int .i64 0, .string ⟨#[]⟩, .int .i64 0, .slice none 0 0, .slice none 0 0] ∧ Touch w WF [B]
theorem bin_A {B tb to_ cap : Nat} {ao : Option Addr} {ts : List MToken} {w w7 : World} {a j eb : Nat} {b bf : Bool} {x y : MExpr} {c0 c1 c2 c3 c4 d0 d1 d2 d3 d4 : Value} {fp gp : List Nat} (h0 : Prs 54 B tb to_ cap ao ts w (a) b) (OE : Own w7 eb 25 #[c0, c1, c2, c3, c4]) (R7 : RepF w7 x.d [c0, c1, c2, c3, c4] fp) (S7 : RepF w7 y.d [d0, d1, d2, d3, d4] gp) (HF : ∀ k, k ∈ fp → w.heap.size < k ∧ k ≠ eb) (HG : ∀ k, k ∈ gp → w.heap.size < k ∧ k ≠ eb) (heb : w.heap.size < eb) (K7 : Prs 54 B tb to_ cap ao ts w7 (j) bf) (B7 : Own w7 w.heap.size 25 #[.int .i64 0, .string ⟨#[]⟩, .int .i64 0, .slice none 0 0, .slice none 0 0]) (T7 : Touch w w7 [B]) (tx : ByteArray) :
    UPostB B tb to_ cap ao ts w eb j bf (eMsg tx [x, y]) ((((((w7.setCell ⟨eb, 0, none⟩ (.int .i64 6)).setCell ⟨eb, 1, none⟩ (.string tx)).setCell ⟨eb, 2, none⟩ (.int .i64 0)).setCell ⟨eb, 3, none⟩ (.slice none 0 0)).setCell ⟨eb, 4, none⟩ (.slice (some ⟨w7.heap.size, 0, none⟩) 2 2)).alloc (.cells #[c0, c1, c2, c3, c4, d0, d1, d2, d3, d4] 25)) := by
  obtain ⟨O8, T8⟩ := own5 OE (.int .i64 6) (.string tx) (.int .i64 0) (.slice none 0 0) (.slice (some ⟨w7.heap.size, 0, none⟩) 2 2)
  have hsz := size5 w7 eb (.int .i64 6) (.string tx) (.int .i64 0) (.slice none 0 0) (.slice (some ⟨w7.heap.size, 0, none⟩) 2 2)
  generalize (((((w7.setCell ⟨eb, 0, none⟩ (.int .i64 6)).setCell ⟨eb, 1, none⟩ (.string tx)).setCell ⟨eb, 2, none⟩ (.int .i64 0)).setCell ⟨eb, 3, none⟩ (.slice none 0 0)).setCell ⟨eb, 4, none⟩ (.slice (some ⟨w7.heap.size, 0, none⟩) 2 2)) = W8 at *
  have x9 := (Ext.refl W8).alloc (.cells #[c0, c1, c2, c3, c4, d0, d1, d2, d3, d4] 25)
  have ON := own_new W8 #[c0, c1, c2, c3, c4, d0, d1, d2, d3, d4] 25
  rw [hsz] at ON
  have R9 := (R7.touch T8 (fun k hk hm => (HF k hk).2 (by simpa using hm))).ext x9
  have S9 := (S7.touch T8 (fun k hk hm => (HG k hk).2 (by simpa using hm))).ext x9
  have hel := OE.lt
  have hwl := T7.size
  refine ⟨_, _, O8.ext x9, send2 tx R9 S9 (cs := [c0, c1, c2, c3, c4]) (ds := [d0, d1, d2, d3, d4]) ON, fun k hk => ?_, (h0.late K7 T8 (fun k hk => by simp at hk; omega)).ext x9, (B7.touch' T8 (by simp; omega)).ext x9, (T7.late2 T8 (fun k hk => by simp at hk; omega)).trans (Touch.of_ext x9 _)⟩
  rcases List.mem_cons.1 hk with rfl | hk
  · omega
  · rcases List.mem_append.1 hk with hk | hk
    · exact HF k hk
    · exact HG k hk

set_option maxHeartbeats 8000000 in
set_option maxRecDepth 100000 in
theorem binary_at {B tb to_ cap : Nat} {ao : Option Addr} {ts : List MToken} {a : Nat} (HUN : ∀ a', a ≤ a' → UnAt B tb to_ cap ao ts a') : BinAt B tb to_ cap ao ts a := by
  intro w b h ha
  have HP := Lib.hid h
  have hln := h.len
  have hrb := h.own.lt
  have HC := Lib.hid (fun (W : World) (hW : Ext w W) => HUN a (Nat.le_refl _) W b (h.ext hW) ha)
  have HUN := Lib.hid HUN
  have hfd := fld0
  clear h
  go_enter Tryz.func117, Tryz.ntmps117
  go_upto_region 1 with fail
  generalize hS : World.alloc w _ = W1
  have x1 : Ext w W1 := by rw [← hS]; exact (Ext.refl _).alloc _
  have O1 : Own W1 w.heap.size 25 #[.int .i64 0, .string ⟨#[]⟩, .int .i64 0, .slice none 0 0, .slice none 0 0] := by rw [← hS]; exact own_new w _ _
  clear hS
  go_wp2_with fail
  refine (HC.out _ x1).mono ?_
  rintro e w2 ⟨x, cs, fp, s0, a', b', rfl, hr, hf, hp, hg, hs0, hm, hT⟩
  have O2 := O1.touch' hT (by simp; omega)
  have hs1 := x1.size
  have hs2 := hT.size
  have hzo := O1.lt
  have hm1 := hm
  obtain ⟨y1, y2, y3, y4, rfl⟩ := fld5 hr
  go_upto_region 2 with fail
  generalize hS : World.alloc w2 _ = W3
  have x3 : Ext w2 W3 := by rw [← hS]; exact (Ext.refl _).alloc _
  have OE : Own W3 w2.heap.size 25 #[.int .i64 x.kind, .string x.text, .int .i64 x.number, .slice y1 x.names.length y2, .slice y3 x.kids.length y4] := by rw [← hS]; exact own_new w2 _ _
  have O3 := O2.ext x3
  have HP3 := Lib.hid (hp.ext x3)
  have HR3 := Lib.hid (hr.ext x3)
  have HF3 : Hid (∀ k, k ∈ fp → w.heap.size < k ∧ k ≠ w2.heap.size) := Lib.hid fun k hk => by
    have h1 := hf k hk
    have h2 := hr.lt _ k hk
    omega
  have HT3 := Lib.hid (((Touch.of_ext x1 [B]).trans hT).trans (Touch.of_ext x3 [B]))
  have H0 := Lib.hid ((Todo.refl b (fun n => pBinary ts n a)).call hg (g := fun n r => pBin ts n r.1 r.2.1 r.2.2) (fun n => by rw [pBinary]))
  have hebr : w.heap.size < w2.heap.size := by omega
  have hebB : ¬ w2.heap.size = B := by omega
  clear hr hf hp hg hm hT O1 O2 hS x3 hs1 hs2 hzo x1 HC
  generalize hbe : w2.heap.size = eb at *
  clear hbe
  go_loopw [5] (fun sv wr => ∃ (x : MExpr) (cs : List Value) (fp : List Nat) (s : Bool) (j : Nat) (bj : Bool), sv = .bool s ∧ Own wr eb 25 cs.toArray ∧ RepF wr x.d cs fp ∧ Hid (∀ k, k ∈ fp → w.heap.size < k ∧ k ≠ eb) ∧ Prs 54 B tb to_ cap ao ts wr (j) bj ∧ Hid (Todo b (fun n => pBinary ts n a) bj (fun n => pBin ts n x s j)) ∧ Hid (s = true → x.kids ≠ []) ∧ a < j ∧ Own wr w.heap.size 25 #[.int .i64 0, .string ⟨#[]⟩, .int .i64 0, .slice none 0 0, .slice none 0 0] ∧ Touch w wr [B]) (fun _ wr => ts.length + 1 - placeOf B wr)
  case atStart => exact ⟨x, _, fp, s0, a', b', rfl, OE, HR3.out, HF3, HP3.out, H0, Lib.hid hs0, hm1, O3, HT3.out⟩
  case round =>
    clear OE O3 HP3 HR3 HF3 HT3 H0 hm1
    obtain ⟨x, cs, fp, s, j, bj, rfl, hO, hr, HF, hp, HTD, HS, haj, hB, hT⟩ := hrel
    obtain ⟨y1, y2, y3, y4, rfl⟩ := fld5 hr
    have HR := Lib.hid hr
    have HPj := Lib.hid hp
    have HPM := Lib.hid hp
    have HT := Lib.hid hT
    obtain ⟨c0, c1, c2⟩ := hp.cells
    have zB := lt_of_cell c0
    have hjl := hp.le
    clear hr hp hT
    have q0 : wr.cell? ⟨eb, 0, none⟩ = some (.int .i64 x.kind) := hO.cell 0
    have qf0 := hO.frozen 0
    have q1 : wr.cell? ⟨eb, 1, none⟩ = some (.string x.text) := hO.cell 1
    have qf1 := hO.frozen 1
    have q2 : wr.cell? ⟨eb, 2, none⟩ = some (.int .i64 x.number) := hO.cell 2
    have qf2 := hO.frozen 2
    have q3 : wr.cell? ⟨eb, 3, none⟩ = some (.slice y1 x.names.length y2) := hO.cell 3
    have qf3 := hO.frozen 3
    have q4 : wr.cell? ⟨eb, 4, none⟩ = some (.slice y3 x.kids.length y4) := hO.cell 4
    have qf4 := hO.frozen 4
    have qz := hO.lt
    have o0 : wr.cell? ⟨w.heap.size, 0, none⟩ = some (.int .i64 0) := hB.cell 0
    have of0 := hB.frozen 0
    have o1 : wr.cell? ⟨w.heap.size, 1, none⟩ = some (.string ⟨#[]⟩) := hB.cell 1
    have of1 := hB.frozen 1
    have o2 : wr.cell? ⟨w.heap.size, 2, none⟩ = some (.int .i64 0) := hB.cell 2
    have of2 := hB.frozen 2
    have o3 : wr.cell? ⟨w.heap.size, 3, none⟩ = some (.slice none 0 0) := hB.cell 3
    have of3 := hB.frozen 3
    have o4 : wr.cell? ⟨w.heap.size, 4, none⟩ = some (.slice none 0 0) := hB.cell 4
    have of4 := hB.frozen 4
    have oz := hB.lt
    cases bj
    rotate_left
    · have HG : Hid (Got b (fun n => pBinary ts n a) true (x, s, j)) := Lib.hid (HTD.out.dead _)
      clear HTD
      go_wp2_with fail
      generalize hS : World.setCell (World.setCell (World.setCell (World.setCell (World.setCell wr _ _) _ _) _ _) _ _) _ _ = W9
      obtain ⟨O9, T9⟩ := own5 hB (.int .i64 x.kind) (.string x.text) (.int .i64 x.number) (.slice y1 x.names.length y2) (.slice y3 x.kids.length y4)
      rw [hS] at O9 T9
      clear hS
      have p0 : W9.cell? ⟨w.heap.size, 0, none⟩ = some (.int .i64 x.kind) := O9.cell 0
      have p1 : W9.cell? ⟨w.heap.size, 1, none⟩ = some (.string x.text) := O9.cell 1
      have p2 : W9.cell? ⟨w.heap.size, 2, none⟩ = some (.int .i64 x.number) := O9.cell 2
      have p3 : W9.cell? ⟨w.heap.size, 3, none⟩ = some (.slice y1 x.names.length y2) := O9.cell 3
      have p4 : W9.cell? ⟨w.heap.size, 4, none⟩ = some (.slice y3 x.kids.length y4) := O9.cell 4
      have pz := O9.lt
      have FIN : SGot B tb to_ cap ao ts w a b (fun n => pBinary ts n a) (.returned (.tuple #[.agg #[.int .i64 x.kind, .string x.text, .int .i64 x.number, .slice y1 x.names.length y2, .slice y3 x.kids.length y4], .bool s])) W9 := ⟨x, _, fp, s, j, _, rfl, HR.out.touch T9 (fun k hk hm => by have := HF.out k hk; simp at hm; omega), fun k hk => by have := HF.out k hk; omega, HP.out.late HPj.out T9 (fun k hk => by simp at hk; omega), HG.out, HS.out, haj, HT.out.late2 T9 (fun k hk => by simp at hk; omega)⟩
      exact bodyPost_ret (v := .tuple #[.agg #[.int .i64 x.kind, .string x.text, .int .i64 x.number, .slice y1 x.names.length y2, .slice y3 x.kids.length y4], .bool s]) (by simp [results, Tryz.results117, go_sem, p0, p1, p2, p3, p4, pz]) rfl FIN
    cases hb : tkB ts j 6
    · have s1 : (tkK ts j == 6) = false := by rw [← tkB_eq (by decide)]; exact hb
      have HG : Hid (Got b (fun n => pBinary ts n a) false (x, s, j)) := Lib.hid (HTD.out.done (fun n => by rw [pBin, if_neg (by rw [hb]; decide)]))
      clear HTD hb
      go_wp2_with fail
      refine (peek_any _ HPj.out).mono ?_
      rintro e w1 ⟨rfl, hx⟩
      have hf := hfd (tkK ts j) (tkN ts j) (tkT ts j) w1
      have HX := Lib.hid hx
      generalize htx : tkT ts j = tx at *
      have HTX := Lib.hid htx
      generalize tkK ts j = kd at *
      generalize tkN ts j = nm at *
      clear hfd hx htx
      have hO1 := hO.ext HX.out
      have hB1 := hB.ext HX.out
      have HR1 := Lib.hid (HR.out.ext HX.out)
      have HP1 := Lib.hid (HPj.out.ext HX.out)
      have HT1 := Lib.hid (HT.out.trans (Touch.of_ext HX.out [B]))
      clear hO hB HR HPj HT c0 c1 c2 zB q0 qf0 q1 qf1 q2 qf2 q3 qf3 q4 qf4 qz
      clear o0 of0 o1 of1 o2 of2 o3 of3 o4 of4 oz
      have q0 : w1.cell? ⟨eb, 0, none⟩ = some (.int .i64 x.kind) := hO1.cell 0
      have q1 : w1.cell? ⟨eb, 1, none⟩ = some (.string x.text) := hO1.cell 1
      have q2 : w1.cell? ⟨eb, 2, none⟩ = some (.int .i64 x.number) := hO1.cell 2
      have q3 : w1.cell? ⟨eb, 3, none⟩ = some (.slice y1 x.names.length y2) := hO1.cell 3
      have q4 : w1.cell? ⟨eb, 4, none⟩ = some (.slice y3 x.kids.length y4) := hO1.cell 4
      have qz := hO1.lt
      have o0 : w1.cell? ⟨w.heap.size, 0, none⟩ = some (.int .i64 0) := hB1.cell 0
      have of0 := hB1.frozen 0
      have o1 : w1.cell? ⟨w.heap.size, 1, none⟩ = some (.string ⟨#[]⟩) := hB1.cell 1
      have of1 := hB1.frozen 1
      have o2 : w1.cell? ⟨w.heap.size, 2, none⟩ = some (.int .i64 0) := hB1.cell 2
      have of2 := hB1.frozen 2
      have o3 : w1.cell? ⟨w.heap.size, 3, none⟩ = some (.slice none 0 0) := hB1.cell 3
      have of3 := hB1.frozen 3
      have o4 : w1.cell? ⟨w.heap.size, 4, none⟩ = some (.slice none 0 0) := hB1.cell 4
      have of4 := hB1.frozen 4
      have oz := hB1.lt
      go_wp2_with fail
      generalize hS : World.setCell (World.setCell (World.setCell (World.setCell (World.setCell w1 _ _) _ _) _ _) _ _) _ _ = W9
      obtain ⟨O9, T9⟩ := own5 hB1 (.int .i64 x.kind) (.string x.text) (.int .i64 x.number) (.slice y1 x.names.length y2) (.slice y3 x.kids.length y4)
      rw [hS] at O9 T9
      clear hS
      have p0 : W9.cell? ⟨w.heap.size, 0, none⟩ = some (.int .i64 x.kind) := O9.cell 0
      have p1 : W9.cell? ⟨w.heap.size, 1, none⟩ = some (.string x.text) := O9.cell 1
      have p2 : W9.cell? ⟨w.heap.size, 2, none⟩ = some (.int .i64 x.number) := O9.cell 2
      have p3 : W9.cell? ⟨w.heap.size, 3, none⟩ = some (.slice y1 x.names.length y2) := O9.cell 3
      have p4 : W9.cell? ⟨w.heap.size, 4, none⟩ = some (.slice y3 x.kids.length y4) := O9.cell 4
      have pz := O9.lt
      have FIN : SGot B tb to_ cap ao ts w a b (fun n => pBinary ts n a) (.returned (.tuple #[.agg #[.int .i64 x.kind, .string x.text, .int .i64 x.number, .slice y1 x.names.length y2, .slice y3 x.kids.length y4], .bool s])) W9 := ⟨x, _, fp, s, j, _, rfl, HR1.out.touch T9 (fun k hk hm => by have := HF.out k hk; simp at hm; omega), fun k hk => by have := HF.out k hk; omega, HP.out.late HP1.out T9 (fun k hk => by simp at hk; omega), HG.out, HS.out, haj, HT1.out.late2 T9 (fun k hk => by simp at hk; omega)⟩
      exact bodyPost_ret (v := .tuple #[.agg #[.int .i64 x.kind, .string x.text, .int .i64 x.number, .slice y1 x.names.length y2, .slice y3 x.kids.length y4], .bool s]) (by simp [results, Tryz.results117, go_sem, p0, p1, p2, p3, p4, pz]) rfl FIN
    have s1 : (tkK ts j == 6) = true := by rw [← tkB_eq (by decide)]; exact hb
    have hjt := kind_lt (by decide) hb
    have htz := HPj.out.txt j
    have HTK := Lib.hid (fun (W : World) (hp : Prs 54 B tb to_ cap ao ts W j false) => take_yes W hp 6 (by decide) hb)
    have HTC := Lib.hid (fun (y : MExpr) (s2 : Bool) (a2 : Nat) (b2 : Bool) (hg : Got false (fun n => pUnary ts n (j + 1)) b2 (y, s2, a2)) => HTD.out.call hg (g := fun n r => pBin ts n (eMsg (tkT ts j) [x, r.1]) true r.2.2) (fun n => by rw [pBin, if_pos hb]))
    clear HTD hb
    go_wp2_with fail
    refine (peek_any _ HPj.out).mono ?_
    rintro e w1 ⟨rfl, hx⟩
    have hf := hfd (tkK ts j) (tkN ts j) (tkT ts j) w1
    have HX := Lib.hid hx
    generalize htx : tkT ts j = tx at *
    have HTX := Lib.hid htx
    generalize tkK ts j = kd at *
    generalize tkN ts j = nm at *
    clear hfd hx htx
    have hO1 := hO.ext HX.out
    have hB1 := hB.ext HX.out
    have HR1 := Lib.hid (HR.out.ext HX.out)
    have HP1 := Lib.hid (HPj.out.ext HX.out)
    have HT1 := Lib.hid (HT.out.trans (Touch.of_ext HX.out [B]))
    clear hO hB HR HPj HT c0 c1 c2 zB q0 qf0 q1 qf1 q2 qf2 q3 qf3 q4 qf4 qz
    clear o0 of0 o1 of1 o2 of2 o3 of3 o4 of4 oz
    have q0 : w1.cell? ⟨eb, 0, none⟩ = some (.int .i64 x.kind) := hO1.cell 0
    have qf0 := hO1.frozen 0
    have q1 : w1.cell? ⟨eb, 1, none⟩ = some (.string x.text) := hO1.cell 1
    have qf1 := hO1.frozen 1
    have q2 : w1.cell? ⟨eb, 2, none⟩ = some (.int .i64 x.number) := hO1.cell 2
    have qf2 := hO1.frozen 2
    have q3 : w1.cell? ⟨eb, 3, none⟩ = some (.slice y1 x.names.length y2) := hO1.cell 3
    have qf3 := hO1.frozen 3
    have q4 : w1.cell? ⟨eb, 4, none⟩ = some (.slice y3 x.kids.length y4) := hO1.cell 4
    have qf4 := hO1.frozen 4
    have qz := hO1.lt
    go_upto_region 3 with fail
    go_wp2_with fail
    refine (HTK.out _ HP1.out).mono ?_
    rintro e w2 ⟨rfl, K2, T2⟩
    have hO2 := hO1.touch' T2 (by simpa using hebB)
    have hB2 := hB1.touch' T2 (by simp; omega)
    have hs2 := T2.size
    have heb1 := hO1.lt
    have HR2 := Lib.hid (HR1.out.touch T2 (fun k hk hm => by have := HF.out k hk; simp at hm; omega))
    have HT2 := Lib.hid (HT1.out.trans T2)
    have HU := Lib.hid (HUN.out (j + 1) (by omega) w2 false K2 (by omega))
    clear K2 T2 hO1 hB1 HR1 HT1 hf s1 HTK q0 qf0 q1 qf1 q2 qf2 q3 qf3 q4 qf4 qz
    go_wp2_with fail
    refine HU.out.mono ?_
    rintro e w3 ⟨y, ds, gp, s2, a2, b2, rfl, hr2, hf2, hp2, hg2, -, hm2, hT2⟩
    have hO3 := hO2.touch' hT2 (by simpa using hebB)
    have hB3 := hB2.touch' hT2 (by simp; omega)
    have HR3 := Lib.hid (HR2.out.touch hT2 (fun k hk hm => by have := HF.out k hk; simp at hm; omega))
    have HT3 := Lib.hid (HT2.out.trans hT2)
    have HS3 := Lib.hid hr2
    have HGP : Hid (∀ k, k ∈ gp → w.heap.size < k ∧ k ≠ eb) := Lib.hid fun k hk => by have := hf2 k hk; omega
    have HTD2 := Lib.hid (HTC.out y s2 a2 b2 hg2)
    have HP3 := Lib.hid hp2
    have hs3 := hT2.size
    obtain ⟨z1, z2, z3, z4, rfl⟩ := fld5 hr2
    clear hr2 hf2 hp2 hg2 hT2 hO2 hB2 HR2 HT2 HU HTC
    go_upto_region 5 with fail
    generalize hS : World.alloc w3 _ = W4
    have x4 : Ext w3 W4 := by rw [← hS]; exact (Ext.refl _).alloc _
    have OY : Own W4 w3.heap.size 25 #[.int .i64 y.kind, .string y.text, .int .i64 y.number, .slice z1 y.names.length z2, .slice z3 y.kids.length z4] := by rw [← hS]; exact own_new w3 _ _
    have hO4 := hO3.ext x4
    have U := bin_A HP.out hO4 (HR3.out.ext x4) (HS3.out.ext x4) HF.out HGP.out hebr (HP3.out.ext x4) (hB3.ext x4) (HT3.out.trans (Touch.of_ext x4 [B])) tx
    clear hS x4 hO3 hB3
    generalize hyb : w3.heap.size = yb at *
    clear hyb
    have q0 : W4.cell? ⟨eb, 0, none⟩ = some (.int .i64 x.kind) := hO4.cell 0
    have qf0 := hO4.frozen 0
    have q1 : W4.cell? ⟨eb, 1, none⟩ = some (.string x.text) := hO4.cell 1
    have qf1 := hO4.frozen 1
    have q2 : W4.cell? ⟨eb, 2, none⟩ = some (.int .i64 x.number) := hO4.cell 2
    have qf2 := hO4.frozen 2
    have q3 : W4.cell? ⟨eb, 3, none⟩ = some (.slice y1 x.names.length y2) := hO4.cell 3
    have qf3 := hO4.frozen 3
    have q4 : W4.cell? ⟨eb, 4, none⟩ = some (.slice y3 x.kids.length y4) := hO4.cell 4
    have qf4 := hO4.frozen 4
    have qz := hO4.lt
    have r0 : W4.cell? ⟨yb, 0, none⟩ = some (.int .i64 y.kind) := OY.cell 0
    have r1 : W4.cell? ⟨yb, 1, none⟩ = some (.string y.text) := OY.cell 1
    have r2 : W4.cell? ⟨yb, 2, none⟩ = some (.int .i64 y.number) := OY.cell 2
    have r3 : W4.cell? ⟨yb, 3, none⟩ = some (.slice z1 y.names.length z2) := OY.cell 3
    have r4 : W4.cell? ⟨yb, 4, none⟩ = some (.slice z3 y.kids.length z4) := OY.cell 4
    have rz := OY.lt
    go_wp2_with fail
    generalize hWF : World.alloc (World.setCell (World.setCell (World.setCell (World.setCell (World.setCell W4 _ _) _ _) _ _) _ _) _ _) _ = WF at *
    clear hWF
    obtain ⟨cs9, fp9, O9, R9, F9, K9, B9, T9⟩ := U
    have HF9 := Lib.hid F9
    have HK9 := Lib.hid K9
    refine ⟨⟨eMsg tx [x, y], cs9, fp9, true, a2, b2, rfl, O9, R9, HF9, HK9.out, ?_, ?_, ?_, B9, T9⟩, ?_⟩
    · exact HTD2
    · exact Lib.hid (fun _ => by simp [eMsg])
    · exact Nat.lt_trans (Nat.lt_succ_of_lt haj) hm2
    · rw [placeOf_eq HPM.out, placeOf_eq HK9.out]; have := HK9.out.le; omega

open Go.RowKit
set_option linter.unusedSimpArgs false
set_option linter.unusedVariables false

def KGot (B tb to_ cap : Nat) (ao : Option Addr) (ts : List MToken) (w : World) (a : Nat) (b : Bool) (e : Ending) (w' : World) : Prop := ∃ (s : ByteArray) (l : List MExpr) (v : Value) (a' : Nat) (b' : Bool), e = .returned (.tuple #[.string s, v]) ∧ AccX w.heap.size w' v l ∧ Prs 54 B tb to_ cap ao ts w' (a') b' ∧ Got b (fun n => pKeys ts n ⟨#[]⟩ [] a) b' (s, l, a') ∧ l.length + a ≤ a' ∧ s.size ≤ 100000 * (a' - a) ∧ Touch w w' [B]
def KeyAt (B tb to_ cap : Nat) (ao : Option Addr) (ts : List MToken) (a : Nat) : Prop := ∀ (w : World) (b : Bool), Prs 54 B tb to_ cap ao ts w (a) b → Calls Tryz.prog 118 #[.pointer (some ⟨B, 0, none⟩)] w (KGot B tb to_ cap ao ts w a b)

set_option maxHeartbeats 8000000 in
set_option maxRecDepth 100000 in
theorem keywords_at {B tb to_ cap : Nat} {ao : Option Addr} {ts : List MToken} {a : Nat} (HBI : ∀ a', a < a' → BinAt B tb to_ cap ao ts a') : KeyAt B tb to_ cap ao ts a := by
  intro w b h
  have HP := Lib.hid h
  have hln := h.len
  have hle := h.le
  have hrb := h.own.lt
  have HBI := Lib.hid HBI
  have hfd := fld0
  have H0 := Lib.hid (Todo.refl b (fun n => pKeys ts n ⟨#[]⟩ [] a))
  clear h
  go_enter Tryz.func118, Tryz.ntmps118
  go_upto_region 2 with fail
  generalize hS : World.alloc w _ = W1
  have x1 : Ext w W1 := by rw [← hS]; exact (Ext.refl _).alloc _
  have A1 : Hid (AccX w.heap.size W1 (.slice (some ⟨w.heap.size, 0, none⟩) 0 0) []) := Lib.hid (Acw.of (by rw [← hS]; exact Acc.empty 25 5 (Nat.le_refl _)))
  have HP1 := Lib.hid (HP.out.ext x1)
  clear hS
  go_loopw [4, 5] (fun tv av wr => ∃ (s : ByteArray) (l : List MExpr) (j : Nat) (bj : Bool), tv = .string s ∧ AccX w.heap.size wr av l ∧ Prs 54 B tb to_ cap ao ts wr (j) bj ∧ Hid (Todo b (fun n => pKeys ts n ⟨#[]⟩ [] a) bj (fun n => pKeys ts n s l j)) ∧ l.length + a ≤ j ∧ s.size ≤ 100000 * (j - a) ∧ Touch w wr [B]) (fun _ _ wr => ts.length + 1 - placeOf B wr)
  case atStart => exact ⟨⟨#[]⟩, [], a, b, rfl, A1.out, HP1.out, H0, by simp, Nat.zero_le _, Touch.of_ext x1 _⟩
  case round =>
    clear A1 HP1 H0
    obtain ⟨av, hav⟩ : ∃ x, x = u5 := ⟨_, rfl⟩
    subst hav
    obtain ⟨s, l, j, bj, rfl, hA, hp, HTD, hlj, hsz, hT⟩ := hrel
    have HA := Lib.hid hA
    have HPj := Lib.hid hp
    have HPM := Lib.hid hp
    have HT := Lib.hid hT
    obtain ⟨c0, c1, c2⟩ := hp.cells
    have zB := lt_of_cell c0
    have hjl := hp.le
    have hws := hT.size
    clear hA hp hT
    cases bj
    rotate_left
    · have FIN : Hid (KGot B tb to_ cap ao ts w a b (.returned (.tuple #[.string s, av])) wr) := Lib.hid ⟨s, l, av, j, true, rfl, HA.out, HPj.out, HTD.out.dead _, hlj, hsz, HT.out⟩
      clear HTD
      go_wp2_with fail
      go_ret2
      exact FIN.out
    cases hb : tkB ts j 2
    · have s1 : (tkK ts j == 2) = false := by rw [← tkB_eq (by decide)]; exact hb
      have HG : Hid (Got b (fun n => pKeys ts n ⟨#[]⟩ [] a) false (s, l, j)) := Lib.hid (HTD.out.done (fun n => by rw [pKeys, if_neg (by rw [hb]; decide)]))
      clear HTD hb
      go_wp2_with fail
      refine (peek_any _ HPj.out).mono ?_
      rintro e w1 ⟨rfl, hx⟩
      have hf := hfd (tkK ts j) (tkN ts j) (tkT ts j) w1
      have HX := Lib.hid hx
      generalize htx : tkT ts j = tx at *
      have HTX := Lib.hid htx
      generalize tkK ts j = kd at *
      generalize tkN ts j = nm at *
      clear hfd hx htx
      have FIN : Hid (KGot B tb to_ cap ao ts w a b (.returned (.tuple #[.string s, av])) w1) := Lib.hid ⟨s, l, av, j, false, rfl, HA.out.ext HX.out, HPj.out.ext HX.out, HG.out, hlj, hsz, HT.out.trans (Touch.of_ext HX.out _)⟩
      go_wp2_with fail
      go_ret2
      exact FIN.out
    have s1 : (tkK ts j == 2) = true := by rw [← tkB_eq (by decide)]; exact hb
    have hjt := kind_lt (by decide) hb
    have htz := HPj.out.txt j
    have HTK := Lib.hid (fun (W : World) (hp : Prs 54 B tb to_ cap ao ts W j false) => take_yes W hp 2 (by decide) hb)
    have HTC := Lib.hid (fun (y : MExpr) (s2 : Bool) (a2 : Nat) (b2 : Bool) (hg : Got false (fun n => pBinary ts n (j + 1)) b2 (y, s2, a2)) => HTD.out.call hg (g := fun n r => pKeys ts n (s ++ tkT ts j) (l ++ [r.1]) r.2.2) (fun n => by rw [pKeys, if_pos hb]))
    clear HTD hb
    go_wp2_with fail
    refine (peek_any _ HPj.out).mono ?_
    rintro e w1 ⟨rfl, hx⟩
    have hf := hfd (tkK ts j) (tkN ts j) (tkT ts j) w1
    have HX := Lib.hid hx
    generalize htx : tkT ts j = tx at *
    have HTX := Lib.hid htx
    generalize tkK ts j = kd at *
    generalize tkN ts j = nm at *
    clear hfd hx htx
    have HP1 := Lib.hid (HPj.out.ext HX.out)
    have HA1 := Lib.hid (HA.out.ext HX.out)
    have HT1 := Lib.hid (HT.out.trans (Touch.of_ext HX.out [B]))
    clear HA HPj HT c0 c1 c2 zB
    go_wp2_with fail
    refine (HTK.out _ HP1.out).mono ?_
    rintro e w2 ⟨rfl, K2, T2⟩
    have HA2 := Lib.hid (HA1.out.touch T2 (fun k hk => by simp at hk; omega))
    have hs2 := T2.size
    have hs1 := HX.out.size
    have HT2 := Lib.hid (HT1.out.trans T2)
    have HU := Lib.hid (HBI.out (j + 1) (by omega) w2 false K2 (by omega))
    have hst : s.size ≤ 80100000 := by omega
    have hcat : (s ++ tx).size = s.size + tx.size := ByteArray.size_append
    have HCAT := Lib.hid hcat
    have HA1B : Hid (∀ k, av.ownBlock = some k → k < w2.heap.size) := Lib.hid fun k hk => (Acw.ge HA2.out hk).2
    clear K2 T2 HA1 HT1 hf s1 HTK hcat
    go_wp2_with fail
    refine HU.out.mono ?_
    rintro e w3 ⟨y, ds, gp, s2, a2, b2, rfl, hr2, hf2, hp2, hg2, -, hm2, hT2⟩
    have HA3 := Lib.hid (HA2.out.touch hT2 (fun k hk => by simp at hk; omega))
    have HT3 := Lib.hid (HT2.out.trans hT2)
    have HTD2 := Lib.hid (HTC.out y s2 a2 b2 hg2)
    have HP3 := Lib.hid hp2
    have HS3 := Lib.hid hr2
    have HF3 := Lib.hid hf2
    have hs3 := hT2.size
    obtain ⟨z1, z2, z3, z4, rfl⟩ := fld5 hr2
    clear hr2 hf2 hp2 hg2 hT2 HA2 HT2 HU HTC
    go_upto_region 5 with fail
    generalize hS : World.alloc w3 _ = W4
    have x4 : Ext w3 W4 := by rw [← hS]; exact (Ext.refl _).alloc _
    have OY : Own W4 w3.heap.size 25 #[.int .i64 y.kind, .string y.text, .int .i64 y.number, .slice z1 y.names.length z2, .slice z3 y.kids.length z4] := by rw [← hS]; exact own_new w3 _ _
    have HA4 := Lib.hid (HA3.out.ext x4)
    have HP4 := Lib.hid (HP3.out.ext x4)
    have HS4 := Lib.hid (HS3.out.ext x4)
    have HT4 := Lib.hid (HT3.out.trans (Touch.of_ext x4 [B]))
    have hs4 := x4.size
    clear hS x4 HA3 HP3 HS3 HT3
    generalize hyb : w3.heap.size = yb at *
    clear hyb
    have r0 : W4.cell? ⟨yb, 0, none⟩ = some (.int .i64 y.kind) := OY.cell 0
    have r1 : W4.cell? ⟨yb, 1, none⟩ = some (.string y.text) := OY.cell 1
    have r2 : W4.cell? ⟨yb, 2, none⟩ = some (.int .i64 y.number) := OY.cell 2
    have r3 : W4.cell? ⟨yb, 3, none⟩ = some (.slice z1 y.names.length z2) := OY.cell 3
    have r4 : W4.cell? ⟨yb, 4, none⟩ = some (.slice z3 y.kids.length z4) := OY.cell 4
    have rz := OY.lt
    have x5 : Ext W4 (W4.alloc (.cells #[.int .i64 y.kind, .string y.text, .int .i64 y.number, .slice z1 y.names.length z2, .slice z3 y.kids.length z4] 25)) := (Ext.refl W4).alloc _
    have KD := HA4.out.ext x5
    have HSL := one_expr (HS4.out.ext x5) (own_new W4 #[.int .i64 y.kind, .string y.text, .int .i64 y.number, .slice z1 y.names.length z2, .slice z3 y.kids.length z4] 25)
    go_wp2_with (at_builtin; refine wpList_append_x rfl _ _ rfl w.heap.size av l rfl KD [y] _ _ _ (W4.heap.size :: gp) rfl HSL (fun k hk => by have := HF3.out k hk; omega) (fun k hk hm => by have h1 := HF3.out k hm; have h2 := (HA1B.out k hk); omega) (by simp; omega) (by simp; omega) ?_)
    intro a1 k1 w6 ac1 g1 m1
    have TG : Touch (W4.alloc (.cells #[.int .i64 y.kind, .string y.text, .int .i64 y.number, .slice z1 y.names.length z2, .slice z3 y.kids.length z4] 25)) w6 av.ownBlock.toList := (Touch.of_ext (Ext.refl _) _).grown g1 fun k hk => Or.inl (by simp [hk])
    have HK6 := Lib.hid (HP.out.late (HP4.out.ext x5) TG (fun k hk => (Acw.ge KD (k := k) (by simpa using hk)).1))
    have HT6 := Lib.hid ((HT4.out.trans (Touch.of_ext x5 [B])).late2 TG (fun k hk => (Acw.ge KD (k := k) (by simpa using hk)).1))
    have HAC := Lib.hid ac1
    have hl2 : l.length + 1 + a ≤ a2 := by omega
    have hsz2 : (s ++ tx).size ≤ 100000 * (a2 - a) := by rw [HCAT.out]; omega
    clear KD HSL g1 m1 TG ac1 x5 OY r0 r1 r2 r3 r4 rz
    generalize hv1 : Value.slice a1 (l.length + [y].length) k1 = v1 at *
    go_wp2_with fail
    refine ⟨⟨s ++ tx, l ++ [y], a2, b2, rfl, HAC.out, HK6.out, ?_, ?_, hsz2, HT6.out⟩, ?_⟩
    · exact HTD2
    · simp; omega
    · rw [placeOf_eq HPM.out, placeOf_eq HK6.out]; have := HK6.out.le; omega

end Go.Proofs.YtonmcoojgkgemaaGreatDoor
