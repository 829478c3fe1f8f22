/-
  CONTRACTS: the reference's parser: unary, binary.
  Conditions: those that each lemma states.
-/
import Derived.Test.YtonmcoojgkgemaaGreatDoorRows
import Derived.Deep.DeepCutAuto
import Derived.Deep.RegionHeldLaw
import Derived.Test.YtonmcoojgkgemaaGreatDoorParZ
import Derived.Test.YtonmcoojgkgemaaGreatDoorParQ
namespace Go.Proofs.YtonmcoojgkgemaaGreatDoor
open Go.RowKit
set_option linter.unusedSimpArgs false
set_option linter.unusedVariables false

set_option maxHeartbeats 8000000 in
set_option maxRecDepth 100000 in
theorem runary_at {B tb to_ cap : Nat} {ao : Option Addr} {ts : List MToken} {a : Nat} (HPR : RPrimAt B tb to_ cap ao ts a) : RUnAt B tb to_ cap ao ts a := by
  intro w b h ha
  have HP := Lib.hid h
  have hln := h.len
  have hrb := h.own.lt
  have HC := Lib.hid (fun (W : World) (hW : Ext w W) => HPR W b (h.ext hW) ha)
  clear HPR
  clear h
  go_enter Tryz.func102, Tryz.ntmps102
  go_upto_region 1 with fail
  generalize hS : World.alloc w _ = W1
  have x1 : Ext w W1 := by rw [← hS]; exact (Ext.refl _).alloc _
  have O1 : Own W1 w.heap.size 25 #[.int .i64 0, .string ⟨#[]⟩, .int .i64 0, .slice none 0 0, .slice none 0 0] := by rw [← hS]; exact own_new w _ _
  clear hS
  go_wp2_with fail
  refine (HC.out _ x1).mono ?_
  rintro e w2 ⟨x, cs, fp, a', b', rfl, hr, hf, hp, hg, hm, hT⟩
  have O2 := O1.touch' hT (by simp; omega)
  have hs1 := x1.size
  have hs2 := hT.size
  have hzo := O1.lt
  obtain ⟨y1, y2, y3, y4, rfl⟩ := fld5 hr
  go_upto_region 2 with fail
  generalize hS : World.alloc w2 _ = W3
  have x3 : Ext w2 W3 := by rw [← hS]; exact (Ext.refl _).alloc _
  have OE : Own W3 w2.heap.size 25 #[.int .i64 x.kind, .string x.text, .int .i64 x.number, .slice y1 x.names.length y2, .slice y3 x.kids.length y4] := by rw [← hS]; exact own_new w2 _ _
  have O3 := O2.ext x3
  have HP3 := Lib.hid (hp.ext x3)
  have HR3 := Lib.hid (hr.ext x3)
  have HF3 : Hid (∀ k, k ∈ fp → w.heap.size < k ∧ k ≠ w2.heap.size) := Lib.hid fun k hk => by
    have h1 := hf k hk
    have h2 := hr.lt _ k hk
    omega
  have HT3 := Lib.hid (((Touch.of_ext x1 [B]).trans hT).trans (Touch.of_ext x3 [B]))
  have H0 := Lib.hid ((Todo.refl b (fun n => pUnary ts n a)).call hg (g := fun n r => pUn ts n r.1 false r.2) (fun n => by rw [pUnary]))
  clear HC
  have hebr : w.heap.size < w2.heap.size := by omega
  have hebB : ¬ w2.heap.size = B := by omega
  clear hr hf hp hg hT O1 O2 hS x3 hs1 hs2 hzo x1
  generalize hbe : w2.heap.size = eb at *
  clear hbe
  go_wp2_with fail
  go_loopw [5] (fun sv wr => ∃ (x : MExpr) (cs : List Value) (fp : List Nat) (s : Bool) (j : Nat) (bj : Bool), sv = .bool s ∧ Own wr eb 25 cs.toArray ∧ RepF wr x.d cs fp ∧ Hid (∀ k, k ∈ fp → w.heap.size < k ∧ k ≠ eb) ∧ Prs 48 B tb to_ cap ao ts wr (j) bj ∧ Hid (Todo b (fun n => pUnary ts n a) bj (fun n => pUn ts n x s j)) ∧ Hid (s = true → x.kids ≠ []) ∧ a ≤ j ∧ Own wr w.heap.size 25 #[.int .i64 0, .string ⟨#[]⟩, .int .i64 0, .slice none 0 0, .slice none 0 0] ∧ Touch w wr [B]) (fun _ wr => ts.length + 1 - placeOf B wr)
  case atStart => exact ⟨x, _, fp, false, a', b', rfl, OE, HR3.out, HF3, HP3.out, H0, Lib.hid (fun h => (by cases h)), hm, O3, HT3.out⟩
  case round =>
    clear OE O3 HP3 HR3 HF3 HT3 H0
    obtain ⟨x, cs, fp, s, j, bj, rfl, hO, hr, HF, hp, HTD, HS, haj, hB, hT⟩ := hrel
    obtain ⟨y1, y2, y3, y4, rfl⟩ := fld5 hr
    have HR := Lib.hid hr
    have HPj := Lib.hid hp
    have HPM := Lib.hid hp
    have HT := Lib.hid hT
    obtain ⟨c0, c1, c2⟩ := hp.cells
    have zB := lt_of_cell c0
    have hjl := hp.le
    clear hr hp hT
    cases bj
    rotate_left
    · have HG : Hid (Got b (fun n => pUnary ts n a) true (x, s, j)) := Lib.hid (HTD.out.dead _)
      clear HTD
      have q0 : wr.cell? ⟨eb, 0, none⟩ = some (.int .i64 x.kind) := hO.cell 0
      have qf0 := hO.frozen 0
      have q1 : wr.cell? ⟨eb, 1, none⟩ = some (.string x.text) := hO.cell 1
      have qf1 := hO.frozen 1
      have q2 : wr.cell? ⟨eb, 2, none⟩ = some (.int .i64 x.number) := hO.cell 2
      have qf2 := hO.frozen 2
      have q3 : wr.cell? ⟨eb, 3, none⟩ = some (.slice y1 x.names.length y2) := hO.cell 3
      have qf3 := hO.frozen 3
      have q4 : wr.cell? ⟨eb, 4, none⟩ = some (.slice y3 x.kids.length y4) := hO.cell 4
      have qf4 := hO.frozen 4
      have qz := hO.lt
      have o0 : wr.cell? ⟨w.heap.size, 0, none⟩ = some (.int .i64 0) := hB.cell 0
      have of0 := hB.frozen 0
      have o1 : wr.cell? ⟨w.heap.size, 1, none⟩ = some (.string ⟨#[]⟩) := hB.cell 1
      have of1 := hB.frozen 1
      have o2 : wr.cell? ⟨w.heap.size, 2, none⟩ = some (.int .i64 0) := hB.cell 2
      have of2 := hB.frozen 2
      have o3 : wr.cell? ⟨w.heap.size, 3, none⟩ = some (.slice none 0 0) := hB.cell 3
      have of3 := hB.frozen 3
      have o4 : wr.cell? ⟨w.heap.size, 4, none⟩ = some (.slice none 0 0) := hB.cell 4
      have of4 := hB.frozen 4
      have oz := hB.lt
      go_wp2_with fail
      generalize hS : World.setCell (World.setCell (World.setCell (World.setCell (World.setCell wr _ _) _ _) _ _) _ _) _ _ = W9
      obtain ⟨O9, T9⟩ := own5 hB (.int .i64 x.kind) (.string x.text) (.int .i64 x.number) (.slice y1 x.names.length y2) (.slice y3 x.kids.length y4)
      rw [hS] at O9 T9
      clear hS
      have p0 : W9.cell? ⟨w.heap.size, 0, none⟩ = some (.int .i64 x.kind) := O9.cell 0
      have p1 : W9.cell? ⟨w.heap.size, 1, none⟩ = some (.string x.text) := O9.cell 1
      have p2 : W9.cell? ⟨w.heap.size, 2, none⟩ = some (.int .i64 x.number) := O9.cell 2
      have p3 : W9.cell? ⟨w.heap.size, 3, none⟩ = some (.slice y1 x.names.length y2) := O9.cell 3
      have p4 : W9.cell? ⟨w.heap.size, 4, none⟩ = some (.slice y3 x.kids.length y4) := O9.cell 4
      have pz := O9.lt
      have FIN : RSGot B tb to_ cap _ ts w a b (fun n => pUnary ts n a) (.returned (.tuple #[.agg #[.int .i64 x.kind, .string x.text, .int .i64 x.number, .slice y1 x.names.length y2, .slice y3 x.kids.length y4], .bool s])) W9 := ⟨x, _, fp, s, j, _, rfl, HR.out.touch T9 (fun k hk hm => by have := HF.out k hk; simp at hm; omega), fun k hk => by have := HF.out k hk; omega, HP.out.late HPj.out T9 (fun k hk => by simp at hk; omega), HG.out, HS.out, haj, HT.out.late2 T9 (fun k hk => by simp at hk; omega)⟩
      exact bodyPost_ret (v := .tuple #[.agg #[.int .i64 x.kind, .string x.text, .int .i64 x.number, .slice y1 x.names.length y2, .slice y3 x.kids.length y4], .bool s]) (by simp [results, Tryz.results102, go_sem, p0, p1, p2, p3, p4, pz]) rfl FIN
    have HI := risk_any _ HPj.out 1 (by decide)
    cases hb : tkB ts j 1
    · have HG : Hid (Got b (fun n => pUnary ts n a) false (x, s, j)) := Lib.hid (HTD.out.done (fun n => by rw [pUn, if_neg (by rw [hb]; decide)]))
      rw [hb] at HI
      have HI2 := Lib.hid HI
      clear HTD hb HI
      go_wp2_with fail
      refine HI2.out.mono ?_
      rintro e w1 ⟨rfl, hx⟩
      have hO1 := hO.ext hx
      have hB1 := hB.ext hx
      have HR1 := Lib.hid (HR.out.ext hx)
      have HP1 := Lib.hid (HPj.out.ext hx)
      have HT1 := Lib.hid (HT.out.trans (Touch.of_ext hx [B]))
      clear hO hB HR HPj HT c0 c1 c2 zB hx HI2
      have q0 : w1.cell? ⟨eb, 0, none⟩ = some (.int .i64 x.kind) := hO1.cell 0
      have qf0 := hO1.frozen 0
      have q1 : w1.cell? ⟨eb, 1, none⟩ = some (.string x.text) := hO1.cell 1
      have qf1 := hO1.frozen 1
      have q2 : w1.cell? ⟨eb, 2, none⟩ = some (.int .i64 x.number) := hO1.cell 2
      have qf2 := hO1.frozen 2
      have q3 : w1.cell? ⟨eb, 3, none⟩ = some (.slice y1 x.names.length y2) := hO1.cell 3
      have qf3 := hO1.frozen 3
      have q4 : w1.cell? ⟨eb, 4, none⟩ = some (.slice y3 x.kids.length y4) := hO1.cell 4
      have qf4 := hO1.frozen 4
      have qz := hO1.lt
      have o0 : w1.cell? ⟨w.heap.size, 0, none⟩ = some (.int .i64 0) := hB1.cell 0
      have of0 := hB1.frozen 0
      have o1 : w1.cell? ⟨w.heap.size, 1, none⟩ = some (.string ⟨#[]⟩) := hB1.cell 1
      have of1 := hB1.frozen 1
      have o2 : w1.cell? ⟨w.heap.size, 2, none⟩ = some (.int .i64 0) := hB1.cell 2
      have of2 := hB1.frozen 2
      have o3 : w1.cell? ⟨w.heap.size, 3, none⟩ = some (.slice none 0 0) := hB1.cell 3
      have of3 := hB1.frozen 3
      have o4 : w1.cell? ⟨w.heap.size, 4, none⟩ = some (.slice none 0 0) := hB1.cell 4
      have of4 := hB1.frozen 4
      have oz := hB1.lt
      go_wp2_with fail
      generalize hS : World.setCell (World.setCell (World.setCell (World.setCell (World.setCell w1 _ _) _ _) _ _) _ _) _ _ = W9
      obtain ⟨O9, T9⟩ := own5 hB1 (.int .i64 x.kind) (.string x.text) (.int .i64 x.number) (.slice y1 x.names.length y2) (.slice y3 x.kids.length y4)
      rw [hS] at O9 T9
      clear hS
      have p0 : W9.cell? ⟨w.heap.size, 0, none⟩ = some (.int .i64 x.kind) := O9.cell 0
      have p1 : W9.cell? ⟨w.heap.size, 1, none⟩ = some (.string x.text) := O9.cell 1
      have p2 : W9.cell? ⟨w.heap.size, 2, none⟩ = some (.int .i64 x.number) := O9.cell 2
      have p3 : W9.cell? ⟨w.heap.size, 3, none⟩ = some (.slice y1 x.names.length y2) := O9.cell 3
      have p4 : W9.cell? ⟨w.heap.size, 4, none⟩ = some (.slice y3 x.kids.length y4) := O9.cell 4
      have pz := O9.lt
      have FIN : RSGot B tb to_ cap _ ts w a b (fun n => pUnary ts n a) (.returned (.tuple #[.agg #[.int .i64 x.kind, .string x.text, .int .i64 x.number, .slice y1 x.names.length y2, .slice y3 x.kids.length y4], .bool s])) W9 := ⟨x, _, fp, s, j, _, rfl, HR1.out.touch T9 (fun k hk hm => by have := HF.out k hk; simp at hm; omega), fun k hk => by have := HF.out k hk; omega, HP.out.late HP1.out T9 (fun k hk => by simp at hk; omega), HG.out, HS.out, haj, HT1.out.late2 T9 (fun k hk => by simp at hk; omega)⟩
      exact bodyPost_ret (v := .tuple #[.agg #[.int .i64 x.kind, .string x.text, .int .i64 x.number, .slice y1 x.names.length y2, .slice y3 x.kids.length y4], .bool s]) (by simp [results, Tryz.results102, go_sem, p0, p1, p2, p3, p4, pz]) rfl FIN
    rw [hb] at HI
    have HI2 := Lib.hid HI
    have hjt := kind_lt (by decide) hb
    have htz := HPj.out.txt j
    have HTK := Lib.hid (fun (W : World) (hp : Prs 48 B tb to_ cap ao ts W (j) false) => rneedk_yes W hp 1 (by decide) hb)
    have HTD2 : Hid (Todo b (fun n => pUnary ts n a) false (fun n => pUn ts n (eMsg (tkT ts j) [x]) true (j + 1))) := Lib.hid (HTD.out.step (fun n => by rw [pUn, if_pos hb]))
    clear HTD hb HI
    go_wp2_with fail
    refine HI2.out.mono ?_
    rintro e w1 ⟨rfl, hx⟩
    have hO1 := hO.ext hx
    have hB1 := hB.ext hx
    have HR1 := Lib.hid (HR.out.ext hx)
    have HP1 := Lib.hid (HPj.out.ext hx)
    have HT1 := Lib.hid (HT.out.trans (Touch.of_ext hx [B]))
    have hs1 := hx.size
    clear hO hB HR HPj HT c0 c1 c2 zB hx HI2
    obtain ⟨tx, htx⟩ : ∃ t, tkT ts j = t := ⟨_, rfl⟩
    rw [htx] at HTK HTD2 htz
    clear htx
    have c0 := HP1.out.own.cell 0
    have zB := HP1.out.own.lt
    have q0 : w1.cell? ⟨eb, 0, none⟩ = some (.int .i64 x.kind) := hO1.cell 0
    have qf0 := hO1.frozen 0
    have q1 : w1.cell? ⟨eb, 1, none⟩ = some (.string x.text) := hO1.cell 1
    have qf1 := hO1.frozen 1
    have q2 : w1.cell? ⟨eb, 2, none⟩ = some (.int .i64 x.number) := hO1.cell 2
    have qf2 := hO1.frozen 2
    have q3 : w1.cell? ⟨eb, 3, none⟩ = some (.slice y1 x.names.length y2) := hO1.cell 3
    have qf3 := hO1.frozen 3
    have q4 : w1.cell? ⟨eb, 4, none⟩ = some (.slice y3 x.kids.length y4) := hO1.cell 4
    have qf4 := hO1.frozen 4
    have qz := hO1.lt
    have HQ : Hid (∀ W w7, Ext w1 W → Touch W w7 [B] → Own w7 eb 25 #[.int .i64 x.kind, .string x.text, .int .i64 x.number, .slice y1 x.names.length y2, .slice y3 x.kids.length y4]) := Lib.hid fun W w7 hW hT => (hO1.ext hW).touch' hT (by simpa using hebB)
    have HRQ : Hid (∀ W w7, Ext w1 W → Touch W w7 [B] → RepF w7 x.d [.int .i64 x.kind, .string x.text, .int .i64 x.number, .slice y1 x.names.length y2, .slice y3 x.kids.length y4] fp) := Lib.hid fun W w7 hW hT => (HR1.out.ext hW).touch hT (fun k hk hm => by have := HF.out k hk; simp at hm; omega)
    have HBQ : Hid (∀ W w7, Ext w1 W → Touch W w7 [B] → Own w7 w.heap.size 25 #[.int .i64 0, .string ⟨#[]⟩, .int .i64 0, .slice none 0 0, .slice none 0 0]) := Lib.hid fun W w7 hW hT => (hB1.ext hW).touch' hT (by simp; omega)
    have HTQ : Hid (∀ W w7, Ext w1 W → Touch W w7 [B] → Touch w w7 [B]) := Lib.hid fun W w7 hW hT => (HT1.out.trans (Touch.of_ext hW [B])).trans hT
    go_upto_region 4 with fail
    go_region_law ((go_simp; go_wp2_with ((first
      | (have R7x := R7; refine (l3Send_any (l := []) (ao := none) (cap := 0) tx R7x (rep_nilX _) (by simp)).mono ?_; rintro e w8 ⟨cs8, fp8, rfl, R8, F8, X8⟩; obtain ⟨z1, z2, z3, z4, rfl⟩ := fld5 R8; have OE8 := OE7.ext X8; have m0 : w8.cell? ⟨eb, 0, none⟩ = some (.int .i64 x.kind) := OE8.cell 0; have mf0 := OE8.frozen 0; have m1 : w8.cell? ⟨eb, 1, none⟩ = some (.string x.text) := OE8.cell 1; have mf1 := OE8.frozen 1; have m2 : w8.cell? ⟨eb, 2, none⟩ = some (.int .i64 x.number) := OE8.cell 2; have mf2 := OE8.frozen 2; have m3 : w8.cell? ⟨eb, 3, none⟩ = some (.slice y1 x.names.length y2) := OE8.cell 3; have mf3 := OE8.frozen 3; have m4 : w8.cell? ⟨eb, 4, none⟩ = some (.slice y3 x.kids.length y4) := OE8.cell 4; have mf4 := OE8.frozen 4; have mz := OE8.lt)
      | (refine (HTK.out _ (HP1.out.ext (by first | exact Ext.drew (Ext.refl _) | exact Ext.refl _))).mono ?_; rintro e w7 ⟨rfl, K7, T7⟩; have OE7 := HQ.out _ _ (by first | exact Ext.drew (Ext.refl _) | exact Ext.refl _) T7; have R7 := HRQ.out _ _ (by first | exact Ext.drew (Ext.refl _) | exact Ext.refl _) T7; have B7 := HBQ.out _ _ (by first | exact Ext.drew (Ext.refl _) | exact Ext.refl _) T7; have T07 := HTQ.out _ _ (by first | exact Ext.drew (Ext.refl _) | exact Ext.refl _) T7; have k0 : w7.cell? ⟨eb, 0, none⟩ = some (.int .i64 x.kind) := OE7.cell 0; have kf0 := OE7.frozen 0; have k1 : w7.cell? ⟨eb, 1, none⟩ = some (.string x.text) := OE7.cell 1; have kf1 := OE7.frozen 1; have k2 : w7.cell? ⟨eb, 2, none⟩ = some (.int .i64 x.number) := OE7.cell 2; have kf2 := OE7.frozen 2; have k3 : w7.cell? ⟨eb, 3, none⟩ = some (.slice y1 x.names.length y2) := OE7.cell 3; have kf3 := OE7.frozen 3; have k4 : w7.cell? ⟨eb, 4, none⟩ = some (.slice y3 x.kids.length y4) := OE7.cell 4; have kf4 := OE7.frozen 4; have kz := OE7.lt)))))
    all_goals
      have hz8 := X8.size
      generalize hS : World.setCell (World.setCell (World.setCell (World.setCell (World.setCell w8 _ _) _ _) _ _) _ _) _ _ = W9
      obtain ⟨O9, T9⟩ := own5 OE8 (.int .i64 (eMsg tx [x]).kind) (.string (eMsg tx [x]).text) (.int .i64 (eMsg tx [x]).number) (.slice z1 (eMsg tx [x]).names.length z2) (.slice z3 (eMsg tx [x]).kids.length z4)
      rw [hS] at O9 T9
      clear hS
      have hF9 : ∀ k, k ∈ fp8 → w.heap.size < k ∧ k ≠ eb := fun k hk => by
        rcases F8 k hk with h | h | h
        · exact HF.out k h
        · cases h
        · have := kz; omega
      have HF9 := Lib.hid hF9
      have R9 := R8.touch T9 (fun k hk hm => (hF9 k hk).2 (by simpa using hm))
      have P9 := HP.out.late (K7.ext X8) T9 (fun k hk => by simp at hk; omega)
      have B9 := (B7.ext X8).touch' T9 (by simp; omega)
      have T09 := (T07.trans (Touch.of_ext X8 [B])).late2 T9 (fun k hk => by simp at hk; omega)
      have HP9 := Lib.hid P9
      have HT9 := Lib.hid T09
      clear hF9 R8 F8 X8 OE8 K7 T7 OE7 B7 T07 P9 T09 T9 k0 kf0 m0 mf0 k1 kf1 m1 mf1 k2 kf2 m2 mf2 k3 kf3 m3 mf3 k4 kf4 m4 mf4 kz mz R7
      go_wp2_with fail
      refine ⟨⟨eMsg tx [x], _, fp8, true, j + 1, false, rfl, O9, R9, HF9, HP9.out, HTD2, Lib.hid (fun _ => by simp [eMsg]), by omega, B9, HT9.out⟩, ?_⟩
      rw [placeOf_eq HPM.out, placeOf_eq HP9.out]; omega

set_option maxHeartbeats 8000000 in
set_option maxRecDepth 100000 in
theorem rbinary_at {B tb to_ cap : Nat} {ao : Option Addr} {ts : List MToken} {a : Nat} (HUN : ∀ a', a ≤ a' → RUnAt B tb to_ cap ao ts a') : RBinAt B tb to_ cap ao ts a := by
  intro w b h ha
  have HP := Lib.hid h
  have hln := h.len
  have hrb := h.own.lt
  have HUN := Lib.hid HUN
  have HC := Lib.hid (fun (W : World) (hW : Ext w W) => HUN.out a (Nat.le_refl _) W b (h.ext hW) ha)
  clear h
  go_enter Tryz.func57, Tryz.ntmps57
  go_upto_region 1 with fail
  generalize hS : World.alloc w _ = W1
  have x1 : Ext w W1 := by rw [← hS]; exact (Ext.refl _).alloc _
  have O1 : Own W1 w.heap.size 25 #[.int .i64 0, .string ⟨#[]⟩, .int .i64 0, .slice none 0 0, .slice none 0 0] := by rw [← hS]; exact own_new w _ _
  clear hS
  go_wp2_with fail
  refine (HC.out _ x1).mono ?_
  rintro e w2 ⟨x, cs, fp, s0, a', b', rfl, hr, hf, hp, hg, hs0, hm, hT⟩
  have O2 := O1.touch' hT (by simp; omega)
  have hs1 := x1.size
  have hs2 := hT.size
  have hzo := O1.lt
  obtain ⟨y1, y2, y3, y4, rfl⟩ := fld5 hr
  go_wp2_with fail
  generalize hS : World.alloc w2 _ = W3
  have x3 : Ext w2 W3 := by rw [← hS]; exact (Ext.refl _).alloc _
  have OE : Own W3 w2.heap.size 25 #[.int .i64 x.kind, .string x.text, .int .i64 x.number, .slice y1 x.names.length y2, .slice y3 x.kids.length y4] := by rw [← hS]; exact own_new w2 _ _
  have O3 := O2.ext x3
  have HP3 := Lib.hid (hp.ext x3)
  have HR3 := Lib.hid (hr.ext x3)
  have HF3 : Hid (∀ k, k ∈ fp → w.heap.size < k ∧ k ≠ w2.heap.size) := Lib.hid fun k hk => by
    have h1 := hf k hk
    have h2 := hr.lt _ k hk
    omega
  have HT3 := Lib.hid (((Touch.of_ext x1 [B]).trans hT).trans (Touch.of_ext x3 [B]))
  have H0 := Lib.hid ((Todo.refl b (fun n => pBinary ts n a)).call hg (g := fun n r => pBin ts n r.1 r.2.1 r.2.2) (fun n => by rw [pBinary]))
  have HS0 := Lib.hid hs0
  clear HC hs0
  have hebr : w.heap.size < w2.heap.size := by omega
  have hebB : ¬ w2.heap.size = B := by omega
  clear hr hf hp hg hT O1 O2 hS x3 hs1 hs2 hzo x1
  generalize hbe : w2.heap.size = eb at *
  clear hbe
  go_loopw [5] (fun sv wr => ∃ (x : MExpr) (cs : List Value) (fp : List Nat) (s : Bool) (j : Nat) (bj : Bool), sv = .bool s ∧ Own wr eb 25 cs.toArray ∧ RepF wr x.d cs fp ∧ Hid (∀ k, k ∈ fp → w.heap.size < k ∧ k ≠ eb) ∧ Prs 48 B tb to_ cap ao ts wr (j) bj ∧ Hid (Todo b (fun n => pBinary ts n a) bj (fun n => pBin ts n x s j)) ∧ Hid (s = true → x.kids ≠ []) ∧ a ≤ j ∧ Own wr w.heap.size 25 #[.int .i64 0, .string ⟨#[]⟩, .int .i64 0, .slice none 0 0, .slice none 0 0] ∧ Touch w wr [B]) (fun _ wr => ts.length + 1 - placeOf B wr)
  case atStart => exact ⟨x, _, fp, s0, a', b', rfl, OE, HR3.out, HF3, HP3.out, H0, HS0, hm, O3, HT3.out⟩
  case round =>
    clear OE O3 HP3 HR3 HF3 HT3 H0 HS0
    obtain ⟨x, cs, fp, s, j, bj, rfl, hO, hr, HF, hp, HTD, HS, haj, hB, hT⟩ := hrel
    obtain ⟨y1, y2, y3, y4, rfl⟩ := fld5 hr
    have HR := Lib.hid hr
    have HPj := Lib.hid hp
    have HPM := Lib.hid hp
    have HT := Lib.hid hT
    obtain ⟨c0, c1, c2⟩ := hp.cells
    have zB := lt_of_cell c0
    have hjl := hp.le
    clear hr hp hT
    cases bj
    rotate_left
    · have HG : Hid (Got b (fun n => pBinary ts n a) true (x, s, j)) := Lib.hid (HTD.out.dead _)
      clear HTD
      have q0 : wr.cell? ⟨eb, 0, none⟩ = some (.int .i64 x.kind) := hO.cell 0
      have qf0 := hO.frozen 0
      have q1 : wr.cell? ⟨eb, 1, none⟩ = some (.string x.text) := hO.cell 1
      have qf1 := hO.frozen 1
      have q2 : wr.cell? ⟨eb, 2, none⟩ = some (.int .i64 x.number) := hO.cell 2
      have qf2 := hO.frozen 2
      have q3 : wr.cell? ⟨eb, 3, none⟩ = some (.slice y1 x.names.length y2) := hO.cell 3
      have qf3 := hO.frozen 3
      have q4 : wr.cell? ⟨eb, 4, none⟩ = some (.slice y3 x.kids.length y4) := hO.cell 4
      have qf4 := hO.frozen 4
      have qz := hO.lt
      have o0 : wr.cell? ⟨w.heap.size, 0, none⟩ = some (.int .i64 0) := hB.cell 0
      have of0 := hB.frozen 0
      have o1 : wr.cell? ⟨w.heap.size, 1, none⟩ = some (.string ⟨#[]⟩) := hB.cell 1
      have of1 := hB.frozen 1
      have o2 : wr.cell? ⟨w.heap.size, 2, none⟩ = some (.int .i64 0) := hB.cell 2
      have of2 := hB.frozen 2
      have o3 : wr.cell? ⟨w.heap.size, 3, none⟩ = some (.slice none 0 0) := hB.cell 3
      have of3 := hB.frozen 3
      have o4 : wr.cell? ⟨w.heap.size, 4, none⟩ = some (.slice none 0 0) := hB.cell 4
      have of4 := hB.frozen 4
      have oz := hB.lt
      go_wp2_with fail
      generalize hS : World.setCell (World.setCell (World.setCell (World.setCell (World.setCell wr _ _) _ _) _ _) _ _) _ _ = W9
      obtain ⟨O9, T9⟩ := own5 hB (.int .i64 x.kind) (.string x.text) (.int .i64 x.number) (.slice y1 x.names.length y2) (.slice y3 x.kids.length y4)
      rw [hS] at O9 T9
      clear hS
      have p0 : W9.cell? ⟨w.heap.size, 0, none⟩ = some (.int .i64 x.kind) := O9.cell 0
      have p1 : W9.cell? ⟨w.heap.size, 1, none⟩ = some (.string x.text) := O9.cell 1
      have p2 : W9.cell? ⟨w.heap.size, 2, none⟩ = some (.int .i64 x.number) := O9.cell 2
      have p3 : W9.cell? ⟨w.heap.size, 3, none⟩ = some (.slice y1 x.names.length y2) := O9.cell 3
      have p4 : W9.cell? ⟨w.heap.size, 4, none⟩ = some (.slice y3 x.kids.length y4) := O9.cell 4
      have pz := O9.lt
      have FIN : RSGot B tb to_ cap _ ts w a b (fun n => pBinary ts n a) (.returned (.tuple #[.agg #[.int .i64 x.kind, .string x.text, .int .i64 x.number, .slice y1 x.names.length y2, .slice y3 x.kids.length y4], .bool s])) W9 := ⟨x, _, fp, s, j, _, rfl, HR.out.touch T9 (fun k hk hm => by have := HF.out k hk; simp at hm; omega), fun k hk => by have := HF.out k hk; omega, HP.out.late HPj.out T9 (fun k hk => by simp at hk; omega), HG.out, HS.out, haj, HT.out.late2 T9 (fun k hk => by simp at hk; omega)⟩
      exact bodyPost_ret (v := .tuple #[.agg #[.int .i64 x.kind, .string x.text, .int .i64 x.number, .slice y1 x.names.length y2, .slice y3 x.kids.length y4], .bool s]) (by simp [results, Tryz.results57, go_sem, p0, p1, p2, p3, p4, pz]) rfl FIN
    have HI := risk_any _ HPj.out 6 (by decide)
    cases hb : tkB ts j 6
    · have HG : Hid (Got b (fun n => pBinary ts n a) false (x, s, j)) := Lib.hid (HTD.out.done (fun n => by rw [pBin, if_neg (by rw [hb]; decide)]))
      rw [hb] at HI
      have HI2 := Lib.hid HI
      clear HTD hb HI
      go_wp2_with fail
      refine HI2.out.mono ?_
      rintro e w1 ⟨rfl, hx⟩
      have hO1 := hO.ext hx
      have hB1 := hB.ext hx
      have HR1 := Lib.hid (HR.out.ext hx)
      have HP1 := Lib.hid (HPj.out.ext hx)
      have HT1 := Lib.hid (HT.out.trans (Touch.of_ext hx [B]))
      clear hO hB HR HPj HT c0 c1 c2 zB hx HI2
      have q0 : w1.cell? ⟨eb, 0, none⟩ = some (.int .i64 x.kind) := hO1.cell 0
      have qf0 := hO1.frozen 0
      have q1 : w1.cell? ⟨eb, 1, none⟩ = some (.string x.text) := hO1.cell 1
      have qf1 := hO1.frozen 1
      have q2 : w1.cell? ⟨eb, 2, none⟩ = some (.int .i64 x.number) := hO1.cell 2
      have qf2 := hO1.frozen 2
      have q3 : w1.cell? ⟨eb, 3, none⟩ = some (.slice y1 x.names.length y2) := hO1.cell 3
      have qf3 := hO1.frozen 3
      have q4 : w1.cell? ⟨eb, 4, none⟩ = some (.slice y3 x.kids.length y4) := hO1.cell 4
      have qf4 := hO1.frozen 4
      have qz := hO1.lt
      have o0 : w1.cell? ⟨w.heap.size, 0, none⟩ = some (.int .i64 0) := hB1.cell 0
      have of0 := hB1.frozen 0
      have o1 : w1.cell? ⟨w.heap.size, 1, none⟩ = some (.string ⟨#[]⟩) := hB1.cell 1
      have of1 := hB1.frozen 1
      have o2 : w1.cell? ⟨w.heap.size, 2, none⟩ = some (.int .i64 0) := hB1.cell 2
      have of2 := hB1.frozen 2
      have o3 : w1.cell? ⟨w.heap.size, 3, none⟩ = some (.slice none 0 0) := hB1.cell 3
      have of3 := hB1.frozen 3
      have o4 : w1.cell? ⟨w.heap.size, 4, none⟩ = some (.slice none 0 0) := hB1.cell 4
      have of4 := hB1.frozen 4
      have oz := hB1.lt
      go_wp2_with fail
      generalize hS : World.setCell (World.setCell (World.setCell (World.setCell (World.setCell w1 _ _) _ _) _ _) _ _) _ _ = W9
      obtain ⟨O9, T9⟩ := own5 hB1 (.int .i64 x.kind) (.string x.text) (.int .i64 x.number) (.slice y1 x.names.length y2) (.slice y3 x.kids.length y4)
      rw [hS] at O9 T9
      clear hS
      have p0 : W9.cell? ⟨w.heap.size, 0, none⟩ = some (.int .i64 x.kind) := O9.cell 0
      have p1 : W9.cell? ⟨w.heap.size, 1, none⟩ = some (.string x.text) := O9.cell 1
      have p2 : W9.cell? ⟨w.heap.size, 2, none⟩ = some (.int .i64 x.number) := O9.cell 2
      have p3 : W9.cell? ⟨w.heap.size, 3, none⟩ = some (.slice y1 x.names.length y2) := O9.cell 3
      have p4 : W9.cell? ⟨w.heap.size, 4, none⟩ = some (.slice y3 x.kids.length y4) := O9.cell 4
      have pz := O9.lt
      have FIN : RSGot B tb to_ cap _ ts w a b (fun n => pBinary ts n a) (.returned (.tuple #[.agg #[.int .i64 x.kind, .string x.text, .int .i64 x.number, .slice y1 x.names.length y2, .slice y3 x.kids.length y4], .bool s])) W9 := ⟨x, _, fp, s, j, _, rfl, HR1.out.touch T9 (fun k hk hm => by have := HF.out k hk; simp at hm; omega), fun k hk => by have := HF.out k hk; omega, HP.out.late HP1.out T9 (fun k hk => by simp at hk; omega), HG.out, HS.out, haj, HT1.out.late2 T9 (fun k hk => by simp at hk; omega)⟩
      exact bodyPost_ret (v := .tuple #[.agg #[.int .i64 x.kind, .string x.text, .int .i64 x.number, .slice y1 x.names.length y2, .slice y3 x.kids.length y4], .bool s]) (by simp [results, Tryz.results57, go_sem, p0, p1, p2, p3, p4, pz]) rfl FIN
    rw [hb] at HI
    have HI2 := Lib.hid HI
    have hjt := kind_lt (by decide) hb
    have htz := HPj.out.txt j
    have HTK := Lib.hid (fun (W : World) (hp : Prs 48 B tb to_ cap ao ts W (j) false) => rneedk_yes W hp 6 (by decide) hb)
    have HTD2 : Hid (Todo b (fun n => pBinary ts n a) false (fun n => (pUnary ts n (j + 1)).bind fun r => pBin ts n (eMsg (tkT ts j) [x, r.1]) true r.2.2)) := Lib.hid (HTD.out.step (fun n => by rw [pBin, if_pos hb]))
    clear HTD hb HI
    go_wp2_with fail
    refine HI2.out.mono ?_
    rintro e w1 ⟨rfl, hx⟩
    have hO1 := hO.ext hx
    have hB1 := hB.ext hx
    have HR1 := Lib.hid (HR.out.ext hx)
    have HP1 := Lib.hid (HPj.out.ext hx)
    have HT1 := Lib.hid (HT.out.trans (Touch.of_ext hx [B]))
    have hs1 := hx.size
    clear hO hB HR HPj HT c0 c1 c2 zB hx HI2
    obtain ⟨tx, htx⟩ : ∃ t, tkT ts j = t := ⟨_, rfl⟩
    rw [htx] at HTK HTD2 htz
    clear htx
    go_wp2_with fail
    refine (HTK.out w1 HP1.out).mono ?_
    rintro e w2 ⟨rfl, K2, T2⟩
    have hO2 := hO1.touch' T2 (by simpa using hebB)
    have hB2 := hB1.touch' T2 (by simp; omega)
    have HR2 := Lib.hid (HR1.out.touch T2 (fun k hk hm => by have := HF.out k hk; simp at hm; omega))
    have HT2 := Lib.hid (HT1.out.trans T2)
    have HU := Lib.hid (HUN.out (j + 1) (by omega) w2 false K2 (by omega))
    have hs2 := T2.size
    have hez := hO1.lt
    clear K2 T2 hO1 hB1 HR1 HT1 HP1 HTK
    go_wp2_with fail
    refine HU.out.mono ?_
    rintro e w3 ⟨y, ds, gp, s2, a2, b2, rfl, hr2, hf2, hp2, hg2, -, hm2, hT2⟩
    have HTD3 := Lib.hid (HTD2.out.call0 hg2 (g := fun n r => pBin ts n (eMsg tx [x, r.1]) true r.2.2) (fun n => rfl))
    have hO3 := hO2.touch' hT2 (by simpa using hebB)
    have hB3 := hB2.touch' hT2 (by simp; omega)
    have HR3 := Lib.hid (HR2.out.touch hT2 (fun k hk hm => by have := HF.out k hk; simp at hm; omega))
    have HT3 := Lib.hid (HT2.out.trans hT2)
    have HP3 := Lib.hid hp2
    have HS3 := Lib.hid hr2
    have HG3 := Lib.hid hf2
    have hs3 := hT2.size
    obtain ⟨u1, u2, u3, u4, rfl⟩ := fld5 hr2
    clear hr2 hf2 hp2 hg2 hT2 hO2 hB2 HR2 HT2 HU HTD2
    go_upto_region 5 with fail
    generalize hS : World.alloc w3 _ = W4
    have x4 : Ext w3 W4 := by rw [← hS]; exact (Ext.refl _).alloc _
    have OY : Own W4 w3.heap.size 25 #[.int .i64 y.kind, .string y.text, .int .i64 y.number, .slice u1 y.names.length u2, .slice u3 y.kids.length u4] := by rw [← hS]; exact own_new w3 _ _
    have hO4 := hO3.ext x4
    have hB4 := hB3.ext x4
    have HR4 := Lib.hid (HR3.out.ext x4)
    have HS4 := Lib.hid (HS3.out.ext x4)
    have HP4 := Lib.hid (HP3.out.ext x4)
    have HT4 := Lib.hid (HT3.out.trans (Touch.of_ext x4 [B]))
    have hs4 := x4.size
    clear hS x4 hO3 hB3 HR3 HS3 HP3 HT3
    generalize hyb : w3.heap.size = yb at *
    clear hyb
    have q0 : W4.cell? ⟨eb, 0, none⟩ = some (.int .i64 x.kind) := hO4.cell 0
    have qf0 := hO4.frozen 0
    have q1 : W4.cell? ⟨eb, 1, none⟩ = some (.string x.text) := hO4.cell 1
    have qf1 := hO4.frozen 1
    have q2 : W4.cell? ⟨eb, 2, none⟩ = some (.int .i64 x.number) := hO4.cell 2
    have qf2 := hO4.frozen 2
    have q3 : W4.cell? ⟨eb, 3, none⟩ = some (.slice y1 x.names.length y2) := hO4.cell 3
    have qf3 := hO4.frozen 3
    have q4 : W4.cell? ⟨eb, 4, none⟩ = some (.slice y3 x.kids.length y4) := hO4.cell 4
    have qf4 := hO4.frozen 4
    have qz := hO4.lt
    have r0 : W4.cell? ⟨yb, 0, none⟩ = some (.int .i64 y.kind) := OY.cell 0
    have r1 : W4.cell? ⟨yb, 1, none⟩ = some (.string y.text) := OY.cell 1
    have r2 : W4.cell? ⟨yb, 2, none⟩ = some (.int .i64 y.number) := OY.cell 2
    have r3 : W4.cell? ⟨yb, 3, none⟩ = some (.slice u1 y.names.length u2) := OY.cell 3
    have r4 : W4.cell? ⟨yb, 4, none⟩ = some (.slice u3 y.kids.length u4) := OY.cell 4
    have rz := OY.lt
    have x5 : Ext W4 (W4.alloc (.cells #[.int .i64 y.kind, .string y.text, .int .i64 y.number, .slice u1 y.names.length u2, .slice u3 y.kids.length u4] 25)) := (Ext.refl W4).alloc _
    have HSL := one_expr (HS4.out.ext x5) (own_new W4 #[.int .i64 y.kind, .string y.text, .int .i64 y.number, .slice u1 y.names.length u2, .slice u3 y.kids.length u4] 25)
    have R5 := HR4.out.ext x5
    have hz5 := x5.size
    go_wp2_with ((refine (l3Send_any (l := [y]) (cap := 1) tx R5 HSL (by simp)).mono ?_; rintro e w8 ⟨cs8, fp8, rfl, R8, F8, X8⟩; obtain ⟨z1, z2, z3, z4, rfl⟩ := fld5 R8; have OE8 := (hO4.ext x5).ext X8; have m0 : w8.cell? ⟨eb, 0, none⟩ = some (.int .i64 x.kind) := OE8.cell 0; have mf0 := OE8.frozen 0; have m1 : w8.cell? ⟨eb, 1, none⟩ = some (.string x.text) := OE8.cell 1; have mf1 := OE8.frozen 1; have m2 : w8.cell? ⟨eb, 2, none⟩ = some (.int .i64 x.number) := OE8.cell 2; have mf2 := OE8.frozen 2; have m3 : w8.cell? ⟨eb, 3, none⟩ = some (.slice y1 x.names.length y2) := OE8.cell 3; have mf3 := OE8.frozen 3; have m4 : w8.cell? ⟨eb, 4, none⟩ = some (.slice y3 x.kids.length y4) := OE8.cell 4; have mf4 := OE8.frozen 4; have mz := OE8.lt))
    have hz8 := X8.size
    generalize hS : World.setCell (World.setCell (World.setCell (World.setCell (World.setCell w8 _ _) _ _) _ _) _ _) _ _ = W9
    obtain ⟨O9, T9⟩ := own5 OE8 (.int .i64 (eMsg tx [x, y]).kind) (.string (eMsg tx [x, y]).text) (.int .i64 (eMsg tx [x, y]).number) (.slice z1 (eMsg tx [x, y]).names.length z2) (.slice z3 (eMsg tx [x, y]).kids.length z4)
    rw [hS] at O9 T9
    clear hS
    have hF9 : ∀ k, k ∈ fp8 → w.heap.size < k ∧ k ≠ eb := fun k hk => by
      rcases F8 k hk with h | h | h
      · exact HF.out k h
      · rcases List.mem_cons.1 h with rfl | h
        · omega
        · have := HG3.out k h; omega
      · omega
    have HF9 := Lib.hid hF9
    have R9 := R8.touch T9 (fun k hk hm => (hF9 k hk).2 (by simpa using hm))
    have P9 := HP.out.late ((HP4.out.ext x5).ext X8) T9 (fun k hk => by simp at hk; omega)
    have B9 := ((hB4.ext x5).ext X8).touch' T9 (by simp; omega)
    have T09 := ((HT4.out.trans (Touch.of_ext x5 [B])).trans (Touch.of_ext X8 [B])).late2 T9 (fun k hk => by simp at hk; omega)
    have HP9 := Lib.hid P9
    have HT9 := Lib.hid T09
    clear hF9 R8 F8 X8 OE8 P9 T09 T9 x5 HSL R5 hO4 hB4 HR4 HS4 HP4 HT4 OY m0 mf0 q0 qf0 r0 m1 mf1 q1 qf1 r1 m2 mf2 q2 qf2 r2 m3 mf3 q3 qf3 r3 m4 mf4 q4 qf4 r4 mz qz rz
    go_wp2_with fail
    refine ⟨⟨eMsg tx [x, y], _, fp8, true, a2, b2, rfl, O9, R9, HF9, HP9.out, HTD3, Lib.hid (fun _ => by simp [eMsg]), by omega, B9, HT9.out⟩, ?_⟩
    rw [placeOf_eq HPM.out, placeOf_eq HP9.out]; have := HP9.out.le; omega

end Go.Proofs.YtonmcoojgkgemaaGreatDoor
