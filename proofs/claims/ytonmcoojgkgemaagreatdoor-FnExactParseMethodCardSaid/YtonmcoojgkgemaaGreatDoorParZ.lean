/-
  CONTRACTS: the reference's parser: primary, unary, binary.
  Conditions: those that each lemma states.
-/
import Derived.Test.YtonmcoojgkgemaaGreatDoorRows
import Derived.Deep.DeepCutAuto
import Derived.Test.YtonmcoojgkgemaaGreatDoorParY
namespace Go.Proofs.YtonmcoojgkgemaaGreatDoor
open Go.RowKit
set_option linter.unusedSimpArgs false
set_option linter.unusedVariables false

/-- What a call of the reference's parser gives. -/
def RGot (B tb to_ cap : Nat) (ao : Option Addr) (ts : List MToken) (w : World) (a : Nat) (b : Bool) (F : Nat → Option (MExpr × Nat)) (e : Ending) (w' : World) : Prop :=
  ∃ x cs fp a' b', e = .returned (.agg (List.toArray cs)) ∧ RepF w' (MExpr.d x) cs fp ∧ (∀ k, k ∈ fp → w.heap.size ≤ k) ∧ Prs 48 B tb to_ cap ao ts w' (a') b' ∧ Got b F b' (x, a') ∧ a ≤ a' ∧ Touch w w' [B]
def RSGot (B tb to_ cap : Nat) (ao : Option Addr) (ts : List MToken) (w : World) (a : Nat) (b : Bool) (F : Nat → Option (MExpr × Bool × Nat)) (e : Ending) (w' : World) : Prop :=
  ∃ x cs fp s a' b', e = .returned (.tuple #[.agg (List.toArray cs), .bool s]) ∧ RepF w' (MExpr.d x) cs fp ∧ (∀ k, k ∈ fp → w.heap.size ≤ k) ∧ Prs 48 B tb to_ cap ao ts w' (a') b' ∧ Got b F b' (x, s, a') ∧ (s = true → x.kids ≠ []) ∧ a ≤ a' ∧ Touch w w' [B]
def RKGot (B tb to_ cap : Nat) (ao : Option Addr) (ts : List MToken) (w : World) (a : Nat) (b : Bool) (e : Ending) (w' : World) : Prop :=
  ∃ (s : ByteArray) (l : List MExpr) (v : Value) (a' : Nat) (b' : Bool), e = .returned (.tuple #[.string s, v]) ∧ AccX w.heap.size w' v l ∧ Prs 48 B tb to_ cap ao ts w' (a') b' ∧ Got b (fun n => pKeys ts n ⟨#[]⟩ [] a) b' (s, l, a') ∧ l.length + a ≤ a' ∧ s.size ≤ 100000 * (a' - a) ∧ (tkB ts a 2 = false → s = ⟨#[]⟩ ∧ a' = a ∧ b' = b ∧ l = []) ∧ (b = false → tkB ts a 2 = true → s.size ≠ 0) ∧ Touch w w' [B]
def RTGot (B tb to_ cap : Nat) (ao : Option Addr) (ts : List MToken) (w : World) (a : Nat) (b : Bool) (e : Ending) (w' : World) : Prop :=
  ∃ (l : List MExpr) (v : Value) (a' : Nat) (b' : Bool), e = .returned v ∧ AccX w.heap.size w' v l ∧ Prs 48 B tb to_ cap ao ts w' (a') b' ∧ Got b (fun n => pStmts ts n [] a) b' (l, a') ∧ l.length + a ≤ a' + 1 ∧ a ≤ a' ∧ Touch w w' [B]
def RExprAt (B tb to_ cap : Nat) (ao : Option Addr) (ts : List MToken) (a : Nat) : Prop := ∀ (w : World) (b : Bool), Prs 48 B tb to_ cap ao ts w (a) b → a ≤ ts.length → Calls Tryz.prog 22 #[.pointer (some ⟨B, 0, none⟩)] w (RGot B tb to_ cap ao ts w a b (fun n => pExpr ts n a))
def RBlockAt (B tb to_ cap : Nat) (ao : Option Addr) (ts : List MToken) (a : Nat) : Prop := ∀ (w : World) (b : Bool), Prs 48 B tb to_ cap ao ts w (a) b → Calls Tryz.prog 144 #[.pointer (some ⟨B, 0, none⟩)] w (RGot B tb to_ cap ao ts w a b (fun n => pBlock ts n a))
def RPrimAt (B tb to_ cap : Nat) (ao : Option Addr) (ts : List MToken) (a : Nat) : Prop := ∀ (w : World) (b : Bool), Prs 48 B tb to_ cap ao ts w (a) b → a ≤ ts.length → Calls Tryz.prog 135 #[.pointer (some ⟨B, 0, none⟩)] w (RGot B tb to_ cap ao ts w a b (fun n => pPrim ts n a))
def RUnAt (B tb to_ cap : Nat) (ao : Option Addr) (ts : List MToken) (a : Nat) : Prop := ∀ (w : World) (b : Bool), Prs 48 B tb to_ cap ao ts w (a) b → a ≤ ts.length → Calls Tryz.prog 102 #[.pointer (some ⟨B, 0, none⟩)] w (RSGot B tb to_ cap ao ts w a b (fun n => pUnary ts n a))
def RBinAt (B tb to_ cap : Nat) (ao : Option Addr) (ts : List MToken) (a : Nat) : Prop := ∀ (w : World) (b : Bool), Prs 48 B tb to_ cap ao ts w (a) b → a ≤ ts.length → Calls Tryz.prog 57 #[.pointer (some ⟨B, 0, none⟩)] w (RSGot B tb to_ cap ao ts w a b (fun n => pBinary ts n a))
def RKeyAt (B tb to_ cap : Nat) (ao : Option Addr) (ts : List MToken) (a : Nat) : Prop := ∀ (w : World) (b : Bool), Prs 48 B tb to_ cap ao ts w (a) b → Calls Tryz.prog 58 #[.pointer (some ⟨B, 0, none⟩)] w (RKGot B tb to_ cap ao ts w a b)
def RMsgAt (B tb to_ cap : Nat) (ao : Option Addr) (ts : List MToken) (a : Nat) : Prop := ∀ (w : World) (b : Bool), Prs 48 B tb to_ cap ao ts w (a) b → Calls Tryz.prog 60 #[.pointer (some ⟨B, 0, none⟩)] w (RGot B tb to_ cap ao ts w a b (fun n => pMsg ts n a))
def RStmAt (B tb to_ cap : Nat) (ao : Option Addr) (ts : List MToken) (a : Nat) : Prop := ∀ (w : World) (b : Bool), Prs 48 B tb to_ cap ao ts w (a) b → Calls Tryz.prog 44 #[.pointer (some ⟨B, 0, none⟩)] w (RTGot B tb to_ cap ao ts w a b)

set_option maxHeartbeats 8000000 in
set_option maxRecDepth 100000 in
theorem rprim_at {B tb to_ cap : Nat} {ao : Option Addr} {ts : List MToken} {a : Nat} (HE : RExprAt B tb to_ cap ao ts (a + 1)) (HB : RBlockAt B tb to_ cap ao ts (a + 1)) : RPrimAt B tb to_ cap ao ts a := by
  intro w b h ha
  have HP := Lib.hid h
  have hln := h.len
  have hrb := h.own.lt
  have HE := Lib.hid HE
  have HB := Lib.hid HB
  go_enter Tryz.func135, Tryz.ntmps135
  go_upto_region 1 with fail
  generalize hS : World.alloc w _ = W1
  have x1 : Ext w W1 := by rw [← hS]; exact (Ext.refl _).alloc _
  have O1 : Own W1 w.heap.size 25 #[.int .i64 0, .string ⟨#[]⟩, .int .i64 0, .slice none 0 0, .slice none 0 0] := by rw [← hS]; exact own_new w _ _
  clear hS
  have HP1 := Lib.hid (HP.out.ext x1)
  obtain ⟨c0, c1, c2⟩ := HP1.out.cells
  have zB := lt_of_cell c0
  have f1 := HP1.out.own.frozen 1
  have f2 := HP1.out.own.frozen 2
  have hro := O1.lt
  clear h
  by_cases hl : a < ts.length
  rotate_left
  · have hd : decide ((ts.length : Int) ≤ a) = true := decide_eq_true (by omega)
    have hd2 : decide (ts.length ≤ a) = true := decide_eq_true (by omega)
    have nk : ∀ k : Int, k ≠ 0 → tkB ts a k = false := fun k hk => by rw [tkB_eq hk, (tkK_none (by omega)).1]; simpa using fun h => hk h.symm
    have nx : ∀ s, tkxB ts a 7 s = false := fun s => by rw [tkxB_eq (by decide), (tkK_none (by omega)).1]; rfl
    have HG : Hid (Got b (fun n => pPrim ts n a) true ((⟨0, ⟨#[]⟩, 0, [], []⟩ : MExpr), a)) := Lib.hid (Got.bad _ (Ev.step (g := fun _ => none) (fun n => by rw [pPrim, if_neg (by rw [nk 1 (by decide)]; decide), if_neg (by rw [nk 3 (by decide)]; decide), if_neg (by rw [nk 4 (by decide)]; decide), if_neg (by rw [nk 5 (by decide)]; decide), if_neg (by rw [nx]; decide), if_neg (by rw [nx]; decide)]) (Ev.const _)))
    clear nk nx
    go_region
    go_upto_region 3 with fail
    obtain ⟨K2, T2⟩ := HP1.out.setBad
    replace K2 := K2.ext (Ext.drew (Ext.refl _))
    replace T2 := T2.trans (Touch.of_ext (Ext.drew (Ext.refl _)) [B])
    generalize hS : World.drew (World.setCell W1 _ _) = W2 at *
    have x1d := x1
    have O2 := O1.touch' T2 (by simp; omega)
    have HP2 := Lib.hid K2
    have HT2 := Lib.hid ((Touch.of_ext x1d [B]).trans T2)
    clear hS K2 T2 c0 c1 c2 zB f1 f2 O1 HP1 x1 x1d
    have o0 : W2.cell? ⟨w.heap.size, 0, none⟩ = some (.int .i64 0) := O2.cell 0
    have of0 := O2.frozen 0
    have o1 : W2.cell? ⟨w.heap.size, 1, none⟩ = some (.string ⟨#[]⟩) := O2.cell 1
    have of1 := O2.frozen 1
    have o2 : W2.cell? ⟨w.heap.size, 2, none⟩ = some (.int .i64 0) := O2.cell 2
    have of2 := O2.frozen 2
    have o3 : W2.cell? ⟨w.heap.size, 3, none⟩ = some (.slice none 0 0) := O2.cell 3
    have of3 := O2.frozen 3
    have o4 : W2.cell? ⟨w.heap.size, 4, none⟩ = some (.slice none 0 0) := O2.cell 4
    have of4 := O2.frozen 4
    have oz := O2.lt
    go_wp2_with fail
    generalize hS : World.setCell (World.setCell (World.setCell (World.setCell (World.setCell W2 _ _) _ _) _ _) _ _) _ _ = W9
    obtain ⟨O9, T9⟩ := own5 O2 (.int .i64 0) (.string ⟨#[]⟩) (.int .i64 0) (.slice none 0 0) (.slice none 0 0)
    rw [hS] at O9 T9
    clear hS
    have p0 : W9.cell? ⟨w.heap.size, 0, none⟩ = some (.int .i64 0) := O9.cell 0
    have p1 : W9.cell? ⟨w.heap.size, 1, none⟩ = some (.string ⟨#[]⟩) := O9.cell 1
    have p2 : W9.cell? ⟨w.heap.size, 2, none⟩ = some (.int .i64 0) := O9.cell 2
    have p3 : W9.cell? ⟨w.heap.size, 3, none⟩ = some (.slice none 0 0) := O9.cell 3
    have p4 : W9.cell? ⟨w.heap.size, 4, none⟩ = some (.slice none 0 0) := O9.cell 4
    have pz := O9.lt
    have FIN : RGot B tb to_ cap _ ts w a b (fun n => pPrim ts n a) (.returned (.agg #[.int .i64 0, .string ⟨#[]⟩, .int .i64 0, .slice none 0 0, .slice none 0 0])) W9 := ⟨⟨0, ⟨#[]⟩, 0, [], []⟩, _, [], a, true, rfl, leaf_rep _ _ _ _, (fun k hk => nomatch hk), HP.out.late HP2.out T9 (fun k hk => by simp at hk; omega), HG.out, by omega, HT2.out.late2 T9 (fun k hk => by simp at hk; omega)⟩
    exact bodyPost_ret (v := .agg #[.int .i64 0, .string ⟨#[]⟩, .int .i64 0, .slice none 0 0, .slice none 0 0]) (by simp [results, Tryz.results135, go_sem, p0, p1, p2, p3, p4, pz]) rfl FIN
  have hd : decide ((ts.length : Int) ≤ a) = false := decide_eq_false (by omega)
  have hd2 : decide (ts.length ≤ a) = false := decide_eq_false (by omega)
  have hl' : (a : Int) < ts.length := by omega
  have ha0 : (0 : Int) ≤ a := by omega
  have HN0 : Hid (tkK ts a ≠ 3 → tkN ts a = 0) := Lib.hid (fun hk => HP1.out.num0 hk)
  obtain ⟨rfl, t0, t1, t2⟩ := HP1.out.at hl
  have zt := lt_of_cell t0
  obtain ⟨kd, hkd⟩ : ∃ x, tkK ts a = x := ⟨_, rfl⟩
  obtain ⟨tx, htx⟩ : ∃ x, tkT ts a = x := ⟨_, rfl⟩
  obtain ⟨nm, hnm⟩ : ∃ x, tkN ts a = x := ⟨_, rfl⟩
  rw [hkd] at t0 HN0
  rw [htx] at t1
  rw [hnm] at t2 HN0
  have HKD := Lib.hid hkd
  have HTX := Lib.hid htx
  have HNM := Lib.hid hnm
  clear hkd htx hnm
  go_region
  go_wp2_with fail
  go_region
  go_upto_region 5 with fail
  generalize hS : World.drew (World.drew (World.alloc W1 _)) = W3
  have x13 : Ext W1 W3 := by rw [← hS]; exact (((Ext.refl _).alloc _).drew).drew
  have OT : Own W3 W1.heap.size 84 #[.int .i64 kd, .string tx, .int .i64 nm] := by rw [← hS]; exact ((own_new W1 _ _).ext (Ext.drew (Ext.refl _))).ext (Ext.drew (Ext.refl _))
  have O3 := O1.ext x13
  have HP3 := Lib.hid (HP1.out.ext x13)
  have HT3 := Lib.hid (Touch.of_ext (x1.trans x13) [B])
  have hs3 := x13.size
  have hs1 := x1.size
  clear hS x13 x1 O1 HP1 c0 c1 c2 zB f1 f2 t0 t1 t2 zt
  obtain ⟨c0, c1, c2⟩ := HP3.out.cells
  have zB := lt_of_cell c0
  have f1 := HP3.out.own.frozen 1
  go_upto_region 6 with fail
  generalize hS : World.setCell W3 _ _ = W4
  obtain ⟨K4, T4⟩ := HP3.out.setAt (a + 1) (by omega) (fun _ => by omega)
  rw [show ((a + 1 : Nat) : Int) = (a : Int) + 1 by omega, hS] at K4 T4
  have O4 := O3.touch' T4 (by simp; omega)
  have OT4 := OT.touch' T4 (by simp; omega)
  have HP4 := Lib.hid K4
  have HT4 := Lib.hid (HT3.out.trans T4)
  have hs4 := T4.size
  clear hS K4 T4 O3 OT c0 c1 c2 zB f1 HP3 HT3
  generalize hbt : W1.heap.size = bt at *
  clear hbt
  have o0 : W4.cell? ⟨w.heap.size, 0, none⟩ = some (.int .i64 0) := O4.cell 0
  have of0 := O4.frozen 0
  have o1 : W4.cell? ⟨w.heap.size, 1, none⟩ = some (.string ⟨#[]⟩) := O4.cell 1
  have of1 := O4.frozen 1
  have o2 : W4.cell? ⟨w.heap.size, 2, none⟩ = some (.int .i64 0) := O4.cell 2
  have of2 := O4.frozen 2
  have o3 : W4.cell? ⟨w.heap.size, 3, none⟩ = some (.slice none 0 0) := O4.cell 3
  have of3 := O4.frozen 3
  have o4 : W4.cell? ⟨w.heap.size, 4, none⟩ = some (.slice none 0 0) := O4.cell 4
  have of4 := O4.frozen 4
  have oz := O4.lt
  have t0 : W4.cell? ⟨bt, 0, none⟩ = some (.int .i64 kd) := OT4.cell 0
  have t1 : W4.cell? ⟨bt, 1, none⟩ = some (.string tx) := OT4.cell 1
  have t2 : W4.cell? ⟨bt, 2, none⟩ = some (.int .i64 nm) := OT4.cell 2
  have tz := OT4.lt
  by_cases k1 : kd = 1
  · have TB : Hid (tkB ts a 1 = true) := Lib.hid ((kind_eq (by decide)).2 (by rw [HKD.out]; exact k1))
    have s1 := int_eq k1
    clear k1
    go_wp2_with fail
    generalize hS : World.setCell (World.setCell (World.setCell (World.setCell (World.setCell W4 _ _) _ _) _ _) _ _) _ _ = W9
    obtain ⟨O9, T9⟩ := own5 O4 (.int .i64 4) (.string tx) (.int .i64 0) (.slice none 0 0) (.slice none 0 0)
    rw [hS] at O9 T9
    clear hS
    have p0 : W9.cell? ⟨w.heap.size, 0, none⟩ = some (.int .i64 4) := O9.cell 0
    have p1 : W9.cell? ⟨w.heap.size, 1, none⟩ = some (.string tx) := O9.cell 1
    have p2 : W9.cell? ⟨w.heap.size, 2, none⟩ = some (.int .i64 0) := O9.cell 2
    have p3 : W9.cell? ⟨w.heap.size, 3, none⟩ = some (.slice none 0 0) := O9.cell 3
    have p4 : W9.cell? ⟨w.heap.size, 4, none⟩ = some (.slice none 0 0) := O9.cell 4
    have pz := O9.lt
    have FIN : RGot B tb to_ cap _ ts w a b (fun n => pPrim ts n a) (.returned (.agg #[.int .i64 4, .string tx, .int .i64 0, .slice none 0 0, .slice none 0 0])) W9 := ⟨eName tx, _, [], a + 1, b, rfl, leaf_rep _ _ _ _, (fun k hk => nomatch hk), HP.out.late HP4.out T9 (fun k hk => by simp at hk; omega), Got.ok (Ev.step (g := fun _ => some (eName tx, a + 1)) (fun n => by
      rw [pPrim]
      rw [if_pos TB.out, HTX.out]) (Ev.const _)), by omega, HT4.out.late2 T9 (fun k hk => by simp at hk; omega)⟩
    exact bodyPost_ret (v := .agg #[.int .i64 4, .string tx, .int .i64 0, .slice none 0 0, .slice none 0 0]) (by simp [results, Tryz.results135, go_sem, p0, p1, p2, p3, p4, pz]) rfl FIN
  have s1 := int_ne k1
  have NB1 : Hid (tkB ts a 1 = false) := Lib.hid (by
    cases hh : tkB ts a 1
    · rfl
    · exact absurd (by rw [← HKD.out]; exact (kind_eq (by decide)).1 hh) k1)
  clear k1
  by_cases k3 : kd = 3
  · have TB : Hid (tkB ts a 3 = true) := Lib.hid ((kind_eq (by decide)).2 (by rw [HKD.out]; exact k3))
    have s3 := int_eq k3
    clear k3
    go_wp2_with fail
    generalize hS : World.setCell (World.setCell (World.setCell (World.setCell (World.setCell W4 _ _) _ _) _ _) _ _) _ _ = W9
    obtain ⟨O9, T9⟩ := own5 O4 (.int .i64 1) (.string ⟨#[]⟩) (.int .i64 nm) (.slice none 0 0) (.slice none 0 0)
    rw [hS] at O9 T9
    clear hS
    have p0 : W9.cell? ⟨w.heap.size, 0, none⟩ = some (.int .i64 1) := O9.cell 0
    have p1 : W9.cell? ⟨w.heap.size, 1, none⟩ = some (.string ⟨#[]⟩) := O9.cell 1
    have p2 : W9.cell? ⟨w.heap.size, 2, none⟩ = some (.int .i64 nm) := O9.cell 2
    have p3 : W9.cell? ⟨w.heap.size, 3, none⟩ = some (.slice none 0 0) := O9.cell 3
    have p4 : W9.cell? ⟨w.heap.size, 4, none⟩ = some (.slice none 0 0) := O9.cell 4
    have pz := O9.lt
    have FIN : RGot B tb to_ cap _ ts w a b (fun n => pPrim ts n a) (.returned (.agg #[.int .i64 1, .string ⟨#[]⟩, .int .i64 nm, .slice none 0 0, .slice none 0 0])) W9 := ⟨eInt nm, _, [], a + 1, b, rfl, leaf_rep _ _ _ _, (fun k hk => nomatch hk), HP.out.late HP4.out T9 (fun k hk => by simp at hk; omega), Got.ok (Ev.step (g := fun _ => some (eInt nm, a + 1)) (fun n => by
      rw [pPrim]
      rw [if_neg (by rw [NB1.out]; decide)]
      rw [if_pos TB.out, HNM.out]) (Ev.const _)), by omega, HT4.out.late2 T9 (fun k hk => by simp at hk; omega)⟩
    exact bodyPost_ret (v := .agg #[.int .i64 1, .string ⟨#[]⟩, .int .i64 nm, .slice none 0 0, .slice none 0 0]) (by simp [results, Tryz.results135, go_sem, p0, p1, p2, p3, p4, pz]) rfl FIN
  have s3 := int_ne k3
  have NB3 : Hid (tkB ts a 3 = false) := Lib.hid (by
    cases hh : tkB ts a 3
    · rfl
    · exact absurd (by rw [← HKD.out]; exact (kind_eq (by decide)).1 hh) k3)
  have n0 := HN0.out k3
  clear k3
  subst n0
  by_cases k4 : kd = 4
  · have TB : Hid (tkB ts a 4 = true) := Lib.hid ((kind_eq (by decide)).2 (by rw [HKD.out]; exact k4))
    have s4 := int_eq k4
    clear k4
    go_wp2_with fail
    generalize hS : World.setCell (World.setCell (World.setCell (World.setCell (World.setCell W4 _ _) _ _) _ _) _ _) _ _ = W9
    obtain ⟨O9, T9⟩ := own5 O4 (.int .i64 2) (.string tx) (.int .i64 0) (.slice none 0 0) (.slice none 0 0)
    rw [hS] at O9 T9
    clear hS
    have p0 : W9.cell? ⟨w.heap.size, 0, none⟩ = some (.int .i64 2) := O9.cell 0
    have p1 : W9.cell? ⟨w.heap.size, 1, none⟩ = some (.string tx) := O9.cell 1
    have p2 : W9.cell? ⟨w.heap.size, 2, none⟩ = some (.int .i64 0) := O9.cell 2
    have p3 : W9.cell? ⟨w.heap.size, 3, none⟩ = some (.slice none 0 0) := O9.cell 3
    have p4 : W9.cell? ⟨w.heap.size, 4, none⟩ = some (.slice none 0 0) := O9.cell 4
    have pz := O9.lt
    have FIN : RGot B tb to_ cap _ ts w a b (fun n => pPrim ts n a) (.returned (.agg #[.int .i64 2, .string tx, .int .i64 0, .slice none 0 0, .slice none 0 0])) W9 := ⟨eText tx, _, [], a + 1, b, rfl, leaf_rep _ _ _ _, (fun k hk => nomatch hk), HP.out.late HP4.out T9 (fun k hk => by simp at hk; omega), Got.ok (Ev.step (g := fun _ => some (eText tx, a + 1)) (fun n => by
      rw [pPrim]
      rw [if_neg (by rw [NB1.out]; decide)]
      rw [if_neg (by rw [NB3.out]; decide)]
      rw [if_pos TB.out, HTX.out]) (Ev.const _)), by omega, HT4.out.late2 T9 (fun k hk => by simp at hk; omega)⟩
    exact bodyPost_ret (v := .agg #[.int .i64 2, .string tx, .int .i64 0, .slice none 0 0, .slice none 0 0]) (by simp [results, Tryz.results135, go_sem, p0, p1, p2, p3, p4, pz]) rfl FIN
  have s4 := int_ne k4
  have NB4 : Hid (tkB ts a 4 = false) := Lib.hid (by
    cases hh : tkB ts a 4
    · rfl
    · exact absurd (by rw [← HKD.out]; exact (kind_eq (by decide)).1 hh) k4)
  clear k4
  by_cases k5 : kd = 5
  · have TB : Hid (tkB ts a 5 = true) := Lib.hid ((kind_eq (by decide)).2 (by rw [HKD.out]; exact k5))
    have s5 := int_eq k5
    clear k5
    go_wp2_with fail
    generalize hS : World.setCell (World.setCell (World.setCell (World.setCell (World.setCell W4 _ _) _ _) _ _) _ _) _ _ = W9
    obtain ⟨O9, T9⟩ := own5 O4 (.int .i64 3) (.string tx) (.int .i64 0) (.slice none 0 0) (.slice none 0 0)
    rw [hS] at O9 T9
    clear hS
    have p0 : W9.cell? ⟨w.heap.size, 0, none⟩ = some (.int .i64 3) := O9.cell 0
    have p1 : W9.cell? ⟨w.heap.size, 1, none⟩ = some (.string tx) := O9.cell 1
    have p2 : W9.cell? ⟨w.heap.size, 2, none⟩ = some (.int .i64 0) := O9.cell 2
    have p3 : W9.cell? ⟨w.heap.size, 3, none⟩ = some (.slice none 0 0) := O9.cell 3
    have p4 : W9.cell? ⟨w.heap.size, 4, none⟩ = some (.slice none 0 0) := O9.cell 4
    have pz := O9.lt
    have FIN : RGot B tb to_ cap _ ts w a b (fun n => pPrim ts n a) (.returned (.agg #[.int .i64 3, .string tx, .int .i64 0, .slice none 0 0, .slice none 0 0])) W9 := ⟨eSym tx, _, [], a + 1, b, rfl, leaf_rep _ _ _ _, (fun k hk => nomatch hk), HP.out.late HP4.out T9 (fun k hk => by simp at hk; omega), Got.ok (Ev.step (g := fun _ => some (eSym tx, a + 1)) (fun n => by
      rw [pPrim]
      rw [if_neg (by rw [NB1.out]; decide)]
      rw [if_neg (by rw [NB3.out]; decide)]
      rw [if_neg (by rw [NB4.out]; decide)]
      rw [if_pos TB.out, HTX.out]) (Ev.const _)), by omega, HT4.out.late2 T9 (fun k hk => by simp at hk; omega)⟩
    exact bodyPost_ret (v := .agg #[.int .i64 3, .string tx, .int .i64 0, .slice none 0 0, .slice none 0 0]) (by simp [results, Tryz.results135, go_sem, p0, p1, p2, p3, p4, pz]) rfl FIN
  have s5 := int_ne k5
  have NB5 : Hid (tkB ts a 5 = false) := Lib.hid (by
    cases hh : tkB ts a 5
    · rfl
    · exact absurd (by rw [← HKD.out]; exact (kind_eq (by decide)).1 hh) k5)
  clear k5
  by_cases hlp : tkxB ts a 7 lparM = true
  · have HB_ := Lib.hid hlp
    obtain ⟨e1, e2⟩ := (tok_eq (by decide)).1 hlp
    rw [HKD.out] at e1
    rw [HTX.out] at e2
    replace e2 : tx = ⟨#[40]⟩ := e2
    subst e1
    subst e2
    clear hlp
    go_wp2_with fail
    refine (HE.out W4 b HP4.out (by omega)).mono ?_
    rintro e w5 ⟨x, cs, fp, a', b', rfl, hr, hf, hp, hg, hm, hT⟩
    have O5 := O4.touch' hT (by simp; omega)
    have HT5 := Lib.hid (HT4.out.trans hT)
    have hs5 := hT.size
    have HR5 := Lib.hid hr
    have HF := Lib.hid hf
    obtain ⟨y1, y2, y3, y4, rfl⟩ := fld5 hr
    have HP5 := Lib.hid hp
    have HTD := Lib.hid ((Todo.refl b (fun n => pPrim ts n a)).call hg (g := fun n r => if tkxB ts r.2 7 rparM = true then some (r.1, r.2 + 1) else none) (fun n => by rw [pPrim]; rw [if_neg (by rw [NB1.out]; decide), if_neg (by rw [NB3.out]; decide), if_neg (by rw [NB4.out]; decide), if_neg (by rw [NB5.out]; decide), if_pos HB_.out]))
    clear hr hf hp hg hT O4 OT4 t0 t1 t2 tz o0 of0 o1 of1 o2 of2 o3 of3 o4 of4 oz
    go_upto_region 17 with fail
    generalize hS : World.alloc w5 _ = W6
    have x6 : Ext w5 W6 := by rw [← hS]; exact (Ext.refl _).alloc _
    have OE : Own W6 w5.heap.size 25 #[.int .i64 x.kind, .string x.text, .int .i64 x.number, .slice y1 x.names.length y2, .slice y3 x.kids.length y4] := by rw [← hS]; exact own_new w5 _ _
    have hs6 := O5.lt
    have O6 := O5.ext x6
    have HP6 := Lib.hid (HP5.out.ext x6)
    have HT6 := Lib.hid (HT5.out.trans (Touch.of_ext x6 [B]))
    have HR6 := Lib.hid (HR5.out.ext x6)
    have hs7 := x6.size
    clear hS O5 x6 HP5 HT5 HR5
    generalize hbe : w5.heap.size = be at *
    clear hbe
    cases he : tkxB ts a' 7 rparM
    · have HW := Lib.hid (rneedx_no W6 HP6.out 7 ⟨#[41]⟩ (by decide) (ne1 _) he)
      have HG : Hid (Got b (fun n => pPrim ts n a) true (x, a')) := Lib.hid (HTD.out.fail _ (fun n => by show (if tkxB ts a' 7 rparM = true then some (x, a' + 1) else none) = none; rw [if_neg (by rw [he]; decide)]))
      clear he HTD
      go_wp2_with fail
      refine HW.out.mono ?_
      rintro e w7 ⟨rfl, K7, T7⟩
      have O7 := O6.touch' T7 (by simp; omega)
      have OE7 := OE.touch' T7 (by simp; omega)
      have HP7 := Lib.hid K7
      have HT7 := Lib.hid (HT6.out.trans T7)
      have HR7 := Lib.hid (HR6.out.touch T7 (fun k hk hm => by have := HF.out k hk; simp at hm; omega))
      clear K7 T7 O6 OE HR6 HP6 HT6
      have o0 : w7.cell? ⟨w.heap.size, 0, none⟩ = some (.int .i64 0) := O7.cell 0
      have of0 := O7.frozen 0
      have o1 : w7.cell? ⟨w.heap.size, 1, none⟩ = some (.string ⟨#[]⟩) := O7.cell 1
      have of1 := O7.frozen 1
      have o2 : w7.cell? ⟨w.heap.size, 2, none⟩ = some (.int .i64 0) := O7.cell 2
      have of2 := O7.frozen 2
      have o3 : w7.cell? ⟨w.heap.size, 3, none⟩ = some (.slice none 0 0) := O7.cell 3
      have of3 := O7.frozen 3
      have o4 : w7.cell? ⟨w.heap.size, 4, none⟩ = some (.slice none 0 0) := O7.cell 4
      have of4 := O7.frozen 4
      have oz := O7.lt
      have q0 : w7.cell? ⟨be, 0, none⟩ = some (.int .i64 x.kind) := OE7.cell 0
      have q1 : w7.cell? ⟨be, 1, none⟩ = some (.string x.text) := OE7.cell 1
      have q2 : w7.cell? ⟨be, 2, none⟩ = some (.int .i64 x.number) := OE7.cell 2
      have q3 : w7.cell? ⟨be, 3, none⟩ = some (.slice y1 x.names.length y2) := OE7.cell 3
      have q4 : w7.cell? ⟨be, 4, none⟩ = some (.slice y3 x.kids.length y4) := OE7.cell 4
      have qz := OE7.lt
      go_wp2_with fail
      generalize hS : World.setCell (World.setCell (World.setCell (World.setCell (World.setCell w7 _ _) _ _) _ _) _ _) _ _ = W9
      obtain ⟨O9, T9⟩ := own5 O7 (.int .i64 x.kind) (.string x.text) (.int .i64 x.number) (.slice y1 x.names.length y2) (.slice y3 x.kids.length y4)
      rw [hS] at O9 T9
      clear hS
      have p0 : W9.cell? ⟨w.heap.size, 0, none⟩ = some (.int .i64 x.kind) := O9.cell 0
      have p1 : W9.cell? ⟨w.heap.size, 1, none⟩ = some (.string x.text) := O9.cell 1
      have p2 : W9.cell? ⟨w.heap.size, 2, none⟩ = some (.int .i64 x.number) := O9.cell 2
      have p3 : W9.cell? ⟨w.heap.size, 3, none⟩ = some (.slice y1 x.names.length y2) := O9.cell 3
      have p4 : W9.cell? ⟨w.heap.size, 4, none⟩ = some (.slice y3 x.kids.length y4) := O9.cell 4
      have pz := O9.lt
      have FIN : RGot B tb to_ cap _ ts w a b (fun n => pPrim ts n a) (.returned (.agg #[.int .i64 x.kind, .string x.text, .int .i64 x.number, .slice y1 x.names.length y2, .slice y3 x.kids.length y4])) W9 := ⟨x, _, fp, a', true, rfl, HR7.out.touch T9 (fun k hk hm => by have := HF.out k hk; simp at hm; omega), fun k hk => by have := HF.out k hk; omega, HP.out.late HP7.out T9 (fun k hk => by simp at hk; omega), HG.out, by omega, HT7.out.late2 T9 (fun k hk => by simp at hk; omega)⟩
      exact bodyPost_ret (v := .agg #[.int .i64 x.kind, .string x.text, .int .i64 x.number, .slice y1 x.names.length y2, .slice y3 x.kids.length y4]) (by simp [results, Tryz.results135, go_sem, p0, p1, p2, p3, p4, pz]) rfl FIN
    have HW := Lib.hid (rneedx_yes W6 HP6.out 7 ⟨#[41]⟩ (by decide) (ne1 _) he)
    have HG : Hid (Got b (fun n => pPrim ts n a) b' (x, a' + 1)) := Lib.hid (HTD.out.done (fun n => by show (if tkxB ts a' 7 rparM = true then some (x, a' + 1) else none) = some (x, a' + 1); rw [if_pos he]))
    clear he HTD
    go_wp2_with fail
    refine HW.out.mono ?_
    rintro e w7 ⟨rfl, K7, T7⟩
    have O7 := O6.touch' T7 (by simp; omega)
    have OE7 := OE.touch' T7 (by simp; omega)
    have HP7 := Lib.hid K7
    have HT7 := Lib.hid (HT6.out.trans T7)
    have HR7 := Lib.hid (HR6.out.touch T7 (fun k hk hm => by have := HF.out k hk; simp at hm; omega))
    clear K7 T7 O6 OE HR6 HP6 HT6
    have o0 : w7.cell? ⟨w.heap.size, 0, none⟩ = some (.int .i64 0) := O7.cell 0
    have of0 := O7.frozen 0
    have o1 : w7.cell? ⟨w.heap.size, 1, none⟩ = some (.string ⟨#[]⟩) := O7.cell 1
    have of1 := O7.frozen 1
    have o2 : w7.cell? ⟨w.heap.size, 2, none⟩ = some (.int .i64 0) := O7.cell 2
    have of2 := O7.frozen 2
    have o3 : w7.cell? ⟨w.heap.size, 3, none⟩ = some (.slice none 0 0) := O7.cell 3
    have of3 := O7.frozen 3
    have o4 : w7.cell? ⟨w.heap.size, 4, none⟩ = some (.slice none 0 0) := O7.cell 4
    have of4 := O7.frozen 4
    have oz := O7.lt
    have q0 : w7.cell? ⟨be, 0, none⟩ = some (.int .i64 x.kind) := OE7.cell 0
    have q1 : w7.cell? ⟨be, 1, none⟩ = some (.string x.text) := OE7.cell 1
    have q2 : w7.cell? ⟨be, 2, none⟩ = some (.int .i64 x.number) := OE7.cell 2
    have q3 : w7.cell? ⟨be, 3, none⟩ = some (.slice y1 x.names.length y2) := OE7.cell 3
    have q4 : w7.cell? ⟨be, 4, none⟩ = some (.slice y3 x.kids.length y4) := OE7.cell 4
    have qz := OE7.lt
    go_wp2_with fail
    generalize hS : World.setCell (World.setCell (World.setCell (World.setCell (World.setCell w7 _ _) _ _) _ _) _ _) _ _ = W9
    obtain ⟨O9, T9⟩ := own5 O7 (.int .i64 x.kind) (.string x.text) (.int .i64 x.number) (.slice y1 x.names.length y2) (.slice y3 x.kids.length y4)
    rw [hS] at O9 T9
    clear hS
    have p0 : W9.cell? ⟨w.heap.size, 0, none⟩ = some (.int .i64 x.kind) := O9.cell 0
    have p1 : W9.cell? ⟨w.heap.size, 1, none⟩ = some (.string x.text) := O9.cell 1
    have p2 : W9.cell? ⟨w.heap.size, 2, none⟩ = some (.int .i64 x.number) := O9.cell 2
    have p3 : W9.cell? ⟨w.heap.size, 3, none⟩ = some (.slice y1 x.names.length y2) := O9.cell 3
    have p4 : W9.cell? ⟨w.heap.size, 4, none⟩ = some (.slice y3 x.kids.length y4) := O9.cell 4
    have pz := O9.lt
    have FIN : RGot B tb to_ cap _ ts w a b (fun n => pPrim ts n a) (.returned (.agg #[.int .i64 x.kind, .string x.text, .int .i64 x.number, .slice y1 x.names.length y2, .slice y3 x.kids.length y4])) W9 := ⟨x, _, fp, a' + 1, b', rfl, HR7.out.touch T9 (fun k hk hm => by have := HF.out k hk; simp at hm; omega), fun k hk => by have := HF.out k hk; omega, HP.out.late HP7.out T9 (fun k hk => by simp at hk; omega), HG.out, by omega, HT7.out.late2 T9 (fun k hk => by simp at hk; omega)⟩
    exact bodyPost_ret (v := .agg #[.int .i64 x.kind, .string x.text, .int .i64 x.number, .slice y1 x.names.length y2, .slice y3 x.kids.length y4]) (by simp [results, Tryz.results135, go_sem, p0, p1, p2, p3, p4, pz]) rfl FIN
  have hnl := hlp
  by_cases hlp : tkxB ts a 7 lbrM = true
  · have HNL := Lib.hid hnl
    clear hnl
    have HB_ := Lib.hid hlp
    obtain ⟨e1, e2⟩ := (tok_eq (by decide)).1 hlp
    rw [HKD.out] at e1
    rw [HTX.out] at e2
    replace e2 : tx = ⟨#[91]⟩ := e2
    subst e1
    subst e2
    clear hlp
    go_wp2_with fail
    refine (HB.out W4 b HP4.out).mono ?_
    rintro e w5 ⟨x, cs, fp, a', b', rfl, hr, hf, hp, hg, hm, hT⟩
    have O5 := O4.touch' hT (by simp; omega)
    have HT5 := Lib.hid (HT4.out.trans hT)
    have hs5 := hT.size
    have HR5 := Lib.hid hr
    have HF := Lib.hid hf
    obtain ⟨y1, y2, y3, y4, rfl⟩ := fld5 hr
    have HP5 := Lib.hid hp
    have HG := Lib.hid (((Todo.refl b (fun n => pPrim ts n a)).step (H := fun n => pBlock ts n (a + 1)) (fun n => by rw [pPrim]; rw [if_neg (by rw [NB1.out]; decide), if_neg (by rw [NB3.out]; decide), if_neg (by rw [NB4.out]; decide), if_neg (by rw [NB5.out]; decide), if_neg HNL.out, if_pos HB_.out])).got hg)
    clear hr hf hp hg hT O4 OT4 t0 t1 t2 tz o0 of0 o1 of1 o2 of2 o3 of3 o4 of4 oz
    have o0 : w5.cell? ⟨w.heap.size, 0, none⟩ = some (.int .i64 0) := O5.cell 0
    have of0 := O5.frozen 0
    have o1 : w5.cell? ⟨w.heap.size, 1, none⟩ = some (.string ⟨#[]⟩) := O5.cell 1
    have of1 := O5.frozen 1
    have o2 : w5.cell? ⟨w.heap.size, 2, none⟩ = some (.int .i64 0) := O5.cell 2
    have of2 := O5.frozen 2
    have o3 : w5.cell? ⟨w.heap.size, 3, none⟩ = some (.slice none 0 0) := O5.cell 3
    have of3 := O5.frozen 3
    have o4 : w5.cell? ⟨w.heap.size, 4, none⟩ = some (.slice none 0 0) := O5.cell 4
    have of4 := O5.frozen 4
    have oz := O5.lt
    go_wp2_with fail
    generalize hS : World.setCell (World.setCell (World.setCell (World.setCell (World.setCell w5 _ _) _ _) _ _) _ _) _ _ = W9
    obtain ⟨O9, T9⟩ := own5 O5 (.int .i64 x.kind) (.string x.text) (.int .i64 x.number) (.slice y1 x.names.length y2) (.slice y3 x.kids.length y4)
    rw [hS] at O9 T9
    clear hS
    have p0 : W9.cell? ⟨w.heap.size, 0, none⟩ = some (.int .i64 x.kind) := O9.cell 0
    have p1 : W9.cell? ⟨w.heap.size, 1, none⟩ = some (.string x.text) := O9.cell 1
    have p2 : W9.cell? ⟨w.heap.size, 2, none⟩ = some (.int .i64 x.number) := O9.cell 2
    have p3 : W9.cell? ⟨w.heap.size, 3, none⟩ = some (.slice y1 x.names.length y2) := O9.cell 3
    have p4 : W9.cell? ⟨w.heap.size, 4, none⟩ = some (.slice y3 x.kids.length y4) := O9.cell 4
    have pz := O9.lt
    have FIN : RGot B tb to_ cap _ ts w a b (fun n => pPrim ts n a) (.returned (.agg #[.int .i64 x.kind, .string x.text, .int .i64 x.number, .slice y1 x.names.length y2, .slice y3 x.kids.length y4])) W9 := ⟨x, _, fp, a', b', rfl, HR5.out.touch T9 (fun k hk hm => by have := HF.out k hk; simp at hm; omega), fun k hk => by have := HF.out k hk; omega, HP.out.late HP5.out T9 (fun k hk => by simp at hk; omega), HG.out, by omega, HT5.out.late2 T9 (fun k hk => by simp at hk; omega)⟩
    exact bodyPost_ret (v := .agg #[.int .i64 x.kind, .string x.text, .int .i64 x.number, .slice y1 x.names.length y2, .slice y3 x.kids.length y4]) (by simp [results, Tryz.results135, go_sem, p0, p1, p2, p3, p4, pz]) rfl FIN
  have HB_ : Hid (tkxB ts a 7 lbrM = false) := Lib.hid (by simpa using hlp)
  have HNL : Hid (tkxB ts a 7 lparM = false) := Lib.hid (by simpa using hnl)
  clear hlp hnl
  have HG : Hid (Got b (fun n => pPrim ts n a) true ((⟨0, ⟨#[]⟩, 0, [], []⟩ : MExpr), a + 1)) := Lib.hid (Got.bad _ (Ev.step (g := fun _ => none) (fun n => by rw [pPrim]; rw [if_neg (by rw [NB1.out]; decide), if_neg (by rw [NB3.out]; decide), if_neg (by rw [NB4.out]; decide), if_neg (by rw [NB5.out]; decide), if_neg (by rw [HNL.out]; decide), if_neg (by rw [HB_.out]; decide)]) (Ev.const _)))
  obtain ⟨c0, c1, c2⟩ := HP4.out.cells
  have f2 := HP4.out.own.frozen 2
  have zB := lt_of_cell c0
  clear o0 of0 o1 of1 o2 of2 o3 of3 o4 of4 oz
  by_cases k7 : kd = 7
  · have u1 : (tx.toList == [40]) = false := str_ne' (l := [40]) (fun e => by
      have := (tok_eq (ts := ts) (a := a) (k := 7) (s := lparM) (by decide)).2 ⟨by rw [HKD.out]; exact k7, by rw [HTX.out]; exact e⟩
      rw [HNL.out] at this; cases this)
    have u2 : (tx.toList == [91]) = false := str_ne' (l := [91]) (fun e => by
      have := (tok_eq (ts := ts) (a := a) (k := 7) (s := lbrM) (by decide)).2 ⟨by rw [HKD.out]; exact k7, by rw [HTX.out]; exact e⟩
      rw [HB_.out] at this; cases this)
    have s7 := int_eq k7
    clear k7
    go_upto_region 22 with fail
    generalize hS2 : World.setCell W4 _ _ = W5
    obtain ⟨K5, T5⟩ := HP4.out.setBad
    rw [hS2] at K5 T5
    have O5 := O4.touch' T5 (by simp; omega)
    have HP5 := Lib.hid K5
    have HT5 := Lib.hid (HT4.out.trans T5)
    clear hS2 K5 T5 c0 c1 c2 f2 zB
    have o0 : W5.cell? ⟨w.heap.size, 0, none⟩ = some (.int .i64 0) := O5.cell 0
    have of0 := O5.frozen 0
    have o1 : W5.cell? ⟨w.heap.size, 1, none⟩ = some (.string ⟨#[]⟩) := O5.cell 1
    have of1 := O5.frozen 1
    have o2 : W5.cell? ⟨w.heap.size, 2, none⟩ = some (.int .i64 0) := O5.cell 2
    have of2 := O5.frozen 2
    have o3 : W5.cell? ⟨w.heap.size, 3, none⟩ = some (.slice none 0 0) := O5.cell 3
    have of3 := O5.frozen 3
    have o4 : W5.cell? ⟨w.heap.size, 4, none⟩ = some (.slice none 0 0) := O5.cell 4
    have of4 := O5.frozen 4
    have oz := O5.lt
    go_wp2_with fail
    generalize hS : World.setCell (World.setCell (World.setCell (World.setCell (World.setCell W5 _ _) _ _) _ _) _ _) _ _ = W9
    obtain ⟨O9, T9⟩ := own5 O5 (.int .i64 0) (.string ⟨#[]⟩) (.int .i64 0) (.slice none 0 0) (.slice none 0 0)
    rw [hS] at O9 T9
    clear hS
    have p0 : W9.cell? ⟨w.heap.size, 0, none⟩ = some (.int .i64 0) := O9.cell 0
    have p1 : W9.cell? ⟨w.heap.size, 1, none⟩ = some (.string ⟨#[]⟩) := O9.cell 1
    have p2 : W9.cell? ⟨w.heap.size, 2, none⟩ = some (.int .i64 0) := O9.cell 2
    have p3 : W9.cell? ⟨w.heap.size, 3, none⟩ = some (.slice none 0 0) := O9.cell 3
    have p4 : W9.cell? ⟨w.heap.size, 4, none⟩ = some (.slice none 0 0) := O9.cell 4
    have pz := O9.lt
    have FIN : RGot B tb to_ cap _ ts w a b (fun n => pPrim ts n a) (.returned (.agg #[.int .i64 0, .string ⟨#[]⟩, .int .i64 0, .slice none 0 0, .slice none 0 0])) W9 := ⟨⟨0, ⟨#[]⟩, 0, [], []⟩, _, [], a + 1, true, rfl, leaf_rep _ _ _ _, (fun k hk => nomatch hk), HP.out.late HP5.out T9 (fun k hk => by simp at hk; omega), HG.out, by omega, HT5.out.late2 T9 (fun k hk => by simp at hk; omega)⟩
    exact bodyPost_ret (v := .agg #[.int .i64 0, .string ⟨#[]⟩, .int .i64 0, .slice none 0 0, .slice none 0 0]) (by simp [results, Tryz.results135, go_sem, p0, p1, p2, p3, p4, pz]) rfl FIN
  have s7 := int_ne k7
  clear k7
  go_upto_region 22 with fail
  generalize hS2 : World.setCell W4 _ _ = W5
  obtain ⟨K5, T5⟩ := HP4.out.setBad
  rw [hS2] at K5 T5
  have O5 := O4.touch' T5 (by simp; omega)
  have HP5 := Lib.hid K5
  have HT5 := Lib.hid (HT4.out.trans T5)
  clear hS2 K5 T5 c0 c1 c2 f2 zB
  have o0 : W5.cell? ⟨w.heap.size, 0, none⟩ = some (.int .i64 0) := O5.cell 0
  have of0 := O5.frozen 0
  have o1 : W5.cell? ⟨w.heap.size, 1, none⟩ = some (.string ⟨#[]⟩) := O5.cell 1
  have of1 := O5.frozen 1
  have o2 : W5.cell? ⟨w.heap.size, 2, none⟩ = some (.int .i64 0) := O5.cell 2
  have of2 := O5.frozen 2
  have o3 : W5.cell? ⟨w.heap.size, 3, none⟩ = some (.slice none 0 0) := O5.cell 3
  have of3 := O5.frozen 3
  have o4 : W5.cell? ⟨w.heap.size, 4, none⟩ = some (.slice none 0 0) := O5.cell 4
  have of4 := O5.frozen 4
  have oz := O5.lt
  go_wp2_with fail
  generalize hS : World.setCell (World.setCell (World.setCell (World.setCell (World.setCell W5 _ _) _ _) _ _) _ _) _ _ = W9
  obtain ⟨O9, T9⟩ := own5 O5 (.int .i64 0) (.string ⟨#[]⟩) (.int .i64 0) (.slice none 0 0) (.slice none 0 0)
  rw [hS] at O9 T9
  clear hS
  have p0 : W9.cell? ⟨w.heap.size, 0, none⟩ = some (.int .i64 0) := O9.cell 0
  have p1 : W9.cell? ⟨w.heap.size, 1, none⟩ = some (.string ⟨#[]⟩) := O9.cell 1
  have p2 : W9.cell? ⟨w.heap.size, 2, none⟩ = some (.int .i64 0) := O9.cell 2
  have p3 : W9.cell? ⟨w.heap.size, 3, none⟩ = some (.slice none 0 0) := O9.cell 3
  have p4 : W9.cell? ⟨w.heap.size, 4, none⟩ = some (.slice none 0 0) := O9.cell 4
  have pz := O9.lt
  have FIN : RGot B tb to_ cap _ ts w a b (fun n => pPrim ts n a) (.returned (.agg #[.int .i64 0, .string ⟨#[]⟩, .int .i64 0, .slice none 0 0, .slice none 0 0])) W9 := ⟨⟨0, ⟨#[]⟩, 0, [], []⟩, _, [], a + 1, true, rfl, leaf_rep _ _ _ _, (fun k hk => nomatch hk), HP.out.late HP5.out T9 (fun k hk => by simp at hk; omega), HG.out, by omega, HT5.out.late2 T9 (fun k hk => by simp at hk; omega)⟩
  exact bodyPost_ret (v := .agg #[.int .i64 0, .string ⟨#[]⟩, .int .i64 0, .slice none 0 0, .slice none 0 0]) (by simp [results, Tryz.results135, go_sem, p0, p1, p2, p3, p4, pz]) rfl FIN

end Go.Proofs.YtonmcoojgkgemaaGreatDoor
