/-
  SEVERAL TEXTS IN ONE: CONTRACTS: the reference's parser: primary, unary, binary; CONTRACTS: the reference's parser: unary, binary.
  Conditions: those that each lemma states.
-/
import Derived.Test.YtlcebafhbceejaaGreatDoorRows
import Derived.Deep.DeepCutAuto
import Derived.Deep.RegionHeldLaw
import Derived.Test.YtlcebafhbceejaaGreatDoorP24
import Derived.Test.YtlcebafhbceejaaGreatDoorP19
namespace Go.Proofs.YtlcebafhbceejaaGreatDoor
open Go.RowKit
set_option maxHeartbeats 8000000
set_option maxRecDepth 100000
set_option linter.unusedSimpArgs false
set_option linter.unusedVariables false
def RGot (B tb to_ cap : Nat) (ao : Option Addr) (ts : List MToken) (w : World) (a : Nat) (b : Bool) (F : Nat -> Option (MExpr × Nat)) (e : Ending) (w' : World) : Prop :=
 ∃ x cs fp a' b', e = .returned (.agg (List.toArray cs)) /\ RepF w' (MExpr.d x) cs fp /\ (∀ k, k ∈ fp -> w.heap.size <= k) /\ Prs 38 B tb to_ cap ao ts w' (a') b' /\ Got b F b' (x, a') /\ a <= a' /\ Touch w w' [B]
def RSGot (B tb to_ cap : Nat) (ao : Option Addr) (ts : List MToken) (w : World) (a : Nat) (b : Bool) (F : Nat -> Option (MExpr × Bool × Nat)) (e : Ending) (w' : World) : Prop :=
 ∃ x cs fp s a' b', e = .returned (.tuple #[.agg (List.toArray cs), .bool s]) /\ RepF w' (MExpr.d x) cs fp /\ (∀ k, k ∈ fp -> w.heap.size <= k) /\ Prs 38 B tb to_ cap ao ts w' (a') b' /\ Got b F b' (x, s, a') /\ (s = true -> x.kids ≠ []) /\ a <= a' /\ Touch w w' [B]
def RKGot (B tb to_ cap : Nat) (ao : Option Addr) (ts : List MToken) (w : World) (a : Nat) (b : Bool) (e : Ending) (w' : World) : Prop :=
 ∃ (s : ByteArray) (l : List MExpr) (v : Value) (a' : Nat) (b' : Bool), e = .returned (.tuple #[.string s, v]) /\ AccX w.heap.size w' v l /\ Prs 38 B tb to_ cap ao ts w' (a') b' /\ Got b (fun n => pKeys ts n ⟨#[]⟩ [] a) b' (s, l, a') /\ l.length + a <= a' /\ s.size <= 100000 * (a' - a) /\ (tkB ts a 2 = false -> s = ⟨#[]⟩ /\ a' = a /\ b' = b /\ l = []) /\ (b = false -> tkB ts a 2 = true -> s.size ≠ 0) /\ Touch w w' [B]
def RTGot (B tb to_ cap : Nat) (ao : Option Addr) (ts : List MToken) (w : World) (a : Nat) (b : Bool) (e : Ending) (w' : World) : Prop :=
 ∃ (l : List MExpr) (v : Value) (a' : Nat) (b' : Bool), e = .returned v /\ AccX w.heap.size w' v l /\ Prs 38 B tb to_ cap ao ts w' (a') b' /\ Got b (fun n => pStmts ts n [] a) b' (l, a') /\ l.length + a <= a' + 1 /\ a <= a' /\ Touch w w' [B]
def RExprAt (B tb to_ cap : Nat) (ao : Option Addr) (ts : List MToken) (a : Nat) : Prop := ∀ (w : World) (b : Bool), Prs 38 B tb to_ cap ao ts w (a) b -> a <= ts.length -> Calls Tryz.prog 34 #[.pointer (some ⟨B, 0, none⟩)] w (RGot B tb to_ cap ao ts w a b (fun n => pExpr ts n a))
def RBlockAt (B tb to_ cap : Nat) (ao : Option Addr) (ts : List MToken) (a : Nat) : Prop := ∀ (w : World) (b : Bool), Prs 38 B tb to_ cap ao ts w (a) b -> Calls Tryz.prog 137 #[.pointer (some ⟨B, 0, none⟩)] w (RGot B tb to_ cap ao ts w a b (fun n => pBlock ts n a))
def RPrimAt (B tb to_ cap : Nat) (ao : Option Addr) (ts : List MToken) (a : Nat) : Prop := ∀ (w : World) (b : Bool), Prs 38 B tb to_ cap ao ts w (a) b -> a <= ts.length -> Calls Tryz.prog 128 #[.pointer (some ⟨B, 0, none⟩)] w (RGot B tb to_ cap ao ts w a b (fun n => pPrim ts n a))
def RUnAt (B tb to_ cap : Nat) (ao : Option Addr) (ts : List MToken) (a : Nat) : Prop := ∀ (w : World) (b : Bool), Prs 38 B tb to_ cap ao ts w (a) b -> a <= ts.length -> Calls Tryz.prog 111 #[.pointer (some ⟨B, 0, none⟩)] w (RSGot B tb to_ cap ao ts w a b (fun n => pUnary ts n a))
def RBinAt (B tb to_ cap : Nat) (ao : Option Addr) (ts : List MToken) (a : Nat) : Prop := ∀ (w : World) (b : Bool), Prs 38 B tb to_ cap ao ts w (a) b -> a <= ts.length -> Calls Tryz.prog 72 #[.pointer (some ⟨B, 0, none⟩)] w (RSGot B tb to_ cap ao ts w a b (fun n => pBinary ts n a))
def RKeyAt (B tb to_ cap : Nat) (ao : Option Addr) (ts : List MToken) (a : Nat) : Prop := ∀ (w : World) (b : Bool), Prs 38 B tb to_ cap ao ts w (a) b -> Calls Tryz.prog 73 #[.pointer (some ⟨B, 0, none⟩)] w (RKGot B tb to_ cap ao ts w a b)
def RMsgAt (B tb to_ cap : Nat) (ao : Option Addr) (ts : List MToken) (a : Nat) : Prop := ∀ (w : World) (b : Bool), Prs 38 B tb to_ cap ao ts w (a) b -> Calls Tryz.prog 75 #[.pointer (some ⟨B, 0, none⟩)] w (RGot B tb to_ cap ao ts w a b (fun n => pMsg ts n a))
def RStmAt (B tb to_ cap : Nat) (ao : Option Addr) (ts : List MToken) (a : Nat) : Prop := ∀ (w : World) (b : Bool), Prs 38 B tb to_ cap ao ts w (a) b -> Calls Tryz.prog 14 #[.pointer (some ⟨B, 0, none⟩)] w (RTGot B tb to_ cap ao ts w a b)
theorem rprim_at {B tb to_ cap : Nat} {ao : Option Addr} {ts : List MToken} {a : Nat} (HE : RExprAt B tb to_ cap ao ts (a + 1)) (HB : RBlockAt B tb to_ cap ao ts (a + 1)) : RPrimAt B tb to_ cap ao ts a := by
 intro w b h ha
 have HP := LH h
 have hln := h.len
 have hrb := h.own.lt
 have HE := LH HE
 have HB := LH HB
 go_enter Tryz.func128, Tryz.ntmps128
 go_upto_region 1 with fail
 generalize hS : World.alloc w _ = W1
 have x1 : Ext w W1 := by rw [<- hS]; exact (XR _).alloc _
 have O1 : Own W1 w.heap.size 70 #[.int .i64 0, .string ⟨#[]⟩, .int .i64 0, .slice none 0 0, .slice none 0 0] := by rw [<- hS]; exact own_new w _ _
 clear hS
 have HP1 := LH (HP.out.ext x1)
 obtain ⟨c0, c1, c2⟩ := HP1.out.cells
 have zB := lt_of_cell c0
 have f1 := HP1.out.own.f1
 have f2 := HP1.out.own.f2
 have hro := O1.lt
 clear h
 by_cases hl : a < ts.length
 rotate_left
 · have hd : decide ((ts.length : Int) <= a) = true := decide_eq_true (by omega)
   have hd2 : decide (ts.length <= a) = true := decide_eq_true (by omega)
   have nk : ∀ k : Int, k ≠ 0 -> tkB ts a k = false := fun k hk => by rw [tkB_eq hk, (tkK_none (by omega)).1]; simpa using fun h => hk h.symm
   have nx : ∀ s, tkxB ts a 7 s = false := fun s => by rw [tkxB_eq (by decide), (tkK_none (by omega)).1]; rfl
   have HG : Hid (Got b (fun n => pPrim ts n a) true ((⟨0, ⟨#[]⟩, 0, [], []⟩ : MExpr), a)) := LH (Got.bad _ (Ev.step (g := fun _ => none) (fun n => by rw [pPrim, if_neg (by rw [nk 1 (by decide)]; decide), if_neg (by rw [nk 3 (by decide)]; decide), if_neg (by rw [nk 4 (by decide)]; decide), if_neg (by rw [nk 5 (by decide)]; decide), if_neg (by rw [nx]; decide), if_neg (by rw [nx]; decide)]) (Ev.const _)))
   clear nk nx
   go_region
   go_upto_region 3 with fail
   obtain ⟨K2, T2⟩ := HP1.out.setBad
   replace K2 := K2.ext (Ext.drew (XR _))
   replace T2 := T2.trans (Touch.of_ext (Ext.drew (XR _)) [B])
   generalize hS : World.drew (World.setCell W1 _ _) = W2 at *
   have x1d := x1
   have O2 := O1.touch' T2 (by simp; omega)
   have HP2 := LH K2
   have HT2 := LH ((Touch.of_ext x1d [B]).trans T2)
   clear hS K2 T2 c0 c1 c2 zB f1 f2 O1 HP1 x1 x1d
   have o0 := O2.k0
   have of0 := O2.f0
   have o1 := O2.k1
   have of1 := O2.f1
   have o2 := O2.k2
   have of2 := O2.f2
   have o3 := O2.k3
   have of3 := O2.f3
   have o4 := O2.k4
   have of4 := O2.f4
   have oz := O2.lt
   go_wp2_with fail
   generalize hS : World.setCell (World.setCell (World.setCell (World.setCell (World.setCell W2 _ _) _ _) _ _) _ _) _ _ = W9
   obtain ⟨O9, T9⟩ := own5 O2 (.int .i64 0) (.string ⟨#[]⟩) (.int .i64 0) (.slice none 0 0) (.slice none 0 0)
   rw [hS] at O9 T9
   clear hS
   have p0 := O9.k0
   have p1 := O9.k1
   have p2 := O9.k2
   have p3 := O9.k3
   have p4 := O9.k4
   have pz := O9.lt
   have FIN : RGot B tb to_ cap _ ts w a b (fun n => pPrim ts n a) (.returned (.agg #[.int .i64 0, .string ⟨#[]⟩, .int .i64 0, .slice none 0 0, .slice none 0 0])) W9 := ⟨⟨0, ⟨#[]⟩, 0, [], []⟩, _, [], a, true, rfl, leaf_rep _ _ _ _, (fun k hk => nomatch hk), HP.out.late HP2.out T9 (fun k hk => by simp at hk; omega), HG.out, by omega, HT2.out.late2 T9 (fun k hk => by simp at hk; omega)⟩
   exact bodyPost_ret (v := .agg #[.int .i64 0, .string ⟨#[]⟩, .int .i64 0, .slice none 0 0, .slice none 0 0]) (by simp [results, Tryz.results128, go_sem, p0, p1, p2, p3, p4, pz]) rfl FIN
 have hd : decide ((ts.length : Int) <= a) = false := decide_eq_false (by omega)
 have hd2 : decide (ts.length <= a) = false := decide_eq_false (by omega)
 have hl' : (a : Int) < ts.length := by omega
 have ha0 : (0 : Int) <= a := by omega
 have HN0 : Hid (tkK ts a ≠ 3 -> tkN ts a = 0) := LH (fun hk => HP1.out.num0 hk)
 obtain ⟨rfl, t0, t1, t2⟩ := HP1.out.at hl
 have zt := lt_of_cell t0
 obtain ⟨kd, hkd⟩ : ∃ x, tkK ts a = x := ⟨_, rfl⟩
 obtain ⟨tx, htx⟩ : ∃ x, tkT ts a = x := ⟨_, rfl⟩
 obtain ⟨nm, hnm⟩ : ∃ x, tkN ts a = x := ⟨_, rfl⟩
 rw [hkd] at t0 HN0
 rw [htx] at t1
 rw [hnm] at t2 HN0
 have HKD := LH hkd
 have HTX := LH htx
 have HNM := LH hnm
 clear hkd htx hnm
 go_region
 go_wp2_with fail
 go_region
 go_upto_region 5 with fail
 generalize hS : World.drew (World.drew (World.alloc W1 _)) = W3
 have x13 : Ext W1 W3 := by rw [<- hS]; exact (((XR _).alloc _).drew).drew
 have OT : Own W3 W1.heap.size 64 #[.int .i64 kd, .string tx, .int .i64 nm] := by rw [<- hS]; exact ((own_new W1 _ _).ext (Ext.drew (XR _))).ext (Ext.drew (XR _))
 have O3 := O1.ext x13
 have HP3 := LH (HP1.out.ext x13)
 have HT3 := LH (Touch.of_ext (x1.trans x13) [B])
 have hs3 := x13.size
 have hs1 := x1.size
 clear hS x13 x1 O1 HP1 c0 c1 c2 zB f1 f2 t0 t1 t2 zt
 obtain ⟨c0, c1, c2⟩ := HP3.out.cells
 have zB := lt_of_cell c0
 have f1 := HP3.out.own.f1
 go_upto_region 6 with fail
 generalize hS : World.setCell W3 _ _ = W4
 obtain ⟨K4, T4⟩ := HP3.out.setAt (a + 1) (by omega) (fun _ => by omega)
 rw [show ((a + 1 : Nat) : Int) = (a : Int) + 1 by omega, hS] at K4 T4
 have O4 := O3.touch' T4 (by simp; omega)
 have OT4 := OT.touch' T4 (by simp; omega)
 have HP4 := LH K4
 have HT4 := LH (HT3.out.trans T4)
 have hs4 := T4.size
 clear hS K4 T4 O3 OT c0 c1 c2 zB f1 HP3 HT3
 generalize hbt : W1.heap.size = bt at *
 clear hbt
 have o0 := O4.k0
 have of0 := O4.f0
 have o1 := O4.k1
 have of1 := O4.f1
 have o2 := O4.k2
 have of2 := O4.f2
 have o3 := O4.k3
 have of3 := O4.f3
 have o4 := O4.k4
 have of4 := O4.f4
 have oz := O4.lt
 have t0 := OT4.k0
 have t1 := OT4.k1
 have t2 := OT4.k2
 have tz := OT4.lt
 by_cases k1 : kd = 1
 · have TB : Hid (tkB ts a 1 = true) := LH ((kind_eq (by decide)).2 (by rw [HKD.out]; exact k1))
   have s1 := int_eq k1
   clear k1
   go_wp2_with fail
   generalize hS : World.setCell (World.setCell (World.setCell (World.setCell (World.setCell W4 _ _) _ _) _ _) _ _) _ _ = W9
   obtain ⟨O9, T9⟩ := own5 O4 (.int .i64 4) (.string tx) (.int .i64 0) (.slice none 0 0) (.slice none 0 0)
   rw [hS] at O9 T9
   clear hS
   have p0 := O9.k0
   have p1 := O9.k1
   have p2 := O9.k2
   have p3 := O9.k3
   have p4 := O9.k4
   have pz := O9.lt
   have FIN : RGot B tb to_ cap _ ts w a b (fun n => pPrim ts n a) (.returned (.agg #[.int .i64 4, .string tx, .int .i64 0, .slice none 0 0, .slice none 0 0])) W9 := ⟨eName tx, _, [], a + 1, b, rfl, leaf_rep _ _ _ _, (fun k hk => nomatch hk), HP.out.late HP4.out T9 (fun k hk => by simp at hk; omega), Got.ok (Ev.step (g := fun _ => some (eName tx, a + 1)) (fun n => by
    rw [pPrim]
    rw [if_pos TB.out, HTX.out]) (Ev.const _)), by omega, HT4.out.late2 T9 (fun k hk => by simp at hk; omega)⟩
   exact bodyPost_ret (v := .agg #[.int .i64 4, .string tx, .int .i64 0, .slice none 0 0, .slice none 0 0]) (by simp [results, Tryz.results128, go_sem, p0, p1, p2, p3, p4, pz]) rfl FIN
 have s1 := int_ne k1
 have NB1 : Hid (tkB ts a 1 = false) := LH (by
  cases hh : tkB ts a 1
  · rfl
  · exact absurd (by rw [<- HKD.out]; exact (kind_eq (by decide)).1 hh) k1)
 clear k1
 by_cases k3 : kd = 3
 · have TB : Hid (tkB ts a 3 = true) := LH ((kind_eq (by decide)).2 (by rw [HKD.out]; exact k3))
   have s3 := int_eq k3
   clear k3
   go_wp2_with fail
   generalize hS : World.setCell (World.setCell (World.setCell (World.setCell (World.setCell W4 _ _) _ _) _ _) _ _) _ _ = W9
   obtain ⟨O9, T9⟩ := own5 O4 (.int .i64 1) (.string ⟨#[]⟩) (.int .i64 nm) (.slice none 0 0) (.slice none 0 0)
   rw [hS] at O9 T9
   clear hS
   have p0 := O9.k0
   have p1 := O9.k1
   have p2 := O9.k2
   have p3 := O9.k3
   have p4 := O9.k4
   have pz := O9.lt
   have FIN : RGot B tb to_ cap _ ts w a b (fun n => pPrim ts n a) (.returned (.agg #[.int .i64 1, .string ⟨#[]⟩, .int .i64 nm, .slice none 0 0, .slice none 0 0])) W9 := ⟨eInt nm, _, [], a + 1, b, rfl, leaf_rep _ _ _ _, (fun k hk => nomatch hk), HP.out.late HP4.out T9 (fun k hk => by simp at hk; omega), Got.ok (Ev.step (g := fun _ => some (eInt nm, a + 1)) (fun n => by
    rw [pPrim]
    rw [if_neg (by rw [NB1.out]; decide)]
    rw [if_pos TB.out, HNM.out]) (Ev.const _)), by omega, HT4.out.late2 T9 (fun k hk => by simp at hk; omega)⟩
   exact bodyPost_ret (v := .agg #[.int .i64 1, .string ⟨#[]⟩, .int .i64 nm, .slice none 0 0, .slice none 0 0]) (by simp [results, Tryz.results128, go_sem, p0, p1, p2, p3, p4, pz]) rfl FIN
 have s3 := int_ne k3
 have NB3 : Hid (tkB ts a 3 = false) := LH (by
  cases hh : tkB ts a 3
  · rfl
  · exact absurd (by rw [<- HKD.out]; exact (kind_eq (by decide)).1 hh) k3)
 have n0 := HN0.out k3
 clear k3
 subst n0
 by_cases k4 : kd = 4
 · have TB : Hid (tkB ts a 4 = true) := LH ((kind_eq (by decide)).2 (by rw [HKD.out]; exact k4))
   have s4 := int_eq k4
   clear k4
   go_wp2_with fail
   generalize hS : World.setCell (World.setCell (World.setCell (World.setCell (World.setCell W4 _ _) _ _) _ _) _ _) _ _ = W9
   obtain ⟨O9, T9⟩ := own5 O4 (.int .i64 2) (.string tx) (.int .i64 0) (.slice none 0 0) (.slice none 0 0)
   rw [hS] at O9 T9
   clear hS
   have p0 := O9.k0
   have p1 := O9.k1
   have p2 := O9.k2
   have p3 := O9.k3
   have p4 := O9.k4
   have pz := O9.lt
   have FIN : RGot B tb to_ cap _ ts w a b (fun n => pPrim ts n a) (.returned (.agg #[.int .i64 2, .string tx, .int .i64 0, .slice none 0 0, .slice none 0 0])) W9 := ⟨eText tx, _, [], a + 1, b, rfl, leaf_rep _ _ _ _, (fun k hk => nomatch hk), HP.out.late HP4.out T9 (fun k hk => by simp at hk; omega), Got.ok (Ev.step (g := fun _ => some (eText tx, a + 1)) (fun n => by
    rw [pPrim]
    rw [if_neg (by rw [NB1.out]; decide)]
    rw [if_neg (by rw [NB3.out]; decide)]
    rw [if_pos TB.out, HTX.out]) (Ev.const _)), by omega, HT4.out.late2 T9 (fun k hk => by simp at hk; omega)⟩
   exact bodyPost_ret (v := .agg #[.int .i64 2, .string tx, .int .i64 0, .slice none 0 0, .slice none 0 0]) (by simp [results, Tryz.results128, go_sem, p0, p1, p2, p3, p4, pz]) rfl FIN
 have s4 := int_ne k4
 have NB4 : Hid (tkB ts a 4 = false) := LH (by
  cases hh : tkB ts a 4
  · rfl
  · exact absurd (by rw [<- HKD.out]; exact (kind_eq (by decide)).1 hh) k4)
 clear k4
 by_cases k5 : kd = 5
 · have TB : Hid (tkB ts a 5 = true) := LH ((kind_eq (by decide)).2 (by rw [HKD.out]; exact k5))
   have s5 := int_eq k5
   clear k5
   go_wp2_with fail
   generalize hS : World.setCell (World.setCell (World.setCell (World.setCell (World.setCell W4 _ _) _ _) _ _) _ _) _ _ = W9
   obtain ⟨O9, T9⟩ := own5 O4 (.int .i64 3) (.string tx) (.int .i64 0) (.slice none 0 0) (.slice none 0 0)
   rw [hS] at O9 T9
   clear hS
   have p0 := O9.k0
   have p1 := O9.k1
   have p2 := O9.k2
   have p3 := O9.k3
   have p4 := O9.k4
   have pz := O9.lt
   have FIN : RGot B tb to_ cap _ ts w a b (fun n => pPrim ts n a) (.returned (.agg #[.int .i64 3, .string tx, .int .i64 0, .slice none 0 0, .slice none 0 0])) W9 := ⟨eSym tx, _, [], a + 1, b, rfl, leaf_rep _ _ _ _, (fun k hk => nomatch hk), HP.out.late HP4.out T9 (fun k hk => by simp at hk; omega), Got.ok (Ev.step (g := fun _ => some (eSym tx, a + 1)) (fun n => by
    rw [pPrim]
    rw [if_neg (by rw [NB1.out]; decide)]
    rw [if_neg (by rw [NB3.out]; decide)]
    rw [if_neg (by rw [NB4.out]; decide)]
    rw [if_pos TB.out, HTX.out]) (Ev.const _)), by omega, HT4.out.late2 T9 (fun k hk => by simp at hk; omega)⟩
   exact bodyPost_ret (v := .agg #[.int .i64 3, .string tx, .int .i64 0, .slice none 0 0, .slice none 0 0]) (by simp [results, Tryz.results128, go_sem, p0, p1, p2, p3, p4, pz]) rfl FIN
 have s5 := int_ne k5
 have NB5 : Hid (tkB ts a 5 = false) := LH (by
  cases hh : tkB ts a 5
  · rfl
  · exact absurd (by rw [<- HKD.out]; exact (kind_eq (by decide)).1 hh) k5)
 clear k5
 by_cases hlp : tkxB ts a 7 lparM = true
 · have HB_ := LH hlp
   obtain ⟨e1, e2⟩ := (tok_eq (by decide)).1 hlp
   rw [HKD.out] at e1
   rw [HTX.out] at e2
   replace e2 : tx = ⟨#[40]⟩ := e2
   subst e1
   subst e2
   clear hlp
   go_wp2_with fail
   refine (HE.out W4 b HP4.out (by omega)).mono ?_
   rintro e w5 ⟨x, cs, fp, a', b', rfl, hr, hf, hp, hg, hm, hT⟩
   have O5 := O4.touch' hT (by simp; omega)
   have HT5 := LH (HT4.out.trans hT)
   have hs5 := hT.size
   have HR5 := LH hr
   have HF := LH hf
   obtain ⟨y1, y2, y3, y4, rfl⟩ := fld5 hr
   have HP5 := LH hp
   have HTD := LH ((Todo.refl b (fun n => pPrim ts n a)).call hg (g := fun n r => if tkxB ts r.2 7 rparM = true then some (r.1, r.2 + 1) else none) (fun n => by rw [pPrim]; rw [if_neg (by rw [NB1.out]; decide), if_neg (by rw [NB3.out]; decide), if_neg (by rw [NB4.out]; decide), if_neg (by rw [NB5.out]; decide), if_pos HB_.out]))
   clear hr hf hp hg hT O4 OT4 t0 t1 t2 tz o0 of0 o1 of1 o2 of2 o3 of3 o4 of4 oz
   go_upto_region 17 with fail
   generalize hS : World.alloc w5 _ = W6
   have x6 : Ext w5 W6 := by rw [<- hS]; exact (XR _).alloc _
   have OE : Own W6 w5.heap.size 70 #[.int .i64 x.kind, .string x.text, .int .i64 x.number, .slice y1 x.names.length y2, .slice y3 x.kids.length y4] := by rw [<- hS]; exact own_new w5 _ _
   have hs6 := O5.lt
   have O6 := O5.ext x6
   have HP6 := LH (HP5.out.ext x6)
   have HT6 := LH (HT5.out.trans (Touch.of_ext x6 [B]))
   have HR6 := LH (HR5.out.ext x6)
   have hs7 := x6.size
   clear hS O5 x6 HP5 HT5 HR5
   generalize hbe : w5.heap.size = be at *
   clear hbe
   cases he : tkxB ts a' 7 rparM
   · have HW := LH (rneedx_no W6 HP6.out 7 ⟨#[41]⟩ (by decide) (ne1 _) he)
     have HG : Hid (Got b (fun n => pPrim ts n a) true (x, a')) := LH (HTD.out.fail _ (fun n => by show (if tkxB ts a' 7 rparM = true then some (x, a' + 1) else none) = none; rw [if_neg (by rw [he]; decide)]))
     clear he HTD
     go_wp2_with fail
     refine HW.out.mono ?_
     rintro e w7 ⟨rfl, K7, T7⟩
     have O7 := O6.touch' T7 (by simp; omega)
     have OE7 := OE.touch' T7 (by simp; omega)
     have HP7 := LH K7
     have HT7 := LH (HT6.out.trans T7)
     have HR7 := LH (HR6.out.touch T7 (fun k hk hm => by have := HF.out k hk; simp at hm; omega))
     clear K7 T7 O6 OE HR6 HP6 HT6
     have o0 := O7.k0
     have of0 := O7.f0
     have o1 := O7.k1
     have of1 := O7.f1
     have o2 := O7.k2
     have of2 := O7.f2
     have o3 := O7.k3
     have of3 := O7.f3
     have o4 := O7.k4
     have of4 := O7.f4
     have oz := O7.lt
     have q0 := OE7.k0
     have q1 := OE7.k1
     have q2 := OE7.k2
     have q3 := OE7.k3
     have q4 := OE7.k4
     have qz := OE7.lt
     go_wp2_with fail
     generalize hS : World.setCell (World.setCell (World.setCell (World.setCell (World.setCell w7 _ _) _ _) _ _) _ _) _ _ = W9
     obtain ⟨O9, T9⟩ := own5 O7 (.int .i64 x.kind) (.string x.text) (.int .i64 x.number) (.slice y1 x.names.length y2) (.slice y3 x.kids.length y4)
     rw [hS] at O9 T9
     clear hS
     have p0 := O9.k0
     have p1 := O9.k1
     have p2 := O9.k2
     have p3 := O9.k3
     have p4 := O9.k4
     have pz := O9.lt
     have FIN : RGot B tb to_ cap _ ts w a b (fun n => pPrim ts n a) (.returned (.agg #[.int .i64 x.kind, .string x.text, .int .i64 x.number, .slice y1 x.names.length y2, .slice y3 x.kids.length y4])) W9 := ⟨x, _, fp, a', true, rfl, HR7.out.touch T9 (fun k hk hm => by have := HF.out k hk; simp at hm; omega), fun k hk => by have := HF.out k hk; omega, HP.out.late HP7.out T9 (fun k hk => by simp at hk; omega), HG.out, by omega, HT7.out.late2 T9 (fun k hk => by simp at hk; omega)⟩
     exact bodyPost_ret (v := .agg #[.int .i64 x.kind, .string x.text, .int .i64 x.number, .slice y1 x.names.length y2, .slice y3 x.kids.length y4]) (by simp [results, Tryz.results128, go_sem, p0, p1, p2, p3, p4, pz]) rfl FIN
   have HW := LH (rneedx_yes W6 HP6.out 7 ⟨#[41]⟩ (by decide) (ne1 _) he)
   have HG : Hid (Got b (fun n => pPrim ts n a) b' (x, a' + 1)) := LH (HTD.out.done (fun n => by show (if tkxB ts a' 7 rparM = true then some (x, a' + 1) else none) = some (x, a' + 1); rw [if_pos he]))
   clear he HTD
   go_wp2_with fail
   refine HW.out.mono ?_
   rintro e w7 ⟨rfl, K7, T7⟩
   have O7 := O6.touch' T7 (by simp; omega)
   have OE7 := OE.touch' T7 (by simp; omega)
   have HP7 := LH K7
   have HT7 := LH (HT6.out.trans T7)
   have HR7 := LH (HR6.out.touch T7 (fun k hk hm => by have := HF.out k hk; simp at hm; omega))
   clear K7 T7 O6 OE HR6 HP6 HT6
   have o0 := O7.k0
   have of0 := O7.f0
   have o1 := O7.k1
   have of1 := O7.f1
   have o2 := O7.k2
   have of2 := O7.f2
   have o3 := O7.k3
   have of3 := O7.f3
   have o4 := O7.k4
   have of4 := O7.f4
   have oz := O7.lt
   have q0 := OE7.k0
   have q1 := OE7.k1
   have q2 := OE7.k2
   have q3 := OE7.k3
   have q4 := OE7.k4
   have qz := OE7.lt
   go_wp2_with fail
   generalize hS : World.setCell (World.setCell (World.setCell (World.setCell (World.setCell w7 _ _) _ _) _ _) _ _) _ _ = W9
   obtain ⟨O9, T9⟩ := own5 O7 (.int .i64 x.kind) (.string x.text) (.int .i64 x.number) (.slice y1 x.names.length y2) (.slice y3 x.kids.length y4)
   rw [hS] at O9 T9
   clear hS
   have p0 := O9.k0
   have p1 := O9.k1
   have p2 := O9.k2
   have p3 := O9.k3
   have p4 := O9.k4
   have pz := O9.lt
   have FIN : RGot B tb to_ cap _ ts w a b (fun n => pPrim ts n a) (.returned (.agg #[.int .i64 x.kind, .string x.text, .int .i64 x.number, .slice y1 x.names.length y2, .slice y3 x.kids.length y4])) W9 := ⟨x, _, fp, a' + 1, b', rfl, HR7.out.touch T9 (fun k hk hm => by have := HF.out k hk; simp at hm; omega), fun k hk => by have := HF.out k hk; omega, HP.out.late HP7.out T9 (fun k hk => by simp at hk; omega), HG.out, by omega, HT7.out.late2 T9 (fun k hk => by simp at hk; omega)⟩
   exact bodyPost_ret (v := .agg #[.int .i64 x.kind, .string x.text, .int .i64 x.number, .slice y1 x.names.length y2, .slice y3 x.kids.length y4]) (by simp [results, Tryz.results128, go_sem, p0, p1, p2, p3, p4, pz]) rfl FIN
 have hnl := hlp
 by_cases hlp : tkxB ts a 7 lbrM = true
 · have HNL := LH hnl
   clear hnl
   have HB_ := LH hlp
   obtain ⟨e1, e2⟩ := (tok_eq (by decide)).1 hlp
   rw [HKD.out] at e1
   rw [HTX.out] at e2
   replace e2 : tx = ⟨#[91]⟩ := e2
   subst e1
   subst e2
   clear hlp
   go_wp2_with fail
   refine (HB.out W4 b HP4.out).mono ?_
   rintro e w5 ⟨x, cs, fp, a', b', rfl, hr, hf, hp, hg, hm, hT⟩
   have O5 := O4.touch' hT (by simp; omega)
   have HT5 := LH (HT4.out.trans hT)
   have hs5 := hT.size
   have HR5 := LH hr
   have HF := LH hf
   obtain ⟨y1, y2, y3, y4, rfl⟩ := fld5 hr
   have HP5 := LH hp
   have HG := LH (((Todo.refl b (fun n => pPrim ts n a)).step (H := fun n => pBlock ts n (a + 1)) (fun n => by rw [pPrim]; rw [if_neg (by rw [NB1.out]; decide), if_neg (by rw [NB3.out]; decide), if_neg (by rw [NB4.out]; decide), if_neg (by rw [NB5.out]; decide), if_neg HNL.out, if_pos HB_.out])).got hg)
   clear hr hf hp hg hT O4 OT4 t0 t1 t2 tz o0 of0 o1 of1 o2 of2 o3 of3 o4 of4 oz
   have o0 := O5.k0
   have of0 := O5.f0
   have o1 := O5.k1
   have of1 := O5.f1
   have o2 := O5.k2
   have of2 := O5.f2
   have o3 := O5.k3
   have of3 := O5.f3
   have o4 := O5.k4
   have of4 := O5.f4
   have oz := O5.lt
   go_wp2_with fail
   generalize hS : World.setCell (World.setCell (World.setCell (World.setCell (World.setCell w5 _ _) _ _) _ _) _ _) _ _ = W9
   obtain ⟨O9, T9⟩ := own5 O5 (.int .i64 x.kind) (.string x.text) (.int .i64 x.number) (.slice y1 x.names.length y2) (.slice y3 x.kids.length y4)
   rw [hS] at O9 T9
   clear hS
   have p0 := O9.k0
   have p1 := O9.k1
   have p2 := O9.k2
   have p3 := O9.k3
   have p4 := O9.k4
   have pz := O9.lt
   have FIN : RGot B tb to_ cap _ ts w a b (fun n => pPrim ts n a) (.returned (.agg #[.int .i64 x.kind, .string x.text, .int .i64 x.number, .slice y1 x.names.length y2, .slice y3 x.kids.length y4])) W9 := ⟨x, _, fp, a', b', rfl, HR5.out.touch T9 (fun k hk hm => by have := HF.out k hk; simp at hm; omega), fun k hk => by have := HF.out k hk; omega, HP.out.late HP5.out T9 (fun k hk => by simp at hk; omega), HG.out, by omega, HT5.out.late2 T9 (fun k hk => by simp at hk; omega)⟩
   exact bodyPost_ret (v := .agg #[.int .i64 x.kind, .string x.text, .int .i64 x.number, .slice y1 x.names.length y2, .slice y3 x.kids.length y4]) (by simp [results, Tryz.results128, go_sem, p0, p1, p2, p3, p4, pz]) rfl FIN
 have HB_ : Hid (tkxB ts a 7 lbrM = false) := LH (by simpa using hlp)
 have HNL : Hid (tkxB ts a 7 lparM = false) := LH (by simpa using hnl)
 clear hlp hnl
 have HG : Hid (Got b (fun n => pPrim ts n a) true ((⟨0, ⟨#[]⟩, 0, [], []⟩ : MExpr), a + 1)) := LH (Got.bad _ (Ev.step (g := fun _ => none) (fun n => by rw [pPrim]; rw [if_neg (by rw [NB1.out]; decide), if_neg (by rw [NB3.out]; decide), if_neg (by rw [NB4.out]; decide), if_neg (by rw [NB5.out]; decide), if_neg (by rw [HNL.out]; decide), if_neg (by rw [HB_.out]; decide)]) (Ev.const _)))
 obtain ⟨c0, c1, c2⟩ := HP4.out.cells
 have f2 := HP4.out.own.f2
 have zB := lt_of_cell c0
 clear o0 of0 o1 of1 o2 of2 o3 of3 o4 of4 oz
 by_cases k7 : kd = 7
 · have u1 : (tx.toList == [40]) = false := str_ne' (l := [40]) (fun e => by
    have := (tok_eq (ts := ts) (a := a) (k := 7) (s := lparM) (by decide)).2 ⟨by rw [HKD.out]; exact k7, by rw [HTX.out]; exact e⟩
    rw [HNL.out] at this; cases this)
   have u2 : (tx.toList == [91]) = false := str_ne' (l := [91]) (fun e => by
    have := (tok_eq (ts := ts) (a := a) (k := 7) (s := lbrM) (by decide)).2 ⟨by rw [HKD.out]; exact k7, by rw [HTX.out]; exact e⟩
    rw [HB_.out] at this; cases this)
   have s7 := int_eq k7
   clear k7
   go_upto_region 22 with fail
   generalize hS2 : World.setCell W4 _ _ = W5
   obtain ⟨K5, T5⟩ := HP4.out.setBad
   rw [hS2] at K5 T5
   have O5 := O4.touch' T5 (by simp; omega)
   have HP5 := LH K5
   have HT5 := LH (HT4.out.trans T5)
   clear hS2 K5 T5 c0 c1 c2 f2 zB
   have o0 := O5.k0
   have of0 := O5.f0
   have o1 := O5.k1
   have of1 := O5.f1
   have o2 := O5.k2
   have of2 := O5.f2
   have o3 := O5.k3
   have of3 := O5.f3
   have o4 := O5.k4
   have of4 := O5.f4
   have oz := O5.lt
   go_wp2_with fail
   generalize hS : World.setCell (World.setCell (World.setCell (World.setCell (World.setCell W5 _ _) _ _) _ _) _ _) _ _ = W9
   obtain ⟨O9, T9⟩ := own5 O5 (.int .i64 0) (.string ⟨#[]⟩) (.int .i64 0) (.slice none 0 0) (.slice none 0 0)
   rw [hS] at O9 T9
   clear hS
   have p0 := O9.k0
   have p1 := O9.k1
   have p2 := O9.k2
   have p3 := O9.k3
   have p4 := O9.k4
   have pz := O9.lt
   have FIN : RGot B tb to_ cap _ ts w a b (fun n => pPrim ts n a) (.returned (.agg #[.int .i64 0, .string ⟨#[]⟩, .int .i64 0, .slice none 0 0, .slice none 0 0])) W9 := ⟨⟨0, ⟨#[]⟩, 0, [], []⟩, _, [], a + 1, true, rfl, leaf_rep _ _ _ _, (fun k hk => nomatch hk), HP.out.late HP5.out T9 (fun k hk => by simp at hk; omega), HG.out, by omega, HT5.out.late2 T9 (fun k hk => by simp at hk; omega)⟩
   exact bodyPost_ret (v := .agg #[.int .i64 0, .string ⟨#[]⟩, .int .i64 0, .slice none 0 0, .slice none 0 0]) (by simp [results, Tryz.results128, go_sem, p0, p1, p2, p3, p4, pz]) rfl FIN
 have s7 := int_ne k7
 clear k7
 go_upto_region 22 with fail
 generalize hS2 : World.setCell W4 _ _ = W5
 obtain ⟨K5, T5⟩ := HP4.out.setBad
 rw [hS2] at K5 T5
 have O5 := O4.touch' T5 (by simp; omega)
 have HP5 := LH K5
 have HT5 := LH (HT4.out.trans T5)
 clear hS2 K5 T5 c0 c1 c2 f2 zB
 have o0 := O5.k0
 have of0 := O5.f0
 have o1 := O5.k1
 have of1 := O5.f1
 have o2 := O5.k2
 have of2 := O5.f2
 have o3 := O5.k3
 have of3 := O5.f3
 have o4 := O5.k4
 have of4 := O5.f4
 have oz := O5.lt
 go_wp2_with fail
 generalize hS : World.setCell (World.setCell (World.setCell (World.setCell (World.setCell W5 _ _) _ _) _ _) _ _) _ _ = W9
 obtain ⟨O9, T9⟩ := own5 O5 (.int .i64 0) (.string ⟨#[]⟩) (.int .i64 0) (.slice none 0 0) (.slice none 0 0)
 rw [hS] at O9 T9
 clear hS
 have p0 := O9.k0
 have p1 := O9.k1
 have p2 := O9.k2
 have p3 := O9.k3
 have p4 := O9.k4
 have pz := O9.lt
 have FIN : RGot B tb to_ cap _ ts w a b (fun n => pPrim ts n a) (.returned (.agg #[.int .i64 0, .string ⟨#[]⟩, .int .i64 0, .slice none 0 0, .slice none 0 0])) W9 := ⟨⟨0, ⟨#[]⟩, 0, [], []⟩, _, [], a + 1, true, rfl, leaf_rep _ _ _ _, (fun k hk => nomatch hk), HP.out.late HP5.out T9 (fun k hk => by simp at hk; omega), HG.out, by omega, HT5.out.late2 T9 (fun k hk => by simp at hk; omega)⟩
 exact bodyPost_ret (v := .agg #[.int .i64 0, .string ⟨#[]⟩, .int .i64 0, .slice none 0 0, .slice none 0 0]) (by simp [results, Tryz.results128, go_sem, p0, p1, p2, p3, p4, pz]) rfl FIN
theorem runary_at {B tb to_ cap : Nat} {ao : Option Addr} {ts : List MToken} {a : Nat} (HPR : RPrimAt B tb to_ cap ao ts a) : RUnAt B tb to_ cap ao ts a := by
 intro w b h ha
 have HP := LH h
 have hln := h.len
 have hrb := h.own.lt
 have HC := LH (fun (W : World) (hW : Ext w W) => HPR W b (h.ext hW) ha)
 clear HPR
 clear h
 go_enter Tryz.func111, Tryz.ntmps111
 go_upto_region 1 with fail
 generalize hS : World.alloc w _ = W1
 have x1 : Ext w W1 := by rw [<- hS]; exact (XR _).alloc _
 have O1 : Own W1 w.heap.size 70 #[.int .i64 0, .string ⟨#[]⟩, .int .i64 0, .slice none 0 0, .slice none 0 0] := by rw [<- hS]; exact own_new w _ _
 clear hS
 go_wp2_with fail
 refine (HC.out _ x1).mono ?_
 rintro e w2 ⟨x, cs, fp, a', b', rfl, hr, hf, hp, hg, hm, hT⟩
 have O2 := O1.touch' hT (by simp; omega)
 have hs1 := x1.size
 have hs2 := hT.size
 have hzo := O1.lt
 obtain ⟨y1, y2, y3, y4, rfl⟩ := fld5 hr
 go_upto_region 2 with fail
 generalize hS : World.alloc w2 _ = W3
 have x3 : Ext w2 W3 := by rw [<- hS]; exact (XR _).alloc _
 have OE : Own W3 w2.heap.size 70 #[.int .i64 x.kind, .string x.text, .int .i64 x.number, .slice y1 x.names.length y2, .slice y3 x.kids.length y4] := by rw [<- hS]; exact own_new w2 _ _
 have O3 := O2.ext x3
 have HP3 := LH (hp.ext x3)
 have HR3 := LH (hr.ext x3)
 have HF3 : Hid (∀ k, k ∈ fp -> w.heap.size < k /\ k ≠ w2.heap.size) := LH fun k hk => by
  have h1 := hf k hk
  have h2 := hr.lt _ k hk
  omega
 have HT3 := LH (((Touch.of_ext x1 [B]).trans hT).trans (Touch.of_ext x3 [B]))
 have H0 := LH ((Todo.refl b (fun n => pUnary ts n a)).call hg (g := fun n r => pUn ts n r.1 false r.2) (fun n => by rw [pUnary]))
 clear HC
 have hebr : w.heap.size < w2.heap.size := by omega
 have hebB : ¬ w2.heap.size = B := by omega
 clear hr hf hp hg hT O1 O2 hS x3 hs1 hs2 hzo x1
 generalize hbe : w2.heap.size = eb at *
 clear hbe
 go_wp2_with fail
 go_loopw [5] (fun sv wr => ∃ (x : MExpr) (cs : List Value) (fp : List Nat) (s : Bool) (j : Nat) (bj : Bool), sv = .bool s /\ Own wr eb 70 cs.toArray /\ RepF wr x.d cs fp /\ Hid (∀ k, k ∈ fp -> w.heap.size < k /\ k ≠ eb) /\ Prs 38 B tb to_ cap ao ts wr (j) bj /\ Hid (Todo b (fun n => pUnary ts n a) bj (fun n => pUn ts n x s j)) /\ Hid (s = true -> x.kids ≠ []) /\ a <= j /\ Own wr w.heap.size 70 #[.int .i64 0, .string ⟨#[]⟩, .int .i64 0, .slice none 0 0, .slice none 0 0] /\ Touch w wr [B]) (fun _ wr => ts.length + 1 - placeOf B wr)
 case atStart => exact ⟨x, _, fp, false, a', b', rfl, OE, HR3.out, HF3, HP3.out, H0, LH (fun h => (by cases h)), hm, O3, HT3.out⟩
 case round =>
  clear OE O3 HP3 HR3 HF3 HT3 H0
  obtain ⟨x, cs, fp, s, j, bj, rfl, hO, hr, HF, hp, HTD, HS, haj, hB, hT⟩ := hrel
  obtain ⟨y1, y2, y3, y4, rfl⟩ := fld5 hr
  have HR := LH hr
  have HPj := LH hp
  have HPM := LH hp
  have HT := LH hT
  obtain ⟨c0, c1, c2⟩ := hp.cells
  have zB := lt_of_cell c0
  have hjl := hp.le
  clear hr hp hT
  cases bj
  rotate_left
  · have HG : Hid (Got b (fun n => pUnary ts n a) true (x, s, j)) := LH (HTD.out.dead _)
    clear HTD
    have q0 := hO.k0
    have qf0 := hO.f0
    have q1 := hO.k1
    have qf1 := hO.f1
    have q2 := hO.k2
    have qf2 := hO.f2
    have q3 := hO.k3
    have qf3 := hO.f3
    have q4 := hO.k4
    have qf4 := hO.f4
    have qz := hO.lt
    have o0 := hB.k0
    have of0 := hB.f0
    have o1 := hB.k1
    have of1 := hB.f1
    have o2 := hB.k2
    have of2 := hB.f2
    have o3 := hB.k3
    have of3 := hB.f3
    have o4 := hB.k4
    have of4 := hB.f4
    have oz := hB.lt
    go_wp2_with fail
    generalize hS : World.setCell (World.setCell (World.setCell (World.setCell (World.setCell wr _ _) _ _) _ _) _ _) _ _ = W9
    obtain ⟨O9, T9⟩ := own5 hB (.int .i64 x.kind) (.string x.text) (.int .i64 x.number) (.slice y1 x.names.length y2) (.slice y3 x.kids.length y4)
    rw [hS] at O9 T9
    clear hS
    have p0 := O9.k0
    have p1 := O9.k1
    have p2 := O9.k2
    have p3 := O9.k3
    have p4 := O9.k4
    have pz := O9.lt
    have FIN : RSGot B tb to_ cap _ ts w a b (fun n => pUnary ts n a) (.returned (.tuple #[.agg #[.int .i64 x.kind, .string x.text, .int .i64 x.number, .slice y1 x.names.length y2, .slice y3 x.kids.length y4], .bool s])) W9 := ⟨x, _, fp, s, j, _, rfl, HR.out.touch T9 (fun k hk hm => by have := HF.out k hk; simp at hm; omega), fun k hk => by have := HF.out k hk; omega, HP.out.late HPj.out T9 (fun k hk => by simp at hk; omega), HG.out, HS.out, haj, HT.out.late2 T9 (fun k hk => by simp at hk; omega)⟩
    exact bodyPost_ret (v := .tuple #[.agg #[.int .i64 x.kind, .string x.text, .int .i64 x.number, .slice y1 x.names.length y2, .slice y3 x.kids.length y4], .bool s]) (by simp [results, Tryz.results111, go_sem, p0, p1, p2, p3, p4, pz]) rfl FIN
  have HI := risk_any _ HPj.out 1 (by decide)
  cases hb : tkB ts j 1
  · have HG : Hid (Got b (fun n => pUnary ts n a) false (x, s, j)) := LH (HTD.out.done (fun n => by rw [pUn, if_neg (by rw [hb]; decide)]))
    rw [hb] at HI
    have HI2 := LH HI
    clear HTD hb HI
    go_wp2_with fail
    refine HI2.out.mono ?_
    rintro e w1 ⟨rfl, hx⟩
    have hO1 := hO.ext hx
    have hB1 := hB.ext hx
    have HR1 := LH (HR.out.ext hx)
    have HP1 := LH (HPj.out.ext hx)
    have HT1 := LH (HT.out.trans (Touch.of_ext hx [B]))
    clear hO hB HR HPj HT c0 c1 c2 zB hx HI2
    have q0 := hO1.k0
    have qf0 := hO1.f0
    have q1 := hO1.k1
    have qf1 := hO1.f1
    have q2 := hO1.k2
    have qf2 := hO1.f2
    have q3 := hO1.k3
    have qf3 := hO1.f3
    have q4 := hO1.k4
    have qf4 := hO1.f4
    have qz := hO1.lt
    have o0 := hB1.k0
    have of0 := hB1.f0
    have o1 := hB1.k1
    have of1 := hB1.f1
    have o2 := hB1.k2
    have of2 := hB1.f2
    have o3 := hB1.k3
    have of3 := hB1.f3
    have o4 := hB1.k4
    have of4 := hB1.f4
    have oz := hB1.lt
    go_wp2_with fail
    generalize hS : World.setCell (World.setCell (World.setCell (World.setCell (World.setCell w1 _ _) _ _) _ _) _ _) _ _ = W9
    obtain ⟨O9, T9⟩ := own5 hB1 (.int .i64 x.kind) (.string x.text) (.int .i64 x.number) (.slice y1 x.names.length y2) (.slice y3 x.kids.length y4)
    rw [hS] at O9 T9
    clear hS
    have p0 := O9.k0
    have p1 := O9.k1
    have p2 := O9.k2
    have p3 := O9.k3
    have p4 := O9.k4
    have pz := O9.lt
    have FIN : RSGot B tb to_ cap _ ts w a b (fun n => pUnary ts n a) (.returned (.tuple #[.agg #[.int .i64 x.kind, .string x.text, .int .i64 x.number, .slice y1 x.names.length y2, .slice y3 x.kids.length y4], .bool s])) W9 := ⟨x, _, fp, s, j, _, rfl, HR1.out.touch T9 (fun k hk hm => by have := HF.out k hk; simp at hm; omega), fun k hk => by have := HF.out k hk; omega, HP.out.late HP1.out T9 (fun k hk => by simp at hk; omega), HG.out, HS.out, haj, HT1.out.late2 T9 (fun k hk => by simp at hk; omega)⟩
    exact bodyPost_ret (v := .tuple #[.agg #[.int .i64 x.kind, .string x.text, .int .i64 x.number, .slice y1 x.names.length y2, .slice y3 x.kids.length y4], .bool s]) (by simp [results, Tryz.results111, go_sem, p0, p1, p2, p3, p4, pz]) rfl FIN
  rw [hb] at HI
  have HI2 := LH HI
  have hjt := kind_lt (by decide) hb
  have htz := HPj.out.txt j
  have HTK := LH (fun (W : World) (hp : Prs 38 B tb to_ cap ao ts W (j) false) => rneedk_yes W hp 1 (by decide) hb)
  have HTD2 : Hid (Todo b (fun n => pUnary ts n a) false (fun n => pUn ts n (eMsg (tkT ts j) [x]) true (j + 1))) := LH (HTD.out.step (fun n => by rw [pUn, if_pos hb]))
  clear HTD hb HI
  go_wp2_with fail
  refine HI2.out.mono ?_
  rintro e w1 ⟨rfl, hx⟩
  have hO1 := hO.ext hx
  have hB1 := hB.ext hx
  have HR1 := LH (HR.out.ext hx)
  have HP1 := LH (HPj.out.ext hx)
  have HT1 := LH (HT.out.trans (Touch.of_ext hx [B]))
  have hs1 := hx.size
  clear hO hB HR HPj HT c0 c1 c2 zB hx HI2
  obtain ⟨tx, htx⟩ : ∃ t, tkT ts j = t := ⟨_, rfl⟩
  rw [htx] at HTK HTD2 htz
  clear htx
  have c0 := HP1.out.own.cell 0
  have zB := HP1.out.own.lt
  have q0 := hO1.k0
  have qf0 := hO1.f0
  have q1 := hO1.k1
  have qf1 := hO1.f1
  have q2 := hO1.k2
  have qf2 := hO1.f2
  have q3 := hO1.k3
  have qf3 := hO1.f3
  have q4 := hO1.k4
  have qf4 := hO1.f4
  have qz := hO1.lt
  have HQ : Hid (∀ W w7, Ext w1 W -> Touch W w7 [B] -> Own w7 eb 70 #[.int .i64 x.kind, .string x.text, .int .i64 x.number, .slice y1 x.names.length y2, .slice y3 x.kids.length y4]) := LH fun W w7 hW hT => (hO1.ext hW).touch' hT (by simpa using hebB)
  have HRQ : Hid (∀ W w7, Ext w1 W -> Touch W w7 [B] -> RepF w7 x.d [.int .i64 x.kind, .string x.text, .int .i64 x.number, .slice y1 x.names.length y2, .slice y3 x.kids.length y4] fp) := LH fun W w7 hW hT => (HR1.out.ext hW).touch hT (fun k hk hm => by have := HF.out k hk; simp at hm; omega)
  have HBQ : Hid (∀ W w7, Ext w1 W -> Touch W w7 [B] -> Own w7 w.heap.size 70 #[.int .i64 0, .string ⟨#[]⟩, .int .i64 0, .slice none 0 0, .slice none 0 0]) := LH fun W w7 hW hT => (hB1.ext hW).touch' hT (by simp; omega)
  have HTQ : Hid (∀ W w7, Ext w1 W -> Touch W w7 [B] -> Touch w w7 [B]) := LH fun W w7 hW hT => (HT1.out.trans (Touch.of_ext hW [B])).trans hT
  go_upto_region 4 with fail
  go_region_law ((go_simp; go_wp2_with ((first
   | (have R7x := R7; refine (l3Send_any (l := []) (ao := none) (cap := 0) tx R7x (rep_nilX _) (by simp)).mono ?_; rintro e w8 ⟨cs8, fp8, rfl, R8, F8, X8⟩; obtain ⟨z1, z2, z3, z4, rfl⟩ := fld5 R8; have OE8 := OE7.ext X8; have m0 : w8.cell? ⟨eb, 0, none⟩ = some (.int .i64 x.kind) := OE8.cell 0; have mf0 := OE8.f0; have m1 : w8.cell? ⟨eb, 1, none⟩ = some (.string x.text) := OE8.cell 1; have mf1 := OE8.f1; have m2 : w8.cell? ⟨eb, 2, none⟩ = some (.int .i64 x.number) := OE8.cell 2; have mf2 := OE8.f2; have m3 : w8.cell? ⟨eb, 3, none⟩ = some (.slice y1 x.names.length y2) := OE8.cell 3; have mf3 := OE8.f3; have m4 : w8.cell? ⟨eb, 4, none⟩ = some (.slice y3 x.kids.length y4) := OE8.cell 4; have mf4 := OE8.f4; have mz := OE8.lt)
   | (refine (HTK.out _ (HP1.out.ext (by first | exact Ext.drew (XR _) | exact XR _))).mono ?_; rintro e w7 ⟨rfl, K7, T7⟩; have OE7 := HQ.out _ _ (by first | exact Ext.drew (XR _) | exact XR _) T7; have R7 := HRQ.out _ _ (by first | exact Ext.drew (XR _) | exact XR _) T7; have B7 := HBQ.out _ _ (by first | exact Ext.drew (XR _) | exact XR _) T7; have T07 := HTQ.out _ _ (by first | exact Ext.drew (XR _) | exact XR _) T7; have k0 : w7.cell? ⟨eb, 0, none⟩ = some (.int .i64 x.kind) := OE7.cell 0; have kf0 := OE7.f0; have k1 : w7.cell? ⟨eb, 1, none⟩ = some (.string x.text) := OE7.cell 1; have kf1 := OE7.f1; have k2 : w7.cell? ⟨eb, 2, none⟩ = some (.int .i64 x.number) := OE7.cell 2; have kf2 := OE7.f2; have k3 : w7.cell? ⟨eb, 3, none⟩ = some (.slice y1 x.names.length y2) := OE7.cell 3; have kf3 := OE7.f3; have k4 : w7.cell? ⟨eb, 4, none⟩ = some (.slice y3 x.kids.length y4) := OE7.cell 4; have kf4 := OE7.f4; have kz := OE7.lt)))))
  all_goals
   have hz8 := X8.size
   generalize hS : World.setCell (World.setCell (World.setCell (World.setCell (World.setCell w8 _ _) _ _) _ _) _ _) _ _ = W9
   obtain ⟨O9, T9⟩ := own5 OE8 (.int .i64 (eMsg tx [x]).kind) (.string (eMsg tx [x]).text) (.int .i64 (eMsg tx [x]).number) (.slice z1 (eMsg tx [x]).names.length z2) (.slice z3 (eMsg tx [x]).kids.length z4)
   rw [hS] at O9 T9
   clear hS
   have hF9 : ∀ k, k ∈ fp8 -> w.heap.size < k /\ k ≠ eb := fun k hk => by
    rcases F8 k hk with h | h | h
    · exact HF.out k h
    · cases h
    · have := kz; omega
   have HF9 := LH hF9
   have R9 := R8.touch T9 (fun k hk hm => (hF9 k hk).2 (by simpa using hm))
   have P9 := HP.out.late (K7.ext X8) T9 (fun k hk => by simp at hk; omega)
   have B9 := (B7.ext X8).touch' T9 (by simp; omega)
   have T09 := (T07.trans (Touch.of_ext X8 [B])).late2 T9 (fun k hk => by simp at hk; omega)
   have HP9 := LH P9
   have HT9 := LH T09
   clear hF9 R8 F8 X8 OE8 K7 T7 OE7 B7 T07 P9 T09 T9 k0 kf0 m0 mf0 k1 kf1 m1 mf1 k2 kf2 m2 mf2 k3 kf3 m3 mf3 k4 kf4 m4 mf4 kz mz R7
   go_wp2_with fail
   refine ⟨⟨eMsg tx [x], _, fp8, true, j + 1, false, rfl, O9, R9, HF9, HP9.out, HTD2, LH (fun _ => by simp [eMsg]), by omega, B9, HT9.out⟩, ?_⟩
   rw [placeOf_eq HPM.out, placeOf_eq HP9.out]; omega
theorem rbinary_at {B tb to_ cap : Nat} {ao : Option Addr} {ts : List MToken} {a : Nat} (HUN : ∀ a', a <= a' -> RUnAt B tb to_ cap ao ts a') : RBinAt B tb to_ cap ao ts a := by
 intro w b h ha
 have HP := LH h
 have hln := h.len
 have hrb := h.own.lt
 have HUN := LH HUN
 have HC := LH (fun (W : World) (hW : Ext w W) => HUN.out a (Nat.le_refl _) W b (h.ext hW) ha)
 clear h
 go_enter Tryz.func72, Tryz.ntmps72
 go_upto_region 1 with fail
 generalize hS : World.alloc w _ = W1
 have x1 : Ext w W1 := by rw [<- hS]; exact (XR _).alloc _
 have O1 : Own W1 w.heap.size 70 #[.int .i64 0, .string ⟨#[]⟩, .int .i64 0, .slice none 0 0, .slice none 0 0] := by rw [<- hS]; exact own_new w _ _
 clear hS
 go_wp2_with fail
 refine (HC.out _ x1).mono ?_
 rintro e w2 ⟨x, cs, fp, s0, a', b', rfl, hr, hf, hp, hg, hs0, hm, hT⟩
 have O2 := O1.touch' hT (by simp; omega)
 have hs1 := x1.size
 have hs2 := hT.size
 have hzo := O1.lt
 obtain ⟨y1, y2, y3, y4, rfl⟩ := fld5 hr
 go_wp2_with fail
 generalize hS : World.alloc w2 _ = W3
 have x3 : Ext w2 W3 := by rw [<- hS]; exact (XR _).alloc _
 have OE : Own W3 w2.heap.size 70 #[.int .i64 x.kind, .string x.text, .int .i64 x.number, .slice y1 x.names.length y2, .slice y3 x.kids.length y4] := by rw [<- hS]; exact own_new w2 _ _
 have O3 := O2.ext x3
 have HP3 := LH (hp.ext x3)
 have HR3 := LH (hr.ext x3)
 have HF3 : Hid (∀ k, k ∈ fp -> w.heap.size < k /\ k ≠ w2.heap.size) := LH fun k hk => by
  have h1 := hf k hk
  have h2 := hr.lt _ k hk
  omega
 have HT3 := LH (((Touch.of_ext x1 [B]).trans hT).trans (Touch.of_ext x3 [B]))
 have H0 := LH ((Todo.refl b (fun n => pBinary ts n a)).call hg (g := fun n r => pBin ts n r.1 r.2.1 r.2.2) (fun n => by rw [pBinary]))
 have HS0 := LH hs0
 clear HC hs0
 have hebr : w.heap.size < w2.heap.size := by omega
 have hebB : ¬ w2.heap.size = B := by omega
 clear hr hf hp hg hT O1 O2 hS x3 hs1 hs2 hzo x1
 generalize hbe : w2.heap.size = eb at *
 clear hbe
 go_loopw [5] (fun sv wr => ∃ (x : MExpr) (cs : List Value) (fp : List Nat) (s : Bool) (j : Nat) (bj : Bool), sv = .bool s /\ Own wr eb 70 cs.toArray /\ RepF wr x.d cs fp /\ Hid (∀ k, k ∈ fp -> w.heap.size < k /\ k ≠ eb) /\ Prs 38 B tb to_ cap ao ts wr (j) bj /\ Hid (Todo b (fun n => pBinary ts n a) bj (fun n => pBin ts n x s j)) /\ Hid (s = true -> x.kids ≠ []) /\ a <= j /\ Own wr w.heap.size 70 #[.int .i64 0, .string ⟨#[]⟩, .int .i64 0, .slice none 0 0, .slice none 0 0] /\ Touch w wr [B]) (fun _ wr => ts.length + 1 - placeOf B wr)
 case atStart => exact ⟨x, _, fp, s0, a', b', rfl, OE, HR3.out, HF3, HP3.out, H0, HS0, hm, O3, HT3.out⟩
 case round =>
  clear OE O3 HP3 HR3 HF3 HT3 H0 HS0
  obtain ⟨x, cs, fp, s, j, bj, rfl, hO, hr, HF, hp, HTD, HS, haj, hB, hT⟩ := hrel
  obtain ⟨y1, y2, y3, y4, rfl⟩ := fld5 hr
  have HR := LH hr
  have HPj := LH hp
  have HPM := LH hp
  have HT := LH hT
  obtain ⟨c0, c1, c2⟩ := hp.cells
  have zB := lt_of_cell c0
  have hjl := hp.le
  clear hr hp hT
  cases bj
  rotate_left
  · have HG : Hid (Got b (fun n => pBinary ts n a) true (x, s, j)) := LH (HTD.out.dead _)
    clear HTD
    have q0 := hO.k0
    have qf0 := hO.f0
    have q1 := hO.k1
    have qf1 := hO.f1
    have q2 := hO.k2
    have qf2 := hO.f2
    have q3 := hO.k3
    have qf3 := hO.f3
    have q4 := hO.k4
    have qf4 := hO.f4
    have qz := hO.lt
    have o0 := hB.k0
    have of0 := hB.f0
    have o1 := hB.k1
    have of1 := hB.f1
    have o2 := hB.k2
    have of2 := hB.f2
    have o3 := hB.k3
    have of3 := hB.f3
    have o4 := hB.k4
    have of4 := hB.f4
    have oz := hB.lt
    go_wp2_with fail
    generalize hS : World.setCell (World.setCell (World.setCell (World.setCell (World.setCell wr _ _) _ _) _ _) _ _) _ _ = W9
    obtain ⟨O9, T9⟩ := own5 hB (.int .i64 x.kind) (.string x.text) (.int .i64 x.number) (.slice y1 x.names.length y2) (.slice y3 x.kids.length y4)
    rw [hS] at O9 T9
    clear hS
    have p0 := O9.k0
    have p1 := O9.k1
    have p2 := O9.k2
    have p3 := O9.k3
    have p4 := O9.k4
    have pz := O9.lt
    have FIN : RSGot B tb to_ cap _ ts w a b (fun n => pBinary ts n a) (.returned (.tuple #[.agg #[.int .i64 x.kind, .string x.text, .int .i64 x.number, .slice y1 x.names.length y2, .slice y3 x.kids.length y4], .bool s])) W9 := ⟨x, _, fp, s, j, _, rfl, HR.out.touch T9 (fun k hk hm => by have := HF.out k hk; simp at hm; omega), fun k hk => by have := HF.out k hk; omega, HP.out.late HPj.out T9 (fun k hk => by simp at hk; omega), HG.out, HS.out, haj, HT.out.late2 T9 (fun k hk => by simp at hk; omega)⟩
    exact bodyPost_ret (v := .tuple #[.agg #[.int .i64 x.kind, .string x.text, .int .i64 x.number, .slice y1 x.names.length y2, .slice y3 x.kids.length y4], .bool s]) (by simp [results, Tryz.results72, go_sem, p0, p1, p2, p3, p4, pz]) rfl FIN
  have HI := risk_any _ HPj.out 6 (by decide)
  cases hb : tkB ts j 6
  · have HG : Hid (Got b (fun n => pBinary ts n a) false (x, s, j)) := LH (HTD.out.done (fun n => by rw [pBin, if_neg (by rw [hb]; decide)]))
    rw [hb] at HI
    have HI2 := LH HI
    clear HTD hb HI
    go_wp2_with fail
    refine HI2.out.mono ?_
    rintro e w1 ⟨rfl, hx⟩
    have hO1 := hO.ext hx
    have hB1 := hB.ext hx
    have HR1 := LH (HR.out.ext hx)
    have HP1 := LH (HPj.out.ext hx)
    have HT1 := LH (HT.out.trans (Touch.of_ext hx [B]))
    clear hO hB HR HPj HT c0 c1 c2 zB hx HI2
    have q0 := hO1.k0
    have qf0 := hO1.f0
    have q1 := hO1.k1
    have qf1 := hO1.f1
    have q2 := hO1.k2
    have qf2 := hO1.f2
    have q3 := hO1.k3
    have qf3 := hO1.f3
    have q4 := hO1.k4
    have qf4 := hO1.f4
    have qz := hO1.lt
    have o0 := hB1.k0
    have of0 := hB1.f0
    have o1 := hB1.k1
    have of1 := hB1.f1
    have o2 := hB1.k2
    have of2 := hB1.f2
    have o3 := hB1.k3
    have of3 := hB1.f3
    have o4 := hB1.k4
    have of4 := hB1.f4
    have oz := hB1.lt
    go_wp2_with fail
    generalize hS : World.setCell (World.setCell (World.setCell (World.setCell (World.setCell w1 _ _) _ _) _ _) _ _) _ _ = W9
    obtain ⟨O9, T9⟩ := own5 hB1 (.int .i64 x.kind) (.string x.text) (.int .i64 x.number) (.slice y1 x.names.length y2) (.slice y3 x.kids.length y4)
    rw [hS] at O9 T9
    clear hS
    have p0 := O9.k0
    have p1 := O9.k1
    have p2 := O9.k2
    have p3 := O9.k3
    have p4 := O9.k4
    have pz := O9.lt
    have FIN : RSGot B tb to_ cap _ ts w a b (fun n => pBinary ts n a) (.returned (.tuple #[.agg #[.int .i64 x.kind, .string x.text, .int .i64 x.number, .slice y1 x.names.length y2, .slice y3 x.kids.length y4], .bool s])) W9 := ⟨x, _, fp, s, j, _, rfl, HR1.out.touch T9 (fun k hk hm => by have := HF.out k hk; simp at hm; omega), fun k hk => by have := HF.out k hk; omega, HP.out.late HP1.out T9 (fun k hk => by simp at hk; omega), HG.out, HS.out, haj, HT1.out.late2 T9 (fun k hk => by simp at hk; omega)⟩
    exact bodyPost_ret (v := .tuple #[.agg #[.int .i64 x.kind, .string x.text, .int .i64 x.number, .slice y1 x.names.length y2, .slice y3 x.kids.length y4], .bool s]) (by simp [results, Tryz.results72, go_sem, p0, p1, p2, p3, p4, pz]) rfl FIN
  rw [hb] at HI
  have HI2 := LH HI
  have hjt := kind_lt (by decide) hb
  have htz := HPj.out.txt j
  have HTK := LH (fun (W : World) (hp : Prs 38 B tb to_ cap ao ts W (j) false) => rneedk_yes W hp 6 (by decide) hb)
  have HTD2 : Hid (Todo b (fun n => pBinary ts n a) false (fun n => (pUnary ts n (j + 1)).bind fun r => pBin ts n (eMsg (tkT ts j) [x, r.1]) true r.2.2)) := LH (HTD.out.step (fun n => by rw [pBin, if_pos hb]))
  clear HTD hb HI
  go_wp2_with fail
  refine HI2.out.mono ?_
  rintro e w1 ⟨rfl, hx⟩
  have hO1 := hO.ext hx
  have hB1 := hB.ext hx
  have HR1 := LH (HR.out.ext hx)
  have HP1 := LH (HPj.out.ext hx)
  have HT1 := LH (HT.out.trans (Touch.of_ext hx [B]))
  have hs1 := hx.size
  clear hO hB HR HPj HT c0 c1 c2 zB hx HI2
  obtain ⟨tx, htx⟩ : ∃ t, tkT ts j = t := ⟨_, rfl⟩
  rw [htx] at HTK HTD2 htz
  clear htx
  go_wp2_with fail
  refine (HTK.out w1 HP1.out).mono ?_
  rintro e w2 ⟨rfl, K2, T2⟩
  have hO2 := hO1.touch' T2 (by simpa using hebB)
  have hB2 := hB1.touch' T2 (by simp; omega)
  have HR2 := LH (HR1.out.touch T2 (fun k hk hm => by have := HF.out k hk; simp at hm; omega))
  have HT2 := LH (HT1.out.trans T2)
  have HU := LH (HUN.out (j + 1) (by omega) w2 false K2 (by omega))
  have hs2 := T2.size
  have hez := hO1.lt
  clear K2 T2 hO1 hB1 HR1 HT1 HP1 HTK
  go_wp2_with fail
  refine HU.out.mono ?_
  rintro e w3 ⟨y, ds, gp, s2, a2, b2, rfl, hr2, hf2, hp2, hg2, -, hm2, hT2⟩
  have HTD3 := LH (HTD2.out.call0 hg2 (g := fun n r => pBin ts n (eMsg tx [x, r.1]) true r.2.2) (fun n => rfl))
  have hO3 := hO2.touch' hT2 (by simpa using hebB)
  have hB3 := hB2.touch' hT2 (by simp; omega)
  have HR3 := LH (HR2.out.touch hT2 (fun k hk hm => by have := HF.out k hk; simp at hm; omega))
  have HT3 := LH (HT2.out.trans hT2)
  have HP3 := LH hp2
  have HS3 := LH hr2
  have HG3 := LH hf2
  have hs3 := hT2.size
  obtain ⟨u1, u2, u3, u4, rfl⟩ := fld5 hr2
  clear hr2 hf2 hp2 hg2 hT2 hO2 hB2 HR2 HT2 HU HTD2
  go_upto_region 5 with fail
  generalize hS : World.alloc w3 _ = W4
  have x4 : Ext w3 W4 := by rw [<- hS]; exact (XR _).alloc _
  have OY : Own W4 w3.heap.size 70 #[.int .i64 y.kind, .string y.text, .int .i64 y.number, .slice u1 y.names.length u2, .slice u3 y.kids.length u4] := by rw [<- hS]; exact own_new w3 _ _
  have hO4 := hO3.ext x4
  have hB4 := hB3.ext x4
  have HR4 := LH (HR3.out.ext x4)
  have HS4 := LH (HS3.out.ext x4)
  have HP4 := LH (HP3.out.ext x4)
  have HT4 := LH (HT3.out.trans (Touch.of_ext x4 [B]))
  have hs4 := x4.size
  clear hS x4 hO3 hB3 HR3 HS3 HP3 HT3
  generalize hyb : w3.heap.size = yb at *
  clear hyb
  have q0 := hO4.k0
  have qf0 := hO4.f0
  have q1 := hO4.k1
  have qf1 := hO4.f1
  have q2 := hO4.k2
  have qf2 := hO4.f2
  have q3 := hO4.k3
  have qf3 := hO4.f3
  have q4 := hO4.k4
  have qf4 := hO4.f4
  have qz := hO4.lt
  have r0 := OY.k0
  have r1 := OY.k1
  have r2 := OY.k2
  have r3 := OY.k3
  have r4 := OY.k4
  have rz := OY.lt
  have x5 : Ext W4 (W4.alloc (.cells #[.int .i64 y.kind, .string y.text, .int .i64 y.number, .slice u1 y.names.length u2, .slice u3 y.kids.length u4] 70)) := (XR W4).alloc _
  have HSL := one_expr (HS4.out.ext x5) (own_new W4 #[.int .i64 y.kind, .string y.text, .int .i64 y.number, .slice u1 y.names.length u2, .slice u3 y.kids.length u4] 70)
  have R5 := HR4.out.ext x5
  have hz5 := x5.size
  go_wp2_with ((refine (l3Send_any (l := [y]) (cap := 1) tx R5 HSL (by simp)).mono ?_; rintro e w8 ⟨cs8, fp8, rfl, R8, F8, X8⟩; obtain ⟨z1, z2, z3, z4, rfl⟩ := fld5 R8; have OE8 := (hO4.ext x5).ext X8; have m0 : w8.cell? ⟨eb, 0, none⟩ = some (.int .i64 x.kind) := OE8.cell 0; have mf0 := OE8.f0; have m1 : w8.cell? ⟨eb, 1, none⟩ = some (.string x.text) := OE8.cell 1; have mf1 := OE8.f1; have m2 : w8.cell? ⟨eb, 2, none⟩ = some (.int .i64 x.number) := OE8.cell 2; have mf2 := OE8.f2; have m3 : w8.cell? ⟨eb, 3, none⟩ = some (.slice y1 x.names.length y2) := OE8.cell 3; have mf3 := OE8.f3; have m4 : w8.cell? ⟨eb, 4, none⟩ = some (.slice y3 x.kids.length y4) := OE8.cell 4; have mf4 := OE8.f4; have mz := OE8.lt))
  have hz8 := X8.size
  generalize hS : World.setCell (World.setCell (World.setCell (World.setCell (World.setCell w8 _ _) _ _) _ _) _ _) _ _ = W9
  obtain ⟨O9, T9⟩ := own5 OE8 (.int .i64 (eMsg tx [x, y]).kind) (.string (eMsg tx [x, y]).text) (.int .i64 (eMsg tx [x, y]).number) (.slice z1 (eMsg tx [x, y]).names.length z2) (.slice z3 (eMsg tx [x, y]).kids.length z4)
  rw [hS] at O9 T9
  clear hS
  have hF9 : ∀ k, k ∈ fp8 -> w.heap.size < k /\ k ≠ eb := fun k hk => by
   rcases F8 k hk with h | h | h
   · exact HF.out k h
   · rcases List.mem_cons.1 h with rfl | h
     · omega
     · have := HG3.out k h; omega
   · omega
  have HF9 := LH hF9
  have R9 := R8.touch T9 (fun k hk hm => (hF9 k hk).2 (by simpa using hm))
  have P9 := HP.out.late ((HP4.out.ext x5).ext X8) T9 (fun k hk => by simp at hk; omega)
  have B9 := ((hB4.ext x5).ext X8).touch' T9 (by simp; omega)
  have T09 := ((HT4.out.trans (Touch.of_ext x5 [B])).trans (Touch.of_ext X8 [B])).late2 T9 (fun k hk => by simp at hk; omega)
  have HP9 := LH P9
  have HT9 := LH T09
  clear hF9 R8 F8 X8 OE8 P9 T09 T9 x5 HSL R5 hO4 hB4 HR4 HS4 HP4 HT4 OY m0 mf0 q0 qf0 r0 m1 mf1 q1 qf1 r1 m2 mf2 q2 qf2 r2 m3 mf3 q3 qf3 r3 m4 mf4 q4 qf4 r4 mz qz rz
  go_wp2_with fail
  refine ⟨⟨eMsg tx [x, y], _, fp8, true, a2, b2, rfl, O9, R9, HF9, HP9.out, HTD3, LH (fun _ => by simp [eMsg]), by omega, B9, HT9.out⟩, ?_⟩
  rw [placeOf_eq HPM.out, placeOf_eq HP9.out]; have := HP9.out.le; omega
end Go.Proofs.YtlcebafhbceejaaGreatDoor
