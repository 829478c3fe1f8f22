/-
  CONTRACTS: the program's parser: nested, done, primary.
  Conditions: those that each lemma states.
-/
import Derived.Test.YtndhpbjhkgdieaaGreatDoorRows
import Derived.Test.YtndhpbjhkgdieaaGreatDoorP25
namespace Go.Proofs.YtndhpbjhkgdieaaGreatDoor
open Go.RowKit
set_option maxHeartbeats 8000000
set_option maxRecDepth 100000
set_option linter.unusedSimpArgs false
set_option linter.unusedVariables false
def EGot (B tb to_ cap : Nat) (ao : Option Addr) (ts : List MToken) (m : Nat) (w : World) (a : Nat) (b : Bool) (F : Nat -> Option (MExpr × Nat)) (e : Ending) (w' : World) : Prop :=
 ∃ x cs fp a' b', e = .returned (.agg (List.toArray cs)) /\ RepF w' (MExpr.d x) cs fp /\ (∀ k, k ∈ fp -> w.heap.size <= k) /\ Prs 49 B tb to_ cap ao ts w' a' b' /\ Got b F b' (x, a') /\ (a + m <= a' /\ (b = false -> a < a' ∨ m = 0)) /\ Touch w w' [B]
def SGot (B tb to_ cap : Nat) (ao : Option Addr) (ts : List MToken) (w : World) (a : Nat) (b : Bool) (F : Nat -> Option (MExpr × Bool × Nat)) (e : Ending) (w' : World) : Prop :=
 ∃ x cs fp s a' b', e = .returned (.tuple #[.agg (List.toArray cs), .bool s]) /\ RepF w' (MExpr.d x) cs fp /\ (∀ k, k ∈ fp -> w.heap.size <= k) /\ Prs 49 B tb to_ cap ao ts w' a' b' /\ Got b F b' (x, s, a') /\ (s = true -> x.kids ≠ []) /\ a < a' /\ Touch w w' [B]
def placeOf (B : Nat) (w : World) : Nat := match w.cell? ⟨B, 1, none⟩ with | some v => (intOf v).toNat | none => 0
theorem placeOf_eq {ty : TypeId} {B tb to_ cap : Nat} {ao : Option Addr} {ts : List MToken} {w : World} {a : Nat} {b : Bool} (h : Prs ty B tb to_ cap ao ts w a b) : placeOf B w = a := by
 have e : w.cell? ⟨B, 1, none⟩ = some (.int .i64 (a : Int)) := h.own.cell 1
 unfold placeOf
 rw [e]
 simp [intOf]
theorem leaf_rep (w : World) (k : Int) (t : ByteArray) (n : Int) : RepF w (MExpr.d ⟨k, t, n, [], []⟩) [.int .i64 k, .string t, .int .i64 n, .slice none 0 0, .slice none 0 0] [] :=
 MExpr.shut (x := ⟨k, t, n, [], []⟩) (RepF.sl_iff.2 ⟨none, 0, rfl, by simp, by unfold maxLen; omega, by simp, Or.inl ⟨rfl, rfl⟩⟩) (RepF.sl_iff.2 ⟨none, 0, rfl, by simp, by unfold maxLen; omega, by simp, Or.inl ⟨rfl, rfl⟩⟩)
theorem own5 {w : World} {r : Nat} {c0 c1 c2 c3 c4 : Value} (h : Own w r 27 #[c0, c1, c2, c3, c4]) (v0 v1 v2 v3 v4 : Value) :
 Own (((((w.setCell ⟨r, 0, none⟩ v0).setCell ⟨r, 1, none⟩ v1).setCell ⟨r, 2, none⟩ v2).setCell ⟨r, 3, none⟩ v3).setCell ⟨r, 4, none⟩ v4) r 27 #[v0, v1, v2, v3, v4] /\
 Touch w (((((w.setCell ⟨r, 0, none⟩ v0).setCell ⟨r, 1, none⟩ v1).setCell ⟨r, 2, none⟩ v2).setCell ⟨r, 3, none⟩ v3).setCell ⟨r, 4, none⟩ v4) [r] :=
 ⟨((((h.set 0 v0).set 1 v1).set 2 v2).set 3 v3).set 4 v4, ((((((Touch.of_ext (XR w) [r]).setCell (by simp) v0).setCell (by simp) v1).setCell (by simp) v2).setCell (by simp) v3).setCell (by simp) v4)⟩
theorem Touch.late2 {w w1 w2 : World} {fp gp : List Nat} (h : Touch w w1 fp) (k : Touch w1 w2 gp) (hg : ∀ b, b ∈ gp -> w.heap.size <= b) : Touch w w2 fp := h.trans' k fun x hx => Or.inr (hg x hx)
theorem fld5 {w : World} {x : MExpr} {cs : List Value} {fp : List Nat} (h : RepF w x.d cs fp) : ∃ a1 c1 a2 c2, cs = [.int .i64 x.kind, .string x.text, .int .i64 x.number, .slice a1 x.names.length c1, .slice a2 x.kids.length c2] := by
 obtain ⟨a1, c1, a2, c2, rfl, -, -⟩ := MExpr.op_en h.rep
 exact ⟨a1, c1, a2, c2, rfl⟩
def NestAt (B tb to_ cap : Nat) (ao : Option Addr) (ts : List MToken) (a : Nat) : Prop := ∀ (w : World) (b : Bool), Prs 49 B tb to_ cap ao ts w (a) b -> Calls Tryz.prog 23 #[.pointer (some ⟨B, 0, none⟩)] w (EGot B tb to_ cap ao ts 0 w a b (fun n => pExpr ts n a))
def ExprAt (B tb to_ cap : Nat) (ao : Option Addr) (ts : List MToken) (a : Nat) : Prop := ∀ (w : World) (b : Bool), Prs 49 B tb to_ cap ao ts w (a) b -> a <= ts.length -> Calls Tryz.prog 57 #[.pointer (some ⟨B, 0, none⟩)] w (EGot B tb to_ cap ao ts 1 w a b (fun n => pExpr ts n a))
def BlockAt (B tb to_ cap : Nat) (ao : Option Addr) (ts : List MToken) (a : Nat) : Prop := ∀ (w : World) (b : Bool), Prs 49 B tb to_ cap ao ts w (a) b -> Calls Tryz.prog 130 #[.pointer (some ⟨B, 0, none⟩)] w (EGot B tb to_ cap ao ts 0 w a b (fun n => pBody ts n a))
theorem nested_at {B tb to_ cap : Nat} {ao : Option Addr} {ts : List MToken} {a : Nat} (IH : a <= ts.length -> ExprAt B tb to_ cap ao ts a) : NestAt B tb to_ cap ao ts a := by
 intro w b h
 have HP := LH h
 obtain ⟨c0, c1, c2⟩ := h.cells
 have zB := lt_of_cell c0
 have hrb := h.own.lt
 cases b
 rotate_left
 · clear h
   go_enter Tryz.func23, Tryz.ntmps23
   go_upto_region 1 with fail
   generalize hS : World.alloc w _ = W1
   have x1 : Ext w W1 := by rw [<- hS]; exact (XR _).alloc _
   have O1 : Own W1 w.heap.size 27 #[.int .i64 0, .string ⟨#[]⟩, .int .i64 0, .slice none 0 0, .slice none 0 0] := by rw [<- hS]; exact own_new w _ _
   clear hS
   replace c2 := x1.cell c2
   have o0 := O1.k0
   have of0 := O1.f0
   have o1 := O1.k1
   have of1 := O1.f1
   have o2 := O1.k2
   have of2 := O1.f2
   have o3 := O1.k3
   have of3 := O1.f3
   have o4 := O1.k4
   have of4 := O1.f4
   have oz := O1.lt
   go_wp2_with fail
   generalize hS : World.setCell (World.setCell (World.setCell (World.setCell (World.setCell W1 _ _) _ _) _ _) _ _) _ _ = W2
   obtain ⟨O2, T2⟩ := own5 O1 (.int .i64 0) (.string ⟨#[]⟩) (.int .i64 0) (.slice none 0 0) (.slice none 0 0)
   rw [hS] at O2 T2
   clear hS
   have x2 : Ext w W2 := Touch.ext x1 T2 (fun k hk => by simp at hk; omega)
   have p0 := O2.k0
   have p1 := O2.k1
   have p2 := O2.k2
   have p3 := O2.k3
   have p4 := O2.k4
   have pz := O2.lt
   have FIN : EGot B tb to_ cap ao ts 0 w a true (fun n => pExpr ts n a) (.returned (.agg #[.int .i64 0, .string ⟨#[]⟩, .int .i64 0, .slice none 0 0, .slice none 0 0])) W2 := ⟨⟨0, ⟨#[]⟩, 0, [], []⟩, _, [], a, true, rfl, leaf_rep _ _ _ _, (fun k hk => nomatch hk), HP.out.ext x2, Got.dead _ _, ⟨Nat.le_refl _, fun h => (by cases h)⟩, Touch.of_ext x2 _⟩
   exact bodyPost_ret (v := .agg #[.int .i64 0, .string ⟨#[]⟩, .int .i64 0, .slice none 0 0, .slice none 0 0]) (by simp [results, Tryz.results23, go_sem, p0, p1, p2, p3, p4, pz]) rfl FIN
 have HE := LH (fun (W : World) (hW : Ext w W) => IH (h.ok rfl) W false (h.ext hW) (h.ok rfl))
 clear h
 go_enter Tryz.func23, Tryz.ntmps23
 go_upto_region 1 with fail
 generalize hS : World.alloc w _ = W1
 have x1 : Ext w W1 := by rw [<- hS]; exact (XR _).alloc _
 have O1 : Own W1 w.heap.size 27 #[.int .i64 0, .string ⟨#[]⟩, .int .i64 0, .slice none 0 0, .slice none 0 0] := by rw [<- hS]; exact own_new w _ _
 clear hS
 replace c2 := x1.cell c2
 go_wp2_with fail
 refine (HE.out _ x1).mono ?_
 rintro e w2 ⟨x, cs, fp, a', b', rfl, hr, hf, hp, hg, hm, hT⟩
 have O1b := O1.touch' hT (by simp; omega)
 have o0 := O1b.k0
 have of0 := O1b.f0
 have o1 := O1b.k1
 have of1 := O1b.f1
 have o2 := O1b.k2
 have of2 := O1b.f2
 have o3 := O1b.k3
 have of3 := O1b.f3
 have o4 := O1b.k4
 have of4 := O1b.f4
 have oz := O1b.lt
 have HR := LH hr
 have hs1 := x1.size
 have HF : Hid (∀ k, k ∈ fp -> w.heap.size + 1 <= k) := LH fun k hk => by have := hf k hk; have := O1.lt; omega
 obtain ⟨y1, y2, y3, y4, rfl⟩ := fld5 hr
 have HPA := LH hp
 have HG := LH hg
 have HM := LH hm
 have HT := LH ((Touch.of_ext x1 [B]).trans hT)
 clear hr hf hp hg hm hT
 go_wp2_with fail
 generalize hS : World.setCell (World.setCell (World.setCell (World.setCell (World.setCell w2 _ _) _ _) _ _) _ _) _ _ = W3
 obtain ⟨O2, T2⟩ := own5 O1b (.int .i64 x.kind) (.string x.text) (.int .i64 x.number) (.slice y1 x.names.length y2) (.slice y3 x.kids.length y4)
 rw [hS] at O2 T2
 clear hS
 have p0 := O2.k0
 have p1 := O2.k1
 have p2 := O2.k2
 have p3 := O2.k3
 have p4 := O2.k4
 have pz := O2.lt
 have FIN : EGot B tb to_ cap ao ts 0 w a false (fun n => pExpr ts n a) (.returned (.agg #[.int .i64 x.kind, .string x.text, .int .i64 x.number, .slice y1 x.names.length y2, .slice y3 x.kids.length y4])) W3 := ⟨x, _, fp, a', b', rfl, HR.out.touch T2 (fun k hk hm => by have := HF.out k hk; simp at hm; omega), fun k hk => by have := HF.out k hk; omega, HP.out.late HPA.out T2 (fun k hk => by simp at hk; omega), HG.out, ⟨by have := HM.out.1; omega, fun _ => Or.inl (by have := HM.out.1; omega)⟩, HT.out.late2 T2 (by simp)⟩
 exact bodyPost_ret (v := .agg #[.int .i64 x.kind, .string x.text, .int .i64 x.number, .slice y1 x.names.length y2, .slice y3 x.kids.length y4]) (by simp [results, Tryz.results23, go_sem, p0, p1, p2, p3, p4, pz]) rfl FIN
theorem primary_at {B tb to_ cap : Nat} {ao : Option Addr} {ts : List MToken} {a : Nat} (HN : NestAt B tb to_ cap ao ts (a + 1)) (HB : BlockAt B tb to_ cap ao ts (a + 1)) (w : World) (b : Bool) (h : Prs 49 B tb to_ cap ao ts w (a) b) (ha : a <= ts.length) : Calls Tryz.prog 122 #[.pointer (some ⟨B, 0, none⟩)] w (EGot B tb to_ cap ao ts 1 w a b (fun n => pPrim ts n a)) := by
 have HP := LH h
 have hln := h.len
 have hrb := h.own.lt
 have HN := LH HN
 have HBL := LH HB
 obtain ⟨kd, hkd⟩ : ∃ x, tkK ts a = x := ⟨_, rfl⟩
 obtain ⟨tx, htx⟩ : ∃ x, tkT ts a = x := ⟨_, rfl⟩
 obtain ⟨nm, hnm⟩ : ∃ x, tkN ts a = x := ⟨_, rfl⟩
 have HC := LH (fun (W : World) (hW : Ext w W) => by
  have := peek_any W (HP.out.ext hW)
  rw [hkd, htx, hnm] at this
  exact this)
 have HKD := LH hkd
 have HTX := LH htx
 have HNM := LH hnm
 have HN0 : Hid (kd ≠ 3 -> nm = 0) := LH (by rw [<- hkd, <- hnm]; exact h.num0)
 clear hkd htx hnm h HB
 go_enter Tryz.func122, Tryz.ntmps122
 go_upto_region 1 with fail
 generalize hS : World.alloc w _ = W1
 have x1 : Ext w W1 := by rw [<- hS]; exact (XR _).alloc _
 have O1 : Own W1 w.heap.size 27 #[.int .i64 0, .string ⟨#[]⟩, .int .i64 0, .slice none 0 0, .slice none 0 0] := by rw [<- hS]; exact own_new w _ _
 clear hS
 go_wp2_with fail
 refine (HC.out _ x1).mono ?_
 rintro e w2 ⟨rfl, hx⟩
 have x2 := x1.trans hx
 have O2 := O1.ext hx
 clear O1 hx x1
 go_upto_region 2 with fail
 generalize hS : World.alloc w2 _ = W3
 have x3 : Ext w W3 := by rw [<- hS]; exact x2.alloc _
 have O3 := (show Own W3 w.heap.size 27 #[.int .i64 0, .string ⟨#[]⟩, .int .i64 0, .slice none 0 0, .slice none 0 0] by rw [<- hS]; exact O2.ext ((XR _).alloc _))
 have OT : Own W3 w2.heap.size 44 #[.int .i64 kd, .string tx, .int .i64 nm] := by rw [<- hS]; exact own_new w2 _ _
 have hs2 := x2.size
 have hzo := O2.lt
 clear hS O2 x2
 generalize hbt : w2.heap.size = bt at *
 clear hbt
 have HP3 := LH (HP.out.ext x3)
 have X3 := LH x3
 obtain ⟨c0, c1, c2⟩ := HP3.out.cells
 have zB := lt_of_cell c0
 have f1 := HP3.out.own.f1
 clear x3
 go_upto_region 3 with fail
 generalize hS : World.setCell W3 _ _ = W4
 by_cases hl : a < ts.length
 rotate_left
 · have e0 : kd = 0 := by rw [<- HKD.out]; exact (tkK_none (by omega)).1
   subst e0
   have HG : Hid (Got b (fun n => pPrim ts n a) true ((⟨0, ⟨#[]⟩, 0, [], []⟩ : MExpr), a + 1)) := LH (by
    have nk : ∀ k : Int, k ≠ 0 -> tkB ts a k = false := fun k hk => by rw [tkB_eq hk, HKD.out]; simpa using fun h => hk h.symm
    have nx : ∀ s, tkxB ts a 7 s = false := fun s => by rw [tkxB_eq (by decide), HKD.out]; rfl
    exact Got.bad _ (Ev.step (g := fun _ => none) (fun n => by rw [pPrim, if_neg (by rw [nk 1 (by decide)]; decide), if_neg (by rw [nk 3 (by decide)]; decide), if_neg (by rw [nk 4 (by decide)]; decide), if_neg (by rw [nk 5 (by decide)]; decide), if_neg (by rw [nx]; decide), if_neg (by rw [nx]; decide)]) (Ev.const _)))
   have O3b := HP3.out.own.set 1 (.int .i64 ((a : Int) + 1))
   rw [hS] at O3b
   have TB4 : Touch W3 W4 [B] := by rw [<- hS]; exact (Touch.of_ext (XR W3) [B]).setCell (by simp) _
   have O4 := O3.touch' TB4 (by simp; omega)
   have OT4 := OT.touch' TB4 (by simp; omega)
   have HS := LH hS
   clear hS O3 OT c0 c1 c2 zB f1 TB4
   have c2 := O3b.k2
   have f2 := O3b.f2
   have zB := O3b.lt
   have t0 := OT4.k0
   have t1 := OT4.k1
   have t2 := OT4.k2
   have tz := OT4.lt
   clear O3b
   go_upto_region 20 with fail
   generalize hS2 : World.setCell W4 _ _ = W5
   obtain ⟨K5, T5⟩ := HP3.out.setBoth (a + 1) (by omega)
   rw [show ((a + 1 : Nat) : Int) = (a : Int) + 1 by omega, HS.out, hS2] at K5 T5
   have T45 : Touch W4 W5 [B] := by rw [<- hS2]; exact (Touch.of_ext (XR W4) [B]).setCell (by simp) _
   have O5 := O4.touch' T45 (by simp; omega)
   have HP5 := LH K5
   have HT5 := LH ((Touch.of_ext X3.out [B]).trans T5)
   clear hS2 K5 T5 T45 c2 f2 zB
   have o0 := O5.k0
   have of0 := O5.f0
   have o1 := O5.k1
   have of1 := O5.f1
   have o2 := O5.k2
   have of2 := O5.f2
   have o3 := O5.k3
   have of3 := O5.f3
   have o4 := O5.k4
   have of4 := O5.f4
   have oz := O5.lt
   go_wp2_with fail
   generalize hS : World.setCell (World.setCell (World.setCell (World.setCell (World.setCell W5 _ _) _ _) _ _) _ _) _ _ = W6
   obtain ⟨O6, T6⟩ := own5 O5 (.int .i64 0) (.string ⟨#[]⟩) (.int .i64 0) (.slice none 0 0) (.slice none 0 0)
   rw [hS] at O6 T6
   clear hS
   have p0 := O6.k0
   have p1 := O6.k1
   have p2 := O6.k2
   have p3 := O6.k3
   have p4 := O6.k4
   have pz := O6.lt
   have FIN : EGot B tb to_ cap ao ts 1 w a b (fun n => pPrim ts n a) (.returned (.agg #[.int .i64 0, .string ⟨#[]⟩, .int .i64 0, .slice none 0 0, .slice none 0 0])) W6 := ⟨⟨0, ⟨#[]⟩, 0, [], []⟩, _, [], a + 1, true, rfl, leaf_rep _ _ _ _, (fun k hk => nomatch hk), HP.out.late HP5.out T6 (fun k hk => by simp at hk; omega), HG.out, ⟨Nat.le_refl _, fun _ => Or.inl (by omega)⟩, HT5.out.late2 T6 (fun k hk => by simp at hk; omega)⟩
   exact bodyPost_ret (v := .agg #[.int .i64 0, .string ⟨#[]⟩, .int .i64 0, .slice none 0 0, .slice none 0 0]) (by simp [results, Tryz.results122, go_sem, p0, p1, p2, p3, p4, pz]) rfl FIN
 obtain ⟨K4, T4⟩ := HP3.out.setAt (a + 1) (by omega) (fun _ => by omega)
 rw [show ((a + 1 : Nat) : Int) = (a : Int) + 1 by omega, hS] at K4 T4
 have O4 := O3.touch' T4 (by simp; omega)
 have OT4 := OT.touch' T4 (by simp; omega)
 have HP4 := LH K4
 have HT4 := LH ((Touch.of_ext X3.out [B]).trans T4)
 clear hS K4 T4 O3 OT c0 c1 c2 zB f1 HP3 X3
 have o0 := O4.k0
 have of0 := O4.f0
 have o1 := O4.k1
 have of1 := O4.f1
 have o2 := O4.k2
 have of2 := O4.f2
 have o3 := O4.k3
 have of3 := O4.f3
 have o4 := O4.k4
 have of4 := O4.f4
 have oz := O4.lt
 have t0 := OT4.k0
 have t1 := OT4.k1
 have t2 := OT4.k2
 have tz := OT4.lt
 by_cases k1 : kd = 1
 · have TB : Hid (tkB ts a 1 = true) := LH ((kind_eq (by decide)).2 (by rw [HKD.out]; exact k1))
   have s1 := int_eq k1
   clear k1
   go_wp2_with fail
   generalize hS : World.setCell (World.setCell (World.setCell (World.setCell (World.setCell W4 _ _) _ _) _ _) _ _) _ _ = W5
   obtain ⟨O5, T5⟩ := own5 O4 (.int .i64 4) (.string tx) (.int .i64 0) (.slice none 0 0) (.slice none 0 0)
   rw [hS] at O5 T5
   clear hS
   have p0 := O5.k0
   have p1 := O5.k1
   have p2 := O5.k2
   have p3 := O5.k3
   have p4 := O5.k4
   have pz := O5.lt
   have FIN : EGot B tb to_ cap ao ts 1 w a b (fun n => pPrim ts n a) (.returned (.agg #[.int .i64 4, .string tx, .int .i64 0, .slice none 0 0, .slice none 0 0])) W5 := ⟨eName tx, _, [], a + 1, b, rfl, leaf_rep _ _ _ _, (fun k hk => nomatch hk), HP.out.late HP4.out T5 (fun k hk => by simp at hk; omega), Got.ok (Ev.step (g := fun _ => some (eName tx, a + 1)) (fun n => by
    rw [pPrim]
    rw [if_pos TB.out, HTX.out]) (Ev.const _)), ⟨Nat.le_refl _, fun _ => Or.inl (by omega)⟩, HT4.out.late2 T5 (fun k hk => by simp at hk; omega)⟩
   exact bodyPost_ret (v := .agg #[.int .i64 4, .string tx, .int .i64 0, .slice none 0 0, .slice none 0 0]) (by simp [results, Tryz.results122, go_sem, p0, p1, p2, p3, p4, pz]) rfl FIN
 have s1 := int_ne k1
 have NB1 : Hid (tkB ts a 1 = false) := LH (by
  cases hh : tkB ts a 1
  · rfl
  · exact absurd (by rw [<- HKD.out]; exact (kind_eq (by decide)).1 hh) k1)
 clear k1
 by_cases k3 : kd = 3
 · have TB : Hid (tkB ts a 3 = true) := LH ((kind_eq (by decide)).2 (by rw [HKD.out]; exact k3))
   have s3 := int_eq k3
   clear k3
   go_wp2_with fail
   generalize hS : World.setCell (World.setCell (World.setCell (World.setCell (World.setCell W4 _ _) _ _) _ _) _ _) _ _ = W5
   obtain ⟨O5, T5⟩ := own5 O4 (.int .i64 1) (.string ⟨#[]⟩) (.int .i64 nm) (.slice none 0 0) (.slice none 0 0)
   rw [hS] at O5 T5
   clear hS
   have p0 := O5.k0
   have p1 := O5.k1
   have p2 := O5.k2
   have p3 := O5.k3
   have p4 := O5.k4
   have pz := O5.lt
   have FIN : EGot B tb to_ cap ao ts 1 w a b (fun n => pPrim ts n a) (.returned (.agg #[.int .i64 1, .string ⟨#[]⟩, .int .i64 nm, .slice none 0 0, .slice none 0 0])) W5 := ⟨eInt nm, _, [], a + 1, b, rfl, leaf_rep _ _ _ _, (fun k hk => nomatch hk), HP.out.late HP4.out T5 (fun k hk => by simp at hk; omega), Got.ok (Ev.step (g := fun _ => some (eInt nm, a + 1)) (fun n => by
    rw [pPrim]
    rw [if_neg (by rw [NB1.out]; decide)]
    rw [if_pos TB.out, HNM.out]) (Ev.const _)), ⟨Nat.le_refl _, fun _ => Or.inl (by omega)⟩, HT4.out.late2 T5 (fun k hk => by simp at hk; omega)⟩
   exact bodyPost_ret (v := .agg #[.int .i64 1, .string ⟨#[]⟩, .int .i64 nm, .slice none 0 0, .slice none 0 0]) (by simp [results, Tryz.results122, go_sem, p0, p1, p2, p3, p4, pz]) rfl FIN
 have s3 := int_ne k3
 have NB3 : Hid (tkB ts a 3 = false) := LH (by
  cases hh : tkB ts a 3
  · rfl
  · exact absurd (by rw [<- HKD.out]; exact (kind_eq (by decide)).1 hh) k3)
 have n0 := HN0.out k3
 clear k3
 subst n0
 by_cases k4 : kd = 4
 · have TB : Hid (tkB ts a 4 = true) := LH ((kind_eq (by decide)).2 (by rw [HKD.out]; exact k4))
   have s4 := int_eq k4
   clear k4
   go_wp2_with fail
   generalize hS : World.setCell (World.setCell (World.setCell (World.setCell (World.setCell W4 _ _) _ _) _ _) _ _) _ _ = W5
   obtain ⟨O5, T5⟩ := own5 O4 (.int .i64 2) (.string tx) (.int .i64 0) (.slice none 0 0) (.slice none 0 0)
   rw [hS] at O5 T5
   clear hS
   have p0 := O5.k0
   have p1 := O5.k1
   have p2 := O5.k2
   have p3 := O5.k3
   have p4 := O5.k4
   have pz := O5.lt
   have FIN : EGot B tb to_ cap ao ts 1 w a b (fun n => pPrim ts n a) (.returned (.agg #[.int .i64 2, .string tx, .int .i64 0, .slice none 0 0, .slice none 0 0])) W5 := ⟨eText tx, _, [], a + 1, b, rfl, leaf_rep _ _ _ _, (fun k hk => nomatch hk), HP.out.late HP4.out T5 (fun k hk => by simp at hk; omega), Got.ok (Ev.step (g := fun _ => some (eText tx, a + 1)) (fun n => by
    rw [pPrim]
    rw [if_neg (by rw [NB1.out]; decide)]
    rw [if_neg (by rw [NB3.out]; decide)]
    rw [if_pos TB.out, HTX.out]) (Ev.const _)), ⟨Nat.le_refl _, fun _ => Or.inl (by omega)⟩, HT4.out.late2 T5 (fun k hk => by simp at hk; omega)⟩
   exact bodyPost_ret (v := .agg #[.int .i64 2, .string tx, .int .i64 0, .slice none 0 0, .slice none 0 0]) (by simp [results, Tryz.results122, go_sem, p0, p1, p2, p3, p4, pz]) rfl FIN
 have s4 := int_ne k4
 have NB4 : Hid (tkB ts a 4 = false) := LH (by
  cases hh : tkB ts a 4
  · rfl
  · exact absurd (by rw [<- HKD.out]; exact (kind_eq (by decide)).1 hh) k4)
 clear k4
 by_cases k5 : kd = 5
 · have TB : Hid (tkB ts a 5 = true) := LH ((kind_eq (by decide)).2 (by rw [HKD.out]; exact k5))
   have s5 := int_eq k5
   clear k5
   go_wp2_with fail
   generalize hS : World.setCell (World.setCell (World.setCell (World.setCell (World.setCell W4 _ _) _ _) _ _) _ _) _ _ = W5
   obtain ⟨O5, T5⟩ := own5 O4 (.int .i64 3) (.string tx) (.int .i64 0) (.slice none 0 0) (.slice none 0 0)
   rw [hS] at O5 T5
   clear hS
   have p0 := O5.k0
   have p1 := O5.k1
   have p2 := O5.k2
   have p3 := O5.k3
   have p4 := O5.k4
   have pz := O5.lt
   have FIN : EGot B tb to_ cap ao ts 1 w a b (fun n => pPrim ts n a) (.returned (.agg #[.int .i64 3, .string tx, .int .i64 0, .slice none 0 0, .slice none 0 0])) W5 := ⟨eSym tx, _, [], a + 1, b, rfl, leaf_rep _ _ _ _, (fun k hk => nomatch hk), HP.out.late HP4.out T5 (fun k hk => by simp at hk; omega), Got.ok (Ev.step (g := fun _ => some (eSym tx, a + 1)) (fun n => by
    rw [pPrim]
    rw [if_neg (by rw [NB1.out]; decide)]
    rw [if_neg (by rw [NB3.out]; decide)]
    rw [if_neg (by rw [NB4.out]; decide)]
    rw [if_pos TB.out, HTX.out]) (Ev.const _)), ⟨Nat.le_refl _, fun _ => Or.inl (by omega)⟩, HT4.out.late2 T5 (fun k hk => by simp at hk; omega)⟩
   exact bodyPost_ret (v := .agg #[.int .i64 3, .string tx, .int .i64 0, .slice none 0 0, .slice none 0 0]) (by simp [results, Tryz.results122, go_sem, p0, p1, p2, p3, p4, pz]) rfl FIN
 have s5 := int_ne k5
 have NB5 : Hid (tkB ts a 5 = false) := LH (by
  cases hh : tkB ts a 5
  · rfl
  · exact absurd (by rw [<- HKD.out]; exact (kind_eq (by decide)).1 hh) k5)
 clear k5
 by_cases hlp : tkxB ts a 7 lparM = true
 · have HB_ := LH hlp
   obtain ⟨e1, e2⟩ := (tok_eq (by decide)).1 hlp
   rw [HKD.out] at e1
   rw [HTX.out] at e2
   replace e2 : tx = ⟨#[40]⟩ := e2
   subst e1
   subst e2
   clear hlp
   go_wp2_with fail
   refine (HN.out W4 b HP4.out).mono ?_
   rintro e w5 ⟨x, cs, fp, a', b', rfl, hr, hf, hp, hg, hm, hT⟩
   have O5 := O4.touch' hT (by simp; omega)
   have HT5 := LH (HT4.out.trans hT)
   have hs5 := hT.size
   have hm1 := hm.1
   have HR := LH hr
   have HF : Hid (∀ k, k ∈ fp -> w.heap.size + 1 <= k) := LH fun k hk => by have := hf k hk; have := O4.lt; omega
   obtain ⟨y1, y2, y3, y4, rfl⟩ := fld5 hr
   have HP5 := LH hp
   have TD := (Todo.refl b (fun n => pPrim ts n a)).call hg (g := fun n r => if tkxB ts r.2 7 rparM = true then some (r.1, r.2 + 1) else none) (fun n => by rw [pPrim]; rw [if_neg (by rw [NB1.out]; decide), if_neg (by rw [NB3.out]; decide), if_neg (by rw [NB4.out]; decide), if_neg (by rw [NB5.out]; decide), if_pos HB_.out])
   have HTD := LH TD
   clear hr hf hp hg hm hT TD O4 OT4 t0 t1 t2 tz o0 of0 o1 of1 o2 of2 o3 of3 o4 of4 oz
   go_upto_region 13 with fail
   generalize hS : World.alloc w5 _ = W6
   have x6 : Ext w5 W6 := by rw [<- hS]; exact (XR _).alloc _
   have OE : Own W6 w5.heap.size 27 #[.int .i64 x.kind, .string x.text, .int .i64 x.number, .slice y1 x.names.length y2, .slice y3 x.kids.length y4] := by rw [<- hS]; exact own_new w5 _ _
   have hs6 := O5.lt
   have O6 := O5.ext x6
   have HP6 := LH (HP5.out.ext x6)
   have HX6 := LH x6
   have hs7 := x6.size
   clear hS O5 x6
   generalize hbe : w5.heap.size = be at *
   clear hbe
   cases he : tkxB ts a' 7 rparM
   · have HW := LH (want_no W6 HP6.out 7 ⟨#[41]⟩ (by decide) he)
     have HG : Hid (Got b (fun n => pPrim ts n a) true (x, a')) := LH (HTD.out.fail _ (fun n => by show (if tkxB ts a' 7 rparM = true then some (x, a' + 1) else none) = none; rw [if_neg (by rw [he]; decide)]))
     clear he HTD
     go_wp2_with fail
     refine HW.out.mono ?_
     rintro e w7 ⟨rfl, K7, T7⟩
     have O7 := O6.touch' T7 (by simp; omega)
     have OE7 := OE.touch' T7 (by simp; omega)
     have HP7 := LH K7
     have HT7 := LH ((HT5.out.trans (Touch.of_ext HX6.out [B])).trans T7)
     have HR7 := LH ((HR.out.ext HX6.out).touch T7 (fun k hk hm => by have := HF.out k hk; simp at hm; omega))
     clear K7 T7 O6 OE HX6 HR HT5 HP6
     have o0 := O7.k0
     have of0 := O7.f0
     have o1 := O7.k1
     have of1 := O7.f1
     have o2 := O7.k2
     have of2 := O7.f2
     have o3 := O7.k3
     have of3 := O7.f3
     have o4 := O7.k4
     have of4 := O7.f4
     have oz := O7.lt
     have q0 := OE7.k0
     have q1 := OE7.k1
     have q2 := OE7.k2
     have q3 := OE7.k3
     have q4 := OE7.k4
     have qz := OE7.lt
     go_wp2_with fail
     generalize hS : World.setCell (World.setCell (World.setCell (World.setCell (World.setCell w7 _ _) _ _) _ _) _ _) _ _ = W8
     obtain ⟨O8, T8⟩ := own5 O7 (.int .i64 x.kind) (.string x.text) (.int .i64 x.number) (.slice y1 x.names.length y2) (.slice y3 x.kids.length y4)
     rw [hS] at O8 T8
     clear hS
     have p0 := O8.k0
     have p1 := O8.k1
     have p2 := O8.k2
     have p3 := O8.k3
     have p4 := O8.k4
     have pz := O8.lt
     have FIN : EGot B tb to_ cap ao ts 1 w a b (fun n => pPrim ts n a) (.returned (.agg #[.int .i64 x.kind, .string x.text, .int .i64 x.number, .slice y1 x.names.length y2, .slice y3 x.kids.length y4])) W8 := ⟨x, _, fp, a', true, rfl, HR7.out.touch T8 (fun k hk hm => by have := HF.out k hk; simp at hm; omega), fun k hk => by have := HF.out k hk; omega, HP.out.late HP7.out T8 (fun k hk => by simp at hk; omega), HG.out, ⟨by omega, fun _ => Or.inl (by omega)⟩, HT7.out.late2 T8 (fun k hk => by simp at hk; omega)⟩
     exact bodyPost_ret (v := .agg #[.int .i64 x.kind, .string x.text, .int .i64 x.number, .slice y1 x.names.length y2, .slice y3 x.kids.length y4]) (by simp [results, Tryz.results122, go_sem, p0, p1, p2, p3, p4, pz]) rfl FIN
   have HW := LH (want_yes W6 HP6.out 7 ⟨#[41]⟩ (by decide) he)
   have HG : Hid (Got b (fun n => pPrim ts n a) b' (x, a' + 1)) := LH (HTD.out.done (fun n => by show (if tkxB ts a' 7 rparM = true then some (x, a' + 1) else none) = some (x, a' + 1); rw [if_pos he]))
   clear he HTD
   go_wp2_with fail
   refine HW.out.mono ?_
   rintro e w7 ⟨rfl, K7, T7⟩
   have O7 := O6.touch' T7 (by simp; omega)
   have OE7 := OE.touch' T7 (by simp; omega)
   have HP7 := LH K7
   have HT7 := LH ((HT5.out.trans (Touch.of_ext HX6.out [B])).trans T7)
   have HR7 := LH ((HR.out.ext HX6.out).touch T7 (fun k hk hm => by have := HF.out k hk; simp at hm; omega))
   clear K7 T7 O6 OE HX6 HR HT5 HP6
   have o0 := O7.k0
   have of0 := O7.f0
   have o1 := O7.k1
   have of1 := O7.f1
   have o2 := O7.k2
   have of2 := O7.f2
   have o3 := O7.k3
   have of3 := O7.f3
   have o4 := O7.k4
   have of4 := O7.f4
   have oz := O7.lt
   have q0 := OE7.k0
   have q1 := OE7.k1
   have q2 := OE7.k2
   have q3 := OE7.k3
   have q4 := OE7.k4
   have qz := OE7.lt
   go_wp2_with fail
   generalize hS : World.setCell (World.setCell (World.setCell (World.setCell (World.setCell w7 _ _) _ _) _ _) _ _) _ _ = W8
   obtain ⟨O8, T8⟩ := own5 O7 (.int .i64 x.kind) (.string x.text) (.int .i64 x.number) (.slice y1 x.names.length y2) (.slice y3 x.kids.length y4)
   rw [hS] at O8 T8
   clear hS
   have p0 := O8.k0
   have p1 := O8.k1
   have p2 := O8.k2
   have p3 := O8.k3
   have p4 := O8.k4
   have pz := O8.lt
   have FIN : EGot B tb to_ cap ao ts 1 w a b (fun n => pPrim ts n a) (.returned (.agg #[.int .i64 x.kind, .string x.text, .int .i64 x.number, .slice y1 x.names.length y2, .slice y3 x.kids.length y4])) W8 := ⟨x, _, fp, a' + 1, b', rfl, HR7.out.touch T8 (fun k hk hm => by have := HF.out k hk; simp at hm; omega), fun k hk => by have := HF.out k hk; omega, HP.out.late HP7.out T8 (fun k hk => by simp at hk; omega), HG.out, ⟨by omega, fun _ => Or.inl (by omega)⟩, HT7.out.late2 T8 (fun k hk => by simp at hk; omega)⟩
   exact bodyPost_ret (v := .agg #[.int .i64 x.kind, .string x.text, .int .i64 x.number, .slice y1 x.names.length y2, .slice y3 x.kids.length y4]) (by simp [results, Tryz.results122, go_sem, p0, p1, p2, p3, p4, pz]) rfl FIN
 have hnl := hlp
 by_cases hlp : tkxB ts a 7 lbrM = true
 · have HNL := LH hnl
   clear hnl
   have HB_ := LH hlp
   obtain ⟨e1, e2⟩ := (tok_eq (by decide)).1 hlp
   rw [HKD.out] at e1
   rw [HTX.out] at e2
   replace e2 : tx = ⟨#[91]⟩ := e2
   subst e1
   subst e2
   clear hlp
   go_wp2_with fail
   refine (HBL.out W4 b HP4.out).mono ?_
   rintro e w5 ⟨x, cs, fp, a', b', rfl, hr, hf, hp, hg, hm, hT⟩
   have O5 := O4.touch' hT (by simp; omega)
   have HT5 := LH (HT4.out.trans hT)
   have hs5 := hT.size
   have hm1 := hm.1
   have HR := LH hr
   have HF : Hid (∀ k, k ∈ fp -> w.heap.size + 1 <= k) := LH fun k hk => by have := hf k hk; have := O4.lt; omega
   obtain ⟨y1, y2, y3, y4, rfl⟩ := fld5 hr
   have HP5 := LH hp
   have TD := (Todo.refl b (fun n => pPrim ts n a)).step (H := fun n => pBlock ts n (a + 1)) (fun n => by rw [pPrim]; rw [if_neg (by rw [NB1.out]; decide), if_neg (by rw [NB3.out]; decide), if_neg (by rw [NB4.out]; decide), if_neg (by rw [NB5.out]; decide), if_neg HNL.out, if_pos HB_.out]) |>.call hg (g := fun n r => if tkxB ts r.2 7 rbrM = true then some (r.1, r.2 + 1) else none) (fun n => by rw [pBlock])
   have HTD := LH TD
   clear hr hf hp hg hm hT TD O4 OT4 t0 t1 t2 tz o0 of0 o1 of1 o2 of2 o3 of3 o4 of4 oz
   go_upto_region 17 with fail
   generalize hS : World.alloc w5 _ = W6
   have x6 : Ext w5 W6 := by rw [<- hS]; exact (XR _).alloc _
   have OE : Own W6 w5.heap.size 27 #[.int .i64 x.kind, .string x.text, .int .i64 x.number, .slice y1 x.names.length y2, .slice y3 x.kids.length y4] := by rw [<- hS]; exact own_new w5 _ _
   have hs6 := O5.lt
   have O6 := O5.ext x6
   have HP6 := LH (HP5.out.ext x6)
   have HX6 := LH x6
   have hs7 := x6.size
   clear hS O5 x6
   generalize hbe : w5.heap.size = be at *
   clear hbe
   cases he : tkxB ts a' 7 rbrM
   · have HW := LH (want_no W6 HP6.out 7 ⟨#[93]⟩ (by decide) he)
     have HG : Hid (Got b (fun n => pPrim ts n a) true (x, a')) := LH (HTD.out.fail _ (fun n => by show (if tkxB ts a' 7 rbrM = true then some (x, a' + 1) else none) = none; rw [if_neg (by rw [he]; decide)]))
     clear he HTD
     go_wp2_with fail
     refine HW.out.mono ?_
     rintro e w7 ⟨rfl, K7, T7⟩
     have O7 := O6.touch' T7 (by simp; omega)
     have OE7 := OE.touch' T7 (by simp; omega)
     have HP7 := LH K7
     have HT7 := LH ((HT5.out.trans (Touch.of_ext HX6.out [B])).trans T7)
     have HR7 := LH ((HR.out.ext HX6.out).touch T7 (fun k hk hm => by have := HF.out k hk; simp at hm; omega))
     clear K7 T7 O6 OE HX6 HR HT5 HP6
     have o0 := O7.k0
     have of0 := O7.f0
     have o1 := O7.k1
     have of1 := O7.f1
     have o2 := O7.k2
     have of2 := O7.f2
     have o3 := O7.k3
     have of3 := O7.f3
     have o4 := O7.k4
     have of4 := O7.f4
     have oz := O7.lt
     have q0 := OE7.k0
     have q1 := OE7.k1
     have q2 := OE7.k2
     have q3 := OE7.k3
     have q4 := OE7.k4
     have qz := OE7.lt
     go_wp2_with fail
     generalize hS : World.setCell (World.setCell (World.setCell (World.setCell (World.setCell w7 _ _) _ _) _ _) _ _) _ _ = W8
     obtain ⟨O8, T8⟩ := own5 O7 (.int .i64 x.kind) (.string x.text) (.int .i64 x.number) (.slice y1 x.names.length y2) (.slice y3 x.kids.length y4)
     rw [hS] at O8 T8
     clear hS
     have p0 := O8.k0
     have p1 := O8.k1
     have p2 := O8.k2
     have p3 := O8.k3
     have p4 := O8.k4
     have pz := O8.lt
     have FIN : EGot B tb to_ cap ao ts 1 w a b (fun n => pPrim ts n a) (.returned (.agg #[.int .i64 x.kind, .string x.text, .int .i64 x.number, .slice y1 x.names.length y2, .slice y3 x.kids.length y4])) W8 := ⟨x, _, fp, a', true, rfl, HR7.out.touch T8 (fun k hk hm => by have := HF.out k hk; simp at hm; omega), fun k hk => by have := HF.out k hk; omega, HP.out.late HP7.out T8 (fun k hk => by simp at hk; omega), HG.out, ⟨by omega, fun _ => Or.inl (by omega)⟩, HT7.out.late2 T8 (fun k hk => by simp at hk; omega)⟩
     exact bodyPost_ret (v := .agg #[.int .i64 x.kind, .string x.text, .int .i64 x.number, .slice y1 x.names.length y2, .slice y3 x.kids.length y4]) (by simp [results, Tryz.results122, go_sem, p0, p1, p2, p3, p4, pz]) rfl FIN
   have HW := LH (want_yes W6 HP6.out 7 ⟨#[93]⟩ (by decide) he)
   have HG : Hid (Got b (fun n => pPrim ts n a) b' (x, a' + 1)) := LH (HTD.out.done (fun n => by show (if tkxB ts a' 7 rbrM = true then some (x, a' + 1) else none) = some (x, a' + 1); rw [if_pos he]))
   clear he HTD
   go_wp2_with fail
   refine HW.out.mono ?_
   rintro e w7 ⟨rfl, K7, T7⟩
   have O7 := O6.touch' T7 (by simp; omega)
   have OE7 := OE.touch' T7 (by simp; omega)
   have HP7 := LH K7
   have HT7 := LH ((HT5.out.trans (Touch.of_ext HX6.out [B])).trans T7)
   have HR7 := LH ((HR.out.ext HX6.out).touch T7 (fun k hk hm => by have := HF.out k hk; simp at hm; omega))
   clear K7 T7 O6 OE HX6 HR HT5 HP6
   have o0 := O7.k0
   have of0 := O7.f0
   have o1 := O7.k1
   have of1 := O7.f1
   have o2 := O7.k2
   have of2 := O7.f2
   have o3 := O7.k3
   have of3 := O7.f3
   have o4 := O7.k4
   have of4 := O7.f4
   have oz := O7.lt
   have q0 := OE7.k0
   have q1 := OE7.k1
   have q2 := OE7.k2
   have q3 := OE7.k3
   have q4 := OE7.k4
   have qz := OE7.lt
   go_wp2_with fail
   generalize hS : World.setCell (World.setCell (World.setCell (World.setCell (World.setCell w7 _ _) _ _) _ _) _ _) _ _ = W8
   obtain ⟨O8, T8⟩ := own5 O7 (.int .i64 x.kind) (.string x.text) (.int .i64 x.number) (.slice y1 x.names.length y2) (.slice y3 x.kids.length y4)
   rw [hS] at O8 T8
   clear hS
   have p0 := O8.k0
   have p1 := O8.k1
   have p2 := O8.k2
   have p3 := O8.k3
   have p4 := O8.k4
   have pz := O8.lt
   have FIN : EGot B tb to_ cap ao ts 1 w a b (fun n => pPrim ts n a) (.returned (.agg #[.int .i64 x.kind, .string x.text, .int .i64 x.number, .slice y1 x.names.length y2, .slice y3 x.kids.length y4])) W8 := ⟨x, _, fp, a' + 1, b', rfl, HR7.out.touch T8 (fun k hk hm => by have := HF.out k hk; simp at hm; omega), fun k hk => by have := HF.out k hk; omega, HP.out.late HP7.out T8 (fun k hk => by simp at hk; omega), HG.out, ⟨by omega, fun _ => Or.inl (by omega)⟩, HT7.out.late2 T8 (fun k hk => by simp at hk; omega)⟩
   exact bodyPost_ret (v := .agg #[.int .i64 x.kind, .string x.text, .int .i64 x.number, .slice y1 x.names.length y2, .slice y3 x.kids.length y4]) (by simp [results, Tryz.results122, go_sem, p0, p1, p2, p3, p4, pz]) rfl FIN
 have HB_ : Hid (tkxB ts a 7 lbrM = false) := LH (by simpa using hlp)
 have HNL : Hid (tkxB ts a 7 lparM = false) := LH (by simpa using hnl)
 clear hlp hnl
 have HG : Hid (Got b (fun n => pPrim ts n a) true ((⟨0, ⟨#[]⟩, 0, [], []⟩ : MExpr), a + 1)) := LH (Got.bad _ (Ev.step (g := fun _ => none) (fun n => by rw [pPrim]; rw [if_neg (by rw [NB1.out]; decide), if_neg (by rw [NB3.out]; decide), if_neg (by rw [NB4.out]; decide), if_neg (by rw [NB5.out]; decide), if_neg (by rw [HNL.out]; decide), if_neg (by rw [HB_.out]; decide)]) (Ev.const _)))
 obtain ⟨c0, c1, c2⟩ := HP4.out.cells
 have f2 := HP4.out.own.f2
 have zB := lt_of_cell c0
 clear o0 of0 o1 of1 o2 of2 o3 of3 o4 of4 oz
 have P5 : W4.cell? ⟨B, 2, none⟩ = some (.bool b) := c2
 by_cases k7 : kd = 7
 · have u1 : (tx.toList == [40]) = false := str_ne' (l := [40]) (fun e => by
    have := (tok_eq (ts := ts) (a := a) (k := 7) (s := lparM) (by decide)).2 ⟨by rw [HKD.out]; exact k7, by rw [HTX.out]; exact e⟩
    rw [HNL.out] at this; cases this)
   have u2 : (tx.toList == [91]) = false := str_ne' (l := [91]) (fun e => by
    have := (tok_eq (ts := ts) (a := a) (k := 7) (s := lbrM) (by decide)).2 ⟨by rw [HKD.out]; exact k7, by rw [HTX.out]; exact e⟩
    rw [HB_.out] at this; cases this)
   have s7 := int_eq k7
   clear k7
   go_upto_region 20 with fail
   generalize hS2 : World.setCell W4 _ _ = W5
   obtain ⟨K5, T5⟩ := HP4.out.setBad
   rw [hS2] at K5 T5
   have O5 := O4.touch' T5 (by simp; omega)
   have HP5 := LH K5
   have HT5 := LH (HT4.out.trans T5)
   clear hS2 K5 T5 c0 c1 c2 f2 zB P5
   have o0 := O5.k0
   have of0 := O5.f0
   have o1 := O5.k1
   have of1 := O5.f1
   have o2 := O5.k2
   have of2 := O5.f2
   have o3 := O5.k3
   have of3 := O5.f3
   have o4 := O5.k4
   have of4 := O5.f4
   have oz := O5.lt
   go_wp2_with fail
   generalize hS : World.setCell (World.setCell (World.setCell (World.setCell (World.setCell W5 _ _) _ _) _ _) _ _) _ _ = W6
   obtain ⟨O6, T6⟩ := own5 O5 (.int .i64 0) (.string ⟨#[]⟩) (.int .i64 0) (.slice none 0 0) (.slice none 0 0)
   rw [hS] at O6 T6
   clear hS
   have p0 := O6.k0
   have p1 := O6.k1
   have p2 := O6.k2
   have p3 := O6.k3
   have p4 := O6.k4
   have pz := O6.lt
   have FIN : EGot B tb to_ cap ao ts 1 w a b (fun n => pPrim ts n a) (.returned (.agg #[.int .i64 0, .string ⟨#[]⟩, .int .i64 0, .slice none 0 0, .slice none 0 0])) W6 := ⟨⟨0, ⟨#[]⟩, 0, [], []⟩, _, [], a + 1, true, rfl, leaf_rep _ _ _ _, (fun k hk => nomatch hk), HP.out.late HP5.out T6 (fun k hk => by simp at hk; omega), HG.out, ⟨Nat.le_refl _, fun _ => Or.inl (by omega)⟩, HT5.out.late2 T6 (fun k hk => by simp at hk; omega)⟩
   exact bodyPost_ret (v := .agg #[.int .i64 0, .string ⟨#[]⟩, .int .i64 0, .slice none 0 0, .slice none 0 0]) (by simp [results, Tryz.results122, go_sem, p0, p1, p2, p3, p4, pz]) rfl FIN
 have s7 := int_ne k7
 clear k7
 go_upto_region 20 with fail
 generalize hS2 : World.setCell W4 _ _ = W5
 obtain ⟨K5, T5⟩ := HP4.out.setBad
 rw [hS2] at K5 T5
 have O5 := O4.touch' T5 (by simp; omega)
 have HP5 := LH K5
 have HT5 := LH (HT4.out.trans T5)
 clear hS2 K5 T5 c0 c1 c2 f2 zB P5
 have o0 := O5.k0
 have of0 := O5.f0
 have o1 := O5.k1
 have of1 := O5.f1
 have o2 := O5.k2
 have of2 := O5.f2
 have o3 := O5.k3
 have of3 := O5.f3
 have o4 := O5.k4
 have of4 := O5.f4
 have oz := O5.lt
 go_wp2_with fail
 generalize hS : World.setCell (World.setCell (World.setCell (World.setCell (World.setCell W5 _ _) _ _) _ _) _ _) _ _ = W6
 obtain ⟨O6, T6⟩ := own5 O5 (.int .i64 0) (.string ⟨#[]⟩) (.int .i64 0) (.slice none 0 0) (.slice none 0 0)
 rw [hS] at O6 T6
 clear hS
 have p0 := O6.k0
 have p1 := O6.k1
 have p2 := O6.k2
 have p3 := O6.k3
 have p4 := O6.k4
 have pz := O6.lt
 have FIN : EGot B tb to_ cap ao ts 1 w a b (fun n => pPrim ts n a) (.returned (.agg #[.int .i64 0, .string ⟨#[]⟩, .int .i64 0, .slice none 0 0, .slice none 0 0])) W6 := ⟨⟨0, ⟨#[]⟩, 0, [], []⟩, _, [], a + 1, true, rfl, leaf_rep _ _ _ _, (fun k hk => nomatch hk), HP.out.late HP5.out T6 (fun k hk => by simp at hk; omega), HG.out, ⟨Nat.le_refl _, fun _ => Or.inl (by omega)⟩, HT5.out.late2 T6 (fun k hk => by simp at hk; omega)⟩
 exact bodyPost_ret (v := .agg #[.int .i64 0, .string ⟨#[]⟩, .int .i64 0, .slice none 0 0, .slice none 0 0]) (by simp [results, Tryz.results122, go_sem, p0, p1, p2, p3, p4, pz]) rfl FIN
end Go.Proofs.YtndhpbjhkgdieaaGreatDoor
