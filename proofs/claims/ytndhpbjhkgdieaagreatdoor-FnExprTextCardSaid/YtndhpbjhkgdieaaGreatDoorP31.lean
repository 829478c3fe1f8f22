/-
  SEVERAL TEXTS IN ONE: CONTRACTS: the program's parser: a message of a cascade; CONTRACTS: the program's parser: statements.
  Conditions: those that each lemma states.
-/
import Derived.Test.YtndhpbjhkgdieaaGreatDoorRows
import Derived.Test.YtndhpbjhkgdieaaGreatDoorP30
namespace Go.Proofs.YtndhpbjhkgdieaaGreatDoor
open Go.RowKit
set_option maxHeartbeats 8000000
set_option maxRecDepth 100000
set_option linter.unusedSimpArgs false
set_option linter.unusedVariables false
def MsgAt (B tb to_ cap : Nat) (ao : Option Addr) (ts : List MToken) (a : Nat) : Prop := ∀ (w : World) (b : Bool), Prs 49 B tb to_ cap ao ts w (a) b -> Calls Tryz.prog 100 #[.pointer (some ⟨B, 0, none⟩)] w (EGot B tb to_ cap ao ts 0 w a b (fun n => pMsg ts n a))
theorem msg_A {W5 : World} {rb : Nat} {y : MExpr} {c0 c1 c2 c3 c4 d0 d1 d2 d3 d4 : Value} {gp : List Nat} (k : Int) (O5 : Own W5 rb 27 #[c0, c1, c2, c3, c4]) (R5 : RepF W5 y.d [d0, d1, d2, d3, d4] gp) (hr : ∀ b, b ∈ gp -> b ≠ rb) (tx : ByteArray) :
 Own ((((((W5.setCell ⟨rb, 0, none⟩ (.int .i64 k)).setCell ⟨rb, 1, none⟩ (.string tx)).setCell ⟨rb, 2, none⟩ (.int .i64 0)).setCell ⟨rb, 3, none⟩ (.slice none 0 0)).setCell ⟨rb, 4, none⟩ (.slice (some ⟨W5.heap.size, 0, none⟩) 1 1)).alloc (.cells #[d0, d1, d2, d3, d4] 27)) rb 27 #[.int .i64 k, .string tx, .int .i64 0, .slice none 0 0, .slice (some ⟨W5.heap.size, 0, none⟩) 1 1] /\
 RepF ((((((W5.setCell ⟨rb, 0, none⟩ (.int .i64 k)).setCell ⟨rb, 1, none⟩ (.string tx)).setCell ⟨rb, 2, none⟩ (.int .i64 0)).setCell ⟨rb, 3, none⟩ (.slice none 0 0)).setCell ⟨rb, 4, none⟩ (.slice (some ⟨W5.heap.size, 0, none⟩) 1 1)).alloc (.cells #[d0, d1, d2, d3, d4] 27)) (MExpr.d ⟨k, tx, 0, [], [y]⟩) [.int .i64 k, .string tx, .int .i64 0, .slice none 0 0, .slice (some ⟨W5.heap.size, 0, none⟩) 1 1] (W5.heap.size :: gp) /\
 Touch W5 ((((((W5.setCell ⟨rb, 0, none⟩ (.int .i64 k)).setCell ⟨rb, 1, none⟩ (.string tx)).setCell ⟨rb, 2, none⟩ (.int .i64 0)).setCell ⟨rb, 3, none⟩ (.slice none 0 0)).setCell ⟨rb, 4, none⟩ (.slice (some ⟨W5.heap.size, 0, none⟩) 1 1)).alloc (.cells #[d0, d1, d2, d3, d4] 27)) [rb] := by
 obtain ⟨O8, T8⟩ := own5 O5 (.int .i64 k) (.string tx) (.int .i64 0) (.slice none 0 0) (.slice (some ⟨W5.heap.size, 0, none⟩) 1 1)
 have hsz := size5 W5 rb (.int .i64 k) (.string tx) (.int .i64 0) (.slice none 0 0) (.slice (some ⟨W5.heap.size, 0, none⟩) 1 1)
 generalize (((((W5.setCell ⟨rb, 0, none⟩ (.int .i64 k)).setCell ⟨rb, 1, none⟩ (.string tx)).setCell ⟨rb, 2, none⟩ (.int .i64 0)).setCell ⟨rb, 3, none⟩ (.slice none 0 0)).setCell ⟨rb, 4, none⟩ (.slice (some ⟨W5.heap.size, 0, none⟩) 1 1)) = W8 at *
 have x9 := (XR W8).alloc (.cells #[d0, d1, d2, d3, d4] 27)
 have ON := own_new W8 #[d0, d1, d2, d3, d4] 27
 rw [hsz] at ON
 have R9 := (R5.touch T8 (fun b hb hm => hr b hb (by simpa using hm))).ext x9
 have RX := MExpr.shut (x := ⟨k, tx, 0, [], [y]⟩) (rep_nilT _) (one_expr R9 (cs := [d0, d1, d2, d3, d4]) ON)
 simp only [List.append_nil, List.nil_append] at RX
 exact ⟨O8.ext x9, RX, T8.trans (Touch.of_ext x9 _)⟩
theorem message_at {B tb to_ cap : Nat} {ao : Option Addr} {ts : List MToken} {a : Nat} (HUN : ∀ a', a < a' -> UnAt B tb to_ cap ao ts a') (HKE : KeyAt B tb to_ cap ao ts a) : MsgAt B tb to_ cap ao ts a := by
 intro w b h
 have HP := LH h
 have hln := h.len
 have hle := h.le
 have hrb := h.own.lt
 have HUN := LH HUN
 have HKE := LH HKE
 have htz := h.txt a
 obtain ⟨kd, hkd⟩ : ∃ x, tkK ts a = x := ⟨_, rfl⟩
 obtain ⟨tx, htx⟩ : ∃ x, tkT ts a = x := ⟨_, rfl⟩
 obtain ⟨nm, hnm⟩ : ∃ x, tkN ts a = x := ⟨_, rfl⟩
 have HC := LH (fun (W : World) (hW : Ext w W) => by
  have := peek_any W (HP.out.ext hW)
  rw [hkd, htx, hnm] at this
  exact this)
 have HKD := LH hkd
 have HTX := LH htx
 rw [htx] at htz
 have hfd := fun W => fld0 kd nm tx W
 clear hkd htx hnm h
 go_enter Tryz.func100, Tryz.ntmps100
 go_upto_region 1 with fail
 generalize hS : World.alloc w _ = W1
 have x1 : Ext w W1 := by rw [<- hS]; exact (XR _).alloc _
 have O1 : Own W1 w.heap.size 27 #[.int .i64 0, .string ⟨#[]⟩, .int .i64 0, .slice none 0 0, .slice none 0 0] := by rw [<- hS]; exact own_new w _ _
 clear hS
 go_wp2_with fail
 refine (HC.out _ x1).mono ?_
 rintro e w2 ⟨rfl, hx⟩
 have hf := hfd w2
 have HX2 := LH (x1.trans hx)
 have O2 := O1.ext hx
 have HP2 := LH (HP.out.ext HX2.out)
 have hs2 := HX2.out.size
 have hro := O2.lt
 have HT2 : Hid (Touch w w2 [B]) := LH (Touch.of_ext HX2.out _)
 clear hfd O1 x1 hx HC
 go_upto_region 2 with fail
 by_cases k1 : kd = 1
 · have TB : Hid (tkB ts a 1 = true) := LH ((kind_eq (by decide)).2 (by rw [HKD.out]; exact k1))
   have hjt := kind_lt (by decide) TB.out
   have s1 := int_eq k1
   clear k1
   go_wp2_with fail
   refine (take_yes w2 HP2.out 1 (by decide) TB.out).mono ?_
   rw [HTX.out]
   rintro e w3 ⟨rfl, K3, T3⟩
   have O3 := O2.touch' T3 (by simp; omega)
   have HP3 := LH K3
   have HT3 := LH (HT2.out.trans T3)
   have hs3 := T3.size
   clear K3 T3 O2 HP2 HT2 hf
   have o0 := O3.k0
   have of0 := O3.f0
   have o1 := O3.k1
   have of1 := O3.f1
   have o2 := O3.k2
   have of2 := O3.f2
   have o3 := O3.k3
   have of3 := O3.f3
   have o4 := O3.k4
   have of4 := O3.f4
   have oz := O3.lt
   go_wp2_with fail
   generalize hS : World.setCell (World.setCell (World.setCell (World.setCell (World.setCell w3 _ _) _ _) _ _) _ _) _ _ = W9
   obtain ⟨O9, T9⟩ := own5 O3 (.int .i64 6) (.string tx) (.int .i64 0) (.slice none 0 0) (.slice none 0 0)
   rw [hS] at O9 T9
   clear hS
   have p0 := O9.k0
   have p1 := O9.k1
   have p2 := O9.k2
   have p3 := O9.k3
   have p4 := O9.k4
   have pz := O9.lt
   have FIN : EGot B tb to_ cap ao ts 0 w a b (fun n => pMsg ts n a) (.returned (.agg #[.int .i64 6, .string tx, .int .i64 0, .slice none 0 0, .slice none 0 0])) W9 := ⟨eMsg tx [], _, [], a + 1, b, rfl, leaf_rep _ _ _ _, (fun k hk => nomatch hk), HP.out.late HP3.out T9 (fun k hk => by simp at hk; omega), Got.ok (Ev.step (g := fun _ => some (eMsg tx [], a + 1)) (fun n => by rw [pMsg, if_pos TB.out, HTX.out]) (Ev.const _)), ⟨by omega, fun _ => Or.inr rfl⟩, HT3.out.late2 T9 (fun k hk => by simp at hk; omega)⟩
   exact bodyPost_ret (v := .agg #[.int .i64 6, .string tx, .int .i64 0, .slice none 0 0, .slice none 0 0]) (by simp [results, Tryz.results100, go_sem, p0, p1, p2, p3, p4, pz]) rfl FIN
 have s1 := int_ne k1
 have NB1 : Hid (tkB ts a 1 = false) := LH (by
  cases hh : tkB ts a 1
  · rfl
  · exact absurd (by rw [<- HKD.out]; exact (kind_eq (by decide)).1 hh) k1)
 clear k1
 by_cases k6 : kd = 6
 · have TB : Hid (tkB ts a 6 = true) := LH ((kind_eq (by decide)).2 (by rw [HKD.out]; exact k6))
   have hjt := kind_lt (by decide) TB.out
   have s6 := int_eq k6
   clear k6
   go_wp2_with fail
   refine (take_yes w2 HP2.out 6 (by decide) TB.out).mono ?_
   rw [HTX.out]
   rintro e w3 ⟨rfl, K3, T3⟩
   have O3 := O2.touch' T3 (by simp; omega)
   have HP3 := LH K3
   have HT3 := LH (HT2.out.trans T3)
   have hs3 := T3.size
   clear K3 T3 O2 HP2 HT2 hf
   go_wp2_with fail
   refine (HUN.out (a + 1) (by omega) w3 b HP3.out (by omega)).mono ?_
   rintro e w4 ⟨y, ds, gp, s2, a2, b2, rfl, hr, hf, hp, hg, -, hm, hT⟩
   have O4 := O3.touch' hT (by simp; omega)
   have HG := LH ((Todo.refl b (fun n => pMsg ts n a)).call hg (g := fun n r => some (eMsg (tkT ts a) [r.1], r.2.2)) (fun n => by rw [pMsg, if_neg (by rw [NB1.out]; decide), if_pos TB.out]))
   have HP4 := LH hp
   have HR4 := LH hr
   have HF4 := LH hf
   have HT4 := LH (HT3.out.trans hT)
   have hs4 := hT.size
   obtain ⟨z1, z2, z3, z4, rfl⟩ := fld5 hr
   clear hr hf hp hg hT O3 HP3 HT3
   go_upto_region 7 with fail
   generalize hS : World.alloc w4 _ = W5
   have x5 : Ext w4 W5 := by rw [<- hS]; exact (XR _).alloc _
   have OY : Own W5 w4.heap.size 27 #[.int .i64 y.kind, .string y.text, .int .i64 y.number, .slice z1 y.names.length z2, .slice z3 y.kids.length z4] := by rw [<- hS]; exact own_new w4 _ _
   have O5 := O4.ext x5
   have HX5 := LH x5
   have hs5 := x5.size
   clear hS x5 O4
   generalize hyb : w4.heap.size = yb at *
   clear hyb
   have r0 := OY.k0
   have r1 := OY.k1
   have r2 := OY.k2
   have r3 := OY.k3
   have r4 := OY.k4
   have rz := OY.lt
   have o0 := O5.k0
   have of0 := O5.f0
   have o1 := O5.k1
   have of1 := O5.f1
   have o2 := O5.k2
   have of2 := O5.f2
   have o3 := O5.k3
   have of3 := O5.f3
   have o4 := O5.k4
   have of4 := O5.f4
   have oz := O5.lt
   go_wp2_with fail
   obtain ⟨O9, R9, T9⟩ := msg_A 6 O5 (HR4.out.ext HX5.out) (fun b hb => by have := HF4.out b hb; omega) tx
   generalize hWF : World.alloc (World.setCell (World.setCell (World.setCell (World.setCell (World.setCell W5 _ _) _ _) _ _) _ _) _ _) _ = W9 at *
   clear hWF
   have p0 := O9.k0
   have p1 := O9.k1
   have p2 := O9.k2
   have p3 := O9.k3
   have p4 := O9.k4
   have pz := O9.lt
   have FIN : EGot B tb to_ cap ao ts 0 w a b (fun n => pMsg ts n a) (.returned (.agg #[.int .i64 6, .string tx, .int .i64 0, .slice none 0 0, .slice (some ⟨W5.heap.size, 0, none⟩) 1 1])) W9 := ⟨eMsg tx [y], _, (W5.heap.size :: gp), a2, b2, rfl, R9, (fun k hk => by
    rcases List.mem_cons.1 hk with rfl | hk
    · omega
    · have := HF4.out k hk; omega), HP.out.late (HP4.out.ext HX5.out) T9 (fun k hk => by simp at hk; omega), HG.out.done (fun n => by rw [HTX.out]), ⟨by omega, fun _ => Or.inr rfl⟩, (HT4.out.trans (Touch.of_ext HX5.out [B])).late2 T9 (fun k hk => by simp at hk; omega)⟩
   exact bodyPost_ret (v := .agg #[.int .i64 6, .string tx, .int .i64 0, .slice none 0 0, .slice (some ⟨W5.heap.size, 0, none⟩) 1 1]) (by simp [results, Tryz.results100, go_sem, p0, p1, p2, p3, p4, pz]) rfl FIN
 have s6 := int_ne k6
 have NB6 : Hid (tkB ts a 6 = false) := LH (by
  cases hh : tkB ts a 6
  · rfl
  · exact absurd (by rw [<- HKD.out]; exact (kind_eq (by decide)).1 hh) k6)
 clear k6
 by_cases k2 : kd = 2
 · have TB : Hid (tkB ts a 2 = true) := LH ((kind_eq (by decide)).2 (by rw [HKD.out]; exact k2))
   have hjt := kind_lt (by decide) TB.out
   have s2 := int_eq k2
   clear k2
   go_wp2_with fail
   refine (HKE.out w2 b HP2.out).mono ?_
   rintro e w3 ⟨s, l, v, a2, b2, rfl, hA, hp, hg, hl, hsz, hT⟩
   have O3 := O2.touch' hT (by simp; omega)
   have HG := LH ((Todo.refl b (fun n => pMsg ts n a)).call hg (g := fun n r => some (eMsg r.1 r.2.1, r.2.2)) (fun n => by rw [pMsg, if_neg (by rw [NB1.out]; decide), if_neg (by rw [NB6.out]; decide), if_pos TB.out]))
   obtain ⟨va, vc, gp, rfl, hr, hge⟩ := AccX.rep hA
   have HP3 := LH hp
   have HR3 := LH hr
   have HGE := LH hge
   have HT3 := LH (HT2.out.trans hT)
   have hs3 := hT.size
   clear hA hp hg hr hge hT O2 HP2 HT2 hf
   have o0 := O3.k0
   have of0 := O3.f0
   have o1 := O3.k1
   have of1 := O3.f1
   have o2 := O3.k2
   have of2 := O3.f2
   have o3 := O3.k3
   have of3 := O3.f3
   have o4 := O3.k4
   have of4 := O3.f4
   have oz := O3.lt
   go_wp2_with fail
   generalize hS : World.setCell (World.setCell (World.setCell (World.setCell (World.setCell w3 _ _) _ _) _ _) _ _) _ _ = W9
   obtain ⟨O9, T9⟩ := own5 O3 (.int .i64 6) (.string s) (.int .i64 0) (.slice none 0 0) (.slice va l.length vc)
   rw [hS] at O9 T9
   clear hS
   have p0 := O9.k0
   have p1 := O9.k1
   have p2 := O9.k2
   have p3 := O9.k3
   have p4 := O9.k4
   have pz := O9.lt
   have RX := MExpr.shut (x := eMsg s l) (rep_nilT W9) (HR3.out.touch T9 (fun k hk hm => by have := HGE.out k hk; simp at hm; omega))
   simp only [List.append_nil, List.nil_append] at RX
   have FIN : EGot B tb to_ cap ao ts 0 w a b (fun n => pMsg ts n a) (.returned (.agg #[.int .i64 6, .string s, .int .i64 0, .slice none 0 0, .slice va l.length vc])) W9 := ⟨eMsg s l, _, gp, a2, b2, rfl, RX, (fun k hk => by have := HGE.out k hk; omega), HP.out.late HP3.out T9 (fun k hk => by simp at hk; omega), HG.out.done (fun n => rfl), ⟨by omega, fun _ => Or.inr rfl⟩, HT3.out.late2 T9 (fun k hk => by simp at hk; omega)⟩
   exact bodyPost_ret (v := .agg #[.int .i64 6, .string s, .int .i64 0, .slice none 0 0, .slice va l.length vc]) (by simp [results, Tryz.results100, go_sem, p0, p1, p2, p3, p4, pz]) rfl FIN
 have s2 := int_ne k2
 have NB2 : Hid (tkB ts a 2 = false) := LH (by
  cases hh : tkB ts a 2
  · rfl
  · exact absurd (by rw [<- HKD.out]; exact (kind_eq (by decide)).1 hh) k2)
 clear k2
 have HG : Hid (Got b (fun n => pMsg ts n a) true ((⟨0, ⟨#[]⟩, 0, [], []⟩ : MExpr), a)) := LH (Got.bad _ (Ev.step (g := fun _ => none) (fun n => by rw [pMsg, if_neg (by rw [NB1.out]; decide), if_neg (by rw [NB6.out]; decide), if_neg (by rw [NB2.out]; decide)]) (Ev.const _)))
 obtain ⟨c0, c1, c2⟩ := HP2.out.cells
 have f2 := HP2.out.own.f2
 have zB := lt_of_cell c0
 go_upto_region 12 with fail
 generalize hS2 : World.setCell w2 _ _ = W5
 obtain ⟨K5, T5⟩ := HP2.out.setBad
 rw [hS2] at K5 T5
 have O5 := O2.touch' T5 (by simp; omega)
 have HP5 := LH K5
 have HT5 := LH (HT2.out.trans T5)
 have hs5 := T5.size
 clear hS2 K5 T5 c0 c1 c2 f2 zB
 have o0 := O5.k0
 have of0 := O5.f0
 have o1 := O5.k1
 have of1 := O5.f1
 have o2 := O5.k2
 have of2 := O5.f2
 have o3 := O5.k3
 have of3 := O5.f3
 have o4 := O5.k4
 have of4 := O5.f4
 have oz := O5.lt
 go_wp2_with fail
 generalize hS : World.setCell (World.setCell (World.setCell (World.setCell (World.setCell W5 _ _) _ _) _ _) _ _) _ _ = W9
 obtain ⟨O9, T9⟩ := own5 O5 (.int .i64 0) (.string ⟨#[]⟩) (.int .i64 0) (.slice none 0 0) (.slice none 0 0)
 rw [hS] at O9 T9
 clear hS
 have p0 := O9.k0
 have p1 := O9.k1
 have p2 := O9.k2
 have p3 := O9.k3
 have p4 := O9.k4
 have pz := O9.lt
 have FIN : EGot B tb to_ cap ao ts 0 w a b (fun n => pMsg ts n a) (.returned (.agg #[.int .i64 0, .string ⟨#[]⟩, .int .i64 0, .slice none 0 0, .slice none 0 0])) W9 := ⟨⟨0, ⟨#[]⟩, 0, [], []⟩, _, [], a, true, rfl, leaf_rep _ _ _ _, (fun k hk => nomatch hk), HP.out.late HP5.out T9 (fun k hk => by simp at hk; omega), HG.out, ⟨by omega, fun _ => Or.inr rfl⟩, HT5.out.late2 T9 (fun k hk => by simp at hk; omega)⟩
 exact bodyPost_ret (v := .agg #[.int .i64 0, .string ⟨#[]⟩, .int .i64 0, .slice none 0 0, .slice none 0 0]) (by simp [results, Tryz.results100, go_sem, p0, p1, p2, p3, p4, pz]) rfl FIN
def TGot (B tb to_ cap : Nat) (ao : Option Addr) (ts : List MToken) (w : World) (a : Nat) (b : Bool) (e : Ending) (w' : World) : Prop := ∃ (l : List MExpr) (v : Value) (a' : Nat) (b' : Bool), e = .returned v /\ AccX w.heap.size w' v l /\ Prs 49 B tb to_ cap ao ts w' (a') b' /\ Got b (fun n => pStmts ts n [] a) b' (l, a') /\ l.length + a <= a' /\ Touch w w' [B]
def StmAt (B tb to_ cap : Nat) (ao : Option Addr) (ts : List MToken) (a : Nat) : Prop := ∀ (w : World) (b : Bool), Prs 49 B tb to_ cap ao ts w (a) b -> Calls Tryz.prog 139 #[.pointer (some ⟨B, 0, none⟩)] w (TGot B tb to_ cap ao ts w a b)
theorem ret1 {w : World} {x : MExpr} {cs : List Value} {fp : List Nat} {nb : Nat} {e : TypeId} (h : RepF w x.d cs fp) (hO : Own w nb e cs.toArray) : RepF w (eRet x).d [.int .i64 9, .string ⟨#[]⟩, .int .i64 0, .slice none 0 0, .slice (some ⟨nb, 0, none⟩) 1 1] (nb :: fp) := by
 have := MExpr.shut (x := eRet x) (rep_nilT w) (one_expr h hO)
 simp only [List.append_nil, List.nil_append] at this
 exact this
theorem statements_at {B tb to_ cap : Nat} {ao : Option Addr} {ts : List MToken} {a : Nat} (HEX : ∀ a', a <= a' -> ExprAt B tb to_ cap ao ts a') : StmAt B tb to_ cap ao ts a := by
 intro w b h
 have HP := LH h
 have hln := h.len
 have hle := h.le
 have hrb := h.own.lt
 have HEX := LH HEX
 have H0 := LH (Todo.refl b (fun n => pStmts ts n [] a))
 clear h
 go_enter Tryz.func139, Tryz.ntmps139
 go_upto_region 2 with fail
 generalize hS : World.alloc w _ = W1
 have x1 : Ext w W1 := by rw [<- hS]; exact (XR _).alloc _
 have A1 : Hid (AccX w.heap.size W1 (.slice (some ⟨w.heap.size, 0, none⟩) 0 0) []) := LH (Acw.of (by rw [<- hS]; exact Acc.empty 27 5 (Nat.le_refl _)))
 have HP1 := LH (HP.out.ext x1)
 clear hS
 go_loopw [3] (fun av wr => ∃ (l : List MExpr) (j : Nat) (bj : Bool), AccX w.heap.size wr av l /\ Prs 49 B tb to_ cap ao ts wr (j) bj /\ Hid (Todo b (fun n => pStmts ts n [] a) bj (fun n => pStmts ts n l j)) /\ l.length + a <= j /\ Touch w wr [B]) (fun _ wr => ts.length + 1 - placeOf B wr)
 case atStart => exact ⟨[], a, b, A1.out, HP1.out, H0, by simp, Touch.of_ext x1 _⟩
 case round =>
  clear A1 HP1 H0 x1
  obtain ⟨av, hav⟩ : ∃ x, x = u3 := ⟨_, rfl⟩
  subst hav
  obtain ⟨l, j, bj, hA, hp, HTD, hlj, hT⟩ := hrel
  have HA := LH hA
  have HPj := LH hp
  have HPM := LH hp
  have HT := LH hT
  obtain ⟨c0, c1, c2⟩ := hp.cells
  have zB := lt_of_cell c0
  have hjl := hp.le
  have hws := hT.size
  cases bj
  rotate_left
  · have FIN : Hid (TGot B tb to_ cap ao ts w a b (.returned av) wr) := LH ⟨l, av, j, true, rfl, hA, hp, HTD.out.dead _, hlj, hT⟩
    clear HTD hA hp hT
    go_wp2_with fail
    go_ret
    exact FIN.out
  have hjk := hp.ok rfl
  clear hA hp hT
  cases hr : tkxB ts j 7 retM
  · have HNR := LH hr
    have HE := LH (eat_no wr HPj.out 7 ⟨#[94]⟩ (by decide) hr)
    clear hr
    go_wp2_with fail
    refine HE.out.mono ?_
    rintro e w1 ⟨rfl, K1, T1⟩
    have HA1 := LH (HA.out.touch T1 (fun k hk => by simp at hk; omega))
    have HK1 := LH K1
    have HT1 := LH (HT.out.trans T1)
    have hs1 := T1.size
    clear K1 T1 HA HPj HT HE c0 c1 c2 zB
    cases hb : beginsB ts j
    · have HG : Hid (Got b (fun n => pStmts ts n [] a) false (l, j)) := LH (HTD.out.done (fun n => by rw [pStmts, if_neg (by rw [HNR.out]; decide), if_neg (by rw [hb]; decide)]))
      have HB2 := LH (begins_any w1 HK1.out)
      rw [hb] at HB2
      clear hb
      go_wp2_with fail
      refine HB2.out.mono ?_
      rintro e w2 ⟨rfl, hx⟩
      have FIN : Hid (TGot B tb to_ cap ao ts w a b (.returned av) w2) := LH ⟨l, av, j, false, rfl, HA1.out.ext hx, HK1.out.ext hx, HG.out, hlj, HT1.out.trans (Touch.of_ext hx _)⟩
      clear HTD
      go_wp2_with fail
      go_ret
      exact FIN.out
    have HB2 := LH (begins_any w1 HK1.out)
    rw [hb] at HB2
    have HTC := LH (fun (x : MExpr) (a2 : Nat) (b2 : Bool) (hg : Got false (fun n => pExpr ts n j) b2 (x, a2)) => HTD.out.call hg (g := fun n r => if tkxB ts r.2 7 dotM = true then pStmts ts n (l ++ [r.1]) (r.2 + 1) else some (l ++ [r.1], r.2)) (fun n => by rw [pStmts, if_neg (by rw [HNR.out]; decide), if_pos hb]))
    clear hb HTD
    go_wp2_with fail
    refine HB2.out.mono ?_
    rintro e w2 ⟨rfl, hx⟩
    have HU := LH (HEX.out j (by omega) w2 false (HK1.out.ext hx) hjk)
    have HA2 := LH (HA1.out.ext hx)
    have HT2 := LH (HT1.out.trans (Touch.of_ext hx [B]))
    have hs2 := hx.size
    clear hx HA1 HK1 HT1 HB2
    go_wp2_with fail
    refine HU.out.mono ?_
    rintro e w3 ⟨x, cs, gp, a2, b2, rfl, hr2, hf2, hp2, hg2, hm2, hT2⟩
    have HA3 := LH (HA2.out.touch hT2 (fun k hk => by simp at hk; omega))
    have HAB : Hid (∀ k, av.ownBlock = some k -> k < w2.heap.size) := LH fun k hk => (Acw.ge HA2.out hk).2
    have HT3 := LH (HT2.out.trans hT2)
    have HTD2 := LH (HTC.out x a2 b2 hg2)
    have HP3 := LH hp2
    have HS3 := LH hr2
    have HF3 := LH hf2
    have hs3 := hT2.size
    have hm3 := hm2.1
    obtain ⟨y1, y2, y3, y4, rfl⟩ := fld5 hr2
    clear hr2 hf2 hp2 hg2 hT2 HA2 HT2 HU HTC hm2
    have x5 : Ext w3 (w3.alloc (.cells #[.int .i64 x.kind, .string x.text, .int .i64 x.number, .slice y1 x.names.length y2, .slice y3 x.kids.length y4] 27)) := (XR w3).alloc _
    have KD := HA3.out.ext x5
    have HSL := one_expr (HS3.out.ext x5) (own_new w3 #[.int .i64 x.kind, .string x.text, .int .i64 x.number, .slice y1 x.names.length y2, .slice y3 x.kids.length y4] 27)
    go_wp2_with (at_builtin; refine wpList_append_x rfl _ _ rfl w.heap.size av l rfl KD [x] _ _ _ (w3.heap.size :: gp) rfl HSL (fun k hk => by have := HF3.out k hk; omega) (fun k hk hm => by have h1 := HF3.out k hm; have h2 := (HAB.out k hk); omega) (by simp; omega) (by simp; omega) ?_)
    intro a1 k1 w6 ac1 g1 m1
    have TG : Touch (w3.alloc (.cells #[.int .i64 x.kind, .string x.text, .int .i64 x.number, .slice y1 x.names.length y2, .slice y3 x.kids.length y4] 27)) w6 av.ownBlock.toList := (Touch.of_ext (XR _) _).grown g1 fun k hk => Or.inl (by simp [hk])
    have HK6 := LH (HP.out.late (HP3.out.ext x5) TG (fun k hk => (Acw.ge KD (k := k) (by simpa using hk)).1))
    have HT6 := LH ((HT3.out.trans (Touch.of_ext x5 [B])).late2 TG (fun k hk => (Acw.ge KD (k := k) (by simpa using hk)).1))
    have HAC := LH ac1
    clear KD HSL g1 m1 TG ac1 x5
    generalize hv1 : Value.slice a1 (l.length + [x].length) k1 = v1 at *
    clear hv1
    cases hd : tkxB ts a2 7 dotM
    · have HD := LH (eat_no w6 HK6.out 7 ⟨#[46]⟩ (by decide) hd)
      have HG : Hid (Got b (fun n => pStmts ts n [] a) b2 (l ++ [x], a2)) := LH (HTD2.out.done (fun n => by show (if tkxB ts a2 7 dotM = true then pStmts ts (n + 1) (l ++ [x]) (a2 + 1) else some (l ++ [x], a2)) = _; rw [if_neg (by rw [hd]; decide)]))
      clear hd HTD2
      go_wp2_with fail
      refine HD.out.mono ?_
      rintro e w7 ⟨rfl, K7, T7⟩
      have FIN : Hid (TGot B tb to_ cap ao ts w a b (.returned v1) w7) := LH ⟨l ++ [x], v1, a2, b2, rfl, HAC.out.touch T7 (fun k hk => by simp at hk; omega), K7, HG.out, by simp; omega, HT6.out.trans T7⟩
      clear K7 T7
      go_wp2_with fail
      go_ret
      exact FIN.out
    have HD := LH (eat_yes w6 HK6.out 7 ⟨#[46]⟩ (by decide) hd)
    have HTD3 : Hid (Todo b (fun n => pStmts ts n [] a) b2 (fun n => pStmts ts n (l ++ [x]) (a2 + 1))) := LH (by
     have e : (fun n => (fun n r => if tkxB ts r.2 7 dotM = true then pStmts ts n (l ++ [r.1]) (r.2 + 1) else some (l ++ [r.1], r.2)) n (x, a2)) = (fun n => pStmts ts n (l ++ [x]) (a2 + 1)) := funext fun n => by show (if tkxB ts a2 7 dotM = true then _ else _) = _; rw [if_pos hd]
     have := HTD2.out
     rw [e] at this
     exact this)
    clear hd HTD2
    go_wp2_with fail
    refine HD.out.mono ?_
    rintro e w7 ⟨rfl, K7, T7⟩
    have HA7 := LH (HAC.out.touch T7 (fun k hk => by simp at hk; omega))
    have HK7 := LH K7
    have HT7 := LH (HT6.out.trans T7)
    clear K7 T7
    go_wp2_with fail
    refine ⟨⟨l ++ [x], a2 + 1, b2, HA7.out, HK7.out, HTD3, ?_, HT7.out⟩, ?_⟩
    · simp; omega
    · rw [placeOf_eq HPM.out, placeOf_eq HK7.out]; have := HK7.out.le; omega
  have HE := LH (eat_yes wr HPj.out 7 ⟨#[94]⟩ (by decide) hr)
  have hjt := tok_lt (by decide) hr
  have HTC := LH (fun (x : MExpr) (a2 : Nat) (b2 : Bool) (hg : Got false (fun n => pExpr ts n (j + 1)) b2 (x, a2)) => HTD.out.call hg (g := fun n r => some (l ++ [eRet r.1], if tkxB ts r.2 7 dotM = true then r.2 + 1 else r.2)) (fun n => by rw [pStmts, if_pos hr]))
  clear hr HTD
  go_wp2_with fail
  refine HE.out.mono ?_
  rintro e w1 ⟨rfl, K1, T1⟩
  have HA1 := LH (HA.out.touch T1 (fun k hk => by simp at hk; omega))
  have HT1 := LH (HT.out.trans T1)
  have hs1 := T1.size
  have HU := LH (nested_at (a := j + 1) (fun _ => HEX.out (j + 1) (by omega)) w1 false K1)
  clear K1 T1 HA HPj HT HE c0 c1 c2 zB
  go_wp2_with fail
  refine HU.out.mono ?_
  rintro e w3 ⟨x, cs, gp, a2, b2, rfl, hr2, hf2, hp2, hg2, hm2, hT2⟩
  have HA3 := LH (HA1.out.touch hT2 (fun k hk => by simp at hk; omega))
  have HAB : Hid (∀ k, av.ownBlock = some k -> k < w1.heap.size) := LH fun k hk => (Acw.ge HA1.out hk).2
  have HT3 := LH (HT1.out.trans hT2)
  have HTD2 := LH (HTC.out x a2 b2 hg2)
  have HP3 := LH hp2
  have HS3 := LH hr2
  have HF3 := LH hf2
  have hs3 := hT2.size
  have hm3 := hm2.1
  obtain ⟨y1, y2, y3, y4, rfl⟩ := fld5 hr2
  clear hr2 hf2 hp2 hg2 hT2 HA1 HT1 HU HTC hm2
  obtain ⟨W4, hW4⟩ : ∃ W, w3.alloc (.cells #[.int .i64 x.kind, .string x.text, .int .i64 x.number, .slice y1 x.names.length y2, .slice y3 x.kids.length y4] 27) = W := ⟨_, rfl⟩
  have x4 : Ext w3 W4 := by rw [<- hW4]; exact (XR w3).alloc _
  have O4 : Own W4 w3.heap.size 27 #[.int .i64 x.kind, .string x.text, .int .i64 x.number, .slice y1 x.names.length y2, .slice y3 x.kids.length y4] := by rw [<- hW4]; exact own_new w3 _ _
  have hz4 : W4.heap.size = w3.heap.size + 1 := by rw [<- hW4]; simp
  have x5 : Ext w3 (W4.alloc (.cells #[.int .i64 9, .string ⟨#[]⟩, .int .i64 0, .slice none 0 0, .slice (some ⟨w3.heap.size, 0, none⟩) 1 1] 27)) := x4.alloc _
  have KD := HA3.out.ext x5
  have HR5 := ret1 ((HS3.out.ext x5)) (cs := [.int .i64 x.kind, .string x.text, .int .i64 x.number, .slice y1 x.names.length y2, .slice y3 x.kids.length y4]) (O4.ext ((XR W4).alloc (.cells #[.int .i64 9, .string ⟨#[]⟩, .int .i64 0, .slice none 0 0, .slice (some ⟨w3.heap.size, 0, none⟩) 1 1] 27)))
  have HSL := one_expr HR5 (own_new W4 #[.int .i64 9, .string ⟨#[]⟩, .int .i64 0, .slice none 0 0, .slice (some ⟨w3.heap.size, 0, none⟩) 1 1] 27)
  subst hW4
  have hz5 : (w3.alloc (.cells #[.int .i64 x.kind, .string x.text, .int .i64 x.number, .slice y1 x.names.length y2, .slice y3 x.kids.length y4] 27)).heap.size = w3.heap.size + 1 := by simp
  rw [hz5] at HSL
  have F1 : ∀ k, k ∈ ((w3.heap.size + 1) :: w3.heap.size :: gp).tail -> w.heap.size <= k := fun k hk => by
   rcases List.mem_cons.1 hk with rfl | hk
   · omega
   · have := HF3.out k hk; omega
  have F2 : ∀ k, av.ownBlock = some k -> k ∉ ((w3.heap.size + 1) :: w3.heap.size :: gp).tail := fun k hk hm => by
   have h2 := (HAB.out k hk)
   rcases List.mem_cons.1 hm with rfl | hm
   · omega
   · have h1 := HF3.out k hm; omega
  have hl1 : l.length + [eRet x].length <= 1073741824 := by simp; omega
  go_wp2_with (at_builtin; refine wpList_append_x rfl _ _ rfl w.heap.size av l rfl KD [eRet x] _ _ _ _ rfl HSL F1 F2 hl1 (by simp; omega) ?_)
  intro a1 k1 w6 ac1 g1 m1
  have TG : Touch ((w3.alloc (.cells #[.int .i64 x.kind, .string x.text, .int .i64 x.number, .slice y1 x.names.length y2, .slice y3 x.kids.length y4] 27)).alloc (.cells #[.int .i64 9, .string ⟨#[]⟩, .int .i64 0, .slice none 0 0, .slice (some ⟨w3.heap.size, 0, none⟩) 1 1] 27)) w6 av.ownBlock.toList := (Touch.of_ext (XR _) _).grown g1 fun k hk => Or.inl (by simp [hk])
  have HK6 := LH (HP.out.late (HP3.out.ext x5) TG (fun k hk => (Acw.ge KD (k := k) (by simpa using hk)).1))
  have HT6 := LH ((HT3.out.trans (Touch.of_ext x5 [B])).late2 TG (fun k hk => (Acw.ge KD (k := k) (by simpa using hk)).1))
  have HAC := LH ac1
  clear KD HSL HR5 O4 x4 hz4 hz5 F1 F2 hl1 g1 m1 TG ac1 x5
  generalize hv1 : Value.slice a1 (l.length + [eRet x].length) k1 = v1 at *
  clear hv1
  cases hd : tkxB ts a2 7 dotM
  · have HD := LH (eat_no w6 HK6.out 7 ⟨#[46]⟩ (by decide) hd)
    have HG : Hid (Got b (fun n => pStmts ts n [] a) b2 (l ++ [eRet x], a2)) := LH (HTD2.out.done (fun n => by show some (l ++ [eRet x], if tkxB ts a2 7 dotM = true then a2 + 1 else a2) = _; rw [if_neg (by rw [hd]; decide)]))
    clear hd HTD2
    go_wp2_with fail
    refine HD.out.mono ?_
    rintro e w7 ⟨rfl, K7, T7⟩
    have FIN : Hid (TGot B tb to_ cap ao ts w a b (.returned v1) w7) := LH ⟨l ++ [eRet x], v1, a2, b2, rfl, HAC.out.touch T7 (fun k hk => by simp at hk; omega), K7, HG.out, by simp; omega, HT6.out.trans T7⟩
    clear K7 T7
    go_wp2_with fail
    go_ret
    exact FIN.out
  have HD := LH (eat_yes w6 HK6.out 7 ⟨#[46]⟩ (by decide) hd)
  have HG : Hid (Got b (fun n => pStmts ts n [] a) b2 (l ++ [eRet x], a2 + 1)) := LH (HTD2.out.done (fun n => by show some (l ++ [eRet x], if tkxB ts a2 7 dotM = true then a2 + 1 else a2) = _; rw [if_pos hd]))
  clear hd HTD2
  go_wp2_with fail
  refine HD.out.mono ?_
  rintro e w7 ⟨rfl, K7, T7⟩
  have FIN : Hid (TGot B tb to_ cap ao ts w a b (.returned v1) w7) := LH ⟨l ++ [eRet x], v1, a2 + 1, b2, rfl, HAC.out.touch T7 (fun k hk => by simp at hk; omega), K7, HG.out, by simp; omega, HT6.out.trans T7⟩
  clear K7 T7
  go_wp2_with fail
  go_ret
  exact FIN.out
end Go.Proofs.YtndhpbjhkgdieaaGreatDoor
