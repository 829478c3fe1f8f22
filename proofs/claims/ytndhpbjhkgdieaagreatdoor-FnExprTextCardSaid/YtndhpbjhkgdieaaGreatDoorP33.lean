/-
  CONTRACTS: the program's parser: expr.
  Conditions: those that each lemma states.
-/
import Derived.Test.YtndhpbjhkgdieaaGreatDoorRows
import Derived.Test.YtndhpbjhkgdieaaGreatDoorP32
import Derived.Test.YtndhpbjhkgdieaaGreatDoorP28
namespace Go.Proofs.YtndhpbjhkgdieaaGreatDoor
open Go.RowKit
set_option maxHeartbeats 8000000
set_option maxRecDepth 100000
set_option linter.unusedSimpArgs false
set_option linter.unusedVariables false
theorem un_all {B tb to_ cap : Nat} {ao : Option Addr} {ts : List MToken} {a : Nat} (IH : ∀ a', a < a' -> ExprAt B tb to_ cap ao ts a') : ∀ a', a <= a' -> UnAt B tb to_ cap ao ts a' := fun a1 h1 =>
 unary_at (fun w b h ha => primary_at (nested_at (fun _ => IH (a1 + 1) (by omega))) (block_at (fun a2 h2 => statements_at (fun a3 h3 => IH a3 (by omega)))) w b h ha)
theorem bin_all {B tb to_ cap : Nat} {ao : Option Addr} {ts : List MToken} {a : Nat} (IH : ∀ a', a < a' -> ExprAt B tb to_ cap ao ts a') : ∀ a', a <= a' -> BinAt B tb to_ cap ao ts a' := fun a1 h1 => binary_at (fun a2 h2 => un_all IH a2 (by omega))
theorem key_all {B tb to_ cap : Nat} {ao : Option Addr} {ts : List MToken} {a : Nat} (IH : ∀ a', a < a' -> ExprAt B tb to_ cap ao ts a') : ∀ a', a <= a' -> KeyAt B tb to_ cap ao ts a' := fun a1 h1 => keywords_at (fun a2 h2 => bin_all IH a2 (by omega))
theorem msg_all {B tb to_ cap : Nat} {ao : Option Addr} {ts : List MToken} {a : Nat} (IH : ∀ a', a < a' -> ExprAt B tb to_ cap ao ts a') : ∀ a', a <= a' -> MsgAt B tb to_ cap ao ts a' := fun a1 h1 => message_at (fun a2 h2 => un_all IH a2 (by omega)) (key_all IH a1 h1)
theorem expr_step {B tb to_ cap : Nat} {ao : Option Addr} {ts : List MToken} {a : Nat} (IH : ∀ a', a < a' -> ExprAt B tb to_ cap ao ts a') : ExprAt B tb to_ cap ao ts a := by
 intro w b h ha
 have HP := LH h
 have hln := h.len
 have hle := h.le
 have hrb := h.own.lt
 have IH := LH IH
 obtain ⟨V, hV⟩ : ∃ V, (tkB ts a 1 && tkxB ts (a + 1) 7 asgM) = V := ⟨_, rfl⟩
 have HV := LH hV
 clear h hV
 go_enter Tryz.func57, Tryz.ntmps57
 go_upto_region 1 with fail
 generalize hS : World.alloc w _ = W1
 have x1 : Ext w W1 := by rw [<- hS]; exact (XR _).alloc _
 have O1 : Own W1 w.heap.size 27 #[.int .i64 0, .string ⟨#[]⟩, .int .i64 0, .slice none 0 0, .slice none 0 0] := by rw [<- hS]; exact own_new w _ _
 clear hS
 go_upto_region 1 with fail
 go_cut [41] (fun v wx => v = .bool V /\ Ext W1 wx)
 case first =>
  have HP1 := LH (HP.out.ext x1)
  obtain ⟨c0, c1, c2⟩ := HP1.out.cells
  have zB := lt_of_cell c0
  obtain ⟨kd, hkd⟩ : ∃ x, tkK ts a = x := ⟨_, rfl⟩
  obtain ⟨tx, htx⟩ : ∃ x, tkT ts a = x := ⟨_, rfl⟩
  obtain ⟨nm, hnm⟩ : ∃ x, tkN ts a = x := ⟨_, rfl⟩
  have HC := LH (fun (W : World) (hW : Ext W1 W) => by
   have := peek_any W (HP1.out.ext hW)
   rw [hkd, htx, hnm] at this
   exact this)
  have hv := HV.out
  rw [tkB_eq (by decide), tkxB_eq (by decide), hkd] at hv
  have hf := fld0 kd nm tx
  clear hkd htx hnm
  by_cases k1 : kd = 1
  rotate_left
  · have s1 := int_ne k1
    have HV2 : Hid (V = false) := LH (by rw [<- hv, s1]; rfl)
    clear k1 hv
    go_wp2_with fail
    have gc0 := reg (XR _) c0
    have gc1 := reg (XR _) c1
    refine wp_region_quiet_below (by kernel_rfl) (by kernel_rfl) ?_
    repeat (go_big_quiet_step ((go_at_call 94; exact Calls.regrown_of (HC.out _ (regx _ _)))))
    refine wpQuiet_nil ?_
    clear gc0 gc1
    intro _ hw'
    obtain ⟨pw, hw''⟩ := hw'
    subst hw''
    have xW2 := regx W1 pw
    generalize hWR : «Sort».grow (redrawn W1 pw.d) pw.os = W2 at *
    clear hWR
    replace c0 := xW2.cell c0
    replace c1 := xW2.cell c1
    go_wp2_with fail
    go_meet
    exact ⟨by first | rfl | rw [HV2.out] | (rw [HV2.out]; rfl), xW2⟩
  have s1 := int_eq k1
  rw [s1, Bool.true_and] at hv
  clear k1
  by_cases hl : a + 1 < ts.length
  rotate_left
  · have hd : decide ((a : Int) + 1 < ts.length) = false := decide_eq_false (by omega)
    have hd3 : decide (a + 1 < ts.length) = false := decide_eq_false (by omega)
    obtain ⟨e1, e2, e3⟩ := tkK_none (ts := ts) (a := a + 1) (by omega)
    have HV2 : Hid (V = false) := LH (by rw [<- hv, e1]; rfl)
    clear hv e1 e2 e3 hl
    go_wp2_with fail
    have gc0 := reg (XR _) c0
    have gc1 := reg (XR _) c1
    refine wp_region_quiet_below (by kernel_rfl) (by kernel_rfl) ?_
    repeat (go_big_quiet_step ((go_at_call 94; exact Calls.regrown_of (HC.out _ (regx _ _)))))
    refine wpQuiet_nil ?_
    clear gc0 gc1
    intro _ hw'
    obtain ⟨pw, hw''⟩ := hw'
    subst hw''
    have xW2 := regx W1 pw
    generalize hWR : «Sort».grow (redrawn W1 pw.d) pw.os = W2 at *
    clear hWR
    replace c0 := xW2.cell c0
    replace c1 := xW2.cell c1
    go_wp2_with fail
    go_meet
    exact ⟨by first | rfl | rw [HV2.out] | (rw [HV2.out]; rfl), xW2⟩
  have hd : decide ((a : Int) + 1 < ts.length) = true := decide_eq_true (by omega)
  have hd3 : decide (a + 1 < ts.length) = true := decide_eq_true hl
  have hl' : (a : Int) + 1 < ts.length := by omega
  have ha0 : (0 : Int) <= a + 1 := by omega
  have hn0 : tkK ts (a + 1) ≠ 3 -> tkN ts (a + 1) = 0 := fun hk => HP1.out.num0 hk
  obtain ⟨rfl, t0, t1, t2⟩ := HP1.out.at hl
  have zt := lt_of_cell t0
  generalize tkK ts (a + 1) = kd2 at *
  generalize tkT ts (a + 1) = tx2 at *
  generalize tkN ts (a + 1) = nm2 at *
  by_cases k7 : kd2 = 7
  rotate_left
  · have s7 := int_ne k7
    have HV2 : Hid (V = false) := LH (by rw [<- hv, s7]; rfl)
    clear hv k7 hn0
    go_wp2_with fail
    have gc0 := reg (XR _) c0
    have gc1 := reg (XR _) c1
    have gt0 := reg (XR _) t0
    have gt1 := reg (XR _) t1
    have gt2 := reg (XR _) t2
    refine wp_region_quiet_below (by kernel_rfl) (by kernel_rfl) ?_
    repeat (go_big_quiet_step ((go_at_call 94; exact Calls.regrown_of (HC.out _ (regx _ _)))))
    refine wpQuiet_nil ?_
    clear gc0 gc1 gt0 gt1 gt2
    intro _ hw'
    obtain ⟨pw, hw''⟩ := hw'
    subst hw''
    have xW2 := regx W1 pw
    generalize hWR : «Sort».grow (redrawn W1 pw.d) pw.os = W2 at *
    clear hWR
    replace c0 := xW2.cell c0
    replace c1 := xW2.cell c1
    replace t0 := xW2.cell t0
    replace t1 := xW2.cell t1
    replace t2 := xW2.cell t2
    go_wp2_with fail
    go_meet
    exact ⟨by first | rfl | rw [HV2.out] | (rw [HV2.out]; rfl), xW2⟩
  have n0 := hn0 (by omega)
  have s7 := int_eq k7
  subst n0
  clear hn0
  by_cases k8 : tx2 = asgM
  · have s8 : (tx2.toList == [58, 61]) = true := str_eq' k8
    have HV2 : Hid (V = true) := LH (by rw [<- hv, s7, eqB_tt k8]; rfl)
    clear hv k7 k8
    go_wp2_with fail
    have gc0 := reg (XR _) c0
    have gc1 := reg (XR _) c1
    have gt0 := reg (XR _) t0
    have gt1 := reg (XR _) t1
    have gt2 := reg (XR _) t2
    refine wp_region_quiet_below (by kernel_rfl) (by kernel_rfl) ?_
    repeat (go_big_quiet_step ((go_at_call 94; exact Calls.regrown_of (HC.out _ (regx _ _)))))
    refine wpQuiet_nil ?_
    clear gc0 gc1 gt0 gt1 gt2
    intro _ hw'
    obtain ⟨pw, hw''⟩ := hw'
    subst hw''
    have xW2 := regx W1 pw
    generalize hWR : «Sort».grow (redrawn W1 pw.d) pw.os = W2 at *
    clear hWR
    replace c0 := xW2.cell c0
    replace c1 := xW2.cell c1
    replace t0 := xW2.cell t0
    replace t1 := xW2.cell t1
    replace t2 := xW2.cell t2
    go_wp2_with fail
    go_meet
    exact ⟨by first | rfl | rw [HV2.out] | (rw [HV2.out]; rfl), xW2⟩
  have s8 : (tx2.toList == [58, 61]) = false := str_ne' k8
  have HV2 : Hid (V = false) := LH (by rw [<- hv, eqB_ff k8, Bool.and_false])
  clear hv k7 k8
  go_wp2_with fail
  have gc0 := reg (XR _) c0
  have gc1 := reg (XR _) c1
  have gt0 := reg (XR _) t0
  have gt1 := reg (XR _) t1
  have gt2 := reg (XR _) t2
  refine wp_region_quiet_below (by kernel_rfl) (by kernel_rfl) ?_
  repeat (go_big_quiet_step ((go_at_call 94; exact Calls.regrown_of (HC.out _ (regx _ _)))))
  refine wpQuiet_nil ?_
  clear gc0 gc1 gt0 gt1 gt2
  intro _ hw'
  obtain ⟨pw, hw''⟩ := hw'
  subst hw''
  have xW2 := regx W1 pw
  generalize hWR : «Sort».grow (redrawn W1 pw.d) pw.os = W2 at *
  clear hWR
  replace c0 := xW2.cell c0
  replace c1 := xW2.cell c1
  replace t0 := xW2.cell t0
  replace t1 := xW2.cell t1
  replace t2 := xW2.cell t2
  go_wp2_with fail
  go_meet
  exact ⟨by first | rfl | rw [HV2.out] | (rw [HV2.out]; rfl), xW2⟩
 case rest =>
  obtain ⟨rfl, x2⟩ := hcut
  have O2 := O1.ext x2
  have HP2 := LH (HP.out.ext (x1.trans x2))
  have HT2 : Hid (Touch w wc [B]) := LH (Touch.of_ext (x1.trans x2) _)
  have hs2 := (x1.trans x2).size
  clear O1 x1 x2
  have hro := O2.lt
  cases V
  rotate_left
  · have ⟨v1, v2⟩ : tkB ts a 1 = true /\ tkxB ts (a + 1) 7 asgM = true := by simpa using HV.out
    have hjt := tok_lt (by decide) v2
    have H0 := LH (fun (x : MExpr) (a2 : Nat) (b2 : Bool) (hg : Got b (fun n => pExpr ts n (a + 2)) b2 (x, a2)) => (((Todo.refl b (fun n => pExpr ts n a)).call hg (g := fun n r => some (eAsg (tkT ts a) r.1, r.2)) (fun n => by rw [pExpr, if_pos HV.out])).done (y := (eAsg (tkT ts a) x, a2)) (fun n => rfl)))
    have htz := HP2.out.txt a
    have HTK := LH (take_yes wc HP2.out 1 (by decide) v1)
    obtain ⟨tx, htx⟩ : ∃ x, tkT ts a = x := ⟨_, rfl⟩
    rw [htx] at HTK H0 htz
    clear htx v1 v2
    go_wp2_with fail
    refine HTK.out.mono ?_
    rintro e w3 ⟨rfl, K3, T3⟩
    have HP3 := LH K3
    have O3 := O2.touch' T3 (by simp; omega)
    have HT3 := LH (HT2.out.trans T3)
    have hs3 := T3.size
    obtain ⟨c0, c1, c2⟩ := K3.cells
    have zB := lt_of_cell c0
    have f1 := K3.own.f1
    rw [show ((a + 1 : Nat) : Int) = (a : Int) + 1 by omega] at c1
    clear K3 T3 O2 HT2 HTK
    go_upto_region 4 with fail
    generalize hS : World.setCell w3 _ _ = W4
    obtain ⟨K4, T4⟩ := HP3.out.setAt (a + 2) (by omega) (fun _ => by omega)
    rw [show ((a + 2 : Nat) : Int) = (a : Int) + 1 + 1 by omega] at K4 T4
    rw [hS] at K4 T4
    have HP4 := LH K4
    have O4 := O3.touch' T4 (by simp; omega)
    have HT4 := LH (HT3.out.trans T4)
    have hs4 := T4.size
    clear hS K4 T4 O3 HT3 HP3 c0 c1 c2 zB f1
    go_wp2_with fail
    refine (nested_at (fun _ => IH.out (a + 2) (by omega)) W4 b HP4.out).mono ?_
    rintro e w5 ⟨y, ds, gp, a2, b2, rfl, hr, hf, hp, hg, hm, hT⟩
    have O5 := O4.touch' hT (by simp; omega)
    have HG := LH (H0.out y a2 b2 hg)
    have HP5 := LH hp
    have HR5 := LH hr
    have HF5 := LH hf
    have HT5 := LH (HT4.out.trans hT)
    have hs5 := hT.size
    obtain ⟨z1, z2, z3, z4, rfl⟩ := fld5 hr
    clear hr hf hp hg hT O4 HT4 H0 HP4
    have o0 := O5.k0
    have of0 := O5.f0
    have o1 := O5.k1
    have of1 := O5.f1
    have o2 := O5.k2
    have of2 := O5.f2
    have o3 := O5.k3
    have of3 := O5.f3
    have o4 := O5.k4
    have of4 := O5.f4
    have oz := O5.lt
    go_wp2_with fail
    obtain ⟨O9, R9, T9⟩ := msg_A 5 O5 HR5.out (fun b hb => by have := HF5.out b hb; omega) tx
    generalize hWF : World.alloc (World.setCell (World.setCell (World.setCell (World.setCell (World.setCell w5 _ _) _ _) _ _) _ _) _ _) _ = W9 at *
    clear hWF
    have p0 := O9.k0
    have p1 := O9.k1
    have p2 := O9.k2
    have p3 := O9.k3
    have p4 := O9.k4
    have pz := O9.lt
    have FIN : EGot B tb to_ cap ao ts 1 w a b (fun n => pExpr ts n a) (.returned (.agg #[.int .i64 5, .string tx, .int .i64 0, .slice none 0 0, .slice (some ⟨w5.heap.size, 0, none⟩) 1 1])) W9 := ⟨eAsg tx y, _, (w5.heap.size :: gp), a2, b2, rfl, R9, (fun k hk => by
     rcases List.mem_cons.1 hk with rfl | hk
     · omega
     · have := HF5.out k hk; omega), HP.out.late HP5.out T9 (fun k hk => by simp at hk; omega), HG.out, ⟨by omega, fun _ => Or.inl (by omega)⟩, HT5.out.late2 T9 (fun k hk => by simp at hk; omega)⟩
    exact bodyPost_ret (v := .agg #[.int .i64 5, .string tx, .int .i64 0, .slice none 0 0, .slice (some ⟨w5.heap.size, 0, none⟩) 1 1]) (by simp [results, Tryz.results57, go_sem, p0, p1, p2, p3, p4, pz]) rfl FIN
  have H0 := LH ((Todo.refl b (fun n => pExpr ts n a)).step (H := fun n => (pBinary ts n a).bind fun r => pWord ts n r.1 r.2.1 r.2.2) (fun n => by rw [pExpr, if_neg (by rw [HV.out]; decide)]))
  clear HV
  go_wp2_with fail
  refine (bin_all IH.out a (Nat.le_refl _) wc b HP2.out ha).mono ?_
  rintro e w3 ⟨x, cs, fp, s, j, bj, rfl, hr, hf, hp, hg, hs, hm, hT⟩
  have HTD := LH (H0.out.call0 hg (g := fun n r => pWord ts n r.1 r.2.1 r.2.2) (fun n => rfl))
  have O3 := O2.touch' hT (by simp; omega)
  have hs3 := hT.size
  obtain ⟨y1, y2, y3, y4, rfl⟩ := fld5 hr
  go_upto_region 6 with fail
  generalize hS : World.alloc w3 _ = W4
  have x4 : Ext w3 W4 := by rw [<- hS]; exact (XR _).alloc _
  have OE : Own W4 w3.heap.size 27 #[.int .i64 x.kind, .string x.text, .int .i64 x.number, .slice y1 x.names.length y2, .slice y3 x.kids.length y4] := by rw [<- hS]; exact own_new w3 _ _
  have O4 := O3.ext x4
  have HP4 := LH (hp.ext x4)
  have HR4 := LH (hr.ext x4)
  have HF4 : Hid (∀ k, k ∈ fp -> w.heap.size < k /\ k ≠ w3.heap.size) := LH fun k hk => by
   have h1 := hf k hk
   have h2 := hr.lt _ k hk
   omega
  have HT4 := LH ((HT2.out.trans hT).trans (Touch.of_ext x4 [B]))
  have HS := LH hs
  have hebr : w.heap.size < w3.heap.size := by omega
  have hebB : ¬ w3.heap.size = B := by omega
  have hm3 := hm
  clear hr hf hp hg hT O2 O3 hS x4 hs hm H0 HT2 HP2
  generalize hbe : w3.heap.size = eb at *
  clear hbe
  obtain ⟨V2, hV2⟩ : ∃ V, tkB ts j 2 = V := ⟨_, rfl⟩
  have HV2 := LH hV2
  clear hV2
  go_cut [64] (fun v wx => v = .bool V2 /\ Ext W4 wx)
  case first =>
   have hv := HV2.out
   rw [tkB_eq (by decide)] at hv
   go_wp2_with fail
   refine (peek_any _ HP4.out).mono ?_
   rintro e w5 ⟨rfl, hx⟩
   have hf := fld0 (tkK ts j) (tkN ts j) (tkT ts j) w5
   generalize tkK ts j = kd at *
   generalize tkT ts j = tx at *
   generalize tkN ts j = nm at *
   go_wp2_with fail
   go_meet
   exact ⟨by first | rfl | rw [hv], hx⟩
  case rest =>
   obtain ⟨rfl, x5⟩ := hcut
   have OE5 := OE.ext x5
   have O5 := O4.ext x5
   have HP5 := LH (HP4.out.ext x5)
   have HR5 := LH (HR4.out.ext x5)
   have HT5 := LH (HT4.out.trans (Touch.of_ext x5 [B]))
   have hs5 := x5.size
   clear OE O4 HP4 HR4 HT4 x5
   go_upto_if 64 with fail
   go_cut [5] (fun v wx => ∃ (x : MExpr) (cs : List Value) (fp : List Nat) (s : Bool) (j : Nat) (bj : Bool), v = .bool s /\ Own wx eb 27 cs.toArray /\ RepF wx x.d cs fp /\ (∀ k, k ∈ fp -> w.heap.size < k /\ k ≠ eb) /\ Prs 49 B tb to_ cap ao ts wx (j) bj /\ Todo b (fun n => pExpr ts n a) bj (fun n => pSemi ts n x s j) /\ (s = true -> x.kids ≠ []) /\ a < j /\ Own wx w.heap.size 27 #[.int .i64 0, .string ⟨#[]⟩, .int .i64 0, .slice none 0 0, .slice none 0 0] /\ Touch w wx [B])
   case first =>
    cases V2
    · go_wp2_with fail
      go_meet
      exact ⟨x, _, fp, s, j, bj, rfl, OE5, HR5.out, HF4.out, HP5.out, HTD.out.step (fun n => by rw [pWord, if_neg (by rw [HV2.out]; decide)]), HS.out, hm3, O5, HT5.out⟩
    have HTC := LH (HTD.out.step (H := fun n => (pKeys ts n ⟨#[]⟩ [] j).bind fun r => pSemi ts n (eMsg r.1 (x :: r.2.1)) true r.2.2) (fun n => by rw [pWord, if_pos HV2.out]))
    have hjl := HP5.out.le
    clear HV2 HTD
    go_wp2_with fail
    refine (key_all IH.out j (by omega) _ bj HP5.out).mono ?_
    rintro e w6 ⟨sel, l, v, a2, b2, rfl, hA, hp, hg, hl, hsz, hT⟩
    have OE6 := OE5.touch' hT (by simpa using hebB)
    have O6 := O5.touch' hT (by simp; omega)
    have HR6 := LH (HR5.out.touch hT (fun k hk hm => by have := HF4.out k hk; simp at hm; omega))
    have HTD6 := LH (HTC.out.call0 hg (g := fun n r => pSemi ts n (eMsg r.1 (x :: r.2.1)) true r.2.2) (fun n => rfl))
    obtain ⟨va, vc, gp, rfl, hrA, hge⟩ := AccX.rep hA
    have HP6 := LH hp
    have HA6 := LH hrA
    have HGE := LH hge
    have HT6 := LH (HT5.out.trans hT)
    have hs6 := hT.size
    have hez := OE5.lt
    clear hA hp hg hrA hge hT OE5 O5 HR5 HP5 HT5 HTC
    have q0 := OE6.k0
    have qf0 := OE6.f0
    have q1 := OE6.k1
    have qf1 := OE6.f1
    have q2 := OE6.k2
    have qf2 := OE6.f2
    have q3 := OE6.k3
    have qf3 := OE6.f3
    have q4 := OE6.k4
    have qf4 := OE6.f4
    have qz := OE6.lt
    have x7 : Ext w6 (w6.alloc (.cells #[.int .i64 x.kind, .string x.text, .int .i64 x.number, .slice y1 x.names.length y2, .slice y3 x.kids.length y4] 27)) := (XR w6).alloc _
    have KD : AccXS (fun k => w.heap.size < k /\ k ≠ eb) (w.heap.size + 1) (w6.alloc (.cells #[.int .i64 x.kind, .string x.text, .int .i64 x.number, .slice y1 x.names.length y2, .slice y3 x.kids.length y4] 27)) (.slice (some ⟨w6.heap.size, 0, none⟩) 1 1) [x] := AccXS.one (HR6.out.ext x7) (own_new w6 #[.int .i64 x.kind, .string x.text, .int .i64 x.number, .slice y1 x.names.length y2, .slice y3 x.kids.length y4] 27) (by omega) (fun k hk => ⟨HF4.out k hk, by have := HR6.out.lt _ k hk; omega⟩)
    have HSL := HA6.out.ext x7
    have F1 : ∀ k, k ∈ gp.tail -> w.heap.size < k /\ k ≠ eb := fun k hk => by have := HGE.out k (List.mem_of_mem_tail hk); omega
    have F2 : ∀ k, (Value.slice (some ⟨w6.heap.size, 0, none⟩) 1 1).ownBlock = some k -> k ∉ gp.tail := fun k hk hm => by
     have := HA6.out.lt _ k (List.mem_of_mem_tail hm)
     simp [Value.ownBlock] at hk
     omega
    have hl7 := HP6.out.le
    have hl1 : ([x] : List MExpr).length + l.length <= 1073741824 := by simp; omega
    go_wp2_with (at_builtin; refine wpList_append_xs rfl _ _ rfl (w.heap.size + 1) _ [x] rfl KD l _ _ _ gp rfl HSL F1 F2 hl1 (by simp; omega) ?_)
    intro a1 k1 w7 ac1 g1 m1
    have TG : Touch (w6.alloc (.cells #[.int .i64 x.kind, .string x.text, .int .i64 x.number, .slice y1 x.names.length y2, .slice y3 x.kids.length y4] 27)) w7 [w6.heap.size] := (Touch.of_ext (XR _) _).grown g1 fun k hk => Or.inl (by simp [Value.ownBlock] at hk; simp [hk])
    have HP7 := LH (HP.out.late (HP6.out.ext x7) TG (fun k hk => by simp at hk; omega))
    have HT7 := LH ((HT6.out.trans (Touch.of_ext x7 [B])).late2 TG (fun k hk => by simp at hk; omega))
    have OE7 := (OE6.ext x7).touch' TG (by simp; omega)
    have O7 := (O6.ext x7).touch' TG (by simp; omega)
    have hs7 := TG.size
    obtain ⟨va', vc', gp', hv7, hr7, hge7⟩ := AccXS.rep ac1
    have e7 : (x :: l).length = 1 + l.length := by rw [List.length_cons, Nat.add_comm]
    rw [e7] at hv7 hr7
    injection hv7 with hv7 _ hv8
    subst hv7
    subst hv8
    have HR7 := LH hr7
    have HF7 : Hid (∀ k, k ∈ gp' -> w.heap.size < k /\ k ≠ eb) := LH fun k hk => by
     rcases hge7 k hk with h | h
     · exact h
     · rcases m1 with m1 | m1
       · rw [m1] at h; simp [Value.ownBlock] at h; omega
       · rw [m1] at h; simp at h; omega
    clear KD HSL F1 F2 hl1 g1 m1 TG ac1 OE6 O6 HP6 HT6 HA6 HGE hr7 hge7 e7 x7 q0 qf0 q1 qf1 q2 qf2 q3 qf3 q4 qf4 qz
    have q0 := OE7.k0
    have qf0 := OE7.f0
    have q1 := OE7.k1
    have qf1 := OE7.f1
    have q2 := OE7.k2
    have qf2 := OE7.f2
    have q3 := OE7.k3
    have qf3 := OE7.f3
    have q4 := OE7.k4
    have qf4 := OE7.f4
    have qz := OE7.lt
    go_wp2_with fail
    generalize hS : World.setCell (World.setCell (World.setCell (World.setCell (World.setCell w7 _ _) _ _) _ _) _ _) _ _ = W8
    obtain ⟨O8, T8⟩ := own5 OE7 (.int .i64 6) (.string sel) (.int .i64 0) (.slice none 0 0) (.slice a1 (1 + l.length) k1)
    rw [hS] at O8 T8
    clear hS
    have R8 := MExpr.shut (x := eMsg sel (x :: l)) (rep_nilT W8) (HR7.out.touch T8 (fun k hk hm => (HF7.out k hk).2 (by simpa using hm)))
    simp only [List.append_nil, List.nil_append] at R8
    go_meet
    exact ⟨eMsg sel (x :: l), _, gp', true, a2, b2, rfl, O8, R8, HF7.out, HP.out.late HP7.out T8 (fun k hk => by simp at hk; omega), HTD6.out, fun _ => by simp [eMsg], by omega, O7.touch' T8 (by simp; omega), HT7.out.late2 T8 (fun k hk => by simp at hk; omega)⟩
   case rest =>
    obtain ⟨x, cs, fp, s, j, bj, rfl, OE, hr, hF, hp, hTD, hs, haj, hB, hT⟩ := hcut
    obtain ⟨y1, y2, y3, y4, rfl⟩ := fld5 hr
    have HI := is_any _ hp 7 ⟨#[59]⟩
    rw [<- tkxB_eq (by decide)] at HI
    have HR := LH hr
    have HF := LH hF
    have HPj := LH hp
    have HTS := LH hTD
    have HT := LH hT
    have hjl := hp.le
    have hws := hT.size
    clear hr hF hp hTD hT HR5 HF4 HP5 HT5 OE5 O5 HV2 HTD HS
    cases hb : tkxB ts j 7 semiM
    · have HI2 : Hid _ := LH HI
      have HG := LH (HTS.out.done (y := (x, j)) (fun n => by rw [pSemi, if_neg (by rw [hb]; decide)]))
      have e59 : tkxB ts j 7 ⟨#[59]⟩ = false := hb
      rw [e59] at HI2
      clear hb HI HTS e59
      go_wp2_with fail
      refine HI2.out.mono ?_
      rintro e w5 ⟨rfl, hx⟩
      have OE5 := OE.ext hx
      have O5 := hB.ext hx
      have HX := LH hx
      clear hx HI2 OE hB
      have q0 := OE5.k0
      have qf0 := OE5.f0
      have q1 := OE5.k1
      have qf1 := OE5.f1
      have q2 := OE5.k2
      have qf2 := OE5.f2
      have q3 := OE5.k3
      have qf3 := OE5.f3
      have q4 := OE5.k4
      have qf4 := OE5.f4
      have qz := OE5.lt
      have o0 := O5.k0
      have of0 := O5.f0
      have o1 := O5.k1
      have of1 := O5.f1
      have o2 := O5.k2
      have of2 := O5.f2
      have o3 := O5.k3
      have of3 := O5.f3
      have o4 := O5.k4
      have of4 := O5.f4
      have oz := O5.lt
      go_wp2_with fail
      generalize hS : World.setCell (World.setCell (World.setCell (World.setCell (World.setCell w5 _ _) _ _) _ _) _ _) _ _ = W9
      obtain ⟨O9, T9⟩ := own5 O5 (.int .i64 x.kind) (.string x.text) (.int .i64 x.number) (.slice y1 x.names.length y2) (.slice y3 x.kids.length y4)
      rw [hS] at O9 T9
      clear hS
      have p0 := O9.k0
      have p1 := O9.k1
      have p2 := O9.k2
      have p3 := O9.k3
      have p4 := O9.k4
      have pz := O9.lt
      have FIN : EGot B tb to_ cap ao ts 1 w a b (fun n => pExpr ts n a) (.returned (.agg #[.int .i64 x.kind, .string x.text, .int .i64 x.number, .slice y1 x.names.length y2, .slice y3 x.kids.length y4])) W9 := ⟨x, _, fp, j, bj, rfl, (HR.out.ext HX.out).touch T9 (fun k hk hm => by have := HF.out k hk; simp at hm; omega), fun k hk => by have := HF.out k hk; omega, HP.out.late (HPj.out.ext HX.out) T9 (fun k hk => by simp at hk; omega), HG.out, ⟨by omega, fun _ => Or.inl (by omega)⟩, (HT.out.trans (Touch.of_ext HX.out [B])).late2 T9 (fun k hk => by simp at hk; omega)⟩
      exact bodyPost_ret (v := .agg #[.int .i64 x.kind, .string x.text, .int .i64 x.number, .slice y1 x.names.length y2, .slice y3 x.kids.length y4]) (by simp [results, Tryz.results57, go_sem, p0, p1, p2, p3, p4, pz]) rfl FIN
    have e59 : tkxB ts j 7 ⟨#[59]⟩ = true := hb
    rw [e59] at HI
    have HI2 := LH HI
    clear HI e59
    cases s
    · have HG : Hid (Got b (fun n => pExpr ts n a) true (x, j)) := LH (HTS.out.fail (x, j) (fun n => by rw [pSemi, if_pos hb, if_neg (by decide)]))
      clear hb HTS
      go_wp2_with fail
      refine HI2.out.mono ?_
      rintro e w5 ⟨rfl, hx⟩
      have OE5 := OE.ext hx
      have O5 := hB.ext hx
      have HP5 := LH (HPj.out.ext hx)
      have HX := LH hx
      have hs5 := hx.size
      clear hx HI2 OE hB HPj
      obtain ⟨c0, c1, c2⟩ := HP5.out.cells
      have zB := lt_of_cell c0
      have f2 := HP5.out.own.f2
      go_upto_region 13 with fail
      generalize hS2 : World.setCell w5 _ _ = W6
      obtain ⟨K6, T6⟩ := HP5.out.setBad
      rw [hS2] at K6 T6
      have OE6 := OE5.touch' T6 (by simp; omega)
      have O6 := O5.touch' T6 (by simp; omega)
      have HP6 := LH K6
      have HT6 := LH ((HT.out.trans (Touch.of_ext HX.out [B])).trans T6)
      have HR6 := LH ((HR.out.ext HX.out).touch T6 (fun k hk hm => by have := HF.out k hk; simp at hm; omega))
      have hs6 := T6.size
      clear hS2 K6 T6 c0 c1 c2 zB f2 OE5 O5 HP5 HT HR
      have q0 := OE6.k0
      have qf0 := OE6.f0
      have q1 := OE6.k1
      have qf1 := OE6.f1
      have q2 := OE6.k2
      have qf2 := OE6.f2
      have q3 := OE6.k3
      have qf3 := OE6.f3
      have q4 := OE6.k4
      have qf4 := OE6.f4
      have qz := OE6.lt
      have o0 := O6.k0
      have of0 := O6.f0
      have o1 := O6.k1
      have of1 := O6.f1
      have o2 := O6.k2
      have of2 := O6.f2
      have o3 := O6.k3
      have of3 := O6.f3
      have o4 := O6.k4
      have of4 := O6.f4
      have oz := O6.lt
      go_wp2_with fail
      generalize hS : World.setCell (World.setCell (World.setCell (World.setCell (World.setCell W6 _ _) _ _) _ _) _ _) _ _ = W9
      obtain ⟨O9, T9⟩ := own5 O6 (.int .i64 x.kind) (.string x.text) (.int .i64 x.number) (.slice y1 x.names.length y2) (.slice y3 x.kids.length y4)
      rw [hS] at O9 T9
      clear hS
      have p0 := O9.k0
      have p1 := O9.k1
      have p2 := O9.k2
      have p3 := O9.k3
      have p4 := O9.k4
      have pz := O9.lt
      have FIN : EGot B tb to_ cap ao ts 1 w a b (fun n => pExpr ts n a) (.returned (.agg #[.int .i64 x.kind, .string x.text, .int .i64 x.number, .slice y1 x.names.length y2, .slice y3 x.kids.length y4])) W9 := ⟨x, _, fp, j, true, rfl, HR6.out.touch T9 (fun k hk hm => by have := HF.out k hk; simp at hm; omega), fun k hk => by have := HF.out k hk; omega, HP.out.late HP6.out T9 (fun k hk => by simp at hk; omega), HG.out, ⟨by omega, fun _ => Or.inl (by omega)⟩, HT6.out.late2 T9 (fun k hk => by simp at hk; omega)⟩
      exact bodyPost_ret (v := .agg #[.int .i64 x.kind, .string x.text, .int .i64 x.number, .slice y1 x.names.length y2, .slice y3 x.kids.length y4]) (by simp [results, Tryz.results57, go_sem, p0, p1, p2, p3, p4, pz]) rfl FIN
    have HTC := LH (HTS.out.step (H := fun n => pCasc ts n (x.kids.take 1 ++ [eMsg x.text (x.kids.drop 1)]) j) (fun n => by rw [pSemi, if_pos hb, if_pos rfl]))
    clear hb HTS
    go_wp2_with fail
    refine HI2.out.mono ?_
    rintro e w5 ⟨rfl, hx⟩
    have O5 := hB.ext hx
    have HP5 := LH (HPj.out.ext hx)
    have HT5 := LH (HT.out.trans (Touch.of_ext hx [B]))
    have OE5 := OE.ext hx
    have hr5 := HR.out.ext hx
    have hs5 := hx.size
    obtain ⟨k0, l, hkl⟩ := kids_cons (hs (by simp))
    obtain ⟨hkn, g, off, cs0, f0, f1, rfl, hg, hlc, hcm, r0, hcell, hs0, hs1, rl⟩ := kids_open hr5 hkl
    rw [hkn] at OE5
    obtain ⟨u1, u2, u3, u4, rfl⟩ := fld5 r0
    have HF0 : Hid (∀ k, k ∈ f0 -> w.heap.size < k /\ k ≠ eb) := LH fun k hk => HF.out k (hs0 k hk)
    have HF1 : Hid (∀ k, k ∈ f1 -> w.heap.size < k /\ k ≠ eb) := LH fun k hk => HF.out k (hs1 k hk)
    have HR0 := LH r0
    have HRL := LH rl
    have HCE := LH hcell
    have HTC2 : Hid (Todo b (fun n => pExpr ts n a) bj (fun n => pCasc ts n [k0, eMsg x.text l] j)) := LH (by have := HTC.out; rw [hkl] at this; exact this)
    have hlb : l.length <= maxLen := by omega
    unfold maxLen at hcm hlb
    clear hx HI2 OE hB HPj HT HR hr5 hs hs0 hs1 r0 rl hcell hkl HTC HF
    clear hkn
    have q0 := OE5.k0
    have qf0 := OE5.f0
    have q1 := OE5.k1
    have qf1 := OE5.f1
    have q2 := OE5.k2
    have qf2 := OE5.f2
    have q3 := OE5.k3
    have qf3 := OE5.f3
    have q4 := OE5.k4
    have qf4 := OE5.f4
    have qz := OE5.lt
    have hl1 : (1 : Int) <= (l.length : Int) + 1 := by omega
    have hl2 : ((l.length + 1 : Nat) : Int) = (l.length : Int) + 1 := by omega
    go_upto_region 14 with fail
    go_cut [8] (fun v wx => ∃ fb, v = .pointer (some ⟨fb, 0, none⟩) /\ Own wx fb 27 #[.int .i64 6, .string x.text, .int .i64 0, .slice none 0 0, .slice (if y4 = 1 then some ⟨g, off, none⟩ else some ⟨g, off + 5, none⟩) l.length (y4 - 1)] /\ w5.heap.size <= fb /\ Ext w5 wx)
    case first =>
     by_cases hc1 : y4 = 1
     · have ON := (own_new w5 #[.int .i64 6, .string x.text, .int .i64 0, .slice none 0 0, .slice (some ⟨g, off, none⟩) l.length 0] 27).ext (Ext.drew (XR _))
       have EX : Ext w5 _ := ((XR w5).alloc (Obj.cells #[.int .i64 6, .string x.text, .int .i64 0, .slice none 0 0, .slice (some ⟨g, off, none⟩) l.length 0] 27)).drew
       go_region
       go_wp2_with fail
       go_meet
       exact ⟨w5.heap.size, rfl, by simp only [hc1, if_true, Nat.sub_self]; exact ON, Nat.le_refl _, EX⟩
     have ON := (own_new w5 #[.int .i64 6, .string x.text, .int .i64 0, .slice none 0 0, .slice (some ⟨g, off + 5, none⟩) l.length (y4 - 1)] 27).ext (Ext.drew (XR _))
     have EX : Ext w5 _ := ((XR w5).alloc (Obj.cells #[.int .i64 6, .string x.text, .int .i64 0, .slice none 0 0, .slice (some ⟨g, off + 5, none⟩) l.length (y4 - 1)] 27)).drew
     go_region
     go_wp2_with fail
     go_meet
     exact ⟨w5.heap.size, rfl, by simp only [hc1, if_false]; exact ON, Nat.le_refl _, EX⟩
    case rest =>
     clear q0 qf0 q1 qf1 q2 qf2 q3 qf3 q4 qf4 qz
     obtain ⟨fb, rfl, OF, hfb, x6⟩ := hcut
     obtain ⟨va, hva⟩ : ∃ v : Option Addr, v = (if y4 = 1 then some ⟨g, off, none⟩ else some ⟨g, off + 5, none⟩) := ⟨_, rfl⟩
     rw [<- hva] at OF
     have HRL6 : Hid (RepF wc (MExprs l) [.slice va l.length (y4 - 1)] f1) := LH (by rw [hva]; exact HRL.out.ext x6)
     clear hva
     have q4 : wc.cell? ⟨eb, 4, none⟩ = some (.slice (some ⟨g, off, none⟩) (l.length + 1) y4) := (OE5.ext x6).cell 4
     have qz := (OE5.ext x6).lt
     have k0c : wc.cell? ⟨g, off, none⟩ = some (.int .i64 k0.kind) := by have := Ext.cell x6 (HCE.out 0 _ rfl); simpa using this
     have k1c : wc.cell? ⟨g, off + 1, none⟩ = some (.string k0.text) := by have := Ext.cell x6 (HCE.out 1 _ rfl); simpa using this
     have k2c : wc.cell? ⟨g, off + 2, none⟩ = some (.int .i64 k0.number) := by have := Ext.cell x6 (HCE.out 2 _ rfl); simpa using this
     have k3c : wc.cell? ⟨g, off + 3, none⟩ = some (.slice u1 k0.names.length u2) := by have := Ext.cell x6 (HCE.out 3 _ rfl); simpa using this
     have k4c : wc.cell? ⟨g, off + 4, none⟩ = some (.slice u3 k0.kids.length u4) := by have := Ext.cell x6 (HCE.out 4 _ rfl); simpa using this
     have hgz : g < wc.heap.size := Nat.lt_of_lt_of_le hg x6.size
     have HR06 := LH (HR0.out.ext x6)
     have HP6 := LH (HP5.out.ext x6)
     have HT6 := LH (HT5.out.trans (Touch.of_ext x6 [B]))
     have O6 := O5.ext x6
     have hs6 := x6.size
     clear x6 HRL HR0 HP5 HT5 O5 OE5 HCE hg
     have r0 := OF.k0
     have rf0 := OF.f0
     have r1 := OF.k1
     have rf1 := OF.f1
     have r2 := OF.k2
     have rf2 := OF.f2
     have r3 := OF.k3
     have rf3 := OF.f3
     have r4 := OF.k4
     have rf4 := OF.f4
     have rz := OF.lt
     go_upto_region 15 with fail
     go_cut [9] (fun v wx => ∃ ob nb, v = .pointer (some ⟨ob, 0, none⟩) /\ Own wx ob 27 #[.int .i64 7, .string ⟨#[]⟩, .int .i64 0, .slice none 0 0, .slice (some ⟨nb, 0, none⟩) 2 2] /\ Own wx nb 27 #[.int .i64 k0.kind, .string k0.text, .int .i64 k0.number, .slice u1 k0.names.length u2, .slice u3 k0.kids.length u4, .int .i64 6, .string x.text, .int .i64 0, .slice none 0 0, .slice va l.length (y4 - 1)] /\ wc.heap.size <= ob /\ wc.heap.size <= nb /\ ob ≠ nb /\ Ext wc wx)
     case first =>
      go_region
      · go_wp2_with fail
        go_meet
        exact ⟨wc.heap.size + 1, wc.heap.size, rfl, (own_new2 wc _ _ _).ext (Ext.drew (XR _)), ((own_new wc _ _).ext ((XR _).alloc _)).ext (Ext.drew (XR _)), by omega, by omega, by omega, ((XR wc).alloc _).alloc _ |>.drew⟩
      · go_wp2_with fail
        go_meet
        exact ⟨wc.heap.size, wc.heap.size + 1, rfl, ((own_new wc _ _).ext ((XR _).alloc _)).ext (Ext.drew (XR _)), (own_new2 wc _ _ _).ext (Ext.drew (XR _)), by omega, by omega, by omega, ((XR wc).alloc _).alloc _ |>.drew⟩
     case rest =>
      obtain ⟨ob, nb, rfl, OO, ON, hob, hnb, hon, x7⟩ := hcut
      have O7 := O6.ext x7
      have HP7 := LH (HP6.out.ext x7)
      have HT7 := LH (HT6.out.trans (Touch.of_ext x7 [B]))
      have RF := MExpr.shut (x := eMsg x.text l) (rep_nilT _) (HRL6.out.ext x7)
      simp only [List.append_nil, List.nil_append] at RF
      have hfl0 := HR06.out.lt
      have hfl1 := HRL6.out.lt
      have A7 : Hid (AccXS (fun k => w.heap.size < k /\ k ≠ ob) (w.heap.size + 1) _ (.slice (some ⟨nb, 0, none⟩) 2 2) [k0, eMsg x.text l]) := LH (AccXS.two (HR06.out.ext x7) RF ON (by omega) (fun k hk => by
       rcases List.mem_append.1 hk with hk | hk
       · have h1 := HF0.out k hk; have h2 := hfl0 k hk; exact ⟨⟨h1.1, by omega⟩, by omega⟩
       · have h1 := HF1.out k hk; have h2 := hfl1 k hk; exact ⟨⟨h1.1, by omega⟩, by omega⟩))
      have hobr : w.heap.size < ob := by omega
      have hbn : (Value.slice (some ⟨nb, 0, none⟩) 2 2).ownBlock ≠ some ob := by simp [Value.ownBlock]; omega
      have hobB : ¬ ob = B := by omega
      clear RF HRL6 HR06 ON x7 hfl0 hfl1 HP6 HT6 O6 HF0 HF1 r0 rf0 r1 rf1 r2 rf2 r3 rf3 r4 rf4 rz q4 qz k0c k1c k2c k3c k4c hgz
      go_wp2_with fail
      go_loopw [] (fun wr => ∃ (l : List MExpr) (v : Value) (j : Nat) (bj : Bool), Own wr ob 27 #[.int .i64 7, .string ⟨#[]⟩, .int .i64 0, .slice none 0 0, v] /\ AccXS (fun k => w.heap.size < k /\ k ≠ ob) (w.heap.size + 1) wr v l /\ Prs 49 B tb to_ cap ao ts wr (j) bj /\ Hid (Todo b (fun n => pExpr ts n a) bj (fun n => pCasc ts n l j)) /\ (a < j /\ l.length <= j + 2) /\ Own wr w.heap.size 27 #[.int .i64 0, .string ⟨#[]⟩, .int .i64 0, .slice none 0 0, .slice none 0 0] /\ v.ownBlock ≠ some ob /\ Touch w wr [B]) (fun wr => ts.length + 1 - placeOf B wr)
      case atStart => exact ⟨[k0, eMsg x.text l], _, j, bj, OO, A7.out, HP7.out, HTC2, ⟨haj, by simp⟩, O7, hbn, HT7.out⟩
      case round =>
       clear OO A7 HP7 HTC2 O7 HT7 hbn
       obtain ⟨l, v, j, bj, hO, hA, hp, HTD, ⟨haj, hlj⟩, hB, hnv, hT⟩ := hrel
       have HA := LH hA
       have HPj := LH hp
       have HT := LH hT
       obtain ⟨c0, c1, c2⟩ := hp.cells
       have zB := lt_of_cell c0
       have hjl := hp.le
       have hws := hT.size
       clear hA hp hT
       cases bj
       rotate_left
       · have HG : Hid (Got b (fun n => pExpr ts n a) true (eCasc l, j)) := LH (HTD.out.dead _)
         clear HTD
         obtain ⟨va, vc, gp, rfl, hr9, hge9⟩ := AccXS.rep HA.out
         have HGE9 : Hid (∀ k, k ∈ gp -> w.heap.size < k) := LH fun k hk => by
          rcases hge9 k hk with h | h
          · exact h.1
          · have := (AcwS.ge HA.out h).1; omega
         have HR9 := LH hr9
         clear hr9 hge9
         have q0 := hO.k0
         have qf0 := hO.f0
         have q1 := hO.k1
         have qf1 := hO.f1
         have q2 := hO.k2
         have qf2 := hO.f2
         have q3 := hO.k3
         have qf3 := hO.f3
         have q4 := hO.k4
         have qf4 := hO.f4
         have qz := hO.lt
         have o0 := hB.k0
         have of0 := hB.f0
         have o1 := hB.k1
         have of1 := hB.f1
         have o2 := hB.k2
         have of2 := hB.f2
         have o3 := hB.k3
         have of3 := hB.f3
         have o4 := hB.k4
         have of4 := hB.f4
         have oz := hB.lt
         go_wp2_with fail
         generalize hS : World.setCell (World.setCell (World.setCell (World.setCell (World.setCell wr _ _) _ _) _ _) _ _) _ _ = W9
         obtain ⟨O9, T9⟩ := own5 hB (.int .i64 7) (.string ⟨#[]⟩) (.int .i64 0) (.slice none 0 0) (.slice va l.length vc)
         rw [hS] at O9 T9
         clear hS
         have p0 := O9.k0
         have p1 := O9.k1
         have p2 := O9.k2
         have p3 := O9.k3
         have p4 := O9.k4
         have pz := O9.lt
         have RX := MExpr.shut (x := eCasc l) (rep_nilT W9) (HR9.out.touch T9 (fun k hk hm => by have := HGE9.out k hk; simp at hm; omega))
         simp only [List.append_nil, List.nil_append] at RX
         have FIN : EGot B tb to_ cap ao ts 1 w a b (fun n => pExpr ts n a) (.returned (.agg #[.int .i64 7, .string ⟨#[]⟩, .int .i64 0, .slice none 0 0, .slice va l.length vc])) W9 := ⟨eCasc l, _, gp, j, _, rfl, RX, fun k hk => by have := HGE9.out k hk; omega, HP.out.late HPj.out T9 (fun k hk => by simp at hk; omega), HG.out, ⟨by omega, fun _ => Or.inl (by omega)⟩, HT.out.late2 T9 (fun k hk => by simp at hk; omega)⟩
         exact bodyPost_ret (v := .agg #[.int .i64 7, .string ⟨#[]⟩, .int .i64 0, .slice none 0 0, .slice va l.length vc]) (by simp [results, Tryz.results57, go_sem, p0, p1, p2, p3, p4, pz]) rfl FIN
       cases hb : tkxB ts j 7 semiM
       · have HE := LH (eat_no wr HPj.out 7 ⟨#[59]⟩ (by decide) hb)
         have HG : Hid (Got b (fun n => pExpr ts n a) false (eCasc l, j)) := LH (HTD.out.done (fun n => by rw [pCasc, if_neg (by rw [hb]; decide)]))
         clear HTD hb
         go_wp2_with fail
         refine HE.out.mono ?_
         rintro e w1 ⟨rfl, K1, T1⟩
         have hO1 := hO.touch' T1 (by simpa using hobB)
         have hB1 := hB.touch' T1 (by simp; omega)
         have HA1 := LH (HA.out.touch T1 (fun k hk => by simp at hk; subst hk; exact ⟨fun h => by have := h.1; omega, fun h => by have := (AcwS.ge HA.out h).1; omega⟩))
         have HK1 := LH K1
         have HT1 := LH (HT.out.trans T1)
         have hs1 := T1.size
         clear K1 T1 HA HPj HT HE c0 c1 c2 zB hO hB
         obtain ⟨va, vc, gp, rfl, hr9, hge9⟩ := AccXS.rep HA1.out
         have HGE9 : Hid (∀ k, k ∈ gp -> w.heap.size < k) := LH fun k hk => by
          rcases hge9 k hk with h | h
          · exact h.1
          · have := (AcwS.ge HA1.out h).1; omega
         have HR9 := LH hr9
         clear hr9 hge9
         have q0 := hO1.k0
         have qf0 := hO1.f0
         have q1 := hO1.k1
         have qf1 := hO1.f1
         have q2 := hO1.k2
         have qf2 := hO1.f2
         have q3 := hO1.k3
         have qf3 := hO1.f3
         have q4 := hO1.k4
         have qf4 := hO1.f4
         have qz := hO1.lt
         have o0 := hB1.k0
         have of0 := hB1.f0
         have o1 := hB1.k1
         have of1 := hB1.f1
         have o2 := hB1.k2
         have of2 := hB1.f2
         have o3 := hB1.k3
         have of3 := hB1.f3
         have o4 := hB1.k4
         have of4 := hB1.f4
         have oz := hB1.lt
         go_wp2_with fail
         generalize hS : World.setCell (World.setCell (World.setCell (World.setCell (World.setCell w1 _ _) _ _) _ _) _ _) _ _ = W9
         obtain ⟨O9, T9⟩ := own5 hB1 (.int .i64 7) (.string ⟨#[]⟩) (.int .i64 0) (.slice none 0 0) (.slice va l.length vc)
         rw [hS] at O9 T9
         clear hS
         have p0 := O9.k0
         have p1 := O9.k1
         have p2 := O9.k2
         have p3 := O9.k3
         have p4 := O9.k4
         have pz := O9.lt
         have RX := MExpr.shut (x := eCasc l) (rep_nilT W9) (HR9.out.touch T9 (fun k hk hm => by have := HGE9.out k hk; simp at hm; omega))
         simp only [List.append_nil, List.nil_append] at RX
         have FIN : EGot B tb to_ cap ao ts 1 w a b (fun n => pExpr ts n a) (.returned (.agg #[.int .i64 7, .string ⟨#[]⟩, .int .i64 0, .slice none 0 0, .slice va l.length vc])) W9 := ⟨eCasc l, _, gp, j, _, rfl, RX, fun k hk => by have := HGE9.out k hk; omega, HP.out.late HK1.out T9 (fun k hk => by simp at hk; omega), HG.out, ⟨by omega, fun _ => Or.inl (by omega)⟩, HT1.out.late2 T9 (fun k hk => by simp at hk; omega)⟩
         exact bodyPost_ret (v := .agg #[.int .i64 7, .string ⟨#[]⟩, .int .i64 0, .slice none 0 0, .slice va l.length vc]) (by simp [results, Tryz.results57, go_sem, p0, p1, p2, p3, p4, pz]) rfl FIN
       have hjt := tok_lt (by decide) hb
       have HE := LH (eat_yes wr HPj.out 7 ⟨#[59]⟩ (by decide) hb)
       have HTD2 : Hid (Todo b (fun n => pExpr ts n a) false (fun n => (pMsg ts n (j + 1)).bind fun r => pCasc ts n (l ++ [r.1]) r.2)) := LH (HTD.out.step (fun n => by rw [pCasc, if_pos hb]))
       clear HTD hb
       go_wp2_with fail
       refine HE.out.mono ?_
       rintro e w1 ⟨rfl, K1, T1⟩
       have HO1 := LH (hO.touch' T1 (by simpa using hobB))
       have HB1 := LH (hB.touch' T1 (by simp; omega))
       have HA1 := LH (HA.out.touch T1 (fun k hk => by simp at hk; subst hk; exact ⟨fun h => by have := h.1; omega, fun h => by have := (AcwS.ge HA.out h).1; omega⟩))
       have HK1 := LH K1
       have HT1 := LH (HT.out.trans T1)
       have hs1 := T1.size
       have HPM := LH HPj.out
       clear K1 T1 HA HPj HT HE c0 c1 c2 zB hO hB
       go_wp2_with fail
       have b4 : w1.cell? ⟨ob, 4, none⟩ = some v := HO1.out.cell 4
       have bz := HO1.out.lt
       have HC := LH (fun (W : World) (hW : Ext w1 W) => msg_all IH.out (j + 1) (by omega) W false (HK1.out.ext hW))
       have HOX := LH (fun (W : World) (w2 : World) (hW : Ext w1 W) (T : Touch W w2 [B]) => (HO1.out.ext hW).touch' T (by simpa using hobB))
       have HAX := LH (fun (W : World) (w2 : World) (hW : Ext w1 W) (T : Touch W w2 [B]) => AcwS.touch (AcwS.ext HA1.out hW) T (fun k hk => by simp at hk; subst hk; exact ⟨fun h => by have := h.1; omega, fun h => by have := (AcwS.ge HA1.out h).1; omega⟩))
       have HSZ := LH (fun (W : World) (w2 : World) (hW : Ext w1 W) (T : Touch W w2 [B]) => Nat.le_trans hW.size T.size)
       have HFX : Hid (∀ W : World, Ext w1 W -> ∀ k, W.heap.size <= k -> w.heap.size < k /\ k ≠ ob) := LH (fun W hW k hk => by have := hW.size; omega)
       have HOB : Hid (∀ k, v.ownBlock = some k -> w.heap.size + 1 <= k /\ k < w1.heap.size) := LH (fun k hk => AcwS.ge HA1.out hk)
       go_region_law ((first
        | (refine step_append_xs rfl _ _ rfl (w.heap.size + 1) v l rfl (AcwS.ext (HAX.out _ w2 (Ext.drew (XR _)) T2) ((XR _).alloc _)) [y] _ _ _ (w2.heap.size :: gp) rfl (one_expr (R2.ext ((XR _).alloc _)) (own_new w2 _ _)) (fun k hk => HFX.out _ (Ext.drew (XR _)) k (F2 k hk)) (fun k hk hm => by have h1 := (HOB.out k hk).2; have h2 := F2 k hm; have h3 := (Ext.drew (XR w1)).size; omega) (by simp; omega) (by have h2 := HSZ.out _ w2 (Ext.drew (XR _)) T2; have h3 := (XR w2).alloc (Obj.cells #[.int .i64 y.kind, .string y.text, .int .i64 y.number, .slice z1 y.names.length z2, .slice z3 y.kids.length z4] 27); have h4 := h3.size; omega) ?_; intro ao2 cap2 w7 ac hg hloc; have TG : Touch _ w7 v.ownBlock.toList := (Touch.of_ext (XR _) _).grown hg (fun k hk => Or.inl (by simp [hk])); have O7 := ((HOX.out _ w2 (Ext.drew (XR _)) T2).ext ((XR _).alloc _)).touch' TG (fun hm => hnv (by simpa using hm)); have c7 := O7.cell 4; have f7 := O7.f4; have z7 := O7.lt)
        | (go_simp; go_wp2_with ((refine (HC.out _ (by first | exact Ext.drew (XR _) | exact XR _)).mono ?_; rintro e w2 ⟨y, ds, gp, j2, bj2, rfl, R2, F2, K2, g2, m2, T2⟩; obtain ⟨z1, z2, z3, z4, rfl⟩ := fld5 R2; have b42 : w2.cell? ⟨ob, 4, none⟩ = some v := (HOX.out _ w2 (Ext.drew (XR _)) T2).cell 4; have bz2 := (HOX.out _ w2 (Ext.drew (XR _)) T2).lt)))))
       all_goals
        have hsz2 := HSZ.out _ w2 (Ext.drew (XR _)) T2
        have hjl2 := K2.le
        have HTD3 := LH (HTD2.out.call0 g2 (g := fun n r => pCasc ts n (l ++ [r.1]) r.2) (fun n => rfl))
        have Ta : Touch w2 w7 v.ownBlock.toList := (Touch.of_ext ((XR _).alloc _) _).trans TG
        have hn1 : (Value.slice ao2 (l.length + [y].length) cap2).ownBlock ≠ some ob := by
         have h3 := (Ext.drew (XR w1)).size
         have h4 := ((XR w2).alloc (Obj.cells #[.int .i64 y.kind, .string y.text, .int .i64 y.number, .slice z1 y.names.length z2, .slice z3 y.kids.length z4] 27)).size
         rcases hloc with hloc | hloc
         · rw [hloc]; exact hnv
         · rw [hloc]; simp; omega
        generalize hv1 : Value.slice ao2 (l.length + [y].length) cap2 = v1 at *
        generalize hS : World.setCell w7 _ v1 = W9
        have Tb : Touch w7 W9 [ob] := by rw [<- hS]; exact (Touch.of_ext (XR _) _).setCell (by simp) _
        have O9 : Own W9 ob 27 #[.int .i64 7, .string ⟨#[]⟩, .int .i64 0, .slice none 0 0, v1] := by rw [<- hS]; exact O7.set 4 v1
        have A9 : AccXS (fun k => w.heap.size < k /\ k ≠ ob) (w.heap.size + 1) W9 v1 (l ++ [y]) := AcwS.touch ac Tb (fun k hk => by simp at hk; subst hk; exact ⟨fun h => h.2 rfl, hn1⟩)
        have T7 : Touch w2 W9 (ob :: v.ownBlock.toList) := (Ta.mono (fun k hk => List.mem_cons_of_mem _ hk)).trans (Tb.mono (fun k hk => by simp at hk; simp [hk]))
        have hF7 : ∀ k, k ∈ ob :: v.ownBlock.toList -> w.heap.size < k := fun k hk => by
         rcases List.mem_cons.1 hk with rfl | hk
         · omega
         · have := (HOB.out k (by simpa using hk)).1; omega
        have P9 := HP.out.late K2 T7 (fun k hk => by have := hF7 k hk; omega)
        have OR9 := ((HB1.out.ext (Ext.drew (XR _))).touch' T2 (by simp; omega)).touch' T7 (fun hm => by have := hF7 _ hm; omega)
        have T9 : Touch w W9 [B] := ((HT1.out.trans (Touch.of_ext (Ext.drew (XR _)) [B])).trans T2).late2 T7 (fun k hk => by have := hF7 k hk; omega)
        have HP9 := LH P9
        have HOR9 := LH OR9
        have HA9 := LH A9
        have HT9 := LH T9
        have HO9 := LH O9
        have hm9 := m2.1
        clear hS Ta Tb O9 A9 T7 hF7 P9 OR9 T9 ac hg hloc TG O7 c7 f7 z7 K2 T2 b42 bz2 b4 bz HC HAX HOX HSZ HFX HOB HO1 HB1 HA1 HT1 HK1 R2 F2 g2 HTD2 hv1
        go_wp2_with fail
        refine ⟨⟨l ++ [y], v1, j2, bj2, HO9.out, HA9.out, HP9.out, HTD3, ⟨by omega, by simp; omega⟩, HOR9.out, hn1, HT9.out⟩, ?_⟩
        rw [placeOf_eq HPM.out, placeOf_eq HP9.out]; omega
theorem expr_all {B tb to_ cap : Nat} {ao : Option Addr} {ts : List MToken} : ∀ (n a : Nat), ts.length < a + n -> ExprAt B tb to_ cap ao ts a
 | 0, a, h => fun w b hp ha => absurd ha (by omega)
 | n + 1, a, h => expr_step (fun a' h' => expr_all n a' (by omega))
theorem nested_all {B tb to_ cap : Nat} {ao : Option Addr} {ts : List MToken} (a : Nat) : NestAt B tb to_ cap ao ts a := nested_at (fun _ => expr_all (ts.length + 1) a (by omega))
end Go.Proofs.YtndhpbjhkgdieaaGreatDoor
