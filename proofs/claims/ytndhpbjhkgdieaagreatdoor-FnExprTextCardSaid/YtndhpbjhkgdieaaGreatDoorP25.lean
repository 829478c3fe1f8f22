/-
  CONTRACTS: the small functions of the program's parser.
  Conditions: those that each lemma states.
-/
import Derived.Test.YtndhpbjhkgdieaaGreatDoorRows
import Derived.Deep.RegionHeld3
import Derived.BigQuiet
import Derived.Deep.QuietTactic
import Derived.Test.YtndhpbjhkgdieaaGreatDoorP24
import Derived.Test.YtndhpbjhkgdieaaGreatDoorP06
namespace Go.Proofs.YtndhpbjhkgdieaaGreatDoor
open Go.RowKit
set_option maxHeartbeats 8000000
set_option maxRecDepth 100000
set_option linter.unusedSimpArgs false
set_option linter.unusedVariables false
theorem fld0 (k n : Int) (t : ByteArray) (w : World) : (Instr.field 44 (.agg #[.int .i64 k, .string t, .int .i64 n]) 0).run Tryz.prog w = .ok (.int .i64 k) w := by kernel_rfl
theorem peek_any {B tb to_ cap : Nat} {ao : Option Addr} {ts : List MToken} {a : Nat} {b : Bool} (w : World) (h : Prs 49 B tb to_ cap ao ts w (a) b)  : Calls Tryz.prog 94 #[.pointer (some ⟨B, 0, none⟩)] w fun e w' => e = .returned (.agg #[.int .i64 (tkK ts a), .string (tkT ts a), .int .i64 (tkN ts a)]) /\ Ext w w' := by
 have HP := LH h
 obtain ⟨c0, c1, c2⟩ := h.cells
 have zB := lt_of_cell c0
 have hcp1 := h.cp.1
 have hln := h.len
 have hle := h.le
 by_cases hl : a < ts.length
 · obtain ⟨rfl, t0, t1, t2⟩ := h.at hl
   have hl' : (a : Int) < ts.length := by omega
   have ha0 : (0 : Int) <= a := by omega
   clear h zB
   go_enter Tryz.func94, Tryz.ntmps94
   go_upto_region 1 with fail
   generalize hS : World.alloc w _ = W1
   have x1 : Ext w W1 := by rw [<- hS]; exact (XR _).alloc _
   have O1 : Own W1 w.heap.size 44 #[.int .i64 0, .string ⟨#[]⟩, .int .i64 0] := by rw [<- hS]; exact own_new w _ _
   clear hS
   replace c0 := x1.cell c0
   replace c1 := x1.cell c1
   replace t0 := x1.cell t0
   replace t1 := x1.cell t1
   replace t2 := x1.cell t2
   go_wp2_with fail
   have gc0 := reg (XR _) c0
   have gc1 := reg (XR _) c1
   refine wp_region_quiet_below (by kernel_rfl) (by kernel_rfl) ?_
   repeat (go_big_quiet_step ((fail)))
   refine wpQuiet_nil ?_
   clear gc0 gc1
   intro _ hw'
   obtain ⟨pw, hw''⟩ := hw'
   subst hw''
   have xW2 := regx W1 pw
   generalize hWR : «Sort».grow (redrawn W1 pw.d) pw.os = W2 at *
   clear hWR
   replace c0 := xW2.cell c0
   replace c1 := xW2.cell c1
   replace t0 := xW2.cell t0
   replace t1 := xW2.cell t1
   replace t2 := xW2.cell t2
   replace O1 := O1.ext xW2
   have o0 := O1.k0
   have o1 := O1.k1
   have o2 := O1.k2
   have f0 := O1.f0
   have f1 := O1.f1
   have f2 := O1.f2
   have zo := O1.lt
   have zB := lt_of_cell c0
   have zt := lt_of_cell t0
   go_wp2_with fail
   go_region
   have O2 := ((O1.set 0 (.int .i64 (tkK ts a))).set 1 (.string (tkT ts a))).set 2 (.int .i64 (tkN ts a))
   have x3 : Ext w ((((W2.setCell ⟨w.heap.size, 0, none⟩ (.int .i64 (tkK ts a))).setCell ⟨w.heap.size, 1, none⟩ (.string (tkT ts a))).setCell ⟨w.heap.size, 2, none⟩ (.int .i64 (tkN ts a))).drew) := Ext.drew (Ext.setCell (Ext.setCell (Ext.setCell (x1.trans xW2) (Nat.le_refl _) _) (Nat.le_refl _) _) (Nat.le_refl _) _)
   generalize hS : (((W2.setCell ⟨w.heap.size, 0, none⟩ (.int .i64 (tkK ts a))).setCell ⟨w.heap.size, 1, none⟩ (.string (tkT ts a))).setCell ⟨w.heap.size, 2, none⟩ (.int .i64 (tkN ts a))).drew = W3 at *
   have O3 : Own W3 w.heap.size 44 #[.int .i64 (tkK ts a), .string (tkT ts a), .int .i64 (tkN ts a)] := by first | exact O2 | (rw [<- hS]; exact O2)
   clear hS O1 O2 o0 o1 o2 f0 f1 f2
   have p0 := O3.k0
   have p1 := O3.k1
   have p2 := O3.k2
   have z3 := O3.lt
   go_wp2_with fail
   exact bodyPost_ret (v := .agg #[.int .i64 (tkK ts a), .string (tkT ts a), .int .i64 (tkN ts a)]) (by simp [results, Tryz.results94, go_sem, p0, p1, p2, z3]) rfl ⟨rfl, x3⟩
 have hge : ¬ (a : Int) < ts.length := by omega
 have hd : decide ((a : Int) < ts.length) = false := decide_eq_false hge
 obtain ⟨e1, e2, e3⟩ := tkK_none (ts := ts) (a := a) (by omega)
 rw [e1, e2, e3]
 clear h zB e1 e2 e3 hl
 go_enter Tryz.func94, Tryz.ntmps94
 go_upto_region 1 with fail
 generalize hS : World.alloc w _ = W1
 have x1 : Ext w W1 := by rw [<- hS]; exact (XR _).alloc _
 have O1 : Own W1 w.heap.size 44 #[.int .i64 0, .string ⟨#[]⟩, .int .i64 0] := by rw [<- hS]; exact own_new w _ _
 clear hS
 replace c0 := x1.cell c0
 replace c1 := x1.cell c1
 go_wp2_with fail
 have gc0 := reg (XR _) c0
 have gc1 := reg (XR _) c1
 refine wp_region_quiet_below (by kernel_rfl) (by kernel_rfl) ?_
 repeat (go_big_quiet_step ((fail)))
 refine wpQuiet_nil ?_
 clear gc0 gc1
 intro _ hw'
 obtain ⟨pw, hw''⟩ := hw'
 subst hw''
 have xW2 := regx W1 pw
 generalize hWR : «Sort».grow (redrawn W1 pw.d) pw.os = W2 at *
 clear hWR
 replace c0 := xW2.cell c0
 replace c1 := xW2.cell c1
 replace O1 := O1.ext xW2
 have o0 := O1.k0
 have o1 := O1.k1
 have o2 := O1.k2
 have f0 := O1.f0
 have f1 := O1.f1
 have f2 := O1.f2
 have zo := O1.lt
 have hd2 : decide (a < ts.length) = false := decide_eq_false (by omega)
 go_wp2_with fail
 have O2 := ((O1.set 0 (.int .i64 0)).set 1 (.string ⟨#[]⟩)).set 2 (.int .i64 0)
 have x3 : Ext w (((W2.setCell ⟨w.heap.size, 0, none⟩ (.int .i64 0)).setCell ⟨w.heap.size, 1, none⟩ (.string ⟨#[]⟩)).setCell ⟨w.heap.size, 2, none⟩ (.int .i64 0)) := Ext.setCell (Ext.setCell (Ext.setCell (x1.trans xW2) (Nat.le_refl _) _) (Nat.le_refl _) _) (Nat.le_refl _) _
 generalize hS : ((W2.setCell ⟨w.heap.size, 0, none⟩ (.int .i64 0)).setCell ⟨w.heap.size, 1, none⟩ (.string ⟨#[]⟩)).setCell ⟨w.heap.size, 2, none⟩ (.int .i64 0) = W3 at *
 have O3 : Own W3 w.heap.size 44 #[.int .i64 0, .string ⟨#[]⟩, .int .i64 0] := by first | exact O2 | (rw [<- hS]; exact O2)
 clear hS O1 O2 o0 o1 o2 f0 f1 f2
 have p0 := O3.k0
 have p1 := O3.k1
 have p2 := O3.k2
 have z3 := O3.lt
 exact bodyPost_ret (v := .agg #[.int .i64 0, .string ⟨#[]⟩, .int .i64 0]) (by simp [results, Tryz.results94, go_sem, p0, p1, p2, z3]) rfl ⟨rfl, x3⟩
theorem is_any {B tb to_ cap : Nat} {ao : Option Addr} {ts : List MToken} {a : Nat} {b : Bool} (w : World) (h : Prs 49 B tb to_ cap ao ts w (a) b) (k : Int) (s : ByteArray) : Calls Tryz.prog 98 #[.pointer (some ⟨B, 0, none⟩), .int .i64 k, .string s] w fun e w' => e = .returned (.bool (tkK ts a == k && eqB (tkT ts a) s)) /\ Ext w w' := by
 have HP := LH h
 clear h
 obtain ⟨V, hV⟩ : ∃ V, (tkK ts a == k && eqB (tkT ts a) s) = V := ⟨_, rfl⟩
 rw [hV]
 by_cases h1 : tkK ts a = k
 · have s1 := int_eq h1
   by_cases h2 : tkT ts a = s
   · have s2 := str_eq h2
     have HV : Hid (V = true) := LH (by rw [<- hV]; simp [h1, h2, eqB_tt])
     clear hV
     clear h1 h2
     go_enter Tryz.func98, Tryz.ntmps98
     go_wp2_with fail
     refine (peek_any _ HP.out).mono ?_
     rintro e w1 ⟨rfl, hx⟩
     generalize tkK ts a = kd at *
     generalize tkT ts a = tx at *
     generalize tkN ts a = nm at *
     go_wp2_with fail
     go_ret
     exact ⟨ret_bool HV.out.symm, hx.alloc _⟩
   have s2 := str_ne h2
   have HV : Hid (V = false) := LH (by rw [<- hV]; simp [h1, eqB_ff h2])
   clear hV
   clear h1 h2
   go_enter Tryz.func98, Tryz.ntmps98
   go_wp2_with fail
   refine (peek_any _ HP.out).mono ?_
   rintro e w1 ⟨rfl, hx⟩
   generalize tkK ts a = kd at *
   generalize tkT ts a = tx at *
   generalize tkN ts a = nm at *
   go_wp2_with fail
   go_ret
   exact ⟨ret_bool HV.out.symm, hx.alloc _⟩
 have s1 := int_ne h1
 have HV : Hid (V = false) := LH (by rw [<- hV]; simp [s1])
 clear hV
 clear h1
 go_enter Tryz.func98, Tryz.ntmps98
 go_wp2_with fail
 refine (peek_any _ HP.out).mono ?_
 rintro e w1 ⟨rfl, hx⟩
 generalize tkK ts a = kd at *
 generalize tkT ts a = tx at *
 generalize tkN ts a = nm at *
 go_wp2_with fail
 go_ret
 exact ⟨ret_bool HV.out.symm, hx.alloc _⟩
theorem eat_yes {B tb to_ cap : Nat} {ao : Option Addr} {ts : List MToken} {a : Nat} {b : Bool} (w : World) (h : Prs 49 B tb to_ cap ao ts w (a) b) (k : Int) (s : ByteArray) (hk : k ≠ 0) (hb : tkxB ts a k s = true) : Calls Tryz.prog 99 #[.pointer (some ⟨B, 0, none⟩), .int .i64 k, .string s] w fun e w' => e = .returned (.bool true) /\ Prs 49 B tb to_ cap ao ts w' (a + 1) b /\ Touch w w' [B] := by
 have hi := is_any w h k s
 rw [<- tkxB_eq hk, hb] at hi
 have HI := LH hi
 have HP := LH h
 have hlt := tok_lt hk hb
 clear h hi hb hk
 go_enter Tryz.func99, Tryz.ntmps99
 go_wp2_with fail
 refine HI.out.mono ?_
 rintro e w1 ⟨rfl, hx⟩
 have HP1 := LH (HP.out.ext hx)
 obtain ⟨c0, c1, c2⟩ := HP1.out.cells
 have zB := lt_of_cell c0
 have f1 := HP1.out.own.f1
 have f2 := HP1.out.own.f2
 have hln := HP1.out.len
 go_wp2_with fail
 go_ret
 obtain ⟨K2, T2⟩ := HP1.out.setAt (a + 1) (by omega) (fun _ => by omega)
 have e1 : ((a + 1 : Nat) : Int) = (a : Int) + 1 := by omega
 rw [e1] at K2 T2
 exact ⟨rfl, K2, (Touch.of_ext hx _).trans T2⟩
theorem eat_no {B tb to_ cap : Nat} {ao : Option Addr} {ts : List MToken} {a : Nat} {b : Bool} (w : World) (h : Prs 49 B tb to_ cap ao ts w (a) b) (k : Int) (s : ByteArray) (hk : k ≠ 0) (hb : tkxB ts a k s = false) : Calls Tryz.prog 99 #[.pointer (some ⟨B, 0, none⟩), .int .i64 k, .string s] w fun e w' => e = .returned (.bool false) /\ Prs 49 B tb to_ cap ao ts w' (a) b /\ Touch w w' [B] := by
 have hi := is_any w h k s
 rw [<- tkxB_eq hk, hb] at hi
 have HI := LH hi
 have HP := LH h
 clear h hi hb hk
 go_enter Tryz.func99, Tryz.ntmps99
 go_wp2_with fail
 refine HI.out.mono ?_
 rintro e w1 ⟨rfl, hx⟩
 go_wp2_with fail
 go_ret
 exact ⟨rfl, HP.out.ext hx, Touch.of_ext hx _⟩
theorem want_yes {B tb to_ cap : Nat} {ao : Option Addr} {ts : List MToken} {a : Nat} {b : Bool} (w : World) (h : Prs 49 B tb to_ cap ao ts w (a) b) (k : Int) (s : ByteArray) (hk : k ≠ 0) (hb : tkxB ts a k s = true) : Calls Tryz.prog 129 #[.pointer (some ⟨B, 0, none⟩), .int .i64 k, .string s] w fun e w' => e = .returned (.tuple #[]) /\ Prs 49 B tb to_ cap ao ts w' (a + 1) b /\ Touch w w' [B] := by
 have HI := LH (eat_yes w h k s hk hb)
 clear h hk hb
 go_enter Tryz.func129, Tryz.ntmps129
 go_wp2_with fail
 refine HI.out.mono ?_
 rintro e w1 ⟨rfl, K1, T1⟩
 go_wp2_with fail
 go_end0
 exact ⟨rfl, K1, T1⟩
theorem want_no {B tb to_ cap : Nat} {ao : Option Addr} {ts : List MToken} {a : Nat} {b : Bool} (w : World) (h : Prs 49 B tb to_ cap ao ts w (a) b) (k : Int) (s : ByteArray) (hk : k ≠ 0) (hb : tkxB ts a k s = false) : Calls Tryz.prog 129 #[.pointer (some ⟨B, 0, none⟩), .int .i64 k, .string s] w fun e w' => e = .returned (.tuple #[]) /\ Prs 49 B tb to_ cap ao ts w' (a) true /\ Touch w w' [B] := by
 have HI := LH (eat_no w h k s hk hb)
 clear h hk hb
 go_enter Tryz.func129, Tryz.ntmps129
 go_wp2_with fail
 refine HI.out.mono ?_
 rintro e w1 ⟨rfl, K1, T1⟩
 have HP1 := LH K1
 obtain ⟨c0, c1, c2⟩ := HP1.out.cells
 have zB := lt_of_cell c0
 have f1 := HP1.out.own.f1
 have f2 := HP1.out.own.f2
 have hln := HP1.out.len
 clear K1
 go_wp2_with fail
 go_end0
 obtain ⟨K2, T2⟩ := HP1.out.setBad
 exact ⟨rfl, K2, T1.trans T2⟩
theorem take_yes {B tb to_ cap : Nat} {ao : Option Addr} {ts : List MToken} {a : Nat} {b : Bool} (w : World) (h : Prs 49 B tb to_ cap ao ts w (a) b) (k : Int) (hk : k ≠ 0) (hb : tkB ts a k = true) : Calls Tryz.prog 95 #[.pointer (some ⟨B, 0, none⟩), .int .i64 k] w fun e w' => e = .returned (.string (tkT ts a)) /\ Prs 49 B tb to_ cap ao ts w' (a + 1) b /\ Touch w w' [B] := by
 have HP := LH h
 have hlt := kind_lt hk hb
 have e0 := (kind_eq hk).1 hb
 have HT : Hid ((tkK ts a != k) = false) := LH (by simp [e0])
 clear h hb hk e0
 go_enter Tryz.func95, Tryz.ntmps95
 go_wp2_with fail
 refine (peek_any _ HP.out).mono ?_
 rintro e w1 ⟨rfl, hx⟩
 have HP1 := LH (HP.out.ext hx)
 have HX := LH hx
 obtain ⟨tx, htx⟩ : ∃ x, tkT ts a = x := ⟨_, rfl⟩
 rw [htx]
 have HTX := LH htx
 have s1 := HT.out
 generalize tkK ts a = kd at *
 generalize tkN ts a = nm at *
 clear HT htx
 obtain ⟨c0, c1, c2⟩ := HP1.out.cells
 have zB := lt_of_cell c0
 have f1 := HP1.out.own.f1
 have f2 := HP1.out.own.f2
 have hln := HP1.out.len
 go_wp2_with fail
 go_ret
 obtain ⟨K2, T2⟩ := HP1.out.setAt (a + 1) (by omega) (fun _ => by omega)
 have e1 : ((a + 1 : Nat) : Int) = (a : Int) + 1 := by omega
 rw [e1] at K2 T2
 exact ⟨by rw [HTX.out]; rfl, K2.ext ((XR _).alloc _), ((Touch.of_ext hx _).trans T2).trans (Touch.of_ext ((XR _).alloc _) _)⟩
theorem take_no {B tb to_ cap : Nat} {ao : Option Addr} {ts : List MToken} {a : Nat} {b : Bool} (w : World) (h : Prs 49 B tb to_ cap ao ts w (a) b) (k : Int) (hk : k ≠ 0) (hb : tkB ts a k = false) : Calls Tryz.prog 95 #[.pointer (some ⟨B, 0, none⟩), .int .i64 k] w fun e w' => e = .returned (.string ⟨#[]⟩) /\ Prs 49 B tb to_ cap ao ts w' (a) true /\ Touch w w' [B] := by
 have HP := LH h
 have e0 : tkK ts a ≠ k := fun e => by rw [(kind_eq hk).2 e] at hb; cases hb
 have HT : Hid ((tkK ts a != k) = true) := LH (by simp [e0])
 clear h hb hk e0
 go_enter Tryz.func95, Tryz.ntmps95
 go_wp2_with fail
 refine (peek_any _ HP.out).mono ?_
 rintro e w1 ⟨rfl, hx⟩
 have HP1 := LH (HP.out.ext hx)
 have s1 := HT.out
 generalize tkK ts a = kd at *
 generalize tkT ts a = tx at *
 generalize tkN ts a = nm at *
 clear HT
 obtain ⟨c0, c1, c2⟩ := HP1.out.cells
 have zB := lt_of_cell c0
 have f1 := HP1.out.own.f1
 have f2 := HP1.out.own.f2
 have hln := HP1.out.len
 go_wp2_with fail
 go_ret
 obtain ⟨K2, T2⟩ := HP1.out.setBad
 exact ⟨rfl, K2.ext ((XR _).alloc _), ((Touch.of_ext hx _).trans T2).trans (Touch.of_ext ((XR _).alloc _) _)⟩
theorem names_any {B tb to_ cap : Nat} {ao : Option Addr} {ts : List MToken} {a : Nat} {b : Bool} (w : World) (h : Prs 49 B tb to_ cap ao ts w (a) b)  : Calls Tryz.prog 146 #[.pointer (some ⟨B, 0, none⟩)] w fun e w' => ∃ v l a', e = .returned v /\ AccT w.heap.size w' v l /\ Prs 49 B tb to_ cap ao ts w' (a') b /\ Hid (Ev (fun n => pNames ts n [] a) (some (l, a'))) /\ a <= a' /\ l.length <= a' - a /\ Touch w w' [B] := by
 have HP := LH h
 obtain ⟨c0, c1, c2⟩ := h.cells
 have zB := lt_of_cell c0
 have hcp1 := h.cp.1
 have hln := h.len
 have hle := h.le
 have hB0 := h.own.lt
 have H0 : Hid (∀ r, Ev (fun n => pNames ts n [] a) r -> Ev (fun n => pNames ts n [] a) r) := LH fun r h => h
 have hfd := fld0
 clear h c0 c1 c2 zB hcp1
 go_enter Tryz.func146, Tryz.ntmps146
 go_upto_region 2 with fail
 generalize hS : World.alloc w _ = W1
 have x1 : Ext w W1 := by rw [<- hS]; exact (XR _).alloc _
 have A1 : Hid (AccT w.heap.size W1 (.slice (some ⟨w.heap.size, 0, none⟩) 0 0) []) := LH (by rw [<- hS]; exact Acc.empty _ _ (Nat.le_refl _))
 have HP1 := LH (HP.out.ext x1)
 have hx1 := x1.size
 clear hS
 go_loopw [3] (fun v wr => ∃ (l : List ByteArray) (j : Nat), AccT w.heap.size wr v l /\ Prs 49 B tb to_ cap ao ts wr (j) b /\ Hid (∀ r, Ev (fun n => pNames ts n l j) r -> Ev (fun n => pNames ts n [] a) r) /\ a <= j /\ l.length + a <= j /\ Touch w wr [B]) (fun _ wr => ts.length + 1 - (match wr.cell? ⟨B, 1, none⟩ with | some v => (intOf v).toNat | none => 0))
 case atStart => exact ⟨[], a, A1.out, HP1.out, H0, Nat.le_refl _, by simp, Touch.of_ext x1 _⟩
 case round =>
  clear A1 HP1 H0
  obtain ⟨v, hv⟩ : ∃ x, x = u3 := ⟨_, rfl⟩
  subst hv
  obtain ⟨l, j, hA, hP, hR, haj, hlj, hT⟩ := hrel
  have HA := LH hA
  have HPj := LH hP
  have HT := LH hT
  have hjl := hP.le
  have hws := hT.size
  clear hA hP hT
  cases hb : tkB ts j 1
  · have s1 : (tkK ts j == 1) = false := by rw [<- tkB_eq (by decide)]; exact hb
    have HE : Hid (Ev (fun n => pNames ts n [] a) (some (l, j))) := LH (hR.out _ (Ev.step (g := fun _ => some (l, j)) (fun n => by rw [pNames, if_neg (by rw [hb]; decide)]) (Ev.const _)))
    clear hb hR
    go_wp2_with fail
    refine (peek_any _ HPj.out).mono ?_
    rintro e w1 ⟨rfl, hx⟩
    have hf := hfd (tkK ts j) (tkN ts j) (tkT ts j) w1
    generalize tkK ts j = kd at *
    generalize tkT ts j = tx at *
    generalize tkN ts j = nm at *
    clear hfd
    go_wp2_with fail
    go_ret
    exact ⟨v, l, j, rfl, AccT.ext HA.out hx, HPj.out.ext hx, HE, haj, by omega, HT.out.trans (Touch.of_ext hx _)⟩
  · have s1 : (tkK ts j == 1) = true := by rw [<- tkB_eq (by decide)]; exact hb
    have hjt := kind_lt (by decide) hb
    have HB := LH hb
    have HE : Hid (∀ r, Ev (fun n => pNames ts n (l ++ [tkT ts j]) (j + 1)) r -> Ev (fun n => pNames ts n [] a) r) := LH (fun r h => hR.out r (Ev.step (g := fun n => pNames ts n (l ++ [tkT ts j]) (j + 1)) (fun n => by rw [pNames, if_pos hb]) h))
    clear hb hR
    go_wp2_with fail
    refine (peek_any _ HPj.out).mono ?_
    rintro e w1 ⟨rfl, hx⟩
    have hf := hfd (tkK ts j) (tkN ts j) (tkT ts j) w1
    have HC := LH (take_yes w1 (HPj.out.ext hx) 1 (by decide) HB.out)
    have htz := HPj.out.txt j
    have A2 := AccT.ext HA.out hx
    have hxs := hx.size
    generalize tkK ts j = kd at *
    generalize tkT ts j = tx at *
    generalize tkN ts j = nm at *
    clear hfd
    have HX := LH hx
    clear hx
    go_wp2_with fail
    refine HC.out.mono ?_
    rintro e w2 ⟨rfl, K2, T2⟩
    have A3 : AccT w.heap.size w2 v l := Acc.touch A2 T2 (fun k hk hm => by have := (Acc.ge A2 hk).1; simp at hm; omega) (fun k hk => nomatch hk)
    have hs2 := T2.size
    have HK2 := LH K2
    have HT2 := LH ((HT.out.trans (Touch.of_ext HX.out _)).trans T2)
    have KD := AccT.ext A3 ((XR w2).alloc (.cells #[.string tx] 9))
    clear K2 T2 A2 A3 HC s1 hf
    go_wp2_with (at_builtin; refine wpList_append_strs_at rfl _ _ rfl w.heap.size v l rfl KD [tx] _ _ _ rfl (rep_one _ _) (by simp; omega) (by simp; omega) ?_)
    intro a1 k1 w3 ac1 g1 m1
    have HK3 := LH (HP.out.late (HK2.out.ext ((XR w2).alloc (.cells #[.string tx] 9))) (fp := v.ownBlock.toList) ((Touch.of_ext (XR _) _).grown g1 fun k hk => Or.inl (by simp [hk])) (fun k hk => (Acc.ge KD (k := k) (by simpa using hk)).1))
    have HT3 := LH ((HT2.out.trans (Touch.of_ext ((XR w2).alloc (.cells #[.string tx] 9)) [B])).grown g1 fun k hk => Or.inr (Acc.ge KD hk).1)
    have cm1 := HPj.out.own.cell 1
    have cm2 := HK3.out.own.cell 1
    clear KD g1 m1 HK2 HT2
    generalize hv1 : Value.slice a1 (l.length + [tx].length) k1 = v1 at *
    go_wp2_with fail
    go_roundw
    case rel => exact ⟨l ++ [tx], j + 1, ac1, HK3.out, HE, by omega, by simp; omega, HT3.out⟩
    case measure => rw [cm1, cm2]; simp [intOf]; omega
theorem vars_any {B tb to_ cap : Nat} {ao : Option Addr} {ts : List MToken} {a : Nat} {b : Bool} (w : World) (h : Prs 49 B tb to_ cap ao ts w (a) b)  : Calls Tryz.prog 138 #[.pointer (some ⟨B, 0, none⟩)] w fun e w' => ∃ v l a' b', e = .returned v /\ AccT w.heap.size w' v l /\ Prs 49 B tb to_ cap ao ts w' (a') b' /\ Got b (fun n => pVars ts n a) b' (l, a') /\ a <= a' /\ l.length <= a' - a /\ Touch w w' [B] := by
 have HP := LH h
 have hB0 := h.own.lt
 clear h
 cases hb : tkxB ts a 7 barM
 · have HG : Hid (Got b (fun n => pVars ts n a) b (([] : List ByteArray), a)) := LH (Got.ok ⟨0, fun n _ => by show pVars ts n a = _; rw [pVars, if_neg (by rw [hb]; decide)]⟩)
   have HC := LH (eat_no w HP.out 7 ⟨#[124]⟩ (by decide) hb)
   clear hb
   go_enter Tryz.func138, Tryz.ntmps138
   go_wp2_with fail
   refine HC.out.mono ?_
   rintro e w1 ⟨rfl, K1, T1⟩
   go_wp2_with fail
   go_ret
   exact ⟨_, [], a, b, rfl, Acc.nil _ _ _ _, K1, HG.out, Nat.le_refl _, by simp, T1⟩
 have HC := LH (eat_yes w HP.out 7 ⟨#[124]⟩ (by decide) hb)
 have HB := LH hb
 clear hb
 go_enter Tryz.func138, Tryz.ntmps138
 go_wp2_with fail
 refine HC.out.mono ?_
 rintro e w1 ⟨rfl, K1, T1⟩
 have HC1 := LH (names_any w1 K1)
 have hs1 := T1.size
 have HT1 := LH T1
 clear K1 T1
 go_wp2_with fail
 refine HC1.out.mono ?_
 rintro e w2 ⟨v, l, j, rfl, A2, K2, he, hj, hl, T2⟩
 have HA2 := LH (AccT.base A2 hs1)
 have HT2 := LH (HT1.out.trans T2)
 have HK2 := LH K2
 clear A2 K2 T2
 cases hb : tkxB ts j 7 barM
 · have HG : Hid (Got b (fun n => pVars ts n a) true (l, j)) := LH (Got.bad _ (by
    obtain ⟨n0, h0⟩ := he.out
    refine ⟨n0, fun n hn => ?_⟩
    have h1 : pNames ts n [] (a + 1) = some (l, j) := h0 n hn
    show pVars ts n a = none
    rw [pVars, if_pos HB.out, h1]
    show (if tkxB ts j 7 barM = true then some (l, j + 1) else none) = none
    rw [if_neg (by rw [hb]; decide)]))
   have HC2 := LH (want_no w2 HK2.out 7 ⟨#[124]⟩ (by decide) hb)
   clear hb
   go_wp2_with fail
   refine HC2.out.mono ?_
   rintro e w3 ⟨rfl, K3, T3⟩
   have A3 := AccT.low HA2.out T3 (fun k hk => by simp at hk; omega)
   go_wp2_with fail
   go_ret
   exact ⟨_, l, j, true, rfl, A3, K3, HG.out, by omega, by omega, HT2.out.trans T3⟩
 have HG : Hid (Got b (fun n => pVars ts n a) b (l, j + 1)) := LH (Got.ok (by
  obtain ⟨n0, h0⟩ := he.out
  refine ⟨n0, fun n hn => ?_⟩
  have h1 : pNames ts n [] (a + 1) = some (l, j) := h0 n hn
  show pVars ts n a = some (l, j + 1)
  rw [pVars, if_pos HB.out, h1]
  show (if tkxB ts j 7 barM = true then some (l, j + 1) else none) = some (l, j + 1)
  rw [if_pos hb]))
 have HC2 := LH (want_yes w2 HK2.out 7 ⟨#[124]⟩ (by decide) hb)
 clear hb
 go_wp2_with fail
 refine HC2.out.mono ?_
 rintro e w3 ⟨rfl, K3, T3⟩
 have A3 := AccT.low HA2.out T3 (fun k hk => by simp at hk; omega)
 go_wp2_with fail
 go_ret
 exact ⟨_, l, j + 1, b, rfl, A3, K3, HG.out, by omega, by omega, HT2.out.trans T3⟩
theorem begins_any {B tb to_ cap : Nat} {ao : Option Addr} {ts : List MToken} {a : Nat} {b : Bool} (w : World) (h : Prs 49 B tb to_ cap ao ts w (a) b)  : Calls Tryz.prog 147 #[.pointer (some ⟨B, 0, none⟩)] w fun e w' => e = .returned (.bool (beginsB ts a)) /\ Ext w w' := by
 have HP := LH h
 clear h
 obtain ⟨V, hV⟩ : ∃ V, beginsB ts a = V := ⟨_, rfl⟩
 rw [hV]
 unfold beginsB at hV
 rw [tkB_eq (by decide), tkB_eq (by decide), tkB_eq (by decide), tkB_eq (by decide)] at hV
 cases s1 : (tkK ts a == 1)
 rotate_left
 · have HV : Hid (true = V) := LH (by rw [<- hV]; simp [s1])
   clear hV
   go_enter Tryz.func147, Tryz.ntmps147
   go_wp2_with fail
   refine (peek_any _ HP.out).mono ?_
   rintro e w1 ⟨rfl, hx⟩
   have HX := LH hx
   generalize tkK ts a = kd at *
   generalize tkT ts a = tx at *
   generalize tkN ts a = nm at *
   clear hx
   go_wp2_with fail
   go_ret
   exact ⟨ret_bool HV.out, HX.out.alloc _⟩
 cases s3 : (tkK ts a == 3)
 rotate_left
 · have HV : Hid (true = V) := LH (by rw [<- hV]; simp [s1, s3])
   clear hV
   go_enter Tryz.func147, Tryz.ntmps147
   go_wp2_with fail
   refine (peek_any _ HP.out).mono ?_
   rintro e w1 ⟨rfl, hx⟩
   have HX := LH hx
   generalize tkK ts a = kd at *
   generalize tkT ts a = tx at *
   generalize tkN ts a = nm at *
   clear hx
   go_wp2_with fail
   go_ret
   exact ⟨ret_bool HV.out, HX.out.alloc _⟩
 cases s4 : (tkK ts a == 4)
 rotate_left
 · have HV : Hid (true = V) := LH (by rw [<- hV]; simp [s1, s3, s4])
   clear hV
   go_enter Tryz.func147, Tryz.ntmps147
   go_wp2_with fail
   refine (peek_any _ HP.out).mono ?_
   rintro e w1 ⟨rfl, hx⟩
   have HX := LH hx
   generalize tkK ts a = kd at *
   generalize tkT ts a = tx at *
   generalize tkN ts a = nm at *
   clear hx
   go_wp2_with fail
   go_ret
   exact ⟨ret_bool HV.out, HX.out.alloc _⟩
 cases s5 : (tkK ts a == 5)
 rotate_left
 · have HV : Hid (true = V) := LH (by rw [<- hV]; simp [s1, s3, s4, s5])
   clear hV
   go_enter Tryz.func147, Tryz.ntmps147
   go_wp2_with fail
   refine (peek_any _ HP.out).mono ?_
   rintro e w1 ⟨rfl, hx⟩
   have HX := LH hx
   generalize tkK ts a = kd at *
   generalize tkT ts a = tx at *
   generalize tkN ts a = nm at *
   clear hx
   go_wp2_with fail
   go_ret
   exact ⟨ret_bool HV.out, HX.out.alloc _⟩
 cases u0 : tkxB ts a 7 lparM
 rotate_left
 · have HV : Hid (true = V) := LH (by rw [<- hV]; simp [s1, s3, s4, s5, u0])
   have HI0 := LH (fun (W : World) (hW : Ext w W) => by
    have hi := is_any W (HP.out.ext hW) 7 ⟨#[40]⟩
    rw [<- tkxB_eq (by decide), show tkxB ts a 7 ⟨#[40]⟩ = _ from u0] at hi
    exact hi)
   clear hV u0
   go_enter Tryz.func147, Tryz.ntmps147
   go_wp2_with fail
   refine (peek_any _ HP.out).mono ?_
   rintro e w1 ⟨rfl, hx⟩
   have HX := LH hx
   generalize tkK ts a = kd at *
   generalize tkT ts a = tx at *
   generalize tkN ts a = nm at *
   clear hx
   go_wp2_with fail
   refine (HI0.out _ (HX.out.alloc _)).mono ?_
   rintro e w2 ⟨rfl, hx2⟩
   go_wp2_with fail
   go_ret
   exact ⟨ret_bool HV.out, (HX.out.alloc _).trans hx2⟩
 obtain ⟨u, u1⟩ : ∃ u, tkxB ts a 7 lbrM = u := ⟨_, rfl⟩
 have HV : Hid (u = V) := LH (by rw [<- hV, u0, u1]; simp [s1, s3, s4, s5])
 have HI0 := LH (fun (W : World) (hW : Ext w W) => by
  have hi := is_any W (HP.out.ext hW) 7 ⟨#[40]⟩
  rw [<- tkxB_eq (by decide), show tkxB ts a 7 ⟨#[40]⟩ = _ from u0] at hi
  exact hi)
 have HI1 := LH (fun (W : World) (hW : Ext w W) => by
  have hi := is_any W (HP.out.ext hW) 7 ⟨#[91]⟩
  rw [<- tkxB_eq (by decide), show tkxB ts a 7 ⟨#[91]⟩ = _ from u1] at hi
  exact hi)
 clear hV u0 u1
 go_enter Tryz.func147, Tryz.ntmps147
 go_wp2_with fail
 refine (peek_any _ HP.out).mono ?_
 rintro e w1 ⟨rfl, hx⟩
 have HX := LH hx
 generalize tkK ts a = kd at *
 generalize tkT ts a = tx at *
 generalize tkN ts a = nm at *
 clear hx
 go_wp2_with fail
 refine (HI0.out _ (HX.out.alloc _)).mono ?_
 rintro e w2 ⟨rfl, hx2⟩
 have HX2 := LH ((HX.out.alloc _).trans hx2)
 go_wp2_with fail
 refine (HI1.out _ HX2.out).mono ?_
 rintro e w3 ⟨rfl, hx3⟩
 go_wp2_with fail
 go_ret
 exact ⟨ret_bool HV.out, HX2.out.trans hx3⟩
end Go.Proofs.YtndhpbjhkgdieaaGreatDoor
