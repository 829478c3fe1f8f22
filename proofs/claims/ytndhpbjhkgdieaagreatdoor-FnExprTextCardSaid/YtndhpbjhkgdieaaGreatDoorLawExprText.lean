/-
  FnExprText: an expression is read from its text, for every code.
  Conditions: none.
-/
import Derived.ChangeSlices
import Derived.BigQuiet
import Derived.Deep.QuietTactic
import Derived.Test.YtndhpbjhkgdieaaGreatDoorP08
import Derived.Test.YtndhpbjhkgdieaaGreatDoorP23
import Derived.Test.YtndhpbjhkgdieaaGreatDoorP30
import Derived.Test.YtndhpbjhkgdieaaGreatDoorP36
import Derived.Test.YtndhpbjhkgdieaaGreatDoorP37
namespace Go.Proofs.YtndhpbjhkgdieaaGreatDoor
open Go.ChangeShapes Go.WideShapes Go.ChangeAt Go.RowKit Go.Joins
open Go.ChangeMaps (open_string)
set_option maxHeartbeats 8000000
set_option maxRecDepth 100000
set_option linter.unusedSimpArgs false
set_option linter.unusedVariables false
theorem bytes_of_trod {H : Type} {enc : TypeId × Value -> H} {W : World} {fuel : Nat} {ao : Option Addr} {n cap : Nat} {d : DataW H × List MemPlace} (h : DataW.trod enc Tryz.prog W 0 (fun _ => true) true fuel 22 [.slice ao n cap] = some d) : Bytes W (.slice ao n cap) := by
 rcases open_ints Tryz.underlying22 Tryz.underlying5 (show Tryz.prog.cellsOf 5 = 1 by kernel_rfl) h with ⟨hcs, -⟩ | ⟨a, len, cap', zs, hcs, -, hl, hm, hz, -, hcell, hwz⟩
 · simp only [List.cons.injEq, Value.slice.injEq, and_true] at hcs
   obtain ⟨rfl, rfl, rfl⟩ := hcs
   exact ⟨_, _, _, rfl, by omega, Or.inl rfl⟩
 · simp only [List.cons.injEq, Value.slice.injEq, and_true] at hcs
   obtain ⟨rfl, rfl, rfl⟩ := hcs
   have hz : zs.length = cap := hz
   refine ⟨_, _, _, rfl, by unfold maxLen at hm; omega, Or.inr ⟨a, rfl, fun k hk => ⟨zs.getD k 0, hcell k (by omega), ?_⟩⟩⟩
   have hw := hwz (zs.getD k 0) (by
    rw [List.getD_eq_getElem?_getD, List.getElem?_eq_getElem (by omega : k < zs.length)]
    exact List.getElem_mem _)
   generalize zs.getD k 0 = z at hw ⊢
   simp [Lit.wf, IntKind.min, IntKind.max, IntKind.signed, IntKind.bits] at hw
   have := hw.1; have := hw.2
   omega
theorem read_again {x : MExpr} (h : ExprOk x) (h9 : x.kind ≠ 9) (hs : (toksL (fmtE x)).isSome = true) : parseX (fmtE x) = some x := by
 rw [fmtE_ok h] at hs ⊢
 obtain ⟨ts, ht⟩ := Option.isSome_iff_exists.1 hs
 have hq := toks_tx h.2.2 ht
 subst hq
 exact parse_yes ⟨_, ht, parse_tk h.2.2 h9, h⟩
theorem big_any (ao : Option Addr) (n cap : Nat) (w : World) (hn : n <= 9223372036854775807) : Calls Tryz.prog 4 #[.slice ao n cap] w fun e w' => e = .returned (.bool (decide (1048576 < n))) /\ w' = w := by
 go_enter Tryz.func4, Tryz.ntmps4
 by_cases h : 1048576 < n
 · have h' : (1048576 : Int) < n := by omega
   go_wp2_with fail
   go_ret
   exact ⟨ret_bool (by simp [h]), rfl⟩
 · have h' : (n : Int) <= 1048576 := by omega
   go_wp2_with fail
   go_ret
   exact ⟨ret_bool (by rw [decide_eq_false h]; exact decide_eq_false (by omega)), rfl⟩
theorem fnExprText_calls (v : Value) (w : World) (hc : Bytes w v) (hM : MaxOk w /\ TabOk w) : Calls Tryz.prog 3 #[v] w fun e w' => e = .returned (.bool true) /\ Ext w w' := by
 have HC := LH hc
 obtain ⟨ao, n, cap, rfl, hn, -⟩ := hc
 go_enter Tryz.func3, Tryz.ntmps3
 go_wp2_with fail
 refine (big_any ao n cap _ hn).mono ?_
 cases hb : decide (1048576 < n)
 rotate_left
 · rintro e w' ⟨rfl, rfl⟩
   go_wp2_with fail
   go_ret
   exact ⟨rfl, XR _⟩
 rintro e w' ⟨rfl, rfl⟩
 clear hb hn
 go_wp2_with fail
 refine (DrawFormatExpr_any _ _ HC.out).mono ?_
 rintro e w1 ⟨⟨x, vs, fp, rfl, RX, -, -, hbk⟩, hx1⟩
 obtain ⟨an, cn, ak, ck, rfl⟩ := fld5 RX
 have RX := LH RX.rep
 have hM1 : MaxOk w1 /\ TabOk w1 := ⟨hM.1.ext hx1, hM.2.ext hx1⟩
 have HSZ := fmtE_size hbk
 obtain ⟨ft, hft⟩ : ∃ ft, (toksL (fmtE x)).isSome = ft := ⟨_, rfl⟩
 have CF : Hid (∀ W, Ext w1 W -> Calls Tryz.prog 6 #[.agg #[.int .i64 x.kind, .string x.text, .int .i64 x.number, .slice an x.names.length cn, .slice ak x.kids.length ck]] W fun e w' => e = .returned (.string (fmtE x)) /\ Ext W w') := LH fun W hW => FormatExpr_any x _ W (Rep.ext hW RX.out) hbk (hM1.1.ext hW) (hM1.2.ext hW)
 have CI : Hid (∀ W, Ext w1 W -> Calls Tryz.prog 7 #[.agg #[.int .i64 x.kind, .string x.text, .int .i64 x.number, .slice an x.names.length cn, .slice ak x.kids.length ck]] W fun e w' => e = .returned (.bool (prB (ExprOk x))) /\ Ext W w') := LH fun W hW => impl_IsExpr_any x _ W (Rep.ext hW RX.out) (by omega) (hM1.1.ext hW)
 have CS : Hid (∀ W, Ext w1 W -> Calls Tryz.prog 8 #[.agg #[.int .i64 x.kind, .string x.text, .int .i64 x.number, .slice an x.names.length cn, .slice ak x.kids.length ck]] W fun e w' => e = .returned (.bool (prB (ExprOk x))) /\ Ext W w') := LH fun W hW => spec_IsExpr_any x _ W (Rep.ext hW RX.out) (by omega)
 have CT : Hid (∀ W, Ext w1 W -> Calls Tryz.prog 9 #[.string (fmtE x)] W (GivesT W (toksL (fmtE x)))) := LH fun W hW => spec_Tokens_any _ W (by omega)
 have CP : Hid (∀ W, Ext w1 W -> Calls Tryz.prog 10 #[.string (fmtE x)] W (GivesX W (fmtE x))) := LH fun W hW => impl_ParseExpr_any _ W (by omega) (hM1.1.ext hW)
 have HG : Hid (ExprOk x -> x.kind ≠ 9 -> ft = true -> parseX (fmtE x) = some x) := LH fun h h9 hf => read_again h h9 (by rw [hft]; exact hf)
 clear hM hM1 HC
 go_upto_region 4 with fail
 generalize hS : World.alloc w1 _ = W1
 have xm : Ext w1 W1 := by rw [<- hS]; exact (XR _).alloc _
 have m0 : W1.cell? ⟨w1.heap.size, 0, none⟩ = some (.int .i64 x.kind) := by rw [<- hS]; simp <;> assumption
 have m1 : W1.cell? ⟨w1.heap.size, 1, none⟩ = some (.string x.text) := by rw [<- hS]; simp <;> assumption
 have m2 : W1.cell? ⟨w1.heap.size, 2, none⟩ = some (.int .i64 x.number) := by rw [<- hS]; simp <;> assumption
 have m3 : W1.cell? ⟨w1.heap.size, 3, none⟩ = some (.slice an x.names.length cn) := by rw [<- hS]; simp <;> assumption
 have m4 : W1.cell? ⟨w1.heap.size, 4, none⟩ = some (.slice ak x.kids.length ck) := by rw [<- hS]; simp <;> assumption
 clear hS
 by_cases hok2 : ExprOk x
 rotate_left
 · have HT : fmtE x = ⟨#[]⟩ := fmtE_no hok2
   rw [prB_ff hok2] at CI CS
   rw [HT] at CF CT hft HSZ
   clear HT hok2 HG
   go_wp2_with fail
   refine (CF.out _ xm).mono ?_
   rintro e w2 ⟨rfl, hx2⟩
   replace m0 := hx2.cell m0
   replace m1 := hx2.cell m1
   replace m2 := hx2.cell m2
   replace m3 := hx2.cell m3
   replace m4 := hx2.cell m4
   go_wp2_with fail
   have gm0 := reg (XR _) m0
   have gm1 := reg (XR _) m1
   have gm2 := reg (XR _) m2
   have gm3 := reg (XR _) m3
   have gm4 := reg (XR _) m4
   refine wp_region_quiet_below (by kernel_rfl) (by kernel_rfl) ?_
   repeat (go_big_quiet_step ((first | (go_at_call 7; exact Calls.regrown_of (CI.out _ ((xm.trans hx2).trans (regx _ _)))) | (go_at_call 8; exact Calls.regrown_of (CS.out _ ((xm.trans hx2).trans (regx _ _)))))))
   refine wpQuiet_nil ?_
   clear gm0 gm1 gm2 gm3 gm4
   intro _ hw'
   obtain ⟨pw, hw''⟩ := hw'
   subst hw''
   have xW3 := regx w2 pw
   generalize hWR : «Sort».grow (redrawn w2 pw.d) pw.os = W3 at *
   clear hWR
   replace m0 := xW3.cell m0
   replace m1 := xW3.cell m1
   replace m2 := xW3.cell m2
   replace m3 := xW3.cell m3
   replace m4 := xW3.cell m4
   have e3 := (xm.trans hx2).trans xW3
   go_wp2_with fail
   refine (CT.out _ e3).mono ?_
   rintro e w4 ⟨a4, n4, c4, f4, rfl, -, -, hx4⟩
   rw [hft]
   have e4 := e3.trans hx4
   replace m0 := hx4.cell m0
   replace m1 := hx4.cell m1
   replace m2 := hx4.cell m2
   replace m3 := hx4.cell m3
   replace m4 := hx4.cell m4
   go_wp2_with fail
   go_ret
   exact ⟨rfl, (hx1.trans e4)⟩
 replace HG := LH (fun h9 hf => HG.out hok2 h9 hf)
 have ht := str_ne' (l := []) (fun h => (fmtE_empty.1 h) hok2)
 rw [prB_tt hok2] at CI CS
 generalize fmtE x = T at *
 clear hok2
 by_cases h9 : x.kind = 9
 · have t9 := int_eq h9
   clear HG CP h9
   go_wp2_with fail
   refine (CF.out _ xm).mono ?_
   rintro e w2 ⟨rfl, hx2⟩
   replace m0 := hx2.cell m0
   replace m1 := hx2.cell m1
   replace m2 := hx2.cell m2
   replace m3 := hx2.cell m3
   replace m4 := hx2.cell m4
   go_wp2_with fail
   have gm0 := reg (XR _) m0
   have gm1 := reg (XR _) m1
   have gm2 := reg (XR _) m2
   have gm3 := reg (XR _) m3
   have gm4 := reg (XR _) m4
   refine wp_region_quiet_below (by kernel_rfl) (by kernel_rfl) ?_
   repeat (go_big_quiet_step ((first | (go_at_call 7; exact Calls.regrown_of (CI.out _ ((xm.trans hx2).trans (regx _ _)))) | (go_at_call 8; exact Calls.regrown_of (CS.out _ ((xm.trans hx2).trans (regx _ _)))))))
   refine wpQuiet_nil ?_
   clear gm0 gm1 gm2 gm3 gm4
   intro _ hw'
   obtain ⟨pw, hw''⟩ := hw'
   subst hw''
   have xW3 := regx w2 pw
   generalize hWR : «Sort».grow (redrawn w2 pw.d) pw.os = W3 at *
   clear hWR
   replace m0 := xW3.cell m0
   replace m1 := xW3.cell m1
   replace m2 := xW3.cell m2
   replace m3 := xW3.cell m3
   replace m4 := xW3.cell m4
   have e3 := (xm.trans hx2).trans xW3
   go_wp2_with fail
   refine (CT.out _ e3).mono ?_
   rintro e w4 ⟨a4, n4, c4, f4, rfl, -, -, hx4⟩
   rw [hft]
   have e4 := e3.trans hx4
   replace m0 := hx4.cell m0
   replace m1 := hx4.cell m1
   replace m2 := hx4.cell m2
   replace m3 := hx4.cell m3
   replace m4 := hx4.cell m4
   cases ft
   · go_wp2_with fail
     go_ret
     exact ⟨rfl, (hx1.trans e4)⟩
   · go_wp2_with fail
     go_ret
     exact ⟨rfl, (hx1.trans e4)⟩
 have t9 := int_ne h9
 go_wp2_with fail
 refine (CF.out _ xm).mono ?_
 rintro e w2 ⟨rfl, hx2⟩
 replace m0 := hx2.cell m0
 replace m1 := hx2.cell m1
 replace m2 := hx2.cell m2
 replace m3 := hx2.cell m3
 replace m4 := hx2.cell m4
 go_wp2_with fail
 have gm0 := reg (XR _) m0
 have gm1 := reg (XR _) m1
 have gm2 := reg (XR _) m2
 have gm3 := reg (XR _) m3
 have gm4 := reg (XR _) m4
 refine wp_region_quiet_below (by kernel_rfl) (by kernel_rfl) ?_
 repeat (go_big_quiet_step ((first | (go_at_call 7; exact Calls.regrown_of (CI.out _ ((xm.trans hx2).trans (regx _ _)))) | (go_at_call 8; exact Calls.regrown_of (CS.out _ ((xm.trans hx2).trans (regx _ _)))))))
 refine wpQuiet_nil ?_
 clear gm0 gm1 gm2 gm3 gm4
 intro _ hw'
 obtain ⟨pw, hw''⟩ := hw'
 subst hw''
 have xW3 := regx w2 pw
 generalize hWR : «Sort».grow (redrawn w2 pw.d) pw.os = W3 at *
 clear hWR
 replace m0 := xW3.cell m0
 replace m1 := xW3.cell m1
 replace m2 := xW3.cell m2
 replace m3 := xW3.cell m3
 replace m4 := xW3.cell m4
 have e3 := (xm.trans hx2).trans xW3
 go_wp2_with fail
 refine (CT.out _ e3).mono ?_
 rintro e w4 ⟨a4, n4, c4, f4, rfl, -, -, hx4⟩
 rw [hft]
 have e4 := e3.trans hx4
 replace m0 := hx4.cell m0
 replace m1 := hx4.cell m1
 replace m2 := hx4.cell m2
 replace m3 := hx4.cell m3
 replace m4 := hx4.cell m4
 cases ft
 · go_wp2_with fail
   go_ret
   exact ⟨rfl, (hx1.trans e4)⟩
 have HP := LH (HG.out h9 rfl)
 go_wp2_with fail
 refine (CP.out _ e4).mono ?_
 rintro e w5 ⟨cs, fp5, rfl, R5, -, hx5⟩
 rw [HP.out] at R5 ⊢
 simp only [Option.getD_some, Option.isSome_some] at R5 ⊢
 obtain ⟨bn, dn, bk, dk, rfl⟩ := fld5 R5
 have R5 := LH R5.rep
 have e5 := e4.trans hx5
 replace m0 := hx5.cell m0
 replace m1 := hx5.cell m1
 replace m2 := hx5.cell m2
 replace m3 := hx5.cell m3
 replace m4 := hx5.cell m4
 go_upto_region 11 with fail
 generalize hS : World.alloc w5 _ = W6
 have xf : Ext w5 W6 := by rw [<- hS]; exact (XR _).alloc _
 have f0 : W6.cell? ⟨w5.heap.size, 0, none⟩ = some (.int .i64 x.kind) := by rw [<- hS]; simp <;> assumption
 have f1 : W6.cell? ⟨w5.heap.size, 1, none⟩ = some (.string x.text) := by rw [<- hS]; simp <;> assumption
 have f2 : W6.cell? ⟨w5.heap.size, 2, none⟩ = some (.int .i64 x.number) := by rw [<- hS]; simp <;> assumption
 have f3 : W6.cell? ⟨w5.heap.size, 3, none⟩ = some (.slice bn x.names.length dn) := by rw [<- hS]; simp <;> assumption
 have f4 : W6.cell? ⟨w5.heap.size, 4, none⟩ = some (.slice bk x.kids.length dk) := by rw [<- hS]; simp <;> assumption
 clear hS
 replace m0 := xf.cell m0
 replace m1 := xf.cell m1
 replace m2 := xf.cell m2
 replace m3 := xf.cell m3
 replace m4 := xf.cell m4
 have e6 := e5.trans xf
 have CE : Hid (∀ W, Ext W6 W -> Calls Tryz.prog 11 #[.agg #[.int .i64 x.kind, .string x.text, .int .i64 x.number, .slice an x.names.length cn, .slice ak x.kids.length ck], .agg #[.int .i64 x.kind, .string x.text, .int .i64 x.number, .slice bn x.names.length dn, .slice bk x.kids.length dk]] W fun e w' => e = .returned (.bool true) /\ Ext W w') := LH fun W hW => by
  have h := impl_EqualExprs_any x x [.int .i64 x.kind, .string x.text, .int .i64 x.number, .slice an x.names.length cn, .slice ak x.kids.length ck] [.int .i64 x.kind, .string x.text, .int .i64 x.number, .slice bn x.names.length dn, .slice bk x.kids.length dk] W (Rep.ext (e6.trans hW) RX.out) (Rep.ext (xf.trans hW) R5.out)
  rw [eqB_tt rfl] at h
  exact h
 have CZ1 : Hid (∀ W, Ext W6 W -> Calls Tryz.prog 12 #[.agg #[.int .i64 x.kind, .string x.text, .int .i64 x.number, .slice an x.names.length cn, .slice ak x.kids.length ck]] W fun e w' => e = .returned (.int .i64 x.size) /\ Ext W w') := LH fun W hW => impl_SizeOfExpr_any x [.int .i64 x.kind, .string x.text, .int .i64 x.number, .slice an x.names.length cn, .slice ak x.kids.length ck] W (Rep.ext (e6.trans hW) RX.out) (bulk_size (by omega))
 have CZ2 : Hid (∀ W, Ext W6 W -> Calls Tryz.prog 12 #[.agg #[.int .i64 x.kind, .string x.text, .int .i64 x.number, .slice bn x.names.length dn, .slice bk x.kids.length dk]] W fun e w' => e = .returned (.int .i64 x.size) /\ Ext W w') := LH fun W hW => impl_SizeOfExpr_any x [.int .i64 x.kind, .string x.text, .int .i64 x.number, .slice bn x.names.length dn, .slice bk x.kids.length dk] W (Rep.ext (xf.trans hW) R5.out) (bulk_size (by omega))
 have CD1 : Hid (∀ W, Ext W6 W -> Calls Tryz.prog 13 #[.agg #[.int .i64 x.kind, .string x.text, .int .i64 x.number, .slice an x.names.length cn, .slice ak x.kids.length ck]] W fun e w' => e = .returned (.int .i64 x.depth) /\ Ext W w') := LH fun W hW => impl_DepthOfExpr_any x [.int .i64 x.kind, .string x.text, .int .i64 x.number, .slice an x.names.length cn, .slice ak x.kids.length ck] W (Rep.ext (e6.trans hW) RX.out) (bulk_size (by omega))
 have CD2 : Hid (∀ W, Ext W6 W -> Calls Tryz.prog 13 #[.agg #[.int .i64 x.kind, .string x.text, .int .i64 x.number, .slice bn x.names.length dn, .slice bk x.kids.length dk]] W fun e w' => e = .returned (.int .i64 x.depth) /\ Ext W w') := LH fun W hW => impl_DepthOfExpr_any x [.int .i64 x.kind, .string x.text, .int .i64 x.number, .slice bn x.names.length dn, .slice bk x.kids.length dk] W (Rep.ext (xf.trans hW) R5.out) (bulk_size (by omega))
 go_wp2_with fail
 have gm0 := reg (XR _) m0
 have gm1 := reg (XR _) m1
 have gm2 := reg (XR _) m2
 have gm3 := reg (XR _) m3
 have gm4 := reg (XR _) m4
 have gf0 := reg (XR _) f0
 have gf1 := reg (XR _) f1
 have gf2 := reg (XR _) f2
 have gf3 := reg (XR _) f3
 have gf4 := reg (XR _) f4
 refine wp_region_quiet_below (by kernel_rfl) (by kernel_rfl) ?_
 repeat (go_big_quiet_step (fail))
 go_big_quiet_step ((go_at_call 11; exact Calls.regrown_of (CE.out _ (regx _ _))))
 repeat (go_big_quiet_step (fail))
 go_big_quiet_step ((go_at_call 12; exact Calls.regrown_of (CZ2.out _ (regx _ _))))
 repeat (go_big_quiet_step (fail))
 go_big_quiet_step ((go_at_call 12; exact Calls.regrown_of (CZ1.out _ (regx _ _))))
 repeat (go_big_quiet_step (fail))
 go_big_quiet_step ((go_at_call 13; exact Calls.regrown_of (CD2.out _ (regx _ _))))
 repeat (go_big_quiet_step (fail))
 go_big_quiet_step ((go_at_call 13; exact Calls.regrown_of (CD1.out _ (regx _ _))))
 repeat (go_big_quiet_step (fail))
 refine wpQuiet_nil ?_
 clear gm0 gm1 gm2 gm3 gm4 gf0 gf1 gf2 gf3 gf4
 intro _ hw'
 obtain ⟨pw, hw''⟩ := hw'
 subst hw''
 have xW7 := regx W6 pw
 generalize hWR : «Sort».grow (redrawn W6 pw.d) pw.os = W7 at *
 clear hWR
 replace m0 := xW7.cell m0
 replace m1 := xW7.cell m1
 replace m2 := xW7.cell m2
 replace m3 := xW7.cell m3
 replace m4 := xW7.cell m4
 replace f0 := xW7.cell f0
 replace f1 := xW7.cell f1
 replace f2 := xW7.cell f2
 replace f3 := xW7.cell f3
 replace f4 := xW7.cell f4
 go_wp2_with fail
 go_ret
 exact ⟨ret_bool (by simp), hx1.trans (e6.trans xW7)⟩
theorem fnExprText_lifted (os : Os) (started : os.Started) (H : Type) (enc : TypeId × Value -> H) :
 ReturnsInHanded {} Tryz.checked os 3 .any (fun w args => (Rows.fnExprTextSpec.pre enc Tryz.prog Tryz.f3 Rows.fnExprTextRow.domain false w args /\ laidMetH Tryz.prog Rows.fnExprTextRow.laid w) /\ sizedMet enc Tryz.prog Tryz.f3 (OpenSpec.ofChange Rows.fnExprTextSpec) false w args) (Rows.fnExprTextSpec.post enc Tryz.prog Tryz.f3 false true false false) := by
 refine returns_laid (C := Tryz.checked) (X := fun w _ => laidMetH Tryz.prog Rows.fnExprTextRow.laid w) (fun _ _ _ hh h => h.of_heap hh) Tryz.own started (by kernel_rfl) Tryz.func3
  (ChangeSpec.witness_shaped (enc := enc) (C := Tryz.checked) (os := os) (X := fun w _ => laidMetH Tryz.prog Rows.fnExprTextRow.laid w) false (World.laidAll Tryz.prog os Rows.fnExprTextRow.laid) #[.slice none 0 0] 8 (World.laidAll_os _ _ _)
   (World.shaped_of_ZipB (by kernel_rfl) (by kernel_rfl)) (by kernel_rfl) (by kernel_rfl) (by kernel_rfl)
   (by rw [MakeChecks.laidMetH_plain _ _ _ (by kernel_rfl)]; exact laidMet_laidAll _ (by kernel_rfl) (by kernel_rfl))) ?_
 intro W base args ds gs before hval0 hW hL hsh
 have hM := And.intro (max_ok hsh) (door_tab hL (by kernel_rfl) (i := 2) (by kernel_rfl))
 have hval : ∀ (j : Nat) t v, Tryz.f3.params[j]? = some t -> args[j]? = some v -> Value.okWide Tryz.prog W .any base t v := hval0
 have hW' := hW
 obtain ⟨p, q, hA0, hV, rfl, hfz, hnd⟩ := hW
 have hA : DataW.TrodAll enc Tryz.prog W 0 (fun _ => true) true Tryz.f3.params.toList args.toList ds p := hA0
 rw [Tryz.params3] at hA hval
 obtain ⟨v0, d0, rfl, rfl, h0⟩ := trodAll_one hA
 obtain ⟨rfl, rfl⟩ := trodVars_none hV
 obtain ⟨ao0, ln0, cp0, rfl⟩ := okWide_slice Tryz.underlying22 (hval 0 22 v0 rfl rfl)
 obtain ⟨fu0, hh0⟩ := h0
 have hh0 : DataW.trod enc Tryz.prog W 0 (fun _ => true) true fu0 22 [.slice ao0 ln0 cp0] = some _ := hh0
 exact (fnExprText_calls _ W (bytes_of_trod hh0)  hM).mono fun e W' ⟨he, hb⟩ => ⟨_, he, law_post Tryz.laidOut rfl (by kernel_rfl) rfl Tryz.underlying4 hW' rfl hb⟩
end Go.Proofs.YtndhpbjhkgdieaaGreatDoor
