/-
  SEVERAL TEXTS IN ONE: CONTRACTS: IsSystem, of both; CONTRACTS: the reference's CompileSystem.
  Conditions: those that each lemma states.
-/
import Derived.Test.YtlaclfeljimffaaGreatDoorRows
import Derived.Test.YtlaclfeljimffaaGreatDoorP40
import Derived.Test.YtlaclfeljimffaaGreatDoorP41
import Derived.Test.YtlaclfeljimffaaGreatDoorP42
import Derived.Test.YtlaclfeljimffaaGreatDoorP29
namespace Go.Proofs.YtlaclfeljimffaaGreatDoor
open Go.RowKit
set_option maxHeartbeats 8000000
set_option maxRecDepth 100000
set_option linter.unusedSimpArgs false
set_option linter.unusedVariables false
theorem impl_IsSystem_any (x : MSystem) (cx : List Value) (w : World) (rx : Rep w x.d cx) (hz : SysSz x) (hM : MaxOk w) :
 Calls Tryz.prog 22 #[.agg cx.toArray] w fun e w' => e = .returned (.bool (prB (SysP x))) /\ Ext w w' :=
 impl_IsSystem_of (LH fun r cr K w rr hb h0 h1 hM => routineOk_any r cr K w rr hb h0 h1 hM) x cx w rx hz hM
theorem spec_IsSystem_any (x : MSystem) (cx : List Value) (w : World) (rx : Rep w x.d cx) (hz : SysSz x) :
 Calls Tryz.prog 16 #[.agg cx.toArray] w fun e w' => e = .returned (.bool (prB (SysP x))) /\ Ext w w' :=
 spec_IsSystem_of (LH fun r cr K w rr hb h0 h1 => l8IsRoutine_any r cr K w rr hb h0 h1) x cx w rx hz
theorem sfits_at {x : MCodeBase} {cs : List Value} (w0 w : World) (pb : Nat) (rx : Rep w0 x.d cs) (hx : Ext w0 w) (OX : Own w pb 36 cs.toArray) :
 Calls Tryz.prog 18 #[.pointer (some ⟨pb, 0, none⟩)] w (fun e w' => (∃ bb : Bool, e = .returned (.bool bb) /\ (bb = true ↔ BaseOk x)) /\ Ext w w') := by
 obtain ⟨a1, c1, a2, c2, a3, c3, rfl, -, rk, -⟩ := MCodeBase.op_en rx
 obtain ⟨ao, ca, ba, oa, e1, hla, hma, pa, hra⟩ := Rep.slmap rk
 simp only [List.cons.injEq, and_true, Value.slice.injEq, List.length_map] at e1
 obtain ⟨rfl, -, rfl⟩ := e1
 unfold maxLen at hma
 have HX1 := LH hx
 clear rx rk hx
 go_enter Tryz.func18, Tryz.ntmps18
 have q0 := OX.k0
 have qf0 := OX.f0
 have q1 := OX.k1
 have qf1 := OX.f1
 have q2 := OX.k2
 have qf2 := OX.f2
 have q3 := OX.k3
 have qf3 := OX.f3
 have qz := OX.lt
 go_wp2_with fail
 go_loopw [3] (fun iv wr => ∃ k : Nat, k <= x.codes.length /\ iv = .int .i64 k /\ Ext w wr /\ Hid (∀ c, c ∈ x.codes.take k -> c.instrs.length <= 900)) (fun iv _ => x.codes.length - (intOf iv).toNat)
 case atStart => exact ⟨0, Nat.zero_le _, rfl, XR _, LH (by simp)⟩
 case round =>
  obtain ⟨k, hk, rfl, xr, HP⟩ := hrel
  have OR := OX.ext xr
  clear q0 qf0 q1 qf1 q2 qf2 q3 qf3 qz
  have q0 := OR.k0
  have qf0 := OR.f0
  have q1 := OR.k1
  have qf1 := OR.f1
  have q2 := OR.k2
  have qf2 := OR.f2
  have q3 := OR.k3
  have qf3 := OR.f3
  have qz := OR.lt
  by_cases hlt : k < x.codes.length
  · obtain rfl := pa (by omega)
    obtain ⟨ea, la, cl, ra⟩ := hra k x.codes[k] (by simp [hlt])
    obtain ⟨aa, cc, rfl, ri⟩ := MCode.op_en ra
    have hil : x.codes[k].instrs.length <= 9223372036854775807 := by
     obtain ⟨-, ca2, -, -, -, hl2, hm2, -, -⟩ := Rep.slmap ri
     unfold maxLen at hm2
     omega
    have hxr := HX1.out.trans xr
    have t3 : wr.cell? ⟨ba, oa + k * 4 + 3, none⟩ = some (.slice aa x.codes[k].instrs.length cc) := hxr.cell (cl 3 (by omega))
    clear cl la hra pa ra ri
    by_cases h9 : x.codes[k].instrs.length <= 900
    · have h9' : ¬ (900 : Int) < x.codes[k].instrs.length := by omega
      have HP2 : Hid (∀ c, c ∈ x.codes.take (k + 1) -> c.instrs.length <= 900) := LH fun c hc => by
       rw [List.take_succ_eq_append_getElem hlt] at hc
       rcases List.mem_append.1 hc with hc | hc
       · exact HP.out c hc
       · obtain rfl := List.mem_singleton.1 hc; exact h9
      go_wp2_with fail
      go_roundw
      case rel => exact ⟨k + 1, by omega, by go_num, xr, HP2⟩
      case measure => simp [intOf]; omega
    · have h9' : (900 : Int) < x.codes[k].instrs.length := by omega
      have HB : Hid (¬ BaseOk x) := LH fun h => h9 (h.1 _ (List.getElem_mem hlt))
      go_wp2_with fail
      go_ret
      exact ⟨⟨false, rfl, by simp [HB.out]⟩, xr⟩
  · obtain rfl : k = x.codes.length := by omega
    have HB : Hid (BaseOk x ↔ x.codes.length <= 200) := LH ⟨fun h => h.2, fun h => ⟨by have := HP.out; rwa [List.take_length] at this, h⟩⟩
    clear HP hra pa
    go_wp2_with fail
    go_ret
    exact ⟨⟨_, rfl, by rw [HB.out]; simp; try omega⟩, xr⟩
theorem spec_CompileSystem_of (HI : Hid SysS) (x : MSystem) (cx : List Value) (w : World) (rx : Rep w x.d cx) (hz : SysSz x) :
 Calls Tryz.prog 5 #[.agg cx.toArray] w (GivesB w (compV x) (prB (SysP x /\ BaseOk (baseF (cmp 40) x)))) := by
 have RX := LH rx
 obtain ⟨ac, cc, ar, cr, am, cm, rfl, -⟩ := MSystem.op_en rx
 have HZ := LH hz
 clear rx hz
 go_enter Tryz.func5, Tryz.ntmps5
 go_upto_region 1 with fail
 generalize hS : World.alloc (World.alloc w _) _ = W2
 have x2 : Ext w W2 := by rw [<- hS]; exact ((XR _).alloc _).alloc _
 have OSB : Own W2 w.heap.size 46 #[.slice ac x.classes.length cc, .slice ar x.routines.length cr, .string x.main.selector, .int .i64 x.main.owner, .bool x.main.cls, .int .i64 x.main.params, .int .i64 x.main.slots, .int .i64 x.main.body.kind, .string x.main.body.text, .int .i64 x.main.body.number, .int .i64 x.main.body.depth, .slice am x.main.body.kids.length cm] := by rw [<- hS]; exact (own_new w _ _).ext ((XR _).alloc _)
 have OZ : Own W2 (w.heap.size + 1) 36 #[.slice none 0 0, .slice none 0 0, .slice none 0 0, .int .i64 0] := by rw [<- hS]; exact own_new2 w _ _ _
 have HS2 : Hid (W2.heap.size = w.heap.size + 2) := LH (by rw [<- hS]; simp)
 clear hS
 have s0 := OSB.k0
 have sf0 := OSB.f0
 have s1 := OSB.k1
 have sf1 := OSB.f1
 have s2 := OSB.k2
 have sf2 := OSB.f2
 have s3 := OSB.k3
 have sf3 := OSB.f3
 have s4 := OSB.k4
 have sf4 := OSB.f4
 have s5 := OSB.k5
 have sf5 := OSB.f5
 have s6 : W2.cell? ⟨w.heap.size, 6, none⟩ = some (.int .i64 x.main.slots) := OSB.cell 6
 have sf6 := OSB.frozen 6
 have s7 : W2.cell? ⟨w.heap.size, 7, none⟩ = some (.int .i64 x.main.body.kind) := OSB.cell 7
 have sf7 := OSB.frozen 7
 have s8 : W2.cell? ⟨w.heap.size, 8, none⟩ = some (.string x.main.body.text) := OSB.cell 8
 have sf8 := OSB.frozen 8
 have s9 : W2.cell? ⟨w.heap.size, 9, none⟩ = some (.int .i64 x.main.body.number) := OSB.cell 9
 have sf9 := OSB.frozen 9
 have s10 : W2.cell? ⟨w.heap.size, 10, none⟩ = some (.int .i64 x.main.body.depth) := OSB.cell 10
 have sf10 := OSB.frozen 10
 have s11 : W2.cell? ⟨w.heap.size, 11, none⟩ = some (.slice am x.main.body.kids.length cm) := OSB.cell 11
 have sf11 := OSB.frozen 11
 have sz := OSB.lt
 cases hsp : prB (SysP x)
 · have hns : ¬ SysP x := fun h => by rw [prB_iff.2 h] at hsp; cases hsp
   have HPF : Hid (prB (SysP x /\ BaseOk (baseF (cmp 40) x)) = false) := LH (prB_ff (fun h => hns h.1))
   have HV : Hid (compV x = zBase) := LH (compV_no (fun h => hns h.1))
   clear hns
   go_wp2_with fail
   refine (HI.out x _ W2 (Rep.ext x2 RX.out) HZ.out).mono ?_
   rw [hsp]
   rintro e w3 ⟨rfl, hx3⟩
   have OZ3 := OZ.ext hx3
   have X3 := LH (x2.trans hx3)
   clear s0 sf0 s1 sf1 s2 sf2 s3 sf3 s4 sf4 s5 sf5 s6 sf6 s7 sf7 s8 sf8 s9 sf9 s10 sf10 s11 sf11 sz OSB OZ
   have z0 := OZ3.k0
   have zf0 := OZ3.f0
   have z1 := OZ3.k1
   have zf1 := OZ3.f1
   have z2 := OZ3.k2
   have zf2 := OZ3.f2
   have z3 := OZ3.k3
   have zf3 := OZ3.f3
   have zz := OZ3.lt
   go_wp2_with fail
   generalize hS : World.setCell (World.setCell (World.setCell (World.setCell w3 _ _) _ _) _ _) _ _ = W4
   obtain ⟨O4, T4⟩ := own4b OZ3 (.slice none 0 0) (.slice none 0 0) (.slice none 0 0) (.int .i64 0)
   rw [hS] at O4 T4
   clear hS z0 zf0 z1 zf1 z2 zf2 z3 zf3 zz OZ3
   have p0 := O4.k0
   have p1 := O4.k1
   have p2 := O4.k2
   have p3 := O4.k3
   have pz := O4.lt
   have FIN : GivesB w (compV x) (prB (SysP x /\ BaseOk (baseF (cmp 40) x))) (.returned (.tuple #[.agg #[.slice none 0 0, .slice none 0 0, .slice none 0 0, .int .i64 0], .bool false])) W4 := by rw [HPF.out]; exact ⟨_, [], rfl, by rw [HV.out]; exact zbase_rep _, Fresh.nil _ _, Touch.ext X3.out T4 (fun j hj => by have := List.mem_singleton.1 hj; omega)⟩
   exact bodyPost_ret (v := .tuple #[.agg #[.slice none 0 0, .slice none 0 0, .slice none 0 0, .int .i64 0], .bool false]) (by simp [results, Tryz.results5, go_sem, p0, p1, p2, p3, pz]) rfl FIN
 · have hss : SysP x := prB_iff.1 hsp
   have HSS := LH hss
   clear hss
   go_wp2_with fail
   refine (HI.out x _ W2 (Rep.ext x2 RX.out) HZ.out).mono ?_
   rw [hsp]
   rintro e w3 ⟨rfl, hx3⟩
   have OZ3 := OZ.ext hx3
   have OS3 := OSB.ext hx3
   have hx03 := x2.trans hx3
   have hs3 := hx3.size
   clear s0 sf0 s1 sf1 s2 sf2 s3 sf3 s4 sf4 s5 sf5 s6 sf6 s7 sf7 s8 sf8 s9 sf9 s10 sf10 s11 sf11 sz OSB OZ
   have s0 := OS3.k0
   have sf0 := OS3.f0
   have s1 := OS3.k1
   have sf1 := OS3.f1
   have s2 := OS3.k2
   have sf2 := OS3.f2
   have s3 := OS3.k3
   have sf3 := OS3.f3
   have s4 := OS3.k4
   have sf4 := OS3.f4
   have s5 := OS3.k5
   have sf5 := OS3.f5
   have s6 : w3.cell? ⟨w.heap.size, 6, none⟩ = some (.int .i64 x.main.slots) := OS3.cell 6
   have sf6 := OS3.frozen 6
   have s7 : w3.cell? ⟨w.heap.size, 7, none⟩ = some (.int .i64 x.main.body.kind) := OS3.cell 7
   have sf7 := OS3.frozen 7
   have s8 : w3.cell? ⟨w.heap.size, 8, none⟩ = some (.string x.main.body.text) := OS3.cell 8
   have sf8 := OS3.frozen 8
   have s9 : w3.cell? ⟨w.heap.size, 9, none⟩ = some (.int .i64 x.main.body.number) := OS3.cell 9
   have sf9 := OS3.frozen 9
   have s10 : w3.cell? ⟨w.heap.size, 10, none⟩ = some (.int .i64 x.main.body.depth) := OS3.cell 10
   have sf10 := OS3.frozen 10
   have s11 : w3.cell? ⟨w.heap.size, 11, none⟩ = some (.slice am x.main.body.kids.length cm) := OS3.cell 11
   have sf11 := OS3.frozen 11
   have sz := OS3.lt
   go_wp2_with fail
   refine (scompile_at x _ w3 w.heap.size (Rep.ext hx03 RX.out) OS3 HSS).mono ?_
   rintro e w4 ⟨cs4, fp4, rfl, hr4, hf4, hx4⟩
   obtain ⟨a0, c0, a1, c1, a2, c2, rfl, -⟩ := MCodeBase.op_en hr4.rep
   have R4 := LH (And.intro hr4 hf4)
   have OZ4 := OZ3.ext hx4
   have hx04 := hx03.trans hx4
   have hs4 := hx4.size
   clear hr4 hf4 s0 sf0 s1 sf1 s2 sf2 s3 sf3 s4 sf4 s5 sf5 s6 sf6 s7 sf7 s8 sf8 s9 sf9 s10 sf10 s11 sf11 sz OS3 OZ3 hx4
   go_upto_region 4 with fail
   generalize hS : World.alloc w4 _ = W5
   have x5 : Ext w4 W5 := by rw [<- hS]; exact (XR _).alloc _
   have OB : Own W5 w4.heap.size 36 #[.slice a0 (baseF (cmp 40) x).classes.length c0, .slice a1 (baseF (cmp 40) x).codes.length c1, .slice a2 (baseF (cmp 40) x).entries.length c2, .int .i64 (baseF (cmp 40) x).main] := by rw [<- hS]; exact own_new w4 _ _
   have R5 := LH (And.intro (R4.out.1.ext x5) (R4.out.2.ext x5))
   have OZ5 := OZ4.ext x5
   have hx05 := hx04.trans x5
   clear hS x5 R4 OZ4
   have n0 := OB.k0
   have nf0 := OB.f0
   have n1 := OB.k1
   have nf1 := OB.f1
   have n2 := OB.k2
   have nf2 := OB.f2
   have n3 := OB.k3
   have nf3 := OB.f3
   have nz := OB.lt
   go_wp2_with fail
   refine (sfits_at W5 W5 w4.heap.size R5.out.1.rep (XR _) OB).mono ?_
   rintro e w6 ⟨⟨bb, rfl, hbb⟩, hx6⟩
   have R6 := LH (And.intro (R5.out.1.ext hx6) (R5.out.2.ext hx6))
   have OZ6 := OZ5.ext hx6
   have OB6 := OB.ext hx6
   have HX6 := LH (hx05.trans hx6)
   have HS3 : Hid (w.heap.size + 2 <= w3.heap.size) := LH (by have := HS2.out; omega)
   clear n0 nf0 n1 nf1 n2 nf2 n3 nf3 nz R5 OZ5 OB hx6 hx05
   have z0 := OZ6.k0
   have zf0 := OZ6.f0
   have z1 := OZ6.k1
   have zf1 := OZ6.f1
   have z2 := OZ6.k2
   have zf2 := OZ6.f2
   have z3 := OZ6.k3
   have zf3 := OZ6.f3
   have zz := OZ6.lt
   cases bb
   · have hno : ¬ BaseOk (baseF (cmp 40) x) := fun h => by have := hbb.2 h; cases this
     have HPF : Hid (prB (SysP x /\ BaseOk (baseF (cmp 40) x)) = false) := LH (prB_ff (fun h => hno h.2))
     have HV : Hid (compV x = zBase) := LH (compV_no (fun h => hno h.2))
     clear hno hbb
     go_wp2_with fail
     generalize hS : World.setCell (World.setCell (World.setCell (World.setCell w6 _ _) _ _) _ _) _ _ = W4
     obtain ⟨O4, T4⟩ := own4b OZ6 (.slice none 0 0) (.slice none 0 0) (.slice none 0 0) (.int .i64 0)
     rw [hS] at O4 T4
     clear hS z0 zf0 z1 zf1 z2 zf2 z3 zf3 zz OZ6
     have p0 := O4.k0
     have p1 := O4.k1
     have p2 := O4.k2
     have p3 := O4.k3
     have pz := O4.lt
     have FIN : GivesB w (compV x) (prB (SysP x /\ BaseOk (baseF (cmp 40) x))) (.returned (.tuple #[.agg #[.slice none 0 0, .slice none 0 0, .slice none 0 0, .int .i64 0], .bool false])) W4 := by rw [HPF.out]; exact ⟨_, [], rfl, by rw [HV.out]; exact zbase_rep _, Fresh.nil _ _, Touch.ext HX6.out T4 (fun j hj => by have := List.mem_singleton.1 hj; omega)⟩
     exact bodyPost_ret (v := .tuple #[.agg #[.slice none 0 0, .slice none 0 0, .slice none 0 0, .int .i64 0], .bool false]) (by simp [results, Tryz.results5, go_sem, p0, p1, p2, p3, pz]) rfl FIN
   · have hyes := hbb.1 rfl
     have HPF : Hid (prB (SysP x /\ BaseOk (baseF (cmp 40) x)) = true) := LH (prB_iff.2 ⟨HSS.out, hyes⟩)
     have HV : Hid (compV x = baseF (cmp 40) x) := LH (compV_yes HSS.out hyes)
     clear hyes hbb
     have n0 := OB6.k0
     have nf0 := OB6.f0
     have n1 := OB6.k1
     have nf1 := OB6.f1
     have n2 := OB6.k2
     have nf2 := OB6.f2
     have n3 := OB6.k3
     have nf3 := OB6.f3
     have nz := OB6.lt
     go_wp2_with fail
     generalize hS : World.setCell (World.setCell (World.setCell (World.setCell w6 _ _) _ _) _ _) _ _ = W4
     obtain ⟨O4, T4⟩ := own4b OZ6 (.slice a0 (baseF (cmp 40) x).classes.length c0) (.slice a1 (baseF (cmp 40) x).codes.length c1) (.slice a2 (baseF (cmp 40) x).entries.length c2) (.int .i64 (baseF (cmp 40) x).main)
     rw [hS] at O4 T4
     clear hS z0 zf0 z1 zf1 z2 zf2 z3 zf3 zz n0 nf0 n1 nf1 n2 nf2 n3 nf3 nz OZ6 OB6
     have p0 := O4.k0
     have p1 := O4.k1
     have p2 := O4.k2
     have p3 := O4.k3
     have pz := O4.lt
     have hge : ∀ j, j ∈ fp4 -> j ∉ [w.heap.size + 1] := fun j hj hm => by
      have h1 := R6.out.2.ge j hj
      have h2 := HS3.out
      have := List.mem_singleton.1 hm
      omega
     have FIN : GivesB w (compV x) (prB (SysP x /\ BaseOk (baseF (cmp 40) x))) (.returned (.tuple #[.agg #[.slice a0 (baseF (cmp 40) x).classes.length c0, .slice a1 (baseF (cmp 40) x).codes.length c1, .slice a2 (baseF (cmp 40) x).entries.length c2, .int .i64 (baseF (cmp 40) x).main], .bool true])) W4 := by rw [HPF.out]; exact ⟨_, fp4, rfl, by rw [HV.out]; exact R6.out.1.touch T4 hge, (R6.out.2.touch T4 hge).mono (by have := HS3.out; omega), Touch.ext HX6.out T4 (fun j hj => by have := List.mem_singleton.1 hj; omega)⟩
     exact bodyPost_ret (v := .tuple #[.agg #[.slice a0 (baseF (cmp 40) x).classes.length c0, .slice a1 (baseF (cmp 40) x).codes.length c1, .slice a2 (baseF (cmp 40) x).entries.length c2, .int .i64 (baseF (cmp 40) x).main], .bool true]) (by simp [results, Tryz.results5, go_sem, p0, p1, p2, p3, pz]) rfl FIN
theorem impl_CompileSystem_any (x : MSystem) (cx : List Value) (w : World) (rx : Rep w x.d cx) (hz : SysSz x) (hM : MaxOk w) : Calls Tryz.prog 7 #[.agg cx.toArray] w (GivesB w (compV x) (prB (SysP x /\ BaseOk (baseF (cmp 40) x)))) :=
 impl_CompileSystem_of (LH fun x cx w rx hz hM => impl_IsSystem_any x cx w rx hz hM) x cx w rx hz hM
theorem spec_CompileSystem_any (x : MSystem) (cx : List Value) (w : World) (rx : Rep w x.d cx) (hz : SysSz x) : Calls Tryz.prog 5 #[.agg cx.toArray] w (GivesB w (compV x) (prB (SysP x /\ BaseOk (baseF (cmp 40) x)))) :=
 spec_CompileSystem_of (LH fun x cx w rx hz => spec_IsSystem_any x cx w rx hz) x cx w rx hz
end Go.Proofs.YtlaclfeljimffaaGreatDoor
