/-
  CONTRACTS: the reference's routines.
  Conditions: those that each lemma states.
-/
import Derived.Test.YtlaclfeljimffaaGreatDoorRows
import Derived.Test.YtlaclfeljimffaaGreatDoorP24
import Derived.Test.YtlaclfeljimffaaGreatDoorP28
namespace Go.Proofs.YtlaclfeljimffaaGreatDoor
open Go.RowKit
set_option maxHeartbeats 8000000
set_option maxRecDepth 100000
set_option linter.unusedSimpArgs false
set_option linter.unusedVariables false
def QS (r : List Value) : Prop := ∃ c1 c2 c3 c4 : Value, r = [c1, c2, c3, c4, .bool false]
theorem srout_at {f : CF} (hf : Few f) {R : MRoutine} (HN0 : NodeS f R.body) {cs : List Value} {w0 : World} (w : World) {B0 sb : Nat} {L : List Nat} {m : Rw} {codes : List MCode} (rc : Rep w0 R.d cs) (hx : Ext w0 w) (hB : w0.heap.size <= B0) (OP : ∃ r, QS r /\ Own w sb 90 (m.vc :: r).toArray) (R0 : RowsC B0 L m w (codes, [])) (hvl : m.vl = .slice none 0 0) (hsb : sb ∈ L) (hr : Room (codes, []) (R.body.nodes + 1)) :
 Calls Tryz.prog 46 #[.pointer (some ⟨sb, 0, none⟩), .agg cs.toArray] w (fun e w' => ∃ m', e = .returned (.int .i64 ((codeF f false R.params R.slots R.body codes).length - 1 : Nat)) /\ m'.vl = m.vl /\ (∃ r, QS r /\ Own w' sb 90 (m'.vc :: r).toArray) /\ RowsC B0 L m' w' (codeF f false R.params R.slots R.body codes, []) /\ Touch w w' (sb :: m.vc.ownBlock.toList)) := by
 obtain ⟨aa, cc, rfl, -, rb⟩ := MRoutine.op_en rc
 obtain ⟨_, ⟨c1, c2, c3, c4, rfl⟩, O0⟩ := OP
 have HN := LH HN0
 have HRM := LH hr
 have HF := LH hf
 have HR0 := LH R0
 have HRB := LH rb
 have hsz := (R0.base sb hsb).2
 have hsB := (R0.base sb hsb).1
 clear HN0 hr hf R0 rb rc
 have HCD : Hid (codeF f false R.params R.slots R.body codes = (pt (f R.body (codes, [])) (iO 19)).1 ++ [⟨false, R.params, R.slots, (pt (f R.body (codes, [])) (iO 19)).2⟩]) := LH rfl
 generalize codeF f false R.params R.slots R.body codes = CD at HCD ⊢
 go_enter Tryz.func46, Tryz.ntmps46
 go_upto_region 1 with fail
 generalize hS : World.alloc w _ = W1
 have x1 : Ext w W1 := by rw [<- hS]; exact (XR _).alloc _
 have OR : Own W1 w.heap.size 44 #[.string R.selector, .int .i64 R.owner, .bool R.cls, .int .i64 R.params, .int .i64 R.slots, .int .i64 R.body.kind, .string R.body.text, .int .i64 R.body.number, .int .i64 R.body.depth, .slice aa R.body.kids.length cc] := by rw [<- hS]; exact own_new w _ _
 have O1 := O0.ext x1
 clear hS O0
 have q0 := OR.k0
 have qf0 := OR.f0
 have q1 := OR.k1
 have qf1 := OR.f1
 have q2 := OR.k2
 have qf2 := OR.f2
 have q3 := OR.k3
 have qf3 := OR.f3
 have q4 := OR.k4
 have qf4 := OR.f4
 have q5 := OR.k5
 have qf5 := OR.f5
 have q6 : W1.cell? ⟨w.heap.size, 6, none⟩ = some (.string R.body.text) := OR.cell 6
 have qf6 := OR.frozen 6
 have q7 : W1.cell? ⟨w.heap.size, 7, none⟩ = some (.int .i64 R.body.number) := OR.cell 7
 have qf7 := OR.frozen 7
 have q8 : W1.cell? ⟨w.heap.size, 8, none⟩ = some (.int .i64 R.body.depth) := OR.cell 8
 have qf8 := OR.frozen 8
 have q9 : W1.cell? ⟨w.heap.size, 9, none⟩ = some (.slice aa R.body.kids.length cc) := OR.cell 9
 have qf9 := OR.frozen 9
 have qz := OR.lt
 have z0 := O1.k0
 have zf0 := O1.f0
 have z1 := O1.k1
 have zf1 := O1.f1
 have z2 := O1.k2
 have zf2 := O1.f2
 have z3 := O1.k3
 have zf3 := O1.f3
 have z4 := O1.k4
 have zf4 := O1.f4
 have z5 := O1.k5
 have zf5 := O1.f5
 have zz := O1.lt
 go_upto_region 2 with fail
 generalize hS : World.setCell _ _ _ = W3
 have T3 : Touch W1 W3 [sb] := by rw [<- hS]; exact ((((Touch.of_ext (XR _) _).setCell (by simp) _).setCell (by simp) _).setCell (by simp) _).setCell (by simp) _
 have OS3 : Own W3 sb 90 #[m.vc, .bool false, .int .i64 R.params, .int .i64 R.slots, .slice none 0 0, .bool false] := by rw [<- hS]; exact (((O1.set 1 _).set 2 _).set 3 _).set 4 _
 have OR3 := OR.touch' T3 (by simp only [List.mem_singleton]; omega)
 have HR1 := LH (HR0.out.touch (Touch.of_ext x1 []) (fun k hk => nomatch hk))
 have HS3 : Hid (StS B0 sb (false, R.params, R.slots) ⟨.slice none 0 0, m.vc, m.fp⟩ W3 (codes, [])) := LH ⟨OS3, HR1.out.inner_s hsb T3⟩
 have hx3 : Ext w0 W3 := Touch.ext (hx.trans x1) T3 (fun k hk => by obtain rfl := List.mem_singleton.1 hk; omega)
 clear hS q0 qf0 q1 qf1 q2 qf2 q3 qf3 q4 qf4 q5 qf5 q6 qf6 q7 qf7 q8 qf8 q9 qf9 qz z0 zf0 z1 zf1 z2 zf2 z3 zf3 z4 zf4 z5 zf5 zz OR O1 OS3
 have q0 := OR3.k0
 have qf0 := OR3.f0
 have q1 := OR3.k1
 have qf1 := OR3.f1
 have q2 := OR3.k2
 have qf2 := OR3.f2
 have q3 := OR3.k3
 have qf3 := OR3.f3
 have q4 := OR3.k4
 have qf4 := OR3.f4
 have q5 := OR3.k5
 have qf5 := OR3.f5
 have q6 : W3.cell? ⟨w.heap.size, 6, none⟩ = some (.string R.body.text) := OR3.cell 6
 have qf6 := OR3.frozen 6
 have q7 : W3.cell? ⟨w.heap.size, 7, none⟩ = some (.int .i64 R.body.number) := OR3.cell 7
 have qf7 := OR3.frozen 7
 have q8 : W3.cell? ⟨w.heap.size, 8, none⟩ = some (.int .i64 R.body.depth) := OR3.cell 8
 have qf8 := OR3.frozen 8
 have q9 : W3.cell? ⟨w.heap.size, 9, none⟩ = some (.slice aa R.body.kids.length cc) := OR3.cell 9
 have qf9 := OR3.frozen 9
 have qz := OR3.lt
 go_wp2_with fail
 refine (HN.out _ w0 W3 B0 sb (false, R.params, R.slots) _ _ HRB.out hx3 hB HS3.out (HRM.out.mono (by omega))).mono ?_
 rintro e w5 ⟨m5, rfl, h5, k5⟩
 have HS5 := LH h5
 have HM5 := LH k5
 clear h5 k5 HS3 OR3 q0 qf0 q1 qf1 q2 qf2 q3 qf3 q4 qf4 q5 qf5 q6 qf6 q7 qf7 q8 qf8 q9 qf9 qz
 go_wp2_with fail
 refine (sop_any 19 w5 HS5.out (by have := (HRM.out.adds (n := R.body.nodes) ((HF.out R.body (codes, [])).adds)).1; omega)).mono ?_
 rintro e w6 ⟨m6, rfl, h6, k6⟩
 have hrt : (pt (f R.body (codes, [])) (iO 19)).1.length <= 1000000 := by have := ((HRM.out.adds (n := R.body.nodes) ((HF.out R.body (codes, [])).adds)).mono (Nat.zero_le _)).2; simpa [pt] using this
 generalize pt (f R.body (codes, [])) (iO 19) = t at *
 have HS6 := LH h6
 have HM6 := LH (HM5.out.trans k6)
 clear h6 k6 HS5 HM5
 have O6 := HS6.out.1
 obtain ⟨ao, cap, gp, hvl6, hrp, hfr, hgp⟩ := AccI.rep HS6.out.2.li
 have z0 := O6.k0
 have zf0 := O6.f0
 have z1 := O6.k1
 have zf1 := O6.f1
 have z2 := O6.k2
 have zf2 := O6.f2
 have z3 := O6.k3
 have zf3 := O6.f3
 have z4 := O6.k4
 have zf4 := O6.f4
 have z5 := O6.k5
 have zf5 := O6.f5
 have zz := O6.lt
 rw [hvl6] at z4
 have XA : Hid (Ext w6 (w6.alloc (.cells #[.bool false, .int .i64 R.params, .int .i64 R.slots, .slice ao t.2.length cap] 88)).drew) := LH (Ext.drew ((XR _).alloc _))
 have HFK := LH (HS6.out.freshK hfr hgp XA.out)
 have HGP := LH hgp
 have HDL : Hid ((t.1.map MCode.d).length = t.1.length) := LH (by simp)
 have E1 : Hid (Acc B0 (w6.alloc (.cells #[.bool false, .int .i64 R.params, .int .i64 R.slots, .slice ao t.2.length cap] 88)).drew 88 4 m6.vc (t.1.map MCode.d) m6.fp) := LH (Acc.ext HS6.out.2.lc XA.out)
 have HDS : Hid ((t.1 ++ [(⟨false, R.params, R.slots, t.2⟩ : MCode)]).map MCode.d = t.1.map MCode.d ++ [(⟨false, R.params, R.slots, t.2⟩ : MCode).d]) := LH (by simp)
 generalize t.1.map MCode.d = DS at *
 have E2 : Hid (RepF (w6.alloc (.cells #[.bool false, .int .i64 R.params, .int .i64 R.slots, .slice ao t.2.length cap] 88)).drew (.sl 4 [(⟨false, R.params, R.slots, t.2⟩ : MCode).d]) [.slice (some ⟨w6.heap.size, 0, none⟩) 1 1] (w6.heap.size :: gp)) := LH (RepF.code_row (x := ⟨false, R.params, R.slots, t.2⟩) (hrp.ext XA.out) ((own_new w6 #[.bool false, .int .i64 R.params, .int .i64 R.slots, .slice ao t.2.length cap] 88).ext (Ext.drew (XR _))))
 have hb1 : B0 <= (w6.alloc (.cells #[.bool false, .int .i64 R.params, .int .i64 R.slots, .slice ao t.2.length cap] 88)).drew.heap.size := by have := XA.out.size; have := (HS6.out.2.base sb (by simp)); omega
 have OPA : Hid (Own (w6.alloc (.cells #[.bool false, .int .i64 R.params, .int .i64 R.slots, .slice ao t.2.length cap] 88)).drew sb 90 #[m6.vc, .bool false, .int .i64 R.params, .int .i64 R.slots, m6.vl, .bool false]) := LH (O6.ext XA.out)
 have HOB : Hid (∀ k, m6.vc.ownBlock = some k -> k ≠ sb) := LH fun k hk e => (HS6.out.2.box sb (by simp)).1 (by rw [<- e]; exact Rw.mem_own.2 (Or.inr hk))
 clear hrp hfr hgp O6
 obtain ⟨i0, hi, hz0, hz1, hz2⟩ := info_parts codeInfo
 go_upto_region 4 with fail
 go_region_law ((refine step_append_at rfl _ _ 33 rfl B0 88 i0 _ 4 48 Tryz.underlying33 hi hz0 hz1 hz2 rfl (by decide) m6.vc DS m6.fp rfl E1.out [(⟨false, R.params, R.slots, t.2⟩ : MCode).d] _ 1 1 (w6.heap.size :: gp) rfl E2.out HFK.out.1 HFK.out.2 (by have := HDL.out; unfold maxLen; omega) (by have := HDL.out; omega) hb1 ?_; intro a7 k7 w7 ac hg hloc; have TG : Touch _ w7 m6.vc.ownBlock.toList := (Touch.of_ext (XR _) _).grown hg (fun j hj => Or.inl (by simp [hj])); have O7 := OPA.out.touch' TG (fun hm => HOB.out sb (by simpa using hm) rfl); have c7 := O7.cell 0; have f7 := O7.f0; have z7 := O7.lt))
 all_goals
  have hl := HDL.out
  generalize hv1 : Value.slice a7 (DS.length + 1) k7 = v1 at *
  have HV1 := LH hv1
  have HA : AccK B0 w7 v1 (t.1 ++ [⟨false, R.params, R.slots, t.2⟩]) (m6.fp ++ gp) := by unfold AccK; rw [HDS.out]; exact ac
  rw [<- HCD.out] at HA
  have O9 := O7.set 0 v1
  have T9 : Touch w7 (w7.setCell ⟨sb, 0, none⟩ v1) [sb] := (Touch.of_ext (XR _) _).setCell (by simp) _
  generalize hS : World.setCell w7 _ v1 = W9 at *
  obtain ⟨R9, -, T10⟩ := HR1.out.coded_s hsb T3 HS6.out HM6.out XA.out TG HA hloc HGP.out T9
  have FIN : Hid (∃ m', m'.vl = m.vl /\ (∃ r, QS r /\ Own W9 sb 90 (m'.vc :: r).toArray) /\ RowsC B0 L m' W9 (CD, []) /\ Touch w W9 (sb :: m.vc.ownBlock.toList)) := LH ⟨⟨m.vl, v1, m6.fp ++ gp⟩, rfl, ⟨[.bool false, .int .i64 R.params, .int .i64 R.slots, m6.vl, .bool false], ⟨_, _, _, _, rfl⟩, O9⟩, R9, (Touch.of_ext x1 _).trans T10⟩
  have n0 : W9.cell? ⟨sb, 0, none⟩ = some (.slice a7 (DS.length + 1) k7) := by rw [HV1.out]; exact O9.cell 0
  have nz := O9.lt
  have hcl : CD.length - 1 = t.1.length := by rw [HCD.out]; simp
  clear hS c7 f7 z7 O7 hi hz0 hz1 hz2 z0 zf0 z1 zf1 z2 zf2 z3 zf3 z4 zf4 z5 zf5 zz hv1 HV1 R9 T10 T9 HA TG ac hg hloc O9
  go_wp2_with fail
  go_ret
  obtain ⟨m', f1, f2, f3, f4⟩ := FIN.out
  exact ⟨m', by rw [hcl]; first | rfl | (simp [hl]; done) | (simp [hl]; omega) | skip, f1, f2, f3, f4⟩
theorem scompile_at (x : MSystem) (cx : List Value) (w : World) (pb : Nat) (rx : Rep w x.d cx) (OSX : Own w pb 46 cx.toArray) (HS : Hid (SysP x)) :
 Calls Tryz.prog 17 #[.pointer (some ⟨pb, 0, none⟩)] w (GivesC w (baseF (cmp 40) x)) := by
 obtain ⟨ac, cc, ar, cr, am, cm, rfl, rc, rr, -, rm⟩ := MSystem.op_en rx
 obtain ⟨am2, cm2, e9, -, rb⟩ := MRoutine.op_en rm
 simp only [List.cons.injEq, true_and, and_true, Value.slice.injEq] at e9
 obtain ⟨rfl, rfl⟩ := e9
 obtain ⟨ao, ca, ba, oa, e1, hla, hma, pa, hra⟩ := Rep.slmap rr
 simp only [List.cons.injEq, and_true, Value.slice.injEq, List.length_map] at e1
 obtain ⟨rfl, -, rfl⟩ := e1
 unfold maxLen at hma
 have RC := LH rc
 have RB := LH rb
 have RMH := LH rm
 have HRA := LH hra
 have HPA := LH pa
 clear rx rc rr rm rb hra pa
 go_enter Tryz.func17, Tryz.ntmps17
 go_upto_region 1 with fail
 generalize hS : World.alloc w _ = W2
 have x2 : Ext w W2 := by rw [<- hS]; exact (XR _).alloc _
 have OSB : Own W2 pb 46 #[.slice ac x.classes.length cc, .slice ar x.routines.length cr, .string x.main.selector, .int .i64 x.main.owner, .bool x.main.cls, .int .i64 x.main.params, .int .i64 x.main.slots, .int .i64 x.main.body.kind, .string x.main.body.text, .int .i64 x.main.body.number, .int .i64 x.main.body.depth, .slice am x.main.body.kids.length cm] := OSX.ext x2
 have OZ : Own W2 w.heap.size 36 #[.slice none 0 0, .slice none 0 0, .slice none 0 0, .int .i64 0] := by rw [<- hS]; exact own_new w _ _
 have HS2 : Hid (W2.heap.size = w.heap.size + 1) := LH (by rw [<- hS]; simp)
 clear hS OSX
 go_upto_region 2 with fail
 generalize hS : World.alloc W2 _ = W3
 have x3 : Ext W2 W3 := by rw [<- hS]; exact (XR _).alloc _
 have OP : Own W3 W2.heap.size 90 #[.slice none 0 0, .bool false, .int .i64 0, .int .i64 0, .slice none 0 0, .bool false] := by rw [<- hS]; exact own_new W2 _ _
 have hs3 := OP.lt
 clear hS
 have OSB3 := OSB.ext x3
 have s0 := OSB3.k0
 have sz := OSB3.lt
 go_wp2_with fail
 refine (scopy_at x.classes HS.out.clsF.1 (LH HS.out.clsF.2) _ w W3 RC.out (x2.trans x3)).mono ?_
 rintro e w4 ⟨a4, c4, g4, rfl, hr4, hf4, hx4⟩
 have H4 := LH hr4
 have F4 := LH hf4
 clear hr4 hf4 s0 sz OSB3
 go_upto_region 3 with fail
 generalize hS : World.alloc w4 _ = W5
 have x5 : Ext w4 W5 := by rw [<- hS]; exact (XR _).alloc _
 have OB : Own W5 w4.heap.size 36 #[.slice a4 x.classes.length c4, .slice none 0 0, .slice none 0 0, .int .i64 0] := by rw [<- hS]; exact own_new w4 _ _
 clear hS
 have hs4 := hx4.size
 have HC0 : Hid (CompS 90 QS W2.heap.size W2.heap.size w4.heap.size g4 (.slice a4 x.classes.length c4) (.slice none 0 0) ⟨.slice none 0 0, .slice none 0 0, []⟩ W2 W5 x.classes ([], [])) := LH (CompS.start ⟨[.bool false, .int .i64 0, .int .i64 0, .slice none 0 0, .bool false], ⟨_, _, _, _, rfl⟩, OP.ext (hx4.trans x5)⟩ OB (H4.out.ext x5) ((F4.out.mono (Nat.le_of_lt hs3)).ext x5) (fun hm => by have := F4.out.ge _ hm; omega) (fun hm => by have := F4.out.lt hm; omega) (by omega) (Nat.le_refl _) (by omega) ((x3.trans hx4).trans x5) (Nat.le_refl _))
 have x25 : Ext W2 W5 := (x3.trans hx4).trans x5
 generalize w4.heap.size = bb at *
 clear x3 hx4 x5 OB OP H4 F4 hs3 hs4
 have OSB5 := OSB.ext x25
 have s1 := OSB5.k1
 have sz := OSB5.lt
 go_wp2_with fail
 go_loopw [5] (fun iv wr => ∃ (k : Nat) (m : Rw) (ve : Value), k <= x.routines.length /\ iv = .int .i64 k /\ Hid (CompS 90 QS W2.heap.size W2.heap.size bb g4 (.slice a4 x.classes.length c4) ve m W2 wr x.classes (routsF (cmp 40) (x.routines.take k)))) (fun iv _ => x.routines.length - (intOf iv).toNat)
 case atStart => exact ⟨0, _, _, Nat.zero_le _, rfl, HC0⟩
 case round =>
  obtain ⟨k, m, ve, hk, rfl, HC⟩ := hrel
  clear s1 sz OSB5
  have OSBr := OSB.ext HC.out.ext
  have s1 := OSBr.k1
  have sz := OSBr.lt
  by_cases hlt : k < x.routines.length
  · obtain rfl := HPA.out (by omega)
    obtain ⟨ea, la, cl, ra⟩ := HRA.out k x.routines[k] (by simp [hlt])
    obtain ⟨hnd, K0, F0, hok⟩ := HS.out.rout (List.getElem_mem hlt)
    obtain ⟨hl1, hl2⟩ := routsF_len (cmp_few 40) (l := x.routines) (fun r hr => (HS.out.rout hr).1) k hk
    have h96 := HS.out.2.2.2.1
    have HSC : Hid (routsF (cmp 40) (x.routines.take (k + 1)) = routF (cmp 40) (routsF (cmp 40) (x.routines.take k)) x.routines[k]) := LH (routsF_succ _ hlt)
    generalize routsF (cmp 40) (x.routines.take k) = st at HC HSC hl1 hl2
    generalize x.routines[k] = R at *
    obtain ⟨a2, c2, rfl, -, -⟩ := MRoutine.op_en ra
    have HRB := LH (Rep.ext x2 ra)
    have HND := LH (And.intro hnd (And.intro hl1 (And.intro hl2 h96)))
    have HOK : Hid (NodeS (cmp 40) R.body) := LH (snode_at 40 hok)
    have hxr := x2.trans HC.out.ext
    have t0 : wr.cell? ⟨ba, oa + k * 10, none⟩ = some (.string R.selector) := hxr.cell (cl 0 (by omega))
    have t1 : wr.cell? ⟨ba, oa + k * 10 + 1, none⟩ = some (.int .i64 R.owner) := hxr.cell (cl 1 (by omega))
    have t2 : wr.cell? ⟨ba, oa + k * 10 + 2, none⟩ = some (.bool R.cls) := hxr.cell (cl 2 (by omega))
    have t3 : wr.cell? ⟨ba, oa + k * 10 + 3, none⟩ = some (.int .i64 R.params) := hxr.cell (cl 3 (by omega))
    have t4 : wr.cell? ⟨ba, oa + k * 10 + 4, none⟩ = some (.int .i64 R.slots) := hxr.cell (cl 4 (by omega))
    have t5 : wr.cell? ⟨ba, oa + k * 10 + 5, none⟩ = some (.int .i64 R.body.kind) := hxr.cell (cl 5 (by omega))
    have t6 : wr.cell? ⟨ba, oa + k * 10 + 6, none⟩ = some (.string R.body.text) := hxr.cell (cl 6 (by omega))
    have t7 : wr.cell? ⟨ba, oa + k * 10 + 7, none⟩ = some (.int .i64 R.body.number) := hxr.cell (cl 7 (by omega))
    have t8 : wr.cell? ⟨ba, oa + k * 10 + 8, none⟩ = some (.int .i64 R.body.depth) := hxr.cell (cl 8 (by omega))
    have t9 : wr.cell? ⟨ba, oa + k * 10 + 9, none⟩ = some (.slice a2 R.body.kids.length c2) := hxr.cell (cl 9 (by omega))
    clear cl la ra hok hnd hl1 hl2 h96
    go_upto_region 7 with fail
    generalize hS : World.alloc wr _ = W6
    have x6 : Ext wr W6 := by rw [<- hS]; exact (XR _).alloc _
    have OR : Own W6 wr.heap.size 44 #[.string R.selector, .int .i64 R.owner, .bool R.cls, .int .i64 R.params, .int .i64 R.slots, .int .i64 R.body.kind, .string R.body.text, .int .i64 R.body.number, .int .i64 R.body.depth, .slice a2 R.body.kids.length c2] := by rw [<- hS]; exact own_new wr _ _
    have HC6 := LH (HC.out.after x6)
    have hcbr := (HC.out.rows.base W2.heap.size (by simp)).2
    have hor : Hid (∀ j, m.vc.ownBlock = some j -> j < wr.heap.size) := LH fun j hj => (Acc.ge HC.out.rows.lc hj).2
    have hbbr := HC.out.bx.lt
    have hvr : Hid (∀ j, ve.ownBlock = some j -> j < wr.heap.size) := LH fun j hj => (Acc.ge HC.out.es hj).2
    clear hS HC x6 t0 t1 t2 t3 t4 t5 t6 t7 t8 t9 s1 sz OSBr
    have q0 := OR.k0
    have qf0 := OR.f0
    have q1 := OR.k1
    have qf1 := OR.f1
    have q2 := OR.k2
    have qf2 := OR.f2
    have q3 := OR.k3
    have qf3 := OR.f3
    have q4 := OR.k4
    have qf4 := OR.f4
    have q5 := OR.k5
    have qf5 := OR.f5
    have q6 : W6.cell? ⟨wr.heap.size, 6, none⟩ = some (.string R.body.text) := OR.cell 6
    have qf6 := OR.frozen 6
    have q7 : W6.cell? ⟨wr.heap.size, 7, none⟩ = some (.int .i64 R.body.number) := OR.cell 7
    have qf7 := OR.frozen 7
    have q8 : W6.cell? ⟨wr.heap.size, 8, none⟩ = some (.int .i64 R.body.depth) := OR.cell 8
    have qf8 := OR.frozen 8
    have q9 : W6.cell? ⟨wr.heap.size, 9, none⟩ = some (.slice a2 R.body.kids.length c2) := OR.cell 9
    have qf9 := OR.frozen 9
    have qz := OR.lt
    have HRM : Hid (Room (st.1, []) (R.body.nodes + 1)) := LH ⟨by have := HND.out; show 0 + _ <= _; omega, by have := HND.out; show st.1.length + _ <= _; omega⟩
    have HCD : Hid (routF (cmp 40) st R = (codeF (cmp 40) false R.params R.slots R.body st.1, st.2 ++ [⟨R.owner, R.cls, R.selector, ((codeF (cmp 40) false R.params R.slots R.body st.1).length - 1 : Nat)⟩])) := LH rfl
    have HCA := LH (fun (W : World) (hW : Ext W6 W) => srout_at (cmp_few 40) HOK.out W HRB.out ((HC6.out.after hW).ext) (Nat.le_refl _) (HC6.out.after hW).st (HC6.out.after hW).rows HC6.out.vl (by simp) HRM.out)
    have hcl := codeF_len (cmp_few 40) false R.params R.slots R.body st.1
    generalize codeF (cmp 40) false R.params R.slots R.body st.1 = CD at HCD HCA hcl
    have HDL : Hid ((st.2.map MEntry.d).length = st.2.length) := LH (by simp)
    have HDS : Hid ((st.2 ++ [(⟨R.owner, R.cls, R.selector, (CD.length - 1 : Nat)⟩ : MEntry)]).map MEntry.d = st.2.map MEntry.d ++ [(⟨R.owner, R.cls, R.selector, (CD.length - 1 : Nat)⟩ : MEntry).d]) := LH (by simp)
    have HDE : Hid (∃ l, st.2.map MEntry.d = l) := LH ⟨_, rfl⟩
    obtain ⟨DS, hDS⟩ := HDE.out
    rw [hDS] at HDL HDS
    have HDX := LH hDS
    clear hDS HDE
    have OB6 := HC6.out.bx
    have HVB2 : Hid (wr.heap.size ≠ bb) := LH (by have := hbbr; omega)
    have y2 := OB6.k2
    have yz := OB6.lt
    obtain ⟨i0, hi, hz0, hz1, hz2⟩ := info_parts entInfo
    have HI := LH (And.intro hi (And.intro hz0 (And.intro hz1 hz2)))
    clear hi hz0 hz1 hz2
    have KS6 : Hid (∀ w'', Ext W6 w'' -> w''.cell? ⟨wr.heap.size, 0, none⟩ = some (.string R.selector) /\ w''.cell? ⟨wr.heap.size, 1, none⟩ = some (.int .i64 R.owner) /\ w''.cell? ⟨wr.heap.size, 2, none⟩ = some (.bool R.cls) /\ w''.cell? ⟨wr.heap.size, 3, none⟩ = some (.int .i64 R.params) /\ w''.cell? ⟨wr.heap.size, 4, none⟩ = some (.int .i64 R.slots) /\ w''.cell? ⟨wr.heap.size, 5, none⟩ = some (.int .i64 R.body.kind) /\ w''.cell? ⟨wr.heap.size, 6, none⟩ = some (.string R.body.text) /\ w''.cell? ⟨wr.heap.size, 7, none⟩ = some (.int .i64 R.body.number) /\ w''.cell? ⟨wr.heap.size, 8, none⟩ = some (.int .i64 R.body.depth) /\ w''.cell? ⟨wr.heap.size, 9, none⟩ = some (.slice a2 R.body.kids.length c2)) := LH fun w'' h => ⟨h.cell q0, h.cell q1, h.cell q2, h.cell q3, h.cell q4, h.cell q5, h.cell q6, h.cell q7, h.cell q8, h.cell q9⟩
    refine wp_region_held_drew (S := fun w'' => w''.cell? ⟨wr.heap.size, 0, none⟩ = some (.string R.selector) /\ w''.cell? ⟨wr.heap.size, 1, none⟩ = some (.int .i64 R.owner) /\ w''.cell? ⟨wr.heap.size, 2, none⟩ = some (.bool R.cls) /\ w''.cell? ⟨wr.heap.size, 3, none⟩ = some (.int .i64 R.params) /\ w''.cell? ⟨wr.heap.size, 4, none⟩ = some (.int .i64 R.slots) /\ w''.cell? ⟨wr.heap.size, 5, none⟩ = some (.int .i64 R.body.kind) /\ w''.cell? ⟨wr.heap.size, 6, none⟩ = some (.string R.body.text) /\ w''.cell? ⟨wr.heap.size, 7, none⟩ = some (.int .i64 R.body.number) /\ w''.cell? ⟨wr.heap.size, 8, none⟩ = some (.int .i64 R.body.depth) /\ w''.cell? ⟨wr.heap.size, 9, none⟩ = some (.slice a2 R.body.kids.length c2)) (by kernel_rfl) (KS6.out _ (Ext.drew (XR _))) (fun hHeld => ?_)
    refine wpAnyH_take (i := 0) (v := ?v6) rfl (by kernel_rfl) (by kernel_rfl) (by kernel_rfl) (fun _ _ _ h => h) (Or.inl ⟨by rfl, ?hy6⟩) (by assumption) ?rest6
    case hy6 => (intro w hSw; (try dsimp only at hSw); go_simp; try with_reducible rfl)
    try simp only [Act.put, List.setIfInBounds_toArray, List.set_cons_zero, List.set_cons_succ]
    refine wpAnyH_take (i := 2) (v := ?v7) rfl (by kernel_rfl) (by kernel_rfl) (by kernel_rfl) (fun _ _ _ h => h) (Or.inl ⟨by rfl, ?hy7⟩) (by assumption) ?rest7
    case hy7 => (intro w hSw; (try dsimp only at hSw); go_simp; try with_reducible rfl)
    try simp only [Act.put, List.setIfInBounds_toArray, List.set_cons_zero, List.set_cons_succ]
    refine wpAnyH_take (i := 3) (v := ?v8) rfl (by kernel_rfl) (by kernel_rfl) (by kernel_rfl) (fun _ _ _ h => h) (Or.inl ⟨by rfl, ?hy8⟩) (by assumption) ?rest8
    case hy8 => (intro w hSw; (try dsimp only at hSw); go_simp; try with_reducible rfl)
    try simp only [Act.put, List.setIfInBounds_toArray, List.set_cons_zero, List.set_cons_succ]
    refine wpAnyH_take (i := 4) (v := ?v9) rfl (by kernel_rfl) (by kernel_rfl) (by kernel_rfl) (fun _ _ _ h => h) (Or.inl ⟨by rfl, ?hy9⟩) (by assumption) ?rest9
    case hy9 => (intro w hSw; (try dsimp only at hSw); go_simp; try with_reducible rfl)
    try simp only [Act.put, List.setIfInBounds_toArray, List.set_cons_zero, List.set_cons_succ]
    refine wpAnyH_take (i := 5) (v := ?v10) rfl (by kernel_rfl) (by kernel_rfl) (by kernel_rfl) (fun _ _ _ h => h) (Or.inl ⟨by rfl, ?hy10⟩) (by assumption) ?rest10
    case hy10 => (intro w hSw; (try dsimp only at hSw); go_simp; try with_reducible rfl)
    try simp only [Act.put, List.setIfInBounds_toArray, List.set_cons_zero, List.set_cons_succ]
    refine wpAnyH_take (i := 6) (v := ?v11) rfl (by kernel_rfl) (by kernel_rfl) (by kernel_rfl) (fun _ _ _ h => h) (Or.inl ⟨by rfl, ?hy11⟩) (by assumption) ?rest11
    case hy11 => (intro w hSw; (try dsimp only at hSw); go_simp; try with_reducible rfl)
    try simp only [Act.put, List.setIfInBounds_toArray, List.set_cons_zero, List.set_cons_succ]
    refine wpAnyH_take (i := 7) (v := ?v12) rfl (by kernel_rfl) (by kernel_rfl) (by kernel_rfl) (fun _ _ _ h => h) (Or.inl ⟨by rfl, ?hy12⟩) (by assumption) ?rest12
    case hy12 => (intro w hSw; (try dsimp only at hSw); go_simp; try with_reducible rfl)
    try simp only [Act.put, List.setIfInBounds_toArray, List.set_cons_zero, List.set_cons_succ]
    refine wpAnyH_take (i := 8) (v := ?v13) rfl (by kernel_rfl) (by kernel_rfl) (by kernel_rfl) (fun _ _ _ h => h) (Or.inl ⟨by rfl, ?hy13⟩) (by assumption) ?rest13
    case hy13 => (intro w hSw; (try dsimp only at hSw); go_simp; try with_reducible rfl)
    try simp only [Act.put, List.setIfInBounds_toArray, List.set_cons_zero, List.set_cons_succ]
    refine wpAnyH_ready (rs := [1, 9]) (by kernel_rfl) (by simp) ?_
    refine AllReadyH.cons rfl (fun K hK => ?_) ?_
    · go_simp
      refine hK.out _ _ (KS6.out _ (Ext.drew (XR _))) (fun hHeld => ?_)
      clear hK K
      (try simp only [Act.put, List.setIfInBounds_toArray, List.set_cons_zero, List.set_cons_succ])
      refine wpAnyH_ready (rs := [9]) (by kernel_rfl) (by simp) ?_
      refine AllReadyH.cons rfl (fun K hK => ?_) ?_
      · go_simp
        go_wp2_with ((refine (HCA.out _ (Ext.drew (XR _))).mono ?_; rintro e w7 ⟨m7, rfl, hvl7, O7, R7, T7⟩))
        have HC7 := LH ((HC6.out.after (Ext.drew (XR _))).touch O7 hvl7 R7 T7)
        have OR7 := (OR.ext (Ext.drew (XR _))).touch' T7 (fun hm => (List.mem_cons.1 hm).elim (fun e => by omega) (fun hm => by have := hor.out _ (by simpa using hm); omega))
        have OB7 := HC7.out.bx
        have y27 := OB7.k2
        have yz7 := OB7.lt
        have E1 := LH (Acc.ext HC7.out.es ((XR w7).alloc (.cells #[.int .i64 R.owner, .bool R.cls, .string R.selector, .int .i64 (CD.length - 1 : Nat)] 95)))
        rw [HDX.out] at E1
        have E2 : Hid (RepF (w7.alloc (.cells #[.int .i64 R.owner, .bool R.cls, .string R.selector, .int .i64 (CD.length - 1 : Nat)] 95)) (.sl 4 [(⟨R.owner, R.cls, R.selector, (CD.length - 1 : Nat)⟩ : MEntry).d]) [.slice (some ⟨w7.heap.size, 0, none⟩) 1 1] [w7.heap.size]) := LH (ent_row (x := ⟨R.owner, R.cls, R.selector, (CD.length - 1 : Nat)⟩) (own_new w7 _ _))
        have hb7 : W2.heap.size <= (w7.alloc (.cells #[.int .i64 R.owner, .bool R.cls, .string R.selector, .int .i64 (CD.length - 1 : Nat)] 95)).heap.size := by have := HC7.out.ext.size; have : Ext w7 (w7.alloc (.cells #[.int .i64 R.owner, .bool R.cls, .string R.selector, .int .i64 (CD.length - 1 : Nat)] 95)) := (XR _).alloc _; have := this.size; omega
        have HVB : Hid (bb ∉ ve.ownBlock.toList) := LH (fun hm => by
         have nd := HC7.out.nd
         simp only [List.nodup_cons, List.mem_cons, List.mem_append, not_or] at nd
         exact nd.2.1.2 hm)
        have HVR : Hid (wr.heap.size ∉ ve.ownBlock.toList) := LH (fun hm => by have := hvr.out _ (by simpa using hm); omega)
        have KS7 : Hid (∀ w'', Ext w7 w'' -> w''.cell? ⟨wr.heap.size, 0, none⟩ = some (.string R.selector) /\ w''.cell? ⟨wr.heap.size, 1, none⟩ = some (.int .i64 R.owner) /\ w''.cell? ⟨wr.heap.size, 2, none⟩ = some (.bool R.cls) /\ w''.cell? ⟨wr.heap.size, 3, none⟩ = some (.int .i64 R.params) /\ w''.cell? ⟨wr.heap.size, 4, none⟩ = some (.int .i64 R.slots) /\ w''.cell? ⟨wr.heap.size, 5, none⟩ = some (.int .i64 R.body.kind) /\ w''.cell? ⟨wr.heap.size, 6, none⟩ = some (.string R.body.text) /\ w''.cell? ⟨wr.heap.size, 7, none⟩ = some (.int .i64 R.body.number) /\ w''.cell? ⟨wr.heap.size, 8, none⟩ = some (.int .i64 R.body.depth) /\ w''.cell? ⟨wr.heap.size, 9, none⟩ = some (.slice a2 R.body.kids.length c2)) := LH fun w'' h => ⟨(OR7.ext h).cell 0, (OR7.ext h).cell 1, (OR7.ext h).cell 2, (OR7.ext h).cell 3, (OR7.ext h).cell 4, (OR7.ext h).cell 5, (OR7.ext h).cell 6, (OR7.ext h).cell 7, (OR7.ext h).cell 8, (OR7.ext h).cell 9⟩
        clear hvl7 O7 R7 T7 OB7
        refine hK.out _ _ (KS7.out _ (XR _)) (fun hHeld => ?_)
        clear hK K
        (try simp only [Act.put, List.setIfInBounds_toArray, List.set_cons_zero, List.set_cons_succ])
        refine wpAnyH_take (i := 10) (v := ?v1) rfl (by kernel_rfl) (by kernel_rfl) (by kernel_rfl) (fun _ _ _ h => h) (Or.inl ⟨by rfl, ?hy1⟩) (by assumption) ?rest1
        case hy1 => (intro w hSw; (try dsimp only at hSw); go_simp; try with_reducible rfl)
        try simp only [Act.put, List.setIfInBounds_toArray, List.set_cons_zero, List.set_cons_succ]
        refine wpAnyH_ready (rs := [11]) (by kernel_rfl) (by simp) ?_
        refine AllReadyH.cons rfl (fun K hK => ?_) ?_
        · go_simp
          refine hK.out _ _ (KS7.out _ ((XR _).alloc _)) (fun hHeld => ?_)
          clear hK K
          (try simp only [Act.put, List.setIfInBounds_toArray, List.set_cons_zero, List.set_cons_succ])
          refine wpAnyH_ready (rs := [12]) (by kernel_rfl) (by simp) ?_
          refine AllReadyH.cons rfl (fun K hK => ?_) ?_
          · (refine step_append_at rfl _ _ 34 rfl W2.heap.size 95 i0 _ 4 40 Tryz.underlying34 HI.out.1 HI.out.2.1 HI.out.2.2.1 HI.out.2.2.2 rfl (by decide) ve DS [] rfl E1.out [(⟨R.owner, R.cls, R.selector, (CD.length - 1 : Nat)⟩ : MEntry).d] _ 1 1 [w7.heap.size] rfl E2.out (Fresh.nil _ _) (fun j _ hm => nomatch hm) (by have := HDL.out; have := HND.out; unfold maxLen; omega) (by have := HDL.out; have := HND.out; omega) hb7 ?_)
            intro a9 c9 w9 ac9 hg9 ho9
            have TG : Touch _ w9 ve.ownBlock.toList := (Touch.of_ext (XR _) _).grown hg9 (fun j hj => Or.inl (by simp [hj]))
            have OB9 := ((HC7.out.bx.ext ((XR _).alloc _)).touch' TG (fun hm => HVB.out hm))
            have OR9 := ((OR7.ext ((XR _).alloc _)).touch' TG (fun hm => HVR.out hm))
            have y9 := OB9.k2
            have yf9 := OB9.f2
            have yz9 := OB9.lt
            have KS10 : Hid (∀ v, (w9.setCell ⟨bb, 2, none⟩ v).cell? ⟨wr.heap.size, 0, none⟩ = some (.string R.selector) /\ (w9.setCell ⟨bb, 2, none⟩ v).cell? ⟨wr.heap.size, 1, none⟩ = some (.int .i64 R.owner) /\ (w9.setCell ⟨bb, 2, none⟩ v).cell? ⟨wr.heap.size, 2, none⟩ = some (.bool R.cls) /\ (w9.setCell ⟨bb, 2, none⟩ v).cell? ⟨wr.heap.size, 3, none⟩ = some (.int .i64 R.params) /\ (w9.setCell ⟨bb, 2, none⟩ v).cell? ⟨wr.heap.size, 4, none⟩ = some (.int .i64 R.slots) /\ (w9.setCell ⟨bb, 2, none⟩ v).cell? ⟨wr.heap.size, 5, none⟩ = some (.int .i64 R.body.kind) /\ (w9.setCell ⟨bb, 2, none⟩ v).cell? ⟨wr.heap.size, 6, none⟩ = some (.string R.body.text) /\ (w9.setCell ⟨bb, 2, none⟩ v).cell? ⟨wr.heap.size, 7, none⟩ = some (.int .i64 R.body.number) /\ (w9.setCell ⟨bb, 2, none⟩ v).cell? ⟨wr.heap.size, 8, none⟩ = some (.int .i64 R.body.depth) /\ (w9.setCell ⟨bb, 2, none⟩ v).cell? ⟨wr.heap.size, 9, none⟩ = some (.slice a2 R.body.kids.length c2)) := LH (fun v => by
             have T9 : Touch w9 (w9.setCell ⟨bb, 2, none⟩ v) [bb] := (Touch.of_ext (XR _) _).setCell (by simp) _
             have OR9 := OR9.touch' T9 (fun hm => HVB2.out (List.mem_singleton.1 hm))
             exact ⟨OR9.cell 0, OR9.cell 1, OR9.cell 2, OR9.cell 3, OR9.cell 4, OR9.cell 5, OR9.cell 6, OR9.cell 7, OR9.cell 8, OR9.cell 9⟩)
            refine hK.out _ _ (⟨OR9.cell 0, OR9.cell 1, OR9.cell 2, OR9.cell 3, OR9.cell 4, OR9.cell 5, OR9.cell 6, OR9.cell 7, OR9.cell 8, OR9.cell 9⟩) (fun hHeld => ?_)
            clear hK K
            (try simp only [Act.put, List.setIfInBounds_toArray, List.set_cons_zero, List.set_cons_succ])
            refine wpAnyH_take (i := 13) (v := ?v2) rfl (by kernel_rfl) (by kernel_rfl) (by kernel_rfl) (fun _ _ _ h => h) (Or.inl ⟨by rfl, ?hy2⟩) (by assumption) ?rest2
            case hy2 => (intro w hSw; (try dsimp only at hSw); go_simp; try with_reducible rfl)
            try simp only [Act.put, List.setIfInBounds_toArray, List.set_cons_zero, List.set_cons_succ]
            refine wpAnyH_ready (rs := [14]) (by kernel_rfl) (by simp) ?_
            refine AllReadyH.cons rfl (fun K hK => ?_) ?_
            · go_simp
              refine hK.out _ _ (KS10.out _) (fun hHeld => ?_)
              clear hK K
              (try simp only [Act.put, List.setIfInBounds_toArray, List.set_cons_zero, List.set_cons_succ])
              refine wpAnyH_done (by kernel_rfl) ?_ _
              rw [<- HDS.out] at ac9
              have HCE := LH (HC7.out.entry ((XR _).alloc _) TG ac9 (by simpa using ho9) rfl)
              rw [<- HCD.out, <- HSC.out] at HCE
              clear KS10 KS6 KS7 ac9 hg9 ho9 TG OB9 OR9 y9 yf9 yz9 y2 yz y27 yz7 E1 E2 hb7 HC7 OR7 HCA HC6 OB6 OR hcl q0 qf0 q1 qf1 q2 qf2 q3 qf3 q4 qf4 q5 qf5 q6 qf6 q7 qf7 q8 qf8 q9 qf9 qz
              go_wp2_with fail
              go_roundw
              case rel => exact ⟨k + 1, m7, _, by omega, by go_num, HCE⟩
              case measure => simp [intOf]; omega
            · exact AllReadyH.nil
          · exact AllReadyH.nil
        · exact AllReadyH.nil
      · exact AllReadyH.nil
    · refine AllReadyH.cons rfl (fun K hK => ?_) ?_
      · go_simp
        go_wp2_with ((refine (HCA.out _ (Ext.drew (XR _))).mono ?_; rintro e w7 ⟨m7, rfl, hvl7, O7, R7, T7⟩))
        have HC7 := LH ((HC6.out.after (Ext.drew (XR _))).touch O7 hvl7 R7 T7)
        have OR7 := (OR.ext (Ext.drew (XR _))).touch' T7 (fun hm => (List.mem_cons.1 hm).elim (fun e => by omega) (fun hm => by have := hor.out _ (by simpa using hm); omega))
        have OB7 := HC7.out.bx
        have y27 := OB7.k2
        have yz7 := OB7.lt
        have E1 := LH (Acc.ext HC7.out.es ((XR w7).alloc (.cells #[.int .i64 R.owner, .bool R.cls, .string R.selector, .int .i64 (CD.length - 1 : Nat)] 95)))
        rw [HDX.out] at E1
        have E2 : Hid (RepF (w7.alloc (.cells #[.int .i64 R.owner, .bool R.cls, .string R.selector, .int .i64 (CD.length - 1 : Nat)] 95)) (.sl 4 [(⟨R.owner, R.cls, R.selector, (CD.length - 1 : Nat)⟩ : MEntry).d]) [.slice (some ⟨w7.heap.size, 0, none⟩) 1 1] [w7.heap.size]) := LH (ent_row (x := ⟨R.owner, R.cls, R.selector, (CD.length - 1 : Nat)⟩) (own_new w7 _ _))
        have hb7 : W2.heap.size <= (w7.alloc (.cells #[.int .i64 R.owner, .bool R.cls, .string R.selector, .int .i64 (CD.length - 1 : Nat)] 95)).heap.size := by have := HC7.out.ext.size; have : Ext w7 (w7.alloc (.cells #[.int .i64 R.owner, .bool R.cls, .string R.selector, .int .i64 (CD.length - 1 : Nat)] 95)) := (XR _).alloc _; have := this.size; omega
        have HVB : Hid (bb ∉ ve.ownBlock.toList) := LH (fun hm => by
         have nd := HC7.out.nd
         simp only [List.nodup_cons, List.mem_cons, List.mem_append, not_or] at nd
         exact nd.2.1.2 hm)
        have HVR : Hid (wr.heap.size ∉ ve.ownBlock.toList) := LH (fun hm => by have := hvr.out _ (by simpa using hm); omega)
        have KS7 : Hid (∀ w'', Ext w7 w'' -> w''.cell? ⟨wr.heap.size, 0, none⟩ = some (.string R.selector) /\ w''.cell? ⟨wr.heap.size, 1, none⟩ = some (.int .i64 R.owner) /\ w''.cell? ⟨wr.heap.size, 2, none⟩ = some (.bool R.cls) /\ w''.cell? ⟨wr.heap.size, 3, none⟩ = some (.int .i64 R.params) /\ w''.cell? ⟨wr.heap.size, 4, none⟩ = some (.int .i64 R.slots) /\ w''.cell? ⟨wr.heap.size, 5, none⟩ = some (.int .i64 R.body.kind) /\ w''.cell? ⟨wr.heap.size, 6, none⟩ = some (.string R.body.text) /\ w''.cell? ⟨wr.heap.size, 7, none⟩ = some (.int .i64 R.body.number) /\ w''.cell? ⟨wr.heap.size, 8, none⟩ = some (.int .i64 R.body.depth) /\ w''.cell? ⟨wr.heap.size, 9, none⟩ = some (.slice a2 R.body.kids.length c2)) := LH fun w'' h => ⟨(OR7.ext h).cell 0, (OR7.ext h).cell 1, (OR7.ext h).cell 2, (OR7.ext h).cell 3, (OR7.ext h).cell 4, (OR7.ext h).cell 5, (OR7.ext h).cell 6, (OR7.ext h).cell 7, (OR7.ext h).cell 8, (OR7.ext h).cell 9⟩
        clear hvl7 O7 R7 T7 OB7
        refine hK.out _ _ (KS7.out _ (XR _)) (fun hHeld => ?_)
        clear hK K
        (try simp only [Act.put, List.setIfInBounds_toArray, List.set_cons_zero, List.set_cons_succ])
        refine wpAnyH_take (i := 10) (v := ?v3) rfl (by kernel_rfl) (by kernel_rfl) (by kernel_rfl) (fun _ _ _ h => h) (Or.inl ⟨by rfl, ?hy3⟩) (by assumption) ?rest3
        case hy3 => (intro w hSw; (try dsimp only at hSw); go_simp; try with_reducible rfl)
        try simp only [Act.put, List.setIfInBounds_toArray, List.set_cons_zero, List.set_cons_succ]
        refine wpAnyH_ready (rs := [1, 11]) (by kernel_rfl) (by simp) ?_
        refine AllReadyH.cons rfl (fun K hK => ?_) ?_
        · go_simp
          refine hK.out _ _ (KS7.out _ (XR _)) (fun hHeld => ?_)
          clear hK K
          (try simp only [Act.put, List.setIfInBounds_toArray, List.set_cons_zero, List.set_cons_succ])
          refine wpAnyH_ready (rs := [11]) (by kernel_rfl) (by simp) ?_
          refine AllReadyH.cons rfl (fun K hK => ?_) ?_
          · go_simp
            refine hK.out _ _ (KS7.out _ ((XR _).alloc _)) (fun hHeld => ?_)
            clear hK K
            (try simp only [Act.put, List.setIfInBounds_toArray, List.set_cons_zero, List.set_cons_succ])
            refine wpAnyH_ready (rs := [12]) (by kernel_rfl) (by simp) ?_
            refine AllReadyH.cons rfl (fun K hK => ?_) ?_
            · (refine step_append_at rfl _ _ 34 rfl W2.heap.size 95 i0 _ 4 40 Tryz.underlying34 HI.out.1 HI.out.2.1 HI.out.2.2.1 HI.out.2.2.2 rfl (by decide) ve DS [] rfl E1.out [(⟨R.owner, R.cls, R.selector, (CD.length - 1 : Nat)⟩ : MEntry).d] _ 1 1 [w7.heap.size] rfl E2.out (Fresh.nil _ _) (fun j _ hm => nomatch hm) (by have := HDL.out; have := HND.out; unfold maxLen; omega) (by have := HDL.out; have := HND.out; omega) hb7 ?_)
              intro a9 c9 w9 ac9 hg9 ho9
              have TG : Touch _ w9 ve.ownBlock.toList := (Touch.of_ext (XR _) _).grown hg9 (fun j hj => Or.inl (by simp [hj]))
              have OB9 := ((HC7.out.bx.ext ((XR _).alloc _)).touch' TG (fun hm => HVB.out hm))
              have OR9 := ((OR7.ext ((XR _).alloc _)).touch' TG (fun hm => HVR.out hm))
              have y9 := OB9.k2
              have yf9 := OB9.f2
              have yz9 := OB9.lt
              have KS10 : Hid (∀ v, (w9.setCell ⟨bb, 2, none⟩ v).cell? ⟨wr.heap.size, 0, none⟩ = some (.string R.selector) /\ (w9.setCell ⟨bb, 2, none⟩ v).cell? ⟨wr.heap.size, 1, none⟩ = some (.int .i64 R.owner) /\ (w9.setCell ⟨bb, 2, none⟩ v).cell? ⟨wr.heap.size, 2, none⟩ = some (.bool R.cls) /\ (w9.setCell ⟨bb, 2, none⟩ v).cell? ⟨wr.heap.size, 3, none⟩ = some (.int .i64 R.params) /\ (w9.setCell ⟨bb, 2, none⟩ v).cell? ⟨wr.heap.size, 4, none⟩ = some (.int .i64 R.slots) /\ (w9.setCell ⟨bb, 2, none⟩ v).cell? ⟨wr.heap.size, 5, none⟩ = some (.int .i64 R.body.kind) /\ (w9.setCell ⟨bb, 2, none⟩ v).cell? ⟨wr.heap.size, 6, none⟩ = some (.string R.body.text) /\ (w9.setCell ⟨bb, 2, none⟩ v).cell? ⟨wr.heap.size, 7, none⟩ = some (.int .i64 R.body.number) /\ (w9.setCell ⟨bb, 2, none⟩ v).cell? ⟨wr.heap.size, 8, none⟩ = some (.int .i64 R.body.depth) /\ (w9.setCell ⟨bb, 2, none⟩ v).cell? ⟨wr.heap.size, 9, none⟩ = some (.slice a2 R.body.kids.length c2)) := LH (fun v => by
               have T9 : Touch w9 (w9.setCell ⟨bb, 2, none⟩ v) [bb] := (Touch.of_ext (XR _) _).setCell (by simp) _
               have OR9 := OR9.touch' T9 (fun hm => HVB2.out (List.mem_singleton.1 hm))
               exact ⟨OR9.cell 0, OR9.cell 1, OR9.cell 2, OR9.cell 3, OR9.cell 4, OR9.cell 5, OR9.cell 6, OR9.cell 7, OR9.cell 8, OR9.cell 9⟩)
              refine hK.out _ _ (⟨OR9.cell 0, OR9.cell 1, OR9.cell 2, OR9.cell 3, OR9.cell 4, OR9.cell 5, OR9.cell 6, OR9.cell 7, OR9.cell 8, OR9.cell 9⟩) (fun hHeld => ?_)
              clear hK K
              (try simp only [Act.put, List.setIfInBounds_toArray, List.set_cons_zero, List.set_cons_succ])
              refine wpAnyH_take (i := 13) (v := ?v4) rfl (by kernel_rfl) (by kernel_rfl) (by kernel_rfl) (fun _ _ _ h => h) (Or.inl ⟨by rfl, ?hy4⟩) (by assumption) ?rest4
              case hy4 => (intro w hSw; (try dsimp only at hSw); go_simp; try with_reducible rfl)
              try simp only [Act.put, List.setIfInBounds_toArray, List.set_cons_zero, List.set_cons_succ]
              refine wpAnyH_ready (rs := [14]) (by kernel_rfl) (by simp) ?_
              refine AllReadyH.cons rfl (fun K hK => ?_) ?_
              · go_simp
                refine hK.out _ _ (KS10.out _) (fun hHeld => ?_)
                clear hK K
                (try simp only [Act.put, List.setIfInBounds_toArray, List.set_cons_zero, List.set_cons_succ])
                refine wpAnyH_done (by kernel_rfl) ?_ _
                rw [<- HDS.out] at ac9
                have HCE := LH (HC7.out.entry ((XR _).alloc _) TG ac9 (by simpa using ho9) rfl)
                rw [<- HCD.out, <- HSC.out] at HCE
                clear KS10 KS6 KS7 ac9 hg9 ho9 TG OB9 OR9 y9 yf9 yz9 y2 yz y27 yz7 E1 E2 hb7 HC7 OR7 HCA HC6 OB6 OR hcl q0 qf0 q1 qf1 q2 qf2 q3 qf3 q4 qf4 q5 qf5 q6 qf6 q7 qf7 q8 qf8 q9 qf9 qz
                go_wp2_with fail
                go_roundw
                case rel => exact ⟨k + 1, m7, _, by omega, by go_num, HCE⟩
                case measure => simp [intOf]; omega
              · exact AllReadyH.nil
            · exact AllReadyH.nil
          · exact AllReadyH.nil
        · refine AllReadyH.cons rfl (fun K hK => ?_) ?_
          · go_simp
            refine hK.out _ _ (KS7.out _ ((XR _).alloc _)) (fun hHeld => ?_)
            clear hK K
            (try simp only [Act.put, List.setIfInBounds_toArray, List.set_cons_zero, List.set_cons_succ])
            refine wpAnyH_ready (rs := [1]) (by kernel_rfl) (by simp) ?_
            refine AllReadyH.cons rfl (fun K hK => ?_) ?_
            · go_simp
              refine hK.out _ _ (KS7.out _ ((XR _).alloc _)) (fun hHeld => ?_)
              clear hK K
              (try simp only [Act.put, List.setIfInBounds_toArray, List.set_cons_zero, List.set_cons_succ])
              refine wpAnyH_ready (rs := [12]) (by kernel_rfl) (by simp) ?_
              refine AllReadyH.cons rfl (fun K hK => ?_) ?_
              · (refine step_append_at rfl _ _ 34 rfl W2.heap.size 95 i0 _ 4 40 Tryz.underlying34 HI.out.1 HI.out.2.1 HI.out.2.2.1 HI.out.2.2.2 rfl (by decide) ve DS [] rfl E1.out [(⟨R.owner, R.cls, R.selector, (CD.length - 1 : Nat)⟩ : MEntry).d] _ 1 1 [w7.heap.size] rfl E2.out (Fresh.nil _ _) (fun j _ hm => nomatch hm) (by have := HDL.out; have := HND.out; unfold maxLen; omega) (by have := HDL.out; have := HND.out; omega) hb7 ?_)
                intro a9 c9 w9 ac9 hg9 ho9
                have TG : Touch _ w9 ve.ownBlock.toList := (Touch.of_ext (XR _) _).grown hg9 (fun j hj => Or.inl (by simp [hj]))
                have OB9 := ((HC7.out.bx.ext ((XR _).alloc _)).touch' TG (fun hm => HVB.out hm))
                have OR9 := ((OR7.ext ((XR _).alloc _)).touch' TG (fun hm => HVR.out hm))
                have y9 := OB9.k2
                have yf9 := OB9.f2
                have yz9 := OB9.lt
                have KS10 : Hid (∀ v, (w9.setCell ⟨bb, 2, none⟩ v).cell? ⟨wr.heap.size, 0, none⟩ = some (.string R.selector) /\ (w9.setCell ⟨bb, 2, none⟩ v).cell? ⟨wr.heap.size, 1, none⟩ = some (.int .i64 R.owner) /\ (w9.setCell ⟨bb, 2, none⟩ v).cell? ⟨wr.heap.size, 2, none⟩ = some (.bool R.cls) /\ (w9.setCell ⟨bb, 2, none⟩ v).cell? ⟨wr.heap.size, 3, none⟩ = some (.int .i64 R.params) /\ (w9.setCell ⟨bb, 2, none⟩ v).cell? ⟨wr.heap.size, 4, none⟩ = some (.int .i64 R.slots) /\ (w9.setCell ⟨bb, 2, none⟩ v).cell? ⟨wr.heap.size, 5, none⟩ = some (.int .i64 R.body.kind) /\ (w9.setCell ⟨bb, 2, none⟩ v).cell? ⟨wr.heap.size, 6, none⟩ = some (.string R.body.text) /\ (w9.setCell ⟨bb, 2, none⟩ v).cell? ⟨wr.heap.size, 7, none⟩ = some (.int .i64 R.body.number) /\ (w9.setCell ⟨bb, 2, none⟩ v).cell? ⟨wr.heap.size, 8, none⟩ = some (.int .i64 R.body.depth) /\ (w9.setCell ⟨bb, 2, none⟩ v).cell? ⟨wr.heap.size, 9, none⟩ = some (.slice a2 R.body.kids.length c2)) := LH (fun v => by
                 have T9 : Touch w9 (w9.setCell ⟨bb, 2, none⟩ v) [bb] := (Touch.of_ext (XR _) _).setCell (by simp) _
                 have OR9 := OR9.touch' T9 (fun hm => HVB2.out (List.mem_singleton.1 hm))
                 exact ⟨OR9.cell 0, OR9.cell 1, OR9.cell 2, OR9.cell 3, OR9.cell 4, OR9.cell 5, OR9.cell 6, OR9.cell 7, OR9.cell 8, OR9.cell 9⟩)
                refine hK.out _ _ (⟨OR9.cell 0, OR9.cell 1, OR9.cell 2, OR9.cell 3, OR9.cell 4, OR9.cell 5, OR9.cell 6, OR9.cell 7, OR9.cell 8, OR9.cell 9⟩) (fun hHeld => ?_)
                clear hK K
                (try simp only [Act.put, List.setIfInBounds_toArray, List.set_cons_zero, List.set_cons_succ])
                refine wpAnyH_take (i := 13) (v := ?v5) rfl (by kernel_rfl) (by kernel_rfl) (by kernel_rfl) (fun _ _ _ h => h) (Or.inl ⟨by rfl, ?hy5⟩) (by assumption) ?rest5
                case hy5 => (intro w hSw; (try dsimp only at hSw); go_simp; try with_reducible rfl)
                try simp only [Act.put, List.setIfInBounds_toArray, List.set_cons_zero, List.set_cons_succ]
                refine wpAnyH_ready (rs := [14]) (by kernel_rfl) (by simp) ?_
                refine AllReadyH.cons rfl (fun K hK => ?_) ?_
                · go_simp
                  refine hK.out _ _ (KS10.out _) (fun hHeld => ?_)
                  clear hK K
                  (try simp only [Act.put, List.setIfInBounds_toArray, List.set_cons_zero, List.set_cons_succ])
                  refine wpAnyH_done (by kernel_rfl) ?_ _
                  rw [<- HDS.out] at ac9
                  have HCE := LH (HC7.out.entry ((XR _).alloc _) TG ac9 (by simpa using ho9) rfl)
                  rw [<- HCD.out, <- HSC.out] at HCE
                  clear KS10 KS6 KS7 ac9 hg9 ho9 TG OB9 OR9 y9 yf9 yz9 y2 yz y27 yz7 E1 E2 hb7 HC7 OR7 HCA HC6 OB6 OR hcl q0 qf0 q1 qf1 q2 qf2 q3 qf3 q4 qf4 q5 qf5 q6 qf6 q7 qf7 q8 qf8 q9 qf9 qz
                  go_wp2_with fail
                  go_roundw
                  case rel => exact ⟨k + 1, m7, _, by omega, by go_num, HCE⟩
                  case measure => simp [intOf]; omega
                · exact AllReadyH.nil
              · exact AllReadyH.nil
            · exact AllReadyH.nil
          · exact AllReadyH.nil
      · exact AllReadyH.nil
  · obtain rfl : k = x.routines.length := by omega
    obtain ⟨hl1, hl2⟩ := routsF_len (cmp_few 40) (l := x.routines) (fun r hr => (HS.out.rout hr).1) _ (Nat.le_refl _)
    rw [List.take_length] at hl1 hl2
    have HC' : Hid (CompS 90 QS W2.heap.size W2.heap.size bb g4 (.slice a4 x.classes.length c4) ve m W2 wr x.classes (routsF (cmp 40) x.routines)) := LH (by have := HC.out; rw [List.take_length] at this; exact this)
    clear HC
    have h96 := HS.out.2.2.2.1
    obtain ⟨hnd, K0, F0, hok⟩ := HS.out.mainF
    have HOK : Hid (NodeS (cmp 40) x.main.body) := LH (snode_at 40 hok)
    have HBF : Hid (baseF (cmp 40) x = ⟨x.classes, codeF (cmp 40) false x.main.params x.main.slots x.main.body (routsF (cmp 40) x.routines).1, (routsF (cmp 40) x.routines).2, ((codeF (cmp 40) false x.main.params x.main.slots x.main.body (routsF (cmp 40) x.routines).1).length - 1 : Nat)⟩) := LH rfl
    generalize routsF (cmp 40) x.routines = st at HC' HBF hl1 hl2
    have HRM : Hid (Room (st.1, []) (x.main.body.nodes + 1)) := LH ⟨by show 0 + _ <= _; omega, by show st.1.length + _ <= _; omega⟩
    have HCA := LH (srout_at (cmp_few 40) HOK.out wr (Rep.ext x2 RMH.out) HC'.out.ext (Nat.le_refl _) HC'.out.st HC'.out.rows HC'.out.vl (by simp) HRM.out)
    generalize codeF (cmp 40) false x.main.params x.main.slots x.main.body st.1 = CD at HBF HCA
    have OSBr := OSB.ext HC'.out.ext
    clear hl1 hl2 h96 hnd hok HOK
    have s0 := OSBr.k0
    have sf0 := OSBr.f0
    have s1 := OSBr.k1
    have sf1 := OSBr.f1
    have s2 := OSBr.k2
    have sf2 := OSBr.f2
    have s3 := OSBr.k3
    have sf3 := OSBr.f3
    have s4 := OSBr.k4
    have sf4 := OSBr.f4
    have s5 := OSBr.k5
    have sf5 := OSBr.f5
    have s6 : wr.cell? ⟨pb, 6, none⟩ = some (.int .i64 x.main.slots) := OSBr.cell 6
    have sf6 := OSBr.frozen 6
    have s7 : wr.cell? ⟨pb, 7, none⟩ = some (.int .i64 x.main.body.kind) := OSBr.cell 7
    have sf7 := OSBr.frozen 7
    have s8 : wr.cell? ⟨pb, 8, none⟩ = some (.string x.main.body.text) := OSBr.cell 8
    have sf8 := OSBr.frozen 8
    have s9 : wr.cell? ⟨pb, 9, none⟩ = some (.int .i64 x.main.body.number) := OSBr.cell 9
    have sf9 := OSBr.frozen 9
    have s10 : wr.cell? ⟨pb, 10, none⟩ = some (.int .i64 x.main.body.depth) := OSBr.cell 10
    have sf10 := OSBr.frozen 10
    have s11 : wr.cell? ⟨pb, 11, none⟩ = some (.slice am x.main.body.kids.length cm) := OSBr.cell 11
    have sf11 := OSBr.frozen 11
    have sz := OSBr.lt
    go_wp2_with fail
    refine HCA.out.mono ?_
    rintro e w7 ⟨m7, rfl, hvl7, O7, R7, T7⟩
    have HC7 := LH (HC'.out.touch O7 hvl7 R7 T7)
    obtain ⟨_, ⟨d1, d2, d3, d4, rfl⟩, O7⟩ := O7
    clear hvl7 R7 T7 HCA HC' OSBr s0 sf0 s1 sf1 s2 sf2 s3 sf3 s4 sf4 s5 sf5 s6 sf6 s7 sf7 s8 sf8 s9 sf9 s10 sf10 s11 sf11 sz
    obtain ⟨a0, c0, a1, c1, a2, c2, fp, e0, e1, e2, hr, hf, hn1, hn2⟩ := HC7.out.fin ((CD.length - 1 : Nat) : Int)
    have HF7 := LH (And.intro hr (And.intro hf (And.intro hn1 hn2)))
    clear hr hf hn1 hn2
    have OB7 := HC7.out.bx
    have O7 := O7
    rw [e0, e2] at OB7
    rw [e1] at O7
    have OZ7 := OZ.ext HC7.out.ext
    have X7 := LH HC7.out.ext
    have n12 : Hid (W2.heap.size ≠ bb) := LH (fun e => (List.nodup_cons.1 HC7.out.nd).1 (by rw [e]; simp))
    have hbb := (HC7.out.rows.base bb (by simp)).1
    clear HC7 e0 e1 e2
    have y3 := OB7.k3
    have yf3 := OB7.f3
    have yz := OB7.lt
    go_upto_region 9 with fail
    generalize hS : World.setCell w7 _ _ = W8
    have T8 : Touch w7 W8 [bb] := by rw [<- hS]; exact (Touch.of_ext (XR _) _).setCell (by simp) _
    have OB8 : Own W8 bb 36 #[.slice a0 x.classes.length c0, .slice none 0 0, .slice a2 st.2.length c2, .int .i64 ((CD.length - 1 : Nat) : Int)] := by rw [<- hS]; exact OB7.set 3 _
    have O8 := O7.touch' T8 (fun hm => n12.out (List.mem_singleton.1 hm))
    clear hS y3 yf3 yz OB7 O7
    have z0 := O8.k0
    have zz := O8.lt
    have n0 := OB8.k0
    have nf0 := OB8.f0
    have n1 := OB8.k1
    have nf1 := OB8.f1
    have n2 := OB8.k2
    have nf2 := OB8.f2
    have n3 := OB8.k3
    have nf3 := OB8.f3
    have nz := OB8.lt
    go_upto_region 10 with fail
    generalize hS : World.setCell W8 _ _ = W9
    have T9 : Touch W8 W9 [bb] := by rw [<- hS]; exact (Touch.of_ext (XR _) _).setCell (by simp) _
    have OB9 : Own W9 bb 36 #[.slice a0 x.classes.length c0, .slice a1 CD.length c1, .slice a2 st.2.length c2, .int .i64 ((CD.length - 1 : Nat) : Int)] := by rw [<- hS]; exact OB8.set 1 _
    have OZ9 := OZ7.touch' (T8.trans T9) (by simp only [List.mem_singleton]; have := HS2.out; omega)
    clear hS z0 zz n0 nf0 n1 nf1 n2 nf2 n3 nf3 nz OB8 O8
    have n0 := OB9.k0
    have nf0 := OB9.f0
    have n1 := OB9.k1
    have nf1 := OB9.f1
    have n2 := OB9.k2
    have nf2 := OB9.f2
    have n3 := OB9.k3
    have nf3 := OB9.f3
    have nz := OB9.lt
    have z0 := OZ9.k0
    have zf0 := OZ9.f0
    have z1 := OZ9.k1
    have zf1 := OZ9.f1
    have z2 := OZ9.k2
    have zf2 := OZ9.f2
    have z3 := OZ9.k3
    have zf3 := OZ9.f3
    have zz := OZ9.lt
    go_wp2_with fail
    generalize hS : World.setCell (World.setCell (World.setCell (World.setCell W9 _ _) _ _) _ _) _ _ = W10
    obtain ⟨O10, T10⟩ := own4b OZ9 (.slice a0 x.classes.length c0) (.slice a1 CD.length c1) (.slice a2 st.2.length c2) (.int .i64 ((CD.length - 1 : Nat) : Int))
    rw [hS] at O10 T10
    clear hS n0 nf0 n1 nf1 n2 nf2 n3 nf3 nz z0 zf0 z1 zf1 z2 zf2 z3 zf3 zz OB9 OZ9
    have p0 := O10.k0
    have p1 := O10.k1
    have p2 := O10.k2
    have p3 := O10.k3
    have pz := O10.lt
    have TT : Touch w7 W10 [bb, w.heap.size] := ((T8.trans T9).mono (by simp)).trans (T10.mono (by simp))
    have hge : ∀ j, j ∈ fp -> j ∉ [bb, w.heap.size] := fun j hj hm => by
     have h1 := HF7.out.2.1.ge j hj
     have h2 := HS2.out
     rcases List.mem_cons.1 hm with rfl | hm
     · exact HF7.out.2.2.2 hj
     · have := List.mem_singleton.1 hm; omega
    have FIN : GivesC w (baseF (cmp 40) x) (.returned (.agg #[.slice a0 x.classes.length c0, .slice a1 CD.length c1, .slice a2 st.2.length c2, .int .i64 ((CD.length - 1 : Nat) : Int)])) W10 := ⟨_, fp, rfl, by rw [HBF.out]; exact HF7.out.1.touch TT hge, (HF7.out.2.1.touch TT hge).mono (by have := HS2.out; omega), Touch.ext (x2.trans X7.out) TT (fun j hj => by
     have h2 := HS2.out
     rcases List.mem_cons.1 hj with rfl | hj
     · omega
     · have := List.mem_singleton.1 hj; omega)⟩
    exact bodyPost_ret (v := .agg #[.slice a0 x.classes.length c0, .slice a1 CD.length c1, .slice a2 st.2.length c2, .int .i64 ((CD.length - 1 : Nat) : Int)]) (by simp [results, Tryz.results17, go_sem, p0, p1, p2, p3, pz]) rfl FIN
end Go.Proofs.YtlaclfeljimffaaGreatDoor
