/-
  SEVERAL TEXTS IN ONE: CONTRACTS: the program's compile and CompileSystem; CONTRACTS: the reference's compiler: an instruction put, nodes.
  Conditions: those that each lemma states.
-/
import Derived.Test.YtlaclfeljimffaaGreatDoorRows
import Derived.Deep.RegionHeldLaw
import Derived.Deep.DeepCutAuto
import Derived.Test.YtlaclfeljimffaaGreatDoorP19
import Derived.Test.YtlaclfeljimffaaGreatDoorP23
import Derived.Test.YtlaclfeljimffaaGreatDoorP15
namespace Go.Proofs.YtlaclfeljimffaaGreatDoor
open Go.RowKit
set_option maxHeartbeats 8000000
set_option maxRecDepth 100000
set_option linter.unusedSimpArgs false
set_option linter.unusedVariables false
theorem SysP.clsF {x : MSystem} (h : SysP x) : x.classes.length <= 1000000 /\ ∀ c, c ∈ x.classes -> c.fields.length <= 1000000 := by
 have hc := clsB_iff.1 h.1
 refine ⟨by have := hc.1.2; omega, fun c hm => ?_⟩
 obtain ⟨i, hi, rfl⟩ := List.getElem_of_mem hm
 obtain ⟨g1, g2⟩ := hc.2 i x.classes[i] (by simp [hi])
 by_cases h16 : i < 16
 · rw [g1 h16]
   show (fieldsAt i).length <= _
   unfold fieldsAt
   split <;> simp
 · have := (g2 (by omega)).2.2.2.1
   omega
theorem SysP.rout {x : MSystem} (h : SysP x) {r : MRoutine} (hr : r ∈ x.routines) : r.body.nodes <= 500 /\ ∃ K F, okN 40 K F r.body := by
 obtain ⟨i, hi, rfl⟩ := List.getElem_of_mem hr
 obtain ⟨-, -, ⟨-, hf, ho⟩, -⟩ := h.2.2.2.2 i x.routines[i] (by simp [hi])
 exact ⟨hf.2.1, _, _, ho⟩
theorem SysP.mainF {x : MSystem} (h : SysP x) : x.main.body.nodes <= 500 /\ ∃ K F, okN 40 K F x.main.body := by
 obtain ⟨-, hf, ho⟩ := h.2.2.1
 exact ⟨hf.2.1, _, _, ho⟩
theorem routsF_succ (f : CF) {l : List MRoutine} {k : Nat} (h : k < l.length) : routsF f (l.take (k + 1)) = routF f (routsF f (l.take k)) l[k] := by
 unfold routsF
 rw [List.take_succ_eq_append_getElem h, List.foldl_append]; rfl
theorem routsF_len {f : CF} (hf : Few f) {l : List MRoutine} (hn : ∀ r, r ∈ l -> r.body.nodes <= 500) : ∀ k, k <= l.length -> (routsF f (l.take k)).1.length <= 501 * k /\ (routsF f (l.take k)).2.length = k
 | 0, _ => by simp [routsF]
 | k + 1, hk => by
  obtain ⟨h1, h2⟩ := routsF_len hf hn k (by omega)
  rw [routsF_succ f (by omega)]
  have h3 := (codeF_len hf false l[k].params l[k].slots l[k].body (routsF f (l.take k)).1).2
  have h4 := hn l[k] (List.getElem_mem (by omega))
  refine ⟨?_, ?_⟩
  · show (codeF f false l[k].params l[k].slots l[k].body (routsF f (l.take k)).1).length <= _
    omega
  · show ((routsF f (l.take k)).2 ++ [_]).length = _
    rw [List.length_append, h2]; rfl
theorem CompS.start {t B0 cb bb : Nat} {Q : List Value -> Prop} {gC : List Nat} {vC : Value} {w0 w : World} {cls : List MClassInfo} (hst : ∃ r : List Value, Q r /\ Own w cb t (.slice none 0 0 :: r).toArray) (hbx : Own w bb 36 #[vC, .slice none 0 0, .slice none 0 0, .int .i64 0]) (hc : RepF w (MClassInfos cls) [vC] gC) (hf : Fresh w B0 gC) (h1 : cb ∉ gC) (h2 : bb ∉ gC) (h3 : cb ≠ bb) (h4 : B0 <= cb) (h5 : B0 <= bb) (hx : Ext w0 w) (hB : w0.heap.size <= B0) : CompS t Q B0 cb bb gC vC (.slice none 0 0) ⟨.slice none 0 0, .slice none 0 0, []⟩ w0 w cls ([], []) := by
 refine ⟨hst, hbx, ⟨Acc.nil _ _ _ _, Acc.nil _ _ _ _, fun k hk => (nomatch hk), fun k hk => ⟨fun hm => (nomatch hm), fun hm => (nomatch hm)⟩, fun k hk => ?_⟩, ?_, rfl, Acc.nil _ _ _ _, hc, hf, hx, hB⟩
 · obtain ⟨r, -, hO⟩ := hst
   rcases List.mem_cons.1 hk with rfl | hk
   · exact ⟨h4, hO.lt⟩
   rcases List.mem_cons.1 hk with rfl | hk
   · exact ⟨h5, hbx.lt⟩
   rcases List.mem_append.1 hk with hk | hk
   · exact ⟨hf.ge k hk, hf.lt hk⟩
   · exact nomatch hk
 · show (cb :: bb :: (gC ++ [])).Nodup
   rw [List.append_nil]
   exact List.nodup_cons.2 ⟨fun hm => (List.mem_cons.1 hm).elim h3 h1, List.nodup_cons.2 ⟨h2, hf.nodup⟩⟩
theorem own4b {w : World} {r : Nat} {c0 c1 c2 c3 : Value} (h : Own w r 36 #[c0, c1, c2, c3]) (v0 v1 v2 v3 : Value) : Own ((((w.setCell ⟨r, 0, none⟩ v0).setCell ⟨r, 1, none⟩ v1).setCell ⟨r, 2, none⟩ v2).setCell ⟨r, 3, none⟩ v3) r 36 #[v0, v1, v2, v3] /\ Touch w ((((w.setCell ⟨r, 0, none⟩ v0).setCell ⟨r, 1, none⟩ v1).setCell ⟨r, 2, none⟩ v2).setCell ⟨r, 3, none⟩ v3) [r] :=
 ⟨(((h.set 0 v0).set 1 v1).set 2 v2).set 3 v3, ((((Touch.of_ext (XR w) [r]).setCell (by simp) v0).setCell (by simp) v1).setCell (by simp) v2).setCell (by simp) v3⟩
def GivesC (w : World) (x : MCodeBase) (e : Ending) (w' : World) : Prop := ∃ cs fp, e = .returned (.agg cs.toArray) /\ RepF w' x.d cs fp /\ Fresh w' w.heap.size fp /\ Ext w w'
theorem compile_at (x : MSystem) (cx : List Value) (w : World) (rx : Rep w x.d cx) (HS : Hid (SysP x)) :
 Calls Tryz.prog 23 #[.agg cx.toArray] w (GivesC w (baseF (cmp 40) x)) := by
 obtain ⟨ac, cc, ar, cr, am, cm, rfl, rc, rr, -, rm⟩ := MSystem.op_en rx
 obtain ⟨am2, cm2, e9, -, rb⟩ := MRoutine.op_en rm
 simp only [List.cons.injEq, true_and, and_true, Value.slice.injEq] at e9
 obtain ⟨rfl, rfl⟩ := e9
 obtain ⟨ao, ca, ba, oa, e1, hla, hma, pa, hra⟩ := Rep.slmap rr
 simp only [List.cons.injEq, and_true, Value.slice.injEq, List.length_map] at e1
 obtain ⟨rfl, -, rfl⟩ := e1
 unfold maxLen at hma
 have RC := LH rc
 have RB := LH rb
 have HRA := LH hra
 have HPA := LH pa
 clear rx rc rr rm rb hra pa
 go_enter Tryz.func23, Tryz.ntmps23
 go_upto_region 1 with fail
 generalize hS : World.alloc (World.alloc w _) _ = W2
 have x2 : Ext w W2 := by rw [<- hS]; exact ((XR _).alloc _).alloc _
 have OSB : Own W2 w.heap.size 46 #[.slice ac x.classes.length cc, .slice ar x.routines.length cr, .string x.main.selector, .int .i64 x.main.owner, .bool x.main.cls, .int .i64 x.main.params, .int .i64 x.main.slots, .int .i64 x.main.body.kind, .string x.main.body.text, .int .i64 x.main.body.number, .int .i64 x.main.body.depth, .slice am x.main.body.kids.length cm] := by rw [<- hS]; exact (own_new w _ _).ext ((XR _).alloc _)
 have OZ : Own W2 (w.heap.size + 1) 36 #[.slice none 0 0, .slice none 0 0, .slice none 0 0, .int .i64 0] := by rw [<- hS]; exact own_new2 w _ _ _
 have HS2 : Hid (W2.heap.size = w.heap.size + 2) := LH (by rw [<- hS]; simp)
 clear hS
 have s0 := OSB.k0
 have sf0 := OSB.f0
 have s1 := OSB.k1
 have sf1 := OSB.f1
 have s2 := OSB.k2
 have sf2 := OSB.f2
 have s3 := OSB.k3
 have sf3 := OSB.f3
 have s4 := OSB.k4
 have sf4 := OSB.f4
 have s5 := OSB.k5
 have sf5 := OSB.f5
 have s6 : W2.cell? ⟨w.heap.size, 6, none⟩ = some (.int .i64 x.main.slots) := OSB.cell 6
 have sf6 := OSB.frozen 6
 have s7 : W2.cell? ⟨w.heap.size, 7, none⟩ = some (.int .i64 x.main.body.kind) := OSB.cell 7
 have sf7 := OSB.frozen 7
 have s8 : W2.cell? ⟨w.heap.size, 8, none⟩ = some (.string x.main.body.text) := OSB.cell 8
 have sf8 := OSB.frozen 8
 have s9 : W2.cell? ⟨w.heap.size, 9, none⟩ = some (.int .i64 x.main.body.number) := OSB.cell 9
 have sf9 := OSB.frozen 9
 have s10 : W2.cell? ⟨w.heap.size, 10, none⟩ = some (.int .i64 x.main.body.depth) := OSB.cell 10
 have sf10 := OSB.frozen 10
 have s11 : W2.cell? ⟨w.heap.size, 11, none⟩ = some (.slice am x.main.body.kids.length cm) := OSB.cell 11
 have sf11 := OSB.frozen 11
 have sz := OSB.lt
 go_upto_region 2 with fail
 generalize hS : World.alloc W2 _ = W3
 have x3 : Ext W2 W3 := by rw [<- hS]; exact (XR _).alloc _
 have OP : Own W3 W2.heap.size 101 #[.slice none 0 0] := by rw [<- hS]; exact own_new W2 _ _
 have hs3 := OP.lt
 clear hS s0 sf0 s1 sf1 s2 sf2 s3 sf3 s4 sf4 s5 sf5 s6 sf6 s7 sf7 s8 sf8 s9 sf9 s10 sf10 s11 sf11 sz
 have OSB3 := OSB.ext x3
 have s0 := OSB3.k0
 have sz := OSB3.lt
 go_wp2_with fail
 refine (copy_at x.classes HS.out.clsF.1 (LH HS.out.clsF.2) _ w W3 RC.out (x2.trans x3)).mono ?_
 rintro e w4 ⟨a4, c4, g4, rfl, hr4, hf4, hx4⟩
 have H4 := LH hr4
 have F4 := LH hf4
 clear hr4 hf4 s0 sz OSB3
 go_upto_region 3 with fail
 generalize hS : World.alloc w4 _ = W5
 have x5 : Ext w4 W5 := by rw [<- hS]; exact (XR _).alloc _
 have OB : Own W5 w4.heap.size 36 #[.slice a4 x.classes.length c4, .slice none 0 0, .slice none 0 0, .int .i64 0] := by rw [<- hS]; exact own_new w4 _ _
 clear hS
 have hs4 := hx4.size
 have HC0 : Hid (CompS 101 (fun r => r = []) W2.heap.size W2.heap.size w4.heap.size g4 (.slice a4 x.classes.length c4) (.slice none 0 0) ⟨.slice none 0 0, .slice none 0 0, []⟩ W2 W5 x.classes ([], [])) := LH (CompS.start ⟨[], rfl, OP.ext (hx4.trans x5)⟩ OB (H4.out.ext x5) ((F4.out.mono (Nat.le_of_lt hs3)).ext x5) (fun hm => by have := F4.out.ge _ hm; omega) (fun hm => by have := F4.out.lt hm; omega) (by omega) (Nat.le_refl _) (by omega) ((x3.trans hx4).trans x5) (Nat.le_refl _))
 have x25 : Ext W2 W5 := (x3.trans hx4).trans x5
 generalize w4.heap.size = bb at *
 clear x3 hx4 x5 OB OP H4 F4 hs3 hs4
 have OSB5 := OSB.ext x25
 have s1 := OSB5.k1
 have sz := OSB5.lt
 go_wp2_with fail
 go_loopw [17] (fun iv wr => ∃ (k : Nat) (m : Rw) (ve : Value), k <= x.routines.length /\ iv = .int .i64 k /\ Hid (CompS 101 (fun r => r = []) W2.heap.size W2.heap.size bb g4 (.slice a4 x.classes.length c4) ve m W2 wr x.classes (routsF (cmp 40) (x.routines.take k)))) (fun iv _ => x.routines.length - (intOf iv).toNat)
 case atStart => exact ⟨0, _, _, Nat.zero_le _, rfl, HC0⟩
 case round =>
  obtain ⟨k, m, ve, hk, rfl, HC⟩ := hrel
  clear s1 sz OSB5
  by_cases hlt : k < x.routines.length
  · obtain rfl := HPA.out (by omega)
    obtain ⟨ea, la, cl, ra⟩ := HRA.out k x.routines[k] (by simp [hlt])
    obtain ⟨hnd, K0, F0, hok⟩ := HS.out.rout (List.getElem_mem hlt)
    obtain ⟨hl1, hl2⟩ := routsF_len (cmp_few 40) (l := x.routines) (fun r hr => (HS.out.rout hr).1) k hk
    have h96 := HS.out.2.2.2.1
    have HSC : Hid (routsF (cmp 40) (x.routines.take (k + 1)) = routF (cmp 40) (routsF (cmp 40) (x.routines.take k)) x.routines[k]) := LH (routsF_succ _ hlt)
    generalize routsF (cmp 40) (x.routines.take k) = st at HC HSC hl1 hl2
    generalize x.routines[k] = R at *
    obtain ⟨a2, c2, rfl, -, rb⟩ := MRoutine.op_en ra
    have HRB := LH (Rep.ext x2 rb)
    have HND := LH (And.intro hnd (And.intro hl1 (And.intro hl2 h96)))
    have HOK : Hid (NodeI (cmp 40) R.body) := LH (node_at 40 hok)
    have hxr := x2.trans HC.out.ext
    have t0 : wr.cell? ⟨ba, oa + k * 10, none⟩ = some (.string R.selector) := hxr.cell (cl 0 (by omega))
    have t1 : wr.cell? ⟨ba, oa + k * 10 + 1, none⟩ = some (.int .i64 R.owner) := hxr.cell (cl 1 (by omega))
    have t2 : wr.cell? ⟨ba, oa + k * 10 + 2, none⟩ = some (.bool R.cls) := hxr.cell (cl 2 (by omega))
    have t3 : wr.cell? ⟨ba, oa + k * 10 + 3, none⟩ = some (.int .i64 R.params) := hxr.cell (cl 3 (by omega))
    have t4 : wr.cell? ⟨ba, oa + k * 10 + 4, none⟩ = some (.int .i64 R.slots) := hxr.cell (cl 4 (by omega))
    have t5 : wr.cell? ⟨ba, oa + k * 10 + 5, none⟩ = some (.int .i64 R.body.kind) := hxr.cell (cl 5 (by omega))
    have t6 : wr.cell? ⟨ba, oa + k * 10 + 6, none⟩ = some (.string R.body.text) := hxr.cell (cl 6 (by omega))
    have t7 : wr.cell? ⟨ba, oa + k * 10 + 7, none⟩ = some (.int .i64 R.body.number) := hxr.cell (cl 7 (by omega))
    have t8 : wr.cell? ⟨ba, oa + k * 10 + 8, none⟩ = some (.int .i64 R.body.depth) := hxr.cell (cl 8 (by omega))
    have t9 : wr.cell? ⟨ba, oa + k * 10 + 9, none⟩ = some (.slice a2 R.body.kids.length c2) := hxr.cell (cl 9 (by omega))
    clear cl la ra rb hok hnd hl1 hl2 h96
    go_upto_region 6 with fail
    generalize hS : World.alloc wr _ = W6
    have x6 : Ext wr W6 := by rw [<- hS]; exact (XR _).alloc _
    have OR : Own W6 wr.heap.size 44 #[.string R.selector, .int .i64 R.owner, .bool R.cls, .int .i64 R.params, .int .i64 R.slots, .int .i64 R.body.kind, .string R.body.text, .int .i64 R.body.number, .int .i64 R.body.depth, .slice a2 R.body.kids.length c2] := by rw [<- hS]; exact own_new wr _ _
    have HC6 := LH (HC.out.after x6)
    have hcbr := (HC.out.rows.base W2.heap.size (by simp)).2
    have hor : Hid (∀ j, m.vc.ownBlock = some j -> j < wr.heap.size) := LH fun j hj => (Acc.ge HC.out.rows.lc hj).2
    clear hS HC x6 t0 t1 t2 t3 t4 t5 t6 t7 t8 t9
    have q0 := OR.k0
    have qf0 := OR.f0
    have q1 := OR.k1
    have qf1 := OR.f1
    have q2 := OR.k2
    have qf2 := OR.f2
    have q3 := OR.k3
    have qf3 := OR.f3
    have q4 := OR.k4
    have qf4 := OR.f4
    have q5 := OR.k5
    have qf5 := OR.f5
    have q6 : W6.cell? ⟨wr.heap.size, 6, none⟩ = some (.string R.body.text) := OR.cell 6
    have qf6 := OR.frozen 6
    have q7 : W6.cell? ⟨wr.heap.size, 7, none⟩ = some (.int .i64 R.body.number) := OR.cell 7
    have qf7 := OR.frozen 7
    have q8 : W6.cell? ⟨wr.heap.size, 8, none⟩ = some (.int .i64 R.body.depth) := OR.cell 8
    have qf8 := OR.frozen 8
    have q9 : W6.cell? ⟨wr.heap.size, 9, none⟩ = some (.slice a2 R.body.kids.length c2) := OR.cell 9
    have qf9 := OR.frozen 9
    have qz := OR.lt
    have HRM : Hid (Room (st.1, []) (R.body.nodes + 1)) := LH ⟨by have := HND.out; show 0 + _ <= _; omega, by have := HND.out; show st.1.length + _ <= _; omega⟩
    obtain ⟨_, hrn, hOP⟩ := HC6.out.st
    obtain rfl := hrn
    have HCD : Hid (routF (cmp 40) st R = (codeF (cmp 40) false R.params R.slots R.body st.1, st.2 ++ [⟨R.owner, R.cls, R.selector, ((codeF (cmp 40) false R.params R.slots R.body st.1).length - 1 : Nat)⟩])) := LH rfl
    have HCA := LH (code_at (cmp_few 40) HOK.out false R.params R.slots W6 HRB.out HC6.out.ext (Nat.le_refl _) hOP HC6.out.rows (by simp) HRM.out)
    have hcl := codeF_len (cmp_few 40) false R.params R.slots R.body st.1
    generalize codeF (cmp 40) false R.params R.slots R.body st.1 = CD at HCD HCA hcl
    clear hOP
    go_wp2_with fail
    refine HCA.out.mono ?_
    rintro e w7 ⟨m7, rfl, hvl7, O7, R7, -, T7⟩
    have OR7 := OR.touch' T7 (fun hm => by
     rcases List.mem_cons.1 hm with e | hm
     · omega
     · have := hor.out _ (by simpa using hm); omega)
    have HC7 := LH (HC6.out.touch ⟨[], rfl, O7⟩ hvl7 R7 T7)
    clear hvl7 O7 R7 T7 HCA HC6 OR q0 qf0 q1 qf1 q2 qf2 q3 qf3 q4 qf4 q5 qf5 q6 qf6 q7 qf7 q8 qf8 q9 qf9 qz
    have q0 := OR7.k0
    have qf0 := OR7.f0
    have q1 := OR7.k1
    have qf1 := OR7.f1
    have q2 := OR7.k2
    have qf2 := OR7.f2
    have q3 := OR7.k3
    have qf3 := OR7.f3
    have q4 := OR7.k4
    have qf4 := OR7.f4
    have q5 := OR7.k5
    have qf5 := OR7.f5
    have q6 : w7.cell? ⟨wr.heap.size, 6, none⟩ = some (.string R.body.text) := OR7.cell 6
    have qf6 := OR7.frozen 6
    have q7 : w7.cell? ⟨wr.heap.size, 7, none⟩ = some (.int .i64 R.body.number) := OR7.cell 7
    have qf7 := OR7.frozen 7
    have q8 : w7.cell? ⟨wr.heap.size, 8, none⟩ = some (.int .i64 R.body.depth) := OR7.cell 8
    have qf8 := OR7.frozen 8
    have q9 : w7.cell? ⟨wr.heap.size, 9, none⟩ = some (.slice a2 R.body.kids.length c2) := OR7.cell 9
    have qf9 := OR7.frozen 9
    have qz := OR7.lt
    have OB7 := HC7.out.bx
    have y2 := OB7.k2
    have yz := OB7.lt
    have HDL : Hid ((st.2.map MEntry.d).length = st.2.length) := LH (by simp)
    have HDS : Hid ((st.2 ++ [(⟨R.owner, R.cls, R.selector, (CD.length - 1 : Nat)⟩ : MEntry)]).map MEntry.d = st.2.map MEntry.d ++ [(⟨R.owner, R.cls, R.selector, (CD.length - 1 : Nat)⟩ : MEntry).d]) := LH (by simp)
    have HW : Hid (∀ W, Ext w7 W -> Acc W2.heap.size W 95 4 ve (st.2.map MEntry.d) []) := LH fun W h => Acc.ext HC7.out.es h
    generalize st.2.map MEntry.d = DS at HDL HDS HW
    have E2 : Hid (RepF (w7.alloc (.cells #[.int .i64 R.owner, .bool R.cls, .string R.selector, .int .i64 (CD.length - 1 : Nat)] 95)) (.sl 4 [(⟨R.owner, R.cls, R.selector, (CD.length - 1 : Nat)⟩ : MEntry).d]) [.slice (some ⟨w7.heap.size, 0, none⟩) 1 1] [w7.heap.size]) := LH (ent_row (x := ⟨R.owner, R.cls, R.selector, (CD.length - 1 : Nat)⟩) (own_new w7 _ _))
    have hb7 : W2.heap.size <= (w7.alloc (.cells #[.int .i64 R.owner, .bool R.cls, .string R.selector, .int .i64 (CD.length - 1 : Nat)] 95)).heap.size := by have := HC7.out.ext.size; have : Ext w7 (w7.alloc (.cells #[.int .i64 R.owner, .bool R.cls, .string R.selector, .int .i64 (CD.length - 1 : Nat)] 95)) := (XR _).alloc _; have := this.size; omega
    obtain ⟨i0, hi, hz0, hz1, hz2⟩ := info_parts entInfo
    have hdl := HDL.out
    have hnd := HND.out
    have E1 := LH (HW.out (w7.alloc (.cells #[.int .i64 R.owner, .bool R.cls, .string R.selector, .int .i64 (CD.length - 1 : Nat)] 95)) ((XR _).alloc _))
    go_wp2_with (at_builtin; refine wpList_append_at rfl _ _ 34 rfl W2.heap.size 95 i0 _ 4 40 Tryz.underlying34 hi hz0 hz1 hz2 rfl (by decide) ve DS [] rfl E1.out [(⟨R.owner, R.cls, R.selector, (CD.length - 1 : Nat)⟩ : MEntry).d] _ 1 1 [w7.heap.size] rfl E2.out (Fresh.nil _ _) (fun j _ hm => nomatch hm) (by unfold maxLen; omega) (by omega) hb7 ?_)
    intro a9 c9 w9 ac9 hg9 ho9
    have TG : Touch _ w9 ve.ownBlock.toList := (Touch.of_ext (XR _) _).grown hg9 (fun j hj => Or.inl (by simp [hj]))
    rw [<- HDS.out] at ac9
    have HCE := LH (HC7.out.entry ((XR _).alloc _) TG ac9 (by simpa using ho9) rfl)
    have OB9 := ((HC7.out.bx.ext ((XR _).alloc _)).touch' TG (fun hm => by
     have nd := HC7.out.nd
     simp only [List.nodup_cons, List.mem_cons, List.mem_append, not_or] at nd
     exact nd.2.1.2 hm))
    have y9 := OB9.k2
    have yf9 := OB9.f2
    have yz9 := OB9.lt
    rw [<- HCD.out, <- HSC.out] at HCE
    clear y2 yz q0 qf0 q1 qf1 q2 qf2 q3 qf3 q4 qf4 q5 qf5 q6 qf6 q7 qf7 q8 qf8 q9 qf9 qz hi hz0 hz1 hz2 hdl hnd E1 E2 ac9 hg9 ho9 TG HC7 OB7 OB9 hcl
    go_wp2_with fail
    go_roundw
    case rel => exact ⟨k + 1, m7, _, by omega, by go_num, HCE⟩
    case measure => simp [intOf]; omega
  · obtain rfl : k = x.routines.length := by omega
    obtain ⟨hl1, hl2⟩ := routsF_len (cmp_few 40) (l := x.routines) (fun r hr => (HS.out.rout hr).1) _ (Nat.le_refl _)
    rw [List.take_length] at hl1 hl2
    have HC' : Hid (CompS 101 (fun r => r = []) W2.heap.size W2.heap.size bb g4 (.slice a4 x.classes.length c4) ve m W2 wr x.classes (routsF (cmp 40) x.routines)) := LH (by have := HC.out; rw [List.take_length] at this; exact this)
    clear HC
    have h96 := HS.out.2.2.2.1
    obtain ⟨hnd, K0, F0, hok⟩ := HS.out.mainF
    have HOK : Hid (NodeI (cmp 40) x.main.body) := LH (node_at 40 hok)
    have HBF : Hid (baseF (cmp 40) x = ⟨x.classes, codeF (cmp 40) false x.main.params x.main.slots x.main.body (routsF (cmp 40) x.routines).1, (routsF (cmp 40) x.routines).2, ((codeF (cmp 40) false x.main.params x.main.slots x.main.body (routsF (cmp 40) x.routines).1).length - 1 : Nat)⟩) := LH rfl
    generalize routsF (cmp 40) x.routines = st at HC' HBF hl1 hl2
    obtain ⟨_, hrn, hOP⟩ := HC'.out.st
    obtain rfl := hrn
    have HRM : Hid (Room (st.1, []) (x.main.body.nodes + 1)) := LH ⟨by show 0 + _ <= _; omega, by show st.1.length + _ <= _; omega⟩
    have HCA := LH (code_at (cmp_few 40) HOK.out false x.main.params x.main.slots wr (Rep.ext x2 RB.out) HC'.out.ext (Nat.le_refl _) hOP HC'.out.rows (by simp) HRM.out)
    generalize codeF (cmp 40) false x.main.params x.main.slots x.main.body st.1 = CD at HBF HCA
    have OSBr := OSB.ext HC'.out.ext
    clear hOP hl1 hl2 h96 hnd hok HOK
    have s0 := OSBr.k0
    have sf0 := OSBr.f0
    have s1 := OSBr.k1
    have sf1 := OSBr.f1
    have s2 := OSBr.k2
    have sf2 := OSBr.f2
    have s3 := OSBr.k3
    have sf3 := OSBr.f3
    have s4 := OSBr.k4
    have sf4 := OSBr.f4
    have s5 := OSBr.k5
    have sf5 := OSBr.f5
    have s6 : wr.cell? ⟨w.heap.size, 6, none⟩ = some (.int .i64 x.main.slots) := OSBr.cell 6
    have sf6 := OSBr.frozen 6
    have s7 : wr.cell? ⟨w.heap.size, 7, none⟩ = some (.int .i64 x.main.body.kind) := OSBr.cell 7
    have sf7 := OSBr.frozen 7
    have s8 : wr.cell? ⟨w.heap.size, 8, none⟩ = some (.string x.main.body.text) := OSBr.cell 8
    have sf8 := OSBr.frozen 8
    have s9 : wr.cell? ⟨w.heap.size, 9, none⟩ = some (.int .i64 x.main.body.number) := OSBr.cell 9
    have sf9 := OSBr.frozen 9
    have s10 : wr.cell? ⟨w.heap.size, 10, none⟩ = some (.int .i64 x.main.body.depth) := OSBr.cell 10
    have sf10 := OSBr.frozen 10
    have s11 : wr.cell? ⟨w.heap.size, 11, none⟩ = some (.slice am x.main.body.kids.length cm) := OSBr.cell 11
    have sf11 := OSBr.frozen 11
    have sz := OSBr.lt
    go_wp2_with fail
    refine HCA.out.mono ?_
    rintro e w7 ⟨m7, rfl, hvl7, O7, R7, -, T7⟩
    have HC7 := LH (HC'.out.touch ⟨[], rfl, O7⟩ hvl7 R7 T7)
    clear hvl7 R7 T7 HCA HC' OSBr s0 sf0 s1 sf1 s2 sf2 s3 sf3 s4 sf4 s5 sf5 s6 sf6 s7 sf7 s8 sf8 s9 sf9 s10 sf10 s11 sf11 sz
    obtain ⟨a0, c0, a1, c1, a2, c2, fp, e0, e1, e2, hr, hf, hn1, hn2⟩ := HC7.out.fin ((CD.length - 1 : Nat) : Int)
    have HF7 := LH (And.intro hr (And.intro hf (And.intro hn1 hn2)))
    clear hr hf hn1 hn2
    have OB7 := HC7.out.bx
    have O7 := O7
    rw [e0, e2] at OB7
    rw [e1] at O7
    have OZ7 := OZ.ext HC7.out.ext
    have X7 := LH HC7.out.ext
    have n12 : Hid (W2.heap.size ≠ bb) := LH (fun e => (List.nodup_cons.1 HC7.out.nd).1 (by rw [e]; simp))
    have hbb := (HC7.out.rows.base bb (by simp)).1
    clear HC7 e0 e1 e2
    have y3 := OB7.k3
    have yf3 := OB7.f3
    have yz := OB7.lt
    go_upto_region 10 with fail
    generalize hS : World.setCell w7 _ _ = W8
    have T8 : Touch w7 W8 [bb] := by rw [<- hS]; exact (Touch.of_ext (XR _) _).setCell (by simp) _
    have OB8 : Own W8 bb 36 #[.slice a0 x.classes.length c0, .slice none 0 0, .slice a2 st.2.length c2, .int .i64 ((CD.length - 1 : Nat) : Int)] := by rw [<- hS]; exact OB7.set 3 _
    have O8 := O7.touch' T8 (fun hm => n12.out (List.mem_singleton.1 hm))
    clear hS y3 yf3 yz OB7 O7
    have z0 := O8.k0
    have zz := O8.lt
    have n0 := OB8.k0
    have nf0 := OB8.f0
    have n1 := OB8.k1
    have nf1 := OB8.f1
    have n2 := OB8.k2
    have nf2 := OB8.f2
    have n3 := OB8.k3
    have nf3 := OB8.f3
    have nz := OB8.lt
    go_upto_region 11 with fail
    generalize hS : World.setCell W8 _ _ = W9
    have T9 : Touch W8 W9 [bb] := by rw [<- hS]; exact (Touch.of_ext (XR _) _).setCell (by simp) _
    have OB9 : Own W9 bb 36 #[.slice a0 x.classes.length c0, .slice a1 CD.length c1, .slice a2 st.2.length c2, .int .i64 ((CD.length - 1 : Nat) : Int)] := by rw [<- hS]; exact OB8.set 1 _
    have OZ9 := OZ7.touch' (T8.trans T9) (by simp only [List.mem_singleton]; have := HS2.out; omega)
    clear hS z0 zz n0 nf0 n1 nf1 n2 nf2 n3 nf3 nz OB8 O8
    have n0 := OB9.k0
    have nf0 := OB9.f0
    have n1 := OB9.k1
    have nf1 := OB9.f1
    have n2 := OB9.k2
    have nf2 := OB9.f2
    have n3 := OB9.k3
    have nf3 := OB9.f3
    have nz := OB9.lt
    have z0 := OZ9.k0
    have zf0 := OZ9.f0
    have z1 := OZ9.k1
    have zf1 := OZ9.f1
    have z2 := OZ9.k2
    have zf2 := OZ9.f2
    have z3 := OZ9.k3
    have zf3 := OZ9.f3
    have zz := OZ9.lt
    go_wp2_with fail
    generalize hS : World.setCell (World.setCell (World.setCell (World.setCell W9 _ _) _ _) _ _) _ _ = W10
    obtain ⟨O10, T10⟩ := own4b OZ9 (.slice a0 x.classes.length c0) (.slice a1 CD.length c1) (.slice a2 st.2.length c2) (.int .i64 ((CD.length - 1 : Nat) : Int))
    rw [hS] at O10 T10
    clear hS n0 nf0 n1 nf1 n2 nf2 n3 nf3 nz z0 zf0 z1 zf1 z2 zf2 z3 zf3 zz OB9 OZ9
    have p0 := O10.k0
    have p1 := O10.k1
    have p2 := O10.k2
    have p3 := O10.k3
    have pz := O10.lt
    have TT : Touch w7 W10 [bb, w.heap.size + 1] := ((T8.trans T9).mono (by simp)).trans (T10.mono (by simp))
    have hge : ∀ j, j ∈ fp -> j ∉ [bb, w.heap.size + 1] := fun j hj hm => by
     have h1 := HF7.out.2.1.ge j hj
     have h2 := HS2.out
     rcases List.mem_cons.1 hm with rfl | hm
     · exact HF7.out.2.2.2 hj
     · have := List.mem_singleton.1 hm; omega
    have FIN : GivesC w (baseF (cmp 40) x) (.returned (.agg #[.slice a0 x.classes.length c0, .slice a1 CD.length c1, .slice a2 st.2.length c2, .int .i64 ((CD.length - 1 : Nat) : Int)])) W10 := ⟨_, fp, rfl, by rw [HBF.out]; exact HF7.out.1.touch TT hge, (HF7.out.2.1.touch TT hge).mono (by have := HS2.out; omega), Touch.ext (x2.trans X7.out) TT (fun j hj => by
     have h2 := HS2.out
     rcases List.mem_cons.1 hj with rfl | hj
     · omega
     · have := List.mem_singleton.1 hj; omega)⟩
    exact bodyPost_ret (v := .agg #[.slice a0 x.classes.length c0, .slice a1 CD.length c1, .slice a2 st.2.length c2, .int .i64 ((CD.length - 1 : Nat) : Int)]) (by simp [results, Tryz.results23, go_sem, p0, p1, p2, p3, pz]) rfl FIN
theorem zbase_rep (w : World) : RepF w zBase.d [.slice none 0 0, .slice none 0 0, .slice none 0 0, .int .i64 0] [] := by
 have hn : ∀ n, RepF w (.sl n []) [.slice none 0 0] [] := fun n => RepF.sl_iff.2 ⟨_, _, rfl, by simp, by simp, by simp, Or.inl ⟨rfl, rfl⟩⟩
 have := MCodeBase.shut (x := zBase) (hn 3) (hn 4) (hn 4)
 simpa [zBase] using this
def GivesB (w : World) (x : MCodeBase) (b : Bool) (e : Ending) (w' : World) : Prop := ∃ cs fp, e = .returned (.tuple #[.agg cs.toArray, .bool b]) /\ RepF w' x.d cs fp /\ Fresh w' w.heap.size fp /\ Ext w w'
def SysI : Prop := ∀ (x : MSystem) (cx : List Value) (w : World), Rep w x.d cx -> SysSz x -> MaxOk w -> Calls Tryz.prog 22 #[.agg cx.toArray] w fun e w' => e = .returned (.bool (prB (SysP x))) /\ Ext w w'
def SysS : Prop := ∀ (x : MSystem) (cx : List Value) (w : World), Rep w x.d cx -> SysSz x -> Calls Tryz.prog 16 #[.agg cx.toArray] w fun e w' => e = .returned (.bool (prB (SysP x))) /\ Ext w w'
theorem impl_CompileSystem_of (HI : Hid SysI) (x : MSystem) (cx : List Value) (w : World) (rx : Rep w x.d cx) (hz : SysSz x) (hM : MaxOk w) :
 Calls Tryz.prog 7 #[.agg cx.toArray] w (GivesB w (compV x) (prB (SysP x /\ BaseOk (baseF (cmp 40) x)))) := by
 have RX := LH rx
 obtain ⟨ac, cc, ar, cr, am, cm, rfl, -⟩ := MSystem.op_en rx
 have HZ := LH hz
 clear rx hz
 go_enter Tryz.func7, Tryz.ntmps7
 go_upto_region 1 with fail
 generalize hS : World.alloc (World.alloc w _) _ = W2
 have x2 : Ext w W2 := by rw [<- hS]; exact ((XR _).alloc _).alloc _
 have OSB : Own W2 w.heap.size 46 #[.slice ac x.classes.length cc, .slice ar x.routines.length cr, .string x.main.selector, .int .i64 x.main.owner, .bool x.main.cls, .int .i64 x.main.params, .int .i64 x.main.slots, .int .i64 x.main.body.kind, .string x.main.body.text, .int .i64 x.main.body.number, .int .i64 x.main.body.depth, .slice am x.main.body.kids.length cm] := by rw [<- hS]; exact (own_new w _ _).ext ((XR _).alloc _)
 have OZ : Own W2 (w.heap.size + 1) 36 #[.slice none 0 0, .slice none 0 0, .slice none 0 0, .int .i64 0] := by rw [<- hS]; exact own_new2 w _ _ _
 have HS2 : Hid (W2.heap.size = w.heap.size + 2) := LH (by rw [<- hS]; simp)
 clear hS
 have s0 := OSB.k0
 have sf0 := OSB.f0
 have s1 := OSB.k1
 have sf1 := OSB.f1
 have s2 := OSB.k2
 have sf2 := OSB.f2
 have s3 := OSB.k3
 have sf3 := OSB.f3
 have s4 := OSB.k4
 have sf4 := OSB.f4
 have s5 := OSB.k5
 have sf5 := OSB.f5
 have s6 : W2.cell? ⟨w.heap.size, 6, none⟩ = some (.int .i64 x.main.slots) := OSB.cell 6
 have sf6 := OSB.frozen 6
 have s7 : W2.cell? ⟨w.heap.size, 7, none⟩ = some (.int .i64 x.main.body.kind) := OSB.cell 7
 have sf7 := OSB.frozen 7
 have s8 : W2.cell? ⟨w.heap.size, 8, none⟩ = some (.string x.main.body.text) := OSB.cell 8
 have sf8 := OSB.frozen 8
 have s9 : W2.cell? ⟨w.heap.size, 9, none⟩ = some (.int .i64 x.main.body.number) := OSB.cell 9
 have sf9 := OSB.frozen 9
 have s10 : W2.cell? ⟨w.heap.size, 10, none⟩ = some (.int .i64 x.main.body.depth) := OSB.cell 10
 have sf10 := OSB.frozen 10
 have s11 : W2.cell? ⟨w.heap.size, 11, none⟩ = some (.slice am x.main.body.kids.length cm) := OSB.cell 11
 have sf11 := OSB.frozen 11
 have sz := OSB.lt
 cases hsp : prB (SysP x)
 · have hns : ¬ SysP x := fun h => by rw [prB_iff.2 h] at hsp; cases hsp
   have HPF : Hid (prB (SysP x /\ BaseOk (baseF (cmp 40) x)) = false) := LH (prB_ff (fun h => hns h.1))
   have HV : Hid (compV x = zBase) := LH (compV_no (fun h => hns h.1))
   clear hns
   go_wp2_with fail
   refine (HI.out x _ W2 (Rep.ext x2 RX.out) HZ.out (hM.ext x2)).mono ?_
   rw [hsp]
   rintro e w3 ⟨rfl, hx3⟩
   have OZ3 := OZ.ext hx3
   have X3 := LH (x2.trans hx3)
   clear s0 sf0 s1 sf1 s2 sf2 s3 sf3 s4 sf4 s5 sf5 s6 sf6 s7 sf7 s8 sf8 s9 sf9 s10 sf10 s11 sf11 sz OSB OZ
   have z0 := OZ3.k0
   have zf0 := OZ3.f0
   have z1 := OZ3.k1
   have zf1 := OZ3.f1
   have z2 := OZ3.k2
   have zf2 := OZ3.f2
   have z3 := OZ3.k3
   have zf3 := OZ3.f3
   have zz := OZ3.lt
   go_wp2_with fail
   generalize hS : World.setCell (World.setCell (World.setCell (World.setCell w3 _ _) _ _) _ _) _ _ = W4
   obtain ⟨O4, T4⟩ := own4b OZ3 (.slice none 0 0) (.slice none 0 0) (.slice none 0 0) (.int .i64 0)
   rw [hS] at O4 T4
   clear hS z0 zf0 z1 zf1 z2 zf2 z3 zf3 zz OZ3
   have p0 := O4.k0
   have p1 := O4.k1
   have p2 := O4.k2
   have p3 := O4.k3
   have pz := O4.lt
   have FIN : GivesB w (compV x) (prB (SysP x /\ BaseOk (baseF (cmp 40) x))) (.returned (.tuple #[.agg #[.slice none 0 0, .slice none 0 0, .slice none 0 0, .int .i64 0], .bool false])) W4 := by rw [HPF.out]; exact ⟨_, [], rfl, by rw [HV.out]; exact zbase_rep _, Fresh.nil _ _, Touch.ext X3.out T4 (fun j hj => by have := List.mem_singleton.1 hj; omega)⟩
   exact bodyPost_ret (v := .tuple #[.agg #[.slice none 0 0, .slice none 0 0, .slice none 0 0, .int .i64 0], .bool false]) (by simp [results, Tryz.results7, go_sem, p0, p1, p2, p3, pz]) rfl FIN
 · have hss : SysP x := prB_iff.1 hsp
   have HSS := LH hss
   clear hss
   go_wp2_with fail
   refine (HI.out x _ W2 (Rep.ext x2 RX.out) HZ.out (hM.ext x2)).mono ?_
   rw [hsp]
   rintro e w3 ⟨rfl, hx3⟩
   have OZ3 := OZ.ext hx3
   have OS3 := OSB.ext hx3
   have hx03 := x2.trans hx3
   have hs3 := hx3.size
   clear s0 sf0 s1 sf1 s2 sf2 s3 sf3 s4 sf4 s5 sf5 s6 sf6 s7 sf7 s8 sf8 s9 sf9 s10 sf10 s11 sf11 sz OSB OZ
   have s0 := OS3.k0
   have sf0 := OS3.f0
   have s1 := OS3.k1
   have sf1 := OS3.f1
   have s2 := OS3.k2
   have sf2 := OS3.f2
   have s3 := OS3.k3
   have sf3 := OS3.f3
   have s4 := OS3.k4
   have sf4 := OS3.f4
   have s5 := OS3.k5
   have sf5 := OS3.f5
   have s6 : w3.cell? ⟨w.heap.size, 6, none⟩ = some (.int .i64 x.main.slots) := OS3.cell 6
   have sf6 := OS3.frozen 6
   have s7 : w3.cell? ⟨w.heap.size, 7, none⟩ = some (.int .i64 x.main.body.kind) := OS3.cell 7
   have sf7 := OS3.frozen 7
   have s8 : w3.cell? ⟨w.heap.size, 8, none⟩ = some (.string x.main.body.text) := OS3.cell 8
   have sf8 := OS3.frozen 8
   have s9 : w3.cell? ⟨w.heap.size, 9, none⟩ = some (.int .i64 x.main.body.number) := OS3.cell 9
   have sf9 := OS3.frozen 9
   have s10 : w3.cell? ⟨w.heap.size, 10, none⟩ = some (.int .i64 x.main.body.depth) := OS3.cell 10
   have sf10 := OS3.frozen 10
   have s11 : w3.cell? ⟨w.heap.size, 11, none⟩ = some (.slice am x.main.body.kids.length cm) := OS3.cell 11
   have sf11 := OS3.frozen 11
   have sz := OS3.lt
   go_wp2_with fail
   refine (compile_at x _ w3 (Rep.ext hx03 RX.out) HSS).mono ?_
   rintro e w4 ⟨cs4, fp4, rfl, hr4, hf4, hx4⟩
   obtain ⟨a0, c0, a1, c1, a2, c2, rfl, -⟩ := MCodeBase.op_en hr4.rep
   have R4 := LH (And.intro hr4 hf4)
   have OZ4 := OZ3.ext hx4
   have hx04 := hx03.trans hx4
   have hs4 := hx4.size
   clear hr4 hf4 s0 sf0 s1 sf1 s2 sf2 s3 sf3 s4 sf4 s5 sf5 s6 sf6 s7 sf7 s8 sf8 s9 sf9 s10 sf10 s11 sf11 sz OS3 OZ3 hx4
   go_upto_region 4 with fail
   generalize hS : World.alloc w4 _ = W5
   have x5 : Ext w4 W5 := by rw [<- hS]; exact (XR _).alloc _
   have OB : Own W5 w4.heap.size 36 #[.slice a0 (baseF (cmp 40) x).classes.length c0, .slice a1 (baseF (cmp 40) x).codes.length c1, .slice a2 (baseF (cmp 40) x).entries.length c2, .int .i64 (baseF (cmp 40) x).main] := by rw [<- hS]; exact own_new w4 _ _
   have R5 := LH (And.intro (R4.out.1.ext x5) (R4.out.2.ext x5))
   have OZ5 := OZ4.ext x5
   have hx05 := hx04.trans x5
   clear hS x5 R4 OZ4
   have n0 := OB.k0
   have nf0 := OB.f0
   have n1 := OB.k1
   have nf1 := OB.f1
   have n2 := OB.k2
   have nf2 := OB.f2
   have n3 := OB.k3
   have nf3 := OB.f3
   have nz := OB.lt
   go_wp2_with fail
   refine (sizes_at W5 W5 R5.out.1.rep (XR _)).mono ?_
   rintro e w6 ⟨⟨bb, rfl, hbb⟩, hx6⟩
   have R6 := LH (And.intro (R5.out.1.ext hx6) (R5.out.2.ext hx6))
   have OZ6 := OZ5.ext hx6
   have OB6 := OB.ext hx6
   have HX6 := LH (hx05.trans hx6)
   have HS3 : Hid (w.heap.size + 2 <= w3.heap.size) := LH (by have := HS2.out; omega)
   clear n0 nf0 n1 nf1 n2 nf2 n3 nf3 nz R5 OZ5 OB hx6 hx05
   have z0 := OZ6.k0
   have zf0 := OZ6.f0
   have z1 := OZ6.k1
   have zf1 := OZ6.f1
   have z2 := OZ6.k2
   have zf2 := OZ6.f2
   have z3 := OZ6.k3
   have zf3 := OZ6.f3
   have zz := OZ6.lt
   cases bb
   · have hno : ¬ BaseOk (baseF (cmp 40) x) := fun h => by have := hbb.2 h; cases this
     have HPF : Hid (prB (SysP x /\ BaseOk (baseF (cmp 40) x)) = false) := LH (prB_ff (fun h => hno h.2))
     have HV : Hid (compV x = zBase) := LH (compV_no (fun h => hno h.2))
     clear hno hbb
     go_wp2_with fail
     generalize hS : World.setCell (World.setCell (World.setCell (World.setCell w6 _ _) _ _) _ _) _ _ = W4
     obtain ⟨O4, T4⟩ := own4b OZ6 (.slice none 0 0) (.slice none 0 0) (.slice none 0 0) (.int .i64 0)
     rw [hS] at O4 T4
     clear hS z0 zf0 z1 zf1 z2 zf2 z3 zf3 zz OZ6
     have p0 := O4.k0
     have p1 := O4.k1
     have p2 := O4.k2
     have p3 := O4.k3
     have pz := O4.lt
     have FIN : GivesB w (compV x) (prB (SysP x /\ BaseOk (baseF (cmp 40) x))) (.returned (.tuple #[.agg #[.slice none 0 0, .slice none 0 0, .slice none 0 0, .int .i64 0], .bool false])) W4 := by rw [HPF.out]; exact ⟨_, [], rfl, by rw [HV.out]; exact zbase_rep _, Fresh.nil _ _, Touch.ext HX6.out T4 (fun j hj => by have := List.mem_singleton.1 hj; omega)⟩
     exact bodyPost_ret (v := .tuple #[.agg #[.slice none 0 0, .slice none 0 0, .slice none 0 0, .int .i64 0], .bool false]) (by simp [results, Tryz.results7, go_sem, p0, p1, p2, p3, pz]) rfl FIN
   · have hyes := hbb.1 rfl
     have HPF : Hid (prB (SysP x /\ BaseOk (baseF (cmp 40) x)) = true) := LH (prB_iff.2 ⟨HSS.out, hyes⟩)
     have HV : Hid (compV x = baseF (cmp 40) x) := LH (compV_yes HSS.out hyes)
     clear hyes hbb
     have n0 := OB6.k0
     have nf0 := OB6.f0
     have n1 := OB6.k1
     have nf1 := OB6.f1
     have n2 := OB6.k2
     have nf2 := OB6.f2
     have n3 := OB6.k3
     have nf3 := OB6.f3
     have nz := OB6.lt
     go_wp2_with fail
     generalize hS : World.setCell (World.setCell (World.setCell (World.setCell w6 _ _) _ _) _ _) _ _ = W4
     obtain ⟨O4, T4⟩ := own4b OZ6 (.slice a0 (baseF (cmp 40) x).classes.length c0) (.slice a1 (baseF (cmp 40) x).codes.length c1) (.slice a2 (baseF (cmp 40) x).entries.length c2) (.int .i64 (baseF (cmp 40) x).main)
     rw [hS] at O4 T4
     clear hS z0 zf0 z1 zf1 z2 zf2 z3 zf3 zz n0 nf0 n1 nf1 n2 nf2 n3 nf3 nz OZ6 OB6
     have p0 := O4.k0
     have p1 := O4.k1
     have p2 := O4.k2
     have p3 := O4.k3
     have pz := O4.lt
     have hge : ∀ j, j ∈ fp4 -> j ∉ [w.heap.size + 1] := fun j hj hm => by
      have h1 := R6.out.2.ge j hj
      have h2 := HS3.out
      have := List.mem_singleton.1 hm
      omega
     have FIN : GivesB w (compV x) (prB (SysP x /\ BaseOk (baseF (cmp 40) x))) (.returned (.tuple #[.agg #[.slice a0 (baseF (cmp 40) x).classes.length c0, .slice a1 (baseF (cmp 40) x).codes.length c1, .slice a2 (baseF (cmp 40) x).entries.length c2, .int .i64 (baseF (cmp 40) x).main], .bool true])) W4 := by rw [HPF.out]; exact ⟨_, fp4, rfl, by rw [HV.out]; exact R6.out.1.touch T4 hge, (R6.out.2.touch T4 hge).mono (by have := HS3.out; omega), Touch.ext HX6.out T4 (fun j hj => by have := List.mem_singleton.1 hj; omega)⟩
     exact bodyPost_ret (v := .tuple #[.agg #[.slice a0 (baseF (cmp 40) x).classes.length c0, .slice a1 (baseF (cmp 40) x).codes.length c1, .slice a2 (baseF (cmp 40) x).entries.length c2, .int .i64 (baseF (cmp 40) x).main], .bool true]) (by simp [results, Tryz.results7, go_sem, p0, p1, p2, p3, pz]) rfl FIN
theorem sput_any {B0 sb : Nat} {hd : Bool × Int × Int} {m : Rw} {s : CS} (x : MInstr) (w : World) (h : StS B0 sb hd m w s) (hr : s.2.length <= 1000000) :
 Calls Tryz.prog 104 #[.pointer (some ⟨sb, 0, none⟩), .agg #[.int .i64 x.op, .int .i64 x.a, .int .i64 x.b, .string x.text]] w (fun e w' => ∃ m', e = .returned (.int .i64 s.2.length) /\ StS B0 sb hd m' w' (pt s x) /\ Mv [sb] m w m' w') := by
 obtain ⟨OW, R⟩ := h
 have HR := LH R
 have hbw := OW.lt
 have hbB := (R.base sb (by simp)).1
 have HOB : Hid (∀ k, m.vl.ownBlock = some k -> k ≠ sb /\ k < w.heap.size) := LH fun k hk => ⟨fun e => (R.box sb (by simp)).1 (by rw [<- e]; exact Rw.mem_own.2 (Or.inl hk)), (Acc.ge R.li hk).2⟩
 clear R
 go_enter Tryz.func104, Tryz.ntmps104
 go_upto_region 1 with fail
 generalize hS : World.alloc w _ = W1
 have x1 : Ext w W1 := by rw [<- hS]; exact (XR _).alloc _
 have OX : Own W1 w.heap.size 147 #[.int .i64 x.op, .int .i64 x.a, .int .i64 x.b, .string x.text] := by rw [<- hS]; exact own_new w _ _
 have hs1 := x1.size
 clear hS
 have q0 := OX.k0
 have qf0 := OX.f0
 have q1 := OX.k1
 have qf1 := OX.f1
 have q2 := OX.k2
 have qf2 := OX.f2
 have q3 := OX.k3
 have qf3 := OX.f3
 have qz := OX.lt
 have HW1 := LH (OW.ext x1)
 have m1 : W1.cell? ⟨sb, 4, none⟩ = some m.vl := HW1.out.cell 4
 have mz := HW1.out.lt
 have XA : Hid (Ext W1 (W1.alloc (.cells #[.int .i64 x.op, .int .i64 x.a, .int .i64 x.b, .string x.text] 147)).drew) := LH (Ext.drew ((XR _).alloc _))
 have HDL : Hid ((s.2.map MInstr.d).length = s.2.length) := LH (by simp)
 have E1 : Hid (Acc B0 (W1.alloc (.cells #[.int .i64 x.op, .int .i64 x.a, .int .i64 x.b, .string x.text] 147)).drew 147 4 m.vl (s.2.map MInstr.d) []) := LH (Acc.ext HR.out.li (x1.trans XA.out))
 have HDS : Hid ((s.2 ++ [x]).map MInstr.d = s.2.map MInstr.d ++ [x.d]) := LH (by simp)
 generalize s.2.map MInstr.d = DS at *
 have E2 : Hid (RepF (W1.alloc (.cells #[.int .i64 x.op, .int .i64 x.a, .int .i64 x.b, .string x.text] 147)).drew (.sl 4 [x.d]) [.slice (some ⟨W1.heap.size, 0, none⟩) 1 1] [W1.heap.size]) := LH (RepF.ins_row ((own_new W1 _ _).ext (Ext.drew (XR _))))
 have hb1 : B0 <= (W1.alloc (.cells #[.int .i64 x.op, .int .i64 x.a, .int .i64 x.b, .string x.text] 147)).drew.heap.size := by have := XA.out.size; omega
 obtain ⟨i0, hi, hz0, hz1, hz2⟩ := info_parts insInfo
 go_region_law ((refine step_append_at rfl _ _ 86 rfl B0 147 i0 _ 4 40 Tryz.underlying86 hi hz0 hz1 hz2 rfl (by decide) m.vl DS [] rfl E1.out [x.d] _ 1 1 [W1.heap.size] rfl E2.out (Fresh.nil _ _) (fun k _ hm => nomatch hm) (by have := HDL.out; unfold maxLen; omega) (by have := HDL.out; omega) hb1 ?_; intro a7 k7 w7 ac hg hloc; have TG : Touch _ w7 m.vl.ownBlock.toList := (Touch.of_ext (XR _) _).grown hg (fun j hj => Or.inl (by simp [hj])); have O7 := (HW1.out.ext XA.out).touch' TG (fun hm => (HOB.out sb (by simpa using hm)).1 rfl); have c7 := O7.cell 4; have f7 := O7.f4; have z7 := O7.lt))
 all_goals
  have Ta : Touch w w7 m.vl.ownBlock.toList := (Touch.of_ext (x1.trans XA.out) _).trans TG
  have hl := HDL.out
  generalize hv1 : Value.slice a7 (DS.length + 1) k7 = v1 at *
  have HV1 := LH hv1
  have hown : ∀ k, v1.ownBlock = some k -> m.vl.ownBlock = some k ∨ w.heap.size <= k := fun k hk => by
   rcases hloc with e | e
   · rw [e] at hk; exact Or.inl hk
   · rw [e] at hk
     injection hk with hk
     have := XA.out.size
     exact Or.inr (by omega)
  have HA : AccI B0 w7 v1 (s.2 ++ [x]) := by unfold AccI; rw [HDS.out]; exact ac
  obtain ⟨R9, M9, T9⟩ := HR.out.put Ta HA hown (b := sb) (o := 4) (by simp) v1
  generalize hS : World.setCell w7 _ v1 = W9 at *
  have OW9 : Own W9 sb 90 #[m.vc, .bool hd.1, .int .i64 hd.2.1, .int .i64 hd.2.2, v1, .bool false] := by rw [<- hS]; exact O7.set 4 v1
  have FIN : Hid (StS B0 sb hd ⟨v1, m.vc, m.fp⟩ W9 (pt s x) /\ Mv [sb] m w ⟨v1, m.vc, m.fp⟩ W9) := LH ⟨⟨OW9, R9⟩, M9⟩
  have n1 : W9.cell? ⟨sb, 4, none⟩ = some (.slice a7 (DS.length + 1) k7) := by rw [HV1.out]; exact OW9.cell 4
  clear hS R9 M9 T9 OW9 O7 c7 f7 z7 TG Ta HA ac hg hloc hown m1 mz hi hz0 hz1 hz2 hv1 HV1 q0 qf0 q1 qf1 q2 qf2 q3 qf3 qz
  go_wp2_with fail
  go_ret
  exact ⟨_, ret_int (by omega), FIN.out.1, FIN.out.2⟩
theorem sop_any {B0 sb : Nat} {hd : Bool × Int × Int} {m : Rw} {s : CS} (k : Int) (w : World) (h : StS B0 sb hd m w s) (hr : s.2.length <= 1000000) :
 Calls Tryz.prog 79 #[.pointer (some ⟨sb, 0, none⟩), .int .i64 k] w (GotS B0 sb hd m w (pt s (iO k))) := by
 have HP := LH (sput_any (iO k) w h hr)
 clear h
 go_enter Tryz.func79, Tryz.ntmps79
 go_wp2_with fail
 refine HP.out.mono ?_
 rintro e w' ⟨m', rfl, h1, h2⟩
 have H1 := LH h1
 have H2 := LH h2
 clear h1 h2
 go_wp2_with fail
 go_end0
 exact ⟨m', rfl, H1.out, H2.out⟩
theorem shere_any {B0 sb : Nat} {hd : Bool × Int × Int} {m : Rw} {s : CS} (w : World) (h : StS B0 sb hd m w s) :
 Calls Tryz.prog 108 #[.pointer (some ⟨sb, 0, none⟩)] w (fun e w' => e = .returned (.int .i64 s.2.length) /\ w' = w) := by
 obtain ⟨ao, cap, gp, hv, -, -, -⟩ := AccI.rep h.2.li
 have m1 : w.cell? ⟨sb, 4, none⟩ = some (.slice ao s.2.length cap) := by rw [<- hv]; exact h.1.cell 4
 have mz := h.1.lt
 clear h hv
 go_enter Tryz.func108, Tryz.ntmps108
 go_wp2_with fail
 go_ret
 exact ⟨rfl, rfl⟩
theorem StS.ext {B0 sb : Nat} {hd : Bool × Int × Int} {m : Rw} {w w' : World} {s : CS} (h : StS B0 sb hd m w s) (hx : Ext w w') : StS B0 sb hd m w' s :=
 ⟨h.1.ext hx, h.2.touch (Touch.of_ext hx []) (fun k hk => nomatch hk)⟩
def NodeS (f : CF) (c : MCore) : Prop := ∀ (cs : List Value) (w0 w : World) (B0 sb : Nat) (hd : Bool × Int × Int) (m : Rw) (s : CS), Rep w0 c.d cs -> Ext w0 w -> w0.heap.size <= B0 -> StS B0 sb hd m w s -> Room s c.nodes -> Calls Tryz.prog 78 #[.pointer (some ⟨sb, 0, none⟩), .agg cs.toArray] w (GotS B0 sb hd m w (f c s))
theorem sall_at {f : CF} (hf : Few f) (l : List MCore) (HL : Hid (∀ z, z ∈ l -> NodeS f z)) {B0 sb : Nat} {hd : Bool × Int × Int} {m : Rw} {s : CS} (va : Value) (w0 w : World) (rl : Rep w0 (MCores l) [va]) (hx : Ext w0 w) (hB : w0.heap.size <= B0) (h : StS B0 sb hd m w s) (hr : Room s (MCore.nodesL l)) :
 Calls Tryz.prog 105 #[.pointer (some ⟨sb, 0, none⟩), va] w (GotS B0 sb hd m w (allF f l s)) := by
 obtain ⟨ao, ca, ba, oa, e1, hla, hma, pa, hra⟩ := Rep.slmap rl
 simp only [List.cons.injEq, and_true] at e1
 subst e1
 unfold maxLen at hma
 have HR := LH hr
 have HS0 := LH h
 have HX0 := LH hx
 clear rl hr h hx
 go_enter Tryz.func105, Tryz.ntmps105
 go_wp2_with fail
 go_loopw [4] (fun iv wr => ∃ (k : Nat) (m' : Rw), k <= l.length /\ iv = .int .i64 k /\ Hid (StS B0 sb hd m' wr (allF f (l.take k) s)) /\ Hid (Mv [sb] m w m' wr)) (fun iv _ => l.length - (intOf iv).toNat)
 case atStart => exact ⟨0, m, Nat.zero_le _, rfl, HS0, LH (Mv.ext (XR _))⟩
 case round =>
  obtain ⟨k, m', hk, rfl, HS, HM⟩ := hrel
  have hxr : Ext w0 wr := HS0.out.2.ext0 HX0.out hB HM.out
  by_cases hlt : k < l.length
  · obtain rfl := pa (by omega)
    obtain ⟨ea, la, cl, ra⟩ := hra k l[k] (by simp [hlt])
    obtain ⟨aa0, cc0, rfl, -⟩ := MCore.op_en ra
    have t0 := hxr.cell (show w0.cell? ⟨ba, oa + k * 5, none⟩ = some _ from cl 0 (by omega))
    have t1 := hxr.cell (show w0.cell? ⟨ba, oa + k * 5 + 1, none⟩ = some _ from cl 1 (by omega))
    have t2 := hxr.cell (show w0.cell? ⟨ba, oa + k * 5 + 2, none⟩ = some _ from cl 2 (by omega))
    have t3 := hxr.cell (show w0.cell? ⟨ba, oa + k * 5 + 3, none⟩ = some _ from cl 3 (by omega))
    have t4 := hxr.cell (show w0.cell? ⟨ba, oa + k * 5 + 4, none⟩ = some _ from cl 4 (by omega))
    clear cl la hra pa
    have HN := LH (HL.out l[k] (List.getElem_mem hlt))
    have HRM : Hid (Room (allF f (l.take k) s) l[k].nodes) := LH (Room.adds (n := MCore.nodesL (l.take k)) (HR.out.mono (by rw [<- MCore.nodesL_succ hlt]; exact MCore.nodesL_take l (k + 1))) (allF_adds hf (l.take k) s))
    have HSC : Hid (allF f (l.take (k + 1)) s = f l[k] (allF f (l.take k) s)) := LH (allF_succ f hlt s)
    go_wp2_with fail
    refine (HN.out _ w0 wr B0 sb hd m' _ ra hxr hB HS.out HRM.out).mono ?_
    rintro e w6 ⟨m6, rfl, h6, k6⟩
    rw [<- HSC.out] at h6
    have HS6 := LH h6
    have HM6 := LH (HM.out.trans k6)
    clear h6 k6 HS HM t0 t1 t2 t3 t4 hxr
    go_wp2_with fail
    go_roundw
    case rel => exact ⟨k + 1, m6, by omega, by go_num, HS6, HM6⟩
    case measure => simp [intOf]; omega
  · obtain rfl : k = l.length := by omega
    have HS2 : Hid (StS B0 sb hd m' wr (allF f l s)) := LH (by have := HS.out; rw [List.take_length] at this; exact this)
    clear HS
    go_wp2_with fail
    go_end0
    exact ⟨m', rfl, HS2.out, HM.out⟩
end Go.Proofs.YtlaclfeljimffaaGreatDoor
