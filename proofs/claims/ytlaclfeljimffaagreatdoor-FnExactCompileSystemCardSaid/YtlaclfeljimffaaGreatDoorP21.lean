/-
  SEVERAL TEXTS IN ONE: CONTRACTS: the program's writer: boxes, blocks and stores; CONTRACTS: the program's writer: blocks, sequences and cascades.
  Conditions: those that each lemma states.
-/
import Derived.Test.YtlaclfeljimffaaGreatDoorRows
import Derived.Test.YtlaclfeljimffaaGreatDoorP20
namespace Go.Proofs.YtlaclfeljimffaaGreatDoor
open Go.RowKit
set_option maxHeartbeats 8000000
set_option maxRecDepth 100000
set_option linter.unusedSimpArgs false
set_option linter.unusedVariables false
theorem Kp.ext {w0 w W wS : World} {B0 wb cb kb : Nat} {C : Array Value} {m0 m : Rw} {s : CS} (h : Kp w0 B0 wb cb kb C m0 wS m w s) (x : Ext w W) : Kp w0 B0 wb cb kb C m0 wS m W s :=
 ⟨h.1.ext x, h.2.1.trans (Mv.ext x), h.2.2.1.trans x, h.2.2.2.mv (Mv.ext x)⟩
theorem KeepB.new {w W : World} {B0 wb cb : Nat} {C : Array Value} {m : Rw} {s : CS} (h : StI B0 wb cb m w s) (O : Own W w.heap.size 42 C) : KeepB wb cb w.heap.size m W C :=
 ⟨O, by have := h.1.lt; omega, by have := h.2.1.lt; omega, fun hm => by have := (h.2.2.1.ge (List.mem_append_right _ hm)).2; omega⟩
theorem kidC_get {c : MCore} {i : Nat} (h : i < c.kids.length) : kidC c i = c.kids[i] := by
 unfold kidC
 rw [List.getD_eq_getElem?_getD, List.getElem?_eq_getElem h]; rfl
theorem StI.coded {B0 wb cb : Nat} {m m' : Rw} {w w' : World} {s : CS} {cs : List MCode} (h : StI B0 wb cb m w s) (hv : m'.vl = m.vl) (O : Own w' cb 101 #[m'.vc]) (R : RowsC B0 [wb, cb] m' w' (cs, s.2)) (T : Touch w w' (cb :: m.vc.ownBlock.toList)) : StI B0 wb cb m' w' (cs, s.2) :=
 ⟨by rw [hv]; exact h.1.touch' T (fun hm => by
     rcases List.mem_cons.1 hm with e | hm
     · exact h.2.2.2 e
     · exact (h.2.2.1.box wb (by simp)).1 (Rw.mem_own.2 (Or.inr (by simpa using hm)))), O, R, h.2.2.2⟩
theorem StI.mod {B0 wb cb : Nat} {m : Rw} {w : World} {s : CS} (h : StI B0 wb cb m w s) {i : Nat} (hi : i < s.2.length) : ∃ g cap, m.vl = .slice (some ⟨g, 0, none⟩) s.2.length cap /\ s.2.length <= cap /\ g < w.heap.size /\ (∀ f, f < 4 -> (w.cell? ⟨g, i * 4 + f, none⟩).isSome = true /\ w.frozen? ⟨g, i * 4 + f, none⟩ = false) /\
 ∀ W, Ext w W -> ∀ u, (StI B0 wb cb m (W.setCell ⟨g, i * 4 + 1, none⟩ (.int .i64 u)) (mdA s i u) /\ Mv [wb, cb] m w m (W.setCell ⟨g, i * 4 + 1, none⟩ (.int .i64 u))) /\ (StI B0 wb cb m (W.setCell ⟨g, i * 4 + 2, none⟩ (.int .i64 u)) (mdB s i u) /\ Mv [wb, cb] m w m (W.setCell ⟨g, i * 4 + 2, none⟩ (.int .i64 u))) /\ (StI B0 wb cb m (W.setCell ⟨g, i * 4, none⟩ (.int .i64 u)) (mdO s i u) /\ Mv [wb, cb] m w m (W.setCell ⟨g, i * 4, none⟩ (.int .i64 u))) := by
 obtain ⟨g, cap, hv, hc, hB, hg, hcs, -, -, -⟩ := AccI.at h.2.2.1.li hi
 refine ⟨g, cap, hv, hc, hg, hcs, fun W hW u => ?_⟩
 obtain ⟨g2, cap2, hv2, -, -, -, -, hA, hBB, hO⟩ := AccI.at (h.ext hW).2.2.1.li hi
 rw [hv] at hv2
 injection hv2 with e1 e2 e3
 injection e1 with e1
 injection e1 with e1
 subst e1
 have key : ∀ (o : Nat) (l : List MInstr), AccI B0 (W.setCell ⟨g, o, none⟩ (.int .i64 u)) m.vl l -> StI B0 wb cb m (W.setCell ⟨g, o, none⟩ (.int .i64 u)) (s.1, l) /\ Mv [wb, cb] m w m (W.setCell ⟨g, o, none⟩ (.int .i64 u)) := fun o l ha => by
  obtain ⟨r, mv, t, hn⟩ := (h.ext hW).2.2.1.mod hv (.int .i64 u) ha
  have n1 : wb ∉ [g] := fun hm => hn (by rw [<- List.mem_singleton.1 hm]; simp)
  have n2 : cb ∉ [g] := fun hm => hn (by rw [<- List.mem_singleton.1 hm]; simp)
  exact ⟨⟨(h.ext hW).1.touch' t n1, (h.ext hW).2.1.touch' t n2, r, h.2.2.2⟩, (Mv.ext hW).trans mv⟩
 exact ⟨key _ _ (hA u), key _ _ (hBB u), key _ _ (hO u)⟩
theorem nodeK16 {f : CF} (hf : Few f) {c : MCore} (hk : c.kind = 16) (hs : shp c) (HL : Hid (∀ z, z ∈ c.kids -> NodeI f z)) : NodeI (stepG f) c := by
 intro cs w0 w B0 wb cb m s rc hx hB h hr
 obtain ⟨aa0, cc0, rfl, rk⟩ := MCore.op_en rc
 have hE : stepG f c s = pt (codeF f true c.number c.depth (kidC c 0) s.1, s.2) (iN 15 ((codeF f true c.number c.depth (kidC c 0) s.1).length - 1 : Nat) 0 ⟨#[]⟩) := by simp [stepG, hk, blockF]
 rw [hE, hk]
 have HN : Hid (MCore.nodesL c.kids + 1 = c.nodes) := LH (by have := MCore.nodes_eq c; omega)
 have HRM := LH hr
 have HF := LH hf
 have HRK := LH rk
 obtain ⟨ao, ca, ba, oa, e1, hla, hma, pa, hra⟩ := Rep.slmap rk
 simp only [List.cons.injEq, and_true, Value.slice.injEq, List.length_map] at e1
 obtain ⟨rfl, -, rfl⟩ := e1
 unfold maxLen at hma
 have hk0 : 0 < c.kids.length := by have := hs.2.1 hk; omega
 have hK : kidC c 0 = c.kids[0] := kidC_get (by omega)
 rw [hK]
 have HNK := LH (HL.out c.kids[0] (List.getElem_mem (by omega)))
 have HKN : Hid (c.kids[0].nodes <= MCore.nodesL c.kids) := LH (MCore.nodes_mem (List.getElem_mem (by omega)))
 obtain ⟨CD, hCD⟩ : ∃ t, codeF f true c.number c.depth c.kids[0] s.1 = t := ⟨_, rfl⟩
 rw [hCD]
 have HCD := LH hCD
 obtain rfl := pa (by omega)
 obtain ⟨ea, la, cl, ra⟩ := hra 0 c.kids[0] (by simp)
 obtain ⟨aa1, cc1, rfl, rk1⟩ := MCore.op_en ra
 clear hra pa hK hCD
 clear hr hf hE rc rk hs
 go_enter Tryz.func90, Tryz.ntmps90
 go_upto_region 1 with fail
 generalize hS : World.alloc w _ = W1
 have x1 : Ext w W1 := by rw [<- hS]; exact (XR _).alloc _
 have OK : Own W1 w.heap.size 42 #[.int .i64 16, .string c.text, .int .i64 c.number, .int .i64 c.depth, .slice (some ⟨ba, oa, none⟩) c.kids.length cc0] := by rw [<- hS]; exact own_new w _ _
 have HK1 : Hid (Kp w0 B0 wb cb w.heap.size #[.int .i64 16, .string c.text, .int .i64 c.number, .int .i64 c.depth, .slice (some ⟨ba, oa, none⟩) c.kids.length cc0] m w m W1 s) := LH (Kp.new hx h x1 OK)
 clear hS h hx x1
 have q0 := OK.k0
 have qf0 := OK.f0
 have q1 := OK.k1
 have qf1 := OK.f1
 have q2 := OK.k2
 have qf2 := OK.f2
 have q3 := OK.k3
 have qf3 := OK.f3
 have q4 := OK.k4
 have qf4 := OK.f4
 have qz := OK.lt
 have y0 : W1.cell? ⟨wb, 0, none⟩ = some (.pointer (some ⟨cb, 0, none⟩)) := HK1.out.1.1.cell 0
 have yz := HK1.out.1.1.lt
 have t0 : W1.cell? ⟨ba, oa, none⟩ = some (.int .i64 c.kids[0].kind) := HK1.out.2.2.1.cell (by have := cl 0 (by omega); simpa using this)
 have t1 : W1.cell? ⟨ba, oa + 1, none⟩ = some (.string c.kids[0].text) := HK1.out.2.2.1.cell (by have := cl 1 (by omega); simpa using this)
 have t2 : W1.cell? ⟨ba, oa + 2, none⟩ = some (.int .i64 c.kids[0].number) := HK1.out.2.2.1.cell (by have := cl 2 (by omega); simpa using this)
 have t3 : W1.cell? ⟨ba, oa + 3, none⟩ = some (.int .i64 c.kids[0].depth) := HK1.out.2.2.1.cell (by have := cl 3 (by omega); simpa using this)
 have t4 : W1.cell? ⟨ba, oa + 4, none⟩ = some (.slice aa1 c.kids[0].kids.length cc1) := HK1.out.2.2.1.cell (by have := cl 4 (by omega); simpa using this)
 have HC := LH (fun (W : World) (hW : Ext W1 W) => code_at HF.out HNK.out true c.number c.depth W ra (HK1.out.2.2.1.trans hW) hB (HK1.out.1.ext hW).2.1 (HK1.out.1.ext hW).2.2.1 (by simp) ⟨by have := HRM.out.1; have := HN.out; have := HKN.out; simp only [List.length_nil]; omega, by have := HRM.out.2; have := HN.out; have := HKN.out; show s.1.length + _ <= _; omega⟩)
 rw [HCD.out] at HC
 clear cl la ra rk1
 go_upto_region 32 with fail
 go_region_law ((go_simp; go_wp2_with ((refine (HC.out _ (by first | exact Ext.drew (XR _) | exact XR _)).mono ?_; rintro e w5 ⟨m5, rfl, hv, h5, r5, k5, T5⟩; have HK5 := LH ((HK1.out.ext (by first | exact Ext.drew (XR _) | exact XR _)).step hB (StI.coded (HK1.out.1.ext (by first | exact Ext.drew (XR _) | exact XR _)) hv h5 r5 T5) k5)))))
 all_goals
  clear hv h5 r5 k5 T5 y0 yz t0 t1 t2 t3 t4 OK q0 qf0 q1 qf1 q2 qf2 q3 qf3 q4 qf4 qz HK1
  have OK := HK5.out.2.2.2.own
  have q0 := OK.k0
  have qf0 := OK.f0
  have q1 := OK.k1
  have qf1 := OK.f1
  have q2 := OK.k2
  have qf2 := OK.f2
  have q3 := OK.k3
  have qf3 := OK.f3
  have q4 := OK.k4
  have qf4 := OK.f4
  have qz := OK.lt
  go_wp2_with fail
  refine (put_any (iN 15 ((CD.length - 1 : Nat) : Int) 0 ⟨#[]⟩) w5 HK5.out.1 (by have := HRM.out.1; have := HN.out; show s.2.length <= _; omega)).mono ?_
  rintro e w6 ⟨m6, rfl, h, k⟩
  have HK6 := LH (HK5.out.step hB h k)
  clear h k OK HK5 q0 qf0 q1 qf1 q2 qf2 q3 qf3 q4 qf4 qz
  go_wp2_with fail
  go_end0
  exact ⟨_, rfl, HK6.out.1, HK6.out.2.1⟩
theorem nodeK17 {f : CF} (hf : Few f) {c : MCore} (hk : c.kind = 17) (hs : shp c) (HL : Hid (∀ z, z ∈ c.kids -> NodeI f z)) : NodeI (stepG f) c := by
 intro cs w0 w B0 wb cb m s rc hx hB h hr
 obtain ⟨aa0, cc0, rfl, rk⟩ := MCore.op_en rc
 have hE : stepG f c s = seqF f c.kids s := by simp [stepG, hk]
 rw [hE, hk]
 have HN : Hid (MCore.nodesL c.kids + 1 = c.nodes) := LH (by have := MCore.nodes_eq c; omega)
 have HRM := LH hr
 have HF := LH hf
 have HRK := LH rk
 obtain ⟨ao, ca, ba, oa, e1, hla, hma, pa, hra⟩ := Rep.slmap rk
 simp only [List.cons.injEq, and_true, Value.slice.injEq, List.length_map] at e1
 obtain ⟨rfl, -, rfl⟩ := e1
 unfold maxLen at hma
 clear hr hf hE rc rk hs
 go_enter Tryz.func90, Tryz.ntmps90
 go_upto_region 1 with fail
 generalize hS : World.alloc w _ = W1
 have x1 : Ext w W1 := by rw [<- hS]; exact (XR _).alloc _
 have OK : Own W1 w.heap.size 42 #[.int .i64 17, .string c.text, .int .i64 c.number, .int .i64 c.depth, .slice aa0 c.kids.length cc0] := by rw [<- hS]; exact own_new w _ _
 have HK1 : Hid (Kp w0 B0 wb cb w.heap.size #[.int .i64 17, .string c.text, .int .i64 c.number, .int .i64 c.depth, .slice aa0 c.kids.length cc0] m w m W1 s) := LH (Kp.new hx h x1 OK)
 clear hS h hx x1
 have q0 := OK.k0
 have qf0 := OK.f0
 have q1 := OK.k1
 have qf1 := OK.f1
 have q2 := OK.k2
 have qf2 := OK.f2
 have q3 := OK.k3
 have qf3 := OK.f3
 have q4 := OK.k4
 have qf4 := OK.f4
 have qz := OK.lt
 go_wp2_with fail
 go_loopw [142] (fun iv wr => ∃ (k : Nat) (m' : Rw), k <= c.kids.length /\ iv = .int .i64 k /\ Hid (Kp w0 B0 wb cb w.heap.size #[.int .i64 17, .string c.text, .int .i64 c.number, .int .i64 c.depth, .slice aa0 c.kids.length cc0] m w m' wr (seqF f (c.kids.take k) s))) (fun iv _ => c.kids.length - (intOf iv).toNat)
 case atStart => exact ⟨0, m, Nat.zero_le _, rfl, HK1⟩
 case round =>
  obtain ⟨k, m', hk2, rfl, HK⟩ := hrel
  by_cases hlt : k < c.kids.length
  · obtain rfl := pa (by omega)
    obtain ⟨ea, la, cl, ra⟩ := hra k c.kids[k] (by simp [hlt])
    obtain ⟨aa1, cc1, rfl, -⟩ := MCore.op_en ra
    have tt0 := HK.out.2.2.1.cell (show w0.cell? ⟨ba, oa + k * 5, none⟩ = some _ from cl 0 (by omega))
    have tt1 := HK.out.2.2.1.cell (show w0.cell? ⟨ba, oa + k * 5 + 1, none⟩ = some _ from cl 1 (by omega))
    have tt2 := HK.out.2.2.1.cell (show w0.cell? ⟨ba, oa + k * 5 + 2, none⟩ = some _ from cl 2 (by omega))
    have tt3 := HK.out.2.2.1.cell (show w0.cell? ⟨ba, oa + k * 5 + 3, none⟩ = some _ from cl 3 (by omega))
    have tt4 := HK.out.2.2.1.cell (show w0.cell? ⟨ba, oa + k * 5 + 4, none⟩ = some _ from cl 4 (by omega))
    clear cl la hra pa
    have HNK := LH (HL.out c.kids[k] (List.getElem_mem hlt))
    have HSC : Hid (seqF f (c.kids.take (k + 1)) s = f c.kids[k] (if k = 0 then seqF f (c.kids.take k) s else pt (seqF f (c.kids.take k) s) (iO 16))) := LH (seqF_succ f hlt s)
    have HRT : Hid ((seqF f (c.kids.take k) s).2.length + 1 + 8 * c.kids[k].nodes <= 1000000 /\ (seqF f (c.kids.take k) s).1.length + c.kids[k].nodes <= 1000000) := LH (by
     have h1 := seqF_adds HF.out c.kids s k hk2
     have h2 := MCore.nodesL_succ hlt
     have h3 := MCore.nodesL_take c.kids (k + 1)
     have h4 := HRM.out.1
     have h5 := HRM.out.2
     have h6 := HN.out
     omega)
    generalize seqF f (c.kids.take k) s = st at HSC HRT HK
    go_upto_region 38 with fail
    generalize hS : World.alloc wr _ = W5
    have x5 : Ext wr W5 := by rw [<- hS]; exact (XR _).alloc _
    have OM : Own W5 wr.heap.size 42 #[.int .i64 c.kids[k].kind, .string c.kids[k].text, .int .i64 c.kids[k].number, .int .i64 c.kids[k].depth, .slice aa1 c.kids[k].kids.length cc1] := by rw [<- hS]; exact own_new wr _ _
    have HMB : Hid (KeepB wb cb wr.heap.size m' W5 #[.int .i64 c.kids[k].kind, .string c.kids[k].text, .int .i64 c.kids[k].number, .int .i64 c.kids[k].depth, .slice aa1 c.kids[k].kids.length cc1]) := LH (KeepB.new HK.out.1 OM)
    have HK5 := LH (HK.out.ext x5)
    clear hS HK x5 tt0 tt1 tt2 tt3 tt4
    have n0 := OM.k0
    have nf0 := OM.f0
    have n1 := OM.k1
    have nf1 := OM.f1
    have n2 := OM.k2
    have nf2 := OM.f2
    have n3 := OM.k3
    have nf3 := OM.f3
    have n4 := OM.k4
    have nf4 := OM.f4
    have nz := OM.lt
    by_cases h0 : k = 0
    · subst h0
      rw [if_pos rfl] at HSC
      go_wp2_with fail
      refine (HNK.out _ w0 W5 B0 wb cb m' _ ra HK5.out.2.2.1 hB HK5.out.1 ⟨by have := HRT.out.1; omega, HRT.out.2⟩).mono ?_
      rintro e w6 ⟨m6, rfl, h6, k6⟩
      rw [<- HSC.out] at h6
      have HK6 := LH (HK5.out.step hB h6 k6)
      clear h6 k6 HK5 OM n0 nf0 n1 nf1 n2 nf2 n3 nf3 n4 nf4 nz
      go_wp2_with fail
      go_roundw
      case rel => exact ⟨0 + 1, m6, by omega, by go_num, HK6⟩
      case measure => simp [intOf]; omega
    · rw [if_neg h0] at HSC
      have hkp : 0 < k := by omega
      go_wp2_with fail
      refine (op_any 16 W5 HK5.out.1 (by have := HRT.out.1; omega)).mono ?_
      rintro e w6 ⟨m6, rfl, h6, k6⟩
      have HK6 := LH (HK5.out.step hB h6 k6)
      have HM6 := LH (HMB.out.mv k6)
      clear h6 k6 HK5 OM n0 nf0 n1 nf1 n2 nf2 n3 nf3 n4 nf4 nz
      have OM := HM6.out.own
      have n0 := OM.k0
      have nf0 := OM.f0
      have n1 := OM.k1
      have nf1 := OM.f1
      have n2 := OM.k2
      have nf2 := OM.f2
      have n3 := OM.k3
      have nf3 := OM.f3
      have n4 := OM.k4
      have nf4 := OM.f4
      have nz := OM.lt
      go_wp2_with fail
      refine (HNK.out _ w0 w6 B0 wb cb m6 _ ra HK6.out.2.2.1 hB HK6.out.1 ⟨by have := HRT.out.1; simp only [pt, List.length_append, List.length_singleton]; omega, HRT.out.2⟩).mono ?_
      rintro e w7 ⟨m7, rfl, h7, k7⟩
      rw [<- HSC.out] at h7
      have HK7 := LH (HK6.out.step hB h7 k7)
      clear h7 k7 HK6 OM n0 nf0 n1 nf1 n2 nf2 n3 nf3 n4 nf4 nz
      go_wp2_with fail
      go_roundw
      case rel => exact ⟨k + 1, m7, by omega, by go_num, HK7⟩
      case measure => simp [intOf]; omega
  · obtain rfl : k = c.kids.length := by omega
    have HK2 : Hid (Kp w0 B0 wb cb w.heap.size #[.int .i64 17, .string c.text, .int .i64 c.number, .int .i64 c.depth, .slice aa0 c.kids.length cc0] m w m' wr (seqF f c.kids s)) := LH (by have := HK.out; rw [List.take_length] at this; exact this)
    clear HK
    go_wp2_with fail
    go_end0
    exact ⟨_, rfl, HK2.out.1, HK2.out.2.1⟩
end Go.Proofs.YtlaclfeljimffaaGreatDoor
