/-
  CONTRACTS: the program's writer: the kinds with jumps.
  Conditions: those that each lemma states.
-/
import Derived.Test.YtlaclfeljimffaaGreatDoorRows
import Derived.BigRegion
import Derived.Test.YtlaclfeljimffaaGreatDoorP21
import Derived.Test.YtlaclfeljimffaaGreatDoorP14
namespace Go.Proofs.YtlaclfeljimffaaGreatDoor
open Go.RowKit
set_option maxHeartbeats 8000000
set_option maxRecDepth 100000
set_option linter.unusedSimpArgs false
set_option linter.unusedVariables false
theorem mod_last {α : Type} (l : List α) (x : α) (g : α -> α) : (l ++ [x]).modify l.length g = l ++ [g x] := by
 induction l with
 | nil => rfl
 | cons y l ih => simp only [List.cons_append, List.length_cons, List.modify_succ_cons, ih]
theorem mdO_pt (s : CS) (x : MInstr) (v : Int) : mdO (pt s x) s.2.length v = pt s { x with op := v } := by
 unfold mdO pt
 rw [mod_last]
theorem nodeK19 {f : CF} (hf : Few f) {c : MCore} (hk : c.kind = 19) (hs : shp c) (HL : Hid (∀ z, z ∈ c.kids -> NodeI f z)) : NodeI (stepG f) c := by
 intro cs w0 w B0 wb cb m s rc hx hB h hr
 obtain ⟨aa0, cc0, rfl, rk⟩ := MCore.op_en rc
 have hE : stepG f c s = mdA (mdB (f (kidC c 2) (mdA (pt (f (kidC c 1) (pt (f (kidC c 0) s) (iO 21))) (iO 20)) (f (kidC c 0) s).2.length (pt (f (kidC c 1) (pt (f (kidC c 0) s) (iO 21))) (iO 20)).2.length)) (f (kidC c 0) s).2.length (f (kidC c 2) (mdA (pt (f (kidC c 1) (pt (f (kidC c 0) s) (iO 21))) (iO 20)) (f (kidC c 0) s).2.length (pt (f (kidC c 1) (pt (f (kidC c 0) s) (iO 21))) (iO 20)).2.length)).2.length) (f (kidC c 1) (pt (f (kidC c 0) s) (iO 21))).2.length (f (kidC c 2) (mdA (pt (f (kidC c 1) (pt (f (kidC c 0) s) (iO 21))) (iO 20)) (f (kidC c 0) s).2.length (pt (f (kidC c 1) (pt (f (kidC c 0) s) (iO 21))) (iO 20)).2.length)).2.length := by simp [stepG, hk, ifF]
 rw [hE, hk]
 have HN : Hid (MCore.nodesL c.kids + 1 = c.nodes) := LH (by have := MCore.nodes_eq c; omega)
 have HRM := LH hr
 have HF := LH hf
 have HRK := LH rk
 obtain ⟨ao, ca, ba, oa, e1, hla, hma, pa, hra⟩ := Rep.slmap rk
 simp only [List.cons.injEq, and_true, Value.slice.injEq, List.length_map] at e1
 obtain ⟨rfl, -, rfl⟩ := e1
 unfold maxLen at hma
 have hk0 : 2 < c.kids.length := by have := hs; have hk := hk; unfold shp at this; omega
 obtain rfl := pa (by omega)
 obtain ⟨ea0, la0, cl0, ra0⟩ := hra 0 (kidC c 0) (by rw [kidC_get (by omega)]; simp)
 obtain ⟨aa1, cc1, rfl, rk1⟩ := MCore.op_en ra0
 have HN0 := LH (HL.out (kidC c 0) (by rw [kidC_get (by omega)]; exact List.getElem_mem (by omega)))
 obtain ⟨ea1, la1, cl1, ra1⟩ := hra 1 (kidC c 1) (by rw [kidC_get (by omega)]; simp)
 obtain ⟨aa2, cc2, rfl, rk2⟩ := MCore.op_en ra1
 have HN1 := LH (HL.out (kidC c 1) (by rw [kidC_get (by omega)]; exact List.getElem_mem (by omega)))
 obtain ⟨ea2, la2, cl2, ra2⟩ := hra 2 (kidC c 2) (by rw [kidC_get (by omega)]; simp)
 obtain ⟨aa3, cc3, rfl, rk3⟩ := MCore.op_en ra2
 have HN2 := LH (HL.out (kidC c 2) (by rw [kidC_get (by omega)]; exact List.getElem_mem (by omega)))
 have hks := kid_three (hs.2.2.1 hk)
 have a1 := hf (kidC c 0) s
 obtain ⟨s1, h1⟩ : ∃ t, f (kidC c 0) s = t := ⟨_, rfl⟩
 have a2 := hf (kidC c 1) (pt s1 (iO 21))
 obtain ⟨s2, h2⟩ : ∃ t, f (kidC c 1) (pt s1 (iO 21)) = t := ⟨_, rfl⟩
 obtain ⟨s3, h3⟩ : ∃ t, pt s2 (iO 20) = t := ⟨_, rfl⟩
 have a4 := hf (kidC c 2) (mdA s3 s1.2.length s3.2.length)
 obtain ⟨s4, h4⟩ : ∃ t, f (kidC c 2) (mdA s3 s1.2.length s3.2.length) = t := ⟨_, rfl⟩
 rw [h1, h2, h3, h4]
 rw [h1] at a1
 rw [h2] at a2
 rw [h4] at a4
 have e21 : (pt s1 (iO 21)).2.length = s1.2.length + 1 /\ (pt s1 (iO 21)).1 = s1.1 := pt_len _ _
 have e3 : s3.2.length = s2.2.length + 1 /\ s3.1 = s2.1 := by rw [<- h3]; exact pt_len _ _
 have e3m : (mdA s3 s1.2.length s3.2.length).2.length = s3.2.length /\ (mdA s3 s1.2.length s3.2.length).1 = s3.1 := mdA_len _ _ _
 have e4m : (mdB s4 s1.2.length s4.2.length).2.length = s4.2.length /\ (mdB s4 s1.2.length s4.2.length).1 = s4.1 := mdB_len _ _ _
 have HH1 := LH h1
 have HH2 := LH h2
 have HH3 := LH h3
 have HH4 := LH h4
 have HA : Hid (s1.2.length + 1 <= s2.2.length /\ s3.2.length = s2.2.length + 1 /\ s3.2.length <= s4.2.length /\ s4.2.length <= 1000000 /\ Room s ((kidC c 0).nodes) /\ Room (pt s1 (iO 21)) (kidC c 1).nodes /\ Room (mdA s3 s1.2.length s3.2.length) (kidC c 2).nodes /\ s1.2.length <= 1000000 /\ s2.2.length <= 1000000) := LH (by
  obtain ⟨r1, r2⟩ := hr
  have hnn := HN.out
  obtain ⟨b1, b2, b3, b4⟩ := a1
  obtain ⟨c1, c2, c3, c4⟩ := a2
  obtain ⟨d1, d2, d3, d4⟩ := a4
  obtain ⟨f1, f2⟩ := e21
  obtain ⟨f3, f4⟩ := e3
  obtain ⟨f5, f6⟩ := e3m
  rw [f2] at c3 c4
  rw [f6] at d3 d4
  refine ⟨by omega, by omega, by omega, by omega, ⟨by omega, by omega⟩, ⟨by omega, by rw [f2]; omega⟩, ⟨by omega, by rw [f6, f4]; rw [f4] at d3 d4; omega⟩, by omega, by omega⟩)
 clear a1 a2 a4 e21 e3 e3m e4m h1 h2 h3 h4 hks
 clear pa hra rk1 la0 rk2 la1 rk3 la2
 clear hr hf hE rc rk hs
 go_enter Tryz.func90, Tryz.ntmps90
 go_upto_region 1 with fail
 generalize hS : World.alloc w _ = W1
 have x1 : Ext w W1 := by rw [<- hS]; exact (XR _).alloc _
 have OK : Own W1 w.heap.size 42 #[.int .i64 19, .string c.text, .int .i64 c.number, .int .i64 c.depth, .slice (some ⟨ba, oa, none⟩) c.kids.length cc0] := by rw [<- hS]; exact own_new w _ _
 have HK1 : Hid (Kp w0 B0 wb cb w.heap.size #[.int .i64 19, .string c.text, .int .i64 c.number, .int .i64 c.depth, .slice (some ⟨ba, oa, none⟩) c.kids.length cc0] m w m W1 s) := LH (Kp.new hx h x1 OK)
 clear hS h hx x1
 have q0 := OK.k0
 have qf0 := OK.f0
 have q1 := OK.k1
 have qf1 := OK.f1
 have q2 := OK.k2
 have qf2 := OK.f2
 have q3 := OK.k3
 have qf3 := OK.f3
 have q4 := OK.k4
 have qf4 := OK.f4
 have qz := OK.lt
 have t0 : W1.cell? ⟨ba, oa, none⟩ = some (.int .i64 (kidC c 0).kind) := HK1.out.2.2.1.cell (by have := cl0 0 (by omega); simpa using this)
 have t1 : W1.cell? ⟨ba, oa + 1, none⟩ = some (.string (kidC c 0).text) := HK1.out.2.2.1.cell (by have := cl0 1 (by omega); simpa using this)
 have t2 : W1.cell? ⟨ba, oa + 2, none⟩ = some (.int .i64 (kidC c 0).number) := HK1.out.2.2.1.cell (by have := cl0 2 (by omega); simpa using this)
 have t3 : W1.cell? ⟨ba, oa + 3, none⟩ = some (.int .i64 (kidC c 0).depth) := HK1.out.2.2.1.cell (by have := cl0 3 (by omega); simpa using this)
 have t4 : W1.cell? ⟨ba, oa + 4, none⟩ = some (.slice aa1 (kidC c 0).kids.length cc1) := HK1.out.2.2.1.cell (by have := cl0 4 (by omega); simpa using this)
 go_wp2_with fail
 refine (HN0.out _ w0 W1 B0 wb cb _ _ ra0 HK1.out.2.2.1 hB HK1.out.1 (HA.out.2.2.2.2.1)).mono ?_
 rintro e w2 ⟨m2, rfl, h, k⟩
 rw [HH1.out] at h
 have HK2 := LH (HK1.out.step hB h k)
 clear h k OK HK1 q0 qf0 q1 qf1 q2 qf2 q3 qf3 q4 qf4 qz t0 t1 t2 t3 t4
 have OK := HK2.out.2.2.2.own
 have q0 := OK.k0
 have qf0 := OK.f0
 have q1 := OK.k1
 have qf1 := OK.f1
 have q2 := OK.k2
 have qf2 := OK.f2
 have q3 := OK.k3
 have qf3 := OK.f3
 have q4 := OK.k4
 have qf4 := OK.f4
 have qz := OK.lt
 go_wp2_with fail
 refine (op_any 21 w2 HK2.out.1 (HA.out.2.2.2.2.2.2.2.1)).mono ?_
 rintro e w3 ⟨m3, rfl, h, k⟩
 have HK3 := LH (HK2.out.step hB h k)
 clear h k OK HK2 q0 qf0 q1 qf1 q2 qf2 q3 qf3 q4 qf4 qz 
 have OK := HK3.out.2.2.2.own
 have q0 := OK.k0
 have qf0 := OK.f0
 have q1 := OK.k1
 have qf1 := OK.f1
 have q2 := OK.k2
 have qf2 := OK.f2
 have q3 := OK.k3
 have qf3 := OK.f3
 have q4 := OK.k4
 have qf4 := OK.f4
 have qz := OK.lt
 have t0 : w3.cell? ⟨ba, oa + 5, none⟩ = some (.int .i64 (kidC c 1).kind) := HK3.out.2.2.1.cell (by have := cl1 0 (by omega); simpa using this)
 have t1 : w3.cell? ⟨ba, oa + 6, none⟩ = some (.string (kidC c 1).text) := HK3.out.2.2.1.cell (by have := cl1 1 (by omega); simpa using this)
 have t2 : w3.cell? ⟨ba, oa + 7, none⟩ = some (.int .i64 (kidC c 1).number) := HK3.out.2.2.1.cell (by have := cl1 2 (by omega); simpa using this)
 have t3 : w3.cell? ⟨ba, oa + 8, none⟩ = some (.int .i64 (kidC c 1).depth) := HK3.out.2.2.1.cell (by have := cl1 3 (by omega); simpa using this)
 have t4 : w3.cell? ⟨ba, oa + 9, none⟩ = some (.slice aa2 (kidC c 1).kids.length cc2) := HK3.out.2.2.1.cell (by have := cl1 4 (by omega); simpa using this)
 go_wp2_with fail
 refine (HN1.out _ w0 w3 B0 wb cb _ _ ra1 HK3.out.2.2.1 hB HK3.out.1 (HA.out.2.2.2.2.2.1)).mono ?_
 rintro e w4 ⟨m4, rfl, h, k⟩
 rw [HH2.out] at h
 have HK4 := LH (HK3.out.step hB h k)
 clear h k OK HK3 q0 qf0 q1 qf1 q2 qf2 q3 qf3 q4 qf4 qz t0 t1 t2 t3 t4
 have OK := HK4.out.2.2.2.own
 have q0 := OK.k0
 have qf0 := OK.f0
 have q1 := OK.k1
 have qf1 := OK.f1
 have q2 := OK.k2
 have qf2 := OK.f2
 have q3 := OK.k3
 have qf3 := OK.f3
 have q4 := OK.k4
 have qf4 := OK.f4
 have qz := OK.lt
 go_wp2_with fail
 refine (op_any 20 w4 HK4.out.1 (HA.out.2.2.2.2.2.2.2.2)).mono ?_
 rintro e w5 ⟨m5, rfl, h, k⟩
 have HK5 := LH (HK4.out.step hB (by rw [HH3.out] at h; exact h) k)
 clear h k OK HK4 q0 qf0 q1 qf1 q2 qf2 q3 qf3 q4 qf4 qz 
 have OK := HK5.out.2.2.2.own
 have q0 := OK.k0
 have qf0 := OK.f0
 have q1 := OK.k1
 have qf1 := OK.f1
 have q2 := OK.k2
 have qf2 := OK.f2
 have q3 := OK.k3
 have qf3 := OK.f3
 have q4 := OK.k4
 have qf4 := OK.f4
 have qz := OK.lt
 obtain ⟨g, cap, hvl, hcap, hg, hcs, hM⟩ := StI.mod HK5.out.1 (i := s1.2.length) (by have := HA.out; omega)
 obtain ⟨hc0, hf0⟩ := hcs 1 (by omega)
 obtain ⟨u0, hc0⟩ := Option.isSome_iff_exists.1 hc0
 have HM := LH hM
 have y1 : w5.cell? ⟨wb, 1, none⟩ = some (.slice (some ⟨g, 0, none⟩) s3.2.length cap) := by rw [<- hvl]; exact HK5.out.1.1.cell 1
 have yz := HK5.out.1.1.lt
 have hlt : s1.2.length < s3.2.length := by have := HA.out; omega
 have hbd : s3.2.length <= 1000000 := by have := HA.out; omega
 clear hcs hM hvl
 go_upto_region 50 with fail
 go_region
 obtain ⟨h, k⟩ := (HM.out _ (XR _) (s3.2.length : Int)).1
 have h := h.ext (Ext.drew (XR _))
 have k := k.trans (Mv.ext (Ext.drew (XR _)))
 have HKN := LH (HK5.out.step hB h k)
 generalize hS : World.drew (World.setCell w5 _ _) = w6 at HKN ⊢
 have HK6 := HKN
 clear HKN h k OK HK5 HM hc0 hf0 y1 yz hg hcap hlt hbd hS q0 qf0 q1 qf1 q2 qf2 q3 qf3 q4 qf4 qz
 have OK := HK6.out.2.2.2.own
 have q0 := OK.k0
 have qf0 := OK.f0
 have q1 := OK.k1
 have qf1 := OK.f1
 have q2 := OK.k2
 have qf2 := OK.f2
 have q3 := OK.k3
 have qf3 := OK.f3
 have q4 := OK.k4
 have qf4 := OK.f4
 have qz := OK.lt
 have t0 : w6.cell? ⟨ba, oa + 10, none⟩ = some (.int .i64 (kidC c 2).kind) := HK6.out.2.2.1.cell (by have := cl2 0 (by omega); simpa using this)
 have t1 : w6.cell? ⟨ba, oa + 11, none⟩ = some (.string (kidC c 2).text) := HK6.out.2.2.1.cell (by have := cl2 1 (by omega); simpa using this)
 have t2 : w6.cell? ⟨ba, oa + 12, none⟩ = some (.int .i64 (kidC c 2).number) := HK6.out.2.2.1.cell (by have := cl2 2 (by omega); simpa using this)
 have t3 : w6.cell? ⟨ba, oa + 13, none⟩ = some (.int .i64 (kidC c 2).depth) := HK6.out.2.2.1.cell (by have := cl2 3 (by omega); simpa using this)
 have t4 : w6.cell? ⟨ba, oa + 14, none⟩ = some (.slice aa3 (kidC c 2).kids.length cc3) := HK6.out.2.2.1.cell (by have := cl2 4 (by omega); simpa using this)
 go_wp2_with fail
 refine (HN2.out _ w0 w6 B0 wb cb _ _ ra2 HK6.out.2.2.1 hB HK6.out.1 (HA.out.2.2.2.2.2.2.1)).mono ?_
 rintro e w7 ⟨m7, rfl, h, k⟩
 rw [HH4.out] at h
 have HK7 := LH (HK6.out.step hB h k)
 clear h k OK HK6 q0 qf0 q1 qf1 q2 qf2 q3 qf3 q4 qf4 qz t0 t1 t2 t3 t4
 have OK := HK7.out.2.2.2.own
 have q0 := OK.k0
 have qf0 := OK.f0
 have q1 := OK.k1
 have qf1 := OK.f1
 have q2 := OK.k2
 have qf2 := OK.f2
 have q3 := OK.k3
 have qf3 := OK.f3
 have q4 := OK.k4
 have qf4 := OK.f4
 have qz := OK.lt
 obtain ⟨g, cap, hvl, hcap, hg, hcs, hM⟩ := StI.mod HK7.out.1 (i := s1.2.length) (by have := HA.out; omega)
 obtain ⟨hc0, hf0⟩ := hcs 2 (by omega)
 obtain ⟨u0, hc0⟩ := Option.isSome_iff_exists.1 hc0
 have HM := LH hM
 have y1 : w7.cell? ⟨wb, 1, none⟩ = some (.slice (some ⟨g, 0, none⟩) s4.2.length cap) := by rw [<- hvl]; exact HK7.out.1.1.cell 1
 have yz := HK7.out.1.1.lt
 have hlt : s1.2.length < s4.2.length := by have := HA.out; omega
 have hbd : s4.2.length <= 1000000 := by have := HA.out; omega
 clear hcs hM hvl
 go_upto_region 52 with fail
 go_region
 obtain ⟨h, k⟩ := (HM.out _ (XR _) (s4.2.length : Int)).2.1
 have h := h.ext (Ext.drew (XR _))
 have k := k.trans (Mv.ext (Ext.drew (XR _)))
 have HKN := LH (HK7.out.step hB h k)
 generalize hS : World.drew (World.setCell w7 _ _) = w8 at HKN ⊢
 have HK8 := HKN
 clear HKN h k OK HK7 HM hc0 hf0 y1 yz hg hcap hlt hbd hS q0 qf0 q1 qf1 q2 qf2 q3 qf3 q4 qf4 qz
 have OK := HK8.out.2.2.2.own
 have q0 := OK.k0
 have qf0 := OK.f0
 have q1 := OK.k1
 have qf1 := OK.f1
 have q2 := OK.k2
 have qf2 := OK.f2
 have q3 := OK.k3
 have qf3 := OK.f3
 have q4 := OK.k4
 have qf4 := OK.f4
 have qz := OK.lt
 obtain ⟨g, cap, hvl, hcap, hg, hcs, hM⟩ := StI.mod HK8.out.1 (i := s2.2.length) (by have := HA.out; first | omega | (rw [(mdB_len _ _ _).1]; omega))
 rw [show (mdB s4 s1.2.length s4.2.length).2.length = s4.2.length from (mdB_len _ _ _).1] at hvl hcap
 obtain ⟨hc0, hf0⟩ := hcs 1 (by omega)
 obtain ⟨u0, hc0⟩ := Option.isSome_iff_exists.1 hc0
 have HM := LH hM
 have y1 : w8.cell? ⟨wb, 1, none⟩ = some (.slice (some ⟨g, 0, none⟩) s4.2.length cap) := by rw [<- hvl]; exact HK8.out.1.1.cell 1
 have yz := HK8.out.1.1.lt
 have hlt : s2.2.length < s4.2.length := by have := HA.out; first | omega | (rw [(mdB_len _ _ _).1]; omega)
 have hbd : s4.2.length <= 1000000 := by have := HA.out; omega
 clear hcs hM hvl
 go_upto_region 53 with fail
 go_region
 obtain ⟨h, k⟩ := (HM.out _ (XR _) (s4.2.length : Int)).1
 have h := h.ext (Ext.drew (XR _))
 have k := k.trans (Mv.ext (Ext.drew (XR _)))
 have HKN := LH (HK8.out.step hB h k)
 generalize hS : World.drew (World.setCell w8 _ _) = w9 at HKN ⊢
 have HK9 := HKN
 clear HKN h k OK HK8 HM hc0 hf0 y1 yz hg hcap hlt hbd hS q0 qf0 q1 qf1 q2 qf2 q3 qf3 q4 qf4 qz
 have OK := HK9.out.2.2.2.own
 have q0 := OK.k0
 have qf0 := OK.f0
 have q1 := OK.k1
 have qf1 := OK.f1
 have q2 := OK.k2
 have qf2 := OK.f2
 have q3 := OK.k3
 have qf3 := OK.f3
 have q4 := OK.k4
 have qf4 := OK.f4
 have qz := OK.lt
 go_wp2_with fail
 go_end0
 exact ⟨_, rfl, HK9.out.1, HK9.out.2.1⟩
theorem nodeK20z {f : CF} (hf : Few f) {c : MCore} (hk : c.kind = 20) (hn : c.number = 0) (hs : shp c) (HL : Hid (∀ z, z ∈ c.kids -> NodeI f z)) : NodeI (stepG f) c := by
 intro cs w0 w B0 wb cb m s rc hx hB h hr
 obtain ⟨aa0, cc0, rfl, rk⟩ := MCore.op_en rc
 have hE : stepG f c s = mdB (pt (mdA (pt (pt (f (kidC c 1) (pt (f (kidC c 0) (pt s (iO 23))) (iO 22))) (iO 16)) (iN 20 s.2.length 0 ⟨#[]⟩)) (f (kidC c 0) (pt s (iO 23))).2.length (pt (pt (f (kidC c 1) (pt (f (kidC c 0) (pt s (iO 23))) (iO 22))) (iO 16)) (iN 20 s.2.length 0 ⟨#[]⟩)).2.length) (iO 4)) (f (kidC c 0) (pt s (iO 23))).2.length (pt (mdA (pt (pt (f (kidC c 1) (pt (f (kidC c 0) (pt s (iO 23))) (iO 22))) (iO 16)) (iN 20 s.2.length 0 ⟨#[]⟩)) (f (kidC c 0) (pt s (iO 23))).2.length (pt (pt (f (kidC c 1) (pt (f (kidC c 0) (pt s (iO 23))) (iO 22))) (iO 16)) (iN 20 s.2.length 0 ⟨#[]⟩)).2.length) (iO 4)).2.length := by simp [stepG, hk, whileF, hn]
 rw [hE, hk]
 have HN : Hid (MCore.nodesL c.kids + 1 = c.nodes) := LH (by have := MCore.nodes_eq c; omega)
 have HRM := LH hr
 have HF := LH hf
 have HRK := LH rk
 obtain ⟨ao, ca, ba, oa, e1, hla, hma, pa, hra⟩ := Rep.slmap rk
 simp only [List.cons.injEq, and_true, Value.slice.injEq, List.length_map] at e1
 obtain ⟨rfl, -, rfl⟩ := e1
 unfold maxLen at hma
 have hk0 : 1 < c.kids.length := by have := hs; have hk := hk; unfold shp at this; omega
 obtain rfl := pa (by omega)
 obtain ⟨ea0, la0, cl0, ra0⟩ := hra 0 (kidC c 0) (by rw [kidC_get (by omega)]; simp)
 obtain ⟨aa1, cc1, rfl, rk1⟩ := MCore.op_en ra0
 have HN0 := LH (HL.out (kidC c 0) (by rw [kidC_get (by omega)]; exact List.getElem_mem (by omega)))
 obtain ⟨ea1, la1, cl1, ra1⟩ := hra 1 (kidC c 1) (by rw [kidC_get (by omega)]; simp)
 obtain ⟨aa2, cc2, rfl, rk2⟩ := MCore.op_en ra1
 have HN1 := LH (HL.out (kidC c 1) (by rw [kidC_get (by omega)]; exact List.getElem_mem (by omega)))
 have hks := kid_two (hs.2.2.2.1 hk)
 have HNZ := LH hn
 obtain ⟨s0, h0⟩ : ∃ t, pt s (iO 23) = t := ⟨_, rfl⟩
 have e0 : s0.2.length = s.2.length + 1 /\ s0.1 = s.1 := by rw [<- h0]; exact pt_len _ _
 have a1 := hf (kidC c 0) s0
 obtain ⟨s1, h1⟩ : ∃ t, f (kidC c 0) s0 = t := ⟨_, rfl⟩
 obtain ⟨sj, hj⟩ : ∃ t, pt s1 (iO 22) = t := ⟨_, rfl⟩
 have ej : sj.2.length = s1.2.length + 1 /\ sj.1 = s1.1 := by rw [<- hj]; exact pt_len _ _
 have a2 := hf (kidC c 1) sj
 obtain ⟨s2, h2⟩ : ∃ t, f (kidC c 1) sj = t := ⟨_, rfl⟩
 obtain ⟨s3, h3⟩ : ∃ t, pt s2 (iO 16) = t := ⟨_, rfl⟩
 have e3 : s3.2.length = s2.2.length + 1 /\ s3.1 = s2.1 := by rw [<- h3]; exact pt_len _ _
 obtain ⟨s4, h4⟩ : ∃ t, pt s3 (iN 20 s.2.length 0 ⟨#[]⟩) = t := ⟨_, rfl⟩
 have e4 : s4.2.length = s3.2.length + 1 /\ s4.1 = s3.1 := by rw [<- h4]; exact pt_len _ _
 have e5 := mdA_len s4 s1.2.length s4.2.length
 obtain ⟨s5, h5⟩ : ∃ t, mdA s4 s1.2.length s4.2.length = t := ⟨_, rfl⟩
 obtain ⟨s6, h6⟩ : ∃ t, pt s5 (iO 4) = t := ⟨_, rfl⟩
 have e6 : s6.2.length = s5.2.length + 1 /\ s6.1 = s5.1 := by rw [<- h6]; exact pt_len _ _
 rw [h0, h1, hj, h2, h3, h4, h5, h6]
 rw [h1] at a1
 rw [h2] at a2
 rw [h5] at e5
 have HH0 := LH h0
 have HH1 := LH h1
 have HHJ := LH hj
 have HH2 := LH h2
 have HH3 := LH h3
 have HH4 := LH h4
 have HH5 := LH h5
 have HH6 := LH h6
 have HA : Hid (s.2.length + 1 <= s1.2.length /\ s1.2.length + 1 = (pt s1 (iO 21)).2.length /\ s1.2.length + 1 <= s2.2.length /\ s3.2.length = s2.2.length + 1 /\ s4.2.length = s3.2.length + 1 /\ s6.2.length = s4.2.length + 1 /\ s5.2.length = s4.2.length /\ s6.2.length <= 1000000 /\ Room s0 ((kidC c 0).nodes) /\ Room sj (kidC c 1).nodes) := LH (by
  obtain ⟨r1, r2⟩ := hr
  have hnn := HN.out
  obtain ⟨b1, b2, b3, b4⟩ := a1
  obtain ⟨c1, c2, c3, c4⟩ := a2
  obtain ⟨f1, f2⟩ := e0
  obtain ⟨f3, f4⟩ := ej
  obtain ⟨f5, f6⟩ := e3
  obtain ⟨f7, f8⟩ := e4
  obtain ⟨f9, f10⟩ := e5
  obtain ⟨f11, f12⟩ := e6
  rw [f2] at b3 b4
  rw [f4] at c3 c4
  refine ⟨by omega, (pt_len _ _).1.symm, by omega, by omega, by omega, by omega, by omega, by omega, ⟨by omega, by rw [f2]; omega⟩, ⟨by omega, by rw [f4]; omega⟩⟩)
 clear a1 a2 e0 ej e3 e4 e5 e6 h0 h1 hj h2 h3 h4 h5 h6 hks hn
 clear pa hra rk1 la0 rk2 la1
 clear hr hf hE rc rk hs
 go_enter Tryz.func90, Tryz.ntmps90
 go_upto_region 1 with fail
 generalize hS : World.alloc w _ = W1
 have x1 : Ext w W1 := by rw [<- hS]; exact (XR _).alloc _
 have OK : Own W1 w.heap.size 42 #[.int .i64 20, .string c.text, .int .i64 c.number, .int .i64 c.depth, .slice (some ⟨ba, oa, none⟩) c.kids.length cc0] := by rw [<- hS]; exact own_new w _ _
 have HK1 : Hid (Kp w0 B0 wb cb w.heap.size #[.int .i64 20, .string c.text, .int .i64 c.number, .int .i64 c.depth, .slice (some ⟨ba, oa, none⟩) c.kids.length cc0] m w m W1 s) := LH (Kp.new hx h x1 OK)
 clear hS h hx x1
 have q0 := OK.k0
 have qf0 := OK.f0
 have q1 := OK.k1
 have qf1 := OK.f1
 have q2 := OK.k2
 have qf2 := OK.f2
 have q3 := OK.k3
 have qf3 := OK.f3
 have q4 := OK.k4
 have qf4 := OK.f4
 have qz := OK.lt
 go_wp2_with fail
 refine (op_any 23 W1 HK1.out.1 (by have := HA.out; omega)).mono ?_
 rintro e w2 ⟨m2, rfl, h, k⟩
 rw [HH0.out] at h
 have HK2 := LH (HK1.out.step hB h k)
 clear h k OK HK1 q0 qf0 q1 qf1 q2 qf2 q3 qf3 q4 qf4 qz 
 have OK := HK2.out.2.2.2.own
 have q0 := OK.k0
 have qf0 := OK.f0
 have q1 := OK.k1
 have qf1 := OK.f1
 have q2 := OK.k2
 have qf2 := OK.f2
 have q3 := OK.k3
 have qf3 := OK.f3
 have q4 := OK.k4
 have qf4 := OK.f4
 have qz := OK.lt
 have t0 : w2.cell? ⟨ba, oa, none⟩ = some (.int .i64 (kidC c 0).kind) := HK2.out.2.2.1.cell (by have := cl0 0 (by omega); simpa using this)
 have t1 : w2.cell? ⟨ba, oa + 1, none⟩ = some (.string (kidC c 0).text) := HK2.out.2.2.1.cell (by have := cl0 1 (by omega); simpa using this)
 have t2 : w2.cell? ⟨ba, oa + 2, none⟩ = some (.int .i64 (kidC c 0).number) := HK2.out.2.2.1.cell (by have := cl0 2 (by omega); simpa using this)
 have t3 : w2.cell? ⟨ba, oa + 3, none⟩ = some (.int .i64 (kidC c 0).depth) := HK2.out.2.2.1.cell (by have := cl0 3 (by omega); simpa using this)
 have t4 : w2.cell? ⟨ba, oa + 4, none⟩ = some (.slice aa1 (kidC c 0).kids.length cc1) := HK2.out.2.2.1.cell (by have := cl0 4 (by omega); simpa using this)
 go_wp2_with fail
 refine (HN0.out _ w0 w2 B0 wb cb _ _ ra0 HK2.out.2.2.1 hB HK2.out.1 (HA.out.2.2.2.2.2.2.2.2.1)).mono ?_
 rintro e w3 ⟨m3, rfl, h, k⟩
 rw [HH1.out] at h
 have HK3 := LH (HK2.out.step hB h k)
 clear h k OK HK2 q0 qf0 q1 qf1 q2 qf2 q3 qf3 q4 qf4 qz t0 t1 t2 t3 t4
 have OK := HK3.out.2.2.2.own
 have q0 := OK.k0
 have qf0 := OK.f0
 have q1 := OK.k1
 have qf1 := OK.f1
 have q2 := OK.k2
 have qf2 := OK.f2
 have q3 := OK.k3
 have qf3 := OK.f3
 have q4 := OK.k4
 have qf4 := OK.f4
 have qz := OK.lt
 go_wp2_with fail
 refine (op_any 21 w3 HK3.out.1 (by have := HA.out; omega)).mono ?_
 rintro e w4 ⟨m4, rfl, h, k⟩
 have HK4 := LH (HK3.out.step hB h k)
 clear h k OK HK3 q0 qf0 q1 qf1 q2 qf2 q3 qf3 q4 qf4 qz 
 have OK := HK4.out.2.2.2.own
 have q0 := OK.k0
 have qf0 := OK.f0
 have q1 := OK.k1
 have qf1 := OK.f1
 have q2 := OK.k2
 have qf2 := OK.f2
 have q3 := OK.k3
 have qf3 := OK.f3
 have q4 := OK.k4
 have qf4 := OK.f4
 have qz := OK.lt
 have hn := HNZ.out
 obtain ⟨g, cap, hvl, hcap, hg, hcs, hM⟩ := StI.mod HK4.out.1 (i := s1.2.length) (by have := HA.out; omega)
 obtain ⟨hc0, hf0⟩ := hcs 0 (by omega)
 rw [Nat.add_zero] at hc0 hf0
 obtain ⟨u0, hc0⟩ := Option.isSome_iff_exists.1 hc0
 have HM := LH hM
 have y1 : w4.cell? ⟨wb, 1, none⟩ = some (.slice (some ⟨g, 0, none⟩) (pt s1 (iO 21)).2.length cap) := by rw [<- hvl]; exact HK4.out.1.1.cell 1
 have yz := HK4.out.1.1.lt
 have hlt : s1.2.length < (pt s1 (iO 21)).2.length := by have := HA.out; omega
 have hbd : (pt s1 (iO 21)).2.length <= 1000000 := by have := HA.out; omega
 clear hcs hM hvl
 go_upto_region 60 with fail
 obtain ⟨h, k⟩ := (HM.out _ (XR _) 22).2.2
 have HKN := LH (HK4.out.step hB h k)
 clear hn
 rw [mdO_pt] at HKN
 generalize hS : World.setCell w4 _ _ = w5 at HKN ⊢
 have HKN : Hid (Kp w0 B0 wb cb w.heap.size #[.int .i64 20, .string c.text, .int .i64 c.number, .int .i64 c.depth, .slice (some ⟨ba, oa, none⟩) c.kids.length cc0] m w m4 w5 sj) := LH (by rw [<- HHJ.out]; exact HKN.out)
 have HK5 := HKN
 clear HKN h k OK HK4 HM hc0 hf0 y1 yz hg hcap hlt hbd hS q0 qf0 q1 qf1 q2 qf2 q3 qf3 q4 qf4 qz
 have OK := HK5.out.2.2.2.own
 have q0 := OK.k0
 have qf0 := OK.f0
 have q1 := OK.k1
 have qf1 := OK.f1
 have q2 := OK.k2
 have qf2 := OK.f2
 have q3 := OK.k3
 have qf3 := OK.f3
 have q4 := OK.k4
 have qf4 := OK.f4
 have qz := OK.lt
 have t0 : w5.cell? ⟨ba, oa + 5, none⟩ = some (.int .i64 (kidC c 1).kind) := HK5.out.2.2.1.cell (by have := cl1 0 (by omega); simpa using this)
 have t1 : w5.cell? ⟨ba, oa + 6, none⟩ = some (.string (kidC c 1).text) := HK5.out.2.2.1.cell (by have := cl1 1 (by omega); simpa using this)
 have t2 : w5.cell? ⟨ba, oa + 7, none⟩ = some (.int .i64 (kidC c 1).number) := HK5.out.2.2.1.cell (by have := cl1 2 (by omega); simpa using this)
 have t3 : w5.cell? ⟨ba, oa + 8, none⟩ = some (.int .i64 (kidC c 1).depth) := HK5.out.2.2.1.cell (by have := cl1 3 (by omega); simpa using this)
 have t4 : w5.cell? ⟨ba, oa + 9, none⟩ = some (.slice aa2 (kidC c 1).kids.length cc2) := HK5.out.2.2.1.cell (by have := cl1 4 (by omega); simpa using this)
 go_wp2_with fail
 refine (HN1.out _ w0 w5 B0 wb cb _ _ ra1 HK5.out.2.2.1 hB HK5.out.1 (HA.out.2.2.2.2.2.2.2.2.2)).mono ?_
 rintro e w6 ⟨m6, rfl, h, k⟩
 rw [HH2.out] at h
 have HK6 := LH (HK5.out.step hB h k)
 clear h k OK HK5 q0 qf0 q1 qf1 q2 qf2 q3 qf3 q4 qf4 qz t0 t1 t2 t3 t4
 have OK := HK6.out.2.2.2.own
 have q0 := OK.k0
 have qf0 := OK.f0
 have q1 := OK.k1
 have qf1 := OK.f1
 have q2 := OK.k2
 have qf2 := OK.f2
 have q3 := OK.k3
 have qf3 := OK.f3
 have q4 := OK.k4
 have qf4 := OK.f4
 have qz := OK.lt
 go_wp2_with fail
 refine (op_any 16 w6 HK6.out.1 (by have := HA.out; omega)).mono ?_
 rintro e w7 ⟨m7, rfl, h, k⟩
 rw [HH3.out] at h
 have HK7 := LH (HK6.out.step hB h k)
 clear h k OK HK6 q0 qf0 q1 qf1 q2 qf2 q3 qf3 q4 qf4 qz 
 have OK := HK7.out.2.2.2.own
 have q0 := OK.k0
 have qf0 := OK.f0
 have q1 := OK.k1
 have qf1 := OK.f1
 have q2 := OK.k2
 have qf2 := OK.f2
 have q3 := OK.k3
 have qf3 := OK.f3
 have q4 := OK.k4
 have qf4 := OK.f4
 have qz := OK.lt
 go_wp2_with fail
 refine (put_any (iN 20 s.2.length 0 ⟨#[]⟩) w7 HK7.out.1 (by have := HA.out; omega)).mono ?_
 rintro e w8 ⟨m8, rfl, h, k⟩
 rw [HH4.out] at h
 have HK8 := LH (HK7.out.step hB h k)
 clear h k OK HK7 q0 qf0 q1 qf1 q2 qf2 q3 qf3 q4 qf4 qz 
 have OK := HK8.out.2.2.2.own
 have q0 := OK.k0
 have qf0 := OK.f0
 have q1 := OK.k1
 have qf1 := OK.f1
 have q2 := OK.k2
 have qf2 := OK.f2
 have q3 := OK.k3
 have qf3 := OK.f3
 have q4 := OK.k4
 have qf4 := OK.f4
 have qz := OK.lt
 obtain ⟨g, cap, hvl, hcap, hg, hcs, hM⟩ := StI.mod HK8.out.1 (i := s1.2.length) (by have := HA.out; omega)
 obtain ⟨hc0, hf0⟩ := hcs 1 (by omega)
 obtain ⟨u0, hc0⟩ := Option.isSome_iff_exists.1 hc0
 have HM := LH hM
 have y1 : w8.cell? ⟨wb, 1, none⟩ = some (.slice (some ⟨g, 0, none⟩) s4.2.length cap) := by rw [<- hvl]; exact HK8.out.1.1.cell 1
 have yz := HK8.out.1.1.lt
 have hlt : s1.2.length < s4.2.length := by have := HA.out; omega
 have hbd : s4.2.length <= 1000000 := by have := HA.out; omega
 clear hcs hM hvl
 go_upto_region 63 with fail
 go_region
 obtain ⟨h, k⟩ := (HM.out _ (XR _) (s4.2.length : Int)).1
 have h := h.ext (Ext.drew (XR _))
 have k := k.trans (Mv.ext (Ext.drew (XR _)))
 rw [HH5.out] at h
 have HKN := LH (HK8.out.step hB h k)
 generalize hS : World.drew (World.setCell w8 _ _) = w9 at HKN ⊢
 have HK9 := HKN
 clear HKN h k OK HK8 HM hc0 hf0 y1 yz hg hcap hlt hbd hS q0 qf0 q1 qf1 q2 qf2 q3 qf3 q4 qf4 qz
 have OK := HK9.out.2.2.2.own
 have q0 := OK.k0
 have qf0 := OK.f0
 have q1 := OK.k1
 have qf1 := OK.f1
 have q2 := OK.k2
 have qf2 := OK.f2
 have q3 := OK.k3
 have qf3 := OK.f3
 have q4 := OK.k4
 have qf4 := OK.f4
 have qz := OK.lt
 go_wp2_with fail
 refine (op_any 4 w9 HK9.out.1 (by have := HA.out; omega)).mono ?_
 rintro e w10 ⟨m10, rfl, h, k⟩
 rw [HH6.out] at h
 have HK10 := LH (HK9.out.step hB h k)
 clear h k OK HK9 q0 qf0 q1 qf1 q2 qf2 q3 qf3 q4 qf4 qz 
 have OK := HK10.out.2.2.2.own
 have q0 := OK.k0
 have qf0 := OK.f0
 have q1 := OK.k1
 have qf1 := OK.f1
 have q2 := OK.k2
 have qf2 := OK.f2
 have q3 := OK.k3
 have qf3 := OK.f3
 have q4 := OK.k4
 have qf4 := OK.f4
 have qz := OK.lt
 obtain ⟨g, cap, hvl, hcap, hg, hcs, hM⟩ := StI.mod HK10.out.1 (i := s1.2.length) (by have := HA.out; omega)
 obtain ⟨hc0, hf0⟩ := hcs 2 (by omega)
 obtain ⟨u0, hc0⟩ := Option.isSome_iff_exists.1 hc0
 have HM := LH hM
 have y1 : w10.cell? ⟨wb, 1, none⟩ = some (.slice (some ⟨g, 0, none⟩) s6.2.length cap) := by rw [<- hvl]; exact HK10.out.1.1.cell 1
 have yz := HK10.out.1.1.lt
 have hlt : s1.2.length < s6.2.length := by have := HA.out; omega
 have hbd : s6.2.length <= 1000000 := by have := HA.out; omega
 clear hcs hM hvl
 go_upto_region 65 with fail
 go_region
 obtain ⟨h, k⟩ := (HM.out _ (XR _) (s6.2.length : Int)).2.1
 have h := h.ext (Ext.drew (XR _))
 have k := k.trans (Mv.ext (Ext.drew (XR _)))
 have HKN := LH (HK10.out.step hB h k)
 generalize hS : World.drew (World.setCell w10 _ _) = w11 at HKN ⊢
 have HK11 := HKN
 clear HKN h k OK HK10 HM hc0 hf0 y1 yz hg hcap hlt hbd hS q0 qf0 q1 qf1 q2 qf2 q3 qf3 q4 qf4 qz
 have OK := HK11.out.2.2.2.own
 have q0 := OK.k0
 have qf0 := OK.f0
 have q1 := OK.k1
 have qf1 := OK.f1
 have q2 := OK.k2
 have qf2 := OK.f2
 have q3 := OK.k3
 have qf3 := OK.f3
 have q4 := OK.k4
 have qf4 := OK.f4
 have qz := OK.lt
 go_wp2_with fail
 go_end0
 exact ⟨_, rfl, HK11.out.1, HK11.out.2.1⟩
theorem nodeK20n {f : CF} (hf : Few f) {c : MCore} (hk : c.kind = 20) (hn : ¬ c.number = 0) (hs : shp c) (HL : Hid (∀ z, z ∈ c.kids -> NodeI f z)) : NodeI (stepG f) c := by
 intro cs w0 w B0 wb cb m s rc hx hB h hr
 obtain ⟨aa0, cc0, rfl, rk⟩ := MCore.op_en rc
 have hE : stepG f c s = mdB (pt (mdA (pt (pt (f (kidC c 1) (pt (f (kidC c 0) (pt s (iO 23))) (iO 21))) (iO 16)) (iN 20 s.2.length 0 ⟨#[]⟩)) (f (kidC c 0) (pt s (iO 23))).2.length (pt (pt (f (kidC c 1) (pt (f (kidC c 0) (pt s (iO 23))) (iO 21))) (iO 16)) (iN 20 s.2.length 0 ⟨#[]⟩)).2.length) (iO 4)) (f (kidC c 0) (pt s (iO 23))).2.length (pt (mdA (pt (pt (f (kidC c 1) (pt (f (kidC c 0) (pt s (iO 23))) (iO 21))) (iO 16)) (iN 20 s.2.length 0 ⟨#[]⟩)) (f (kidC c 0) (pt s (iO 23))).2.length (pt (pt (f (kidC c 1) (pt (f (kidC c 0) (pt s (iO 23))) (iO 21))) (iO 16)) (iN 20 s.2.length 0 ⟨#[]⟩)).2.length) (iO 4)).2.length := by simp [stepG, hk, whileF, hn]
 rw [hE, hk]
 have HN : Hid (MCore.nodesL c.kids + 1 = c.nodes) := LH (by have := MCore.nodes_eq c; omega)
 have HRM := LH hr
 have HF := LH hf
 have HRK := LH rk
 obtain ⟨ao, ca, ba, oa, e1, hla, hma, pa, hra⟩ := Rep.slmap rk
 simp only [List.cons.injEq, and_true, Value.slice.injEq, List.length_map] at e1
 obtain ⟨rfl, -, rfl⟩ := e1
 unfold maxLen at hma
 have hk0 : 1 < c.kids.length := by have := hs; have hk := hk; unfold shp at this; omega
 obtain rfl := pa (by omega)
 obtain ⟨ea0, la0, cl0, ra0⟩ := hra 0 (kidC c 0) (by rw [kidC_get (by omega)]; simp)
 obtain ⟨aa1, cc1, rfl, rk1⟩ := MCore.op_en ra0
 have HN0 := LH (HL.out (kidC c 0) (by rw [kidC_get (by omega)]; exact List.getElem_mem (by omega)))
 obtain ⟨ea1, la1, cl1, ra1⟩ := hra 1 (kidC c 1) (by rw [kidC_get (by omega)]; simp)
 obtain ⟨aa2, cc2, rfl, rk2⟩ := MCore.op_en ra1
 have HN1 := LH (HL.out (kidC c 1) (by rw [kidC_get (by omega)]; exact List.getElem_mem (by omega)))
 have hks := kid_two (hs.2.2.2.1 hk)
 have HNZ := LH hn
 obtain ⟨s0, h0⟩ : ∃ t, pt s (iO 23) = t := ⟨_, rfl⟩
 have e0 : s0.2.length = s.2.length + 1 /\ s0.1 = s.1 := by rw [<- h0]; exact pt_len _ _
 have a1 := hf (kidC c 0) s0
 obtain ⟨s1, h1⟩ : ∃ t, f (kidC c 0) s0 = t := ⟨_, rfl⟩
 obtain ⟨sj, hj⟩ : ∃ t, pt s1 (iO 21) = t := ⟨_, rfl⟩
 have ej : sj.2.length = s1.2.length + 1 /\ sj.1 = s1.1 := by rw [<- hj]; exact pt_len _ _
 have a2 := hf (kidC c 1) sj
 obtain ⟨s2, h2⟩ : ∃ t, f (kidC c 1) sj = t := ⟨_, rfl⟩
 obtain ⟨s3, h3⟩ : ∃ t, pt s2 (iO 16) = t := ⟨_, rfl⟩
 have e3 : s3.2.length = s2.2.length + 1 /\ s3.1 = s2.1 := by rw [<- h3]; exact pt_len _ _
 obtain ⟨s4, h4⟩ : ∃ t, pt s3 (iN 20 s.2.length 0 ⟨#[]⟩) = t := ⟨_, rfl⟩
 have e4 : s4.2.length = s3.2.length + 1 /\ s4.1 = s3.1 := by rw [<- h4]; exact pt_len _ _
 have e5 := mdA_len s4 s1.2.length s4.2.length
 obtain ⟨s5, h5⟩ : ∃ t, mdA s4 s1.2.length s4.2.length = t := ⟨_, rfl⟩
 obtain ⟨s6, h6⟩ : ∃ t, pt s5 (iO 4) = t := ⟨_, rfl⟩
 have e6 : s6.2.length = s5.2.length + 1 /\ s6.1 = s5.1 := by rw [<- h6]; exact pt_len _ _
 rw [h0, h1, hj, h2, h3, h4, h5, h6]
 rw [h1] at a1
 rw [h2] at a2
 rw [h5] at e5
 have HH0 := LH h0
 have HH1 := LH h1
 have HHJ := LH hj
 have HH2 := LH h2
 have HH3 := LH h3
 have HH4 := LH h4
 have HH5 := LH h5
 have HH6 := LH h6
 have HA : Hid (s.2.length + 1 <= s1.2.length /\ s1.2.length + 1 = (pt s1 (iO 21)).2.length /\ s1.2.length + 1 <= s2.2.length /\ s3.2.length = s2.2.length + 1 /\ s4.2.length = s3.2.length + 1 /\ s6.2.length = s4.2.length + 1 /\ s5.2.length = s4.2.length /\ s6.2.length <= 1000000 /\ Room s0 ((kidC c 0).nodes) /\ Room sj (kidC c 1).nodes) := LH (by
  obtain ⟨r1, r2⟩ := hr
  have hnn := HN.out
  obtain ⟨b1, b2, b3, b4⟩ := a1
  obtain ⟨c1, c2, c3, c4⟩ := a2
  obtain ⟨f1, f2⟩ := e0
  obtain ⟨f3, f4⟩ := ej
  obtain ⟨f5, f6⟩ := e3
  obtain ⟨f7, f8⟩ := e4
  obtain ⟨f9, f10⟩ := e5
  obtain ⟨f11, f12⟩ := e6
  rw [f2] at b3 b4
  rw [f4] at c3 c4
  refine ⟨by omega, (pt_len _ _).1.symm, by omega, by omega, by omega, by omega, by omega, by omega, ⟨by omega, by rw [f2]; omega⟩, ⟨by omega, by rw [f4]; omega⟩⟩)
 clear a1 a2 e0 ej e3 e4 e5 e6 h0 h1 hj h2 h3 h4 h5 h6 hks
 clear pa hra rk1 la0 rk2 la1
 clear hr hf hE rc rk hs
 go_enter Tryz.func90, Tryz.ntmps90
 go_upto_region 1 with fail
 generalize hS : World.alloc w _ = W1
 have x1 : Ext w W1 := by rw [<- hS]; exact (XR _).alloc _
 have OK : Own W1 w.heap.size 42 #[.int .i64 20, .string c.text, .int .i64 c.number, .int .i64 c.depth, .slice (some ⟨ba, oa, none⟩) c.kids.length cc0] := by rw [<- hS]; exact own_new w _ _
 have HK1 : Hid (Kp w0 B0 wb cb w.heap.size #[.int .i64 20, .string c.text, .int .i64 c.number, .int .i64 c.depth, .slice (some ⟨ba, oa, none⟩) c.kids.length cc0] m w m W1 s) := LH (Kp.new hx h x1 OK)
 clear hS h hx x1
 have q0 := OK.k0
 have qf0 := OK.f0
 have q1 := OK.k1
 have qf1 := OK.f1
 have q2 := OK.k2
 have qf2 := OK.f2
 have q3 := OK.k3
 have qf3 := OK.f3
 have q4 := OK.k4
 have qf4 := OK.f4
 have qz := OK.lt
 go_wp2_with fail
 refine (op_any 23 W1 HK1.out.1 (by have := HA.out; omega)).mono ?_
 rintro e w2 ⟨m2, rfl, h, k⟩
 rw [HH0.out] at h
 have HK2 := LH (HK1.out.step hB h k)
 clear h k OK HK1 q0 qf0 q1 qf1 q2 qf2 q3 qf3 q4 qf4 qz 
 have OK := HK2.out.2.2.2.own
 have q0 := OK.k0
 have qf0 := OK.f0
 have q1 := OK.k1
 have qf1 := OK.f1
 have q2 := OK.k2
 have qf2 := OK.f2
 have q3 := OK.k3
 have qf3 := OK.f3
 have q4 := OK.k4
 have qf4 := OK.f4
 have qz := OK.lt
 have t0 : w2.cell? ⟨ba, oa, none⟩ = some (.int .i64 (kidC c 0).kind) := HK2.out.2.2.1.cell (by have := cl0 0 (by omega); simpa using this)
 have t1 : w2.cell? ⟨ba, oa + 1, none⟩ = some (.string (kidC c 0).text) := HK2.out.2.2.1.cell (by have := cl0 1 (by omega); simpa using this)
 have t2 : w2.cell? ⟨ba, oa + 2, none⟩ = some (.int .i64 (kidC c 0).number) := HK2.out.2.2.1.cell (by have := cl0 2 (by omega); simpa using this)
 have t3 : w2.cell? ⟨ba, oa + 3, none⟩ = some (.int .i64 (kidC c 0).depth) := HK2.out.2.2.1.cell (by have := cl0 3 (by omega); simpa using this)
 have t4 : w2.cell? ⟨ba, oa + 4, none⟩ = some (.slice aa1 (kidC c 0).kids.length cc1) := HK2.out.2.2.1.cell (by have := cl0 4 (by omega); simpa using this)
 go_wp2_with fail
 refine (HN0.out _ w0 w2 B0 wb cb _ _ ra0 HK2.out.2.2.1 hB HK2.out.1 (HA.out.2.2.2.2.2.2.2.2.1)).mono ?_
 rintro e w3 ⟨m3, rfl, h, k⟩
 rw [HH1.out] at h
 have HK3 := LH (HK2.out.step hB h k)
 clear h k OK HK2 q0 qf0 q1 qf1 q2 qf2 q3 qf3 q4 qf4 qz t0 t1 t2 t3 t4
 have OK := HK3.out.2.2.2.own
 have q0 := OK.k0
 have qf0 := OK.f0
 have q1 := OK.k1
 have qf1 := OK.f1
 have q2 := OK.k2
 have qf2 := OK.f2
 have q3 := OK.k3
 have qf3 := OK.f3
 have q4 := OK.k4
 have qf4 := OK.f4
 have qz := OK.lt
 go_wp2_with fail
 refine (op_any 21 w3 HK3.out.1 (by have := HA.out; omega)).mono ?_
 rintro e w4 ⟨m4, rfl, h, k⟩
 rw [HHJ.out] at h
 have HK4 := LH (HK3.out.step hB h k)
 clear h k OK HK3 q0 qf0 q1 qf1 q2 qf2 q3 qf3 q4 qf4 qz 
 have OK := HK4.out.2.2.2.own
 have q0 := OK.k0
 have qf0 := OK.f0
 have q1 := OK.k1
 have qf1 := OK.f1
 have q2 := OK.k2
 have qf2 := OK.f2
 have q3 := OK.k3
 have qf3 := OK.f3
 have q4 := OK.k4
 have qf4 := OK.f4
 have qz := OK.lt
 have t0 : w4.cell? ⟨ba, oa + 5, none⟩ = some (.int .i64 (kidC c 1).kind) := HK4.out.2.2.1.cell (by have := cl1 0 (by omega); simpa using this)
 have t1 : w4.cell? ⟨ba, oa + 6, none⟩ = some (.string (kidC c 1).text) := HK4.out.2.2.1.cell (by have := cl1 1 (by omega); simpa using this)
 have t2 : w4.cell? ⟨ba, oa + 7, none⟩ = some (.int .i64 (kidC c 1).number) := HK4.out.2.2.1.cell (by have := cl1 2 (by omega); simpa using this)
 have t3 : w4.cell? ⟨ba, oa + 8, none⟩ = some (.int .i64 (kidC c 1).depth) := HK4.out.2.2.1.cell (by have := cl1 3 (by omega); simpa using this)
 have t4 : w4.cell? ⟨ba, oa + 9, none⟩ = some (.slice aa2 (kidC c 1).kids.length cc2) := HK4.out.2.2.1.cell (by have := cl1 4 (by omega); simpa using this)
 go_wp2_with fail
 refine (HN1.out _ w0 w4 B0 wb cb _ _ ra1 HK4.out.2.2.1 hB HK4.out.1 (HA.out.2.2.2.2.2.2.2.2.2)).mono ?_
 rintro e w5 ⟨m5, rfl, h, k⟩
 rw [HH2.out] at h
 have HK5 := LH (HK4.out.step hB h k)
 clear h k OK HK4 q0 qf0 q1 qf1 q2 qf2 q3 qf3 q4 qf4 qz t0 t1 t2 t3 t4
 have OK := HK5.out.2.2.2.own
 have q0 := OK.k0
 have qf0 := OK.f0
 have q1 := OK.k1
 have qf1 := OK.f1
 have q2 := OK.k2
 have qf2 := OK.f2
 have q3 := OK.k3
 have qf3 := OK.f3
 have q4 := OK.k4
 have qf4 := OK.f4
 have qz := OK.lt
 go_wp2_with fail
 refine (op_any 16 w5 HK5.out.1 (by have := HA.out; omega)).mono ?_
 rintro e w6 ⟨m6, rfl, h, k⟩
 rw [HH3.out] at h
 have HK6 := LH (HK5.out.step hB h k)
 clear h k OK HK5 q0 qf0 q1 qf1 q2 qf2 q3 qf3 q4 qf4 qz 
 have OK := HK6.out.2.2.2.own
 have q0 := OK.k0
 have qf0 := OK.f0
 have q1 := OK.k1
 have qf1 := OK.f1
 have q2 := OK.k2
 have qf2 := OK.f2
 have q3 := OK.k3
 have qf3 := OK.f3
 have q4 := OK.k4
 have qf4 := OK.f4
 have qz := OK.lt
 go_wp2_with fail
 refine (put_any (iN 20 s.2.length 0 ⟨#[]⟩) w6 HK6.out.1 (by have := HA.out; omega)).mono ?_
 rintro e w7 ⟨m7, rfl, h, k⟩
 rw [HH4.out] at h
 have HK7 := LH (HK6.out.step hB h k)
 clear h k OK HK6 q0 qf0 q1 qf1 q2 qf2 q3 qf3 q4 qf4 qz 
 have OK := HK7.out.2.2.2.own
 have q0 := OK.k0
 have qf0 := OK.f0
 have q1 := OK.k1
 have qf1 := OK.f1
 have q2 := OK.k2
 have qf2 := OK.f2
 have q3 := OK.k3
 have qf3 := OK.f3
 have q4 := OK.k4
 have qf4 := OK.f4
 have qz := OK.lt
 obtain ⟨g, cap, hvl, hcap, hg, hcs, hM⟩ := StI.mod HK7.out.1 (i := s1.2.length) (by have := HA.out; omega)
 obtain ⟨hc0, hf0⟩ := hcs 1 (by omega)
 obtain ⟨u0, hc0⟩ := Option.isSome_iff_exists.1 hc0
 have HM := LH hM
 have y1 : w7.cell? ⟨wb, 1, none⟩ = some (.slice (some ⟨g, 0, none⟩) s4.2.length cap) := by rw [<- hvl]; exact HK7.out.1.1.cell 1
 have yz := HK7.out.1.1.lt
 have hlt : s1.2.length < s4.2.length := by have := HA.out; omega
 have hbd : s4.2.length <= 1000000 := by have := HA.out; omega
 clear hcs hM hvl
 go_upto_region 63 with fail
 go_region
 obtain ⟨h, k⟩ := (HM.out _ (XR _) (s4.2.length : Int)).1
 have h := h.ext (Ext.drew (XR _))
 have k := k.trans (Mv.ext (Ext.drew (XR _)))
 rw [HH5.out] at h
 have HKN := LH (HK7.out.step hB h k)
 generalize hS : World.drew (World.setCell w7 _ _) = w8 at HKN ⊢
 have HK8 := HKN
 clear HKN h k OK HK7 HM hc0 hf0 y1 yz hg hcap hlt hbd hS q0 qf0 q1 qf1 q2 qf2 q3 qf3 q4 qf4 qz
 have OK := HK8.out.2.2.2.own
 have q0 := OK.k0
 have qf0 := OK.f0
 have q1 := OK.k1
 have qf1 := OK.f1
 have q2 := OK.k2
 have qf2 := OK.f2
 have q3 := OK.k3
 have qf3 := OK.f3
 have q4 := OK.k4
 have qf4 := OK.f4
 have qz := OK.lt
 go_wp2_with fail
 refine (op_any 4 w8 HK8.out.1 (by have := HA.out; omega)).mono ?_
 rintro e w9 ⟨m9, rfl, h, k⟩
 rw [HH6.out] at h
 have HK9 := LH (HK8.out.step hB h k)
 clear h k OK HK8 q0 qf0 q1 qf1 q2 qf2 q3 qf3 q4 qf4 qz 
 have OK := HK9.out.2.2.2.own
 have q0 := OK.k0
 have qf0 := OK.f0
 have q1 := OK.k1
 have qf1 := OK.f1
 have q2 := OK.k2
 have qf2 := OK.f2
 have q3 := OK.k3
 have qf3 := OK.f3
 have q4 := OK.k4
 have qf4 := OK.f4
 have qz := OK.lt
 obtain ⟨g, cap, hvl, hcap, hg, hcs, hM⟩ := StI.mod HK9.out.1 (i := s1.2.length) (by have := HA.out; omega)
 obtain ⟨hc0, hf0⟩ := hcs 2 (by omega)
 obtain ⟨u0, hc0⟩ := Option.isSome_iff_exists.1 hc0
 have HM := LH hM
 have y1 : w9.cell? ⟨wb, 1, none⟩ = some (.slice (some ⟨g, 0, none⟩) s6.2.length cap) := by rw [<- hvl]; exact HK9.out.1.1.cell 1
 have yz := HK9.out.1.1.lt
 have hlt : s1.2.length < s6.2.length := by have := HA.out; omega
 have hbd : s6.2.length <= 1000000 := by have := HA.out; omega
 clear hcs hM hvl
 go_upto_region 65 with fail
 go_region
 obtain ⟨h, k⟩ := (HM.out _ (XR _) (s6.2.length : Int)).2.1
 have h := h.ext (Ext.drew (XR _))
 have k := k.trans (Mv.ext (Ext.drew (XR _)))
 have HKN := LH (HK9.out.step hB h k)
 generalize hS : World.drew (World.setCell w9 _ _) = w10 at HKN ⊢
 have HK10 := HKN
 clear HKN h k OK HK9 HM hc0 hf0 y1 yz hg hcap hlt hbd hS q0 qf0 q1 qf1 q2 qf2 q3 qf3 q4 qf4 qz
 have OK := HK10.out.2.2.2.own
 have q0 := OK.k0
 have qf0 := OK.f0
 have q1 := OK.k1
 have qf1 := OK.f1
 have q2 := OK.k2
 have qf2 := OK.f2
 have q3 := OK.k3
 have qf3 := OK.f3
 have q4 := OK.k4
 have qf4 := OK.f4
 have qz := OK.lt
 go_wp2_with fail
 go_end0
 exact ⟨_, rfl, HK10.out.1, HK10.out.2.1⟩
theorem nodeK21 {f : CF} (hf : Few f) {c : MCore} (hk : c.kind = 21) (hs : shp c) (HL : Hid (∀ z, z ∈ c.kids -> NodeI f z)) : NodeI (stepG f) c := by
 intro cs w0 w B0 wb cb m s rc hx hB h hr
 obtain ⟨aa0, cc0, rfl, rk⟩ := MCore.op_en rc
 have hE : stepG f c s = mdB (mdB (pt (pt (f (kidC c 2) (pt (pt (allF f (c.kids.take 2) s) (iO 24)) (iN 25 c.number 0 ⟨#[]⟩))) (iO 16)) (iN 26 c.number (pt (pt (allF f (c.kids.take 2) s) (iO 24)) (iN 25 c.number 0 ⟨#[]⟩)).2.length ⟨#[]⟩)) (allF f (c.kids.take 2) s).2.length (pt (pt (f (kidC c 2) (pt (pt (allF f (c.kids.take 2) s) (iO 24)) (iN 25 c.number 0 ⟨#[]⟩))) (iO 16)) (iN 26 c.number (pt (pt (allF f (c.kids.take 2) s) (iO 24)) (iN 25 c.number 0 ⟨#[]⟩)).2.length ⟨#[]⟩)).2.length) ((allF f (c.kids.take 2) s).2.length + 1) (pt (pt (f (kidC c 2) (pt (pt (allF f (c.kids.take 2) s) (iO 24)) (iN 25 c.number 0 ⟨#[]⟩))) (iO 16)) (iN 26 c.number (pt (pt (allF f (c.kids.take 2) s) (iO 24)) (iN 25 c.number 0 ⟨#[]⟩)).2.length ⟨#[]⟩)).2.length := by simp [stepG, hk, countF]
 rw [hE, hk]
 have HN : Hid (MCore.nodesL c.kids + 1 = c.nodes) := LH (by have := MCore.nodes_eq c; omega)
 have HRM := LH hr
 have HF := LH hf
 have HRK := LH rk
 obtain ⟨ao, ca, ba, oa, e1, hla, hma, pa, hra⟩ := Rep.slmap rk
 simp only [List.cons.injEq, and_true, Value.slice.injEq, List.length_map] at e1
 obtain ⟨rfl, -, rfl⟩ := e1
 unfold maxLen at hma
 have hk0 : 2 < c.kids.length := by have := hs; have hk := hk; unfold shp at this; omega
 obtain rfl := pa (by omega)
 obtain ⟨ea0, la0, cl0, ra0⟩ := hra 0 (kidC c 0) (by rw [kidC_get (by omega)]; simp)
 obtain ⟨aa1, cc1, rfl, rk1⟩ := MCore.op_en ra0
 have HN0 := LH (HL.out (kidC c 0) (by rw [kidC_get (by omega)]; exact List.getElem_mem (by omega)))
 obtain ⟨ea1, la1, cl1, ra1⟩ := hra 1 (kidC c 1) (by rw [kidC_get (by omega)]; simp)
 obtain ⟨aa2, cc2, rfl, rk2⟩ := MCore.op_en ra1
 have HN1 := LH (HL.out (kidC c 1) (by rw [kidC_get (by omega)]; exact List.getElem_mem (by omega)))
 obtain ⟨ea2, la2, cl2, ra2⟩ := hra 2 (kidC c 2) (by rw [kidC_get (by omega)]; simp)
 obtain ⟨aa3, cc3, rfl, rk3⟩ := MCore.op_en ra2
 have HN2 := LH (HL.out (kidC c 2) (by rw [kidC_get (by omega)]; exact List.getElem_mem (by omega)))
 have hks := kid_front (hs.2.2.2.2 hk)
 have HL2 : Hid (∀ z, z ∈ c.kids.take 2 -> NodeI f z) := LH fun z hz => HL.out z (List.mem_of_mem_take hz)
 have hl2 : (c.kids.take 2).length = 2 := by rw [List.length_take]; omega
 have HRK2 : Hid (Rep w0 (MCores (c.kids.take 2)) [.slice (some ⟨ba, oa, none⟩) 2 cc0]) := LH (by
  have := Rep.sl_take (k := 2) HRK.out (by omega)
  unfold MCores
  rw [List.map_take]
  exact this)
 have a1 := allF_adds hf (c.kids.take 2) s
 obtain ⟨s1, h1⟩ : ∃ t, allF f (c.kids.take 2) s = t := ⟨_, rfl⟩
 obtain ⟨s2, h2⟩ : ∃ t, pt s1 (iO 24) = t := ⟨_, rfl⟩
 have e2 : s2.2.length = s1.2.length + 1 /\ s2.1 = s1.1 := by rw [<- h2]; exact pt_len _ _
 obtain ⟨s3, h3⟩ : ∃ t, pt s2 (iN 25 c.number 0 ⟨#[]⟩) = t := ⟨_, rfl⟩
 have e3 : s3.2.length = s2.2.length + 1 /\ s3.1 = s2.1 := by rw [<- h3]; exact pt_len _ _
 have a4 := hf (kidC c 2) s3
 obtain ⟨s4, h4⟩ : ∃ t, f (kidC c 2) s3 = t := ⟨_, rfl⟩
 obtain ⟨s5, h5⟩ : ∃ t, pt s4 (iO 16) = t := ⟨_, rfl⟩
 have e5 : s5.2.length = s4.2.length + 1 /\ s5.1 = s4.1 := by rw [<- h5]; exact pt_len _ _
 obtain ⟨s6, h6⟩ : ∃ t, pt s5 (iN 26 c.number s3.2.length ⟨#[]⟩) = t := ⟨_, rfl⟩
 have e6 : s6.2.length = s5.2.length + 1 /\ s6.1 = s5.1 := by rw [<- h6]; exact pt_len _ _
 have e7 := mdB_len s6 s1.2.length s6.2.length
 obtain ⟨s7, h7⟩ : ∃ t, mdB s6 s1.2.length s6.2.length = t := ⟨_, rfl⟩
 rw [h1, h2, h3, h4, h5, h6, h7, <- e2.1]
 rw [h1] at a1
 rw [h4] at a4
 rw [h7] at e7
 have HH1 := LH h1
 have HH2 := LH h2
 have HH3 := LH h3
 have HH4 := LH h4
 have HH5 := LH h5
 have HH6 := LH h6
 have HH7 := LH h7
 have HA : Hid (s2.2.length = s1.2.length + 1 /\ s3.2.length = s1.2.length + 2 /\ s3.2.length <= s4.2.length /\ s5.2.length = s4.2.length + 1 /\ s6.2.length = s5.2.length + 1 /\ s7.2.length = s6.2.length /\ s6.2.length <= 1000000 /\ Room s (MCore.nodesL (c.kids.take 2)) /\ Room s3 (kidC c 2).nodes) := LH (by
  obtain ⟨r1, r2⟩ := hr
  have hnn := HN.out
  obtain ⟨b1, b2, b3, b4⟩ := a1
  obtain ⟨c1, c2, c3, c4⟩ := a4
  obtain ⟨f1, f2⟩ := e2
  obtain ⟨f3, f4⟩ := e3
  obtain ⟨f5, f6⟩ := e5
  obtain ⟨f7, f8⟩ := e6
  obtain ⟨f9, f10⟩ := e7
  rw [f4, f2] at c3 c4
  refine ⟨by omega, by omega, by omega, by omega, by omega, by omega, by omega, ⟨by omega, by omega⟩, ⟨by omega, by rw [f4, f2]; omega⟩⟩)
 clear a1 a4 e2 e3 e5 e6 e7 h1 h2 h3 h4 h5 h6 h7 hks hl2
 clear pa hra rk1 la0 rk2 la1 rk3 la2
 clear hr hf hE rc rk hs
 go_enter Tryz.func90, Tryz.ntmps90
 go_upto_region 1 with fail
 generalize hS : World.alloc w _ = W1
 have x1 : Ext w W1 := by rw [<- hS]; exact (XR _).alloc _
 have OK : Own W1 w.heap.size 42 #[.int .i64 21, .string c.text, .int .i64 c.number, .int .i64 c.depth, .slice (some ⟨ba, oa, none⟩) c.kids.length cc0] := by rw [<- hS]; exact own_new w _ _
 have HK1 : Hid (Kp w0 B0 wb cb w.heap.size #[.int .i64 21, .string c.text, .int .i64 c.number, .int .i64 c.depth, .slice (some ⟨ba, oa, none⟩) c.kids.length cc0] m w m W1 s) := LH (Kp.new hx h x1 OK)
 clear hS h hx x1
 have q0 := OK.k0
 have qf0 := OK.f0
 have q1 := OK.k1
 have qf1 := OK.f1
 have q2 := OK.k2
 have qf2 := OK.f2
 have q3 := OK.k3
 have qf3 := OK.f3
 have q4 := OK.k4
 have qf4 := OK.f4
 have qz := OK.lt
 go_wp2_with fail
 refine (nodes_at HF.out (c.kids.take 2) HL2 _ w0 W1 HRK2.out HK1.out.2.2.1 hB HK1.out.1 HA.out.2.2.2.2.2.2.2.1).mono ?_
 rintro e w2 ⟨m2, rfl, h, k⟩
 rw [HH1.out] at h
 have HK2 := LH (HK1.out.step hB h k)
 clear h k OK HK1 q0 qf0 q1 qf1 q2 qf2 q3 qf3 q4 qf4 qz 
 have OK := HK2.out.2.2.2.own
 have q0 := OK.k0
 have qf0 := OK.f0
 have q1 := OK.k1
 have qf1 := OK.f1
 have q2 := OK.k2
 have qf2 := OK.f2
 have q3 := OK.k3
 have qf3 := OK.f3
 have q4 := OK.k4
 have qf4 := OK.f4
 have qz := OK.lt
 go_wp2_with fail
 refine (op_any 24 w2 HK2.out.1 (by have := HA.out; omega)).mono ?_
 rintro e w3 ⟨m3, rfl, h, k⟩
 rw [HH2.out] at h
 have HK3 := LH (HK2.out.step hB h k)
 clear h k OK HK2 q0 qf0 q1 qf1 q2 qf2 q3 qf3 q4 qf4 qz 
 have OK := HK3.out.2.2.2.own
 have q0 := OK.k0
 have qf0 := OK.f0
 have q1 := OK.k1
 have qf1 := OK.f1
 have q2 := OK.k2
 have qf2 := OK.f2
 have q3 := OK.k3
 have qf3 := OK.f3
 have q4 := OK.k4
 have qf4 := OK.f4
 have qz := OK.lt
 go_wp2_with fail
 refine (put_any (iN 25 c.number 0 ⟨#[]⟩) w3 HK3.out.1 (by have := HA.out; omega)).mono ?_
 rintro e w4 ⟨m4, rfl, h, k⟩
 rw [HH3.out] at h
 have HK4 := LH (HK3.out.step hB h k)
 clear h k OK HK3 q0 qf0 q1 qf1 q2 qf2 q3 qf3 q4 qf4 qz 
 have OK := HK4.out.2.2.2.own
 have q0 := OK.k0
 have qf0 := OK.f0
 have q1 := OK.k1
 have qf1 := OK.f1
 have q2 := OK.k2
 have qf2 := OK.f2
 have q3 := OK.k3
 have qf3 := OK.f3
 have q4 := OK.k4
 have qf4 := OK.f4
 have qz := OK.lt
 have t0 : w4.cell? ⟨ba, oa + 10, none⟩ = some (.int .i64 (kidC c 2).kind) := HK4.out.2.2.1.cell (by have := cl2 0 (by omega); simpa using this)
 have t1 : w4.cell? ⟨ba, oa + 11, none⟩ = some (.string (kidC c 2).text) := HK4.out.2.2.1.cell (by have := cl2 1 (by omega); simpa using this)
 have t2 : w4.cell? ⟨ba, oa + 12, none⟩ = some (.int .i64 (kidC c 2).number) := HK4.out.2.2.1.cell (by have := cl2 2 (by omega); simpa using this)
 have t3 : w4.cell? ⟨ba, oa + 13, none⟩ = some (.int .i64 (kidC c 2).depth) := HK4.out.2.2.1.cell (by have := cl2 3 (by omega); simpa using this)
 have t4 : w4.cell? ⟨ba, oa + 14, none⟩ = some (.slice aa3 (kidC c 2).kids.length cc3) := HK4.out.2.2.1.cell (by have := cl2 4 (by omega); simpa using this)
 obtain ⟨ao9, cap9, gp9, hv9, -, -, -⟩ := AccI.rep HK4.out.1.2.2.1.li
 have y1 : w4.cell? ⟨wb, 1, none⟩ = some (.slice ao9 s3.2.length cap9) := by rw [<- hv9]; exact HK4.out.1.1.cell 1
 have yz := HK4.out.1.1.lt
 clear hv9
 go_wp2_with fail
 refine (HN2.out _ w0 w4 B0 wb cb _ _ ra2 HK4.out.2.2.1 hB HK4.out.1 (HA.out.2.2.2.2.2.2.2.2)).mono ?_
 rintro e w5 ⟨m5, rfl, h, k⟩
 rw [HH4.out] at h
 have HK5 := LH (HK4.out.step hB h k)
 clear h k OK HK4 q0 qf0 q1 qf1 q2 qf2 q3 qf3 q4 qf4 qz t0 t1 t2 t3 t4 y1 yz
 have OK := HK5.out.2.2.2.own
 have q0 := OK.k0
 have qf0 := OK.f0
 have q1 := OK.k1
 have qf1 := OK.f1
 have q2 := OK.k2
 have qf2 := OK.f2
 have q3 := OK.k3
 have qf3 := OK.f3
 have q4 := OK.k4
 have qf4 := OK.f4
 have qz := OK.lt
 go_wp2_with fail
 refine (op_any 16 w5 HK5.out.1 (by have := HA.out; omega)).mono ?_
 rintro e w6 ⟨m6, rfl, h, k⟩
 rw [HH5.out] at h
 have HK6 := LH (HK5.out.step hB h k)
 clear h k OK HK5 q0 qf0 q1 qf1 q2 qf2 q3 qf3 q4 qf4 qz 
 have OK := HK6.out.2.2.2.own
 have q0 := OK.k0
 have qf0 := OK.f0
 have q1 := OK.k1
 have qf1 := OK.f1
 have q2 := OK.k2
 have qf2 := OK.f2
 have q3 := OK.k3
 have qf3 := OK.f3
 have q4 := OK.k4
 have qf4 := OK.f4
 have qz := OK.lt
 go_wp2_with fail
 refine (put_any (iN 26 c.number s3.2.length ⟨#[]⟩) w6 HK6.out.1 (by have := HA.out; omega)).mono ?_
 rintro e w7 ⟨m7, rfl, h, k⟩
 rw [HH6.out] at h
 have HK7 := LH (HK6.out.step hB h k)
 clear h k OK HK6 q0 qf0 q1 qf1 q2 qf2 q3 qf3 q4 qf4 qz 
 have OK := HK7.out.2.2.2.own
 have q0 := OK.k0
 have qf0 := OK.f0
 have q1 := OK.k1
 have qf1 := OK.f1
 have q2 := OK.k2
 have qf2 := OK.f2
 have q3 := OK.k3
 have qf3 := OK.f3
 have q4 := OK.k4
 have qf4 := OK.f4
 have qz := OK.lt
 obtain ⟨g, cap, hvl, hcap, hg, hcs, hM⟩ := StI.mod HK7.out.1 (i := s1.2.length) (by have := HA.out; omega)
 obtain ⟨hc0, hf0⟩ := hcs 2 (by omega)
 obtain ⟨u0, hc0⟩ := Option.isSome_iff_exists.1 hc0
 have HM := LH hM
 have y1 : w7.cell? ⟨wb, 1, none⟩ = some (.slice (some ⟨g, 0, none⟩) s6.2.length cap) := by rw [<- hvl]; exact HK7.out.1.1.cell 1
 have yz := HK7.out.1.1.lt
 have hlt : s1.2.length < s6.2.length := by have := HA.out; omega
 have hbd : s6.2.length <= 1000000 := by have := HA.out; omega
 clear hcs hM hvl
 go_upto_region 74 with fail
 go_region
 obtain ⟨h, k⟩ := (HM.out _ (XR _) (s6.2.length : Int)).2.1
 have h := h.ext (Ext.drew (XR _))
 have k := k.trans (Mv.ext (Ext.drew (XR _)))
 rw [HH7.out] at h
 have HKN := LH (HK7.out.step hB h k)
 generalize hS : World.drew (World.setCell w7 _ _) = w8 at HKN ⊢
 have HK8 := HKN
 clear HKN h k OK HK7 HM hc0 hf0 y1 yz hg hcap hlt hbd hS q0 qf0 q1 qf1 q2 qf2 q3 qf3 q4 qf4 qz
 have OK := HK8.out.2.2.2.own
 have q0 := OK.k0
 have qf0 := OK.f0
 have q1 := OK.k1
 have qf1 := OK.f1
 have q2 := OK.k2
 have qf2 := OK.f2
 have q3 := OK.k3
 have qf3 := OK.f3
 have q4 := OK.k4
 have qf4 := OK.f4
 have qz := OK.lt
 obtain ⟨g, cap, hvl, hcap, hg, hcs, hM⟩ := StI.mod HK8.out.1 (i := s2.2.length) (by have := HA.out; omega)
 rw [show s7.2.length = s6.2.length from HA.out.2.2.2.2.2.1] at hvl hcap
 obtain ⟨hc0, hf0⟩ := hcs 2 (by omega)
 obtain ⟨u0, hc0⟩ := Option.isSome_iff_exists.1 hc0
 have HM := LH hM
 have y1 : w8.cell? ⟨wb, 1, none⟩ = some (.slice (some ⟨g, 0, none⟩) s6.2.length cap) := by rw [<- hvl]; exact HK8.out.1.1.cell 1
 have yz := HK8.out.1.1.lt
 have hlt : s2.2.length < s6.2.length := by have := HA.out; omega
 have hbd : s6.2.length <= 1000000 := by have := HA.out; omega
 clear hcs hM hvl
 go_upto_region 75 with fail
 go_region
 obtain ⟨h, k⟩ := (HM.out _ (XR _) (s6.2.length : Int)).2.1
 have h := h.ext (Ext.drew (XR _))
 have k := k.trans (Mv.ext (Ext.drew (XR _)))
 have HKN := LH (HK8.out.step hB h k)
 generalize hS : World.drew (World.setCell w8 _ _) = w9 at HKN ⊢
 have HK9 := HKN
 clear HKN h k OK HK8 HM hc0 hf0 y1 yz hg hcap hlt hbd hS q0 qf0 q1 qf1 q2 qf2 q3 qf3 q4 qf4 qz
 have OK := HK9.out.2.2.2.own
 have q0 := OK.k0
 have qf0 := OK.f0
 have q1 := OK.k1
 have qf1 := OK.f1
 have q2 := OK.k2
 have qf2 := OK.f2
 have q3 := OK.k3
 have qf3 := OK.f3
 have q4 := OK.k4
 have qf4 := OK.f4
 have qz := OK.lt
 go_wp2_with fail
 go_end0
 exact ⟨_, rfl, HK9.out.1, HK9.out.2.1⟩
end Go.Proofs.YtlaclfeljimffaaGreatDoor
