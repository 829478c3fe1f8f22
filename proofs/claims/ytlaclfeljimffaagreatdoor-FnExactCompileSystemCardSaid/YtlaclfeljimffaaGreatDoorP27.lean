/-
  CONTRACTS: the reference's node: branches.
  Conditions: those that each lemma states.
-/
import Derived.Test.YtlaclfeljimffaaGreatDoorRows
import Derived.Test.YtlaclfeljimffaaGreatDoorP26
namespace Go.Proofs.YtlaclfeljimffaaGreatDoor
open Go.RowKit
set_option maxHeartbeats 8000000
set_option maxRecDepth 100000
set_option linter.unusedSimpArgs false
set_option linter.unusedVariables false
theorem snodeK19 {f : CF} (hf : Few f) {c : MCore} (hk : c.kind = 19) (hs : shp c) (HL : Hid (∀ z, z ∈ c.kids -> NodeS f z)) : NodeS (stepG f) c := by
 intro cs w0 w B0 sb hd m s rc hx hB h hr
 obtain ⟨aa0, cc0, rfl, rk⟩ := MCore.op_en rc
 have hE : stepG f c s = mdA (mdB (f (kidC c 2) (mdA (pt (f (kidC c 1) (pt (f (kidC c 0) s) (iO 21))) (iO 20)) (f (kidC c 0) s).2.length (pt (f (kidC c 1) (pt (f (kidC c 0) s) (iO 21))) (iO 20)).2.length)) (f (kidC c 0) s).2.length (f (kidC c 2) (mdA (pt (f (kidC c 1) (pt (f (kidC c 0) s) (iO 21))) (iO 20)) (f (kidC c 0) s).2.length (pt (f (kidC c 1) (pt (f (kidC c 0) s) (iO 21))) (iO 20)).2.length)).2.length) (f (kidC c 1) (pt (f (kidC c 0) s) (iO 21))).2.length (f (kidC c 2) (mdA (pt (f (kidC c 1) (pt (f (kidC c 0) s) (iO 21))) (iO 20)) (f (kidC c 0) s).2.length (pt (f (kidC c 1) (pt (f (kidC c 0) s) (iO 21))) (iO 20)).2.length)).2.length := by simp [stepG, hk, ifF]
 rw [hE, hk]
 have HN : Hid (MCore.nodesL c.kids + 1 = c.nodes) := LH (by have := MCore.nodes_eq c; omega)
 have HRM := LH hr
 have HF := LH hf
 have HRK := LH rk
 obtain ⟨ao, ca, ba, oa, e1, hla, hma, pa, hra⟩ := Rep.slmap rk
 simp only [List.cons.injEq, and_true, Value.slice.injEq, List.length_map] at e1
 obtain ⟨rfl, -, rfl⟩ := e1
 unfold maxLen at hma
 have hk0 : 2 < c.kids.length := by have := hs; have hk := hk; unfold shp at this; omega
 obtain rfl := pa (by omega)
 obtain ⟨ea0, la0, cl0, ra0⟩ := hra 0 (kidC c 0) (by rw [kidC_got (by omega)]; simp)
 obtain ⟨aa1, cc1, rfl, rk1⟩ := MCore.op_en ra0
 have HN0 := LH (HL.out (kidC c 0) (by rw [kidC_got (by omega)]; exact List.getElem_mem (by omega)))
 obtain ⟨ea1, la1, cl1, ra1⟩ := hra 1 (kidC c 1) (by rw [kidC_got (by omega)]; simp)
 obtain ⟨aa2, cc2, rfl, rk2⟩ := MCore.op_en ra1
 have HN1 := LH (HL.out (kidC c 1) (by rw [kidC_got (by omega)]; exact List.getElem_mem (by omega)))
 obtain ⟨ea2, la2, cl2, ra2⟩ := hra 2 (kidC c 2) (by rw [kidC_got (by omega)]; simp)
 obtain ⟨aa3, cc3, rfl, rk3⟩ := MCore.op_en ra2
 have HN2 := LH (HL.out (kidC c 2) (by rw [kidC_got (by omega)]; exact List.getElem_mem (by omega)))
 have hks := kid_three (hs.2.2.1 hk)
 have a1 := hf (kidC c 0) s
 obtain ⟨s1, h1⟩ : ∃ t, f (kidC c 0) s = t := ⟨_, rfl⟩
 have a2 := hf (kidC c 1) (pt s1 (iO 21))
 obtain ⟨s2, h2⟩ : ∃ t, f (kidC c 1) (pt s1 (iO 21)) = t := ⟨_, rfl⟩
 obtain ⟨s3, h3⟩ : ∃ t, pt s2 (iO 20) = t := ⟨_, rfl⟩
 have a4 := hf (kidC c 2) (mdA s3 s1.2.length s3.2.length)
 obtain ⟨s4, h4⟩ : ∃ t, f (kidC c 2) (mdA s3 s1.2.length s3.2.length) = t := ⟨_, rfl⟩
 rw [h1, h2, h3, h4]
 rw [h1] at a1
 rw [h2] at a2
 rw [h4] at a4
 have e21 : (pt s1 (iO 21)).2.length = s1.2.length + 1 /\ (pt s1 (iO 21)).1 = s1.1 := pt_len _ _
 have e3 : s3.2.length = s2.2.length + 1 /\ s3.1 = s2.1 := by rw [<- h3]; exact pt_len _ _
 have e3m : (mdA s3 s1.2.length s3.2.length).2.length = s3.2.length /\ (mdA s3 s1.2.length s3.2.length).1 = s3.1 := mdA_len _ _ _
 have e4m : (mdB s4 s1.2.length s4.2.length).2.length = s4.2.length /\ (mdB s4 s1.2.length s4.2.length).1 = s4.1 := mdB_len _ _ _
 have HH1 := LH h1
 have HH2 := LH h2
 have HH3 := LH h3
 have HH4 := LH h4
 have HA : Hid (s1.2.length + 1 <= s2.2.length /\ s3.2.length = s2.2.length + 1 /\ s3.2.length <= s4.2.length /\ s4.2.length <= 1000000 /\ Room s ((kidC c 0).nodes) /\ Room (pt s1 (iO 21)) (kidC c 1).nodes /\ Room (mdA s3 s1.2.length s3.2.length) (kidC c 2).nodes /\ s1.2.length <= 1000000 /\ s2.2.length <= 1000000) := LH (by
  obtain ⟨r1, r2⟩ := hr
  have hnn := HN.out
  obtain ⟨b1, b2, b3, b4⟩ := a1
  obtain ⟨c1, c2, c3, c4⟩ := a2
  obtain ⟨d1, d2, d3, d4⟩ := a4
  obtain ⟨f1, f2⟩ := e21
  obtain ⟨f3, f4⟩ := e3
  obtain ⟨f5, f6⟩ := e3m
  rw [f2] at c3 c4
  rw [f6] at d3 d4
  refine ⟨by omega, by omega, by omega, by omega, ⟨by omega, by omega⟩, ⟨by omega, by rw [f2]; omega⟩, ⟨by omega, by rw [f6, f4]; rw [f4] at d3 d4; omega⟩, by omega, by omega⟩)
 clear a1 a2 a4 e21 e3 e3m e4m h1 h2 h3 h4 hks
 clear pa hra rk1 la0 rk2 la1 rk3 la2
 clear hr hf hE rc rk hs
 go_enter Tryz.func78, Tryz.ntmps78
 go_upto_region 1 with fail
 generalize hS : World.alloc w _ = W1
 have x1 : Ext w W1 := by rw [<- hS]; exact (XR _).alloc _
 have OK : Own W1 w.heap.size 42 #[.int .i64 19, .string c.text, .int .i64 c.number, .int .i64 c.depth, .slice (some ⟨ba, oa, none⟩) c.kids.length cc0] := by rw [<- hS]; exact own_new w _ _
 have HK1 : Hid (Ks w0 B0 sb hd w.heap.size #[.int .i64 19, .string c.text, .int .i64 c.number, .int .i64 c.depth, .slice (some ⟨ba, oa, none⟩) c.kids.length cc0] m w m W1 s) := LH (Ks.new hx h x1 OK)
 clear hS h hx x1
 have q0 := OK.k0
 have qf0 := OK.f0
 have q1 := OK.k1
 have qf1 := OK.f1
 have q2 := OK.k2
 have qf2 := OK.f2
 have q3 := OK.k3
 have qf3 := OK.f3
 have q4 := OK.k4
 have qf4 := OK.f4
 have qz := OK.lt
 have t0 : W1.cell? ⟨ba, oa, none⟩ = some (.int .i64 (kidC c 0).kind) := HK1.out.2.2.1.cell (by have := cl0 0 (by omega); simpa using this)
 have t1 : W1.cell? ⟨ba, oa + 1, none⟩ = some (.string (kidC c 0).text) := HK1.out.2.2.1.cell (by have := cl0 1 (by omega); simpa using this)
 have t2 : W1.cell? ⟨ba, oa + 2, none⟩ = some (.int .i64 (kidC c 0).number) := HK1.out.2.2.1.cell (by have := cl0 2 (by omega); simpa using this)
 have t3 : W1.cell? ⟨ba, oa + 3, none⟩ = some (.int .i64 (kidC c 0).depth) := HK1.out.2.2.1.cell (by have := cl0 3 (by omega); simpa using this)
 have t4 : W1.cell? ⟨ba, oa + 4, none⟩ = some (.slice aa1 (kidC c 0).kids.length cc1) := HK1.out.2.2.1.cell (by have := cl0 4 (by omega); simpa using this)
 go_wp2_with fail
 refine (HN0.out _ w0 W1 B0 sb hd _ _ ra0 HK1.out.2.2.1 hB HK1.out.1 (HA.out.2.2.2.2.1)).mono ?_
 rintro e w2 ⟨m2, rfl, h, k⟩
 rw [HH1.out] at h
 have HK2 := LH (HK1.out.step hB h k)
 clear h k OK HK1 q0 qf0 q1 qf1 q2 qf2 q3 qf3 q4 qf4 qz t0 t1 t2 t3 t4
 have OK := HK2.out.2.2.2.1
 have q0 := OK.k0
 have qf0 := OK.f0
 have q1 := OK.k1
 have qf1 := OK.f1
 have q2 := OK.k2
 have qf2 := OK.f2
 have q3 := OK.k3
 have qf3 := OK.f3
 have q4 := OK.k4
 have qf4 := OK.f4
 have qz := OK.lt
 go_wp2_with fail
 refine (sput_any (iO 21) w2 HK2.out.1 (HA.out.2.2.2.2.2.2.2.1)).mono ?_
 rintro e w3 ⟨m3, rfl, h, k⟩
 have HK3 := LH (HK2.out.step hB h k)
 clear h k OK HK2 q0 qf0 q1 qf1 q2 qf2 q3 qf3 q4 qf4 qz 
 have OK := HK3.out.2.2.2.1
 have q0 := OK.k0
 have qf0 := OK.f0
 have q1 := OK.k1
 have qf1 := OK.f1
 have q2 := OK.k2
 have qf2 := OK.f2
 have q3 := OK.k3
 have qf3 := OK.f3
 have q4 := OK.k4
 have qf4 := OK.f4
 have qz := OK.lt
 have t0 : w3.cell? ⟨ba, oa + 5, none⟩ = some (.int .i64 (kidC c 1).kind) := HK3.out.2.2.1.cell (by have := cl1 0 (by omega); simpa using this)
 have t1 : w3.cell? ⟨ba, oa + 6, none⟩ = some (.string (kidC c 1).text) := HK3.out.2.2.1.cell (by have := cl1 1 (by omega); simpa using this)
 have t2 : w3.cell? ⟨ba, oa + 7, none⟩ = some (.int .i64 (kidC c 1).number) := HK3.out.2.2.1.cell (by have := cl1 2 (by omega); simpa using this)
 have t3 : w3.cell? ⟨ba, oa + 8, none⟩ = some (.int .i64 (kidC c 1).depth) := HK3.out.2.2.1.cell (by have := cl1 3 (by omega); simpa using this)
 have t4 : w3.cell? ⟨ba, oa + 9, none⟩ = some (.slice aa2 (kidC c 1).kids.length cc2) := HK3.out.2.2.1.cell (by have := cl1 4 (by omega); simpa using this)
 go_wp2_with fail
 refine (HN1.out _ w0 w3 B0 sb hd _ _ ra1 HK3.out.2.2.1 hB HK3.out.1 (HA.out.2.2.2.2.2.1)).mono ?_
 rintro e w4 ⟨m4, rfl, h, k⟩
 rw [HH2.out] at h
 have HK4 := LH (HK3.out.step hB h k)
 clear h k OK HK3 q0 qf0 q1 qf1 q2 qf2 q3 qf3 q4 qf4 qz t0 t1 t2 t3 t4
 have OK := HK4.out.2.2.2.1
 have q0 := OK.k0
 have qf0 := OK.f0
 have q1 := OK.k1
 have qf1 := OK.f1
 have q2 := OK.k2
 have qf2 := OK.f2
 have q3 := OK.k3
 have qf3 := OK.f3
 have q4 := OK.k4
 have qf4 := OK.f4
 have qz := OK.lt
 go_wp2_with fail
 refine (sput_any (iO 20) w4 HK4.out.1 (HA.out.2.2.2.2.2.2.2.2)).mono ?_
 rintro e w5 ⟨m5, rfl, h, k⟩
 have HK5 := LH (HK4.out.step hB (by rw [HH3.out] at h; exact h) k)
 clear h k OK HK4 q0 qf0 q1 qf1 q2 qf2 q3 qf3 q4 qf4 qz 
 have OK := HK5.out.2.2.2.1
 have q0 := OK.k0
 have qf0 := OK.f0
 have q1 := OK.k1
 have qf1 := OK.f1
 have q2 := OK.k2
 have qf2 := OK.f2
 have q3 := OK.k3
 have qf3 := OK.f3
 have q4 := OK.k4
 have qf4 := OK.f4
 have qz := OK.lt
 obtain ⟨g, cap, hvl, hcap, hg, hcs, hM⟩ := StS.mod HK5.out.1 (i := s1.2.length) (by have := HA.out; omega)
 obtain ⟨hc0, hf0⟩ := hcs 1 (by omega)
 obtain ⟨u0, hc0⟩ := Option.isSome_iff_exists.1 hc0
 have HM := LH hM
 have y1 : w5.cell? ⟨sb, 4, none⟩ = some (.slice (some ⟨g, 0, none⟩) s3.2.length cap) := by rw [<- hvl]; exact HK5.out.1.1.cell 4
 have yz := HK5.out.1.1.lt
 have hlt : s1.2.length < s3.2.length := by have := HA.out; omega
 have hbd : s3.2.length <= 1000000 := by have := HA.out; omega
 clear hcs hM hvl
 go_upto_region 47 with fail
 go_region_law ((go_simp; go_wp2_with ((refine (shere_any _ (by first | exact HK5.out.1 | exact HK5.out.1.ext (Ext.drew (XR _)))).mono ?_; rintro e w' ⟨rfl, rfl⟩))))
 all_goals
  obtain ⟨h, k⟩ := (HM.out _ (XR _) (s3.2.length : Int)).1
  have h := h.ext (Ext.drew (XR _))
  have k := k.trans (Mv.ext (Ext.drew (XR _)))
  have HKN := LH (HK5.out.step hB h k)
  generalize hS : World.drew (World.setCell w5 _ _) = w6 at HKN ⊢
  have HK6 := HKN
  clear HKN h k OK HK5 HM hc0 hf0 y1 yz hg hcap hlt hbd hS q0 qf0 q1 qf1 q2 qf2 q3 qf3 q4 qf4 qz
  have OK := HK6.out.2.2.2.1
  have q0 := OK.k0
  have qf0 := OK.f0
  have q1 := OK.k1
  have qf1 := OK.f1
  have q2 := OK.k2
  have qf2 := OK.f2
  have q3 := OK.k3
  have qf3 := OK.f3
  have q4 := OK.k4
  have qf4 := OK.f4
  have qz := OK.lt
  have t0 : w6.cell? ⟨ba, oa + 10, none⟩ = some (.int .i64 (kidC c 2).kind) := HK6.out.2.2.1.cell (by have := cl2 0 (by omega); simpa using this)
  have t1 : w6.cell? ⟨ba, oa + 11, none⟩ = some (.string (kidC c 2).text) := HK6.out.2.2.1.cell (by have := cl2 1 (by omega); simpa using this)
  have t2 : w6.cell? ⟨ba, oa + 12, none⟩ = some (.int .i64 (kidC c 2).number) := HK6.out.2.2.1.cell (by have := cl2 2 (by omega); simpa using this)
  have t3 : w6.cell? ⟨ba, oa + 13, none⟩ = some (.int .i64 (kidC c 2).depth) := HK6.out.2.2.1.cell (by have := cl2 3 (by omega); simpa using this)
  have t4 : w6.cell? ⟨ba, oa + 14, none⟩ = some (.slice aa3 (kidC c 2).kids.length cc3) := HK6.out.2.2.1.cell (by have := cl2 4 (by omega); simpa using this)
  go_wp2_with fail
  refine (HN2.out _ w0 w6 B0 sb hd _ _ ra2 HK6.out.2.2.1 hB HK6.out.1 (HA.out.2.2.2.2.2.2.1)).mono ?_
  rintro e w7 ⟨m7, rfl, h, k⟩
  rw [HH4.out] at h
  have HK7 := LH (HK6.out.step hB h k)
  clear h k OK HK6 q0 qf0 q1 qf1 q2 qf2 q3 qf3 q4 qf4 qz t0 t1 t2 t3 t4
  have OK := HK7.out.2.2.2.1
  have q0 := OK.k0
  have qf0 := OK.f0
  have q1 := OK.k1
  have qf1 := OK.f1
  have q2 := OK.k2
  have qf2 := OK.f2
  have q3 := OK.k3
  have qf3 := OK.f3
  have q4 := OK.k4
  have qf4 := OK.f4
  have qz := OK.lt
  obtain ⟨g, cap, hvl, hcap, hg, hcs, hM⟩ := StS.mod HK7.out.1 (i := s1.2.length) (by have := HA.out; omega)
  obtain ⟨hc0, hf0⟩ := hcs 2 (by omega)
  obtain ⟨u0, hc0⟩ := Option.isSome_iff_exists.1 hc0
  have HM := LH hM
  have y1 : w7.cell? ⟨sb, 4, none⟩ = some (.slice (some ⟨g, 0, none⟩) s4.2.length cap) := by rw [<- hvl]; exact HK7.out.1.1.cell 4
  have yz := HK7.out.1.1.lt
  have hlt : s1.2.length < s4.2.length := by have := HA.out; omega
  have hbd : s4.2.length <= 1000000 := by have := HA.out; omega
  clear hcs hM hvl
  go_upto_region 49 with fail
  go_region_law ((go_simp; go_wp2_with ((refine (shere_any _ (by first | exact HK7.out.1 | exact HK7.out.1.ext (Ext.drew (XR _)))).mono ?_; rintro e w' ⟨rfl, rfl⟩))))
  all_goals
   obtain ⟨h, k⟩ := (HM.out _ (XR _) (s4.2.length : Int)).2.1
   have h := h.ext (Ext.drew (XR _))
   have k := k.trans (Mv.ext (Ext.drew (XR _)))
   have HKN := LH (HK7.out.step hB h k)
   generalize hS : World.drew (World.setCell w7 _ _) = w8 at HKN ⊢
   have HK8 := HKN
   clear HKN h k OK HK7 HM hc0 hf0 y1 yz hg hcap hlt hbd hS q0 qf0 q1 qf1 q2 qf2 q3 qf3 q4 qf4 qz
   have OK := HK8.out.2.2.2.1
   have q0 := OK.k0
   have qf0 := OK.f0
   have q1 := OK.k1
   have qf1 := OK.f1
   have q2 := OK.k2
   have qf2 := OK.f2
   have q3 := OK.k3
   have qf3 := OK.f3
   have q4 := OK.k4
   have qf4 := OK.f4
   have qz := OK.lt
   obtain ⟨g, cap, hvl, hcap, hg, hcs, hM⟩ := StS.mod HK8.out.1 (i := s2.2.length) (by have := HA.out; first | omega | (rw [(mdB_len _ _ _).1]; omega))
   rw [show (mdB s4 s1.2.length s4.2.length).2.length = s4.2.length from (mdB_len _ _ _).1] at hvl hcap
   obtain ⟨hc0, hf0⟩ := hcs 1 (by omega)
   obtain ⟨u0, hc0⟩ := Option.isSome_iff_exists.1 hc0
   have HM := LH hM
   have y1 : w8.cell? ⟨sb, 4, none⟩ = some (.slice (some ⟨g, 0, none⟩) s4.2.length cap) := by rw [<- hvl]; exact HK8.out.1.1.cell 4
   have yz := HK8.out.1.1.lt
   have hlt : s2.2.length < s4.2.length := by have := HA.out; first | omega | (rw [(mdB_len _ _ _).1]; omega)
   have hbd : s4.2.length <= 1000000 := by have := HA.out; omega
   clear hcs hM hvl
   go_upto_region 50 with fail
   go_region_law ((go_simp; go_wp2_with ((refine (shere_any _ (by first | exact HK8.out.1 | exact HK8.out.1.ext (Ext.drew (XR _)))).mono ?_; rintro e w' ⟨rfl, rfl⟩))))
   all_goals
    obtain ⟨h, k⟩ := (HM.out _ (XR _) (s4.2.length : Int)).1
    have h := h.ext (Ext.drew (XR _))
    have k := k.trans (Mv.ext (Ext.drew (XR _)))
    have HKN := LH (HK8.out.step hB h k)
    clear h k OK HK8 HM hc0 hf0 y1 yz hg hcap hlt hbd q0 qf0 q1 qf1 q2 qf2 q3 qf3 q4 qf4 qz
    go_wp2_with fail
    go_end0
    try rw [(mdB_len _ _ _).1]
    exact ⟨_, rfl, HKN.out.1, HKN.out.2.1⟩
end Go.Proofs.YtlaclfeljimffaaGreatDoor
