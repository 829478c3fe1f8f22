/-
  SEVERAL TEXTS IN ONE: CONTRACTS: the reference's node: while loops; CONTRACTS: the reference's block; CONTRACTS: the reference's compiler: node; CONTRACTS: the reference's l11ClassesCopy.
  Conditions: those that each lemma states.
-/
import Derived.Test.YtlaclfeljimffaaGreatDoorRows
import Derived.Deep.RegionHeldLaw
import Derived.Test.YtlaclfeljimffaaGreatDoorP26
import Derived.Test.YtlaclfeljimffaaGreatDoorP16
import Derived.Test.YtlaclfeljimffaaGreatDoorP27
import Derived.Test.YtlaclfeljimffaaGreatDoorP23
import Derived.Test.YtlaclfeljimffaaGreatDoorP15
namespace Go.Proofs.YtlaclfeljimffaaGreatDoor
open Go.RowKit
set_option maxHeartbeats 8000000
set_option maxRecDepth 100000
set_option linter.unusedSimpArgs false
set_option linter.unusedVariables false
theorem swhile1_at {f : CF} (hf : Few f) {c : MCore} (hk : c.kind = 20) (hn : c.number = 1) (hs : shp c) (HL : Hid (∀ z, z ∈ c.kids -> NodeS f z)) {cs : List Value} (w0 w : World) {B0 sb : Nat} {hd : Bool × Int × Int} {m : Rw} {s : CS} (rc : Rep w0 c.d cs) (hx : Ext w0 w) (hB : w0.heap.size <= B0) (h : StS B0 sb hd m w s) (hr : Room s c.nodes) :
 Calls Tryz.prog 109 #[.pointer (some ⟨sb, 0, none⟩), .agg cs.toArray] w (GotS B0 sb hd m w (whileF f c.number (kidC c 0) (kidC c 1) s)) := by
 obtain ⟨aa0, cc0, rfl, rk⟩ := MCore.op_en rc
 have hE : whileF f c.number (kidC c 0) (kidC c 1) s = mdB (pt (mdA (pt (pt (f (kidC c 1) (pt (f (kidC c 0) (pt s (iO 23))) (iO 21))) (iO 16)) (iN 20 s.2.length 0 ⟨#[]⟩)) (f (kidC c 0) (pt s (iO 23))).2.length (pt (pt (f (kidC c 1) (pt (f (kidC c 0) (pt s (iO 23))) (iO 21))) (iO 16)) (iN 20 s.2.length 0 ⟨#[]⟩)).2.length) (iO 4)) (f (kidC c 0) (pt s (iO 23))).2.length (pt (mdA (pt (pt (f (kidC c 1) (pt (f (kidC c 0) (pt s (iO 23))) (iO 21))) (iO 16)) (iN 20 s.2.length 0 ⟨#[]⟩)) (f (kidC c 0) (pt s (iO 23))).2.length (pt (pt (f (kidC c 1) (pt (f (kidC c 0) (pt s (iO 23))) (iO 21))) (iO 16)) (iN 20 s.2.length 0 ⟨#[]⟩)).2.length) (iO 4)).2.length := by simp [whileF, hn]
 rw [hE, hk]
 have HN : Hid (MCore.nodesL c.kids + 1 = c.nodes) := LH (by have := MCore.nodes_eq c; omega)
 have HRM := LH hr
 have HF := LH hf
 have HRK := LH rk
 obtain ⟨ao, ca, ba, oa, e1, hla, hma, pa, hra⟩ := Rep.slmap rk
 simp only [List.cons.injEq, and_true, Value.slice.injEq, List.length_map] at e1
 obtain ⟨rfl, -, rfl⟩ := e1
 unfold maxLen at hma
 have hk0 : 1 < c.kids.length := by have := hs; have hk := hk; unfold shp at this; omega
 obtain rfl := pa (by omega)
 obtain ⟨ea0, la0, cl0, ra0⟩ := hra 0 (kidC c 0) (by rw [kidC_got (by omega)]; simp)
 obtain ⟨aa1, cc1, rfl, rk1⟩ := MCore.op_en ra0
 have HN0 := LH (HL.out (kidC c 0) (by rw [kidC_got (by omega)]; exact List.getElem_mem (by omega)))
 obtain ⟨ea1, la1, cl1, ra1⟩ := hra 1 (kidC c 1) (by rw [kidC_got (by omega)]; simp)
 obtain ⟨aa2, cc2, rfl, rk2⟩ := MCore.op_en ra1
 have HN1 := LH (HL.out (kidC c 1) (by rw [kidC_got (by omega)]; exact List.getElem_mem (by omega)))
 have hks := kid_two (hs.2.2.2.1 hk)
 have HNZ := LH hn
 obtain ⟨s0, h0⟩ : ∃ t, pt s (iO 23) = t := ⟨_, rfl⟩
 have e0 : s0.2.length = s.2.length + 1 /\ s0.1 = s.1 := by rw [<- h0]; exact pt_len _ _
 have a1 := hf (kidC c 0) s0
 obtain ⟨s1, h1⟩ : ∃ t, f (kidC c 0) s0 = t := ⟨_, rfl⟩
 obtain ⟨sj, hj⟩ : ∃ t, pt s1 (iO 21) = t := ⟨_, rfl⟩
 have ej : sj.2.length = s1.2.length + 1 /\ sj.1 = s1.1 := by rw [<- hj]; exact pt_len _ _
 have a2 := hf (kidC c 1) sj
 obtain ⟨s2, h2⟩ : ∃ t, f (kidC c 1) sj = t := ⟨_, rfl⟩
 obtain ⟨s3, h3⟩ : ∃ t, pt s2 (iO 16) = t := ⟨_, rfl⟩
 have e3 : s3.2.length = s2.2.length + 1 /\ s3.1 = s2.1 := by rw [<- h3]; exact pt_len _ _
 obtain ⟨s4, h4⟩ : ∃ t, pt s3 (iN 20 s.2.length 0 ⟨#[]⟩) = t := ⟨_, rfl⟩
 have e4 : s4.2.length = s3.2.length + 1 /\ s4.1 = s3.1 := by rw [<- h4]; exact pt_len _ _
 have e5 := mdA_len s4 s1.2.length s4.2.length
 obtain ⟨s5, h5⟩ : ∃ t, mdA s4 s1.2.length s4.2.length = t := ⟨_, rfl⟩
 obtain ⟨s6, h6⟩ : ∃ t, pt s5 (iO 4) = t := ⟨_, rfl⟩
 have e6 : s6.2.length = s5.2.length + 1 /\ s6.1 = s5.1 := by rw [<- h6]; exact pt_len _ _
 rw [h0, h1, hj, h2, h3, h4, h5, h6]
 rw [h1] at a1
 rw [h2] at a2
 rw [h5] at e5
 have HH0 := LH h0
 have HH1 := LH h1
 have HHJ := LH hj
 have HH2 := LH h2
 have HH3 := LH h3
 have HH4 := LH h4
 have HH5 := LH h5
 have HH6 := LH h6
 have HA : Hid (s.2.length + 1 <= s1.2.length /\ s1.2.length + 1 = (pt s1 (iO 21)).2.length /\ s1.2.length + 1 <= s2.2.length /\ s3.2.length = s2.2.length + 1 /\ s4.2.length = s3.2.length + 1 /\ s6.2.length = s4.2.length + 1 /\ s5.2.length = s4.2.length /\ s6.2.length <= 1000000 /\ Room s0 ((kidC c 0).nodes) /\ Room sj (kidC c 1).nodes) := LH (by
  obtain ⟨r1, r2⟩ := hr
  have hnn := HN.out
  obtain ⟨b1, b2, b3, b4⟩ := a1
  obtain ⟨c1, c2, c3, c4⟩ := a2
  obtain ⟨f1, f2⟩ := e0
  obtain ⟨f3, f4⟩ := ej
  obtain ⟨f5, f6⟩ := e3
  obtain ⟨f7, f8⟩ := e4
  obtain ⟨f9, f10⟩ := e5
  obtain ⟨f11, f12⟩ := e6
  rw [f2] at b3 b4
  rw [f4] at c3 c4
  refine ⟨by omega, (pt_len _ _).1.symm, by omega, by omega, by omega, by omega, by omega, by omega, ⟨by omega, by rw [f2]; omega⟩, ⟨by omega, by rw [f4]; omega⟩⟩)
 clear a1 a2 e0 ej e3 e4 e5 e6 h0 h1 hj h2 h3 h4 h5 h6 hks
 have hb : (c.number == 1) = true := by rw [hn]; rfl
 clear hn
 clear pa hra rk1 la0 rk2 la1
 clear hr hf hE rc rk hs
 go_enter Tryz.func109, Tryz.ntmps109
 go_upto_region 1 with fail
 generalize hS : World.alloc w _ = W1
 have x1 : Ext w W1 := by rw [<- hS]; exact (XR _).alloc _
 have OK : Own W1 w.heap.size 42 #[.int .i64 20, .string c.text, .int .i64 c.number, .int .i64 c.depth, .slice (some ⟨ba, oa, none⟩) c.kids.length cc0] := by rw [<- hS]; exact own_new w _ _
 have HK1 : Hid (Ks w0 B0 sb hd w.heap.size #[.int .i64 20, .string c.text, .int .i64 c.number, .int .i64 c.depth, .slice (some ⟨ba, oa, none⟩) c.kids.length cc0] m w m W1 s) := LH (Ks.new hx h x1 OK)
 clear hS h hx x1
 have q0 := OK.k0
 have qf0 := OK.f0
 have q1 := OK.k1
 have qf1 := OK.f1
 have q2 := OK.k2
 have qf2 := OK.f2
 have q3 := OK.k3
 have qf3 := OK.f3
 have q4 := OK.k4
 have qf4 := OK.f4
 have qz := OK.lt
 go_wp2_with fail
 refine (shere_any W1 HK1.out.1).mono ?_
 rintro e wh ⟨rfl, hwh⟩
 obtain rfl : W1 = wh := hwh.symm
 go_wp2_with fail
 refine (sop_any 23 W1 HK1.out.1 (by have := HA.out; omega)).mono ?_
 rintro e w2 ⟨m2, rfl, h, k⟩
 rw [HH0.out] at h
 have HK2 := LH (HK1.out.step hB h k)
 clear h k OK HK1 q0 qf0 q1 qf1 q2 qf2 q3 qf3 q4 qf4 qz 
 have OK := HK2.out.2.2.2.1
 have q0 := OK.k0
 have qf0 := OK.f0
 have q1 := OK.k1
 have qf1 := OK.f1
 have q2 := OK.k2
 have qf2 := OK.f2
 have q3 := OK.k3
 have qf3 := OK.f3
 have q4 := OK.k4
 have qf4 := OK.f4
 have qz := OK.lt
 have t0 : w2.cell? ⟨ba, oa, none⟩ = some (.int .i64 (kidC c 0).kind) := HK2.out.2.2.1.cell (by have := cl0 0 (by omega); simpa using this)
 have t1 : w2.cell? ⟨ba, oa + 1, none⟩ = some (.string (kidC c 0).text) := HK2.out.2.2.1.cell (by have := cl0 1 (by omega); simpa using this)
 have t2 : w2.cell? ⟨ba, oa + 2, none⟩ = some (.int .i64 (kidC c 0).number) := HK2.out.2.2.1.cell (by have := cl0 2 (by omega); simpa using this)
 have t3 : w2.cell? ⟨ba, oa + 3, none⟩ = some (.int .i64 (kidC c 0).depth) := HK2.out.2.2.1.cell (by have := cl0 3 (by omega); simpa using this)
 have t4 : w2.cell? ⟨ba, oa + 4, none⟩ = some (.slice aa1 (kidC c 0).kids.length cc1) := HK2.out.2.2.1.cell (by have := cl0 4 (by omega); simpa using this)
 go_wp2_with fail
 refine (HN0.out _ w0 w2 B0 sb hd _ _ ra0 HK2.out.2.2.1 hB HK2.out.1 (HA.out.2.2.2.2.2.2.2.2.1)).mono ?_
 rintro e w3 ⟨m3, rfl, h, k⟩
 rw [HH1.out] at h
 have HK3 := LH (HK2.out.step hB h k)
 clear h k OK HK2 q0 qf0 q1 qf1 q2 qf2 q3 qf3 q4 qf4 qz t0 t1 t2 t3 t4
 have OK := HK3.out.2.2.2.1
 have q0 := OK.k0
 have qf0 := OK.f0
 have q1 := OK.k1
 have qf1 := OK.f1
 have q2 := OK.k2
 have qf2 := OK.f2
 have q3 := OK.k3
 have qf3 := OK.f3
 have q4 := OK.k4
 have qf4 := OK.f4
 have qz := OK.lt
 go_wp2_with fail
 refine (sput_any (iO 21) w3 HK3.out.1 (by have := HA.out; omega)).mono ?_
 rintro e w4 ⟨m4, rfl, h, k⟩
 rw [HHJ.out] at h
 have HK4 := LH (HK3.out.step hB h k)
 clear h k OK HK3 q0 qf0 q1 qf1 q2 qf2 q3 qf3 q4 qf4 qz 
 have OK := HK4.out.2.2.2.1
 have q0 := OK.k0
 have qf0 := OK.f0
 have q1 := OK.k1
 have qf1 := OK.f1
 have q2 := OK.k2
 have qf2 := OK.f2
 have q3 := OK.k3
 have qf3 := OK.f3
 have q4 := OK.k4
 have qf4 := OK.f4
 have qz := OK.lt
 have t0 : w4.cell? ⟨ba, oa + 5, none⟩ = some (.int .i64 (kidC c 1).kind) := HK4.out.2.2.1.cell (by have := cl1 0 (by omega); simpa using this)
 have t1 : w4.cell? ⟨ba, oa + 6, none⟩ = some (.string (kidC c 1).text) := HK4.out.2.2.1.cell (by have := cl1 1 (by omega); simpa using this)
 have t2 : w4.cell? ⟨ba, oa + 7, none⟩ = some (.int .i64 (kidC c 1).number) := HK4.out.2.2.1.cell (by have := cl1 2 (by omega); simpa using this)
 have t3 : w4.cell? ⟨ba, oa + 8, none⟩ = some (.int .i64 (kidC c 1).depth) := HK4.out.2.2.1.cell (by have := cl1 3 (by omega); simpa using this)
 have t4 : w4.cell? ⟨ba, oa + 9, none⟩ = some (.slice aa2 (kidC c 1).kids.length cc2) := HK4.out.2.2.1.cell (by have := cl1 4 (by omega); simpa using this)
 go_wp2_with fail
 refine (HN1.out _ w0 w4 B0 sb hd _ _ ra1 HK4.out.2.2.1 hB HK4.out.1 (HA.out.2.2.2.2.2.2.2.2.2)).mono ?_
 rintro e w5 ⟨m5, rfl, h, k⟩
 rw [HH2.out] at h
 have HK5 := LH (HK4.out.step hB h k)
 clear h k OK HK4 q0 qf0 q1 qf1 q2 qf2 q3 qf3 q4 qf4 qz t0 t1 t2 t3 t4
 have OK := HK5.out.2.2.2.1
 have q0 := OK.k0
 have qf0 := OK.f0
 have q1 := OK.k1
 have qf1 := OK.f1
 have q2 := OK.k2
 have qf2 := OK.f2
 have q3 := OK.k3
 have qf3 := OK.f3
 have q4 := OK.k4
 have qf4 := OK.f4
 have qz := OK.lt
 go_wp2_with fail
 refine (sop_any 16 w5 HK5.out.1 (by have := HA.out; omega)).mono ?_
 rintro e w6 ⟨m6, rfl, h, k⟩
 rw [HH3.out] at h
 have HK6 := LH (HK5.out.step hB h k)
 clear h k OK HK5 q0 qf0 q1 qf1 q2 qf2 q3 qf3 q4 qf4 qz 
 have OK := HK6.out.2.2.2.1
 have q0 := OK.k0
 have qf0 := OK.f0
 have q1 := OK.k1
 have qf1 := OK.f1
 have q2 := OK.k2
 have qf2 := OK.f2
 have q3 := OK.k3
 have qf3 := OK.f3
 have q4 := OK.k4
 have qf4 := OK.f4
 have qz := OK.lt
 go_wp2_with fail
 refine (sput_any (iN 20 s.2.length 0 ⟨#[]⟩) w6 HK6.out.1 (by have := HA.out; omega)).mono ?_
 rintro e w7 ⟨m7, rfl, h, k⟩
 rw [HH4.out] at h
 have HK7 := LH (HK6.out.step hB h k)
 clear h k OK HK6 q0 qf0 q1 qf1 q2 qf2 q3 qf3 q4 qf4 qz 
 have OK := HK7.out.2.2.2.1
 have q0 := OK.k0
 have qf0 := OK.f0
 have q1 := OK.k1
 have qf1 := OK.f1
 have q2 := OK.k2
 have qf2 := OK.f2
 have q3 := OK.k3
 have qf3 := OK.f3
 have q4 := OK.k4
 have qf4 := OK.f4
 have qz := OK.lt
 obtain ⟨g, cap, hvl, hcap, hg, hcs, hM⟩ := StS.mod HK7.out.1 (i := s1.2.length) (by have := HA.out; omega)
 obtain ⟨hc0, hf0⟩ := hcs 1 (by omega)
 obtain ⟨u0, hc0⟩ := Option.isSome_iff_exists.1 hc0
 have HM := LH hM
 have y1 : w7.cell? ⟨sb, 4, none⟩ = some (.slice (some ⟨g, 0, none⟩) s4.2.length cap) := by rw [<- hvl]; exact HK7.out.1.1.cell 4
 have yz := HK7.out.1.1.lt
 have hlt : s1.2.length < s4.2.length := by have := HA.out; omega
 have hbd : s4.2.length <= 1000000 := by have := HA.out; omega
 clear hcs hM hvl
 go_upto_region 11 with fail
 go_region_law ((go_simp; go_wp2_with ((refine (shere_any _ (by first | exact HK7.out.1 | exact HK7.out.1.ext (Ext.drew (XR _)))).mono ?_; rintro e w' ⟨rfl, rfl⟩))))
 all_goals
  obtain ⟨h, k⟩ := (HM.out _ (XR _) (s4.2.length : Int)).1
  have h := h.ext (Ext.drew (XR _))
  have k := k.trans (Mv.ext (Ext.drew (XR _)))
  rw [HH5.out] at h
  have HKN := LH (HK7.out.step hB h k)
  generalize hS : World.drew (World.setCell w7 _ _) = w8 at HKN ⊢
  have HK8 := HKN
  clear HKN h k OK HK7 HM hc0 hf0 y1 yz hg hcap hlt hbd hS q0 qf0 q1 qf1 q2 qf2 q3 qf3 q4 qf4 qz
  have OK := HK8.out.2.2.2.1
  have q0 := OK.k0
  have qf0 := OK.f0
  have q1 := OK.k1
  have qf1 := OK.f1
  have q2 := OK.k2
  have qf2 := OK.f2
  have q3 := OK.k3
  have qf3 := OK.f3
  have q4 := OK.k4
  have qf4 := OK.f4
  have qz := OK.lt
  go_wp2_with fail
  refine (sop_any 4 w8 HK8.out.1 (by have := HA.out; omega)).mono ?_
  rintro e w9 ⟨m9, rfl, h, k⟩
  rw [HH6.out] at h
  have HK9 := LH (HK8.out.step hB h k)
  clear h k OK HK8 q0 qf0 q1 qf1 q2 qf2 q3 qf3 q4 qf4 qz 
  have OK := HK9.out.2.2.2.1
  have q0 := OK.k0
  have qf0 := OK.f0
  have q1 := OK.k1
  have qf1 := OK.f1
  have q2 := OK.k2
  have qf2 := OK.f2
  have q3 := OK.k3
  have qf3 := OK.f3
  have q4 := OK.k4
  have qf4 := OK.f4
  have qz := OK.lt
  obtain ⟨g, cap, hvl, hcap, hg, hcs, hM⟩ := StS.mod HK9.out.1 (i := s1.2.length) (by have := HA.out; omega)
  obtain ⟨hc0, hf0⟩ := hcs 2 (by omega)
  obtain ⟨u0, hc0⟩ := Option.isSome_iff_exists.1 hc0
  have HM := LH hM
  have y1 : w9.cell? ⟨sb, 4, none⟩ = some (.slice (some ⟨g, 0, none⟩) s6.2.length cap) := by rw [<- hvl]; exact HK9.out.1.1.cell 4
  have yz := HK9.out.1.1.lt
  have hlt : s1.2.length < s6.2.length := by have := HA.out; omega
  have hbd : s6.2.length <= 1000000 := by have := HA.out; omega
  clear hcs hM hvl
  go_upto_region 13 with fail
  go_region_law ((go_simp; go_wp2_with ((refine (shere_any _ (by first | exact HK9.out.1 | exact HK9.out.1.ext (Ext.drew (XR _)))).mono ?_; rintro e w' ⟨rfl, rfl⟩))))
  all_goals
   obtain ⟨h, k⟩ := (HM.out _ (XR _) (s6.2.length : Int)).2.1
   have h := h.ext (Ext.drew (XR _))
   have k := k.trans (Mv.ext (Ext.drew (XR _)))
   have HKN := LH (HK9.out.step hB h k)
   clear h k OK HK9 HM hc0 hf0 y1 yz hg hcap hlt hbd q0 qf0 q1 qf1 q2 qf2 q3 qf3 q4 qf4 qz
   go_wp2_with fail
   go_end0
   exact ⟨_, rfl, HKN.out.1, HKN.out.2.1⟩
theorem swhile0_at {f : CF} (hf : Few f) {c : MCore} (hk : c.kind = 20) (hn : c.number = 0) (hs : shp c) (HL : Hid (∀ z, z ∈ c.kids -> NodeS f z)) {cs : List Value} (w0 w : World) {B0 sb : Nat} {hd : Bool × Int × Int} {m : Rw} {s : CS} (rc : Rep w0 c.d cs) (hx : Ext w0 w) (hB : w0.heap.size <= B0) (h : StS B0 sb hd m w s) (hr : Room s c.nodes) :
 Calls Tryz.prog 109 #[.pointer (some ⟨sb, 0, none⟩), .agg cs.toArray] w (GotS B0 sb hd m w (whileF f c.number (kidC c 0) (kidC c 1) s)) := by
 obtain ⟨aa0, cc0, rfl, rk⟩ := MCore.op_en rc
 have hE : whileF f c.number (kidC c 0) (kidC c 1) s = mdB (pt (mdA (pt (pt (f (kidC c 1) (pt (f (kidC c 0) (pt s (iO 23))) (iO 22))) (iO 16)) (iN 20 s.2.length 0 ⟨#[]⟩)) (f (kidC c 0) (pt s (iO 23))).2.length (pt (pt (f (kidC c 1) (pt (f (kidC c 0) (pt s (iO 23))) (iO 22))) (iO 16)) (iN 20 s.2.length 0 ⟨#[]⟩)).2.length) (iO 4)) (f (kidC c 0) (pt s (iO 23))).2.length (pt (mdA (pt (pt (f (kidC c 1) (pt (f (kidC c 0) (pt s (iO 23))) (iO 22))) (iO 16)) (iN 20 s.2.length 0 ⟨#[]⟩)) (f (kidC c 0) (pt s (iO 23))).2.length (pt (pt (f (kidC c 1) (pt (f (kidC c 0) (pt s (iO 23))) (iO 22))) (iO 16)) (iN 20 s.2.length 0 ⟨#[]⟩)).2.length) (iO 4)).2.length := by simp [whileF, hn]
 rw [hE, hk]
 have HN : Hid (MCore.nodesL c.kids + 1 = c.nodes) := LH (by have := MCore.nodes_eq c; omega)
 have HRM := LH hr
 have HF := LH hf
 have HRK := LH rk
 obtain ⟨ao, ca, ba, oa, e1, hla, hma, pa, hra⟩ := Rep.slmap rk
 simp only [List.cons.injEq, and_true, Value.slice.injEq, List.length_map] at e1
 obtain ⟨rfl, -, rfl⟩ := e1
 unfold maxLen at hma
 have hk0 : 1 < c.kids.length := by have := hs; have hk := hk; unfold shp at this; omega
 obtain rfl := pa (by omega)
 obtain ⟨ea0, la0, cl0, ra0⟩ := hra 0 (kidC c 0) (by rw [kidC_got (by omega)]; simp)
 obtain ⟨aa1, cc1, rfl, rk1⟩ := MCore.op_en ra0
 have HN0 := LH (HL.out (kidC c 0) (by rw [kidC_got (by omega)]; exact List.getElem_mem (by omega)))
 obtain ⟨ea1, la1, cl1, ra1⟩ := hra 1 (kidC c 1) (by rw [kidC_got (by omega)]; simp)
 obtain ⟨aa2, cc2, rfl, rk2⟩ := MCore.op_en ra1
 have HN1 := LH (HL.out (kidC c 1) (by rw [kidC_got (by omega)]; exact List.getElem_mem (by omega)))
 have hks := kid_two (hs.2.2.2.1 hk)
 have HNZ := LH hn
 obtain ⟨s0, h0⟩ : ∃ t, pt s (iO 23) = t := ⟨_, rfl⟩
 have e0 : s0.2.length = s.2.length + 1 /\ s0.1 = s.1 := by rw [<- h0]; exact pt_len _ _
 have a1 := hf (kidC c 0) s0
 obtain ⟨s1, h1⟩ : ∃ t, f (kidC c 0) s0 = t := ⟨_, rfl⟩
 obtain ⟨sj, hj⟩ : ∃ t, pt s1 (iO 22) = t := ⟨_, rfl⟩
 have ej : sj.2.length = s1.2.length + 1 /\ sj.1 = s1.1 := by rw [<- hj]; exact pt_len _ _
 have a2 := hf (kidC c 1) sj
 obtain ⟨s2, h2⟩ : ∃ t, f (kidC c 1) sj = t := ⟨_, rfl⟩
 obtain ⟨s3, h3⟩ : ∃ t, pt s2 (iO 16) = t := ⟨_, rfl⟩
 have e3 : s3.2.length = s2.2.length + 1 /\ s3.1 = s2.1 := by rw [<- h3]; exact pt_len _ _
 obtain ⟨s4, h4⟩ : ∃ t, pt s3 (iN 20 s.2.length 0 ⟨#[]⟩) = t := ⟨_, rfl⟩
 have e4 : s4.2.length = s3.2.length + 1 /\ s4.1 = s3.1 := by rw [<- h4]; exact pt_len _ _
 have e5 := mdA_len s4 s1.2.length s4.2.length
 obtain ⟨s5, h5⟩ : ∃ t, mdA s4 s1.2.length s4.2.length = t := ⟨_, rfl⟩
 obtain ⟨s6, h6⟩ : ∃ t, pt s5 (iO 4) = t := ⟨_, rfl⟩
 have e6 : s6.2.length = s5.2.length + 1 /\ s6.1 = s5.1 := by rw [<- h6]; exact pt_len _ _
 rw [h0, h1, hj, h2, h3, h4, h5, h6]
 rw [h1] at a1
 rw [h2] at a2
 rw [h5] at e5
 have HH0 := LH h0
 have HH1 := LH h1
 have HHJ := LH hj
 have HH2 := LH h2
 have HH3 := LH h3
 have HH4 := LH h4
 have HH5 := LH h5
 have HH6 := LH h6
 have HA : Hid (s.2.length + 1 <= s1.2.length /\ s1.2.length + 1 = (pt s1 (iO 22)).2.length /\ s1.2.length + 1 <= s2.2.length /\ s3.2.length = s2.2.length + 1 /\ s4.2.length = s3.2.length + 1 /\ s6.2.length = s4.2.length + 1 /\ s5.2.length = s4.2.length /\ s6.2.length <= 1000000 /\ Room s0 ((kidC c 0).nodes) /\ Room sj (kidC c 1).nodes) := LH (by
  obtain ⟨r1, r2⟩ := hr
  have hnn := HN.out
  obtain ⟨b1, b2, b3, b4⟩ := a1
  obtain ⟨c1, c2, c3, c4⟩ := a2
  obtain ⟨f1, f2⟩ := e0
  obtain ⟨f3, f4⟩ := ej
  obtain ⟨f5, f6⟩ := e3
  obtain ⟨f7, f8⟩ := e4
  obtain ⟨f9, f10⟩ := e5
  obtain ⟨f11, f12⟩ := e6
  rw [f2] at b3 b4
  rw [f4] at c3 c4
  refine ⟨by omega, (pt_len _ _).1.symm, by omega, by omega, by omega, by omega, by omega, by omega, ⟨by omega, by rw [f2]; omega⟩, ⟨by omega, by rw [f4]; omega⟩⟩)
 clear a1 a2 e0 ej e3 e4 e5 e6 h0 h1 hj h2 h3 h4 h5 h6 hks
 have hb : (c.number == 1) = false := by rw [hn]; rfl
 clear hn
 clear pa hra rk1 la0 rk2 la1
 clear hr hf hE rc rk hs
 go_enter Tryz.func109, Tryz.ntmps109
 go_upto_region 1 with fail
 generalize hS : World.alloc w _ = W1
 have x1 : Ext w W1 := by rw [<- hS]; exact (XR _).alloc _
 have OK : Own W1 w.heap.size 42 #[.int .i64 20, .string c.text, .int .i64 c.number, .int .i64 c.depth, .slice (some ⟨ba, oa, none⟩) c.kids.length cc0] := by rw [<- hS]; exact own_new w _ _
 have HK1 : Hid (Ks w0 B0 sb hd w.heap.size #[.int .i64 20, .string c.text, .int .i64 c.number, .int .i64 c.depth, .slice (some ⟨ba, oa, none⟩) c.kids.length cc0] m w m W1 s) := LH (Ks.new hx h x1 OK)
 clear hS h hx x1
 have q0 := OK.k0
 have qf0 := OK.f0
 have q1 := OK.k1
 have qf1 := OK.f1
 have q2 := OK.k2
 have qf2 := OK.f2
 have q3 := OK.k3
 have qf3 := OK.f3
 have q4 := OK.k4
 have qf4 := OK.f4
 have qz := OK.lt
 go_wp2_with fail
 refine (shere_any W1 HK1.out.1).mono ?_
 rintro e wh ⟨rfl, hwh⟩
 obtain rfl : W1 = wh := hwh.symm
 go_wp2_with fail
 refine (sop_any 23 W1 HK1.out.1 (by have := HA.out; omega)).mono ?_
 rintro e w2 ⟨m2, rfl, h, k⟩
 rw [HH0.out] at h
 have HK2 := LH (HK1.out.step hB h k)
 clear h k OK HK1 q0 qf0 q1 qf1 q2 qf2 q3 qf3 q4 qf4 qz 
 have OK := HK2.out.2.2.2.1
 have q0 := OK.k0
 have qf0 := OK.f0
 have q1 := OK.k1
 have qf1 := OK.f1
 have q2 := OK.k2
 have qf2 := OK.f2
 have q3 := OK.k3
 have qf3 := OK.f3
 have q4 := OK.k4
 have qf4 := OK.f4
 have qz := OK.lt
 have t0 : w2.cell? ⟨ba, oa, none⟩ = some (.int .i64 (kidC c 0).kind) := HK2.out.2.2.1.cell (by have := cl0 0 (by omega); simpa using this)
 have t1 : w2.cell? ⟨ba, oa + 1, none⟩ = some (.string (kidC c 0).text) := HK2.out.2.2.1.cell (by have := cl0 1 (by omega); simpa using this)
 have t2 : w2.cell? ⟨ba, oa + 2, none⟩ = some (.int .i64 (kidC c 0).number) := HK2.out.2.2.1.cell (by have := cl0 2 (by omega); simpa using this)
 have t3 : w2.cell? ⟨ba, oa + 3, none⟩ = some (.int .i64 (kidC c 0).depth) := HK2.out.2.2.1.cell (by have := cl0 3 (by omega); simpa using this)
 have t4 : w2.cell? ⟨ba, oa + 4, none⟩ = some (.slice aa1 (kidC c 0).kids.length cc1) := HK2.out.2.2.1.cell (by have := cl0 4 (by omega); simpa using this)
 go_wp2_with fail
 refine (HN0.out _ w0 w2 B0 sb hd _ _ ra0 HK2.out.2.2.1 hB HK2.out.1 (HA.out.2.2.2.2.2.2.2.2.1)).mono ?_
 rintro e w3 ⟨m3, rfl, h, k⟩
 rw [HH1.out] at h
 have HK3 := LH (HK2.out.step hB h k)
 clear h k OK HK2 q0 qf0 q1 qf1 q2 qf2 q3 qf3 q4 qf4 qz t0 t1 t2 t3 t4
 have OK := HK3.out.2.2.2.1
 have q0 := OK.k0
 have qf0 := OK.f0
 have q1 := OK.k1
 have qf1 := OK.f1
 have q2 := OK.k2
 have qf2 := OK.f2
 have q3 := OK.k3
 have qf3 := OK.f3
 have q4 := OK.k4
 have qf4 := OK.f4
 have qz := OK.lt
 go_wp2_with fail
 refine (sput_any (iO 22) w3 HK3.out.1 (by have := HA.out; omega)).mono ?_
 rintro e w4 ⟨m4, rfl, h, k⟩
 rw [HHJ.out] at h
 have HK4 := LH (HK3.out.step hB h k)
 clear h k OK HK3 q0 qf0 q1 qf1 q2 qf2 q3 qf3 q4 qf4 qz 
 have OK := HK4.out.2.2.2.1
 have q0 := OK.k0
 have qf0 := OK.f0
 have q1 := OK.k1
 have qf1 := OK.f1
 have q2 := OK.k2
 have qf2 := OK.f2
 have q3 := OK.k3
 have qf3 := OK.f3
 have q4 := OK.k4
 have qf4 := OK.f4
 have qz := OK.lt
 have t0 : w4.cell? ⟨ba, oa + 5, none⟩ = some (.int .i64 (kidC c 1).kind) := HK4.out.2.2.1.cell (by have := cl1 0 (by omega); simpa using this)
 have t1 : w4.cell? ⟨ba, oa + 6, none⟩ = some (.string (kidC c 1).text) := HK4.out.2.2.1.cell (by have := cl1 1 (by omega); simpa using this)
 have t2 : w4.cell? ⟨ba, oa + 7, none⟩ = some (.int .i64 (kidC c 1).number) := HK4.out.2.2.1.cell (by have := cl1 2 (by omega); simpa using this)
 have t3 : w4.cell? ⟨ba, oa + 8, none⟩ = some (.int .i64 (kidC c 1).depth) := HK4.out.2.2.1.cell (by have := cl1 3 (by omega); simpa using this)
 have t4 : w4.cell? ⟨ba, oa + 9, none⟩ = some (.slice aa2 (kidC c 1).kids.length cc2) := HK4.out.2.2.1.cell (by have := cl1 4 (by omega); simpa using this)
 go_wp2_with fail
 refine (HN1.out _ w0 w4 B0 sb hd _ _ ra1 HK4.out.2.2.1 hB HK4.out.1 (HA.out.2.2.2.2.2.2.2.2.2)).mono ?_
 rintro e w5 ⟨m5, rfl, h, k⟩
 rw [HH2.out] at h
 have HK5 := LH (HK4.out.step hB h k)
 clear h k OK HK4 q0 qf0 q1 qf1 q2 qf2 q3 qf3 q4 qf4 qz t0 t1 t2 t3 t4
 have OK := HK5.out.2.2.2.1
 have q0 := OK.k0
 have qf0 := OK.f0
 have q1 := OK.k1
 have qf1 := OK.f1
 have q2 := OK.k2
 have qf2 := OK.f2
 have q3 := OK.k3
 have qf3 := OK.f3
 have q4 := OK.k4
 have qf4 := OK.f4
 have qz := OK.lt
 go_wp2_with fail
 refine (sop_any 16 w5 HK5.out.1 (by have := HA.out; omega)).mono ?_
 rintro e w6 ⟨m6, rfl, h, k⟩
 rw [HH3.out] at h
 have HK6 := LH (HK5.out.step hB h k)
 clear h k OK HK5 q0 qf0 q1 qf1 q2 qf2 q3 qf3 q4 qf4 qz 
 have OK := HK6.out.2.2.2.1
 have q0 := OK.k0
 have qf0 := OK.f0
 have q1 := OK.k1
 have qf1 := OK.f1
 have q2 := OK.k2
 have qf2 := OK.f2
 have q3 := OK.k3
 have qf3 := OK.f3
 have q4 := OK.k4
 have qf4 := OK.f4
 have qz := OK.lt
 go_wp2_with fail
 refine (sput_any (iN 20 s.2.length 0 ⟨#[]⟩) w6 HK6.out.1 (by have := HA.out; omega)).mono ?_
 rintro e w7 ⟨m7, rfl, h, k⟩
 rw [HH4.out] at h
 have HK7 := LH (HK6.out.step hB h k)
 clear h k OK HK6 q0 qf0 q1 qf1 q2 qf2 q3 qf3 q4 qf4 qz 
 have OK := HK7.out.2.2.2.1
 have q0 := OK.k0
 have qf0 := OK.f0
 have q1 := OK.k1
 have qf1 := OK.f1
 have q2 := OK.k2
 have qf2 := OK.f2
 have q3 := OK.k3
 have qf3 := OK.f3
 have q4 := OK.k4
 have qf4 := OK.f4
 have qz := OK.lt
 obtain ⟨g, cap, hvl, hcap, hg, hcs, hM⟩ := StS.mod HK7.out.1 (i := s1.2.length) (by have := HA.out; omega)
 obtain ⟨hc0, hf0⟩ := hcs 1 (by omega)
 obtain ⟨u0, hc0⟩ := Option.isSome_iff_exists.1 hc0
 have HM := LH hM
 have y1 : w7.cell? ⟨sb, 4, none⟩ = some (.slice (some ⟨g, 0, none⟩) s4.2.length cap) := by rw [<- hvl]; exact HK7.out.1.1.cell 4
 have yz := HK7.out.1.1.lt
 have hlt : s1.2.length < s4.2.length := by have := HA.out; omega
 have hbd : s4.2.length <= 1000000 := by have := HA.out; omega
 clear hcs hM hvl
 go_upto_region 11 with fail
 go_region_law ((go_simp; go_wp2_with ((refine (shere_any _ (by first | exact HK7.out.1 | exact HK7.out.1.ext (Ext.drew (XR _)))).mono ?_; rintro e w' ⟨rfl, rfl⟩))))
 all_goals
  obtain ⟨h, k⟩ := (HM.out _ (XR _) (s4.2.length : Int)).1
  have h := h.ext (Ext.drew (XR _))
  have k := k.trans (Mv.ext (Ext.drew (XR _)))
  rw [HH5.out] at h
  have HKN := LH (HK7.out.step hB h k)
  generalize hS : World.drew (World.setCell w7 _ _) = w8 at HKN ⊢
  have HK8 := HKN
  clear HKN h k OK HK7 HM hc0 hf0 y1 yz hg hcap hlt hbd hS q0 qf0 q1 qf1 q2 qf2 q3 qf3 q4 qf4 qz
  have OK := HK8.out.2.2.2.1
  have q0 := OK.k0
  have qf0 := OK.f0
  have q1 := OK.k1
  have qf1 := OK.f1
  have q2 := OK.k2
  have qf2 := OK.f2
  have q3 := OK.k3
  have qf3 := OK.f3
  have q4 := OK.k4
  have qf4 := OK.f4
  have qz := OK.lt
  go_wp2_with fail
  refine (sop_any 4 w8 HK8.out.1 (by have := HA.out; omega)).mono ?_
  rintro e w9 ⟨m9, rfl, h, k⟩
  rw [HH6.out] at h
  have HK9 := LH (HK8.out.step hB h k)
  clear h k OK HK8 q0 qf0 q1 qf1 q2 qf2 q3 qf3 q4 qf4 qz 
  have OK := HK9.out.2.2.2.1
  have q0 := OK.k0
  have qf0 := OK.f0
  have q1 := OK.k1
  have qf1 := OK.f1
  have q2 := OK.k2
  have qf2 := OK.f2
  have q3 := OK.k3
  have qf3 := OK.f3
  have q4 := OK.k4
  have qf4 := OK.f4
  have qz := OK.lt
  obtain ⟨g, cap, hvl, hcap, hg, hcs, hM⟩ := StS.mod HK9.out.1 (i := s1.2.length) (by have := HA.out; omega)
  obtain ⟨hc0, hf0⟩ := hcs 2 (by omega)
  obtain ⟨u0, hc0⟩ := Option.isSome_iff_exists.1 hc0
  have HM := LH hM
  have y1 : w9.cell? ⟨sb, 4, none⟩ = some (.slice (some ⟨g, 0, none⟩) s6.2.length cap) := by rw [<- hvl]; exact HK9.out.1.1.cell 4
  have yz := HK9.out.1.1.lt
  have hlt : s1.2.length < s6.2.length := by have := HA.out; omega
  have hbd : s6.2.length <= 1000000 := by have := HA.out; omega
  clear hcs hM hvl
  go_upto_region 13 with fail
  go_region_law ((go_simp; go_wp2_with ((refine (shere_any _ (by first | exact HK9.out.1 | exact HK9.out.1.ext (Ext.drew (XR _)))).mono ?_; rintro e w' ⟨rfl, rfl⟩))))
  all_goals
   obtain ⟨h, k⟩ := (HM.out _ (XR _) (s6.2.length : Int)).2.1
   have h := h.ext (Ext.drew (XR _))
   have k := k.trans (Mv.ext (Ext.drew (XR _)))
   have HKN := LH (HK9.out.step hB h k)
   clear h k OK HK9 HM hc0 hf0 y1 yz hg hcap hlt hbd q0 qf0 q1 qf1 q2 qf2 q3 qf3 q4 qf4 qz
   go_wp2_with fail
   go_end0
   exact ⟨_, rfl, HKN.out.1, HKN.out.2.1⟩
theorem snodeK20 {f : CF} (hf : Few f) {c : MCore} (hk : c.kind = 20) (hn : c.number = 0 ∨ c.number = 1) (hs : shp c) (HL : Hid (∀ z, z ∈ c.kids -> NodeS f z)) : NodeS (stepG f) c := by
 have HW : Hid (∀ {cs : List Value} (w0 w : World) {B0 sb : Nat} {hd : Bool × Int × Int} {m : Rw} {s : CS} (rc : Rep w0 c.d cs) (hx : Ext w0 w) (hB : w0.heap.size <= B0) (h : StS B0 sb hd m w s) (hr : Room s c.nodes), Calls Tryz.prog 109 #[.pointer (some ⟨sb, 0, none⟩), .agg cs.toArray] w (GotS B0 sb hd m w (whileF f c.number (kidC c 0) (kidC c 1) s))) := LH (by
  intro w0 w B0 sb hd m s rc hx hB h hr
  rcases hn with hn | hn
  · exact swhile0_at hf hk hn hs HL w0 w rc hx hB h hr
  · exact swhile1_at hf hk hn hs HL w0 w rc hx hB h hr)
 clear hn
 intro cs w0 w B0 sb hd m s rc hx hB h hr
 obtain ⟨aa0, cc0, rfl, rk⟩ := MCore.op_en rc
 have hE : stepG f c s = whileF f c.number (kidC c 0) (kidC c 1) s := by simp [stepG, hk]
 rw [hE, hk]
 rw [hk] at rc
 have HRC := LH rc
 have HN : Hid (MCore.nodesL c.kids + 1 = c.nodes) := LH (by have := MCore.nodes_eq c; omega)
 have HRM := LH hr
 have HF := LH hf
 have HRK := LH rk
 clear hr hf hE rc rk hs
 go_enter Tryz.func78, Tryz.ntmps78
 go_upto_region 1 with fail
 generalize hS : World.alloc w _ = W1
 have x1 : Ext w W1 := by rw [<- hS]; exact (XR _).alloc _
 have OK : Own W1 w.heap.size 42 #[.int .i64 20, .string c.text, .int .i64 c.number, .int .i64 c.depth, .slice aa0 c.kids.length cc0] := by rw [<- hS]; exact own_new w _ _
 have HK1 : Hid (Ks w0 B0 sb hd w.heap.size #[.int .i64 20, .string c.text, .int .i64 c.number, .int .i64 c.depth, .slice aa0 c.kids.length cc0] m w m W1 s) := LH (Ks.new hx h x1 OK)
 clear hS h hx x1
 have q0 := OK.k0
 have qf0 := OK.f0
 have q1 := OK.k1
 have qf1 := OK.f1
 have q2 := OK.k2
 have qf2 := OK.f2
 have q3 := OK.k3
 have qf3 := OK.f3
 have q4 := OK.k4
 have qf4 := OK.f4
 have qz := OK.lt
 go_wp2_with fail
 have hrc : Rep w0 c.d [.int .i64 c.kind, .string c.text, .int .i64 c.number, .int .i64 c.depth, .slice aa0 c.kids.length cc0] := by rw [hk]; exact HRC.out
 have HCA := HW.out w0 W1 hrc HK1.out.2.2.1 hB HK1.out.1 HRM.out
 rw [hk] at HCA
 refine HCA.mono ?_
 rintro e w2 ⟨m2, rfl, h, k⟩
 have HK2 := LH (HK1.out.step hB h k)
 clear h k OK HK1 hrc HCA q0 qf0 q1 qf1 q2 qf2 q3 qf3 q4 qf4 qz
 go_wp2_with fail
 go_end0
 exact ⟨_, rfl, HK2.out.1, HK2.out.2.1⟩
theorem RowsC.inner_s {B0 sb : Nat} {L : List Nat} {m : Rw} {w W : World} {s : CS} (R : RowsC B0 L m w s) (hsb : sb ∈ L) (T : Touch w W [sb]) : RowsC B0 [sb] ⟨.slice none 0 0, m.vc, m.fp⟩ W (s.1, []) := by
 have R2 := R.touch T (fun k hk => Or.inl (by obtain rfl := List.mem_singleton.1 hk; exact hsb))
 refine ⟨Acc.nil _ _ _ _, R2.lc, fun k hk => (nomatch hk), fun k hk => ?_, fun k hk => by obtain rfl := List.mem_singleton.1 hk; exact R2.base _ hsb⟩
 obtain rfl := List.mem_singleton.1 hk
 have hk := hsb
 refine ⟨fun e => ?_, (R2.box _ hk).2⟩
 rcases Rw.mem_own.1 e with e | e
 · exact nomatch e
 · exact (R2.box _ hk).1 (Rw.mem_own.2 (Or.inr e))
theorem Own.kept_s {kb sb t : Nat} {C : Array Value} {m m' : Rw} {w w' : World} (h : Own w kb t C) (h1 : kb ≠ sb) (h2 : kb ∉ m.own) (k : Mv [sb] m w m' w') : Own w' kb t C /\ kb ∉ m'.own := by
 have hl := h.lt
 refine ⟨h.touch' k.t (fun hm => ?_), fun hm => ?_⟩
 · rcases List.mem_append.1 hm with hm | hm
   · exact h1 (List.mem_singleton.1 hm)
   · exact h2 hm
 · rcases Rw.mem_own.1 hm with e | e
   · rcases k.l _ e with e2 | e2
     · exact h2 (Rw.mem_own.2 (Or.inl e2))
     · omega
   · rcases k.c _ e with e2 | e2
     · exact h2 (Rw.mem_own.2 (Or.inr e2))
     · omega
theorem StS.freshK {B0 sb : Nat} {hd : Bool × Int × Int} {m : Rw} {w wA : World} {t : CS} {gp : List Nat} (h : StS B0 sb hd m w t) (hF : Fresh w B0 gp) (hgp : ∀ k, k ∈ gp -> m.vl.ownBlock = some k) (hx : Ext w wA) : Fresh wA B0 (m.fp ++ gp) /\ ∀ k, m.vc.ownBlock = some k -> k ∉ gp := by
 have hR := h.2
 have h1 := hR.fresh
 refine ⟨Fresh.ext ⟨List.nodup_append.2 ⟨h1.nodup, hF.nodup, fun x hx y hy e => ?_⟩, fun b hm => ?_, fun b hm => ?_⟩ hx, fun k hk hm => (hR.sep k (hgp k hm)).1 hk⟩
 · subst e
   exact (hR.sep x (hgp x hy)).2 hx
 · rcases List.mem_append.1 hm with hm | hm
   · exact h1.ge b hm
   · exact hF.ge b hm
 · rcases List.mem_append.1 hm with hm | hm
   · exact h1.own b hm
   · exact hF.own b hm
theorem RowsC.coded_s {B0 sb : Nat} {L : List Nat} {hd : Bool × Int × Int} {m m6 : Rw} {w W2 w6 wA w7 W9 : World} {s t : CS} {v1 : Value} {codes : List MCode} {gp : List Nat} (R : RowsC B0 L m w s) (hsb : sb ∈ L) (T2 : Touch w W2 [sb]) (h6 : StS B0 sb hd m6 w6 t)
 (M6 : Mv [sb] ⟨.slice none 0 0, m.vc, m.fp⟩ W2 m6 w6) (xA : Ext w6 wA) (TG : Touch wA w7 m6.vc.ownBlock.toList) (ac : AccK B0 w7 v1 codes (m6.fp ++ gp)) (hloc : v1.ownBlock = m6.vc.ownBlock ∨ v1.ownBlock = some wA.heap.size) (hgp : ∀ k, k ∈ gp -> m6.vl.ownBlock = some k) (T9 : Touch w7 W9 [sb]) :
 RowsC B0 L ⟨m.vl, v1, m6.fp ++ gp⟩ W9 (codes, s.2) /\ Mv L m w ⟨m.vl, v1, m6.fp ++ gp⟩ W9 /\ Touch w W9 (sb :: m.vc.ownBlock.toList) := by
 have hs2 := T2.size
 have hsA := xA.size
 have hs6 := M6.t.size
 have hvc : ∀ k, m6.vc.ownBlock = some k -> m.vc.ownBlock = some k ∨ w.heap.size <= k := fun k hk => by
  rcases M6.c k hk with e | e
  · exact Or.inl e
  · exact Or.inr (by omega)
 have TA : Touch w wA (sb :: m.vc.ownBlock.toList) := ((T2.mono (fun k hk => by obtain rfl := List.mem_singleton.1 hk; simp)).trans' M6.t fun k hk => by
  rcases List.mem_append.1 hk with hk | hk
  · obtain rfl := List.mem_singleton.1 hk
    exact Or.inl (by simp)
  · rcases Rw.mem_own.1 hk with e | e
    · exact nomatch e
    · have e2 : m.vc.ownBlock = some k := e
      exact Or.inl (by simp [e2])).trans (Touch.of_ext xA _)
 have T7 : Touch w w7 (sb :: m.vc.ownBlock.toList) := TA.trans' TG fun k hk => by
  rcases hvc k (by simpa using hk) with e | e
  · exact Or.inl (by simp [e])
  · exact Or.inr e
 have TT : Touch w W9 (sb :: m.vc.ownBlock.toList) := T7.trans (T9.mono (by simp))
 have hbx := h6.2.box sb (by simp)
 have hb6 := h6.2.base sb (by simp)
 have hcv : v1.ownBlock ≠ some sb := fun e => by
  rcases hloc with e2 | e2
  · exact hbx.1 (Rw.mem_own.2 (Or.inr (e2.symm.trans e)))
  · rw [e2] at e
    injection e with e
    omega
 have ac9 : AccK B0 W9 v1 codes (m6.fp ++ gp) := Acc.touch ac T9 (fun k hk hm => by obtain rfl := List.mem_singleton.1 hm; exact hcv hk) (fun k hk hm => by
  obtain rfl := List.mem_singleton.1 hm
  rcases List.mem_append.1 hk with hk | hk
  · exact hbx.2 hk
  · exact hbx.1 (Rw.mem_own.2 (Or.inl (hgp _ hk))))
 have hcod := R.codes TT (fun k hk => by
  rcases List.mem_cons.1 hk with rfl | hk
  · exact Or.inl hsb
  · exact Or.inr (Or.inl (by simpa using hk))) ac9 (fun k hk => by
  rcases hloc with e | e
  · exact hvc k (by rw [<- e]; exact hk)
  · rw [e] at hk
    injection hk with hk
    have := TA.size
    exact Or.inr (by omega)) (fun k hk => by
  rcases List.mem_append.1 hk with hk | hk
  · rcases M6.f k hk with e | e
    · exact Or.inl e
    · exact Or.inr (by omega)
  · rcases M6.l k (hgp k hk) with e | e
    · exact nomatch e
    · exact Or.inr (by omega))
 exact ⟨hcod.1, hcod.2, TT⟩
theorem sblock_at {f : CF} (hf : Few f) {c : MCore} (hk0 : 0 < c.kids.length) (HN0 : Hid (NodeS f (kidC c 0))) {cs : List Value} (w0 w : World) {B0 sb : Nat} {hd : Bool × Int × Int} {m : Rw} {s : CS} (rc : Rep w0 c.d cs) (hx : Ext w0 w) (hB : w0.heap.size <= B0) (h : StS B0 sb hd m w s) (hr : Room s c.nodes) :
 Calls Tryz.prog 107 #[.pointer (some ⟨sb, 0, none⟩), .agg cs.toArray] w (GotS B0 sb hd m w (blockF f c (kidC c 0) s)) := by
 obtain ⟨aa0, cc0, rfl, rk⟩ := MCore.op_en rc
 obtain ⟨ao, ca, ba, oa, e1, hla, hma, pa, hra⟩ := Rep.slmap rk
 simp only [List.cons.injEq, and_true, Value.slice.injEq, List.length_map] at e1
 obtain ⟨rfl, -, rfl⟩ := e1
 unfold maxLen at hma
 obtain rfl := pa (by omega)
 obtain ⟨ea, la, cl, ra⟩ := hra 0 (kidC c 0) (by rw [kidC_got (by omega)]; simp)
 obtain ⟨aa9, cc9, rfl, -⟩ := MCore.op_en ra
 have HF := LH hf
 have HRM := LH hr
 have HS0 := LH h
 clear hra la rc rk hr hf pa
 go_enter Tryz.func107, Tryz.ntmps107
 go_upto_region 1 with fail
 generalize hS : World.alloc w _ = W1
 have x1 : Ext w W1 := by rw [<- hS]; exact (XR _).alloc _
 have OK : Own W1 w.heap.size 42 #[.int .i64 c.kind, .string c.text, .int .i64 c.number, .int .i64 c.depth, .slice (some ⟨ba, oa, none⟩) c.kids.length cc0] := by rw [<- hS]; exact own_new w _ _
 have HK1 : Hid (Ks w0 B0 sb hd w.heap.size #[.int .i64 c.kind, .string c.text, .int .i64 c.number, .int .i64 c.depth, .slice (some ⟨ba, oa, none⟩) c.kids.length cc0] m w m W1 s) := LH (Ks.new hx h x1 OK)
 have OS := HK1.out.1.1
 clear hS h hx x1
 have q0 := OK.k0
 have qf0 := OK.f0
 have q1 := OK.k1
 have qf1 := OK.f1
 have q2 := OK.k2
 have qf2 := OK.f2
 have q3 := OK.k3
 have qf3 := OK.f3
 have q4 := OK.k4
 have qf4 := OK.f4
 have qz := OK.lt
 have z0 := OS.k0
 have zf0 := OS.f0
 have z1 := OS.k1
 have zf1 := OS.f1
 have z2 := OS.k2
 have zf2 := OS.f2
 have z3 := OS.k3
 have zf3 := OS.f3
 have z4 := OS.k4
 have zf4 := OS.f4
 have z5 := OS.k5
 have zf5 := OS.f5
 have zz := OS.lt
 obtain ⟨ao9, cap9, gp9, hv9, -, -, -⟩ := AccI.rep HK1.out.1.2.li
 rw [hv9] at z4
 go_upto_region 2 with fail
 generalize hS : World.alloc W1 _ = W2
 have x2 : Ext W1 W2 := by rw [<- hS]; exact (XR _).alloc _
 have OB : Own W2 W1.heap.size 88 #[.bool hd.1, .int .i64 hd.2.1, .int .i64 hd.2.2, .slice ao9 s.2.length cap9] := by rw [<- hS]; exact own_new W1 _ _
 have HK2 := LH (HK1.out.step hB (HK1.out.1.ext x2) (Mv.ext x2))
 have hob : W1.heap.size ≠ sb := by have := HK1.out.1.1.lt; omega
 have hom : W1.heap.size ∉ (⟨.slice none 0 0, m.vc, m.fp⟩ : Rw).own := fun hm => by
  rcases Rw.mem_own.1 hm with e | e
  · exact nomatch e
  · have := (HK1.out.1.2.ge (List.mem_append_right _ (Rw.mem_own.2 (Or.inr e)))).2; omega
 have hkm : w.heap.size ∉ (⟨.slice none 0 0, m.vc, m.fp⟩ : Rw).own := fun hm => by
  rcases Rw.mem_own.1 hm with e | e
  · exact nomatch e
  · exact HK1.out.2.2.2.2.2 (Rw.mem_own.2 (Or.inr e))
 have hks : w.heap.size ≠ sb := HK1.out.2.2.2.2.1
 generalize W1.heap.size = ob at *
 clear hS x2 q0 qf0 q1 qf1 q2 qf2 q3 qf3 q4 qf4 qz z0 zf0 z1 zf1 z2 zf2 z3 zf3 z4 zf4 z5 zf5 zz OS OK HK1
 have OK := HK2.out.2.2.2.1
 have OS := HK2.out.1.1
 have q0 := OK.k0
 have qf0 := OK.f0
 have q1 := OK.k1
 have qf1 := OK.f1
 have q2 := OK.k2
 have qf2 := OK.f2
 have q3 := OK.k3
 have qf3 := OK.f3
 have q4 := OK.k4
 have qf4 := OK.f4
 have qz := OK.lt
 have z0 := OS.k0
 have zf0 := OS.f0
 have z1 := OS.k1
 have zf1 := OS.f1
 have z2 := OS.k2
 have zf2 := OS.f2
 have z3 := OS.k3
 have zf3 := OS.f3
 have z4 := OS.k4
 have zf4 := OS.f4
 have z5 := OS.k5
 have zf5 := OS.f5
 have zz := OS.lt
 rw [hv9] at z4
 go_upto_region 3 with fail
 generalize hS : World.setCell _ _ _ = W3
 have T3 : Touch W2 W3 [sb] := by rw [<- hS]; exact ((((Touch.of_ext (XR _) _).setCell (by simp) _).setCell (by simp) _).setCell (by simp) _).setCell (by simp) _
 have OS3 : Own W3 sb 90 #[m.vc, .bool true, .int .i64 c.number, .int .i64 c.depth, .slice none 0 0, .bool false] := by rw [<- hS]; exact (((OS.set 1 _).set 2 _).set 3 _).set 4 _
 have OK3 := OK.touch' T3 (by simpa using hks)
 have OB3 := OB.touch' T3 (by simpa using hob)
 have HS3 : Hid (StS B0 sb (true, c.number, c.depth) ⟨.slice none 0 0, m.vc, m.fp⟩ W3 (s.1, [])) := LH ⟨OS3, HK2.out.1.2.inner_s (by simp) T3⟩
 have hx3 : Ext w0 W3 := Touch.ext HK2.out.2.2.1 T3 (fun k hk => by obtain rfl := List.mem_singleton.1 hk; have := (HK2.out.1.2.base k (by simp)).1; omega)
 clear hS q0 qf0 q1 qf1 q2 qf2 q3 qf3 q4 qf4 qz z0 zf0 z1 zf1 z2 zf2 z3 zf3 z4 zf4 z5 zf5 zz OS OK OB OS3
 have OK := OK3
 have q0 := OK.k0
 have qf0 := OK.f0
 have q1 := OK.k1
 have qf1 := OK.f1
 have q2 := OK.k2
 have qf2 := OK.f2
 have q3 := OK.k3
 have qf3 := OK.f3
 have q4 := OK.k4
 have qf4 := OK.f4
 have qz := OK.lt
 have t0 : W3.cell? ⟨ba, oa, none⟩ = some (.int .i64 (kidC c 0).kind) := hx3.cell (by have := cl 0 (by omega); simpa using this)
 have t1 : W3.cell? ⟨ba, oa + 1, none⟩ = some (.string (kidC c 0).text) := hx3.cell (by have := cl 1 (by omega); simpa using this)
 have t2 : W3.cell? ⟨ba, oa + 2, none⟩ = some (.int .i64 (kidC c 0).number) := hx3.cell (by have := cl 2 (by omega); simpa using this)
 have t3 : W3.cell? ⟨ba, oa + 3, none⟩ = some (.int .i64 (kidC c 0).depth) := hx3.cell (by have := cl 3 (by omega); simpa using this)
 have t4 : W3.cell? ⟨ba, oa + 4, none⟩ = some (.slice aa9 (kidC c 0).kids.length cc9) := hx3.cell (by have := cl 4 (by omega); simpa using this)
 have HN : Hid ((kidC c 0).nodes + 1 <= c.nodes) := LH (by have h1 := MCore.nodes_eq c; have h2 := kid_nodes (c := c) (i := 0) hk0; omega)
 have HR3 : Hid (Room (s.1, []) ((kidC c 0).nodes + 1)) := LH ⟨by have := HRM.out.1; have := HN.out; show 0 + _ <= _; omega, by have := HRM.out.2; have := HN.out; show s.1.length + _ <= _; omega⟩
 have HCD : Hid (codeF f true c.number c.depth (kidC c 0) s.1 = (pt (f (kidC c 0) (s.1, [])) (iO 19)).1 ++ [⟨true, c.number, c.depth, (pt (f (kidC c 0) (s.1, [])) (iO 19)).2⟩]) := LH rfl
 have HBF : Hid (blockF f c (kidC c 0) s = pt (codeF f true c.number c.depth (kidC c 0) s.1, s.2) (iN 15 (((codeF f true c.number c.depth (kidC c 0) s.1).length - 1 : Nat) : Int) 0 ⟨#[]⟩)) := LH rfl
 generalize codeF f true c.number c.depth (kidC c 0) s.1 = CD at HCD HBF
 go_wp2_with fail
 refine (HN0.out _ w0 W3 B0 sb (true, c.number, c.depth) _ _ ra hx3 hB HS3.out (HR3.out.mono (by omega))).mono ?_
 rintro e w5 ⟨m5, rfl, h5, k5⟩
 have HS5 := LH h5
 have HM5 := LH k5
 obtain ⟨OB5, hom5⟩ := OB3.kept_s hob hom k5
 clear h5 k5 HS3 OK OK3 OB3 q0 qf0 q1 qf1 q2 qf2 q3 qf3 q4 qf4 qz t0 t1 t2 t3 t4
 go_wp2_with fail
 refine (sop_any 19 w5 HS5.out (by have := (HR3.out.adds (n := (kidC c 0).nodes) ((HF.out (kidC c 0) (s.1, [])).adds)).1; omega)).mono ?_
 rintro e w6 ⟨m6, rfl, h6, k6⟩
 have hrt : (pt (f (kidC c 0) (s.1, [])) (iO 19)).1.length <= 1000000 := by have := ((HR3.out.adds (n := (kidC c 0).nodes) ((HF.out (kidC c 0) (s.1, [])).adds)).mono (Nat.zero_le _)).2; simpa [pt] using this
 generalize pt (f (kidC c 0) (s.1, [])) (iO 19) = t at *
 obtain ⟨OB6, hom6⟩ := OB5.kept_s hob hom5 k6
 have HS6 := LH h6
 have HM6 := LH (HM5.out.trans k6)
 clear h6 k6 HS5 HM5 OB5 hom5
 have O6 := HS6.out.1
 obtain ⟨ao, cap, gp, hvl, hrp, hfr, hgp⟩ := AccI.rep HS6.out.2.li
 have z0 := O6.k0
 have zf0 := O6.f0
 have z1 := O6.k1
 have zf1 := O6.f1
 have z2 := O6.k2
 have zf2 := O6.f2
 have z3 := O6.k3
 have zf3 := O6.f3
 have z4 := O6.k4
 have zf4 := O6.f4
 have z5 := O6.k5
 have zf5 := O6.f5
 have zz := O6.lt
 rw [hvl] at z4
 have XA : Hid (Ext w6 (w6.alloc (.cells #[.bool true, .int .i64 c.number, .int .i64 c.depth, .slice ao t.2.length cap] 88)).drew) := LH (Ext.drew ((XR _).alloc _))
 have HFK := LH (HS6.out.freshK hfr hgp XA.out)
 have HGP := LH hgp
 have HDL : Hid ((t.1.map MCode.d).length = t.1.length) := LH (by simp)
 have E1 : Hid (Acc B0 (w6.alloc (.cells #[.bool true, .int .i64 c.number, .int .i64 c.depth, .slice ao t.2.length cap] 88)).drew 88 4 m6.vc (t.1.map MCode.d) m6.fp) := LH (Acc.ext HS6.out.2.lc XA.out)
 have HDS : Hid ((t.1 ++ [(⟨true, c.number, c.depth, t.2⟩ : MCode)]).map MCode.d = t.1.map MCode.d ++ [(⟨true, c.number, c.depth, t.2⟩ : MCode).d]) := LH (by simp)
 generalize t.1.map MCode.d = DS at *
 have E2 : Hid (RepF (w6.alloc (.cells #[.bool true, .int .i64 c.number, .int .i64 c.depth, .slice ao t.2.length cap] 88)).drew (.sl 4 [(⟨true, c.number, c.depth, t.2⟩ : MCode).d]) [.slice (some ⟨w6.heap.size, 0, none⟩) 1 1] (w6.heap.size :: gp)) := LH (RepF.code_row (x := ⟨true, c.number, c.depth, t.2⟩) (hrp.ext XA.out) ((own_new w6 #[.bool true, .int .i64 c.number, .int .i64 c.depth, .slice ao t.2.length cap] 88).ext (Ext.drew (XR _))))
 have hb1 : B0 <= (w6.alloc (.cells #[.bool true, .int .i64 c.number, .int .i64 c.depth, .slice ao t.2.length cap] 88)).drew.heap.size := by have := XA.out.size; have := (HS6.out.2.base sb (by simp)); omega
 have OPA : Hid (Own (w6.alloc (.cells #[.bool true, .int .i64 c.number, .int .i64 c.depth, .slice ao t.2.length cap] 88)).drew sb 90 #[m6.vc, .bool true, .int .i64 c.number, .int .i64 c.depth, m6.vl, .bool false]) := LH (O6.ext XA.out)
 have OBA : Hid (Own (w6.alloc (.cells #[.bool true, .int .i64 c.number, .int .i64 c.depth, .slice ao t.2.length cap] 88)).drew ob 88 #[.bool hd.1, .int .i64 hd.2.1, .int .i64 hd.2.2, .slice ao9 s.2.length cap9]) := LH (OB6.ext XA.out)
 have HOB : Hid (∀ k, m6.vc.ownBlock = some k -> k ≠ sb) := LH fun k hk e => (HS6.out.2.box sb (by simp)).1 (by rw [<- e]; exact Rw.mem_own.2 (Or.inr hk))
 clear hrp hfr hgp O6
 obtain ⟨i0, hi, hz0, hz1, hz2⟩ := info_parts codeInfo
 go_upto_region 5 with fail
 go_region_law ((refine step_append_at rfl _ _ 33 rfl B0 88 i0 _ 4 48 Tryz.underlying33 hi hz0 hz1 hz2 rfl (by decide) m6.vc DS m6.fp rfl E1.out [(⟨true, c.number, c.depth, t.2⟩ : MCode).d] _ 1 1 (w6.heap.size :: gp) rfl E2.out HFK.out.1 HFK.out.2 (by have := HDL.out; unfold maxLen; omega) (by have := HDL.out; omega) hb1 ?_; intro a7 k7 w7 ac hg hloc; have TG : Touch _ w7 m6.vc.ownBlock.toList := (Touch.of_ext (XR _) _).grown hg (fun j hj => Or.inl (by simp [hj])); have O7 := OPA.out.touch' TG (fun hm => HOB.out sb (by simpa using hm) rfl); have c7 := O7.cell 0; have f7 := O7.f0; have z7 := O7.lt))
 all_goals
  have hl := HDL.out
  generalize hv1 : Value.slice a7 (DS.length + 1) k7 = v1 at *
  have HV1 := LH hv1
  have HA : AccK B0 w7 v1 (t.1 ++ [⟨true, c.number, c.depth, t.2⟩]) (m6.fp ++ gp) := by unfold AccK; rw [HDS.out]; exact ac
  rw [<- HCD.out] at HA
  have OB7 := OBA.out.touch' TG (fun hm => hom6 (Rw.mem_own.2 (Or.inr (by simpa using hm))))
  have O9 := O7.set 0 v1
  have T9 : Touch w7 (w7.setCell ⟨sb, 0, none⟩ v1) [sb] := (Touch.of_ext (XR _) _).setCell (by simp) _
  have OB9 := OB7.touch' T9 (by simpa using hob)
  generalize hS : World.setCell w7 _ v1 = W9 at *
  clear hS c7 f7 z7 O7 OB7 hi hz0 hz1 hz2 z0 zf0 z1 zf1 z2 zf2 z3 zf3 z4 zf4 z5 zf5 zz hv1
  rw [hvl] at O9
  have z0 := O9.k0
  have zf0 := O9.f0
  have z1 := O9.k1
  have zf1 := O9.f1
  have z2 := O9.k2
  have zf2 := O9.f2
  have z3 := O9.k3
  have zf3 := O9.f3
  have z4 := O9.k4
  have zf4 := O9.f4
  have z5 := O9.k5
  have zf5 := O9.f5
  have zz := O9.lt
  have n0 := OB9.k0
  have nf0 := OB9.f0
  have n1 := OB9.k1
  have nf1 := OB9.f1
  have n2 := OB9.k2
  have nf2 := OB9.f2
  have n3 := OB9.k3
  have nf3 := OB9.f3
  have nz := OB9.lt
  rw [<- HV1.out] at z0
  go_upto_region 7 with fail
  generalize hS : World.setCell _ _ _ = W10
  have T10 : Touch W9 W10 [sb] := by rw [<- hS]; exact ((((Touch.of_ext (XR _) _).setCell (by simp) _).setCell (by simp) _).setCell (by simp) _).setCell (by simp) _
  have O10 : Own W10 sb 90 #[v1, .bool hd.1, .int .i64 hd.2.1, .int .i64 hd.2.2, m.vl, .bool false] := by rw [<- hS, hv9]; exact (((O9.set 1 _).set 2 _).set 3 _).set 4 _
  obtain ⟨R10, M10, -⟩ := HK2.out.1.2.coded_s (by simp) T3 HS6.out HM6.out XA.out TG HA hloc HGP.out (T9.trans T10)
  have HSX : Hid (StS B0 sb hd ⟨m.vl, v1, m6.fp ++ gp⟩ W10 (CD, s.2)) := LH ⟨O10, R10⟩
  have HMX := LH (HK2.out.2.1.trans M10)
  clear hS R10 M10 TG HA hloc T9 T10 ac hg z0 zf0 z1 zf1 z2 zf2 z3 zf3 z4 zf4 z5 zf5 zz n0 nf0 n1 nf1 n2 nf2 n3 nf3 nz OB9 O9
  have z0 := O10.k0
  have zf0 := O10.f0
  have z1 := O10.k1
  have zf1 := O10.f1
  have z2 := O10.k2
  have zf2 := O10.f2
  have z3 := O10.k3
  have zf3 := O10.f3
  have z4 := O10.k4
  have zf4 := O10.f4
  have z5 := O10.k5
  have zf5 := O10.f5
  have zz := O10.lt
  rw [<- HV1.out] at z0
  go_wp2_with fail
  refine (sput_any (iN 15 ((t.1.length : Nat) : Int) 0 ⟨#[]⟩) W10 HSX.out (by have := HRM.out.1; show s.2.length <= _; omega)).mono ?_
  rintro e w11 ⟨m11, rfl, h, k⟩
  have H11 := LH h
  have K11 := LH (HMX.out.trans k)
  have hcl : CD.length - 1 = t.1.length := by rw [HCD.out]; simp
  rw [<- hcl] at H11
  clear h k HSX HMX O10 z0 zf0 z1 zf1 z2 zf2 z3 zf3 z4 zf4 z5 zf5 zz
  go_wp2_with fail
  go_end0
  rw [HBF.out]
  exact ⟨m11, rfl, H11.out, K11.out⟩
theorem snodeK16 {f : CF} (hf : Few f) {c : MCore} (hk : c.kind = 16) (hs : shp c) (HL : Hid (∀ z, z ∈ c.kids -> NodeS f z)) : NodeS (stepG f) c := by
 intro cs w0 w B0 sb hd m s rc hx hB h hr
 obtain ⟨aa0, cc0, rfl, rk⟩ := MCore.op_en rc
 have hE : stepG f c s = blockF f c (kidC c 0) s := by simp [stepG, hk]
 rw [hE, hk]
 rw [hk] at rc
 have HRC := LH rc
 have hk0 : 0 < c.kids.length := by have := hs; have hk := hk; unfold shp at this; omega
 have HN0 : Hid (NodeS f (kidC c 0)) := LH (HL.out _ (by rw [kidC_got hk0]; exact List.getElem_mem hk0))
 have HN : Hid (MCore.nodesL c.kids + 1 = c.nodes) := LH (by have := MCore.nodes_eq c; omega)
 have HRM := LH hr
 have HF := LH hf
 have HRK := LH rk
 clear hr hf hE rc rk hs
 go_enter Tryz.func78, Tryz.ntmps78
 go_upto_region 1 with fail
 generalize hS : World.alloc w _ = W1
 have x1 : Ext w W1 := by rw [<- hS]; exact (XR _).alloc _
 have OK : Own W1 w.heap.size 42 #[.int .i64 16, .string c.text, .int .i64 c.number, .int .i64 c.depth, .slice aa0 c.kids.length cc0] := by rw [<- hS]; exact own_new w _ _
 have HK1 : Hid (Ks w0 B0 sb hd w.heap.size #[.int .i64 16, .string c.text, .int .i64 c.number, .int .i64 c.depth, .slice aa0 c.kids.length cc0] m w m W1 s) := LH (Ks.new hx h x1 OK)
 clear hS h hx x1
 have q0 := OK.k0
 have qf0 := OK.f0
 have q1 := OK.k1
 have qf1 := OK.f1
 have q2 := OK.k2
 have qf2 := OK.f2
 have q3 := OK.k3
 have qf3 := OK.f3
 have q4 := OK.k4
 have qf4 := OK.f4
 have qz := OK.lt
 go_wp2_with fail
 have hrc : Rep w0 c.d [.int .i64 c.kind, .string c.text, .int .i64 c.number, .int .i64 c.depth, .slice aa0 c.kids.length cc0] := by rw [hk]; exact HRC.out
 have HCA := sblock_at HF.out hk0 HN0 w0 W1 hrc HK1.out.2.2.1 hB HK1.out.1 HRM.out
 rw [hk] at HCA
 refine HCA.mono ?_
 rintro e w2 ⟨m2, rfl, h, k⟩
 have HK2 := LH (HK1.out.step hB h k)
 clear h k OK HK1 hrc HCA q0 qf0 q1 qf1 q2 qf2 q3 qf3 q4 qf4 qz
 go_wp2_with fail
 go_end0
 exact ⟨_, rfl, HK2.out.1, HK2.out.2.1⟩
theorem while_num {n : Nat} {K : Int} {F : Fr} {c : MCore} (h : okN (n + 1) K F c) (hk : c.kind = 20) : c.number = 0 ∨ c.number = 1 := by
 obtain ⟨-, -, hn, -⟩ := ((okN_node (by omega)).1 h).2.1
 rcases hn with hn | hn
 · have : inR 0 1 c.number = true := by simpa [nI, hk] using hn
   have := inR_iff.1 this
   omega
 · exact Or.inl hn.1
theorem snode_at : ∀ (n : Nat) {K : Int} {F : Fr} {c : MCore}, okN n K F c -> NodeS (cmp n) c
 | 0, _, _, _, h => h.elim
 | n + 1, K, F, c, h => by
  have hs := shp_of h
  have hf := cmp_few n
  have hE : cmp (n + 1) c = stepG (cmp n) c := funext fun s => cmp_step h s
  have key : NodeS (stepG (cmp n)) c := by
   by_cases h15 : c.kind = 15
   · obtain ⟨-, g1, g2⟩ := (okN_casc h15).1 h
     have hk1 := hs.1 h15
     refine snodeK15 hf h15 hs (LH (snode_at n (g1 _ ?_))) (LH fun x hx z hz => snode_at n ((g2 x hx).2 z hz))
     rw [kidC_got (by omega)]
     exact List.mem_take_iff_getElem.2 ⟨0, by omega, rfl⟩
   · have HL : Hid (∀ z, z ∈ c.kids -> NodeS (cmp n) z) := LH fun z hz => snode_at n (((okN_node h15).1 h).2.2 z hz)
     obtain ⟨k1, k2⟩ := kind_of h h15
     rcases (by omega : c.kind = 1 ∨ c.kind = 2 ∨ c.kind = 3 ∨ c.kind = 4 ∨ c.kind = 5 ∨ c.kind = 6 ∨ c.kind = 7 ∨ c.kind = 8 ∨ c.kind = 9 ∨ c.kind = 10 ∨ c.kind = 11 ∨ c.kind = 12 ∨ c.kind = 13 ∨ c.kind = 14 ∨ c.kind = 16 ∨ c.kind = 17 ∨ c.kind = 18 ∨ c.kind = 19 ∨ c.kind = 20 ∨ c.kind = 21) with hk | hk | hk | hk | hk | hk | hk | hk | hk | hk | hk | hk | hk | hk | hk | hk | hk | hk | hk | hk
     · exact snodeK1 hf hk hs HL
     · exact snodeK2 hf hk hs HL
     · exact snodeK3 hf hk hs HL
     · exact snodeK4 hf hk hs HL
     · exact snodeK5 hf hk hs HL
     · exact snodeK6 hf hk hs HL
     · exact snodeK7 hf hk hs HL
     · exact snodeK8 hf hk hs HL
     · exact snodeK9 hf hk hs HL
     · exact snodeK10 hf hk hs HL
     · exact snodeK11 hf hk hs HL
     · exact snodeK12 hf hk hs HL
     · exact snodeK13 hf hk hs HL
     · exact snodeK14 hf hk hs HL
     · exact snodeK16 hf hk hs HL
     · exact snodeK17 hf hk hs HL
     · exact snodeK18 hf hk hs HL
     · exact snodeK19 hf hk hs HL
     · exact snodeK20 hf hk (while_num h hk) hs HL
     · exact snodeK21 hf hk hs HL
  intro cs w0 w B0 sb hd m s rc hx hB hst hr
  have := key cs w0 w B0 sb hd m s rc hx hB hst hr
  rw [<- hE] at this
  exact this
theorem acc_strs {B0 : Nat} {w : World} {ao : Option Addr} {n cap : Nat} {l : List ByteArray} (h : AccT B0 w (.slice ao n cap) l) : ∃ gp, RepF w (strs l) [.slice ao n cap] gp /\ Fresh w B0 gp := by
 obtain ⟨a8, c8, gp, h1, h2, h3⟩ := h.rep
 rw [<- h1] at h2
 exact ⟨gp, h2, h3⟩
theorem ci_row {w : World} {x : MClassInfo} {v : Value} {gp : List Nat} (h : RepF w (strs x.fields) [v] gp) : RepF (w.alloc (.cells #[.string x.name, .int .i64 x.parent, v] 96)) (.sl 3 [x.d]) [.slice (some ⟨w.heap.size, 0, none⟩) 1 1] (w.heap.size :: gp) := by
 have hr := MClassInfo.shut (x := x) h
 rw [List.append_nil] at hr
 exact RepF.row1 (cs := [.string x.name, .int .i64 x.parent, v]) (own_new w _ _).lt rfl (row3 (by rw [(own_new w _ _).cell]; rfl) (by rw [(own_new w _ _).cell]; rfl) (by rw [(own_new w _ _).cell]; rfl)) (hr.ext ((XR _).alloc _))
theorem scopy_at (l : List MClassInfo) (hl : l.length <= 1000000) (HFL : Hid (∀ x, x ∈ l -> x.fields.length <= 1000000)) (v : Value) (w0 w : World) (rl : Rep w0 (MClassInfos l) [v]) (hx : Ext w0 w) :
 Calls Tryz.prog 45 #[v] w (fun e w' => ∃ ao cap gp, e = .returned (.slice ao l.length cap) /\ RepF w' (MClassInfos l) [.slice ao l.length cap] gp /\ Fresh w' w.heap.size gp /\ Ext w w') := by
 obtain ⟨ao, ca, ba, oa, e1, hla, hma, pa, hra⟩ := Rep.slmap rl
 simp only [List.cons.injEq, and_true] at e1
 subst e1
 unfold maxLen at hma
 have HXW := LH hx
 clear rl
 obtain ⟨i0, hi, hz0, hz1, hz2⟩ := info_parts ciInfo
 have HI := LH (And.intro hi (And.intro hz0 (And.intro hz1 hz2)))
 clear hi hz0 hz1 hz2
 go_enter Tryz.func45, Tryz.ntmps45
 go_upto_region 2 with fail
 generalize hS : World.alloc w _ = W1
 have x1 : Ext w W1 := by rw [<- hS]; exact (XR _).alloc _
 have HA1 : Hid (Acc w.heap.size W1 96 3 (.slice (some ⟨w.heap.size, 0, none⟩) 0 0) [] []) := LH (by rw [<- hS]; exact Acc.empty _ _ (Nat.le_refl _))
 clear hS hx
 go_wp2_with fail
 go_loopw [3, 4] (fun ov iv wr => ∃ (k : Nat) (fp : List Nat), k <= l.length /\ iv = .int .i64 k /\ Ext w wr /\ Hid (Acc w.heap.size wr 96 3 ov ((l.take k).map MClassInfo.d) fp)) (fun _ iv _ => l.length - (intOf iv).toNat)
 case atStart => exact ⟨0, [], Nat.zero_le _, rfl, x1, LH (by simpa using HA1.out)⟩
 case round =>
  obtain ⟨k, fp, hk, rfl, xr, HA⟩ := hrel
  by_cases hlt : k < l.length
  · obtain rfl := pa (by omega)
    obtain ⟨ea, la, cl, ra⟩ := hra k l[k] (by simp [hlt])
    obtain ⟨a2, c2, rfl, rf⟩ := MClassInfo.op_en ra
    have hxr := HXW.out.trans xr
    have hfl := HFL.out l[k] (List.getElem_mem hlt)
    have t0 : wr.cell? ⟨ba, oa + k * 3, none⟩ = some (.string l[k].name) := hxr.cell (cl 0 (by omega))
    have t1 : wr.cell? ⟨ba, oa + k * 3 + 1, none⟩ = some (.int .i64 l[k].parent) := hxr.cell (cl 1 (by omega))
    have t2 : wr.cell? ⟨ba, oa + k * 3 + 2, none⟩ = some (.slice a2 l[k].fields.length c2) := hxr.cell (cl 2 (by omega))
    have HRF : Hid (Rep wr (strs l[k].fields) [.slice a2 l[k].fields.length c2]) := LH (Rep.ext hxr rf)
    have HCL := LH cl
    clear cl la hra pa ra rf
    have HDS : Hid ((l.take (k + 1)).map MClassInfo.d = (l.take k).map MClassInfo.d ++ [l[k].d]) := LH (by rw [List.take_succ_eq_append_getElem hlt, List.map_append]; rfl)
    have HDL : Hid (((l.take k).map MClassInfo.d).length = k) := LH (by simp; omega)
    generalize (l.take k).map MClassInfo.d = ds at HDS HDL HA
    generalize hM : l[k] = M at *
    have XA1 : Hid (Ext wr (wr.alloc (.cells #[] 9)).drew) := LH (Ext.drew ((XR _).alloc _))
    have E1 : Hid (AccT wr.heap.size (wr.alloc (.cells #[] 9)).drew (.slice (some ⟨wr.heap.size, 0, none⟩) 0 0) []) := LH (Acc.empty_at ((own_new wr #[] _).ext (Ext.drew (XR _))) (Nat.le_refl _))
    have hlc : ([] : List ByteArray).length + M.fields.length <= 1073741824 := by simp; omega
    have hb1 : wr.heap.size <= ((wr.alloc (.cells #[] 9)).drew).heap.size := XA1.out.size
    have KS : Hid (∀ w'', Ext w w'' -> w''.cell? ⟨ba, oa + k * 3, none⟩ = some (.string M.name) /\ w''.cell? ⟨ba, oa + k * 3 + 1, none⟩ = some (.int .i64 M.parent) /\ w''.cell? ⟨ba, oa + k * 3 + 2, none⟩ = some (.slice a2 M.fields.length c2) /\ Ext w w'') := LH fun w'' h => ⟨(HXW.out.trans h).cell (HCL.out 0 (by omega)), (HXW.out.trans h).cell (HCL.out 1 (by omega)), (HXW.out.trans h).cell (HCL.out 2 (by omega)), h⟩
    have hsr := xr.size
    go_upto_region 5 with fail
    go_region_held_law (fun w'' => w''.cell? ⟨ba, oa + k * 3, none⟩ = some (.string M.name) /\ w''.cell? ⟨ba, oa + k * 3 + 1, none⟩ = some (.int .i64 M.parent) /\ w''.cell? ⟨ba, oa + k * 3 + 2, none⟩ = some (.slice a2 M.fields.length c2) /\ Ext w w'') ((refine KS.out _ ?_; first | with_reducible exact hx9 | with_reducible exact xr.trans (hx7.alloc _) | with_reducible exact xr.trans hx7 | with_reducible exact Ext.drew xr | with_reducible exact Ext.drew (xr.alloc _))) (first
     | (obtain ⟨hi, hz0, hz1, hz2⟩ := HI.out; refine step_append_at rfl _ _ 32 rfl w.heap.size 96 i0 _ 3 48 Tryz.underlying32 hi hz0 hz1 hz2 rfl (by decide) _ ds fp rfl HAX.out [M.d] _ 1 1 (w7.heap.size :: gp8) rfl HR1.out HAF.out.1 HAF.out.2 (by have := HDL.out; unfold maxLen; omega) (by have := HDL.out; omega) hb7 ?_; intro a9 c9 w9 ac9 hg9 ho9; have hx9 : Ext w w9 := Acc.below HAX.out (xr.trans XA2.out) hg9 hb7)
     | (refine step_append_strs rfl _ _ rfl wr.heap.size (.slice (some ⟨wr.heap.size, 0, none⟩) 0 0) [] rfl E1.out M.fields _ _ _ rfl (Rep.ext XA1.out HRF.out) hlc hb1 ?_; intro a7 c7 w7 ac7 hg7; have TG : Touch _ w7 [wr.heap.size] := (Touch.of_ext (XR _) _).grown hg7 (fun k hk => Or.inl (by simp only [Value.ownBlock, Option.some.injEq] at hk; simp [<- hk])); have hx7 : Ext wr w7 := Touch.ext XA1.out TG (fun k hk => by simp at hk; omega); simp only [List.length_nil, Nat.zero_add, List.nil_append] at ac7; obtain ⟨gp8, h82, h83⟩ := acc_strs ac7; have HR1 := LH (ci_row (x := M) h82); have XA2 : Hid (Ext wr (w7.alloc (.cells #[.string M.name, .int .i64 M.parent, .slice a7 M.fields.length c7] 96))) := LH (hx7.alloc _); have HAF := LH (HA.out.add_facts XA2.out (h83.ext ((XR _).alloc _)) hsr); have HAX := LH (HA.out.ext XA2.out); have hb7 := Nat.le_trans hsr XA2.out.size; clear h82 h83 ac7 hg7 TG))
    all_goals
     rw [<- HDS.out] at ac9
     have HA9 := LH ac9
     clear ac9 hg9 ho9 hb7 HAX HAF XA2 HR1 hx7 t0 t1 t2
     go_wp2_with fail
     go_roundw
     case rel => exact ⟨k + 1, _, by omega, by go_num, hx9, HA9⟩
     case measure => simp [intOf]; omega
  · obtain rfl : k = l.length := by omega
    have HA2 : Hid (Acc w.heap.size wr 96 3 _ (l.map MClassInfo.d) fp) := LH (by have := HA.out; rw [List.take_length] at this; exact this)
    clear HA
    obtain ⟨a9, c9, g9, h91, h92, h93⟩ := HA2.out.rep
    rw [List.length_map] at h91 h92
    have HR9 := LH (And.intro h92 h93)
    subst h91
    clear h92 h93
    go_wp2_with fail
    go_ret
    exact ⟨_, _, _, rfl, HR9.out.1, HR9.out.2, xr⟩
end Go.Proofs.YtlaclfeljimffaaGreatDoor
