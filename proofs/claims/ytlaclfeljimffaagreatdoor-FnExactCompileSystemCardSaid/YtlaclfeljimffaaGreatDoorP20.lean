/-
  CONTRACTS: the program's writer: the simple kinds of a node.
  Conditions: those that each lemma states.
-/
import Derived.Test.YtlaclfeljimffaaGreatDoorRows
import Derived.Test.YtlaclfeljimffaaGreatDoorP16
namespace Go.Proofs.YtlaclfeljimffaaGreatDoor
open Go.RowKit
set_option maxHeartbeats 8000000
set_option maxRecDepth 100000
set_option linter.unusedSimpArgs false
set_option linter.unusedVariables false
structure KeepB (wb cb kb : Nat) (m : Rw) (w : World) (C : Array Value) : Prop where
 own : Own w kb 42 C
 n1 : kb ≠ wb
 n2 : kb ≠ cb
 n3 : kb ∉ m.own
theorem KeepB.mv {wb cb kb : Nat} {m m' : Rw} {w w' : World} {C : Array Value} (h : KeepB wb cb kb m w C) (k : Mv [wb, cb] m w m' w') : KeepB wb cb kb m' w' C := by
 have hl := h.own.lt
 refine ⟨h.own.touch' k.t (fun hm => ?_), h.n1, h.n2, fun hm => ?_⟩
 · rcases List.mem_append.1 hm with hm | hm
   · rcases List.mem_cons.1 hm with e | hm
     · exact h.n1 e
     · exact h.n2 (List.mem_singleton.1 hm)
   · exact h.n3 hm
 · rcases Rw.mem_own.1 hm with e | e
   · rcases k.l _ e with e2 | e2
     · exact h.n3 (Rw.mem_own.2 (Or.inl e2))
     · omega
   · rcases k.c _ e with e2 | e2
     · exact h.n3 (Rw.mem_own.2 (Or.inr e2))
     · omega
def Kp (w0 : World) (B0 wb cb kb : Nat) (C : Array Value) (m0 : Rw) (wS : World) (m : Rw) (w : World) (s : CS) : Prop := StI B0 wb cb m w s /\ Mv [wb, cb] m0 wS m w /\ Ext w0 w /\ KeepB wb cb kb m w C
theorem Kp.step {w0 w w' wS : World} {B0 wb cb kb : Nat} {C : Array Value} {m0 m m' : Rw} {s s' : CS} (h : Kp w0 B0 wb cb kb C m0 wS m w s) (hB : w0.heap.size <= B0) (h' : StI B0 wb cb m' w' s') (k : Mv [wb, cb] m w m' w') : Kp w0 B0 wb cb kb C m0 wS m' w' s' :=
 ⟨h', h.2.1.trans k, h.1.2.2.1.ext0 h.2.2.1 hB k, h.2.2.2.mv k⟩
theorem Kp.new {w0 w W : World} {B0 wb cb : Nat} {C : Array Value} {m : Rw} {s : CS} (hx : Ext w0 w) (h : StI B0 wb cb m w s) (x1 : Ext w W) (O : Own W w.heap.size 42 C) : Kp w0 B0 wb cb w.heap.size C m w m W s :=
 ⟨h.ext x1, Mv.ext x1, hx.trans x1, O, by have := h.1.lt; omega, by have := h.2.1.lt; omega, fun hm => by have := (h.2.2.1.ge (List.mem_append_right _ hm)).2; omega⟩
theorem nodeK1 {f : CF} (hf : Few f) {c : MCore} (hk : c.kind = 1) (hs : shp c) (HL : Hid (∀ z, z ∈ c.kids -> NodeI f z)) : NodeI (stepG f) c := by
 intro cs w0 w B0 wb cb m s rc hx hB h hr
 obtain ⟨aa0, cc0, rfl, rk⟩ := MCore.op_en rc
 have hE : stepG f c s = pt s (iN 1 c.number 0 ⟨#[]⟩) := by simp [stepG, hk]
 rw [hE, hk]
 have HN : Hid (MCore.nodesL c.kids + 1 = c.nodes) := LH (by have := MCore.nodes_eq c; omega)
 have HRM := LH hr
 have HF := LH hf
 have HRK := LH rk
 clear hr hf hE rc rk hs
 go_enter Tryz.func90, Tryz.ntmps90
 go_upto_region 1 with fail
 generalize hS : World.alloc w _ = W1
 have x1 : Ext w W1 := by rw [<- hS]; exact (XR _).alloc _
 have OK : Own W1 w.heap.size 42 #[.int .i64 1, .string c.text, .int .i64 c.number, .int .i64 c.depth, .slice aa0 c.kids.length cc0] := by rw [<- hS]; exact own_new w _ _
 have HK1 : Hid (Kp w0 B0 wb cb w.heap.size #[.int .i64 1, .string c.text, .int .i64 c.number, .int .i64 c.depth, .slice aa0 c.kids.length cc0] m w m W1 s) := LH (Kp.new hx h x1 OK)
 clear hS h hx x1
 have q0 := OK.k0
 have qf0 := OK.f0
 have q1 := OK.k1
 have qf1 := OK.f1
 have q2 := OK.k2
 have qf2 := OK.f2
 have q3 := OK.k3
 have qf3 := OK.f3
 have q4 := OK.k4
 have qf4 := OK.f4
 have qz := OK.lt
 go_wp2_with fail
 refine (put_any (iN 1 c.number 0 ⟨#[]⟩) W1 HK1.out.1 (by have := HRM.out.1; have := HN.out; omega)).mono ?_
 rintro e w2 ⟨m2, rfl, h, k⟩
 have HK2 := LH (HK1.out.step hB h k)
 clear h k OK HK1 q0 qf0 q1 qf1 q2 qf2 q3 qf3 q4 qf4 qz
 have OK := HK2.out.2.2.2.own
 have q0 := OK.k0
 have qf0 := OK.f0
 have q1 := OK.k1
 have qf1 := OK.f1
 have q2 := OK.k2
 have qf2 := OK.f2
 have q3 := OK.k3
 have qf3 := OK.f3
 have q4 := OK.k4
 have qf4 := OK.f4
 have qz := OK.lt
 go_wp2_with fail
 go_end0
 exact ⟨_, rfl, HK2.out.1, HK2.out.2.1⟩
theorem nodeK12 {f : CF} (hf : Few f) {c : MCore} (hk : c.kind = 12) (hs : shp c) (HL : Hid (∀ z, z ∈ c.kids -> NodeI f z)) : NodeI (stepG f) c := by
 intro cs w0 w B0 wb cb m s rc hx hB h hr
 obtain ⟨aa0, cc0, rfl, rk⟩ := MCore.op_en rc
 have hE : stepG f c s = pt s (iN 12 c.number 0 ⟨#[]⟩) := by simp [stepG, hk]
 rw [hE, hk]
 have HN : Hid (MCore.nodesL c.kids + 1 = c.nodes) := LH (by have := MCore.nodes_eq c; omega)
 have HRM := LH hr
 have HF := LH hf
 have HRK := LH rk
 clear hr hf hE rc rk hs
 go_enter Tryz.func90, Tryz.ntmps90
 go_upto_region 1 with fail
 generalize hS : World.alloc w _ = W1
 have x1 : Ext w W1 := by rw [<- hS]; exact (XR _).alloc _
 have OK : Own W1 w.heap.size 42 #[.int .i64 12, .string c.text, .int .i64 c.number, .int .i64 c.depth, .slice aa0 c.kids.length cc0] := by rw [<- hS]; exact own_new w _ _
 have HK1 : Hid (Kp w0 B0 wb cb w.heap.size #[.int .i64 12, .string c.text, .int .i64 c.number, .int .i64 c.depth, .slice aa0 c.kids.length cc0] m w m W1 s) := LH (Kp.new hx h x1 OK)
 clear hS h hx x1
 have q0 := OK.k0
 have qf0 := OK.f0
 have q1 := OK.k1
 have qf1 := OK.f1
 have q2 := OK.k2
 have qf2 := OK.f2
 have q3 := OK.k3
 have qf3 := OK.f3
 have q4 := OK.k4
 have qf4 := OK.f4
 have qz := OK.lt
 go_wp2_with fail
 refine (put_any (iN 12 c.number 0 ⟨#[]⟩) W1 HK1.out.1 (by have := HRM.out.1; have := HN.out; omega)).mono ?_
 rintro e w2 ⟨m2, rfl, h, k⟩
 have HK2 := LH (HK1.out.step hB h k)
 clear h k OK HK1 q0 qf0 q1 qf1 q2 qf2 q3 qf3 q4 qf4 qz
 have OK := HK2.out.2.2.2.own
 have q0 := OK.k0
 have qf0 := OK.f0
 have q1 := OK.k1
 have qf1 := OK.f1
 have q2 := OK.k2
 have qf2 := OK.f2
 have q3 := OK.k3
 have qf3 := OK.f3
 have q4 := OK.k4
 have qf4 := OK.f4
 have qz := OK.lt
 go_wp2_with fail
 go_end0
 exact ⟨_, rfl, HK2.out.1, HK2.out.2.1⟩
theorem nodeK2 {f : CF} (hf : Few f) {c : MCore} (hk : c.kind = 2) (hs : shp c) (HL : Hid (∀ z, z ∈ c.kids -> NodeI f z)) : NodeI (stepG f) c := by
 intro cs w0 w B0 wb cb m s rc hx hB h hr
 obtain ⟨aa0, cc0, rfl, rk⟩ := MCore.op_en rc
 have hE : stepG f c s = pt s (iN 2 0 0 c.text) := by simp [stepG, hk]
 rw [hE, hk]
 have HN : Hid (MCore.nodesL c.kids + 1 = c.nodes) := LH (by have := MCore.nodes_eq c; omega)
 have HRM := LH hr
 have HF := LH hf
 have HRK := LH rk
 clear hr hf hE rc rk hs
 go_enter Tryz.func90, Tryz.ntmps90
 go_upto_region 1 with fail
 generalize hS : World.alloc w _ = W1
 have x1 : Ext w W1 := by rw [<- hS]; exact (XR _).alloc _
 have OK : Own W1 w.heap.size 42 #[.int .i64 2, .string c.text, .int .i64 c.number, .int .i64 c.depth, .slice aa0 c.kids.length cc0] := by rw [<- hS]; exact own_new w _ _
 have HK1 : Hid (Kp w0 B0 wb cb w.heap.size #[.int .i64 2, .string c.text, .int .i64 c.number, .int .i64 c.depth, .slice aa0 c.kids.length cc0] m w m W1 s) := LH (Kp.new hx h x1 OK)
 clear hS h hx x1
 have q0 := OK.k0
 have qf0 := OK.f0
 have q1 := OK.k1
 have qf1 := OK.f1
 have q2 := OK.k2
 have qf2 := OK.f2
 have q3 := OK.k3
 have qf3 := OK.f3
 have q4 := OK.k4
 have qf4 := OK.f4
 have qz := OK.lt
 go_wp2_with fail
 refine (put_any (iN 2 0 0 c.text) W1 HK1.out.1 (by have := HRM.out.1; have := HN.out; omega)).mono ?_
 rintro e w2 ⟨m2, rfl, h, k⟩
 have HK2 := LH (HK1.out.step hB h k)
 clear h k OK HK1 q0 qf0 q1 qf1 q2 qf2 q3 qf3 q4 qf4 qz
 have OK := HK2.out.2.2.2.own
 have q0 := OK.k0
 have qf0 := OK.f0
 have q1 := OK.k1
 have qf1 := OK.f1
 have q2 := OK.k2
 have qf2 := OK.f2
 have q3 := OK.k3
 have qf3 := OK.f3
 have q4 := OK.k4
 have qf4 := OK.f4
 have qz := OK.lt
 go_wp2_with fail
 go_end0
 exact ⟨_, rfl, HK2.out.1, HK2.out.2.1⟩
theorem nodeK3 {f : CF} (hf : Few f) {c : MCore} (hk : c.kind = 3) (hs : shp c) (HL : Hid (∀ z, z ∈ c.kids -> NodeI f z)) : NodeI (stepG f) c := by
 intro cs w0 w B0 wb cb m s rc hx hB h hr
 obtain ⟨aa0, cc0, rfl, rk⟩ := MCore.op_en rc
 have hE : stepG f c s = pt s (iN 3 0 0 c.text) := by simp [stepG, hk]
 rw [hE, hk]
 have HN : Hid (MCore.nodesL c.kids + 1 = c.nodes) := LH (by have := MCore.nodes_eq c; omega)
 have HRM := LH hr
 have HF := LH hf
 have HRK := LH rk
 clear hr hf hE rc rk hs
 go_enter Tryz.func90, Tryz.ntmps90
 go_upto_region 1 with fail
 generalize hS : World.alloc w _ = W1
 have x1 : Ext w W1 := by rw [<- hS]; exact (XR _).alloc _
 have OK : Own W1 w.heap.size 42 #[.int .i64 3, .string c.text, .int .i64 c.number, .int .i64 c.depth, .slice aa0 c.kids.length cc0] := by rw [<- hS]; exact own_new w _ _
 have HK1 : Hid (Kp w0 B0 wb cb w.heap.size #[.int .i64 3, .string c.text, .int .i64 c.number, .int .i64 c.depth, .slice aa0 c.kids.length cc0] m w m W1 s) := LH (Kp.new hx h x1 OK)
 clear hS h hx x1
 have q0 := OK.k0
 have qf0 := OK.f0
 have q1 := OK.k1
 have qf1 := OK.f1
 have q2 := OK.k2
 have qf2 := OK.f2
 have q3 := OK.k3
 have qf3 := OK.f3
 have q4 := OK.k4
 have qf4 := OK.f4
 have qz := OK.lt
 go_wp2_with fail
 refine (put_any (iN 3 0 0 c.text) W1 HK1.out.1 (by have := HRM.out.1; have := HN.out; omega)).mono ?_
 rintro e w2 ⟨m2, rfl, h, k⟩
 have HK2 := LH (HK1.out.step hB h k)
 clear h k OK HK1 q0 qf0 q1 qf1 q2 qf2 q3 qf3 q4 qf4 qz
 have OK := HK2.out.2.2.2.own
 have q0 := OK.k0
 have qf0 := OK.f0
 have q1 := OK.k1
 have qf1 := OK.f1
 have q2 := OK.k2
 have qf2 := OK.f2
 have q3 := OK.k3
 have qf3 := OK.f3
 have q4 := OK.k4
 have qf4 := OK.f4
 have qz := OK.lt
 go_wp2_with fail
 go_end0
 exact ⟨_, rfl, HK2.out.1, HK2.out.2.1⟩
theorem nodeK4 {f : CF} (hf : Few f) {c : MCore} (hk : c.kind = 4) (hs : shp c) (HL : Hid (∀ z, z ∈ c.kids -> NodeI f z)) : NodeI (stepG f) c := by
 intro cs w0 w B0 wb cb m s rc hx hB h hr
 obtain ⟨aa0, cc0, rfl, rk⟩ := MCore.op_en rc
 have hE : stepG f c s = pt s (iO 4) := by simp [stepG, hk]
 rw [hE, hk]
 have HN : Hid (MCore.nodesL c.kids + 1 = c.nodes) := LH (by have := MCore.nodes_eq c; omega)
 have HRM := LH hr
 have HF := LH hf
 have HRK := LH rk
 clear hr hf hE rc rk hs
 go_enter Tryz.func90, Tryz.ntmps90
 go_upto_region 1 with fail
 generalize hS : World.alloc w _ = W1
 have x1 : Ext w W1 := by rw [<- hS]; exact (XR _).alloc _
 have OK : Own W1 w.heap.size 42 #[.int .i64 4, .string c.text, .int .i64 c.number, .int .i64 c.depth, .slice aa0 c.kids.length cc0] := by rw [<- hS]; exact own_new w _ _
 have HK1 : Hid (Kp w0 B0 wb cb w.heap.size #[.int .i64 4, .string c.text, .int .i64 c.number, .int .i64 c.depth, .slice aa0 c.kids.length cc0] m w m W1 s) := LH (Kp.new hx h x1 OK)
 clear hS h hx x1
 have q0 := OK.k0
 have qf0 := OK.f0
 have q1 := OK.k1
 have qf1 := OK.f1
 have q2 := OK.k2
 have qf2 := OK.f2
 have q3 := OK.k3
 have qf3 := OK.f3
 have q4 := OK.k4
 have qf4 := OK.f4
 have qz := OK.lt
 go_wp2_with fail
 refine (op_any 4 W1 HK1.out.1 (by have := HRM.out.1; have := HN.out; omega)).mono ?_
 rintro e w2 ⟨m2, rfl, h, k⟩
 have HK2 := LH (HK1.out.step hB h k)
 clear h k OK HK1 q0 qf0 q1 qf1 q2 qf2 q3 qf3 q4 qf4 qz
 have OK := HK2.out.2.2.2.own
 have q0 := OK.k0
 have qf0 := OK.f0
 have q1 := OK.k1
 have qf1 := OK.f1
 have q2 := OK.k2
 have qf2 := OK.f2
 have q3 := OK.k3
 have qf3 := OK.f3
 have q4 := OK.k4
 have qf4 := OK.f4
 have qz := OK.lt
 go_wp2_with fail
 go_end0
 exact ⟨_, rfl, HK2.out.1, HK2.out.2.1⟩
theorem nodeK5 {f : CF} (hf : Few f) {c : MCore} (hk : c.kind = 5) (hs : shp c) (HL : Hid (∀ z, z ∈ c.kids -> NodeI f z)) : NodeI (stepG f) c := by
 intro cs w0 w B0 wb cb m s rc hx hB h hr
 obtain ⟨aa0, cc0, rfl, rk⟩ := MCore.op_en rc
 have hE : stepG f c s = pt s (iO 5) := by simp [stepG, hk]
 rw [hE, hk]
 have HN : Hid (MCore.nodesL c.kids + 1 = c.nodes) := LH (by have := MCore.nodes_eq c; omega)
 have HRM := LH hr
 have HF := LH hf
 have HRK := LH rk
 clear hr hf hE rc rk hs
 go_enter Tryz.func90, Tryz.ntmps90
 go_upto_region 1 with fail
 generalize hS : World.alloc w _ = W1
 have x1 : Ext w W1 := by rw [<- hS]; exact (XR _).alloc _
 have OK : Own W1 w.heap.size 42 #[.int .i64 5, .string c.text, .int .i64 c.number, .int .i64 c.depth, .slice aa0 c.kids.length cc0] := by rw [<- hS]; exact own_new w _ _
 have HK1 : Hid (Kp w0 B0 wb cb w.heap.size #[.int .i64 5, .string c.text, .int .i64 c.number, .int .i64 c.depth, .slice aa0 c.kids.length cc0] m w m W1 s) := LH (Kp.new hx h x1 OK)
 clear hS h hx x1
 have q0 := OK.k0
 have qf0 := OK.f0
 have q1 := OK.k1
 have qf1 := OK.f1
 have q2 := OK.k2
 have qf2 := OK.f2
 have q3 := OK.k3
 have qf3 := OK.f3
 have q4 := OK.k4
 have qf4 := OK.f4
 have qz := OK.lt
 go_wp2_with fail
 refine (op_any 5 W1 HK1.out.1 (by have := HRM.out.1; have := HN.out; omega)).mono ?_
 rintro e w2 ⟨m2, rfl, h, k⟩
 have HK2 := LH (HK1.out.step hB h k)
 clear h k OK HK1 q0 qf0 q1 qf1 q2 qf2 q3 qf3 q4 qf4 qz
 have OK := HK2.out.2.2.2.own
 have q0 := OK.k0
 have qf0 := OK.f0
 have q1 := OK.k1
 have qf1 := OK.f1
 have q2 := OK.k2
 have qf2 := OK.f2
 have q3 := OK.k3
 have qf3 := OK.f3
 have q4 := OK.k4
 have qf4 := OK.f4
 have qz := OK.lt
 go_wp2_with fail
 go_end0
 exact ⟨_, rfl, HK2.out.1, HK2.out.2.1⟩
theorem nodeK6 {f : CF} (hf : Few f) {c : MCore} (hk : c.kind = 6) (hs : shp c) (HL : Hid (∀ z, z ∈ c.kids -> NodeI f z)) : NodeI (stepG f) c := by
 intro cs w0 w B0 wb cb m s rc hx hB h hr
 obtain ⟨aa0, cc0, rfl, rk⟩ := MCore.op_en rc
 have hE : stepG f c s = pt s (iO 6) := by simp [stepG, hk]
 rw [hE, hk]
 have HN : Hid (MCore.nodesL c.kids + 1 = c.nodes) := LH (by have := MCore.nodes_eq c; omega)
 have HRM := LH hr
 have HF := LH hf
 have HRK := LH rk
 clear hr hf hE rc rk hs
 go_enter Tryz.func90, Tryz.ntmps90
 go_upto_region 1 with fail
 generalize hS : World.alloc w _ = W1
 have x1 : Ext w W1 := by rw [<- hS]; exact (XR _).alloc _
 have OK : Own W1 w.heap.size 42 #[.int .i64 6, .string c.text, .int .i64 c.number, .int .i64 c.depth, .slice aa0 c.kids.length cc0] := by rw [<- hS]; exact own_new w _ _
 have HK1 : Hid (Kp w0 B0 wb cb w.heap.size #[.int .i64 6, .string c.text, .int .i64 c.number, .int .i64 c.depth, .slice aa0 c.kids.length cc0] m w m W1 s) := LH (Kp.new hx h x1 OK)
 clear hS h hx x1
 have q0 := OK.k0
 have qf0 := OK.f0
 have q1 := OK.k1
 have qf1 := OK.f1
 have q2 := OK.k2
 have qf2 := OK.f2
 have q3 := OK.k3
 have qf3 := OK.f3
 have q4 := OK.k4
 have qf4 := OK.f4
 have qz := OK.lt
 go_wp2_with fail
 refine (op_any 6 W1 HK1.out.1 (by have := HRM.out.1; have := HN.out; omega)).mono ?_
 rintro e w2 ⟨m2, rfl, h, k⟩
 have HK2 := LH (HK1.out.step hB h k)
 clear h k OK HK1 q0 qf0 q1 qf1 q2 qf2 q3 qf3 q4 qf4 qz
 have OK := HK2.out.2.2.2.own
 have q0 := OK.k0
 have qf0 := OK.f0
 have q1 := OK.k1
 have qf1 := OK.f1
 have q2 := OK.k2
 have qf2 := OK.f2
 have q3 := OK.k3
 have qf3 := OK.f3
 have q4 := OK.k4
 have qf4 := OK.f4
 have qz := OK.lt
 go_wp2_with fail
 go_end0
 exact ⟨_, rfl, HK2.out.1, HK2.out.2.1⟩
theorem nodeK7 {f : CF} (hf : Few f) {c : MCore} (hk : c.kind = 7) (hs : shp c) (HL : Hid (∀ z, z ∈ c.kids -> NodeI f z)) : NodeI (stepG f) c := by
 intro cs w0 w B0 wb cb m s rc hx hB h hr
 obtain ⟨aa0, cc0, rfl, rk⟩ := MCore.op_en rc
 have hE : stepG f c s = pt s (iO 7) := by simp [stepG, hk]
 rw [hE, hk]
 have HN : Hid (MCore.nodesL c.kids + 1 = c.nodes) := LH (by have := MCore.nodes_eq c; omega)
 have HRM := LH hr
 have HF := LH hf
 have HRK := LH rk
 clear hr hf hE rc rk hs
 go_enter Tryz.func90, Tryz.ntmps90
 go_upto_region 1 with fail
 generalize hS : World.alloc w _ = W1
 have x1 : Ext w W1 := by rw [<- hS]; exact (XR _).alloc _
 have OK : Own W1 w.heap.size 42 #[.int .i64 7, .string c.text, .int .i64 c.number, .int .i64 c.depth, .slice aa0 c.kids.length cc0] := by rw [<- hS]; exact own_new w _ _
 have HK1 : Hid (Kp w0 B0 wb cb w.heap.size #[.int .i64 7, .string c.text, .int .i64 c.number, .int .i64 c.depth, .slice aa0 c.kids.length cc0] m w m W1 s) := LH (Kp.new hx h x1 OK)
 clear hS h hx x1
 have q0 := OK.k0
 have qf0 := OK.f0
 have q1 := OK.k1
 have qf1 := OK.f1
 have q2 := OK.k2
 have qf2 := OK.f2
 have q3 := OK.k3
 have qf3 := OK.f3
 have q4 := OK.k4
 have qf4 := OK.f4
 have qz := OK.lt
 go_wp2_with fail
 refine (op_any 7 W1 HK1.out.1 (by have := HRM.out.1; have := HN.out; omega)).mono ?_
 rintro e w2 ⟨m2, rfl, h, k⟩
 have HK2 := LH (HK1.out.step hB h k)
 clear h k OK HK1 q0 qf0 q1 qf1 q2 qf2 q3 qf3 q4 qf4 qz
 have OK := HK2.out.2.2.2.own
 have q0 := OK.k0
 have qf0 := OK.f0
 have q1 := OK.k1
 have qf1 := OK.f1
 have q2 := OK.k2
 have qf2 := OK.f2
 have q3 := OK.k3
 have qf3 := OK.f3
 have q4 := OK.k4
 have qf4 := OK.f4
 have qz := OK.lt
 go_wp2_with fail
 go_end0
 exact ⟨_, rfl, HK2.out.1, HK2.out.2.1⟩
theorem nodeK8 {f : CF} (hf : Few f) {c : MCore} (hk : c.kind = 8) (hs : shp c) (HL : Hid (∀ z, z ∈ c.kids -> NodeI f z)) : NodeI (stepG f) c := by
 intro cs w0 w B0 wb cb m s rc hx hB h hr
 obtain ⟨aa0, cc0, rfl, rk⟩ := MCore.op_en rc
 have hE : stepG f c s = pt (allF f c.kids s) (iN 8 c.number c.depth ⟨#[]⟩) := by simp [stepG, hk]
 rw [hE, hk]
 have HN : Hid (MCore.nodesL c.kids + 1 = c.nodes) := LH (by have := MCore.nodes_eq c; omega)
 have HRM := LH hr
 have HF := LH hf
 have HRK := LH rk
 clear hr hf hE rc rk hs
 go_enter Tryz.func90, Tryz.ntmps90
 go_upto_region 1 with fail
 generalize hS : World.alloc w _ = W1
 have x1 : Ext w W1 := by rw [<- hS]; exact (XR _).alloc _
 have OK : Own W1 w.heap.size 42 #[.int .i64 8, .string c.text, .int .i64 c.number, .int .i64 c.depth, .slice aa0 c.kids.length cc0] := by rw [<- hS]; exact own_new w _ _
 have HK1 : Hid (Kp w0 B0 wb cb w.heap.size #[.int .i64 8, .string c.text, .int .i64 c.number, .int .i64 c.depth, .slice aa0 c.kids.length cc0] m w m W1 s) := LH (Kp.new hx h x1 OK)
 clear hS h hx x1
 have q0 := OK.k0
 have qf0 := OK.f0
 have q1 := OK.k1
 have qf1 := OK.f1
 have q2 := OK.k2
 have qf2 := OK.f2
 have q3 := OK.k3
 have qf3 := OK.f3
 have q4 := OK.k4
 have qf4 := OK.f4
 have qz := OK.lt
 go_wp2_with fail
 refine (nodes_at HF.out c.kids HL _ w0 W1 HRK.out HK1.out.2.2.1 hB HK1.out.1 (HRM.out.mono (by have := HN.out; omega))).mono ?_
 rintro e w2 ⟨m2, rfl, h, k⟩
 have HK2 := LH (HK1.out.step hB h k)
 clear h k OK HK1 q0 qf0 q1 qf1 q2 qf2 q3 qf3 q4 qf4 qz
 have OK := HK2.out.2.2.2.own
 have q0 := OK.k0
 have qf0 := OK.f0
 have q1 := OK.k1
 have qf1 := OK.f1
 have q2 := OK.k2
 have qf2 := OK.f2
 have q3 := OK.k3
 have qf3 := OK.f3
 have q4 := OK.k4
 have qf4 := OK.f4
 have qz := OK.lt
 go_wp2_with fail
 refine (put_any (iN 8 c.number c.depth ⟨#[]⟩) w2 HK2.out.1 (by have := ((HRM.out.mono (by have := HN.out; omega : MCore.nodesL c.kids + 1 <= c.nodes)).adds (allF_adds HF.out c.kids s)).1; omega)).mono ?_
 rintro e w3 ⟨m3, rfl, h, k⟩
 have HK3 := LH (HK2.out.step hB h k)
 clear h k OK HK2 q0 qf0 q1 qf1 q2 qf2 q3 qf3 q4 qf4 qz
 have OK := HK3.out.2.2.2.own
 have q0 := OK.k0
 have qf0 := OK.f0
 have q1 := OK.k1
 have qf1 := OK.f1
 have q2 := OK.k2
 have qf2 := OK.f2
 have q3 := OK.k3
 have qf3 := OK.f3
 have q4 := OK.k4
 have qf4 := OK.f4
 have qz := OK.lt
 go_wp2_with fail
 go_end0
 exact ⟨_, rfl, HK3.out.1, HK3.out.2.1⟩
theorem nodeK9 {f : CF} (hf : Few f) {c : MCore} (hk : c.kind = 9) (hs : shp c) (HL : Hid (∀ z, z ∈ c.kids -> NodeI f z)) : NodeI (stepG f) c := by
 intro cs w0 w B0 wb cb m s rc hx hB h hr
 obtain ⟨aa0, cc0, rfl, rk⟩ := MCore.op_en rc
 have hE : stepG f c s = pt (allF f c.kids s) (iN 9 c.number c.depth ⟨#[]⟩) := by simp [stepG, hk]
 rw [hE, hk]
 have HN : Hid (MCore.nodesL c.kids + 1 = c.nodes) := LH (by have := MCore.nodes_eq c; omega)
 have HRM := LH hr
 have HF := LH hf
 have HRK := LH rk
 clear hr hf hE rc rk hs
 go_enter Tryz.func90, Tryz.ntmps90
 go_upto_region 1 with fail
 generalize hS : World.alloc w _ = W1
 have x1 : Ext w W1 := by rw [<- hS]; exact (XR _).alloc _
 have OK : Own W1 w.heap.size 42 #[.int .i64 9, .string c.text, .int .i64 c.number, .int .i64 c.depth, .slice aa0 c.kids.length cc0] := by rw [<- hS]; exact own_new w _ _
 have HK1 : Hid (Kp w0 B0 wb cb w.heap.size #[.int .i64 9, .string c.text, .int .i64 c.number, .int .i64 c.depth, .slice aa0 c.kids.length cc0] m w m W1 s) := LH (Kp.new hx h x1 OK)
 clear hS h hx x1
 have q0 := OK.k0
 have qf0 := OK.f0
 have q1 := OK.k1
 have qf1 := OK.f1
 have q2 := OK.k2
 have qf2 := OK.f2
 have q3 := OK.k3
 have qf3 := OK.f3
 have q4 := OK.k4
 have qf4 := OK.f4
 have qz := OK.lt
 go_wp2_with fail
 refine (nodes_at HF.out c.kids HL _ w0 W1 HRK.out HK1.out.2.2.1 hB HK1.out.1 (HRM.out.mono (by have := HN.out; omega))).mono ?_
 rintro e w2 ⟨m2, rfl, h, k⟩
 have HK2 := LH (HK1.out.step hB h k)
 clear h k OK HK1 q0 qf0 q1 qf1 q2 qf2 q3 qf3 q4 qf4 qz
 have OK := HK2.out.2.2.2.own
 have q0 := OK.k0
 have qf0 := OK.f0
 have q1 := OK.k1
 have qf1 := OK.f1
 have q2 := OK.k2
 have qf2 := OK.f2
 have q3 := OK.k3
 have qf3 := OK.f3
 have q4 := OK.k4
 have qf4 := OK.f4
 have qz := OK.lt
 go_wp2_with fail
 refine (put_any (iN 9 c.number c.depth ⟨#[]⟩) w2 HK2.out.1 (by have := ((HRM.out.mono (by have := HN.out; omega : MCore.nodesL c.kids + 1 <= c.nodes)).adds (allF_adds HF.out c.kids s)).1; omega)).mono ?_
 rintro e w3 ⟨m3, rfl, h, k⟩
 have HK3 := LH (HK2.out.step hB h k)
 clear h k OK HK2 q0 qf0 q1 qf1 q2 qf2 q3 qf3 q4 qf4 qz
 have OK := HK3.out.2.2.2.own
 have q0 := OK.k0
 have qf0 := OK.f0
 have q1 := OK.k1
 have qf1 := OK.f1
 have q2 := OK.k2
 have qf2 := OK.f2
 have q3 := OK.k3
 have qf3 := OK.f3
 have q4 := OK.k4
 have qf4 := OK.f4
 have qz := OK.lt
 go_wp2_with fail
 go_end0
 exact ⟨_, rfl, HK3.out.1, HK3.out.2.1⟩
theorem nodeK10 {f : CF} (hf : Few f) {c : MCore} (hk : c.kind = 10) (hs : shp c) (HL : Hid (∀ z, z ∈ c.kids -> NodeI f z)) : NodeI (stepG f) c := by
 intro cs w0 w B0 wb cb m s rc hx hB h hr
 obtain ⟨aa0, cc0, rfl, rk⟩ := MCore.op_en rc
 have hE : stepG f c s = pt (allF f c.kids s) (iN 10 0 0 c.text) := by simp [stepG, hk]
 rw [hE, hk]
 have HN : Hid (MCore.nodesL c.kids + 1 = c.nodes) := LH (by have := MCore.nodes_eq c; omega)
 have HRM := LH hr
 have HF := LH hf
 have HRK := LH rk
 clear hr hf hE rc rk hs
 go_enter Tryz.func90, Tryz.ntmps90
 go_upto_region 1 with fail
 generalize hS : World.alloc w _ = W1
 have x1 : Ext w W1 := by rw [<- hS]; exact (XR _).alloc _
 have OK : Own W1 w.heap.size 42 #[.int .i64 10, .string c.text, .int .i64 c.number, .int .i64 c.depth, .slice aa0 c.kids.length cc0] := by rw [<- hS]; exact own_new w _ _
 have HK1 : Hid (Kp w0 B0 wb cb w.heap.size #[.int .i64 10, .string c.text, .int .i64 c.number, .int .i64 c.depth, .slice aa0 c.kids.length cc0] m w m W1 s) := LH (Kp.new hx h x1 OK)
 clear hS h hx x1
 have q0 := OK.k0
 have qf0 := OK.f0
 have q1 := OK.k1
 have qf1 := OK.f1
 have q2 := OK.k2
 have qf2 := OK.f2
 have q3 := OK.k3
 have qf3 := OK.f3
 have q4 := OK.k4
 have qf4 := OK.f4
 have qz := OK.lt
 go_wp2_with fail
 refine (nodes_at HF.out c.kids HL _ w0 W1 HRK.out HK1.out.2.2.1 hB HK1.out.1 (HRM.out.mono (by have := HN.out; omega))).mono ?_
 rintro e w2 ⟨m2, rfl, h, k⟩
 have HK2 := LH (HK1.out.step hB h k)
 clear h k OK HK1 q0 qf0 q1 qf1 q2 qf2 q3 qf3 q4 qf4 qz
 have OK := HK2.out.2.2.2.own
 have q0 := OK.k0
 have qf0 := OK.f0
 have q1 := OK.k1
 have qf1 := OK.f1
 have q2 := OK.k2
 have qf2 := OK.f2
 have q3 := OK.k3
 have qf3 := OK.f3
 have q4 := OK.k4
 have qf4 := OK.f4
 have qz := OK.lt
 go_wp2_with fail
 refine (put_any (iN 10 0 0 c.text) w2 HK2.out.1 (by have := ((HRM.out.mono (by have := HN.out; omega : MCore.nodesL c.kids + 1 <= c.nodes)).adds (allF_adds HF.out c.kids s)).1; omega)).mono ?_
 rintro e w3 ⟨m3, rfl, h, k⟩
 have HK3 := LH (HK2.out.step hB h k)
 clear h k OK HK2 q0 qf0 q1 qf1 q2 qf2 q3 qf3 q4 qf4 qz
 have OK := HK3.out.2.2.2.own
 have q0 := OK.k0
 have qf0 := OK.f0
 have q1 := OK.k1
 have qf1 := OK.f1
 have q2 := OK.k2
 have qf2 := OK.f2
 have q3 := OK.k3
 have qf3 := OK.f3
 have q4 := OK.k4
 have qf4 := OK.f4
 have qz := OK.lt
 go_wp2_with fail
 go_end0
 exact ⟨_, rfl, HK3.out.1, HK3.out.2.1⟩
theorem nodeK11 {f : CF} (hf : Few f) {c : MCore} (hk : c.kind = 11) (hs : shp c) (HL : Hid (∀ z, z ∈ c.kids -> NodeI f z)) : NodeI (stepG f) c := by
 intro cs w0 w B0 wb cb m s rc hx hB h hr
 obtain ⟨aa0, cc0, rfl, rk⟩ := MCore.op_en rc
 have hE : stepG f c s = pt (allF f c.kids s) (iN 11 0 0 c.text) := by simp [stepG, hk]
 rw [hE, hk]
 have HN : Hid (MCore.nodesL c.kids + 1 = c.nodes) := LH (by have := MCore.nodes_eq c; omega)
 have HRM := LH hr
 have HF := LH hf
 have HRK := LH rk
 clear hr hf hE rc rk hs
 go_enter Tryz.func90, Tryz.ntmps90
 go_upto_region 1 with fail
 generalize hS : World.alloc w _ = W1
 have x1 : Ext w W1 := by rw [<- hS]; exact (XR _).alloc _
 have OK : Own W1 w.heap.size 42 #[.int .i64 11, .string c.text, .int .i64 c.number, .int .i64 c.depth, .slice aa0 c.kids.length cc0] := by rw [<- hS]; exact own_new w _ _
 have HK1 : Hid (Kp w0 B0 wb cb w.heap.size #[.int .i64 11, .string c.text, .int .i64 c.number, .int .i64 c.depth, .slice aa0 c.kids.length cc0] m w m W1 s) := LH (Kp.new hx h x1 OK)
 clear hS h hx x1
 have q0 := OK.k0
 have qf0 := OK.f0
 have q1 := OK.k1
 have qf1 := OK.f1
 have q2 := OK.k2
 have qf2 := OK.f2
 have q3 := OK.k3
 have qf3 := OK.f3
 have q4 := OK.k4
 have qf4 := OK.f4
 have qz := OK.lt
 go_wp2_with fail
 refine (nodes_at HF.out c.kids HL _ w0 W1 HRK.out HK1.out.2.2.1 hB HK1.out.1 (HRM.out.mono (by have := HN.out; omega))).mono ?_
 rintro e w2 ⟨m2, rfl, h, k⟩
 have HK2 := LH (HK1.out.step hB h k)
 clear h k OK HK1 q0 qf0 q1 qf1 q2 qf2 q3 qf3 q4 qf4 qz
 have OK := HK2.out.2.2.2.own
 have q0 := OK.k0
 have qf0 := OK.f0
 have q1 := OK.k1
 have qf1 := OK.f1
 have q2 := OK.k2
 have qf2 := OK.f2
 have q3 := OK.k3
 have qf3 := OK.f3
 have q4 := OK.k4
 have qf4 := OK.f4
 have qz := OK.lt
 go_wp2_with fail
 refine (put_any (iN 11 0 0 c.text) w2 HK2.out.1 (by have := ((HRM.out.mono (by have := HN.out; omega : MCore.nodesL c.kids + 1 <= c.nodes)).adds (allF_adds HF.out c.kids s)).1; omega)).mono ?_
 rintro e w3 ⟨m3, rfl, h, k⟩
 have HK3 := LH (HK2.out.step hB h k)
 clear h k OK HK2 q0 qf0 q1 qf1 q2 qf2 q3 qf3 q4 qf4 qz
 have OK := HK3.out.2.2.2.own
 have q0 := OK.k0
 have qf0 := OK.f0
 have q1 := OK.k1
 have qf1 := OK.f1
 have q2 := OK.k2
 have qf2 := OK.f2
 have q3 := OK.k3
 have qf3 := OK.f3
 have q4 := OK.k4
 have qf4 := OK.f4
 have qz := OK.lt
 go_wp2_with fail
 go_end0
 exact ⟨_, rfl, HK3.out.1, HK3.out.2.1⟩
theorem nodeK13 {f : CF} (hf : Few f) {c : MCore} (hk : c.kind = 13) (hs : shp c) (HL : Hid (∀ z, z ∈ c.kids -> NodeI f z)) : NodeI (stepG f) c := by
 intro cs w0 w B0 wb cb m s rc hx hB h hr
 obtain ⟨aa0, cc0, rfl, rk⟩ := MCore.op_en rc
 have hE : stepG f c s = pt (allF f c.kids s) (iN 13 0 0 c.text) := by simp [stepG, hk]
 rw [hE, hk]
 have HN : Hid (MCore.nodesL c.kids + 1 = c.nodes) := LH (by have := MCore.nodes_eq c; omega)
 have HRM := LH hr
 have HF := LH hf
 have HRK := LH rk
 clear hr hf hE rc rk hs
 go_enter Tryz.func90, Tryz.ntmps90
 go_upto_region 1 with fail
 generalize hS : World.alloc w _ = W1
 have x1 : Ext w W1 := by rw [<- hS]; exact (XR _).alloc _
 have OK : Own W1 w.heap.size 42 #[.int .i64 13, .string c.text, .int .i64 c.number, .int .i64 c.depth, .slice aa0 c.kids.length cc0] := by rw [<- hS]; exact own_new w _ _
 have HK1 : Hid (Kp w0 B0 wb cb w.heap.size #[.int .i64 13, .string c.text, .int .i64 c.number, .int .i64 c.depth, .slice aa0 c.kids.length cc0] m w m W1 s) := LH (Kp.new hx h x1 OK)
 clear hS h hx x1
 have q0 := OK.k0
 have qf0 := OK.f0
 have q1 := OK.k1
 have qf1 := OK.f1
 have q2 := OK.k2
 have qf2 := OK.f2
 have q3 := OK.k3
 have qf3 := OK.f3
 have q4 := OK.k4
 have qf4 := OK.f4
 have qz := OK.lt
 go_wp2_with fail
 refine (nodes_at HF.out c.kids HL _ w0 W1 HRK.out HK1.out.2.2.1 hB HK1.out.1 (HRM.out.mono (by have := HN.out; omega))).mono ?_
 rintro e w2 ⟨m2, rfl, h, k⟩
 have HK2 := LH (HK1.out.step hB h k)
 clear h k OK HK1 q0 qf0 q1 qf1 q2 qf2 q3 qf3 q4 qf4 qz
 have OK := HK2.out.2.2.2.own
 have q0 := OK.k0
 have qf0 := OK.f0
 have q1 := OK.k1
 have qf1 := OK.f1
 have q2 := OK.k2
 have qf2 := OK.f2
 have q3 := OK.k3
 have qf3 := OK.f3
 have q4 := OK.k4
 have qf4 := OK.f4
 have qz := OK.lt
 go_wp2_with fail
 refine (put_any (iN 13 0 0 c.text) w2 HK2.out.1 (by have := ((HRM.out.mono (by have := HN.out; omega : MCore.nodesL c.kids + 1 <= c.nodes)).adds (allF_adds HF.out c.kids s)).1; omega)).mono ?_
 rintro e w3 ⟨m3, rfl, h, k⟩
 have HK3 := LH (HK2.out.step hB h k)
 clear h k OK HK2 q0 qf0 q1 qf1 q2 qf2 q3 qf3 q4 qf4 qz
 have OK := HK3.out.2.2.2.own
 have q0 := OK.k0
 have qf0 := OK.f0
 have q1 := OK.k1
 have qf1 := OK.f1
 have q2 := OK.k2
 have qf2 := OK.f2
 have q3 := OK.k3
 have qf3 := OK.f3
 have q4 := OK.k4
 have qf4 := OK.f4
 have qz := OK.lt
 go_wp2_with fail
 go_end0
 exact ⟨_, rfl, HK3.out.1, HK3.out.2.1⟩
theorem nodeK14 {f : CF} (hf : Few f) {c : MCore} (hk : c.kind = 14) (hs : shp c) (HL : Hid (∀ z, z ∈ c.kids -> NodeI f z)) : NodeI (stepG f) c := by
 intro cs w0 w B0 wb cb m s rc hx hB h hr
 obtain ⟨aa0, cc0, rfl, rk⟩ := MCore.op_en rc
 have hE : stepG f c s = pt (allF f c.kids s) (iN 14 c.number 0 c.text) := by simp [stepG, hk]
 rw [hE, hk]
 have HN : Hid (MCore.nodesL c.kids + 1 = c.nodes) := LH (by have := MCore.nodes_eq c; omega)
 have HRM := LH hr
 have HF := LH hf
 have HRK := LH rk
 clear hr hf hE rc rk hs
 go_enter Tryz.func90, Tryz.ntmps90
 go_upto_region 1 with fail
 generalize hS : World.alloc w _ = W1
 have x1 : Ext w W1 := by rw [<- hS]; exact (XR _).alloc _
 have OK : Own W1 w.heap.size 42 #[.int .i64 14, .string c.text, .int .i64 c.number, .int .i64 c.depth, .slice aa0 c.kids.length cc0] := by rw [<- hS]; exact own_new w _ _
 have HK1 : Hid (Kp w0 B0 wb cb w.heap.size #[.int .i64 14, .string c.text, .int .i64 c.number, .int .i64 c.depth, .slice aa0 c.kids.length cc0] m w m W1 s) := LH (Kp.new hx h x1 OK)
 clear hS h hx x1
 have q0 := OK.k0
 have qf0 := OK.f0
 have q1 := OK.k1
 have qf1 := OK.f1
 have q2 := OK.k2
 have qf2 := OK.f2
 have q3 := OK.k3
 have qf3 := OK.f3
 have q4 := OK.k4
 have qf4 := OK.f4
 have qz := OK.lt
 go_wp2_with fail
 refine (nodes_at HF.out c.kids HL _ w0 W1 HRK.out HK1.out.2.2.1 hB HK1.out.1 (HRM.out.mono (by have := HN.out; omega))).mono ?_
 rintro e w2 ⟨m2, rfl, h, k⟩
 have HK2 := LH (HK1.out.step hB h k)
 clear h k OK HK1 q0 qf0 q1 qf1 q2 qf2 q3 qf3 q4 qf4 qz
 have OK := HK2.out.2.2.2.own
 have q0 := OK.k0
 have qf0 := OK.f0
 have q1 := OK.k1
 have qf1 := OK.f1
 have q2 := OK.k2
 have qf2 := OK.f2
 have q3 := OK.k3
 have qf3 := OK.f3
 have q4 := OK.k4
 have qf4 := OK.f4
 have qz := OK.lt
 go_wp2_with fail
 refine (put_any (iN 14 c.number 0 c.text) w2 HK2.out.1 (by have := ((HRM.out.mono (by have := HN.out; omega : MCore.nodesL c.kids + 1 <= c.nodes)).adds (allF_adds HF.out c.kids s)).1; omega)).mono ?_
 rintro e w3 ⟨m3, rfl, h, k⟩
 have HK3 := LH (HK2.out.step hB h k)
 clear h k OK HK2 q0 qf0 q1 qf1 q2 qf2 q3 qf3 q4 qf4 qz
 have OK := HK3.out.2.2.2.own
 have q0 := OK.k0
 have qf0 := OK.f0
 have q1 := OK.k1
 have qf1 := OK.f1
 have q2 := OK.k2
 have qf2 := OK.f2
 have q3 := OK.k3
 have qf3 := OK.f3
 have q4 := OK.k4
 have qf4 := OK.f4
 have qz := OK.lt
 go_wp2_with fail
 go_end0
 exact ⟨_, rfl, HK3.out.1, HK3.out.2.1⟩
theorem nodeK18 {f : CF} (hf : Few f) {c : MCore} (hk : c.kind = 18) (hs : shp c) (HL : Hid (∀ z, z ∈ c.kids -> NodeI f z)) : NodeI (stepG f) c := by
 intro cs w0 w B0 wb cb m s rc hx hB h hr
 obtain ⟨aa0, cc0, rfl, rk⟩ := MCore.op_en rc
 have hE : stepG f c s = pt (allF f c.kids s) (iO 18) := by simp [stepG, hk]
 rw [hE, hk]
 have HN : Hid (MCore.nodesL c.kids + 1 = c.nodes) := LH (by have := MCore.nodes_eq c; omega)
 have HRM := LH hr
 have HF := LH hf
 have HRK := LH rk
 clear hr hf hE rc rk hs
 go_enter Tryz.func90, Tryz.ntmps90
 go_upto_region 1 with fail
 generalize hS : World.alloc w _ = W1
 have x1 : Ext w W1 := by rw [<- hS]; exact (XR _).alloc _
 have OK : Own W1 w.heap.size 42 #[.int .i64 18, .string c.text, .int .i64 c.number, .int .i64 c.depth, .slice aa0 c.kids.length cc0] := by rw [<- hS]; exact own_new w _ _
 have HK1 : Hid (Kp w0 B0 wb cb w.heap.size #[.int .i64 18, .string c.text, .int .i64 c.number, .int .i64 c.depth, .slice aa0 c.kids.length cc0] m w m W1 s) := LH (Kp.new hx h x1 OK)
 clear hS h hx x1
 have q0 := OK.k0
 have qf0 := OK.f0
 have q1 := OK.k1
 have qf1 := OK.f1
 have q2 := OK.k2
 have qf2 := OK.f2
 have q3 := OK.k3
 have qf3 := OK.f3
 have q4 := OK.k4
 have qf4 := OK.f4
 have qz := OK.lt
 go_wp2_with fail
 refine (nodes_at HF.out c.kids HL _ w0 W1 HRK.out HK1.out.2.2.1 hB HK1.out.1 (HRM.out.mono (by have := HN.out; omega))).mono ?_
 rintro e w2 ⟨m2, rfl, h, k⟩
 have HK2 := LH (HK1.out.step hB h k)
 clear h k OK HK1 q0 qf0 q1 qf1 q2 qf2 q3 qf3 q4 qf4 qz
 have OK := HK2.out.2.2.2.own
 have q0 := OK.k0
 have qf0 := OK.f0
 have q1 := OK.k1
 have qf1 := OK.f1
 have q2 := OK.k2
 have qf2 := OK.f2
 have q3 := OK.k3
 have qf3 := OK.f3
 have q4 := OK.k4
 have qf4 := OK.f4
 have qz := OK.lt
 go_wp2_with fail
 refine (op_any 18 w2 HK2.out.1 (by have := ((HRM.out.mono (by have := HN.out; omega : MCore.nodesL c.kids + 1 <= c.nodes)).adds (allF_adds HF.out c.kids s)).1; omega)).mono ?_
 rintro e w3 ⟨m3, rfl, h, k⟩
 have HK3 := LH (HK2.out.step hB h k)
 clear h k OK HK2 q0 qf0 q1 qf1 q2 qf2 q3 qf3 q4 qf4 qz
 have OK := HK3.out.2.2.2.own
 have q0 := OK.k0
 have qf0 := OK.f0
 have q1 := OK.k1
 have qf1 := OK.f1
 have q2 := OK.k2
 have qf2 := OK.f2
 have q3 := OK.k3
 have qf3 := OK.f3
 have q4 := OK.k4
 have qf4 := OK.f4
 have qz := OK.lt
 go_wp2_with fail
 go_end0
 exact ⟨_, rfl, HK3.out.1, HK3.out.2.1⟩
end Go.Proofs.YtlaclfeljimffaaGreatDoor
