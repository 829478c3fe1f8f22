/-
  SEVERAL TEXTS IN ONE: CONTRACTS: the program's writer: cascade; CONTRACTS: the program's writer: node; CONTRACTS: the program's copyClasses; CONTRACTS: the program's sizesOk.
  Conditions: those that each lemma states.
-/
import Derived.Test.YtlaclfeljimffaaGreatDoorRows
import Derived.Test.YtlaclfeljimffaaGreatDoorP21
import Derived.Test.YtlaclfeljimffaaGreatDoorP14
import Derived.Test.YtlaclfeljimffaaGreatDoorP22
import Derived.Test.YtlaclfeljimffaaGreatDoorP16
namespace Go.Proofs.YtlaclfeljimffaaGreatDoor
open Go.RowKit
set_option maxHeartbeats 8000000
set_option maxRecDepth 100000
set_option linter.unusedSimpArgs false
set_option linter.unusedVariables false
theorem cascade_at {f : CF} (hf : Few f) {c : MCore} (hk1 : 1 <= c.kids.length) (HN0 : Hid (NodeI f (kidC c 0))) (HP : Hid (∀ x, x ∈ c.kids.tail -> ∀ z, z ∈ x.kids -> NodeI f z)) {cs : List Value} (w0 w : World) {B0 wb cb : Nat} {m : Rw} {s : CS} (rc : Rep w0 c.d cs) (hx : Ext w0 w) (hB : w0.heap.size <= B0) (h : StI B0 wb cb m w s) (hr : Room s c.nodes) :
 Calls Tryz.prog 128 #[.pointer (some ⟨wb, 0, none⟩), .agg cs.toArray] w (GotI B0 wb cb m w (partsF f (c.kids.length - 1) c.kids.tail (f (kidC c 0) s))) := by
 obtain ⟨aa0, cc0, rfl, rk⟩ := MCore.op_en rc
 have HRK := LH rk
 obtain ⟨ao, ca, ba, oa, e1, hla, hma, pa, hra⟩ := Rep.slmap rk
 simp only [List.cons.injEq, and_true, Value.slice.injEq, List.length_map] at e1
 obtain ⟨rfl, -, rfl⟩ := e1
 unfold maxLen at hma
 have hk0 : 0 < c.kids.length := by omega
 obtain rfl := pa (by omega)
 have HRA := LH hra
 obtain ⟨ea, la, cl, ra⟩ := hra 0 (kidC c 0) (by rw [kidC_get (by omega)]; simp)
 obtain ⟨aa9, cc9, rfl, -⟩ := MCore.op_en ra
 have HF := LH hf
 have HA : Hid (Room s (kidC c 0).nodes /\ Room (f (kidC c 0) s) (MCore.nodesL c.kids.tail + 1)) := LH (by
  have h1 := kid_head hk1
  have h2 := MCore.nodes_eq c
  have a1 := (hf (kidC c 0) s).adds
  exact ⟨hr.mono (by omega), (hr.mono (by omega : (kidC c 0).nodes + (MCore.nodesL c.kids.tail + 1) <= c.nodes)).adds a1⟩)
 obtain ⟨s0, h0⟩ : ∃ t, f (kidC c 0) s = t := ⟨_, rfl⟩
 rw [h0] at HA ⊢
 have HH0 := LH h0
 clear hra la rc rk hr hf h0
 go_enter Tryz.func128, Tryz.ntmps128
 go_upto_region 1 with fail
 generalize hS : World.alloc w _ = W1
 have x1 : Ext w W1 := by rw [<- hS]; exact (XR _).alloc _
 have OK : Own W1 w.heap.size 42 #[.int .i64 c.kind, .string c.text, .int .i64 c.number, .int .i64 c.depth, .slice (some ⟨ba, oa, none⟩) c.kids.length cc0] := by rw [<- hS]; exact own_new w _ _
 have HK1 : Hid (Kp w0 B0 wb cb w.heap.size #[.int .i64 c.kind, .string c.text, .int .i64 c.number, .int .i64 c.depth, .slice (some ⟨ba, oa, none⟩) c.kids.length cc0] m w m W1 s) := LH (Kp.new hx h x1 OK)
 clear hS h hx x1
 have q0 := OK.k0
 have qf0 := OK.f0
 have q1 := OK.k1
 have qf1 := OK.f1
 have q2 := OK.k2
 have qf2 := OK.f2
 have q3 := OK.k3
 have qf3 := OK.f3
 have q4 := OK.k4
 have qf4 := OK.f4
 have qz := OK.lt
 have t0 : W1.cell? ⟨ba, oa, none⟩ = some (.int .i64 (kidC c 0).kind) := HK1.out.2.2.1.cell (by have := cl 0 (by omega); simpa using this)
 have t1 : W1.cell? ⟨ba, oa + 1, none⟩ = some (.string (kidC c 0).text) := HK1.out.2.2.1.cell (by have := cl 1 (by omega); simpa using this)
 have t2 : W1.cell? ⟨ba, oa + 2, none⟩ = some (.int .i64 (kidC c 0).number) := HK1.out.2.2.1.cell (by have := cl 2 (by omega); simpa using this)
 have t3 : W1.cell? ⟨ba, oa + 3, none⟩ = some (.int .i64 (kidC c 0).depth) := HK1.out.2.2.1.cell (by have := cl 3 (by omega); simpa using this)
 have t4 : W1.cell? ⟨ba, oa + 4, none⟩ = some (.slice aa9 (kidC c 0).kids.length cc9) := HK1.out.2.2.1.cell (by have := cl 4 (by omega); simpa using this)
 go_wp2_with fail
 refine (HN0.out _ w0 W1 B0 wb cb m _ ra HK1.out.2.2.1 hB HK1.out.1 HA.out.1).mono ?_
 rintro e w2 ⟨m2, rfl, h, k⟩
 rw [HH0.out] at h
 have HK2 := LH (HK1.out.step hB h k)
 clear h k OK HK1 q0 qf0 q1 qf1 q2 qf2 q3 qf3 q4 qf4 qz t0 t1 t2 t3 t4 cl ra
 have OK := HK2.out.2.2.2.own
 have q0 := OK.k0
 have qf0 := OK.f0
 have q1 := OK.k1
 have qf1 := OK.f1
 have q2 := OK.k2
 have qf2 := OK.f2
 have q3 := OK.k3
 have qf3 := OK.f3
 have q4 := OK.k4
 have qf4 := OK.f4
 have qz := OK.lt
 by_cases hc1 : cc0 = 1
 · have hkl : c.kids.length = 1 := by omega
   have HE : Hid (partsF f (c.kids.length - 1) c.kids.tail s0 = s0) := LH (by
    have : c.kids.tail = [] := List.length_eq_zero_iff.1 (by simp [hkl])
    rw [this]; rfl)
   clear HRA HP HN0
   go_wp2_with fail
   go_loopw [17] (fun iv wr => iv = .int .i64 0 /\ Hid (Kp w0 B0 wb cb w.heap.size #[.int .i64 c.kind, .string c.text, .int .i64 c.number, .int .i64 c.depth, .slice (some ⟨ba, oa, none⟩) c.kids.length cc0] m w m2 wr s0)) (fun iv _ => 0)
   case atStart => exact ⟨rfl, HK2⟩
   case round =>
    obtain ⟨rfl, HK⟩ := hrel
    go_wp2_with fail
    go_end0
    exact ⟨_, rfl, by rw [HE.out]; exact HK.out.1, HK.out.2.1⟩
 go_wp2_with fail
 go_loopw [17] (fun iv wr => ∃ (k : Nat) (m' : Rw), k <= c.kids.tail.length /\ iv = .int .i64 k /\ Hid (Kp w0 B0 wb cb w.heap.size #[.int .i64 c.kind, .string c.text, .int .i64 c.number, .int .i64 c.depth, .slice (some ⟨ba, oa, none⟩) c.kids.length cc0] m w m' wr (partsF f (c.kids.length - 1) (c.kids.tail.take k) s0))) (fun iv _ => c.kids.tail.length - (intOf iv).toNat)
 case atStart => exact ⟨0, m2, Nat.zero_le _, rfl, HK2⟩
 case round =>
  obtain ⟨k, m', hk2, rfl, HK⟩ := hrel
  have hkt : c.kids.tail.length = c.kids.length - 1 := by simp
  rw [hkt] at hk2
  have HKT := LH hkt
  clear hkt
  have OK := HK.out.2.2.2.own
  have q0 := OK.k0
  have qf0 := OK.f0
  have q1 := OK.k1
  have qf1 := OK.f1
  have q2 := OK.k2
  have qf2 := OK.f2
  have q3 := OK.k3
  have qf3 := OK.f3
  have q4 := OK.k4
  have qf4 := OK.f4
  have qz := OK.lt
  by_cases hlt : k + 1 < c.kids.length
  · obtain ⟨ea, la, cl, ra⟩ := HRA.out (k + 1) c.kids[k + 1] (by simp [hlt])
    obtain ⟨aa1, cc1, rfl, rk1⟩ := MCore.op_en ra
    have hlt2 : k < c.kids.length - 1 := by omega
    have t0 : wr.cell? ⟨ba, oa + 5 + k * 5, none⟩ = some (.int .i64 c.kids[k + 1].kind) := HK.out.2.2.1.cell (by have := cl 0 (by omega); rw [show oa + (k + 1) * 5 + 0 = oa + 5 + k * 5 + 0 by omega] at this; exact this)
    have t1 : wr.cell? ⟨ba, oa + 5 + k * 5 + 1, none⟩ = some (.string c.kids[k + 1].text) := HK.out.2.2.1.cell (by have := cl 1 (by omega); rw [show oa + (k + 1) * 5 + 1 = oa + 5 + k * 5 + 1 by omega] at this; exact this)
    have t2 : wr.cell? ⟨ba, oa + 5 + k * 5 + 2, none⟩ = some (.int .i64 c.kids[k + 1].number) := HK.out.2.2.1.cell (by have := cl 2 (by omega); rw [show oa + (k + 1) * 5 + 2 = oa + 5 + k * 5 + 2 by omega] at this; exact this)
    have t3 : wr.cell? ⟨ba, oa + 5 + k * 5 + 3, none⟩ = some (.int .i64 c.kids[k + 1].depth) := HK.out.2.2.1.cell (by have := cl 3 (by omega); rw [show oa + (k + 1) * 5 + 3 = oa + 5 + k * 5 + 3 by omega] at this; exact this)
    have t4 : wr.cell? ⟨ba, oa + 5 + k * 5 + 4, none⟩ = some (.slice aa1 c.kids[k + 1].kids.length cc1) := HK.out.2.2.1.cell (by have := cl 4 (by omega); rw [show oa + (k + 1) * 5 + 4 = oa + 5 + k * 5 + 4 by omega] at this; exact this)
    clear cl la ra
    have HRK1 := LH rk1
    clear rk1
    have HMEM : c.kids[k + 1] ∈ c.kids.tail := by
     rw [List.mem_iff_getElem]
     exact ⟨k, by rw [HKT.out]; omega, by simp⟩
    have HLK : Hid (∀ z, z ∈ c.kids[k + 1].kids -> NodeI f z) := LH (HP.out _ HMEM)
    have HSC : Hid (partsF f (c.kids.length - 1) (c.kids.tail.take (k + 1)) s0 = partF f (decide (k + 1 = c.kids.length - 1)) c.kids[k + 1] (partsF f (c.kids.length - 1) (c.kids.tail.take k) s0)) := LH (by
     have := partsF_succ f (c.kids.length - 1) (l := c.kids.tail) (k := k) (by rw [HKT.out]; omega) s0
     simpa using this)
    have HRT : Hid (Room (partsF f (c.kids.length - 1) (c.kids.tail.take k) s0) (c.kids[k + 1].nodes + 1)) := LH (by
     have h1 := partsF_adds HF.out (c.kids.length - 1) c.kids.tail s0 k (by rw [HKT.out]; omega)
     have h2 := MCore.nodesL_succ (show k < c.kids.tail.length by rw [HKT.out]; omega)
     have h3 := MCore.nodesL_take c.kids.tail (k + 1)
     simp only [List.getElem_tail] at h2
     exact (HA.out.2.mono (by omega : MCore.nodesL (c.kids.tail.take k) + (c.kids[k + 1].nodes + 1) <= _)).adds h1)
    have HNX := LH (MCore.nodes_eq c.kids[k + 1])
    clear HMEM
    generalize partsF f (c.kids.length - 1) (c.kids.tail.take k) s0 = st at HSC HRT HK
    go_upto_region 5 with fail
    generalize hS : World.alloc wr _ = W5
    have x5 : Ext wr W5 := by rw [<- hS]; exact (XR _).alloc _
    have OM : Own W5 wr.heap.size 42 #[.int .i64 c.kids[k + 1].kind, .string c.kids[k + 1].text, .int .i64 c.kids[k + 1].number, .int .i64 c.kids[k + 1].depth, .slice aa1 c.kids[k + 1].kids.length cc1] := by rw [<- hS]; exact own_new wr _ _
    have HM5 : Hid (KeepB wb cb wr.heap.size m' W5 #[.int .i64 c.kids[k + 1].kind, .string c.kids[k + 1].text, .int .i64 c.kids[k + 1].number, .int .i64 c.kids[k + 1].depth, .slice aa1 c.kids[k + 1].kids.length cc1]) := LH (KeepB.new HK.out.1 OM)
    have HK5 := LH (HK.out.ext x5)
    clear hS HK x5 t0 t1 t2 t3 t4 OK q0 qf0 q1 qf1 q2 qf2 q3 qf3 q4 qf4 qz
    have OK := HK5.out.2.2.2.own
    have q0 := OK.k0
    have qf0 := OK.f0
    have q1 := OK.k1
    have qf1 := OK.f1
    have q2 := OK.k2
    have qf2 := OK.f2
    have q3 := OK.k3
    have qf3 := OK.f3
    have q4 := OK.k4
    have qf4 := OK.f4
    have qz := OK.lt
    have n0 := OM.k0
    have nf0 := OM.f0
    have n1 := OM.k1
    have nf1 := OM.f1
    have n2 := OM.k2
    have nf2 := OM.f2
    have n3 := OM.k3
    have nf3 := OM.f3
    have n4 := OM.k4
    have nf4 := OM.f4
    have nz := OM.lt
    by_cases hlast : k + 1 = c.kids.length - 1
    · rw [decide_eq_true hlast] at HSC
      have hl2 : (k : Int) = (c.kids.length : Int) - 2 := by omega
      have HST : Hid (partF f true c.kids[k + 1] st = pt (allF f c.kids[k + 1].kids st) (iN 13 0 0 c.kids[k + 1].text)) := LH rfl
      have HL1 := LH hlast
      have HL2 := LH hl2
      have hd : ((k : Int) == (c.kids.length : Int) - 2) = true := by simpa using hl2
      clear hlast hl2
      go_wp2_with fail
      refine (nodes_at HF.out c.kids[k + 1].kids HLK _ w0 W5 HRK1.out HK5.out.2.2.1 hB HK5.out.1 (HRT.out.mono (by have := HNX.out; omega))).mono ?_
      rintro e w6 ⟨m6, rfl, h, k⟩
      have HK6 := LH (HK5.out.step hB h k)
      have HM6 := LH (HM5.out.mv k)
      clear h k OK OM HK5 HM5 q0 qf0 q1 qf1 q2 qf2 q3 qf3 q4 qf4 qz n0 nf0 n1 nf1 n2 nf2 n3 nf3 n4 nf4 nz
      have OK := HK6.out.2.2.2.own
      have OM := HM6.out.own
      have q0 := OK.k0
      have qf0 := OK.f0
      have q1 := OK.k1
      have qf1 := OK.f1
      have q2 := OK.k2
      have qf2 := OK.f2
      have q3 := OK.k3
      have qf3 := OK.f3
      have q4 := OK.k4
      have qf4 := OK.f4
      have qz := OK.lt
      have n0 := OM.k0
      have nf0 := OM.f0
      have n1 := OM.k1
      have nf1 := OM.f1
      have n2 := OM.k2
      have nf2 := OM.f2
      have n3 := OM.k3
      have nf3 := OM.f3
      have n4 := OM.k4
      have nf4 := OM.f4
      have nz := OM.lt
      go_wp2_with fail
      refine (put_any (iN 13 0 0 c.kids[k + 1].text) w6 HK6.out.1 (by have h1 := allF_adds HF.out c.kids[k + 1].kids (st); obtain ⟨b1, b2, b3, b4⟩ := h1; have := HRT.out.1; have := HNX.out; omega)).mono ?_
      rintro e w7 ⟨m7, rfl, h, k⟩
      have HK7 := LH (HK6.out.step hB h k)
      have HM7 := LH (HM6.out.mv k)
      clear h k OK OM HK6 HM6 q0 qf0 q1 qf1 q2 qf2 q3 qf3 q4 qf4 qz n0 nf0 n1 nf1 n2 nf2 n3 nf3 n4 nf4 nz
      have OK := HK7.out.2.2.2.own
      have OM := HM7.out.own
      have q0 := OK.k0
      have qf0 := OK.f0
      have q1 := OK.k1
      have qf1 := OK.f1
      have q2 := OK.k2
      have qf2 := OK.f2
      have q3 := OK.k3
      have qf3 := OK.f3
      have q4 := OK.k4
      have qf4 := OK.f4
      have qz := OK.lt
      have n0 := OM.k0
      have nf0 := OM.f0
      have n1 := OM.k1
      have nf1 := OM.f1
      have n2 := OM.k2
      have nf2 := OM.f2
      have n3 := OM.k3
      have nf3 := OM.f3
      have n4 := OM.k4
      have nf4 := OM.f4
      have nz := OM.lt
      rw [<- HST.out, <- HSC.out] at HK7
      go_wp2_with fail
      go_roundw
      case rel => exact ⟨k + 1, _, by have := HL1.out; have := HKT.out; omega, by go_num, HK7⟩
      case measure => have := HL1.out; have := HKT.out; simp [intOf]; omega
    · rw [decide_eq_false hlast] at HSC
      have HST : Hid (partF f false c.kids[k + 1] st = pt (pt (allF f c.kids[k + 1].kids (pt st (iO 17))) (iN 13 0 0 c.kids[k + 1].text)) (iO 16)) := LH rfl
      have hl3 : k + 2 < c.kids.length := by omega
      have hd : ((k : Int) == (c.kids.length : Int) - 2) = false := by simp; omega
      clear hlast
      go_wp2_with fail
      refine (op_any 17 W5 HK5.out.1 (by have := HRT.out.1; have := HNX.out; omega)).mono ?_
      rintro e w6 ⟨m6, rfl, h, k⟩
      have HK6 := LH (HK5.out.step hB h k)
      have HM6 := LH (HM5.out.mv k)
      clear h k OK OM HK5 HM5 q0 qf0 q1 qf1 q2 qf2 q3 qf3 q4 qf4 qz n0 nf0 n1 nf1 n2 nf2 n3 nf3 n4 nf4 nz
      have OK := HK6.out.2.2.2.own
      have OM := HM6.out.own
      have q0 := OK.k0
      have qf0 := OK.f0
      have q1 := OK.k1
      have qf1 := OK.f1
      have q2 := OK.k2
      have qf2 := OK.f2
      have q3 := OK.k3
      have qf3 := OK.f3
      have q4 := OK.k4
      have qf4 := OK.f4
      have qz := OK.lt
      have n0 := OM.k0
      have nf0 := OM.f0
      have n1 := OM.k1
      have nf1 := OM.f1
      have n2 := OM.k2
      have nf2 := OM.f2
      have n3 := OM.k3
      have nf3 := OM.f3
      have n4 := OM.k4
      have nf4 := OM.f4
      have nz := OM.lt
      go_wp2_with fail
      refine (nodes_at HF.out c.kids[k + 1].kids HLK _ w0 w6 HRK1.out HK6.out.2.2.1 hB HK6.out.1 (⟨by have := HRT.out.1; have := HNX.out; rw [(pt_len _ _).1]; omega, by have := HRT.out.2; have := HNX.out; rw [(pt_len _ _).2]; omega⟩)).mono ?_
      rintro e w7 ⟨m7, rfl, h, k⟩
      have HK7 := LH (HK6.out.step hB h k)
      have HM7 := LH (HM6.out.mv k)
      clear h k OK OM HK6 HM6 q0 qf0 q1 qf1 q2 qf2 q3 qf3 q4 qf4 qz n0 nf0 n1 nf1 n2 nf2 n3 nf3 n4 nf4 nz
      have OK := HK7.out.2.2.2.own
      have OM := HM7.out.own
      have q0 := OK.k0
      have qf0 := OK.f0
      have q1 := OK.k1
      have qf1 := OK.f1
      have q2 := OK.k2
      have qf2 := OK.f2
      have q3 := OK.k3
      have qf3 := OK.f3
      have q4 := OK.k4
      have qf4 := OK.f4
      have qz := OK.lt
      have n0 := OM.k0
      have nf0 := OM.f0
      have n1 := OM.k1
      have nf1 := OM.f1
      have n2 := OM.k2
      have nf2 := OM.f2
      have n3 := OM.k3
      have nf3 := OM.f3
      have n4 := OM.k4
      have nf4 := OM.f4
      have nz := OM.lt
      go_wp2_with fail
      refine (put_any (iN 13 0 0 c.kids[k + 1].text) w7 HK7.out.1 (by have h1 := allF_adds HF.out c.kids[k + 1].kids (pt st (iO 17)); obtain ⟨b1, b2, b3, b4⟩ := h1; have := HRT.out.1; have := HNX.out; simp only [pt, List.length_append, List.length_singleton] at *; omega)).mono ?_
      rintro e w8 ⟨m8, rfl, h, k⟩
      have HK8 := LH (HK7.out.step hB h k)
      have HM8 := LH (HM7.out.mv k)
      clear h k OK OM HK7 HM7 q0 qf0 q1 qf1 q2 qf2 q3 qf3 q4 qf4 qz n0 nf0 n1 nf1 n2 nf2 n3 nf3 n4 nf4 nz
      have OK := HK8.out.2.2.2.own
      have OM := HM8.out.own
      have q0 := OK.k0
      have qf0 := OK.f0
      have q1 := OK.k1
      have qf1 := OK.f1
      have q2 := OK.k2
      have qf2 := OK.f2
      have q3 := OK.k3
      have qf3 := OK.f3
      have q4 := OK.k4
      have qf4 := OK.f4
      have qz := OK.lt
      have n0 := OM.k0
      have nf0 := OM.f0
      have n1 := OM.k1
      have nf1 := OM.f1
      have n2 := OM.k2
      have nf2 := OM.f2
      have n3 := OM.k3
      have nf3 := OM.f3
      have n4 := OM.k4
      have nf4 := OM.f4
      have nz := OM.lt
      go_wp2_with fail
      refine (op_any 16 w8 HK8.out.1 (by have h1 := allF_adds HF.out c.kids[k + 1].kids (pt st (iO 17)); obtain ⟨b1, b2, b3, b4⟩ := h1; have := HRT.out.1; have := HNX.out; simp only [pt, List.length_append, List.length_singleton] at *; omega)).mono ?_
      rintro e w9 ⟨m9, rfl, h, k⟩
      have HK9 := LH (HK8.out.step hB h k)
      have HM9 := LH (HM8.out.mv k)
      clear h k OK OM HK8 HM8 q0 qf0 q1 qf1 q2 qf2 q3 qf3 q4 qf4 qz n0 nf0 n1 nf1 n2 nf2 n3 nf3 n4 nf4 nz
      have OK := HK9.out.2.2.2.own
      have OM := HM9.out.own
      have q0 := OK.k0
      have qf0 := OK.f0
      have q1 := OK.k1
      have qf1 := OK.f1
      have q2 := OK.k2
      have qf2 := OK.f2
      have q3 := OK.k3
      have qf3 := OK.f3
      have q4 := OK.k4
      have qf4 := OK.f4
      have qz := OK.lt
      have n0 := OM.k0
      have nf0 := OM.f0
      have n1 := OM.k1
      have nf1 := OM.f1
      have n2 := OM.k2
      have nf2 := OM.f2
      have n3 := OM.k3
      have nf3 := OM.f3
      have n4 := OM.k4
      have nf4 := OM.f4
      have nz := OM.lt
      rw [<- HST.out, <- HSC.out] at HK9
      go_wp2_with fail
      go_roundw
      case rel => exact ⟨k + 1, _, by have := HKT.out; omega, by go_num, HK9⟩
      case measure => have := HKT.out; simp [intOf]; omega
  · have hkk : k = c.kids.tail.length := by rw [HKT.out]; omega
    have HK2 : Hid (Kp w0 B0 wb cb w.heap.size #[.int .i64 c.kind, .string c.text, .int .i64 c.number, .int .i64 c.depth, .slice (some ⟨ba, oa, none⟩) c.kids.length cc0] m w m' wr (partsF f (c.kids.length - 1) c.kids.tail s0)) := LH (by have := HK.out; rw [hkk, List.take_length] at this; exact this)
    clear HK hkk
    go_wp2_with fail
    go_end0
    exact ⟨_, rfl, HK2.out.1, HK2.out.2.1⟩
theorem nodeK15 {f : CF} (hf : Few f) {c : MCore} (hk : c.kind = 15) (hs : shp c) (HN0 : Hid (NodeI f (kidC c 0))) (HP : Hid (∀ x, x ∈ c.kids.tail -> ∀ z, z ∈ x.kids -> NodeI f z)) : NodeI (stepG f) c := by
 intro cs w0 w B0 wb cb m s rc hx hB h hr
 obtain ⟨aa0, cc0, rfl, rk⟩ := MCore.op_en rc
 have hE : stepG f c s = partsF f (c.kids.length - 1) c.kids.tail (f (kidC c 0) s) := by simp [stepG, hk]
 rw [hE, hk]
 rw [hk] at rc
 have HRC := LH rc
 have hk1 : 1 <= c.kids.length := hs.1 hk
 have HN : Hid (MCore.nodesL c.kids + 1 = c.nodes) := LH (by have := MCore.nodes_eq c; omega)
 have HRM := LH hr
 have HF := LH hf
 have HRK := LH rk
 clear hr hf hE rc rk hs
 go_enter Tryz.func90, Tryz.ntmps90
 go_upto_region 1 with fail
 generalize hS : World.alloc w _ = W1
 have x1 : Ext w W1 := by rw [<- hS]; exact (XR _).alloc _
 have OK : Own W1 w.heap.size 42 #[.int .i64 15, .string c.text, .int .i64 c.number, .int .i64 c.depth, .slice aa0 c.kids.length cc0] := by rw [<- hS]; exact own_new w _ _
 have HK1 : Hid (Kp w0 B0 wb cb w.heap.size #[.int .i64 15, .string c.text, .int .i64 c.number, .int .i64 c.depth, .slice aa0 c.kids.length cc0] m w m W1 s) := LH (Kp.new hx h x1 OK)
 clear hS h hx x1
 have q0 := OK.k0
 have qf0 := OK.f0
 have q1 := OK.k1
 have qf1 := OK.f1
 have q2 := OK.k2
 have qf2 := OK.f2
 have q3 := OK.k3
 have qf3 := OK.f3
 have q4 := OK.k4
 have qf4 := OK.f4
 have qz := OK.lt
 go_wp2_with fail
 have hrc : Rep w0 c.d [.int .i64 c.kind, .string c.text, .int .i64 c.number, .int .i64 c.depth, .slice aa0 c.kids.length cc0] := by rw [hk]; exact HRC.out
 have HCA := cascade_at HF.out hk1 HN0 HP w0 W1 hrc HK1.out.2.2.1 hB HK1.out.1 HRM.out
 rw [hk] at HCA
 refine HCA.mono ?_
 rintro e w2 ⟨m2, rfl, h, k⟩
 have HK2 := LH (HK1.out.step hB h k)
 clear h k OK HK1 hrc HCA q0 qf0 q1 qf1 q2 qf2 q3 qf3 q4 qf4 qz
 go_wp2_with fail
 go_end0
 exact ⟨_, rfl, HK2.out.1, HK2.out.2.1⟩
theorem kind_of {n : Nat} {K : Int} {F : Fr} {c : MCore} (h : okN (n + 1) K F c) (h15 : c.kind ≠ 15) : 1 <= c.kind /\ c.kind <= 21 := ((okN_node h15).1 h).1.1
theorem node_at : ∀ (n : Nat) {K : Int} {F : Fr} {c : MCore}, okN n K F c -> NodeI (cmp n) c
 | 0, _, _, _, h => h.elim
 | n + 1, K, F, c, h => by
  have hs := shp_of h
  have hf := cmp_few n
  have hE : cmp (n + 1) c = stepG (cmp n) c := funext fun s => cmp_step h s
  have key : NodeI (stepG (cmp n)) c := by
   by_cases h15 : c.kind = 15
   · obtain ⟨-, g1, g2⟩ := (okN_casc h15).1 h
     have hk1 := hs.1 h15
     refine nodeK15 hf h15 hs (LH (node_at n (g1 _ ?_))) (LH fun x hx z hz => node_at n ((g2 x hx).2 z hz))
     rw [kidC_get (by omega)]
     exact List.mem_take_iff_getElem.2 ⟨0, by omega, rfl⟩
   · have HL : Hid (∀ z, z ∈ c.kids -> NodeI (cmp n) z) := LH fun z hz => node_at n (((okN_node h15).1 h).2.2 z hz)
     obtain ⟨k1, k2⟩ := kind_of h h15
     rcases (by omega : c.kind = 1 ∨ c.kind = 2 ∨ c.kind = 3 ∨ c.kind = 4 ∨ c.kind = 5 ∨ c.kind = 6 ∨ c.kind = 7 ∨ c.kind = 8 ∨ c.kind = 9 ∨ c.kind = 10 ∨ c.kind = 11 ∨ c.kind = 12 ∨ c.kind = 13 ∨ c.kind = 14 ∨ c.kind = 16 ∨ c.kind = 17 ∨ c.kind = 18 ∨ c.kind = 19 ∨ c.kind = 20 ∨ c.kind = 21) with hk | hk | hk | hk | hk | hk | hk | hk | hk | hk | hk | hk | hk | hk | hk | hk | hk | hk | hk | hk
     · exact nodeK1 hf hk hs HL
     · exact nodeK2 hf hk hs HL
     · exact nodeK3 hf hk hs HL
     · exact nodeK4 hf hk hs HL
     · exact nodeK5 hf hk hs HL
     · exact nodeK6 hf hk hs HL
     · exact nodeK7 hf hk hs HL
     · exact nodeK8 hf hk hs HL
     · exact nodeK9 hf hk hs HL
     · exact nodeK10 hf hk hs HL
     · exact nodeK11 hf hk hs HL
     · exact nodeK12 hf hk hs HL
     · exact nodeK13 hf hk hs HL
     · exact nodeK14 hf hk hs HL
     · exact nodeK16 hf hk hs HL
     · exact nodeK17 hf hk hs HL
     · exact nodeK18 hf hk hs HL
     · exact nodeK19 hf hk hs HL
     · by_cases hn : c.number = 0
       · exact nodeK20z hf hk hn hs HL
       · exact nodeK20n hf hk hn hs HL
     · exact nodeK21 hf hk hs HL
  intro cs w0 w B0 wb cb m s rc hx hB hst hr
  have := key cs w0 w B0 wb cb m s rc hx hB hst hr
  rw [<- hE] at this
  exact this
theorem copy_at (l : List MClassInfo) (hl : l.length <= 1000000) (HFL : Hid (∀ x, x ∈ l -> x.fields.length <= 1000000)) (v : Value) (w0 w : World) (rl : Rep w0 (MClassInfos l) [v]) (hx : Ext w0 w) :
 Calls Tryz.prog 53 #[v] w (fun e w' => ∃ ao cap gp, e = .returned (.slice ao l.length cap) /\ RepF w' (MClassInfos l) [.slice ao l.length cap] gp /\ Fresh w' w.heap.size gp /\ Ext w w') := by
 obtain ⟨ao, ca, ba, oa, e1, hla, hma, pa, hra⟩ := Rep.slmap rl
 simp only [List.cons.injEq, and_true] at e1
 subst e1
 unfold maxLen at hma
 have HXW := LH hx
 clear rl
 obtain ⟨i0, hi, hz0, hz1, hz2⟩ := info_parts ciInfo
 have HI := LH (And.intro hi (And.intro hz0 (And.intro hz1 hz2)))
 clear hi hz0 hz1 hz2
 go_enter Tryz.func53, Tryz.ntmps53
 go_upto_region 2 with fail
 generalize hS : World.alloc w _ = W1
 have x1 : Ext w W1 := by rw [<- hS]; exact (XR _).alloc _
 have HA1 : Hid (Acc w.heap.size W1 96 3 (.slice (some ⟨w.heap.size, 0, none⟩) 0 0) [] []) := LH (by rw [<- hS]; exact Acc.empty _ _ (Nat.le_refl _))
 clear hS hx
 go_wp2_with fail
 go_loopw [3, 9] (fun ov iv wr => ∃ (k : Nat) (fp : List Nat), k <= l.length /\ iv = .int .i64 k /\ Ext w wr /\ Hid (Acc w.heap.size wr 96 3 ov ((l.take k).map MClassInfo.d) fp)) (fun _ iv _ => l.length - (intOf iv).toNat)
 case atStart => exact ⟨0, [], Nat.zero_le _, rfl, x1, LH (by simpa using HA1.out)⟩
 case round =>
  obtain ⟨k, fp, hk, rfl, xr, HA⟩ := hrel
  by_cases hlt : k < l.length
  · obtain rfl := pa (by omega)
    obtain ⟨ea, la, cl, ra⟩ := hra k l[k] (by simp [hlt])
    obtain ⟨a2, c2, rfl, rf⟩ := MClassInfo.op_en ra
    have hxr := HXW.out.trans xr
    have hfl := HFL.out l[k] (List.getElem_mem hlt)
    have t0 : wr.cell? ⟨ba, oa + k * 3, none⟩ = some (.string l[k].name) := hxr.cell (cl 0 (by omega))
    have t1 : wr.cell? ⟨ba, oa + k * 3 + 1, none⟩ = some (.int .i64 l[k].parent) := hxr.cell (cl 1 (by omega))
    have t2 : wr.cell? ⟨ba, oa + k * 3 + 2, none⟩ = some (.slice a2 l[k].fields.length c2) := hxr.cell (cl 2 (by omega))
    have HRF := LH rf
    clear cl la hra pa ra rf
    have HDS : Hid ((l.take (k + 1)).map MClassInfo.d = (l.take k).map MClassInfo.d ++ [l[k].d]) := LH (by rw [List.take_succ_eq_append_getElem hlt, List.map_append]; rfl)
    have HDL : Hid (((l.take k).map MClassInfo.d).length = k) := LH (by simp; omega)
    generalize (l.take k).map MClassInfo.d = ds at HDS HDL HA
    go_upto_region 5 with fail
    generalize hS : World.alloc wr _ = W4
    have x4 : Ext wr W4 := by rw [<- hS]; exact (XR _).alloc _
    have OC : Own W4 wr.heap.size 96 #[.string l[k].name, .int .i64 l[k].parent, .slice a2 l[k].fields.length c2] := by rw [<- hS]; exact own_new wr _ _
    have hs4 := x4.size
    clear hS t0 t1 t2
    have q0 := OC.k0
    have qf0 := OC.f0
    have q1 := OC.k1
    have qf1 := OC.f1
    have q2 := OC.k2
    have qf2 := OC.f2
    have qz := OC.lt
    have hA0 : AccT wr.heap.size (W4.alloc (.cells #[] 9)) (.slice (some ⟨W4.heap.size, 0, none⟩) 0 0) [] := Acc.empty _ _ hs4
    have hB0 : AccT (wr.heap.size + 1) (W4.alloc (.cells #[] 9)) (.slice (some ⟨W4.heap.size, 0, none⟩) 0 0) [] := Acc.empty _ _ OC.lt
    have hz4 := OC.lt
    have HRF4 := LH (Rep.ext (hxr.trans (x4.alloc (.cells #[] 9))) HRF.out)
    go_wp2_with (at_builtin; refine wpList_append_strs rfl _ _ rfl (wr.heap.size + 1) (.slice (some ⟨W4.heap.size, 0, none⟩) 0 0) [] rfl hB0 l[k].fields _ _ _ rfl HRF4.out (by simp; omega) (by simp; omega) ?_)
    intro a7 c7 w6 ac6 hg6
    try simp only [List.length_nil, Nat.zero_add, List.nil_append] at ac6
    try simp only [List.length_nil, Nat.zero_add, List.nil_append]
    have x6 : Ext wr w6 := AccT.below hA0 (x4.alloc _) hg6 (by simp; omega)
    have OC6 : Own w6 wr.heap.size 96 #[.string l[k].name, .int .i64 l[k].parent, .slice a2 l[k].fields.length c2] := (OC.ext ((XR _).alloc _)).touch' ((Touch.of_ext (XR _) [W4.heap.size]).grown hg6 (fun j hj => Or.inl (by have e : W4.heap.size = j := Option.some.inj hj; simp [e]))) (by simp; omega)
    obtain ⟨a8, c8, gp8, h81, h82, h83⟩ := ac6.rep
    simp only [Value.slice.injEq] at h81
    obtain ⟨rfl, -, rfl⟩ := h81
    clear hA0 hB0 hg6 ac6 q0 qf0 q1 qf1 q2 qf2 qz
    have q0 := OC6.k0
    have qf0 := OC6.f0
    have q1 := OC6.k1
    have qf1 := OC6.f1
    have q2 := OC6.k2
    have qf2 := OC6.f2
    have qz := OC6.lt
    go_upto_region 6 with fail
    generalize hS : World.setCell w6 _ _ = w7
    have OC7 : Own w7 wr.heap.size 96 #[.string l[k].name, .int .i64 l[k].parent, .slice a7 l[k].fields.length c7] := by rw [<- hS]; exact OC6.set 2 _
    have x7 : Ext wr w7 := by rw [<- hS]; exact x6.setCell (Nat.le_refl _) _
    have h82b : RepF w7 (strs l[k].fields) [.slice a7 l[k].fields.length c7] gp8 := by rw [<- hS]; exact h82.touch ((Touch.of_ext (XR _) [wr.heap.size]).setCell (by simp) _) (fun j hj hm => by have := h83.ge j hj; simp at hm; omega)
    have h83b : Fresh w7 (wr.heap.size + 1) gp8 := by rw [<- hS]; exact h83.touch ((Touch.of_ext (XR _) [wr.heap.size]).setCell (by simp) _) (fun j hj hm => by have := h83.ge j hj; simp at hm; omega)
    clear hS q0 qf0 q1 qf1 q2 qf2 qz OC OC6 h82 h83 x6
    have q0 := OC7.k0
    have qf0 := OC7.f0
    have q1 := OC7.k1
    have qf1 := OC7.f1
    have q2 := OC7.k2
    have qf2 := OC7.f2
    have qz := OC7.lt
    have XA : Hid (Ext wr (w7.alloc (.cells #[.string l[k].name, .int .i64 l[k].parent, .slice a7 l[k].fields.length c7] 96))) := LH (x7.alloc _)
    have hAF := HA.out.add_facts (W := w7.alloc (.cells #[.string l[k].name, .int .i64 l[k].parent, .slice a7 l[k].fields.length c7] 96)) XA.out ((h83b.mono (Nat.le_succ _)).ext ((XR _).alloc _)) xr.size
    have HAF := LH hAF
    have HAX := LH (HA.out.ext XA.out)
    have HR1 : Hid (RepF (w7.alloc (.cells #[.string l[k].name, .int .i64 l[k].parent, .slice a7 l[k].fields.length c7] 96)) (.sl 3 [l[k].d]) [.slice (some ⟨w7.heap.size, 0, none⟩) 1 1] (w7.heap.size :: gp8)) := LH (by
     have hr := MClassInfo.shut (x := l[k]) h82b
     rw [List.append_nil] at hr
     exact RepF.row1 (cs := [.string l[k].name, .int .i64 l[k].parent, .slice a7 l[k].fields.length c7]) (own_new w7 _ _).lt rfl (row3 (by rw [(own_new w7 _ _).cell]; rfl) (by rw [(own_new w7 _ _).cell]; rfl) (by rw [(own_new w7 _ _).cell]; rfl)) (hr.ext ((XR _).alloc _)))
    have hb7 : w.heap.size <= (w7.alloc (.cells #[.string l[k].name, .int .i64 l[k].parent, .slice a7 l[k].fields.length c7] 96)).heap.size := Nat.le_trans xr.size XA.out.size
    obtain ⟨hi, hz0, hz1, hz2⟩ := HI.out
    have hdl := HDL.out
    clear hAF h82b h83b
    go_wp2_with (at_builtin; refine wpList_append_at rfl _ _ 32 rfl w.heap.size 96 i0 _ 3 48 Tryz.underlying32 hi hz0 hz1 hz2 rfl (by decide) _ ds fp rfl HAX.out [l[k].d] _ 1 1 (w7.heap.size :: gp8) rfl HR1.out HAF.out.1 HAF.out.2 (by unfold maxLen; omega) (by omega) hb7 ?_)
    intro a9 c9 w9 ac9 hg9 ho9
    have x9 : Ext w w9 := Acc.below HAX.out (xr.trans XA.out) hg9 hb7
    rw [<- HDS.out] at ac9
    have HA9 := LH ac9
    clear ac9 hg9 ho9 hi hz0 hz1 hz2 q0 qf0 q1 qf1 q2 qf2 qz hdl OC7 x7
    go_wp2_with fail
    go_roundw
    case rel => exact ⟨k + 1, _, by omega, by go_num, x9, HA9⟩
    case measure => simp [intOf]; omega
  · obtain rfl : k = l.length := by omega
    have HA2 : Hid (Acc w.heap.size wr 96 3 _ (l.map MClassInfo.d) fp) := LH (by have := HA.out; rw [List.take_length] at this; exact this)
    clear HA
    obtain ⟨a9, c9, g9, h91, h92, h93⟩ := HA2.out.rep
    rw [List.length_map] at h91 h92
    have HR9 := LH (And.intro h92 h93)
    subst h91
    clear h92 h93
    go_wp2_with fail
    go_ret
    exact ⟨_, _, _, rfl, HR9.out.1, HR9.out.2, xr⟩
theorem sizes_at {x : MCodeBase} {cs : List Value} (w0 w : World) (rx : Rep w0 x.d cs) (hx : Ext w0 w) :
 Calls Tryz.prog 24 #[.agg cs.toArray] w (fun e w' => (∃ bb : Bool, e = .returned (.bool bb) /\ (bb = true ↔ BaseOk x)) /\ Ext w w') := by
 obtain ⟨a1, c1, a2, c2, a3, c3, rfl, -, rk, -⟩ := MCodeBase.op_en rx
 obtain ⟨ao, ca, ba, oa, e1, hla, hma, pa, hra⟩ := Rep.slmap rk
 simp only [List.cons.injEq, and_true, Value.slice.injEq, List.length_map] at e1
 obtain ⟨rfl, -, rfl⟩ := e1
 unfold maxLen at hma
 clear rx rk
 go_enter Tryz.func24, Tryz.ntmps24
 go_upto_region 1 with fail
 generalize hS : World.alloc w _ = W1
 have x1 : Ext w W1 := by rw [<- hS]; exact (XR _).alloc _
 have OB : Own W1 w.heap.size 36 #[.slice a1 x.classes.length c1, .slice a2 x.codes.length c2, .slice a3 x.entries.length c3, .int .i64 x.main] := by rw [<- hS]; exact own_new w _ _
 have HX1 := LH (hx.trans x1)
 clear hS
 have q0 := OB.k0
 have qf0 := OB.f0
 have q1 := OB.k1
 have qf1 := OB.f1
 have q2 := OB.k2
 have qf2 := OB.f2
 have q3 := OB.k3
 have qf3 := OB.f3
 have qz := OB.lt
 go_wp2_with fail
 go_loopw [8] (fun iv wr => ∃ k : Nat, k <= x.codes.length /\ iv = .int .i64 k /\ Ext W1 wr /\ Hid (∀ c, c ∈ x.codes.take k -> c.instrs.length <= 900)) (fun iv _ => x.codes.length - (intOf iv).toNat)
 case atStart => exact ⟨0, Nat.zero_le _, rfl, XR _, LH (by simp)⟩
 case round =>
  obtain ⟨k, hk, rfl, xr, HP⟩ := hrel
  have OR := OB.ext xr
  clear q0 qf0 q1 qf1 q2 qf2 q3 qf3 qz
  have q0 := OR.k0
  have qf0 := OR.f0
  have q1 := OR.k1
  have qf1 := OR.f1
  have q2 := OR.k2
  have qf2 := OR.f2
  have q3 := OR.k3
  have qf3 := OR.f3
  have qz := OR.lt
  by_cases hlt : k < x.codes.length
  · obtain rfl := pa (by omega)
    obtain ⟨ea, la, cl, ra⟩ := hra k x.codes[k] (by simp [hlt])
    obtain ⟨aa, cc, rfl, ri⟩ := MCode.op_en ra
    have hil : x.codes[k].instrs.length <= 9223372036854775807 := by
     obtain ⟨-, ca2, -, -, -, hl2, hm2, -, -⟩ := Rep.slmap ri
     unfold maxLen at hm2
     omega
    have hxr := HX1.out.trans xr
    have t0 : wr.cell? ⟨ba, oa + k * 4, none⟩ = some (.bool x.codes[k].block) := hxr.cell (cl 0 (by omega))
    have t1 : wr.cell? ⟨ba, oa + k * 4 + 1, none⟩ = some (.int .i64 x.codes[k].params) := hxr.cell (cl 1 (by omega))
    have t2 : wr.cell? ⟨ba, oa + k * 4 + 2, none⟩ = some (.int .i64 x.codes[k].slots) := hxr.cell (cl 2 (by omega))
    have t3 : wr.cell? ⟨ba, oa + k * 4 + 3, none⟩ = some (.slice aa x.codes[k].instrs.length cc) := hxr.cell (cl 3 (by omega))
    clear cl la hra pa ra ri
    go_upto_region 4 with fail
    generalize hS : World.alloc wr _ = W5
    have x5 : Ext wr W5 := by rw [<- hS]; exact (XR _).alloc _
    have OM : Own W5 wr.heap.size 88 #[.bool x.codes[k].block, .int .i64 x.codes[k].params, .int .i64 x.codes[k].slots, .slice aa x.codes[k].instrs.length cc] := by rw [<- hS]; exact own_new wr _ _
    clear hS t0 t1 t2 t3
    have n0 := OM.k0
    have nf0 := OM.f0
    have n1 := OM.k1
    have nf1 := OM.f1
    have n2 := OM.k2
    have nf2 := OM.f2
    have n3 := OM.k3
    have nf3 := OM.f3
    have nz := OM.lt
    by_cases h9 : x.codes[k].instrs.length <= 900
    · have h9' : ¬ (900 : Int) < x.codes[k].instrs.length := by omega
      have HP2 : Hid (∀ c, c ∈ x.codes.take (k + 1) -> c.instrs.length <= 900) := LH fun c hc => by
       rw [List.take_succ_eq_append_getElem hlt] at hc
       rcases List.mem_append.1 hc with hc | hc
       · exact HP.out c hc
       · obtain rfl := List.mem_singleton.1 hc; exact h9
      go_wp2_with fail
      go_roundw
      case rel => exact ⟨k + 1, by omega, by go_num, xr.trans x5, HP2⟩
      case measure => simp [intOf]; omega
    · have h9' : (900 : Int) < x.codes[k].instrs.length := by omega
      have HB : Hid (¬ BaseOk x) := LH fun h => h9 (h.1 _ (List.getElem_mem hlt))
      go_wp2_with fail
      go_ret
      exact ⟨⟨false, rfl, by simp [HB.out]⟩, (x1.trans xr).trans x5⟩
  · obtain rfl : k = x.codes.length := by omega
    have HB : Hid (BaseOk x ↔ x.codes.length <= 200) := LH ⟨fun h => h.2, fun h => ⟨by have := HP.out; rwa [List.take_length] at this, h⟩⟩
    clear HP hra pa
    go_wp2_with fail
    go_ret
    exact ⟨⟨_, rfl, by rw [HB.out]; simp; try omega⟩, x1.trans xr⟩
end Go.Proofs.YtlaclfeljimffaaGreatDoor
