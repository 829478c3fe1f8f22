/-
  SEVERAL TEXTS IN ONE: CONTRACTS: the reference's cascade; CONTRACTS: the reference's node: cascades and sequences; CONTRACTS: the reference's node: counted loops.
  Conditions: those that each lemma states.
-/
import Derived.Test.YtlaclfeljimffaaGreatDoorRows
import Derived.BigRegion
import Derived.Test.YtlaclfeljimffaaGreatDoorP25
import Derived.Test.YtlaclfeljimffaaGreatDoorP14
namespace Go.Proofs.YtlaclfeljimffaaGreatDoor
open Go.RowKit
set_option maxHeartbeats 8000000
set_option maxRecDepth 100000
set_option linter.unusedSimpArgs false
set_option linter.unusedVariables false
theorem kidC_got {c : MCore} {i : Nat} (h : i < c.kids.length) : kidC c i = c.kids[i] := by
 unfold kidC
 rw [List.getD_eq_getElem?_getD, List.getElem?_eq_getElem h]; rfl
theorem scascade_at {f : CF} (hf : Few f) {c : MCore} (hk1 : 1 <= c.kids.length) (HN0 : Hid (NodeS f (kidC c 0))) (HP : Hid (∀ x, x ∈ c.kids.tail -> ∀ z, z ∈ x.kids -> NodeS f z)) {cs : List Value} (w0 w : World) {B0 sb : Nat} {hd : Bool × Int × Int} {m : Rw} {s : CS} (rc : Rep w0 c.d cs) (hx : Ext w0 w) (hB : w0.heap.size <= B0) (h : StS B0 sb hd m w s) (hr : Room s c.nodes) :
 Calls Tryz.prog 106 #[.pointer (some ⟨sb, 0, none⟩), .agg cs.toArray] w (GotS B0 sb hd m w (partsF f (c.kids.length - 1) c.kids.tail (f (kidC c 0) s))) := by
 obtain ⟨aa0, cc0, rfl, rk⟩ := MCore.op_en rc
 have HRK := LH rk
 obtain ⟨ao, ca, ba, oa, e1, hla, hma, pa, hra⟩ := Rep.slmap rk
 simp only [List.cons.injEq, and_true, Value.slice.injEq, List.length_map] at e1
 obtain ⟨rfl, -, rfl⟩ := e1
 unfold maxLen at hma
 have hk0 : 0 < c.kids.length := by omega
 obtain rfl := pa (by omega)
 have HRA := LH hra
 obtain ⟨ea, la, cl, ra⟩ := hra 0 (kidC c 0) (by rw [kidC_got (by omega)]; simp)
 obtain ⟨aa9, cc9, rfl, -⟩ := MCore.op_en ra
 have HF := LH hf
 have HA : Hid (Room s (kidC c 0).nodes /\ Room (f (kidC c 0) s) (MCore.nodesL c.kids.tail + 1)) := LH (by
  have h1 := kid_head hk1
  have h2 := MCore.nodes_eq c
  have a1 := (hf (kidC c 0) s).adds
  exact ⟨hr.mono (by omega), (hr.mono (by omega : (kidC c 0).nodes + (MCore.nodesL c.kids.tail + 1) <= c.nodes)).adds a1⟩)
 obtain ⟨s0, h0⟩ : ∃ t, f (kidC c 0) s = t := ⟨_, rfl⟩
 rw [h0] at HA ⊢
 have HH0 := LH h0
 clear hra la rc rk hr hf h0 pa
 go_enter Tryz.func106, Tryz.ntmps106
 go_upto_region 1 with fail
 generalize hS : World.alloc w _ = W1
 have x1 : Ext w W1 := by rw [<- hS]; exact (XR _).alloc _
 have OK : Own W1 w.heap.size 42 #[.int .i64 c.kind, .string c.text, .int .i64 c.number, .int .i64 c.depth, .slice (some ⟨ba, oa, none⟩) c.kids.length cc0] := by rw [<- hS]; exact own_new w _ _
 have HK1 : Hid (Ks w0 B0 sb hd w.heap.size #[.int .i64 c.kind, .string c.text, .int .i64 c.number, .int .i64 c.depth, .slice (some ⟨ba, oa, none⟩) c.kids.length cc0] m w m W1 s) := LH (Ks.new hx h x1 OK)
 clear hS h hx x1
 have q0 := OK.k0
 have qf0 := OK.f0
 have q1 := OK.k1
 have qf1 := OK.f1
 have q2 := OK.k2
 have qf2 := OK.f2
 have q3 := OK.k3
 have qf3 := OK.f3
 have q4 := OK.k4
 have qf4 := OK.f4
 have qz := OK.lt
 have t0 : W1.cell? ⟨ba, oa, none⟩ = some (.int .i64 (kidC c 0).kind) := HK1.out.2.2.1.cell (by have := cl 0 (by omega); simpa using this)
 have t1 : W1.cell? ⟨ba, oa + 1, none⟩ = some (.string (kidC c 0).text) := HK1.out.2.2.1.cell (by have := cl 1 (by omega); simpa using this)
 have t2 : W1.cell? ⟨ba, oa + 2, none⟩ = some (.int .i64 (kidC c 0).number) := HK1.out.2.2.1.cell (by have := cl 2 (by omega); simpa using this)
 have t3 : W1.cell? ⟨ba, oa + 3, none⟩ = some (.int .i64 (kidC c 0).depth) := HK1.out.2.2.1.cell (by have := cl 3 (by omega); simpa using this)
 have t4 : W1.cell? ⟨ba, oa + 4, none⟩ = some (.slice aa9 (kidC c 0).kids.length cc9) := HK1.out.2.2.1.cell (by have := cl 4 (by omega); simpa using this)
 go_wp2_with fail
 refine (HN0.out _ w0 W1 B0 sb hd m _ ra HK1.out.2.2.1 hB HK1.out.1 HA.out.1).mono ?_
 rintro e w2 ⟨m2, rfl, h, k⟩
 rw [HH0.out] at h
 have HK2 := LH (HK1.out.step hB h k)
 clear h k OK HK1 q0 qf0 q1 qf1 q2 qf2 q3 qf3 q4 qf4 qz t0 t1 t2 t3 t4 cl ra
 go_wp2_with fail
 go_loopw [4] (fun iv wr => ∃ (k : Nat) (m' : Rw), k + 1 <= c.kids.length /\ iv = .int .i64 ((k + 1 : Nat) : Int) /\ Hid (Ks w0 B0 sb hd w.heap.size #[.int .i64 c.kind, .string c.text, .int .i64 c.number, .int .i64 c.depth, .slice (some ⟨ba, oa, none⟩) c.kids.length cc0] m w m' wr (partsF f (c.kids.length - 1) (c.kids.tail.take k) s0))) (fun iv _ => c.kids.length - (intOf iv).toNat)
 case atStart => exact ⟨0, m2, by omega, rfl, HK2⟩
 case round =>
  obtain ⟨k, m', hk2, rfl, HK⟩ := hrel
  have HKT : Hid (c.kids.tail.length = c.kids.length - 1) := LH (by simp)
  have OK := HK.out.2.2.2.1
  have q0 := OK.k0
  have qf0 := OK.f0
  have q1 := OK.k1
  have qf1 := OK.f1
  have q2 := OK.k2
  have qf2 := OK.f2
  have q3 := OK.k3
  have qf3 := OK.f3
  have q4 := OK.k4
  have qf4 := OK.f4
  have qz := OK.lt
  by_cases hlt : k + 1 < c.kids.length
  · obtain ⟨ea, la, cl, ra⟩ := HRA.out (k + 1) c.kids[k + 1] (by simp [hlt])
    obtain ⟨aa1, cc1, rfl, rk1⟩ := MCore.op_en ra
    have HCL : Hid (∀ j u, j < 5 -> [.int .i64 c.kids[k + 1].kind, .string c.kids[k + 1].text, .int .i64 c.kids[k + 1].number, .int .i64 c.kids[k + 1].depth, .slice aa1 c.kids[k + 1].kids.length cc1][j]? = some u -> w0.cell? ⟨ba, oa + (k + 1) * 5 + j, none⟩ = some u) := LH fun j u hj hu => by rw [cl j hj]; exact hu
    have t0 : wr.cell? ⟨ba, oa + (k + 1) * 5, none⟩ = some (.int .i64 c.kids[k + 1].kind) := HK.out.2.2.1.cell (HCL.out 0 _ (by omega) rfl)
    have t1 : wr.cell? ⟨ba, oa + (k + 1) * 5 + 1, none⟩ = some (.string c.kids[k + 1].text) := HK.out.2.2.1.cell (HCL.out 1 _ (by omega) rfl)
    have t2 : wr.cell? ⟨ba, oa + (k + 1) * 5 + 2, none⟩ = some (.int .i64 c.kids[k + 1].number) := HK.out.2.2.1.cell (HCL.out 2 _ (by omega) rfl)
    have t3 : wr.cell? ⟨ba, oa + (k + 1) * 5 + 3, none⟩ = some (.int .i64 c.kids[k + 1].depth) := HK.out.2.2.1.cell (HCL.out 3 _ (by omega) rfl)
    have t4 : wr.cell? ⟨ba, oa + (k + 1) * 5 + 4, none⟩ = some (.slice aa1 c.kids[k + 1].kids.length cc1) := HK.out.2.2.1.cell (HCL.out 4 _ (by omega) rfl)
    clear cl la ra
    have HRK1 := LH rk1
    clear rk1
    have HMEM : c.kids[k + 1] ∈ c.kids.tail := by
     rw [List.mem_iff_getElem]
     exact ⟨k, by rw [HKT.out]; omega, by simp⟩
    have HLK : Hid (∀ z, z ∈ c.kids[k + 1].kids -> NodeS f z) := LH (HP.out _ HMEM)
    have HSC : Hid (partsF f (c.kids.length - 1) (c.kids.tail.take (k + 1)) s0 = partF f (decide (k + 1 = c.kids.length - 1)) c.kids[k + 1] (partsF f (c.kids.length - 1) (c.kids.tail.take k) s0)) := LH (by
     have := partsF_succ f (c.kids.length - 1) (l := c.kids.tail) (k := k) (by rw [HKT.out]; omega) s0
     simpa using this)
    have HRT : Hid (Room (partsF f (c.kids.length - 1) (c.kids.tail.take k) s0) (c.kids[k + 1].nodes + 1)) := LH (by
     have h1 := partsF_adds HF.out (c.kids.length - 1) c.kids.tail s0 k (by rw [HKT.out]; omega)
     have h2 := MCore.nodesL_succ (show k < c.kids.tail.length by rw [HKT.out]; omega)
     have h3 := MCore.nodesL_take c.kids.tail (k + 1)
     simp only [List.getElem_tail] at h2
     exact (HA.out.2.mono (by omega : MCore.nodesL (c.kids.tail.take k) + (c.kids[k + 1].nodes + 1) <= _)).adds h1)
    have HNX := LH (MCore.nodes_eq c.kids[k + 1])
    clear HMEM
    generalize partsF f (c.kids.length - 1) (c.kids.tail.take k) s0 = st at HSC HRT HK
    have HK5 := HK
    clear HK
    by_cases hlast : k + 1 = c.kids.length - 1
    · rw [decide_eq_true hlast] at HSC
      have hl2 : ((k : Int) + 1) = (c.kids.length : Int) - 1 := by omega
      have HST : Hid (partF f true c.kids[k + 1] st = pt (allF f c.kids[k + 1].kids st) (iN 13 0 0 c.kids[k + 1].text)) := LH rfl
      have HL1 := LH hlast
      have hd1 : (((k : Int) + 1) == (c.kids.length : Int) - 1) = true := by simpa using hl2
      clear hlast hl2
      go_wp2_with fail
      refine (sall_at HF.out c.kids[k + 1].kids HLK _ w0 wr HRK1.out HK5.out.2.2.1 hB HK5.out.1 (HRT.out.mono (by have := HNX.out; omega))).mono ?_
      rintro e w6 ⟨m6, rfl, h, k⟩
      have HK6 := LH (HK5.out.step hB h k)
      clear h k OK HK5 q0 qf0 q1 qf1 q2 qf2 q3 qf3 q4 qf4 qz t0 t1 t2 t3 t4
      have OK := HK6.out.2.2.2.1
      have q0 := OK.k0
      have qf0 := OK.f0
      have q1 := OK.k1
      have qf1 := OK.f1
      have q2 := OK.k2
      have qf2 := OK.f2
      have q3 := OK.k3
      have qf3 := OK.f3
      have q4 := OK.k4
      have qf4 := OK.f4
      have qz := OK.lt
      have t0 : w6.cell? ⟨ba, oa + (k + 1) * 5, none⟩ = some (.int .i64 c.kids[k + 1].kind) := HK6.out.2.2.1.cell (HCL.out 0 _ (by omega) rfl)
      have t1 : w6.cell? ⟨ba, oa + (k + 1) * 5 + 1, none⟩ = some (.string c.kids[k + 1].text) := HK6.out.2.2.1.cell (HCL.out 1 _ (by omega) rfl)
      have t2 : w6.cell? ⟨ba, oa + (k + 1) * 5 + 2, none⟩ = some (.int .i64 c.kids[k + 1].number) := HK6.out.2.2.1.cell (HCL.out 2 _ (by omega) rfl)
      have t3 : w6.cell? ⟨ba, oa + (k + 1) * 5 + 3, none⟩ = some (.int .i64 c.kids[k + 1].depth) := HK6.out.2.2.1.cell (HCL.out 3 _ (by omega) rfl)
      have t4 : w6.cell? ⟨ba, oa + (k + 1) * 5 + 4, none⟩ = some (.slice aa1 c.kids[k + 1].kids.length cc1) := HK6.out.2.2.1.cell (HCL.out 4 _ (by omega) rfl)
      go_wp2_with fail
      refine (sput_any (iN 13 0 0 c.kids[k + 1].text) w6 HK6.out.1 (by have h1 := allF_adds HF.out c.kids[k + 1].kids (st); obtain ⟨b1, b2, b3, b4⟩ := h1; have := HRT.out.1; have := HNX.out; omega)).mono ?_
      rintro e w7 ⟨m7, rfl, h, k⟩
      have HK7 := LH (HK6.out.step hB h k)
      clear h k OK HK6 q0 qf0 q1 qf1 q2 qf2 q3 qf3 q4 qf4 qz t0 t1 t2 t3 t4
      have OK := HK7.out.2.2.2.1
      have q0 := OK.k0
      have qf0 := OK.f0
      have q1 := OK.k1
      have qf1 := OK.f1
      have q2 := OK.k2
      have qf2 := OK.f2
      have q3 := OK.k3
      have qf3 := OK.f3
      have q4 := OK.k4
      have qf4 := OK.f4
      have qz := OK.lt
      have t0 : w7.cell? ⟨ba, oa + (k + 1) * 5, none⟩ = some (.int .i64 c.kids[k + 1].kind) := HK7.out.2.2.1.cell (HCL.out 0 _ (by omega) rfl)
      have t1 : w7.cell? ⟨ba, oa + (k + 1) * 5 + 1, none⟩ = some (.string c.kids[k + 1].text) := HK7.out.2.2.1.cell (HCL.out 1 _ (by omega) rfl)
      have t2 : w7.cell? ⟨ba, oa + (k + 1) * 5 + 2, none⟩ = some (.int .i64 c.kids[k + 1].number) := HK7.out.2.2.1.cell (HCL.out 2 _ (by omega) rfl)
      have t3 : w7.cell? ⟨ba, oa + (k + 1) * 5 + 3, none⟩ = some (.int .i64 c.kids[k + 1].depth) := HK7.out.2.2.1.cell (HCL.out 3 _ (by omega) rfl)
      have t4 : w7.cell? ⟨ba, oa + (k + 1) * 5 + 4, none⟩ = some (.slice aa1 c.kids[k + 1].kids.length cc1) := HK7.out.2.2.1.cell (HCL.out 4 _ (by omega) rfl)
      rw [<- HST.out, <- HSC.out] at HK7
      go_wp2_with fail
      go_roundw
      case rel => exact ⟨k + 1, _, by omega, by go_num, HK7⟩
      case measure => simp [intOf]; omega
    · rw [decide_eq_false hlast] at HSC
      have HST : Hid (partF f false c.kids[k + 1] st = pt (pt (allF f c.kids[k + 1].kids (pt st (iO 17))) (iN 13 0 0 c.kids[k + 1].text)) (iO 16)) := LH rfl
      have hl3 : k + 2 < c.kids.length := by omega
      have hd1 : (((k : Int) + 1) == (c.kids.length : Int) - 1) = false := by simp; omega
      clear hlast
      go_wp2_with fail
      refine (sop_any 17 wr HK5.out.1 (by have := HRT.out.1; have := HNX.out; omega)).mono ?_
      rintro e w6 ⟨m6, rfl, h, k⟩
      have HK6 := LH (HK5.out.step hB h k)
      clear h k OK HK5 q0 qf0 q1 qf1 q2 qf2 q3 qf3 q4 qf4 qz t0 t1 t2 t3 t4
      have OK := HK6.out.2.2.2.1
      have q0 := OK.k0
      have qf0 := OK.f0
      have q1 := OK.k1
      have qf1 := OK.f1
      have q2 := OK.k2
      have qf2 := OK.f2
      have q3 := OK.k3
      have qf3 := OK.f3
      have q4 := OK.k4
      have qf4 := OK.f4
      have qz := OK.lt
      have t0 : w6.cell? ⟨ba, oa + (k + 1) * 5, none⟩ = some (.int .i64 c.kids[k + 1].kind) := HK6.out.2.2.1.cell (HCL.out 0 _ (by omega) rfl)
      have t1 : w6.cell? ⟨ba, oa + (k + 1) * 5 + 1, none⟩ = some (.string c.kids[k + 1].text) := HK6.out.2.2.1.cell (HCL.out 1 _ (by omega) rfl)
      have t2 : w6.cell? ⟨ba, oa + (k + 1) * 5 + 2, none⟩ = some (.int .i64 c.kids[k + 1].number) := HK6.out.2.2.1.cell (HCL.out 2 _ (by omega) rfl)
      have t3 : w6.cell? ⟨ba, oa + (k + 1) * 5 + 3, none⟩ = some (.int .i64 c.kids[k + 1].depth) := HK6.out.2.2.1.cell (HCL.out 3 _ (by omega) rfl)
      have t4 : w6.cell? ⟨ba, oa + (k + 1) * 5 + 4, none⟩ = some (.slice aa1 c.kids[k + 1].kids.length cc1) := HK6.out.2.2.1.cell (HCL.out 4 _ (by omega) rfl)
      go_wp2_with fail
      refine (sall_at HF.out c.kids[k + 1].kids HLK _ w0 w6 HRK1.out HK6.out.2.2.1 hB HK6.out.1 (⟨by have := HRT.out.1; have := HNX.out; rw [(pt_len _ _).1]; omega, by have := HRT.out.2; have := HNX.out; rw [(pt_len _ _).2]; omega⟩)).mono ?_
      rintro e w7 ⟨m7, rfl, h, k⟩
      have HK7 := LH (HK6.out.step hB h k)
      clear h k OK HK6 q0 qf0 q1 qf1 q2 qf2 q3 qf3 q4 qf4 qz t0 t1 t2 t3 t4
      have OK := HK7.out.2.2.2.1
      have q0 := OK.k0
      have qf0 := OK.f0
      have q1 := OK.k1
      have qf1 := OK.f1
      have q2 := OK.k2
      have qf2 := OK.f2
      have q3 := OK.k3
      have qf3 := OK.f3
      have q4 := OK.k4
      have qf4 := OK.f4
      have qz := OK.lt
      have t0 : w7.cell? ⟨ba, oa + (k + 1) * 5, none⟩ = some (.int .i64 c.kids[k + 1].kind) := HK7.out.2.2.1.cell (HCL.out 0 _ (by omega) rfl)
      have t1 : w7.cell? ⟨ba, oa + (k + 1) * 5 + 1, none⟩ = some (.string c.kids[k + 1].text) := HK7.out.2.2.1.cell (HCL.out 1 _ (by omega) rfl)
      have t2 : w7.cell? ⟨ba, oa + (k + 1) * 5 + 2, none⟩ = some (.int .i64 c.kids[k + 1].number) := HK7.out.2.2.1.cell (HCL.out 2 _ (by omega) rfl)
      have t3 : w7.cell? ⟨ba, oa + (k + 1) * 5 + 3, none⟩ = some (.int .i64 c.kids[k + 1].depth) := HK7.out.2.2.1.cell (HCL.out 3 _ (by omega) rfl)
      have t4 : w7.cell? ⟨ba, oa + (k + 1) * 5 + 4, none⟩ = some (.slice aa1 c.kids[k + 1].kids.length cc1) := HK7.out.2.2.1.cell (HCL.out 4 _ (by omega) rfl)
      go_wp2_with fail
      refine (sput_any (iN 13 0 0 c.kids[k + 1].text) w7 HK7.out.1 (by have h1 := allF_adds HF.out c.kids[k + 1].kids (pt st (iO 17)); obtain ⟨b1, b2, b3, b4⟩ := h1; have := HRT.out.1; have := HNX.out; simp only [pt, List.length_append, List.length_singleton] at *; omega)).mono ?_
      rintro e w8 ⟨m8, rfl, h, k⟩
      have HK8 := LH (HK7.out.step hB h k)
      clear h k OK HK7 q0 qf0 q1 qf1 q2 qf2 q3 qf3 q4 qf4 qz t0 t1 t2 t3 t4
      have OK := HK8.out.2.2.2.1
      have q0 := OK.k0
      have qf0 := OK.f0
      have q1 := OK.k1
      have qf1 := OK.f1
      have q2 := OK.k2
      have qf2 := OK.f2
      have q3 := OK.k3
      have qf3 := OK.f3
      have q4 := OK.k4
      have qf4 := OK.f4
      have qz := OK.lt
      have t0 : w8.cell? ⟨ba, oa + (k + 1) * 5, none⟩ = some (.int .i64 c.kids[k + 1].kind) := HK8.out.2.2.1.cell (HCL.out 0 _ (by omega) rfl)
      have t1 : w8.cell? ⟨ba, oa + (k + 1) * 5 + 1, none⟩ = some (.string c.kids[k + 1].text) := HK8.out.2.2.1.cell (HCL.out 1 _ (by omega) rfl)
      have t2 : w8.cell? ⟨ba, oa + (k + 1) * 5 + 2, none⟩ = some (.int .i64 c.kids[k + 1].number) := HK8.out.2.2.1.cell (HCL.out 2 _ (by omega) rfl)
      have t3 : w8.cell? ⟨ba, oa + (k + 1) * 5 + 3, none⟩ = some (.int .i64 c.kids[k + 1].depth) := HK8.out.2.2.1.cell (HCL.out 3 _ (by omega) rfl)
      have t4 : w8.cell? ⟨ba, oa + (k + 1) * 5 + 4, none⟩ = some (.slice aa1 c.kids[k + 1].kids.length cc1) := HK8.out.2.2.1.cell (HCL.out 4 _ (by omega) rfl)
      go_wp2_with fail
      refine (sop_any 16 w8 HK8.out.1 (by have h1 := allF_adds HF.out c.kids[k + 1].kids (pt st (iO 17)); obtain ⟨b1, b2, b3, b4⟩ := h1; have := HRT.out.1; have := HNX.out; simp only [pt, List.length_append, List.length_singleton] at *; omega)).mono ?_
      rintro e w9 ⟨m9, rfl, h, k⟩
      have HK9 := LH (HK8.out.step hB h k)
      clear h k OK HK8 q0 qf0 q1 qf1 q2 qf2 q3 qf3 q4 qf4 qz t0 t1 t2 t3 t4
      have OK := HK9.out.2.2.2.1
      have q0 := OK.k0
      have qf0 := OK.f0
      have q1 := OK.k1
      have qf1 := OK.f1
      have q2 := OK.k2
      have qf2 := OK.f2
      have q3 := OK.k3
      have qf3 := OK.f3
      have q4 := OK.k4
      have qf4 := OK.f4
      have qz := OK.lt
      have t0 : w9.cell? ⟨ba, oa + (k + 1) * 5, none⟩ = some (.int .i64 c.kids[k + 1].kind) := HK9.out.2.2.1.cell (HCL.out 0 _ (by omega) rfl)
      have t1 : w9.cell? ⟨ba, oa + (k + 1) * 5 + 1, none⟩ = some (.string c.kids[k + 1].text) := HK9.out.2.2.1.cell (HCL.out 1 _ (by omega) rfl)
      have t2 : w9.cell? ⟨ba, oa + (k + 1) * 5 + 2, none⟩ = some (.int .i64 c.kids[k + 1].number) := HK9.out.2.2.1.cell (HCL.out 2 _ (by omega) rfl)
      have t3 : w9.cell? ⟨ba, oa + (k + 1) * 5 + 3, none⟩ = some (.int .i64 c.kids[k + 1].depth) := HK9.out.2.2.1.cell (HCL.out 3 _ (by omega) rfl)
      have t4 : w9.cell? ⟨ba, oa + (k + 1) * 5 + 4, none⟩ = some (.slice aa1 c.kids[k + 1].kids.length cc1) := HK9.out.2.2.1.cell (HCL.out 4 _ (by omega) rfl)
      rw [<- HST.out, <- HSC.out] at HK9
      go_wp2_with fail
      go_roundw
      case rel => exact ⟨k + 1, _, by omega, by go_num, HK9⟩
      case measure => simp [intOf]; omega
  · have HK2 : Hid (Ks w0 B0 sb hd w.heap.size #[.int .i64 c.kind, .string c.text, .int .i64 c.number, .int .i64 c.depth, .slice (some ⟨ba, oa, none⟩) c.kids.length cc0] m w m' wr (partsF f (c.kids.length - 1) c.kids.tail s0)) := LH (by
     have := HK.out
     rwa [List.take_of_length_le (by rw [HKT.out]; omega)] at this)
    clear HK
    go_wp2_with fail
    go_end0
    exact ⟨_, rfl, HK2.out.1, HK2.out.2.1⟩
theorem snodeK15 {f : CF} (hf : Few f) {c : MCore} (hk : c.kind = 15) (hs : shp c) (HN0 : Hid (NodeS f (kidC c 0))) (HP : Hid (∀ x, x ∈ c.kids.tail -> ∀ z, z ∈ x.kids -> NodeS f z)) : NodeS (stepG f) c := by
 intro cs w0 w B0 sb hd m s rc hx hB h hr
 obtain ⟨aa0, cc0, rfl, rk⟩ := MCore.op_en rc
 have hE : stepG f c s = partsF f (c.kids.length - 1) c.kids.tail (f (kidC c 0) s) := by simp [stepG, hk]
 rw [hE, hk]
 rw [hk] at rc
 have HRC := LH rc
 have hk1 : 1 <= c.kids.length := hs.1 hk
 have HN : Hid (MCore.nodesL c.kids + 1 = c.nodes) := LH (by have := MCore.nodes_eq c; omega)
 have HRM := LH hr
 have HF := LH hf
 have HRK := LH rk
 clear hr hf hE rc rk hs
 go_enter Tryz.func78, Tryz.ntmps78
 go_upto_region 1 with fail
 generalize hS : World.alloc w _ = W1
 have x1 : Ext w W1 := by rw [<- hS]; exact (XR _).alloc _
 have OK : Own W1 w.heap.size 42 #[.int .i64 15, .string c.text, .int .i64 c.number, .int .i64 c.depth, .slice aa0 c.kids.length cc0] := by rw [<- hS]; exact own_new w _ _
 have HK1 : Hid (Ks w0 B0 sb hd w.heap.size #[.int .i64 15, .string c.text, .int .i64 c.number, .int .i64 c.depth, .slice aa0 c.kids.length cc0] m w m W1 s) := LH (Ks.new hx h x1 OK)
 clear hS h hx x1
 have q0 := OK.k0
 have qf0 := OK.f0
 have q1 := OK.k1
 have qf1 := OK.f1
 have q2 := OK.k2
 have qf2 := OK.f2
 have q3 := OK.k3
 have qf3 := OK.f3
 have q4 := OK.k4
 have qf4 := OK.f4
 have qz := OK.lt
 go_wp2_with fail
 have hrc : Rep w0 c.d [.int .i64 c.kind, .string c.text, .int .i64 c.number, .int .i64 c.depth, .slice aa0 c.kids.length cc0] := by rw [hk]; exact HRC.out
 have HCA := scascade_at HF.out hk1 HN0 HP w0 W1 hrc HK1.out.2.2.1 hB HK1.out.1 HRM.out
 rw [hk] at HCA
 refine HCA.mono ?_
 rintro e w2 ⟨m2, rfl, h, k⟩
 have HK2 := LH (HK1.out.step hB h k)
 clear h k OK HK1 hrc HCA q0 qf0 q1 qf1 q2 qf2 q3 qf3 q4 qf4 qz
 go_wp2_with fail
 go_end0
 exact ⟨_, rfl, HK2.out.1, HK2.out.2.1⟩
theorem snodeK17 {f : CF} (hf : Few f) {c : MCore} (hk : c.kind = 17) (hs : shp c) (HL : Hid (∀ z, z ∈ c.kids -> NodeS f z)) : NodeS (stepG f) c := by
 intro cs w0 w B0 sb hd m s rc hx hB h hr
 obtain ⟨aa0, cc0, rfl, rk⟩ := MCore.op_en rc
 have hE : stepG f c s = seqF f c.kids s := by simp [stepG, hk]
 rw [hE, hk]
 have HN : Hid (MCore.nodesL c.kids + 1 = c.nodes) := LH (by have := MCore.nodes_eq c; omega)
 have HRM := LH hr
 have HF := LH hf
 have HRK := LH rk
 obtain ⟨ao, ca, ba, oa, e1, hla, hma, pa, hra⟩ := Rep.slmap rk
 simp only [List.cons.injEq, and_true, Value.slice.injEq, List.length_map] at e1
 obtain ⟨rfl, -, rfl⟩ := e1
 unfold maxLen at hma
 clear hr hf hE rc rk hs
 go_enter Tryz.func78, Tryz.ntmps78
 go_upto_region 1 with fail
 generalize hS : World.alloc w _ = W1
 have x1 : Ext w W1 := by rw [<- hS]; exact (XR _).alloc _
 have OK : Own W1 w.heap.size 42 #[.int .i64 17, .string c.text, .int .i64 c.number, .int .i64 c.depth, .slice aa0 c.kids.length cc0] := by rw [<- hS]; exact own_new w _ _
 have HK1 : Hid (Ks w0 B0 sb hd w.heap.size #[.int .i64 17, .string c.text, .int .i64 c.number, .int .i64 c.depth, .slice aa0 c.kids.length cc0] m w m W1 s) := LH (Ks.new hx h x1 OK)
 clear hS h hx x1
 have q0 := OK.k0
 have qf0 := OK.f0
 have q1 := OK.k1
 have qf1 := OK.f1
 have q2 := OK.k2
 have qf2 := OK.f2
 have q3 := OK.k3
 have qf3 := OK.f3
 have q4 := OK.k4
 have qf4 := OK.f4
 have qz := OK.lt
 go_wp2_with fail
 go_loopw [4] (fun iv wr => ∃ (k : Nat) (m' : Rw), k <= c.kids.length /\ iv = .int .i64 k /\ Hid (Ks w0 B0 sb hd w.heap.size #[.int .i64 17, .string c.text, .int .i64 c.number, .int .i64 c.depth, .slice aa0 c.kids.length cc0] m w m' wr (seqF f (c.kids.take k) s))) (fun iv _ => c.kids.length - (intOf iv).toNat)
 case atStart => exact ⟨0, m, Nat.zero_le _, rfl, HK1⟩
 case round =>
  obtain ⟨k, m', hk2, rfl, HK⟩ := hrel
  have OK := HK.out.2.2.2.1
  have q0 := OK.k0
  have qf0 := OK.f0
  have q1 := OK.k1
  have qf1 := OK.f1
  have q2 := OK.k2
  have qf2 := OK.f2
  have q3 := OK.k3
  have qf3 := OK.f3
  have q4 := OK.k4
  have qf4 := OK.f4
  have qz := OK.lt
  by_cases hlt : k < c.kids.length
  · obtain rfl := pa (by omega)
    obtain ⟨ea, la, cl, ra⟩ := hra k c.kids[k] (by simp [hlt])
    obtain ⟨aa1, cc1, rfl, -⟩ := MCore.op_en ra
    have HCL : Hid (∀ j u, j < 5 -> [.int .i64 c.kids[k].kind, .string c.kids[k].text, .int .i64 c.kids[k].number, .int .i64 c.kids[k].depth, .slice aa1 c.kids[k].kids.length cc1][j]? = some u -> w0.cell? ⟨ba, oa + k * 5 + j, none⟩ = some u) := LH fun j u hj hu => by rw [cl j hj]; exact hu
    have t0 : wr.cell? ⟨ba, oa + k * 5, none⟩ = some (.int .i64 c.kids[k].kind) := HK.out.2.2.1.cell (HCL.out 0 _ (by omega) rfl)
    have t1 : wr.cell? ⟨ba, oa + k * 5 + 1, none⟩ = some (.string c.kids[k].text) := HK.out.2.2.1.cell (HCL.out 1 _ (by omega) rfl)
    have t2 : wr.cell? ⟨ba, oa + k * 5 + 2, none⟩ = some (.int .i64 c.kids[k].number) := HK.out.2.2.1.cell (HCL.out 2 _ (by omega) rfl)
    have t3 : wr.cell? ⟨ba, oa + k * 5 + 3, none⟩ = some (.int .i64 c.kids[k].depth) := HK.out.2.2.1.cell (HCL.out 3 _ (by omega) rfl)
    have t4 : wr.cell? ⟨ba, oa + k * 5 + 4, none⟩ = some (.slice aa1 c.kids[k].kids.length cc1) := HK.out.2.2.1.cell (HCL.out 4 _ (by omega) rfl)
    clear cl la hra pa
    have HNK := LH (HL.out c.kids[k] (List.getElem_mem hlt))
    have HSC : Hid (seqF f (c.kids.take (k + 1)) s = f c.kids[k] (if k = 0 then seqF f (c.kids.take k) s else pt (seqF f (c.kids.take k) s) (iO 16))) := LH (seqF_succ f hlt s)
    have HRT : Hid ((seqF f (c.kids.take k) s).2.length + 1 + 8 * c.kids[k].nodes <= 1000000 /\ (seqF f (c.kids.take k) s).1.length + c.kids[k].nodes <= 1000000) := LH (by
     have h1 := seqF_adds HF.out c.kids s k hk2
     have h2 := MCore.nodesL_succ hlt
     have h3 := MCore.nodesL_take c.kids (k + 1)
     have h4 := HRM.out.1
     have h5 := HRM.out.2
     have h6 := HN.out
     omega)
    generalize seqF f (c.kids.take k) s = st at HSC HRT HK
    by_cases h0 : k = 0
    · subst h0
      rw [if_pos rfl] at HSC
      simp only [Nat.zero_mul, Nat.add_zero] at t0 t1 t2 t3 t4
      go_wp2_with fail
      refine (HNK.out _ w0 wr B0 sb hd m' _ ra HK.out.2.2.1 hB HK.out.1 ⟨by have := HRT.out.1; omega, HRT.out.2⟩).mono ?_
      rintro e w6 ⟨m6, rfl, h6, k6⟩
      rw [<- HSC.out] at h6
      have HK6 := LH (HK.out.step hB h6 k6)
      clear h6 k6 HK OK q0 qf0 q1 qf1 q2 qf2 q3 qf3 q4 qf4 qz t0 t1 t2 t3 t4
      go_wp2_with fail
      go_roundw
      case rel => exact ⟨0 + 1, m6, by omega, by go_num, HK6⟩
      case measure => simp [intOf]; omega
    · rw [if_neg h0] at HSC
      have hkp : 0 < k := by omega
      go_wp2_with fail
      refine (sop_any 16 wr HK.out.1 (by have := HRT.out.1; omega)).mono ?_
      rintro e w6 ⟨m6, rfl, h6, k6⟩
      have HK6 := LH (HK.out.step hB h6 k6)
      clear h6 k6 HK OK q0 qf0 q1 qf1 q2 qf2 q3 qf3 q4 qf4 qz t0 t1 t2 t3 t4
      have OK := HK6.out.2.2.2.1
      have q0 := OK.k0
      have qf0 := OK.f0
      have q1 := OK.k1
      have qf1 := OK.f1
      have q2 := OK.k2
      have qf2 := OK.f2
      have q3 := OK.k3
      have qf3 := OK.f3
      have q4 := OK.k4
      have qf4 := OK.f4
      have qz := OK.lt
      have t0 : w6.cell? ⟨ba, oa + k * 5, none⟩ = some (.int .i64 c.kids[k].kind) := HK6.out.2.2.1.cell (HCL.out 0 _ (by omega) rfl)
      have t1 : w6.cell? ⟨ba, oa + k * 5 + 1, none⟩ = some (.string c.kids[k].text) := HK6.out.2.2.1.cell (HCL.out 1 _ (by omega) rfl)
      have t2 : w6.cell? ⟨ba, oa + k * 5 + 2, none⟩ = some (.int .i64 c.kids[k].number) := HK6.out.2.2.1.cell (HCL.out 2 _ (by omega) rfl)
      have t3 : w6.cell? ⟨ba, oa + k * 5 + 3, none⟩ = some (.int .i64 c.kids[k].depth) := HK6.out.2.2.1.cell (HCL.out 3 _ (by omega) rfl)
      have t4 : w6.cell? ⟨ba, oa + k * 5 + 4, none⟩ = some (.slice aa1 c.kids[k].kids.length cc1) := HK6.out.2.2.1.cell (HCL.out 4 _ (by omega) rfl)
      go_wp2_with fail
      refine (HNK.out _ w0 w6 B0 sb hd m6 _ ra HK6.out.2.2.1 hB HK6.out.1 ⟨by have := HRT.out.1; simp only [pt, List.length_append, List.length_singleton]; omega, HRT.out.2⟩).mono ?_
      rintro e w7 ⟨m7, rfl, h7, k7⟩
      rw [<- HSC.out] at h7
      have HK7 := LH (HK6.out.step hB h7 k7)
      clear h7 k7 HK6 OK q0 qf0 q1 qf1 q2 qf2 q3 qf3 q4 qf4 qz t0 t1 t2 t3 t4
      go_wp2_with fail
      go_roundw
      case rel => exact ⟨k + 1, m7, by omega, by go_num, HK7⟩
      case measure => simp [intOf]; omega
  · obtain rfl : k = c.kids.length := by omega
    have HK2 : Hid (Ks w0 B0 sb hd w.heap.size #[.int .i64 17, .string c.text, .int .i64 c.number, .int .i64 c.depth, .slice aa0 c.kids.length cc0] m w m' wr (seqF f c.kids s)) := LH (by have := HK.out; rw [List.take_length] at this; exact this)
    clear HK
    go_wp2_with fail
    go_end0
    exact ⟨_, rfl, HK2.out.1, HK2.out.2.1⟩
theorem StS.mod {B0 sb : Nat} {hd : Bool × Int × Int} {m : Rw} {w : World} {s : CS} (h : StS B0 sb hd m w s) {i : Nat} (hi : i < s.2.length) : ∃ g cap, m.vl = .slice (some ⟨g, 0, none⟩) s.2.length cap /\ s.2.length <= cap /\ g < w.heap.size /\ (∀ f, f < 4 -> (w.cell? ⟨g, i * 4 + f, none⟩).isSome = true /\ w.frozen? ⟨g, i * 4 + f, none⟩ = false) /\
 ∀ W, Ext w W -> ∀ u, (StS B0 sb hd m (W.setCell ⟨g, i * 4 + 1, none⟩ (.int .i64 u)) (mdA s i u) /\ Mv [sb] m w m (W.setCell ⟨g, i * 4 + 1, none⟩ (.int .i64 u))) /\ (StS B0 sb hd m (W.setCell ⟨g, i * 4 + 2, none⟩ (.int .i64 u)) (mdB s i u) /\ Mv [sb] m w m (W.setCell ⟨g, i * 4 + 2, none⟩ (.int .i64 u))) /\ (StS B0 sb hd m (W.setCell ⟨g, i * 4, none⟩ (.int .i64 u)) (mdO s i u) /\ Mv [sb] m w m (W.setCell ⟨g, i * 4, none⟩ (.int .i64 u))) := by
 obtain ⟨g, cap, hv, hc, hB, hg, hcs, -, -, -⟩ := AccI.at h.2.li hi
 refine ⟨g, cap, hv, hc, hg, hcs, fun W hW u => ?_⟩
 obtain ⟨g2, cap2, hv2, -, -, -, -, hA, hBB, hO⟩ := AccI.at (h.ext hW).2.li hi
 rw [hv] at hv2
 injection hv2 with e1 e2 e3
 injection e1 with e1
 injection e1 with e1
 subst e1
 have key : ∀ (o : Nat) (l : List MInstr), AccI B0 (W.setCell ⟨g, o, none⟩ (.int .i64 u)) m.vl l -> StS B0 sb hd m (W.setCell ⟨g, o, none⟩ (.int .i64 u)) (s.1, l) /\ Mv [sb] m w m (W.setCell ⟨g, o, none⟩ (.int .i64 u)) := fun o l ha => by
  obtain ⟨r, mv, t, hn⟩ := (h.ext hW).2.mod hv (.int .i64 u) ha
  have n1 : sb ∉ [g] := fun hm => hn (by rw [<- List.mem_singleton.1 hm]; simp)
  exact ⟨⟨(h.ext hW).1.touch' t n1, r⟩, (Mv.ext hW).trans mv⟩
 exact ⟨key _ _ (hA u), key _ _ (hBB u), key _ _ (hO u)⟩
theorem snodeK21 {f : CF} (hf : Few f) {c : MCore} (hk : c.kind = 21) (hs : shp c) (HL : Hid (∀ z, z ∈ c.kids -> NodeS f z)) : NodeS (stepG f) c := by
 intro cs w0 w B0 sb hd m s rc hx hB h hr
 obtain ⟨aa0, cc0, rfl, rk⟩ := MCore.op_en rc
 have hE : stepG f c s = mdB (mdB (pt (pt (f (kidC c 2) (pt (pt (allF f (c.kids.take 2) s) (iO 24)) (iN 25 c.number 0 ⟨#[]⟩))) (iO 16)) (iN 26 c.number (pt (pt (allF f (c.kids.take 2) s) (iO 24)) (iN 25 c.number 0 ⟨#[]⟩)).2.length ⟨#[]⟩)) (allF f (c.kids.take 2) s).2.length (pt (pt (f (kidC c 2) (pt (pt (allF f (c.kids.take 2) s) (iO 24)) (iN 25 c.number 0 ⟨#[]⟩))) (iO 16)) (iN 26 c.number (pt (pt (allF f (c.kids.take 2) s) (iO 24)) (iN 25 c.number 0 ⟨#[]⟩)).2.length ⟨#[]⟩)).2.length) ((allF f (c.kids.take 2) s).2.length + 1) (pt (pt (f (kidC c 2) (pt (pt (allF f (c.kids.take 2) s) (iO 24)) (iN 25 c.number 0 ⟨#[]⟩))) (iO 16)) (iN 26 c.number (pt (pt (allF f (c.kids.take 2) s) (iO 24)) (iN 25 c.number 0 ⟨#[]⟩)).2.length ⟨#[]⟩)).2.length := by simp [stepG, hk, countF]
 rw [hE, hk]
 have HN : Hid (MCore.nodesL c.kids + 1 = c.nodes) := LH (by have := MCore.nodes_eq c; omega)
 have HRM := LH hr
 have HF := LH hf
 have HRK := LH rk
 obtain ⟨ao, ca, ba, oa, e1, hla, hma, pa, hra⟩ := Rep.slmap rk
 simp only [List.cons.injEq, and_true, Value.slice.injEq, List.length_map] at e1
 obtain ⟨rfl, -, rfl⟩ := e1
 unfold maxLen at hma
 have hk0 : 2 < c.kids.length := by have := hs; have hk := hk; unfold shp at this; omega
 obtain rfl := pa (by omega)
 obtain ⟨ea0, la0, cl0, ra0⟩ := hra 0 (kidC c 0) (by rw [kidC_got (by omega)]; simp)
 obtain ⟨aa1, cc1, rfl, rk1⟩ := MCore.op_en ra0
 have HN0 := LH (HL.out (kidC c 0) (by rw [kidC_got (by omega)]; exact List.getElem_mem (by omega)))
 obtain ⟨ea1, la1, cl1, ra1⟩ := hra 1 (kidC c 1) (by rw [kidC_got (by omega)]; simp)
 obtain ⟨aa2, cc2, rfl, rk2⟩ := MCore.op_en ra1
 have HN1 := LH (HL.out (kidC c 1) (by rw [kidC_got (by omega)]; exact List.getElem_mem (by omega)))
 obtain ⟨ea2, la2, cl2, ra2⟩ := hra 2 (kidC c 2) (by rw [kidC_got (by omega)]; simp)
 obtain ⟨aa3, cc3, rfl, rk3⟩ := MCore.op_en ra2
 have HN2 := LH (HL.out (kidC c 2) (by rw [kidC_got (by omega)]; exact List.getElem_mem (by omega)))
 have hks := kid_front (hs.2.2.2.2 hk)
 have HL2 : Hid (∀ z, z ∈ c.kids.take 2 -> NodeS f z) := LH fun z hz => HL.out z (List.mem_of_mem_take hz)
 have hl2 : (c.kids.take 2).length = 2 := by rw [List.length_take]; omega
 have HRK2 : Hid (Rep w0 (MCores (c.kids.take 2)) [.slice (some ⟨ba, oa, none⟩) 2 cc0]) := LH (by
  have := Rep.sl_take (k := 2) HRK.out (by omega)
  unfold MCores
  rw [List.map_take]
  exact this)
 have a1 := allF_adds hf (c.kids.take 2) s
 obtain ⟨s1, h1⟩ : ∃ t, allF f (c.kids.take 2) s = t := ⟨_, rfl⟩
 obtain ⟨s2, h2⟩ : ∃ t, pt s1 (iO 24) = t := ⟨_, rfl⟩
 have e2 : s2.2.length = s1.2.length + 1 /\ s2.1 = s1.1 := by rw [<- h2]; exact pt_len _ _
 obtain ⟨s3, h3⟩ : ∃ t, pt s2 (iN 25 c.number 0 ⟨#[]⟩) = t := ⟨_, rfl⟩
 have e3 : s3.2.length = s2.2.length + 1 /\ s3.1 = s2.1 := by rw [<- h3]; exact pt_len _ _
 have a4 := hf (kidC c 2) s3
 obtain ⟨s4, h4⟩ : ∃ t, f (kidC c 2) s3 = t := ⟨_, rfl⟩
 obtain ⟨s5, h5⟩ : ∃ t, pt s4 (iO 16) = t := ⟨_, rfl⟩
 have e5 : s5.2.length = s4.2.length + 1 /\ s5.1 = s4.1 := by rw [<- h5]; exact pt_len _ _
 obtain ⟨s6, h6⟩ : ∃ t, pt s5 (iN 26 c.number s3.2.length ⟨#[]⟩) = t := ⟨_, rfl⟩
 have e6 : s6.2.length = s5.2.length + 1 /\ s6.1 = s5.1 := by rw [<- h6]; exact pt_len _ _
 have e7 := mdB_len s6 s1.2.length s6.2.length
 obtain ⟨s7, h7⟩ : ∃ t, mdB s6 s1.2.length s6.2.length = t := ⟨_, rfl⟩
 rw [h1, h2, h3, h4, h5, h6, h7, <- e2.1]
 rw [h1] at a1
 rw [h4] at a4
 rw [h7] at e7
 have HH1 := LH h1
 have HH2 := LH h2
 have HH3 := LH h3
 have HH4 := LH h4
 have HH5 := LH h5
 have HH6 := LH h6
 have HH7 := LH h7
 have HA : Hid (s2.2.length = s1.2.length + 1 /\ s3.2.length = s1.2.length + 2 /\ s3.2.length <= s4.2.length /\ s5.2.length = s4.2.length + 1 /\ s6.2.length = s5.2.length + 1 /\ s7.2.length = s6.2.length /\ s6.2.length <= 1000000 /\ Room s (MCore.nodesL (c.kids.take 2)) /\ Room s3 (kidC c 2).nodes) := LH (by
  obtain ⟨r1, r2⟩ := hr
  have hnn := HN.out
  obtain ⟨b1, b2, b3, b4⟩ := a1
  obtain ⟨c1, c2, c3, c4⟩ := a4
  obtain ⟨f1, f2⟩ := e2
  obtain ⟨f3, f4⟩ := e3
  obtain ⟨f5, f6⟩ := e5
  obtain ⟨f7, f8⟩ := e6
  obtain ⟨f9, f10⟩ := e7
  rw [f4, f2] at c3 c4
  refine ⟨by omega, by omega, by omega, by omega, by omega, by omega, by omega, ⟨by omega, by omega⟩, ⟨by omega, by rw [f4, f2]; omega⟩⟩)
 clear a1 a4 e2 e3 e5 e6 e7 h1 h2 h3 h4 h5 h6 h7 hks hl2
 clear pa hra rk1 la0 rk2 la1 rk3 la2
 clear hr hf hE rc rk hs
 go_enter Tryz.func78, Tryz.ntmps78
 go_upto_region 1 with fail
 generalize hS : World.alloc w _ = W1
 have x1 : Ext w W1 := by rw [<- hS]; exact (XR _).alloc _
 have OK : Own W1 w.heap.size 42 #[.int .i64 21, .string c.text, .int .i64 c.number, .int .i64 c.depth, .slice (some ⟨ba, oa, none⟩) c.kids.length cc0] := by rw [<- hS]; exact own_new w _ _
 have HK1 : Hid (Ks w0 B0 sb hd w.heap.size #[.int .i64 21, .string c.text, .int .i64 c.number, .int .i64 c.depth, .slice (some ⟨ba, oa, none⟩) c.kids.length cc0] m w m W1 s) := LH (Ks.new hx h x1 OK)
 clear hS h hx x1
 have q0 := OK.k0
 have qf0 := OK.f0
 have q1 := OK.k1
 have qf1 := OK.f1
 have q2 := OK.k2
 have qf2 := OK.f2
 have q3 := OK.k3
 have qf3 := OK.f3
 have q4 := OK.k4
 have qf4 := OK.f4
 have qz := OK.lt
 go_wp2_with fail
 refine (sall_at HF.out (c.kids.take 2) HL2 _ w0 W1 HRK2.out HK1.out.2.2.1 hB HK1.out.1 HA.out.2.2.2.2.2.2.2.1).mono ?_
 rintro e w2 ⟨m2, rfl, h, k⟩
 rw [HH1.out] at h
 have HK2 := LH (HK1.out.step hB h k)
 clear h k OK HK1 q0 qf0 q1 qf1 q2 qf2 q3 qf3 q4 qf4 qz 
 have OK := HK2.out.2.2.2.1
 have q0 := OK.k0
 have qf0 := OK.f0
 have q1 := OK.k1
 have qf1 := OK.f1
 have q2 := OK.k2
 have qf2 := OK.f2
 have q3 := OK.k3
 have qf3 := OK.f3
 have q4 := OK.k4
 have qf4 := OK.f4
 have qz := OK.lt
 go_wp2_with fail
 refine (sput_any (iO 24) w2 HK2.out.1 (by have := HA.out; omega)).mono ?_
 rintro e w3 ⟨m3, rfl, h, k⟩
 rw [HH2.out] at h
 have HK3 := LH (HK2.out.step hB h k)
 clear h k OK HK2 q0 qf0 q1 qf1 q2 qf2 q3 qf3 q4 qf4 qz 
 have OK := HK3.out.2.2.2.1
 have q0 := OK.k0
 have qf0 := OK.f0
 have q1 := OK.k1
 have qf1 := OK.f1
 have q2 := OK.k2
 have qf2 := OK.f2
 have q3 := OK.k3
 have qf3 := OK.f3
 have q4 := OK.k4
 have qf4 := OK.f4
 have qz := OK.lt
 go_wp2_with fail
 refine (sput_any (iN 25 c.number 0 ⟨#[]⟩) w3 HK3.out.1 (by have := HA.out; omega)).mono ?_
 rintro e w4 ⟨m4, rfl, h, k⟩
 rw [HH3.out] at h
 have HK4 := LH (HK3.out.step hB h k)
 clear h k OK HK3 q0 qf0 q1 qf1 q2 qf2 q3 qf3 q4 qf4 qz 
 have OK := HK4.out.2.2.2.1
 have q0 := OK.k0
 have qf0 := OK.f0
 have q1 := OK.k1
 have qf1 := OK.f1
 have q2 := OK.k2
 have qf2 := OK.f2
 have q3 := OK.k3
 have qf3 := OK.f3
 have q4 := OK.k4
 have qf4 := OK.f4
 have qz := OK.lt
 have t0 : w4.cell? ⟨ba, oa + 10, none⟩ = some (.int .i64 (kidC c 2).kind) := HK4.out.2.2.1.cell (by have := cl2 0 (by omega); simpa using this)
 have t1 : w4.cell? ⟨ba, oa + 11, none⟩ = some (.string (kidC c 2).text) := HK4.out.2.2.1.cell (by have := cl2 1 (by omega); simpa using this)
 have t2 : w4.cell? ⟨ba, oa + 12, none⟩ = some (.int .i64 (kidC c 2).number) := HK4.out.2.2.1.cell (by have := cl2 2 (by omega); simpa using this)
 have t3 : w4.cell? ⟨ba, oa + 13, none⟩ = some (.int .i64 (kidC c 2).depth) := HK4.out.2.2.1.cell (by have := cl2 3 (by omega); simpa using this)
 have t4 : w4.cell? ⟨ba, oa + 14, none⟩ = some (.slice aa3 (kidC c 2).kids.length cc3) := HK4.out.2.2.1.cell (by have := cl2 4 (by omega); simpa using this)
 go_wp2_with fail
 refine (shere_any w4 HK4.out.1).mono ?_
 rintro e wh ⟨rfl, hwh⟩
 obtain rfl : w4 = wh := hwh.symm
 go_wp2_with fail
 refine (HN2.out _ w0 w4 B0 sb hd _ _ ra2 HK4.out.2.2.1 hB HK4.out.1 (HA.out.2.2.2.2.2.2.2.2)).mono ?_
 rintro e w5 ⟨m5, rfl, h, k⟩
 rw [HH4.out] at h
 have HK5 := LH (HK4.out.step hB h k)
 clear h k OK HK4 q0 qf0 q1 qf1 q2 qf2 q3 qf3 q4 qf4 qz t0 t1 t2 t3 t4
 have OK := HK5.out.2.2.2.1
 have q0 := OK.k0
 have qf0 := OK.f0
 have q1 := OK.k1
 have qf1 := OK.f1
 have q2 := OK.k2
 have qf2 := OK.f2
 have q3 := OK.k3
 have qf3 := OK.f3
 have q4 := OK.k4
 have qf4 := OK.f4
 have qz := OK.lt
 go_wp2_with fail
 refine (sop_any 16 w5 HK5.out.1 (by have := HA.out; omega)).mono ?_
 rintro e w6 ⟨m6, rfl, h, k⟩
 rw [HH5.out] at h
 have HK6 := LH (HK5.out.step hB h k)
 clear h k OK HK5 q0 qf0 q1 qf1 q2 qf2 q3 qf3 q4 qf4 qz 
 have OK := HK6.out.2.2.2.1
 have q0 := OK.k0
 have qf0 := OK.f0
 have q1 := OK.k1
 have qf1 := OK.f1
 have q2 := OK.k2
 have qf2 := OK.f2
 have q3 := OK.k3
 have qf3 := OK.f3
 have q4 := OK.k4
 have qf4 := OK.f4
 have qz := OK.lt
 go_wp2_with fail
 refine (sput_any (iN 26 c.number s3.2.length ⟨#[]⟩) w6 HK6.out.1 (by have := HA.out; omega)).mono ?_
 rintro e w7 ⟨m7, rfl, h, k⟩
 rw [HH6.out] at h
 have HK7 := LH (HK6.out.step hB h k)
 clear h k OK HK6 q0 qf0 q1 qf1 q2 qf2 q3 qf3 q4 qf4 qz 
 have OK := HK7.out.2.2.2.1
 have q0 := OK.k0
 have qf0 := OK.f0
 have q1 := OK.k1
 have qf1 := OK.f1
 have q2 := OK.k2
 have qf2 := OK.f2
 have q3 := OK.k3
 have qf3 := OK.f3
 have q4 := OK.k4
 have qf4 := OK.f4
 have qz := OK.lt
 obtain ⟨g, cap, hvl, hcap, hg, hcs, hM⟩ := StS.mod HK7.out.1 (i := s1.2.length) (by have := HA.out; omega)
 obtain ⟨hc0, hf0⟩ := hcs 2 (by omega)
 obtain ⟨u0, hc0⟩ := Option.isSome_iff_exists.1 hc0
 have HM := LH hM
 have y1 : w7.cell? ⟨sb, 4, none⟩ = some (.slice (some ⟨g, 0, none⟩) s6.2.length cap) := by rw [<- hvl]; exact HK7.out.1.1.cell 4
 have yz := HK7.out.1.1.lt
 have hlt : s1.2.length < s6.2.length := by have := HA.out; omega
 have hbd : s6.2.length <= 1000000 := by have := HA.out; omega
 clear hcs hM hvl
 go_upto_region 61 with fail
 go_region_law ((go_simp; go_wp2_with ((refine (shere_any _ (by first | exact HK7.out.1 | exact HK7.out.1.ext (Ext.drew (XR _)))).mono ?_; rintro e w' ⟨rfl, rfl⟩))))
 all_goals
  obtain ⟨h, k⟩ := (HM.out _ (XR _) (s6.2.length : Int)).2.1
  have h := h.ext (Ext.drew (XR _))
  have k := k.trans (Mv.ext (Ext.drew (XR _)))
  rw [HH7.out] at h
  have HKN := LH (HK7.out.step hB h k)
  generalize hS : World.drew (World.setCell w7 _ _) = w8 at HKN ⊢
  have HK8 := HKN
  clear HKN h k OK HK7 HM hc0 hf0 y1 yz hg hcap hlt hbd hS q0 qf0 q1 qf1 q2 qf2 q3 qf3 q4 qf4 qz
  have OK := HK8.out.2.2.2.1
  have q0 := OK.k0
  have qf0 := OK.f0
  have q1 := OK.k1
  have qf1 := OK.f1
  have q2 := OK.k2
  have qf2 := OK.f2
  have q3 := OK.k3
  have qf3 := OK.f3
  have q4 := OK.k4
  have qf4 := OK.f4
  have qz := OK.lt
  obtain ⟨g, cap, hvl, hcap, hg, hcs, hM⟩ := StS.mod HK8.out.1 (i := s2.2.length) (by have := HA.out; omega)
  rw [show s7.2.length = s6.2.length from HA.out.2.2.2.2.2.1] at hvl hcap
  obtain ⟨hc0, hf0⟩ := hcs 2 (by omega)
  obtain ⟨u0, hc0⟩ := Option.isSome_iff_exists.1 hc0
  have HM := LH hM
  have y1 : w8.cell? ⟨sb, 4, none⟩ = some (.slice (some ⟨g, 0, none⟩) s6.2.length cap) := by rw [<- hvl]; exact HK8.out.1.1.cell 4
  have yz := HK8.out.1.1.lt
  have hlt : s2.2.length < s6.2.length := by have := HA.out; omega
  have hbd : s6.2.length <= 1000000 := by have := HA.out; omega
  clear hcs hM hvl
  go_upto_region 62 with fail
  go_region_law ((go_simp; go_wp2_with ((refine (shere_any _ (by first | exact HK8.out.1 | exact HK8.out.1.ext (Ext.drew (XR _)))).mono ?_; rintro e w' ⟨rfl, rfl⟩))))
  all_goals
   obtain ⟨h, k⟩ := (HM.out _ (XR _) (s6.2.length : Int)).2.1
   have h := h.ext (Ext.drew (XR _))
   have k := k.trans (Mv.ext (Ext.drew (XR _)))
   have HKN := LH (HK8.out.step hB h k)
   clear h k OK HK8 HM hc0 hf0 y1 yz hg hcap hlt hbd q0 qf0 q1 qf1 q2 qf2 q3 qf3 q4 qf4 qz
   go_wp2_with fail
   go_end0
   rw [HA.out.2.2.2.2.2.1]
   exact ⟨_, rfl, HKN.out.1, HKN.out.2.1⟩
end Go.Proofs.YtlaclfeljimffaaGreatDoor
