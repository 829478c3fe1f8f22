/-
  CONTRACTS: the marks of the laws, of structs.
  Conditions: those that each lemma states.
-/
import Derived.Test.YtonmcoojgkgemaaGreatDoorMarks
namespace Go.Proofs.YtonmcoojgkgemaaGreatDoor
open Go.RowKit
set_option linter.unusedSimpArgs false
set_option linter.unusedVariables false


theorem MExpr.sh_f {w : World} {x : MExpr} {v0 : Value} {f0 : List Nat} (h0 : RepF w (strs x.names) [v0] f0) {v1 : Value} {f1 : List Nat} (h1 : RepF w (MExprs x.kids) [v1] f1) : RepF w x.d [.int .i64 x.kind, .string x.text, .int .i64 x.number, v0, v1] (f0 ++ f1) := by
  simp only [MExpr.d_eq]
  have := (RepF.st (RepS.int (x.kind) (RepS.str (x.text) (RepS.int (x.number) (RepS.one h0 (RepS.one h1 (RepS.nil w)))))))
  simpa using this


theorem MExpr.tcnt_eq (x : MExpr) : x.d.tcnt = (strs x.names).cnt + (MExprs x.kids).cnt := by
  simp only [MExpr.d_eq, D.tcnt, D.tcntL, strs, D.cnt, MExprs, D.cnt]; omega
theorem MExpr.mt_eq (x : MExpr) (K : Int) : mtD K x.d = .st [.int x.kind, .str x.text, .int x.number, mkD (K) (strs x.names), mkD (K + ((strs x.names).cnt : Int)) (MExprs x.kids)] := by
  simp only [MExpr.d_eq, mtD, mtL, mkD, D.tcnt, strs, MExprs]
  simp [mkD, D.cnt, Int.add_assoc]


theorem MExpr.tcnt_le (x : MExpr) : x.d.tcnt ≤ 10 * x.d.bulk := by
  rw [MExpr.tcnt_eq]
  have hb : x.d.bulk = (strs x.names).bulk + (MExprs x.kids).bulk + x.text.size := by simp only [MExpr.d_eq, D.bulk, D.bulkL]; try omega
  have h0 := cnt_strs x.names
  have h1 : (MExprs x.kids).cnt ≤ 10 * (MExprs x.kids).bulk := cnt_sl _ fun d hd => by
    obtain ⟨y, hy, rfl⟩ := List.mem_map.1 hd
    exact MExpr.cnt_le y
  omega


set_option maxRecDepth 100000 in
set_option maxHeartbeats 4000000 in
theorem markExpr_any (x : MExpr) (cx : List Value) (fp : List Nat) (B0 : Nat) (K : Int) (w : World) (hr : RepF w x.d cx fp) (hF : Fresh w B0 fp) (h0 : 0 ≤ K) (h1 : K + x.d.tcnt ≤ 1099511627776) :
    Calls Tryz.prog 9 #[.agg cx.toArray, .int .i64 K] w (MarkP w (mtD K x.d) cx fp B0 (K + x.d.tcnt)) := by
  have hc := MExpr.tcnt_eq x
  rw [MExpr.mt_eq]
  obtain ⟨a0, c0, f0, a1, c1, f1, rfl, rfl, s0, s1⟩ := MExpr.op_f hr
  clear hr
  rw [hc] at h1 ⊢
  clear hc
  have r0 := s0
  have r1 := s1
  clear s0 s1
  have F0 : Fresh w B0 (f0) := hF.left
  have A1_0 : ∀ b, b ∈ f1 → b ∉ f0 := fun b h1 h2 => hF.apart b h2 h1
  have A0_1 : ∀ b, b ∈ f0 → b ∉ f1 := fun b h1 h2 => hF.apart b h1 h2
  have F1 : Fresh w B0 (f1) := hF.right
  have L0 : ∀ b, b ∈ f0 → b < w.heap.size := fun b hb => F0.lt hb
  have L1 : ∀ b, b ∈ f1 → b < w.heap.size := fun b hb => F1.lt hb
  have HFF := Lib.hid hF
  go_enter Tryz.func9, Tryz.ntmps9
  go_upto_region 1 with fail
  generalize hS : World.alloc w _ = W0
  have x0 : Ext w W0 := by rw [← hS]; exact (Ext.refl _).alloc _
  have m0 : W0.cell? ⟨w.heap.size, 0, none⟩ = some (.int .i64 x.kind) := by rw [← hS]; simp
  have m1 : W0.cell? ⟨w.heap.size, 1, none⟩ = some (.string x.text) := by rw [← hS]; simp
  have m2 : W0.cell? ⟨w.heap.size, 2, none⟩ = some (.int .i64 x.number) := by rw [← hS]; simp
  have m3 : W0.cell? ⟨w.heap.size, 3, none⟩ = some (.slice a0 x.names.length c0) := by rw [← hS]; simp
  have m4 : W0.cell? ⟨w.heap.size, 4, none⟩ = some (.slice a1 x.kids.length c1) := by rw [← hS]; simp
  clear hS hF
  replace r0 := RepF.ext x0 r0
  replace F0 := Fresh.ext F0 x0
  replace r1 := RepF.ext x0 r1
  replace F1 := Fresh.ext F1 x0
  have U : Touch w W0 (f0 ++ f1) := Touch.of_ext x0 _
  have R0 := Lib.hid r0; clear r0
  go_wp2_with fail
  refine (markStrings_p x.names _ (f0) B0 _ _ R0.out F0 (by omega) (by omega)).mono ?_
  rintro e w0 ⟨rfl, r0, G0, hT⟩
  clear F0
  have F0 := G0; clear G0
  replace m0 := Touch.cellAt hT (fun h => absurd (L0 _ h) (Nat.lt_irrefl _)) m0
  replace m1 := Touch.cellAt hT (fun h => absurd (L0 _ h) (Nat.lt_irrefl _)) m1
  replace m2 := Touch.cellAt hT (fun h => absurd (L0 _ h) (Nat.lt_irrefl _)) m2
  replace m3 := Touch.cellAt hT (fun h => absurd (L0 _ h) (Nat.lt_irrefl _)) m3
  replace m4 := Touch.cellAt hT (fun h => absurd (L0 _ h) (Nat.lt_irrefl _)) m4
  replace r1 := RepF.touch r1 hT A1_0
  replace F1 := Fresh.touch F1 hT A1_0
  replace U := Touch.trans U (Touch.mono hT (fun y hy => (List.mem_append_left _ hy)))
  clear hT
  have R1 := Lib.hid r1; clear r1
  go_wp2_with fail
  refine (markExprS_any x.kids _ (f1) B0 _ _ R1.out F1 (by omega) (by omega)).mono ?_
  rintro e w1 ⟨rfl, r1, G1, hT⟩
  clear F1
  have F1 := G1; clear G1
  replace m0 := Touch.cellAt hT (fun h => absurd (L1 _ h) (Nat.lt_irrefl _)) m0
  replace m1 := Touch.cellAt hT (fun h => absurd (L1 _ h) (Nat.lt_irrefl _)) m1
  replace m2 := Touch.cellAt hT (fun h => absurd (L1 _ h) (Nat.lt_irrefl _)) m2
  replace m3 := Touch.cellAt hT (fun h => absurd (L1 _ h) (Nat.lt_irrefl _)) m3
  replace m4 := Touch.cellAt hT (fun h => absurd (L1 _ h) (Nat.lt_irrefl _)) m4
  replace r0 := RepF.touch r0 hT A0_1
  replace F0 := Fresh.touch F0 hT A0_1
  replace U := Touch.trans U (Touch.mono hT (fun y hy => (List.mem_append_right _ hy)))
  clear hT
  have HE := RepF.st (RepS.int (x.kind) (RepS.str (x.text) (RepS.int (x.number) (RepS.one r0 (RepS.one r1 (RepS.nil _))))))
  simp only [List.append_nil, List.cons_append, List.nil_append] at HE
  have HQ := Lib.hid HE
  clear HE
  have HFR : Fresh w1 B0 (f0 ++ f1) := ⟨HFF.out.nodup, HFF.out.ge, fun b hb => by
    simp only [List.mem_append] at hb
    rcases hb with hb | hb
    · exact F0.own b hb
    · exact F1.own b hb⟩
  go_wp2_with fail
  go_ret
  exact ⟨ret_int (by first | rfl | (push_cast; omega)), HQ.out, HFR, U⟩

theorem MMethod.sh_f {w : World} {x : MMethod} {v0 : Value} {f0 : List Nat} (h0 : RepF w (strs x.params) [v0] f0) {v1 : Value} {f1 : List Nat} (h1 : RepF w (strs x.temps) [v1] f1) {v2 : Value} {f2 : List Nat} (h2 : RepF w (MExprs x.body) [v2] f2) : RepF w x.d [.string x.selector, .bool x.cls, v0, v1, v2] (f0 ++ (f1 ++ f2)) := by
  simp only [MMethod.d_eq]
  have := (RepF.st (RepS.str (x.selector) (RepS.bool (x.cls) (RepS.one h0 (RepS.one h1 (RepS.one h2 (RepS.nil w)))))))
  simpa using this


theorem MMethod.tcnt_eq (x : MMethod) : x.d.tcnt = (strs x.params).cnt + (strs x.temps).cnt + (MExprs x.body).cnt := by
  simp only [MMethod.d_eq, D.tcnt, D.tcntL, strs, D.cnt, strs, D.cnt, MExprs, D.cnt]; omega
theorem MMethod.mt_eq (x : MMethod) (K : Int) : mtD K x.d = .st [.str x.selector, .bool x.cls, mkD (K) (strs x.params), mkD (K + ((strs x.params).cnt : Int)) (strs x.temps), mkD (K + ((strs x.params).cnt : Int) + ((strs x.temps).cnt : Int)) (MExprs x.body)] := by
  simp only [MMethod.d_eq, mtD, mtL, mkD, D.tcnt, strs, strs, MExprs]
  simp [mkD, D.cnt, Int.add_assoc]


theorem MMethod.tcnt_le (x : MMethod) : x.d.tcnt ≤ 10 * x.d.bulk := by
  rw [MMethod.tcnt_eq]
  have hb : x.d.bulk = (strs x.params).bulk + (strs x.temps).bulk + (MExprs x.body).bulk + x.selector.size := by simp only [MMethod.d_eq, D.bulk, D.bulkL]; try omega
  have h0 := cnt_strs x.params
  have h1 := cnt_strs x.temps
  have h2 : (MExprs x.body).cnt ≤ 10 * (MExprs x.body).bulk := cnt_sl _ fun d hd => by
    obtain ⟨y, hy, rfl⟩ := List.mem_map.1 hd
    exact MExpr.cnt_le y
  omega


set_option maxRecDepth 100000 in
set_option maxHeartbeats 4000000 in
theorem markMethod_any (x : MMethod) (cx : List Value) (fp : List Nat) (B0 : Nat) (K : Int) (w : World) (hr : RepF w x.d cx fp) (hF : Fresh w B0 fp) (h0 : 0 ≤ K) (h1 : K + x.d.tcnt ≤ 1099511627776) :
    Calls Tryz.prog 14 #[.agg cx.toArray, .int .i64 K] w (MarkP w (mtD K x.d) cx fp B0 (K + x.d.tcnt)) := by
  have hc := MMethod.tcnt_eq x
  rw [MMethod.mt_eq]
  obtain ⟨a0, c0, f0, a1, c1, f1, a2, c2, f2, rfl, rfl, s0, s1, s2⟩ := MMethod.op_f hr
  clear hr
  rw [hc] at h1 ⊢
  clear hc
  have r0 := s0
  have r1 := s1
  have r2 := s2
  clear s0 s1 s2
  have F0 : Fresh w B0 (f0) := hF.left
  have A1_0 : ∀ b, b ∈ f1 → b ∉ f0 := fun b h1 h2 => hF.apart b h2 (List.mem_append_left _ h1)
  have A0_1 : ∀ b, b ∈ f0 → b ∉ f1 := fun b h1 h2 => hF.apart b h1 (List.mem_append_left _ h2)
  have A2_0 : ∀ b, b ∈ f2 → b ∉ f0 := fun b h1 h2 => hF.apart b h2 (List.mem_append_right _ h1)
  have A0_2 : ∀ b, b ∈ f0 → b ∉ f2 := fun b h1 h2 => hF.apart b h1 (List.mem_append_right _ h2)
  have F1 : Fresh w B0 (f1) := hF.right.left
  have A2_1 : ∀ b, b ∈ f2 → b ∉ f1 := fun b h1 h2 => hF.right.apart b h2 h1
  have A1_2 : ∀ b, b ∈ f1 → b ∉ f2 := fun b h1 h2 => hF.right.apart b h1 h2
  have F2 : Fresh w B0 (f2) := hF.right.right
  have L0 : ∀ b, b ∈ f0 → b < w.heap.size := fun b hb => F0.lt hb
  have L1 : ∀ b, b ∈ f1 → b < w.heap.size := fun b hb => F1.lt hb
  have L2 : ∀ b, b ∈ f2 → b < w.heap.size := fun b hb => F2.lt hb
  have HFF := Lib.hid hF
  go_enter Tryz.func14, Tryz.ntmps14
  go_upto_region 1 with fail
  generalize hS : World.alloc w _ = W0
  have x0 : Ext w W0 := by rw [← hS]; exact (Ext.refl _).alloc _
  have m0 : W0.cell? ⟨w.heap.size, 0, none⟩ = some (.string x.selector) := by rw [← hS]; simp
  have m1 : W0.cell? ⟨w.heap.size, 1, none⟩ = some (.bool x.cls) := by rw [← hS]; simp
  have m2 : W0.cell? ⟨w.heap.size, 2, none⟩ = some (.slice a0 x.params.length c0) := by rw [← hS]; simp
  have m3 : W0.cell? ⟨w.heap.size, 3, none⟩ = some (.slice a1 x.temps.length c1) := by rw [← hS]; simp
  have m4 : W0.cell? ⟨w.heap.size, 4, none⟩ = some (.slice a2 x.body.length c2) := by rw [← hS]; simp
  clear hS hF
  replace r0 := RepF.ext x0 r0
  replace F0 := Fresh.ext F0 x0
  replace r1 := RepF.ext x0 r1
  replace F1 := Fresh.ext F1 x0
  replace r2 := RepF.ext x0 r2
  replace F2 := Fresh.ext F2 x0
  have U : Touch w W0 (f0 ++ (f1 ++ f2)) := Touch.of_ext x0 _
  have R0 := Lib.hid r0; clear r0
  go_wp2_with fail
  refine (markStrings_p x.params _ (f0) B0 _ _ R0.out F0 (by omega) (by omega)).mono ?_
  rintro e w0 ⟨rfl, r0, G0, hT⟩
  clear F0
  have F0 := G0; clear G0
  replace m0 := Touch.cellAt hT (fun h => absurd (L0 _ h) (Nat.lt_irrefl _)) m0
  replace m1 := Touch.cellAt hT (fun h => absurd (L0 _ h) (Nat.lt_irrefl _)) m1
  replace m2 := Touch.cellAt hT (fun h => absurd (L0 _ h) (Nat.lt_irrefl _)) m2
  replace m3 := Touch.cellAt hT (fun h => absurd (L0 _ h) (Nat.lt_irrefl _)) m3
  replace m4 := Touch.cellAt hT (fun h => absurd (L0 _ h) (Nat.lt_irrefl _)) m4
  replace r1 := RepF.touch r1 hT A1_0
  replace F1 := Fresh.touch F1 hT A1_0
  replace r2 := RepF.touch r2 hT A2_0
  replace F2 := Fresh.touch F2 hT A2_0
  replace U := Touch.trans U (Touch.mono hT (fun y hy => (List.mem_append_left _ hy)))
  clear hT
  have R1 := Lib.hid r1; clear r1
  go_wp2_with fail
  refine (markStrings_p x.temps _ (f1) B0 _ _ R1.out F1 (by omega) (by omega)).mono ?_
  rintro e w1 ⟨rfl, r1, G1, hT⟩
  clear F1
  have F1 := G1; clear G1
  replace m0 := Touch.cellAt hT (fun h => absurd (L1 _ h) (Nat.lt_irrefl _)) m0
  replace m1 := Touch.cellAt hT (fun h => absurd (L1 _ h) (Nat.lt_irrefl _)) m1
  replace m2 := Touch.cellAt hT (fun h => absurd (L1 _ h) (Nat.lt_irrefl _)) m2
  replace m3 := Touch.cellAt hT (fun h => absurd (L1 _ h) (Nat.lt_irrefl _)) m3
  replace m4 := Touch.cellAt hT (fun h => absurd (L1 _ h) (Nat.lt_irrefl _)) m4
  replace r0 := RepF.touch r0 hT A0_1
  replace F0 := Fresh.touch F0 hT A0_1
  replace r2 := RepF.touch r2 hT A2_1
  replace F2 := Fresh.touch F2 hT A2_1
  replace U := Touch.trans U (Touch.mono hT (fun y hy => (List.mem_append_right _ (List.mem_append_left _ hy))))
  clear hT
  have R2 := Lib.hid r2; clear r2
  go_wp2_with fail
  refine (markExprS_any x.body _ (f2) B0 _ _ R2.out F2 (by omega) (by omega)).mono ?_
  rintro e w2 ⟨rfl, r2, G2, hT⟩
  clear F2
  have F2 := G2; clear G2
  replace m0 := Touch.cellAt hT (fun h => absurd (L2 _ h) (Nat.lt_irrefl _)) m0
  replace m1 := Touch.cellAt hT (fun h => absurd (L2 _ h) (Nat.lt_irrefl _)) m1
  replace m2 := Touch.cellAt hT (fun h => absurd (L2 _ h) (Nat.lt_irrefl _)) m2
  replace m3 := Touch.cellAt hT (fun h => absurd (L2 _ h) (Nat.lt_irrefl _)) m3
  replace m4 := Touch.cellAt hT (fun h => absurd (L2 _ h) (Nat.lt_irrefl _)) m4
  replace r0 := RepF.touch r0 hT A0_2
  replace F0 := Fresh.touch F0 hT A0_2
  replace r1 := RepF.touch r1 hT A1_2
  replace F1 := Fresh.touch F1 hT A1_2
  replace U := Touch.trans U (Touch.mono hT (fun y hy => (List.mem_append_right _ (List.mem_append_right _ hy))))
  clear hT
  have HE := RepF.st (RepS.str (x.selector) (RepS.bool (x.cls) (RepS.one r0 (RepS.one r1 (RepS.one r2 (RepS.nil _))))))
  simp only [List.append_nil, List.cons_append, List.nil_append] at HE
  have HQ := Lib.hid HE
  clear HE
  have HFR : Fresh w2 B0 (f0 ++ (f1 ++ f2)) := ⟨HFF.out.nodup, HFF.out.ge, fun b hb => by
    simp only [List.mem_append] at hb
    rcases hb with hb | hb
    · exact F0.own b hb
    rcases hb with hb | hb
    · exact F1.own b hb
    · exact F2.own b hb⟩
  go_wp2_with fail
  go_ret
  exact ⟨ret_int (by first | rfl | (push_cast; omega)), HQ.out, HFR, U⟩

theorem MUnit.op_f {w : World} {x : MUnit} {cs : List Value} {fp : List Nat} (h : RepF w x.d cs fp) : ∃ (a0 : Option Addr) (c0 : Nat) (f0 : List Nat) (a1 : Option Addr) (c1 : Nat) (f1 : List Nat) (a2 : Option Addr) (c2 : Nat) (f2 : List Nat) (a3 : Option Addr) (c3 : Nat) (f3 : List Nat), cs = [.slice a0 x.classes.length c0, .string x.main.selector, .bool x.main.cls, .slice a1 x.main.params.length c1, .slice a2 x.main.temps.length c2, .slice a3 x.main.body.length c3] ∧ fp = f0 ++ (f1 ++ (f2 ++ f3)) ∧ RepF w (MClassDefs x.classes) [.slice a0 x.classes.length c0] f0 ∧ RepF w (strs x.main.params) [.slice a1 x.main.params.length c1] f1 ∧ RepF w (strs x.main.temps) [.slice a2 x.main.temps.length c2] f2 ∧ RepF w (MExprs x.main.body) [.slice a3 x.main.body.length c3] f3 := by
  rw [MUnit.d_eq] at h
  have h1 := RepF.un_st h
  obtain ⟨a3, c4, _, f5, g6, rfl, rfl, s7, h2⟩ := RepS.un_sl h1
  obtain ⟨_, _, f9, g10, rfl, rfl, s11, h8⟩ := RepS.un_sub h2
  rw [MMethod.d_eq] at s11
  have h12 := RepF.un_st s11
  obtain ⟨_, rfl, h13⟩ := RepS.un_str h12
  obtain ⟨_, rfl, h14⟩ := RepS.un_bool h13
  obtain ⟨a16, c17, _, f18, g19, rfl, rfl, s20, h15⟩ := RepS.un_sl h14
  obtain ⟨a22, c23, _, f24, g25, rfl, rfl, s26, h21⟩ := RepS.un_sl h15
  obtain ⟨a28, c29, _, f30, g31, rfl, rfl, s32, h27⟩ := RepS.un_sl h21
  simp only [RepS] at h27
  obtain ⟨rfl, rfl⟩ := h27
  simp only [RepS] at h8
  obtain ⟨rfl, rfl⟩ := h8
  simp only [strs, ints, MClassDefs, MExprs,  List.length_map] at *
  exact ⟨a3, c4, f5, a16, c17, f18, a22, c23, f24, a28, c29, f30, rfl, by simp, s7, s20, s26, s32⟩

theorem MUnit.sh_f {w : World} {x : MUnit} {v0 : Value} {f0 : List Nat} (h0 : RepF w (MClassDefs x.classes) [v0] f0) {v1 : Value} {f1 : List Nat} (h1 : RepF w (strs x.main.params) [v1] f1) {v2 : Value} {f2 : List Nat} (h2 : RepF w (strs x.main.temps) [v2] f2) {v3 : Value} {f3 : List Nat} (h3 : RepF w (MExprs x.main.body) [v3] f3) : RepF w x.d [v0, .string x.main.selector, .bool x.main.cls, v1, v2, v3] (f0 ++ (f1 ++ (f2 ++ f3))) := by
  simp only [MUnit.d_eq, MMethod.d_eq]
  have := (RepF.st (RepS.one h0 (RepS.sub (RepF.st (RepS.str (x.main.selector) (RepS.bool (x.main.cls) (RepS.one h1 (RepS.one h2 (RepS.one h3 (RepS.nil w))))))) (RepS.nil w))))
  simpa using this


theorem MUnit.tcnt_eq (x : MUnit) : x.d.tcnt = (MClassDefs x.classes).cnt + (x.main.d).tcnt := by
  simp only [MUnit.d_eq, D.tcnt, D.tcntL, MClassDefs, D.cnt]; omega
theorem MUnit.mt_eq (x : MUnit) (K : Int) : mtD K x.d = .st [mkD (K) (MClassDefs x.classes), mtD (K + ((MClassDefs x.classes).cnt : Int)) x.main.d] := by
  simp only [MUnit.d_eq, mtD, mtL, mkD, D.tcnt, MClassDefs]
  simp [mkD, D.cnt, Int.add_assoc]


theorem MUnit.tcnt_le (x : MUnit) : x.d.tcnt ≤ 10 * x.d.bulk := by
  rw [MUnit.tcnt_eq]
  have hb : x.d.bulk = (MClassDefs x.classes).bulk + (x.main.d).bulk := by simp only [MUnit.d_eq, D.bulk, D.bulkL]; try omega
  have h0 : (MClassDefs x.classes).cnt ≤ 10 * (MClassDefs x.classes).bulk := cnt_sl _ fun d hd => by
    obtain ⟨y, hy, rfl⟩ := List.mem_map.1 hd
    exact MClassDef.cnt_le y
  have h1 := MMethod.tcnt_le x.main
  omega


set_option maxRecDepth 100000 in
set_option maxHeartbeats 4000000 in
theorem markUnit_any (x : MUnit) (cx : List Value) (fp : List Nat) (B0 : Nat) (K : Int) (w : World) (hr : RepF w x.d cx fp) (hF : Fresh w B0 fp) (h0 : 0 ≤ K) (h1 : K + x.d.tcnt ≤ 1099511627776) :
    Calls Tryz.prog 19 #[.agg cx.toArray, .int .i64 K] w (MarkP w (mtD K x.d) cx fp B0 (K + x.d.tcnt)) := by
  have hc := MUnit.tcnt_eq x
  rw [MUnit.mt_eq]
  obtain ⟨a0, c0, f0, a1, c1, f1, a2, c2, f2, a3, c3, f3, rfl, rfl, s0, s1, s2, s3⟩ := MUnit.op_f hr
  clear hr
  rw [hc] at h1 ⊢
  clear hc
  have r0 := s0
  have r1 := MMethod.sh_f (x := x.main) s1 s2 s3
  clear s0 s1 s2 s3
  have F0 : Fresh w B0 (f0) := hF.left
  have A1_0 : ∀ b, b ∈ f1 ++ (f2 ++ f3) → b ∉ f0 := fun b h1 h2 => hF.apart b h2 h1
  have A0_1 : ∀ b, b ∈ f0 → b ∉ f1 ++ (f2 ++ f3) := fun b h1 h2 => hF.apart b h1 h2
  have F1 : Fresh w B0 (f1 ++ (f2 ++ f3)) := hF.right
  have L0 : ∀ b, b ∈ f0 → b < w.heap.size := fun b hb => F0.lt hb
  have L1 : ∀ b, b ∈ f1 ++ (f2 ++ f3) → b < w.heap.size := fun b hb => F1.lt hb
  have HFF := Lib.hid hF
  go_enter Tryz.func19, Tryz.ntmps19
  go_upto_region 1 with fail
  generalize hS : World.alloc w _ = W0
  have x0 : Ext w W0 := by rw [← hS]; exact (Ext.refl _).alloc _
  have m0 : W0.cell? ⟨w.heap.size, 0, none⟩ = some (.slice a0 x.classes.length c0) := by rw [← hS]; simp
  have m1 : W0.cell? ⟨w.heap.size, 1, none⟩ = some (.string x.main.selector) := by rw [← hS]; simp
  have m2 : W0.cell? ⟨w.heap.size, 2, none⟩ = some (.bool x.main.cls) := by rw [← hS]; simp
  have m3 : W0.cell? ⟨w.heap.size, 3, none⟩ = some (.slice a1 x.main.params.length c1) := by rw [← hS]; simp
  have m4 : W0.cell? ⟨w.heap.size, 4, none⟩ = some (.slice a2 x.main.temps.length c2) := by rw [← hS]; simp
  have m5 : W0.cell? ⟨w.heap.size, 5, none⟩ = some (.slice a3 x.main.body.length c3) := by rw [← hS]; simp
  clear hS hF
  replace r0 := RepF.ext x0 r0
  replace F0 := Fresh.ext F0 x0
  replace r1 := RepF.ext x0 r1
  replace F1 := Fresh.ext F1 x0
  have U : Touch w W0 (f0 ++ (f1 ++ (f2 ++ f3))) := Touch.of_ext x0 _
  have R0 := Lib.hid r0; clear r0
  go_wp2_with fail
  refine (markClassDefS_any x.classes _ (f0) B0 _ _ R0.out F0 (by omega) (by omega)).mono ?_
  rintro e w0 ⟨rfl, r0, G0, hT⟩
  clear F0
  have F0 := G0; clear G0
  replace m0 := Touch.cellAt hT (fun h => absurd (L0 _ h) (Nat.lt_irrefl _)) m0
  replace m1 := Touch.cellAt hT (fun h => absurd (L0 _ h) (Nat.lt_irrefl _)) m1
  replace m2 := Touch.cellAt hT (fun h => absurd (L0 _ h) (Nat.lt_irrefl _)) m2
  replace m3 := Touch.cellAt hT (fun h => absurd (L0 _ h) (Nat.lt_irrefl _)) m3
  replace m4 := Touch.cellAt hT (fun h => absurd (L0 _ h) (Nat.lt_irrefl _)) m4
  replace m5 := Touch.cellAt hT (fun h => absurd (L0 _ h) (Nat.lt_irrefl _)) m5
  replace r1 := RepF.touch r1 hT A1_0
  replace F1 := Fresh.touch F1 hT A1_0
  replace U := Touch.trans U (Touch.mono hT (fun y hy => (List.mem_append_left _ hy)))
  clear hT
  have R1 := Lib.hid r1; clear r1
  go_wp2_with fail
  refine (markMethod_any x.main _ (f1 ++ (f2 ++ f3)) B0 _ _ R1.out F1 (by omega) (by omega)).mono ?_
  rintro e w1 ⟨rfl, r1, G1, hT⟩
  clear F1
  have F1 := G1; clear G1
  replace m0 := Touch.cellAt hT (fun h => absurd (L1 _ h) (Nat.lt_irrefl _)) m0
  replace m1 := Touch.cellAt hT (fun h => absurd (L1 _ h) (Nat.lt_irrefl _)) m1
  replace m2 := Touch.cellAt hT (fun h => absurd (L1 _ h) (Nat.lt_irrefl _)) m2
  replace m3 := Touch.cellAt hT (fun h => absurd (L1 _ h) (Nat.lt_irrefl _)) m3
  replace m4 := Touch.cellAt hT (fun h => absurd (L1 _ h) (Nat.lt_irrefl _)) m4
  replace m5 := Touch.cellAt hT (fun h => absurd (L1 _ h) (Nat.lt_irrefl _)) m5
  replace r0 := RepF.touch r0 hT A0_1
  replace F0 := Fresh.touch F0 hT A0_1
  replace U := Touch.trans U (Touch.mono hT (fun y hy => (List.mem_append_right _ hy)))
  clear hT
  have HE := RepF.st (RepS.one r0 (RepS.sub r1 (RepS.nil _)))
  simp only [List.append_nil, List.cons_append, List.nil_append] at HE
  have HQ := Lib.hid HE
  clear HE
  have HFR : Fresh w1 B0 (f0 ++ (f1 ++ (f2 ++ f3))) := ⟨HFF.out.nodup, HFF.out.ge, fun b hb => by
    simp only [List.mem_append] at hb
    rcases hb with hb | hb
    · exact F0.own b hb
    · exact F1.own b (by simp only [List.mem_append]; exact hb)⟩
  go_wp2_with fail
  go_ret
  exact ⟨ret_int (by first | rfl | (push_cast; omega)), HQ.out, HFR, U⟩


end Go.Proofs.YtonmcoojgkgemaaGreatDoor
