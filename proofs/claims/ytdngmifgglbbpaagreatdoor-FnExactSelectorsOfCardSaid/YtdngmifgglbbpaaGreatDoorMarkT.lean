/-
  CONTRACTS: the marks of the laws, of structs.
  Conditions: those that each lemma states.
-/
import Derived.Test.YtdngmifgglbbpaaGreatDoorMarks
namespace Go.Proofs.YtdngmifgglbbpaaGreatDoor
open Go.RowKit
set_option linter.unusedSimpArgs false
set_option linter.unusedVariables false


theorem MCore.sh_f {w : World} {x : MCore} {v0 : Value} {f0 : List Nat} (h0 : RepF w (MCores x.kids) [v0] f0) : RepF w x.d [.int .i64 x.kind, .string x.text, .int .i64 x.number, .int .i64 x.depth, v0] (f0) := by
  simp only [MCore.d_eq]
  have := (RepF.st (RepS.int (x.kind) (RepS.str (x.text) (RepS.int (x.number) (RepS.int (x.depth) (RepS.one h0 (RepS.nil w)))))))
  simpa using this


theorem MCore.tcnt_eq (x : MCore) : x.d.tcnt = (MCores x.kids).cnt := by
  simp only [MCore.d_eq, D.tcnt, D.tcntL, MCores, D.cnt]; omega
theorem MCore.mt_eq (x : MCore) (K : Int) : mtD K x.d = .st [.int x.kind, .str x.text, .int x.number, .int x.depth, mkD (K) (MCores x.kids)] := by
  simp only [MCore.d_eq, mtD, mtL, mkD, D.tcnt, MCores]
  simp [mkD, D.cnt, Int.add_assoc]


theorem MCore.tcnt_le (x : MCore) : x.d.tcnt ≤ 10 * x.d.bulk := by
  rw [MCore.tcnt_eq]
  have hb : x.d.bulk = (MCores x.kids).bulk + x.text.size := by simp only [MCore.d_eq, D.bulk, D.bulkL]; try omega
  have h0 : (MCores x.kids).cnt ≤ 10 * (MCores x.kids).bulk := cnt_sl _ fun d hd => by
    obtain ⟨y, hy, rfl⟩ := List.mem_map.1 hd
    exact MCore.cnt_le y
  omega


set_option maxRecDepth 100000 in
set_option maxHeartbeats 4000000 in
theorem markCore_any (x : MCore) (cx : List Value) (fp : List Nat) (B0 : Nat) (K : Int) (w : World) (hr : RepF w x.d cx fp) (hF : Fresh w B0 fp) (h0 : 0 ≤ K) (h1 : K + x.d.tcnt ≤ 1099511627776) :
    Calls Tryz.prog 150 #[.agg cx.toArray, .int .i64 K] w (MarkP w (mtD K x.d) cx fp B0 (K + x.d.tcnt)) := by
  have hc := MCore.tcnt_eq x
  rw [MCore.mt_eq]
  obtain ⟨a0, c0, f0, rfl, rfl, s0⟩ := MCore.op_f hr
  clear hr
  rw [hc] at h1 ⊢
  clear hc
  have r0 := s0
  clear s0
  have F0 : Fresh w B0 (fp) := hF
  have L0 : ∀ b, b ∈ fp → b < w.heap.size := fun b hb => F0.lt hb
  have HFF := Lib.hid hF
  go_enter Tryz.func150, Tryz.ntmps150
  go_upto_region 1 with fail
  generalize hS : World.alloc w _ = W0
  have x0 : Ext w W0 := by rw [← hS]; exact (Ext.refl _).alloc _
  have m0 : W0.cell? ⟨w.heap.size, 0, none⟩ = some (.int .i64 x.kind) := by rw [← hS]; simp
  have m1 : W0.cell? ⟨w.heap.size, 1, none⟩ = some (.string x.text) := by rw [← hS]; simp
  have m2 : W0.cell? ⟨w.heap.size, 2, none⟩ = some (.int .i64 x.number) := by rw [← hS]; simp
  have m3 : W0.cell? ⟨w.heap.size, 3, none⟩ = some (.int .i64 x.depth) := by rw [← hS]; simp
  have m4 : W0.cell? ⟨w.heap.size, 4, none⟩ = some (.slice a0 x.kids.length c0) := by rw [← hS]; simp
  clear hS hF
  replace r0 := RepF.ext x0 r0
  replace F0 := Fresh.ext F0 x0
  have U : Touch w W0 (fp) := Touch.of_ext x0 _
  have R0 := Lib.hid r0; clear r0
  go_wp2_with fail
  refine (markCoreS_any x.kids _ (fp) B0 _ _ R0.out F0 (by omega) (by omega)).mono ?_
  rintro e w0 ⟨rfl, r0, G0, hT⟩
  clear F0
  have F0 := G0; clear G0
  replace m0 := Touch.cellAt hT (fun h => absurd (L0 _ h) (Nat.lt_irrefl _)) m0
  replace m1 := Touch.cellAt hT (fun h => absurd (L0 _ h) (Nat.lt_irrefl _)) m1
  replace m2 := Touch.cellAt hT (fun h => absurd (L0 _ h) (Nat.lt_irrefl _)) m2
  replace m3 := Touch.cellAt hT (fun h => absurd (L0 _ h) (Nat.lt_irrefl _)) m3
  replace m4 := Touch.cellAt hT (fun h => absurd (L0 _ h) (Nat.lt_irrefl _)) m4
  replace U := Touch.trans U hT
  clear hT
  have HE := RepF.st (RepS.int (x.kind) (RepS.str (x.text) (RepS.int (x.number) (RepS.int (x.depth) (RepS.one r0 (RepS.nil _))))))
  simp only [List.append_nil, List.cons_append, List.nil_append] at HE
  have HQ := Lib.hid HE
  clear HE
  have HFR : Fresh w0 B0 (fp) := ⟨HFF.out.nodup, HFF.out.ge, fun b hb => by
    exact F0.own b hb⟩
  go_wp2_with fail
  go_ret
  exact ⟨ret_int (by first | rfl | (push_cast; omega)), HQ.out, HFR, U⟩

theorem MRoutine.sh_f {w : World} {x : MRoutine} {v0 : Value} {f0 : List Nat} (h0 : RepF w (MCores x.body.kids) [v0] f0) : RepF w x.d [.string x.selector, .int .i64 x.owner, .bool x.cls, .int .i64 x.params, .int .i64 x.slots, .int .i64 x.body.kind, .string x.body.text, .int .i64 x.body.number, .int .i64 x.body.depth, v0] (f0) := by
  simp only [MRoutine.d_eq, MCore.d_eq]
  have := (RepF.st (RepS.str (x.selector) (RepS.int (x.owner) (RepS.bool (x.cls) (RepS.int (x.params) (RepS.int (x.slots) (RepS.sub (RepF.st (RepS.int (x.body.kind) (RepS.str (x.body.text) (RepS.int (x.body.number) (RepS.int (x.body.depth) (RepS.one h0 (RepS.nil w))))))) (RepS.nil w))))))))
  simpa using this


theorem MRoutine.tcnt_eq (x : MRoutine) : x.d.tcnt = (x.body.d).tcnt := by
  simp only [MRoutine.d_eq, D.tcnt, D.tcntL, D.cnt]; omega
theorem MRoutine.mt_eq (x : MRoutine) (K : Int) : mtD K x.d = .st [.str x.selector, .int x.owner, .bool x.cls, .int x.params, .int x.slots, mtD (K) x.body.d] := by
  simp only [MRoutine.d_eq, mtD, mtL, mkD, D.tcnt, D.cnt]
  simp [mkD, D.cnt, Int.add_assoc]


theorem MRoutine.tcnt_le (x : MRoutine) : x.d.tcnt ≤ 10 * x.d.bulk := by
  rw [MRoutine.tcnt_eq]
  have hb : x.d.bulk = (x.body.d).bulk + x.selector.size := by simp only [MRoutine.d_eq, D.bulk, D.bulkL]; try omega
  have h0 := MCore.tcnt_le x.body
  omega


set_option maxRecDepth 100000 in
set_option maxHeartbeats 4000000 in
theorem markRoutine_any (x : MRoutine) (cx : List Value) (fp : List Nat) (B0 : Nat) (K : Int) (w : World) (hr : RepF w x.d cx fp) (hF : Fresh w B0 fp) (h0 : 0 ≤ K) (h1 : K + x.d.tcnt ≤ 1099511627776) :
    Calls Tryz.prog 91 #[.agg cx.toArray, .int .i64 K] w (MarkP w (mtD K x.d) cx fp B0 (K + x.d.tcnt)) := by
  have hc := MRoutine.tcnt_eq x
  rw [MRoutine.mt_eq]
  obtain ⟨a0, c0, f0, rfl, rfl, s0⟩ := MRoutine.op_f hr
  clear hr
  rw [hc] at h1 ⊢
  clear hc
  have r0 := MCore.sh_f (x := x.body) s0
  clear s0
  have F0 : Fresh w B0 (fp) := hF
  have L0 : ∀ b, b ∈ fp → b < w.heap.size := fun b hb => F0.lt hb
  have HFF := Lib.hid hF
  go_enter Tryz.func91, Tryz.ntmps91
  go_upto_region 1 with fail
  generalize hS : World.alloc w _ = W0
  have x0 : Ext w W0 := by rw [← hS]; exact (Ext.refl _).alloc _
  have m0 : W0.cell? ⟨w.heap.size, 0, none⟩ = some (.string x.selector) := by rw [← hS]; simp
  have m1 : W0.cell? ⟨w.heap.size, 1, none⟩ = some (.int .i64 x.owner) := by rw [← hS]; simp
  have m2 : W0.cell? ⟨w.heap.size, 2, none⟩ = some (.bool x.cls) := by rw [← hS]; simp
  have m3 : W0.cell? ⟨w.heap.size, 3, none⟩ = some (.int .i64 x.params) := by rw [← hS]; simp
  have m4 : W0.cell? ⟨w.heap.size, 4, none⟩ = some (.int .i64 x.slots) := by rw [← hS]; simp
  have m5 : W0.cell? ⟨w.heap.size, 5, none⟩ = some (.int .i64 x.body.kind) := by rw [← hS]; simp
  have m6 : W0.cell? ⟨w.heap.size, 6, none⟩ = some (.string x.body.text) := by rw [← hS]; simp
  have m7 : W0.cell? ⟨w.heap.size, 7, none⟩ = some (.int .i64 x.body.number) := by rw [← hS]; simp
  have m8 : W0.cell? ⟨w.heap.size, 8, none⟩ = some (.int .i64 x.body.depth) := by rw [← hS]; simp
  have m9 : W0.cell? ⟨w.heap.size, 9, none⟩ = some (.slice a0 x.body.kids.length c0) := by rw [← hS]; simp
  clear hS hF
  replace r0 := RepF.ext x0 r0
  replace F0 := Fresh.ext F0 x0
  have U : Touch w W0 (fp) := Touch.of_ext x0 _
  have R0 := Lib.hid r0; clear r0
  go_wp2_with fail
  refine (markCore_any x.body _ (fp) B0 _ _ R0.out F0 (by omega) (by omega)).mono ?_
  rintro e w0 ⟨rfl, r0, G0, hT⟩
  clear F0
  have F0 := G0; clear G0
  replace m0 := Touch.cellAt hT (fun h => absurd (L0 _ h) (Nat.lt_irrefl _)) m0
  replace m1 := Touch.cellAt hT (fun h => absurd (L0 _ h) (Nat.lt_irrefl _)) m1
  replace m2 := Touch.cellAt hT (fun h => absurd (L0 _ h) (Nat.lt_irrefl _)) m2
  replace m3 := Touch.cellAt hT (fun h => absurd (L0 _ h) (Nat.lt_irrefl _)) m3
  replace m4 := Touch.cellAt hT (fun h => absurd (L0 _ h) (Nat.lt_irrefl _)) m4
  replace m5 := Touch.cellAt hT (fun h => absurd (L0 _ h) (Nat.lt_irrefl _)) m5
  replace m6 := Touch.cellAt hT (fun h => absurd (L0 _ h) (Nat.lt_irrefl _)) m6
  replace m7 := Touch.cellAt hT (fun h => absurd (L0 _ h) (Nat.lt_irrefl _)) m7
  replace m8 := Touch.cellAt hT (fun h => absurd (L0 _ h) (Nat.lt_irrefl _)) m8
  replace m9 := Touch.cellAt hT (fun h => absurd (L0 _ h) (Nat.lt_irrefl _)) m9
  replace U := Touch.trans U hT
  clear hT
  have HE := RepF.st (RepS.str (x.selector) (RepS.int (x.owner) (RepS.bool (x.cls) (RepS.int (x.params) (RepS.int (x.slots) (RepS.sub r0 (RepS.nil _)))))))
  simp only [List.append_nil, List.cons_append, List.nil_append] at HE
  have HQ := Lib.hid HE
  clear HE
  have HFR : Fresh w0 B0 (fp) := ⟨HFF.out.nodup, HFF.out.ge, fun b hb => by
    exact F0.own b hb⟩
  go_wp2_with fail
  go_ret
  exact ⟨ret_int (by first | rfl | (push_cast; omega)), HQ.out, HFR, U⟩

theorem MSystem.op_f {w : World} {x : MSystem} {cs : List Value} {fp : List Nat} (h : RepF w x.d cs fp) : ∃ (a0 : Option Addr) (c0 : Nat) (f0 : List Nat) (a1 : Option Addr) (c1 : Nat) (f1 : List Nat) (a2 : Option Addr) (c2 : Nat) (f2 : List Nat), cs = [.slice a0 x.classes.length c0, .slice a1 x.routines.length c1, .string x.main.selector, .int .i64 x.main.owner, .bool x.main.cls, .int .i64 x.main.params, .int .i64 x.main.slots, .int .i64 x.main.body.kind, .string x.main.body.text, .int .i64 x.main.body.number, .int .i64 x.main.body.depth, .slice a2 x.main.body.kids.length c2] ∧ fp = f0 ++ (f1 ++ f2) ∧ RepF w (MClassInfos x.classes) [.slice a0 x.classes.length c0] f0 ∧ RepF w (MRoutines x.routines) [.slice a1 x.routines.length c1] f1 ∧ RepF w (MCores x.main.body.kids) [.slice a2 x.main.body.kids.length c2] f2 := by
  rw [MSystem.d_eq] at h
  have h1 := RepF.un_st h
  obtain ⟨a3, c4, _, f5, g6, rfl, rfl, s7, h2⟩ := RepS.un_sl h1
  obtain ⟨a9, c10, _, f11, g12, rfl, rfl, s13, h8⟩ := RepS.un_sl h2
  obtain ⟨_, _, f15, g16, rfl, rfl, s17, h14⟩ := RepS.un_sub h8
  rw [MRoutine.d_eq] at s17
  have h18 := RepF.un_st s17
  obtain ⟨_, rfl, h19⟩ := RepS.un_str h18
  obtain ⟨_, rfl, h20⟩ := RepS.un_int h19
  obtain ⟨_, rfl, h21⟩ := RepS.un_bool h20
  obtain ⟨_, rfl, h22⟩ := RepS.un_int h21
  obtain ⟨_, rfl, h23⟩ := RepS.un_int h22
  obtain ⟨_, _, f25, g26, rfl, rfl, s27, h24⟩ := RepS.un_sub h23
  rw [MCore.d_eq] at s27
  have h28 := RepF.un_st s27
  obtain ⟨_, rfl, h29⟩ := RepS.un_int h28
  obtain ⟨_, rfl, h30⟩ := RepS.un_str h29
  obtain ⟨_, rfl, h31⟩ := RepS.un_int h30
  obtain ⟨_, rfl, h32⟩ := RepS.un_int h31
  obtain ⟨a34, c35, _, f36, g37, rfl, rfl, s38, h33⟩ := RepS.un_sl h32
  simp only [RepS] at h33
  obtain ⟨rfl, rfl⟩ := h33
  simp only [RepS] at h24
  obtain ⟨rfl, rfl⟩ := h24
  simp only [RepS] at h14
  obtain ⟨rfl, rfl⟩ := h14
  simp only [strs, ints, MClassInfos, MRoutines, MCores,  List.length_map] at *
  exact ⟨a3, c4, f5, a9, c10, f11, a34, c35, f36, rfl, by simp, s7, s13, s38⟩

theorem MSystem.sh_f {w : World} {x : MSystem} {v0 : Value} {f0 : List Nat} (h0 : RepF w (MClassInfos x.classes) [v0] f0) {v1 : Value} {f1 : List Nat} (h1 : RepF w (MRoutines x.routines) [v1] f1) {v2 : Value} {f2 : List Nat} (h2 : RepF w (MCores x.main.body.kids) [v2] f2) : RepF w x.d [v0, v1, .string x.main.selector, .int .i64 x.main.owner, .bool x.main.cls, .int .i64 x.main.params, .int .i64 x.main.slots, .int .i64 x.main.body.kind, .string x.main.body.text, .int .i64 x.main.body.number, .int .i64 x.main.body.depth, v2] (f0 ++ (f1 ++ f2)) := by
  simp only [MSystem.d_eq, MRoutine.d_eq, MCore.d_eq]
  have := (RepF.st (RepS.one h0 (RepS.one h1 (RepS.sub (RepF.st (RepS.str (x.main.selector) (RepS.int (x.main.owner) (RepS.bool (x.main.cls) (RepS.int (x.main.params) (RepS.int (x.main.slots) (RepS.sub (RepF.st (RepS.int (x.main.body.kind) (RepS.str (x.main.body.text) (RepS.int (x.main.body.number) (RepS.int (x.main.body.depth) (RepS.one h2 (RepS.nil w))))))) (RepS.nil w)))))))) (RepS.nil w)))))
  simpa using this


theorem MSystem.tcnt_eq (x : MSystem) : x.d.tcnt = (MClassInfos x.classes).cnt + (MRoutines x.routines).cnt + (x.main.d).tcnt := by
  simp only [MSystem.d_eq, D.tcnt, D.tcntL, MClassInfos, D.cnt, MRoutines, D.cnt]; omega
theorem MSystem.mt_eq (x : MSystem) (K : Int) : mtD K x.d = .st [mkD (K) (MClassInfos x.classes), mkD (K + ((MClassInfos x.classes).cnt : Int)) (MRoutines x.routines), mtD (K + ((MClassInfos x.classes).cnt : Int) + ((MRoutines x.routines).cnt : Int)) x.main.d] := by
  simp only [MSystem.d_eq, mtD, mtL, mkD, D.tcnt, MClassInfos, MRoutines]
  simp [mkD, D.cnt, Int.add_assoc]


theorem MSystem.tcnt_le (x : MSystem) : x.d.tcnt ≤ 10 * x.d.bulk := by
  rw [MSystem.tcnt_eq]
  have hb : x.d.bulk = (MClassInfos x.classes).bulk + (MRoutines x.routines).bulk + (x.main.d).bulk := by simp only [MSystem.d_eq, D.bulk, D.bulkL]; try omega
  have h0 : (MClassInfos x.classes).cnt ≤ 10 * (MClassInfos x.classes).bulk := cnt_sl _ fun d hd => by
    obtain ⟨y, hy, rfl⟩ := List.mem_map.1 hd
    exact MClassInfo.cnt_le y
  have h1 : (MRoutines x.routines).cnt ≤ 10 * (MRoutines x.routines).bulk := cnt_sl _ fun d hd => by
    obtain ⟨y, hy, rfl⟩ := List.mem_map.1 hd
    exact MRoutine.cnt_le y
  have h2 := MRoutine.tcnt_le x.main
  omega


set_option maxRecDepth 100000 in
set_option maxHeartbeats 4000000 in
theorem markSystem_any (x : MSystem) (cx : List Value) (fp : List Nat) (B0 : Nat) (K : Int) (w : World) (hr : RepF w x.d cx fp) (hF : Fresh w B0 fp) (h0 : 0 ≤ K) (h1 : K + x.d.tcnt ≤ 1099511627776) :
    Calls Tryz.prog 31 #[.agg cx.toArray, .int .i64 K] w (MarkP w (mtD K x.d) cx fp B0 (K + x.d.tcnt)) := by
  have hc := MSystem.tcnt_eq x
  rw [MSystem.mt_eq]
  obtain ⟨a0, c0, f0, a1, c1, f1, a2, c2, f2, rfl, rfl, s0, s1, s2⟩ := MSystem.op_f hr
  clear hr
  rw [hc] at h1 ⊢
  clear hc
  have r0 := s0
  have r1 := s1
  have r2 := MRoutine.sh_f (x := x.main) s2
  clear s0 s1 s2
  have F0 : Fresh w B0 (f0) := hF.left
  have A1_0 : ∀ b, b ∈ f1 → b ∉ f0 := fun b h1 h2 => hF.apart b h2 (List.mem_append_left _ h1)
  have A0_1 : ∀ b, b ∈ f0 → b ∉ f1 := fun b h1 h2 => hF.apart b h1 (List.mem_append_left _ h2)
  have A2_0 : ∀ b, b ∈ f2 → b ∉ f0 := fun b h1 h2 => hF.apart b h2 (List.mem_append_right _ h1)
  have A0_2 : ∀ b, b ∈ f0 → b ∉ f2 := fun b h1 h2 => hF.apart b h1 (List.mem_append_right _ h2)
  have F1 : Fresh w B0 (f1) := hF.right.left
  have A2_1 : ∀ b, b ∈ f2 → b ∉ f1 := fun b h1 h2 => hF.right.apart b h2 h1
  have A1_2 : ∀ b, b ∈ f1 → b ∉ f2 := fun b h1 h2 => hF.right.apart b h1 h2
  have F2 : Fresh w B0 (f2) := hF.right.right
  have L0 : ∀ b, b ∈ f0 → b < w.heap.size := fun b hb => F0.lt hb
  have L1 : ∀ b, b ∈ f1 → b < w.heap.size := fun b hb => F1.lt hb
  have L2 : ∀ b, b ∈ f2 → b < w.heap.size := fun b hb => F2.lt hb
  have HFF := Lib.hid hF
  go_enter Tryz.func31, Tryz.ntmps31
  go_upto_region 1 with fail
  generalize hS : World.alloc w _ = W0
  have x0 : Ext w W0 := by rw [← hS]; exact (Ext.refl _).alloc _
  have m0 : W0.cell? ⟨w.heap.size, 0, none⟩ = some (.slice a0 x.classes.length c0) := by rw [← hS]; simp
  have m1 : W0.cell? ⟨w.heap.size, 1, none⟩ = some (.slice a1 x.routines.length c1) := by rw [← hS]; simp
  have m2 : W0.cell? ⟨w.heap.size, 2, none⟩ = some (.string x.main.selector) := by rw [← hS]; simp
  have m3 : W0.cell? ⟨w.heap.size, 3, none⟩ = some (.int .i64 x.main.owner) := by rw [← hS]; simp
  have m4 : W0.cell? ⟨w.heap.size, 4, none⟩ = some (.bool x.main.cls) := by rw [← hS]; simp
  have m5 : W0.cell? ⟨w.heap.size, 5, none⟩ = some (.int .i64 x.main.params) := by rw [← hS]; simp
  have m6 : W0.cell? ⟨w.heap.size, 6, none⟩ = some (.int .i64 x.main.slots) := by rw [← hS]; simp
  have m7 : W0.cell? ⟨w.heap.size, 7, none⟩ = some (.int .i64 x.main.body.kind) := by rw [← hS]; simp
  have m8 : W0.cell? ⟨w.heap.size, 8, none⟩ = some (.string x.main.body.text) := by rw [← hS]; simp
  have m9 : W0.cell? ⟨w.heap.size, 9, none⟩ = some (.int .i64 x.main.body.number) := by rw [← hS]; simp
  have m10 : W0.cell? ⟨w.heap.size, 10, none⟩ = some (.int .i64 x.main.body.depth) := by rw [← hS]; simp
  have m11 : W0.cell? ⟨w.heap.size, 11, none⟩ = some (.slice a2 x.main.body.kids.length c2) := by rw [← hS]; simp
  clear hS hF
  replace r0 := RepF.ext x0 r0
  replace F0 := Fresh.ext F0 x0
  replace r1 := RepF.ext x0 r1
  replace F1 := Fresh.ext F1 x0
  replace r2 := RepF.ext x0 r2
  replace F2 := Fresh.ext F2 x0
  have U : Touch w W0 (f0 ++ (f1 ++ f2)) := Touch.of_ext x0 _
  have R0 := Lib.hid r0; clear r0
  go_wp2_with fail
  refine (markClassInfoS_any x.classes _ (f0) B0 _ _ R0.out F0 (by omega) (by omega)).mono ?_
  rintro e w0 ⟨rfl, r0, G0, hT⟩
  clear F0
  have F0 := G0; clear G0
  replace m0 := Touch.cellAt hT (fun h => absurd (L0 _ h) (Nat.lt_irrefl _)) m0
  replace m1 := Touch.cellAt hT (fun h => absurd (L0 _ h) (Nat.lt_irrefl _)) m1
  replace m2 := Touch.cellAt hT (fun h => absurd (L0 _ h) (Nat.lt_irrefl _)) m2
  replace m3 := Touch.cellAt hT (fun h => absurd (L0 _ h) (Nat.lt_irrefl _)) m3
  replace m4 := Touch.cellAt hT (fun h => absurd (L0 _ h) (Nat.lt_irrefl _)) m4
  replace m5 := Touch.cellAt hT (fun h => absurd (L0 _ h) (Nat.lt_irrefl _)) m5
  replace m6 := Touch.cellAt hT (fun h => absurd (L0 _ h) (Nat.lt_irrefl _)) m6
  replace m7 := Touch.cellAt hT (fun h => absurd (L0 _ h) (Nat.lt_irrefl _)) m7
  replace m8 := Touch.cellAt hT (fun h => absurd (L0 _ h) (Nat.lt_irrefl _)) m8
  replace m9 := Touch.cellAt hT (fun h => absurd (L0 _ h) (Nat.lt_irrefl _)) m9
  replace m10 := Touch.cellAt hT (fun h => absurd (L0 _ h) (Nat.lt_irrefl _)) m10
  replace m11 := Touch.cellAt hT (fun h => absurd (L0 _ h) (Nat.lt_irrefl _)) m11
  replace r1 := RepF.touch r1 hT A1_0
  replace F1 := Fresh.touch F1 hT A1_0
  replace r2 := RepF.touch r2 hT A2_0
  replace F2 := Fresh.touch F2 hT A2_0
  replace U := Touch.trans U (Touch.mono hT (fun y hy => (List.mem_append_left _ hy)))
  clear hT
  have R1 := Lib.hid r1; clear r1
  go_wp2_with fail
  refine (markRoutineS_any x.routines _ (f1) B0 _ _ R1.out F1 (by omega) (by omega)).mono ?_
  rintro e w1 ⟨rfl, r1, G1, hT⟩
  clear F1
  have F1 := G1; clear G1
  replace m0 := Touch.cellAt hT (fun h => absurd (L1 _ h) (Nat.lt_irrefl _)) m0
  replace m1 := Touch.cellAt hT (fun h => absurd (L1 _ h) (Nat.lt_irrefl _)) m1
  replace m2 := Touch.cellAt hT (fun h => absurd (L1 _ h) (Nat.lt_irrefl _)) m2
  replace m3 := Touch.cellAt hT (fun h => absurd (L1 _ h) (Nat.lt_irrefl _)) m3
  replace m4 := Touch.cellAt hT (fun h => absurd (L1 _ h) (Nat.lt_irrefl _)) m4
  replace m5 := Touch.cellAt hT (fun h => absurd (L1 _ h) (Nat.lt_irrefl _)) m5
  replace m6 := Touch.cellAt hT (fun h => absurd (L1 _ h) (Nat.lt_irrefl _)) m6
  replace m7 := Touch.cellAt hT (fun h => absurd (L1 _ h) (Nat.lt_irrefl _)) m7
  replace m8 := Touch.cellAt hT (fun h => absurd (L1 _ h) (Nat.lt_irrefl _)) m8
  replace m9 := Touch.cellAt hT (fun h => absurd (L1 _ h) (Nat.lt_irrefl _)) m9
  replace m10 := Touch.cellAt hT (fun h => absurd (L1 _ h) (Nat.lt_irrefl _)) m10
  replace m11 := Touch.cellAt hT (fun h => absurd (L1 _ h) (Nat.lt_irrefl _)) m11
  replace r0 := RepF.touch r0 hT A0_1
  replace F0 := Fresh.touch F0 hT A0_1
  replace r2 := RepF.touch r2 hT A2_1
  replace F2 := Fresh.touch F2 hT A2_1
  replace U := Touch.trans U (Touch.mono hT (fun y hy => (List.mem_append_right _ (List.mem_append_left _ hy))))
  clear hT
  have R2 := Lib.hid r2; clear r2
  go_wp2_with fail
  refine (markRoutine_any x.main _ (f2) B0 _ _ R2.out F2 (by omega) (by omega)).mono ?_
  rintro e w2 ⟨rfl, r2, G2, hT⟩
  clear F2
  have F2 := G2; clear G2
  replace m0 := Touch.cellAt hT (fun h => absurd (L2 _ h) (Nat.lt_irrefl _)) m0
  replace m1 := Touch.cellAt hT (fun h => absurd (L2 _ h) (Nat.lt_irrefl _)) m1
  replace m2 := Touch.cellAt hT (fun h => absurd (L2 _ h) (Nat.lt_irrefl _)) m2
  replace m3 := Touch.cellAt hT (fun h => absurd (L2 _ h) (Nat.lt_irrefl _)) m3
  replace m4 := Touch.cellAt hT (fun h => absurd (L2 _ h) (Nat.lt_irrefl _)) m4
  replace m5 := Touch.cellAt hT (fun h => absurd (L2 _ h) (Nat.lt_irrefl _)) m5
  replace m6 := Touch.cellAt hT (fun h => absurd (L2 _ h) (Nat.lt_irrefl _)) m6
  replace m7 := Touch.cellAt hT (fun h => absurd (L2 _ h) (Nat.lt_irrefl _)) m7
  replace m8 := Touch.cellAt hT (fun h => absurd (L2 _ h) (Nat.lt_irrefl _)) m8
  replace m9 := Touch.cellAt hT (fun h => absurd (L2 _ h) (Nat.lt_irrefl _)) m9
  replace m10 := Touch.cellAt hT (fun h => absurd (L2 _ h) (Nat.lt_irrefl _)) m10
  replace m11 := Touch.cellAt hT (fun h => absurd (L2 _ h) (Nat.lt_irrefl _)) m11
  replace r0 := RepF.touch r0 hT A0_2
  replace F0 := Fresh.touch F0 hT A0_2
  replace r1 := RepF.touch r1 hT A1_2
  replace F1 := Fresh.touch F1 hT A1_2
  replace U := Touch.trans U (Touch.mono hT (fun y hy => (List.mem_append_right _ (List.mem_append_right _ hy))))
  clear hT
  have HE := RepF.st (RepS.one r0 (RepS.one r1 (RepS.sub r2 (RepS.nil _))))
  simp only [List.append_nil, List.cons_append, List.nil_append] at HE
  have HQ := Lib.hid HE
  clear HE
  have HFR : Fresh w2 B0 (f0 ++ (f1 ++ f2)) := ⟨HFF.out.nodup, HFF.out.ge, fun b hb => by
    simp only [List.mem_append] at hb
    rcases hb with hb | hb
    · exact F0.own b hb
    rcases hb with hb | hb
    · exact F1.own b hb
    · exact F2.own b hb⟩
  go_wp2_with fail
  go_ret
  exact ⟨ret_int (by first | rfl | (push_cast; omega)), HQ.out, HFR, U⟩


end Go.Proofs.YtdngmifgglbbpaaGreatDoor
