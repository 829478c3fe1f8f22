/-
  SEVERAL TEXTS IN ONE: CONTRACTS: the marks of the laws, of structs; CONTRACTS: the readings of the marks; CONTRACTS: the readings of the marks, of structs.
  Conditions: those that each lemma states.
-/
import Derived.Test.YtlaclfeljimffaaGreatDoorP12
namespace Go.Proofs.YtlaclfeljimffaaGreatDoor
open Go.RowKit
set_option maxHeartbeats 8000000
set_option maxRecDepth 100000
set_option linter.unusedSimpArgs false
set_option linter.unusedVariables false
theorem MCore.sh_f {w : World} {x : MCore} {v0 : Value} {f0 : List Nat} (h0 : RepF w (MCores x.kids) [v0] f0) : RepF w x.d [.int .i64 x.kind, .string x.text, .int .i64 x.number, .int .i64 x.depth, v0] (f0) := by
 simp only [MCore.d_eq]
 have := (RepF.st (RepS.int (x.kind) (RepS.str (x.text) (RepS.int (x.number) (RepS.int (x.depth) (RepS.one h0 (RepS.nil w)))))))
 simpa using this
theorem MCore.tcnt_eq (x : MCore) : x.d.tcnt = (MCores x.kids).cnt := by
 simp only [MCore.d_eq, D.tcnt, D.tcntL, MCores, D.cnt]; omega
theorem MCore.mt_eq (x : MCore) (K : Int) : mtD K x.d = .st [.int x.kind, .str x.text, .int x.number, .int x.depth, mkD (K) (MCores x.kids)] := by
 simp only [MCore.d_eq, mtD, mtL, mkD, D.tcnt, MCores]
 simp [mkD, D.cnt, Int.add_assoc]
theorem MCore.tcnt_le (x : MCore) : x.d.tcnt <= 10 * x.d.bulk := by
 rw [MCore.tcnt_eq]
 have hb : x.d.bulk = (MCores x.kids).bulk + x.text.size := by simp only [MCore.d_eq, D.bulk, D.bulkL]; try omega
 have h0 : (MCores x.kids).cnt <= 10 * (MCores x.kids).bulk := cnt_sl _ fun d hd => by
  obtain ⟨y, hy, rfl⟩ := List.mem_map.1 hd
  exact MCore.cnt_le y
 omega
theorem markCore_any (x : MCore) (cx : List Value) (fp : List Nat) (B0 : Nat) (K : Int) (w : World) (hr : RepF w x.d cx fp) (hF : Fresh w B0 fp) (h0 : 0 <= K) (h1 : K + x.d.tcnt <= 1099511627776) :
 Calls Tryz.prog 62 #[.agg cx.toArray, .int .i64 K] w (MarkP w (mtD K x.d) cx fp B0 (K + x.d.tcnt)) := by
 have hc := MCore.tcnt_eq x
 rw [MCore.mt_eq]
 obtain ⟨a0, c0, f0, rfl, rfl, s0⟩ := MCore.op_f hr
 clear hr
 rw [hc] at h1 ⊢
 clear hc
 have r0 := s0
 clear s0
 have F0 : Fresh w B0 (fp) := hF
 have L0 : ∀ b, b ∈ fp -> b < w.heap.size := fun b hb => F0.lt hb
 have HFF := LH hF
 go_enter Tryz.func62, Tryz.ntmps62
 go_upto_region 1 with fail
 generalize hS : World.alloc w _ = W0
 have x0 : Ext w W0 := by rw [<- hS]; exact (XR _).alloc _
 have m0 : W0.cell? ⟨w.heap.size, 0, none⟩ = some (.int .i64 x.kind) := by rw [<- hS]; simp
 have m1 : W0.cell? ⟨w.heap.size, 1, none⟩ = some (.string x.text) := by rw [<- hS]; simp
 have m2 : W0.cell? ⟨w.heap.size, 2, none⟩ = some (.int .i64 x.number) := by rw [<- hS]; simp
 have m3 : W0.cell? ⟨w.heap.size, 3, none⟩ = some (.int .i64 x.depth) := by rw [<- hS]; simp
 have m4 : W0.cell? ⟨w.heap.size, 4, none⟩ = some (.slice a0 x.kids.length c0) := by rw [<- hS]; simp
 clear hS hF
 replace r0 := RepF.ext x0 r0
 replace F0 := Fresh.ext F0 x0
 have U : Touch w W0 (fp) := Touch.of_ext x0 _
 have R0 := LH r0; clear r0
 go_wp2_with fail
 refine (markCoreS_any x.kids _ (fp) B0 _ _ R0.out F0 (by omega) (by omega)).mono ?_
 rintro e w0 ⟨rfl, r0, G0, hT⟩
 clear F0
 have F0 := G0; clear G0
 replace m0 := Touch.cellAt hT (fun h => absurd (L0 _ h) (Nat.lt_irrefl _)) m0
 replace m1 := Touch.cellAt hT (fun h => absurd (L0 _ h) (Nat.lt_irrefl _)) m1
 replace m2 := Touch.cellAt hT (fun h => absurd (L0 _ h) (Nat.lt_irrefl _)) m2
 replace m3 := Touch.cellAt hT (fun h => absurd (L0 _ h) (Nat.lt_irrefl _)) m3
 replace m4 := Touch.cellAt hT (fun h => absurd (L0 _ h) (Nat.lt_irrefl _)) m4
 replace U := Touch.trans U hT
 clear hT
 have HE := RepF.st (RepS.int (x.kind) (RepS.str (x.text) (RepS.int (x.number) (RepS.int (x.depth) (RepS.one r0 (RepS.nil _))))))
 simp only [List.append_nil, List.cons_append, List.nil_append] at HE
 have HQ := LH HE
 clear HE
 have HFR : Fresh w0 B0 (fp) := ⟨HFF.out.nodup, HFF.out.ge, fun b hb => by
  exact F0.own b hb⟩
 go_wp2_with fail
 go_ret
 exact ⟨ret_int (by first | rfl | (push_cast; omega)), HQ.out, HFR, U⟩
theorem MRoutine.sh_f {w : World} {x : MRoutine} {v0 : Value} {f0 : List Nat} (h0 : RepF w (MCores x.body.kids) [v0] f0) : RepF w x.d [.string x.selector, .int .i64 x.owner, .bool x.cls, .int .i64 x.params, .int .i64 x.slots, .int .i64 x.body.kind, .string x.body.text, .int .i64 x.body.number, .int .i64 x.body.depth, v0] (f0) := by
 simp only [MRoutine.d_eq, MCore.d_eq]
 have := (RepF.st (RepS.str (x.selector) (RepS.int (x.owner) (RepS.bool (x.cls) (RepS.int (x.params) (RepS.int (x.slots) (RepS.sub (RepF.st (RepS.int (x.body.kind) (RepS.str (x.body.text) (RepS.int (x.body.number) (RepS.int (x.body.depth) (RepS.one h0 (RepS.nil w))))))) (RepS.nil w))))))))
 simpa using this
theorem MRoutine.tcnt_eq (x : MRoutine) : x.d.tcnt = (x.body.d).tcnt := by
 simp only [MRoutine.d_eq, D.tcnt, D.tcntL, D.cnt]; omega
theorem MRoutine.mt_eq (x : MRoutine) (K : Int) : mtD K x.d = .st [.str x.selector, .int x.owner, .bool x.cls, .int x.params, .int x.slots, mtD (K) x.body.d] := by
 simp only [MRoutine.d_eq, mtD, mtL, mkD, D.tcnt, D.cnt]
 simp [mkD, D.cnt, Int.add_assoc]
theorem MRoutine.tcnt_le (x : MRoutine) : x.d.tcnt <= 10 * x.d.bulk := by
 rw [MRoutine.tcnt_eq]
 have hb : x.d.bulk = (x.body.d).bulk + x.selector.size := by simp only [MRoutine.d_eq, D.bulk, D.bulkL]; try omega
 have h0 := MCore.tcnt_le x.body
 omega
theorem markRoutine_any (x : MRoutine) (cx : List Value) (fp : List Nat) (B0 : Nat) (K : Int) (w : World) (hr : RepF w x.d cx fp) (hF : Fresh w B0 fp) (h0 : 0 <= K) (h1 : K + x.d.tcnt <= 1099511627776) :
 Calls Tryz.prog 32 #[.agg cx.toArray, .int .i64 K] w (MarkP w (mtD K x.d) cx fp B0 (K + x.d.tcnt)) := by
 have hc := MRoutine.tcnt_eq x
 rw [MRoutine.mt_eq]
 obtain ⟨a0, c0, f0, rfl, rfl, s0⟩ := MRoutine.op_f hr
 clear hr
 rw [hc] at h1 ⊢
 clear hc
 have r0 := MCore.sh_f (x := x.body) s0
 clear s0
 have F0 : Fresh w B0 (fp) := hF
 have L0 : ∀ b, b ∈ fp -> b < w.heap.size := fun b hb => F0.lt hb
 have HFF := LH hF
 go_enter Tryz.func32, Tryz.ntmps32
 go_upto_region 1 with fail
 generalize hS : World.alloc w _ = W0
 have x0 : Ext w W0 := by rw [<- hS]; exact (XR _).alloc _
 have m0 : W0.cell? ⟨w.heap.size, 0, none⟩ = some (.string x.selector) := by rw [<- hS]; simp
 have m1 : W0.cell? ⟨w.heap.size, 1, none⟩ = some (.int .i64 x.owner) := by rw [<- hS]; simp
 have m2 : W0.cell? ⟨w.heap.size, 2, none⟩ = some (.bool x.cls) := by rw [<- hS]; simp
 have m3 : W0.cell? ⟨w.heap.size, 3, none⟩ = some (.int .i64 x.params) := by rw [<- hS]; simp
 have m4 : W0.cell? ⟨w.heap.size, 4, none⟩ = some (.int .i64 x.slots) := by rw [<- hS]; simp
 have m5 : W0.cell? ⟨w.heap.size, 5, none⟩ = some (.int .i64 x.body.kind) := by rw [<- hS]; simp
 have m6 : W0.cell? ⟨w.heap.size, 6, none⟩ = some (.string x.body.text) := by rw [<- hS]; simp
 have m7 : W0.cell? ⟨w.heap.size, 7, none⟩ = some (.int .i64 x.body.number) := by rw [<- hS]; simp
 have m8 : W0.cell? ⟨w.heap.size, 8, none⟩ = some (.int .i64 x.body.depth) := by rw [<- hS]; simp
 have m9 : W0.cell? ⟨w.heap.size, 9, none⟩ = some (.slice a0 x.body.kids.length c0) := by rw [<- hS]; simp
 clear hS hF
 replace r0 := RepF.ext x0 r0
 replace F0 := Fresh.ext F0 x0
 have U : Touch w W0 (fp) := Touch.of_ext x0 _
 have R0 := LH r0; clear r0
 go_wp2_with fail
 refine (markCore_any x.body _ (fp) B0 _ _ R0.out F0 (by omega) (by omega)).mono ?_
 rintro e w0 ⟨rfl, r0, G0, hT⟩
 clear F0
 have F0 := G0; clear G0
 replace m0 := Touch.cellAt hT (fun h => absurd (L0 _ h) (Nat.lt_irrefl _)) m0
 replace m1 := Touch.cellAt hT (fun h => absurd (L0 _ h) (Nat.lt_irrefl _)) m1
 replace m2 := Touch.cellAt hT (fun h => absurd (L0 _ h) (Nat.lt_irrefl _)) m2
 replace m3 := Touch.cellAt hT (fun h => absurd (L0 _ h) (Nat.lt_irrefl _)) m3
 replace m4 := Touch.cellAt hT (fun h => absurd (L0 _ h) (Nat.lt_irrefl _)) m4
 replace m5 := Touch.cellAt hT (fun h => absurd (L0 _ h) (Nat.lt_irrefl _)) m5
 replace m6 := Touch.cellAt hT (fun h => absurd (L0 _ h) (Nat.lt_irrefl _)) m6
 replace m7 := Touch.cellAt hT (fun h => absurd (L0 _ h) (Nat.lt_irrefl _)) m7
 replace m8 := Touch.cellAt hT (fun h => absurd (L0 _ h) (Nat.lt_irrefl _)) m8
 replace m9 := Touch.cellAt hT (fun h => absurd (L0 _ h) (Nat.lt_irrefl _)) m9
 replace U := Touch.trans U hT
 clear hT
 have HE := RepF.st (RepS.str (x.selector) (RepS.int (x.owner) (RepS.bool (x.cls) (RepS.int (x.params) (RepS.int (x.slots) (RepS.sub r0 (RepS.nil _)))))))
 simp only [List.append_nil, List.cons_append, List.nil_append] at HE
 have HQ := LH HE
 clear HE
 have HFR : Fresh w0 B0 (fp) := ⟨HFF.out.nodup, HFF.out.ge, fun b hb => by
  exact F0.own b hb⟩
 go_wp2_with fail
 go_ret
 exact ⟨ret_int (by first | rfl | (push_cast; omega)), HQ.out, HFR, U⟩
theorem MSystem.op_f {w : World} {x : MSystem} {cs : List Value} {fp : List Nat} (h : RepF w x.d cs fp) : ∃ (a0 : Option Addr) (c0 : Nat) (f0 : List Nat) (a1 : Option Addr) (c1 : Nat) (f1 : List Nat) (a2 : Option Addr) (c2 : Nat) (f2 : List Nat), cs = [.slice a0 x.classes.length c0, .slice a1 x.routines.length c1, .string x.main.selector, .int .i64 x.main.owner, .bool x.main.cls, .int .i64 x.main.params, .int .i64 x.main.slots, .int .i64 x.main.body.kind, .string x.main.body.text, .int .i64 x.main.body.number, .int .i64 x.main.body.depth, .slice a2 x.main.body.kids.length c2] /\ fp = f0 ++ (f1 ++ f2) /\ RepF w (MClassInfos x.classes) [.slice a0 x.classes.length c0] f0 /\ RepF w (MRoutines x.routines) [.slice a1 x.routines.length c1] f1 /\ RepF w (MCores x.main.body.kids) [.slice a2 x.main.body.kids.length c2] f2 := by
 rw [MSystem.d_eq] at h
 have h1 := RepF.un_st h
 obtain ⟨a3, c4, _, f5, g6, rfl, rfl, s7, h2⟩ := RepS.un_sl h1
 obtain ⟨a9, c10, _, f11, g12, rfl, rfl, s13, h8⟩ := RepS.un_sl h2
 obtain ⟨_, _, f15, g16, rfl, rfl, s17, h14⟩ := RepS.un_sub h8
 rw [MRoutine.d_eq] at s17
 have h18 := RepF.un_st s17
 obtain ⟨_, rfl, h19⟩ := RepS.un_str h18
 obtain ⟨_, rfl, h20⟩ := RepS.un_int h19
 obtain ⟨_, rfl, h21⟩ := RepS.un_bool h20
 obtain ⟨_, rfl, h22⟩ := RepS.un_int h21
 obtain ⟨_, rfl, h23⟩ := RepS.un_int h22
 obtain ⟨_, _, f25, g26, rfl, rfl, s27, h24⟩ := RepS.un_sub h23
 rw [MCore.d_eq] at s27
 have h28 := RepF.un_st s27
 obtain ⟨_, rfl, h29⟩ := RepS.un_int h28
 obtain ⟨_, rfl, h30⟩ := RepS.un_str h29
 obtain ⟨_, rfl, h31⟩ := RepS.un_int h30
 obtain ⟨_, rfl, h32⟩ := RepS.un_int h31
 obtain ⟨a34, c35, _, f36, g37, rfl, rfl, s38, h33⟩ := RepS.un_sl h32
 simp only [RepS] at h33
 obtain ⟨rfl, rfl⟩ := h33
 simp only [RepS] at h24
 obtain ⟨rfl, rfl⟩ := h24
 simp only [RepS] at h14
 obtain ⟨rfl, rfl⟩ := h14
 simp only [strs, ints, MClassInfos, MRoutines, MCores,  List.length_map] at *
 exact ⟨a3, c4, f5, a9, c10, f11, a34, c35, f36, rfl, by simp, s7, s13, s38⟩
theorem MSystem.tcnt_eq (x : MSystem) : x.d.tcnt = (MClassInfos x.classes).cnt + (MRoutines x.routines).cnt + (x.main.d).tcnt := by
 simp only [MSystem.d_eq, D.tcnt, D.tcntL, MClassInfos, D.cnt, MRoutines, D.cnt]; omega
theorem MSystem.mt_eq (x : MSystem) (K : Int) : mtD K x.d = .st [mkD (K) (MClassInfos x.classes), mkD (K + ((MClassInfos x.classes).cnt : Int)) (MRoutines x.routines), mtD (K + ((MClassInfos x.classes).cnt : Int) + ((MRoutines x.routines).cnt : Int)) x.main.d] := by
 simp only [MSystem.d_eq, mtD, mtL, mkD, D.tcnt, MClassInfos, MRoutines]
 simp [mkD, D.cnt, Int.add_assoc]
theorem MSystem.tcnt_le (x : MSystem) : x.d.tcnt <= 10 * x.d.bulk := by
 rw [MSystem.tcnt_eq]
 have hb : x.d.bulk = (MClassInfos x.classes).bulk + (MRoutines x.routines).bulk + (x.main.d).bulk := by simp only [MSystem.d_eq, D.bulk, D.bulkL]; try omega
 have h0 : (MClassInfos x.classes).cnt <= 10 * (MClassInfos x.classes).bulk := cnt_sl _ fun d hd => by
  obtain ⟨y, hy, rfl⟩ := List.mem_map.1 hd
  exact MClassInfo.cnt_le y
 have h1 : (MRoutines x.routines).cnt <= 10 * (MRoutines x.routines).bulk := cnt_sl _ fun d hd => by
  obtain ⟨y, hy, rfl⟩ := List.mem_map.1 hd
  exact MRoutine.cnt_le y
 have h2 := MRoutine.tcnt_le x.main
 omega
theorem markSystem_any (x : MSystem) (cx : List Value) (fp : List Nat) (B0 : Nat) (K : Int) (w : World) (hr : RepF w x.d cx fp) (hF : Fresh w B0 fp) (h0 : 0 <= K) (h1 : K + x.d.tcnt <= 1099511627776) :
 Calls Tryz.prog 10 #[.agg cx.toArray, .int .i64 K] w (MarkP w (mtD K x.d) cx fp B0 (K + x.d.tcnt)) := by
 have hc := MSystem.tcnt_eq x
 rw [MSystem.mt_eq]
 obtain ⟨a0, c0, f0, a1, c1, f1, a2, c2, f2, rfl, rfl, s0, s1, s2⟩ := MSystem.op_f hr
 clear hr
 rw [hc] at h1 ⊢
 clear hc
 have r0 := s0
 have r1 := s1
 have r2 := MRoutine.sh_f (x := x.main) s2
 clear s0 s1 s2
 have F0 : Fresh w B0 (f0) := hF.left
 have A1_0 : ∀ b, b ∈ f1 -> b ∉ f0 := fun b h1 h2 => hF.apart b h2 (List.mem_append_left _ h1)
 have A0_1 : ∀ b, b ∈ f0 -> b ∉ f1 := fun b h1 h2 => hF.apart b h1 (List.mem_append_left _ h2)
 have A2_0 : ∀ b, b ∈ f2 -> b ∉ f0 := fun b h1 h2 => hF.apart b h2 (List.mem_append_right _ h1)
 have A0_2 : ∀ b, b ∈ f0 -> b ∉ f2 := fun b h1 h2 => hF.apart b h1 (List.mem_append_right _ h2)
 have F1 : Fresh w B0 (f1) := hF.right.left
 have A2_1 : ∀ b, b ∈ f2 -> b ∉ f1 := fun b h1 h2 => hF.right.apart b h2 h1
 have A1_2 : ∀ b, b ∈ f1 -> b ∉ f2 := fun b h1 h2 => hF.right.apart b h1 h2
 have F2 : Fresh w B0 (f2) := hF.right.right
 have L0 : ∀ b, b ∈ f0 -> b < w.heap.size := fun b hb => F0.lt hb
 have L1 : ∀ b, b ∈ f1 -> b < w.heap.size := fun b hb => F1.lt hb
 have L2 : ∀ b, b ∈ f2 -> b < w.heap.size := fun b hb => F2.lt hb
 have HFF := LH hF
 go_enter Tryz.func10, Tryz.ntmps10
 go_upto_region 1 with fail
 generalize hS : World.alloc w _ = W0
 have x0 : Ext w W0 := by rw [<- hS]; exact (XR _).alloc _
 have m0 : W0.cell? ⟨w.heap.size, 0, none⟩ = some (.slice a0 x.classes.length c0) := by rw [<- hS]; simp
 have m1 : W0.cell? ⟨w.heap.size, 1, none⟩ = some (.slice a1 x.routines.length c1) := by rw [<- hS]; simp
 have m2 : W0.cell? ⟨w.heap.size, 2, none⟩ = some (.string x.main.selector) := by rw [<- hS]; simp
 have m3 : W0.cell? ⟨w.heap.size, 3, none⟩ = some (.int .i64 x.main.owner) := by rw [<- hS]; simp
 have m4 : W0.cell? ⟨w.heap.size, 4, none⟩ = some (.bool x.main.cls) := by rw [<- hS]; simp
 have m5 : W0.cell? ⟨w.heap.size, 5, none⟩ = some (.int .i64 x.main.params) := by rw [<- hS]; simp
 have m6 : W0.cell? ⟨w.heap.size, 6, none⟩ = some (.int .i64 x.main.slots) := by rw [<- hS]; simp
 have m7 : W0.cell? ⟨w.heap.size, 7, none⟩ = some (.int .i64 x.main.body.kind) := by rw [<- hS]; simp
 have m8 : W0.cell? ⟨w.heap.size, 8, none⟩ = some (.string x.main.body.text) := by rw [<- hS]; simp
 have m9 : W0.cell? ⟨w.heap.size, 9, none⟩ = some (.int .i64 x.main.body.number) := by rw [<- hS]; simp
 have m10 : W0.cell? ⟨w.heap.size, 10, none⟩ = some (.int .i64 x.main.body.depth) := by rw [<- hS]; simp
 have m11 : W0.cell? ⟨w.heap.size, 11, none⟩ = some (.slice a2 x.main.body.kids.length c2) := by rw [<- hS]; simp
 clear hS hF
 replace r0 := RepF.ext x0 r0
 replace F0 := Fresh.ext F0 x0
 replace r1 := RepF.ext x0 r1
 replace F1 := Fresh.ext F1 x0
 replace r2 := RepF.ext x0 r2
 replace F2 := Fresh.ext F2 x0
 have U : Touch w W0 (f0 ++ (f1 ++ f2)) := Touch.of_ext x0 _
 have R0 := LH r0; clear r0
 go_wp2_with fail
 refine (markClassInfoS_any x.classes _ (f0) B0 _ _ R0.out F0 (by omega) (by omega)).mono ?_
 rintro e w0 ⟨rfl, r0, G0, hT⟩
 clear F0
 have F0 := G0; clear G0
 replace m0 := Touch.cellAt hT (fun h => absurd (L0 _ h) (Nat.lt_irrefl _)) m0
 replace m1 := Touch.cellAt hT (fun h => absurd (L0 _ h) (Nat.lt_irrefl _)) m1
 replace m2 := Touch.cellAt hT (fun h => absurd (L0 _ h) (Nat.lt_irrefl _)) m2
 replace m3 := Touch.cellAt hT (fun h => absurd (L0 _ h) (Nat.lt_irrefl _)) m3
 replace m4 := Touch.cellAt hT (fun h => absurd (L0 _ h) (Nat.lt_irrefl _)) m4
 replace m5 := Touch.cellAt hT (fun h => absurd (L0 _ h) (Nat.lt_irrefl _)) m5
 replace m6 := Touch.cellAt hT (fun h => absurd (L0 _ h) (Nat.lt_irrefl _)) m6
 replace m7 := Touch.cellAt hT (fun h => absurd (L0 _ h) (Nat.lt_irrefl _)) m7
 replace m8 := Touch.cellAt hT (fun h => absurd (L0 _ h) (Nat.lt_irrefl _)) m8
 replace m9 := Touch.cellAt hT (fun h => absurd (L0 _ h) (Nat.lt_irrefl _)) m9
 replace m10 := Touch.cellAt hT (fun h => absurd (L0 _ h) (Nat.lt_irrefl _)) m10
 replace m11 := Touch.cellAt hT (fun h => absurd (L0 _ h) (Nat.lt_irrefl _)) m11
 replace r1 := RepF.touch r1 hT A1_0
 replace F1 := Fresh.touch F1 hT A1_0
 replace r2 := RepF.touch r2 hT A2_0
 replace F2 := Fresh.touch F2 hT A2_0
 replace U := Touch.trans U (Touch.mono hT (fun y hy => (List.mem_append_left _ hy)))
 clear hT
 have R1 := LH r1; clear r1
 go_wp2_with fail
 refine (markRoutineS_any x.routines _ (f1) B0 _ _ R1.out F1 (by omega) (by omega)).mono ?_
 rintro e w1 ⟨rfl, r1, G1, hT⟩
 clear F1
 have F1 := G1; clear G1
 replace m0 := Touch.cellAt hT (fun h => absurd (L1 _ h) (Nat.lt_irrefl _)) m0
 replace m1 := Touch.cellAt hT (fun h => absurd (L1 _ h) (Nat.lt_irrefl _)) m1
 replace m2 := Touch.cellAt hT (fun h => absurd (L1 _ h) (Nat.lt_irrefl _)) m2
 replace m3 := Touch.cellAt hT (fun h => absurd (L1 _ h) (Nat.lt_irrefl _)) m3
 replace m4 := Touch.cellAt hT (fun h => absurd (L1 _ h) (Nat.lt_irrefl _)) m4
 replace m5 := Touch.cellAt hT (fun h => absurd (L1 _ h) (Nat.lt_irrefl _)) m5
 replace m6 := Touch.cellAt hT (fun h => absurd (L1 _ h) (Nat.lt_irrefl _)) m6
 replace m7 := Touch.cellAt hT (fun h => absurd (L1 _ h) (Nat.lt_irrefl _)) m7
 replace m8 := Touch.cellAt hT (fun h => absurd (L1 _ h) (Nat.lt_irrefl _)) m8
 replace m9 := Touch.cellAt hT (fun h => absurd (L1 _ h) (Nat.lt_irrefl _)) m9
 replace m10 := Touch.cellAt hT (fun h => absurd (L1 _ h) (Nat.lt_irrefl _)) m10
 replace m11 := Touch.cellAt hT (fun h => absurd (L1 _ h) (Nat.lt_irrefl _)) m11
 replace r0 := RepF.touch r0 hT A0_1
 replace F0 := Fresh.touch F0 hT A0_1
 replace r2 := RepF.touch r2 hT A2_1
 replace F2 := Fresh.touch F2 hT A2_1
 replace U := Touch.trans U (Touch.mono hT (fun y hy => (List.mem_append_right _ (List.mem_append_left _ hy))))
 clear hT
 have R2 := LH r2; clear r2
 go_wp2_with fail
 refine (markRoutine_any x.main _ (f2) B0 _ _ R2.out F2 (by omega) (by omega)).mono ?_
 rintro e w2 ⟨rfl, r2, G2, hT⟩
 clear F2
 have F2 := G2; clear G2
 replace m0 := Touch.cellAt hT (fun h => absurd (L2 _ h) (Nat.lt_irrefl _)) m0
 replace m1 := Touch.cellAt hT (fun h => absurd (L2 _ h) (Nat.lt_irrefl _)) m1
 replace m2 := Touch.cellAt hT (fun h => absurd (L2 _ h) (Nat.lt_irrefl _)) m2
 replace m3 := Touch.cellAt hT (fun h => absurd (L2 _ h) (Nat.lt_irrefl _)) m3
 replace m4 := Touch.cellAt hT (fun h => absurd (L2 _ h) (Nat.lt_irrefl _)) m4
 replace m5 := Touch.cellAt hT (fun h => absurd (L2 _ h) (Nat.lt_irrefl _)) m5
 replace m6 := Touch.cellAt hT (fun h => absurd (L2 _ h) (Nat.lt_irrefl _)) m6
 replace m7 := Touch.cellAt hT (fun h => absurd (L2 _ h) (Nat.lt_irrefl _)) m7
 replace m8 := Touch.cellAt hT (fun h => absurd (L2 _ h) (Nat.lt_irrefl _)) m8
 replace m9 := Touch.cellAt hT (fun h => absurd (L2 _ h) (Nat.lt_irrefl _)) m9
 replace m10 := Touch.cellAt hT (fun h => absurd (L2 _ h) (Nat.lt_irrefl _)) m10
 replace m11 := Touch.cellAt hT (fun h => absurd (L2 _ h) (Nat.lt_irrefl _)) m11
 replace r0 := RepF.touch r0 hT A0_2
 replace F0 := Fresh.touch F0 hT A0_2
 replace r1 := RepF.touch r1 hT A1_2
 replace F1 := Fresh.touch F1 hT A1_2
 replace U := Touch.trans U (Touch.mono hT (fun y hy => (List.mem_append_right _ (List.mem_append_right _ hy))))
 clear hT
 have HE := RepF.st (RepS.one r0 (RepS.one r1 (RepS.sub r2 (RepS.nil _))))
 simp only [List.append_nil, List.cons_append, List.nil_append] at HE
 have HQ := LH HE
 clear HE
 have HFR : Fresh w2 B0 (f0 ++ (f1 ++ f2)) := ⟨HFF.out.nodup, HFF.out.ge, fun b hb => by
  simp only [List.mem_append] at hb
  rcases hb with hb | hb
  · exact F0.own b hb
  rcases hb with hb | hb
  · exact F1.own b hb
  · exact F2.own b hb⟩
 go_wp2_with fail
 go_ret
 exact ⟨ret_int (by first | rfl | (push_cast; omega)), HQ.out, HFR, U⟩
theorem MCodeBase.op_f {w : World} {x : MCodeBase} {cs : List Value} {fp : List Nat} (h : RepF w x.d cs fp) : ∃ (a0 : Option Addr) (c0 : Nat) (f0 : List Nat) (a1 : Option Addr) (c1 : Nat) (f1 : List Nat) (a2 : Option Addr) (c2 : Nat) (f2 : List Nat), cs = [.slice a0 x.classes.length c0, .slice a1 x.codes.length c1, .slice a2 x.entries.length c2, .int .i64 x.main] /\ fp = f0 ++ (f1 ++ f2) /\ RepF w (MClassInfos x.classes) [.slice a0 x.classes.length c0] f0 /\ RepF w (MCodes x.codes) [.slice a1 x.codes.length c1] f1 /\ RepF w (MEntrys x.entries) [.slice a2 x.entries.length c2] f2 := by
 rw [MCodeBase.d_eq] at h
 have h1 := RepF.un_st h
 obtain ⟨a3, c4, _, f5, g6, rfl, rfl, s7, h2⟩ := RepS.un_sl h1
 obtain ⟨a9, c10, _, f11, g12, rfl, rfl, s13, h8⟩ := RepS.un_sl h2
 obtain ⟨a15, c16, _, f17, g18, rfl, rfl, s19, h14⟩ := RepS.un_sl h8
 obtain ⟨_, rfl, h20⟩ := RepS.un_int h14
 simp only [RepS] at h20
 obtain ⟨rfl, rfl⟩ := h20
 simp only [strs, ints, MClassInfos, MCodes, MEntrys,  List.length_map] at *
 exact ⟨a3, c4, f5, a9, c10, f11, a15, c16, f17, rfl, by simp, s7, s13, s19⟩
theorem MCodeBase.tcnt_eq (x : MCodeBase) : x.d.tcnt = (MClassInfos x.classes).cnt + (MCodes x.codes).cnt + (MEntrys x.entries).cnt := by
 simp only [MCodeBase.d_eq, D.tcnt, D.tcntL, MClassInfos, D.cnt, MCodes, D.cnt, MEntrys, D.cnt]; omega
theorem MCodeBase.mt_eq (x : MCodeBase) (K : Int) : mtD K x.d = .st [mkD (K) (MClassInfos x.classes), mkD (K + ((MClassInfos x.classes).cnt : Int)) (MCodes x.codes), mkD (K + ((MClassInfos x.classes).cnt : Int) + ((MCodes x.codes).cnt : Int)) (MEntrys x.entries), .int x.main] := by
 simp only [MCodeBase.d_eq, mtD, mtL, mkD, D.tcnt, MClassInfos, MCodes, MEntrys]
 simp [mkD, D.cnt, Int.add_assoc]
theorem markCodeBase_any (x : MCodeBase) (cx : List Value) (fp : List Nat) (B0 : Nat) (K : Int) (w : World) (hr : RepF w x.d cx fp) (hF : Fresh w B0 fp) (h0 : 0 <= K) (h1 : K + x.d.tcnt <= 1099511627776) :
 Calls Tryz.prog 11 #[.agg cx.toArray, .int .i64 K] w (MarkP w (mtD K x.d) cx fp B0 (K + x.d.tcnt)) := by
 have hc := MCodeBase.tcnt_eq x
 rw [MCodeBase.mt_eq]
 obtain ⟨a0, c0, f0, a1, c1, f1, a2, c2, f2, rfl, rfl, s0, s1, s2⟩ := MCodeBase.op_f hr
 clear hr
 rw [hc] at h1 ⊢
 clear hc
 have r0 := s0
 have r1 := s1
 have r2 := s2
 clear s0 s1 s2
 have F0 : Fresh w B0 (f0) := hF.left
 have A1_0 : ∀ b, b ∈ f1 -> b ∉ f0 := fun b h1 h2 => hF.apart b h2 (List.mem_append_left _ h1)
 have A0_1 : ∀ b, b ∈ f0 -> b ∉ f1 := fun b h1 h2 => hF.apart b h1 (List.mem_append_left _ h2)
 have A2_0 : ∀ b, b ∈ f2 -> b ∉ f0 := fun b h1 h2 => hF.apart b h2 (List.mem_append_right _ h1)
 have A0_2 : ∀ b, b ∈ f0 -> b ∉ f2 := fun b h1 h2 => hF.apart b h1 (List.mem_append_right _ h2)
 have F1 : Fresh w B0 (f1) := hF.right.left
 have A2_1 : ∀ b, b ∈ f2 -> b ∉ f1 := fun b h1 h2 => hF.right.apart b h2 h1
 have A1_2 : ∀ b, b ∈ f1 -> b ∉ f2 := fun b h1 h2 => hF.right.apart b h1 h2
 have F2 : Fresh w B0 (f2) := hF.right.right
 have L0 : ∀ b, b ∈ f0 -> b < w.heap.size := fun b hb => F0.lt hb
 have L1 : ∀ b, b ∈ f1 -> b < w.heap.size := fun b hb => F1.lt hb
 have L2 : ∀ b, b ∈ f2 -> b < w.heap.size := fun b hb => F2.lt hb
 have HFF := LH hF
 go_enter Tryz.func11, Tryz.ntmps11
 go_upto_region 1 with fail
 generalize hS : World.alloc w _ = W0
 have x0 : Ext w W0 := by rw [<- hS]; exact (XR _).alloc _
 have m0 : W0.cell? ⟨w.heap.size, 0, none⟩ = some (.slice a0 x.classes.length c0) := by rw [<- hS]; simp
 have m1 : W0.cell? ⟨w.heap.size, 1, none⟩ = some (.slice a1 x.codes.length c1) := by rw [<- hS]; simp
 have m2 : W0.cell? ⟨w.heap.size, 2, none⟩ = some (.slice a2 x.entries.length c2) := by rw [<- hS]; simp
 have m3 : W0.cell? ⟨w.heap.size, 3, none⟩ = some (.int .i64 x.main) := by rw [<- hS]; simp
 clear hS hF
 replace r0 := RepF.ext x0 r0
 replace F0 := Fresh.ext F0 x0
 replace r1 := RepF.ext x0 r1
 replace F1 := Fresh.ext F1 x0
 replace r2 := RepF.ext x0 r2
 replace F2 := Fresh.ext F2 x0
 have U : Touch w W0 (f0 ++ (f1 ++ f2)) := Touch.of_ext x0 _
 have R0 := LH r0; clear r0
 go_wp2_with fail
 refine (markClassInfoS_any x.classes _ (f0) B0 _ _ R0.out F0 (by omega) (by omega)).mono ?_
 rintro e w0 ⟨rfl, r0, G0, hT⟩
 clear F0
 have F0 := G0; clear G0
 replace m0 := Touch.cellAt hT (fun h => absurd (L0 _ h) (Nat.lt_irrefl _)) m0
 replace m1 := Touch.cellAt hT (fun h => absurd (L0 _ h) (Nat.lt_irrefl _)) m1
 replace m2 := Touch.cellAt hT (fun h => absurd (L0 _ h) (Nat.lt_irrefl _)) m2
 replace m3 := Touch.cellAt hT (fun h => absurd (L0 _ h) (Nat.lt_irrefl _)) m3
 replace r1 := RepF.touch r1 hT A1_0
 replace F1 := Fresh.touch F1 hT A1_0
 replace r2 := RepF.touch r2 hT A2_0
 replace F2 := Fresh.touch F2 hT A2_0
 replace U := Touch.trans U (Touch.mono hT (fun y hy => (List.mem_append_left _ hy)))
 clear hT
 have R1 := LH r1; clear r1
 go_wp2_with fail
 refine (markCodeS_any x.codes _ (f1) B0 _ _ R1.out F1 (by omega) (by omega)).mono ?_
 rintro e w1 ⟨rfl, r1, G1, hT⟩
 clear F1
 have F1 := G1; clear G1
 replace m0 := Touch.cellAt hT (fun h => absurd (L1 _ h) (Nat.lt_irrefl _)) m0
 replace m1 := Touch.cellAt hT (fun h => absurd (L1 _ h) (Nat.lt_irrefl _)) m1
 replace m2 := Touch.cellAt hT (fun h => absurd (L1 _ h) (Nat.lt_irrefl _)) m2
 replace m3 := Touch.cellAt hT (fun h => absurd (L1 _ h) (Nat.lt_irrefl _)) m3
 replace r0 := RepF.touch r0 hT A0_1
 replace F0 := Fresh.touch F0 hT A0_1
 replace r2 := RepF.touch r2 hT A2_1
 replace F2 := Fresh.touch F2 hT A2_1
 replace U := Touch.trans U (Touch.mono hT (fun y hy => (List.mem_append_right _ (List.mem_append_left _ hy))))
 clear hT
 have R2 := LH r2; clear r2
 go_wp2_with fail
 refine (markEntryS_any x.entries _ (f2) B0 _ _ R2.out F2 (by omega) (by omega)).mono ?_
 rintro e w2 ⟨rfl, r2, G2, hT⟩
 clear F2
 have F2 := G2; clear G2
 replace m0 := Touch.cellAt hT (fun h => absurd (L2 _ h) (Nat.lt_irrefl _)) m0
 replace m1 := Touch.cellAt hT (fun h => absurd (L2 _ h) (Nat.lt_irrefl _)) m1
 replace m2 := Touch.cellAt hT (fun h => absurd (L2 _ h) (Nat.lt_irrefl _)) m2
 replace m3 := Touch.cellAt hT (fun h => absurd (L2 _ h) (Nat.lt_irrefl _)) m3
 replace r0 := RepF.touch r0 hT A0_2
 replace F0 := Fresh.touch F0 hT A0_2
 replace r1 := RepF.touch r1 hT A1_2
 replace F1 := Fresh.touch F1 hT A1_2
 replace U := Touch.trans U (Touch.mono hT (fun y hy => (List.mem_append_right _ (List.mem_append_right _ hy))))
 clear hT
 have HE := RepF.st (RepS.one r0 (RepS.one r1 (RepS.one r2 (RepS.int (x.main) (RepS.nil _)))))
 simp only [List.append_nil, List.cons_append, List.nil_append] at HE
 have HQ := LH HE
 clear HE
 have HFR : Fresh w2 B0 (f0 ++ (f1 ++ f2)) := ⟨HFF.out.nodup, HFF.out.ge, fun b hb => by
  simp only [List.mem_append] at hb
  rcases hb with hb | hb
  · exact F0.own b hb
  rcases hb with hb | hb
  · exact F1.own b hb
  · exact F2.own b hb⟩
 go_wp2_with fail
 go_ret
 exact ⟨ret_int (by first | rfl | (push_cast; omega)), HQ.out, HFR, U⟩
theorem heldStrings_p (l : List ByteArray) (v : Value) (k0 : Int) (w : World) (hr : Rep w (mkD k0 (strs l)) [v]) (h0 : 0 <= k0) (h1 : k0 + (strs l).cnt <= 1099511627776) : Calls Tryz.prog 64 #[v, .int .i64 k0] w (fun e w' => e = .returned (.int .i64 (k0 + (strs l).cnt)) /\ Ext w w') := by
 have e1 : (strs l).cnt = l.length := by simp [strs, D.cnt, D.cntL_strs]
 have e2 : mkD k0 (strs l) = strs (markL k0 l.length) := by simp [strs, mkD, mkL_strs]
 rw [e1] at h1 ⊢
 rw [e2] at hr
 exact heldStringS_any l.length v k0 w hr h0 h1
theorem MClassInfo.mk_op {w : World} {x : MClassInfo} {K : Int} {cs : List Value} (h : Rep w (mkD K x.d) cs) : ∃ a0 c0, cs = [.string (mtext (K)), .int .i64 (K + 1), .slice a0 x.fields.length c0] /\ Rep w (mkD (K + 2) (strs x.fields)) [.slice a0 x.fields.length c0] := by
 obtain ⟨fp, h⟩ := h
 rw [MClassInfo.mk_eq] at h
 have h0 := RepF.un_st h
 obtain ⟨_, rfl, h1⟩ := RepS.un_str h0
 obtain ⟨_, rfl, h2⟩ := RepS.un_int h1
 obtain ⟨a2, c2, _, f2, g2, rfl, rfl, s2, h3⟩ := RepS.un_sl (by first | exact h2 | (simp only [strs, ints, mkD] at h2; exact h2) | exact (show RepS w (.sl _ _ :: _) _ _ from h2))
 simp only [RepS] at h3
 obtain ⟨rfl, rfl⟩ := h3
 simp only [mkL_length, List.length_map] at s2
 refine ⟨a2, c2, by simp [mkL_length], ⟨_, s2⟩⟩
theorem heldClassInfoS_any (l : List MClassInfo) : ∀ (v : Value) (k0 : Int) (w : World), Rep w (mkD k0 (MClassInfos l)) [v] -> 0 <= k0 -> k0 + (MClassInfos l).cnt <= 1099511627776 -> Calls Tryz.prog 35 #[v, .int .i64 k0] w (fun e w' => e = .returned (.int .i64 (k0 + (MClassInfos l).cnt)) /\ Ext w w') := by
 intro v k0 w hr h0 h1
 obtain ⟨ao, ca, ba, oa, e1, hla, hma, pa, ha⟩ := Rep.sl (show Rep w (.sl 3 (mkL k0 (l.map MClassInfo.d))) [v] from hr)
 simp only [List.cons.injEq, and_true] at e1
 subst e1
 clear hr
 rw [mkL_length, List.length_map] at hla pa ⊢
 unfold maxLen at hma
 have HB := LH h1
 clear h1
 go_enter Tryz.func35, Tryz.ntmps35
 go_wp2_with fail
 go_loopw [1, 5] (fun kv iv wr => ∃ i : Nat, i <= l.length /\ iv = .int .i64 i /\ kv = .int .i64 (k0 + (D.cntL ((l.take i).map MClassInfo.d) : Int)) /\ Ext w wr) (fun _ iv _ => l.length - (intOf iv).toNat)
 case atStart => exact ⟨0, Nat.zero_le _, rfl, by simp [D.cntL], XR _⟩
 case round =>
  obtain ⟨i, hi, rfl, rfl, hx⟩ := hrel
  by_cases hlt : i < l.length
  rotate_left
  · obtain rfl : i = l.length := by omega
    go_wp2_with fail
    go_ret
    exact ⟨ret_int (by rw [List.take_length]; rfl), hx⟩
  obtain rfl := pa (by omega)
  obtain ⟨x, hxl⟩ : ∃ x, l[i]? = some x := ⟨l[i], by simp [hlt]⟩
  obtain ⟨ea, la, cc, ra⟩ := ha i _ (mkL_get k0 _ i x.d (by simp [hxl]))
  rw [<- List.map_take] at ra
  obtain ⟨hc1, hc2⟩ := cnt_at (f := MClassInfo.d) hxl
  have hc3 := MClassInfo.cnt_eq x
  obtain ⟨K, hKe⟩ : ∃ K : Int, k0 + (D.cntL ((l.take i).map MClassInfo.d) : Int) = K := ⟨_, rfl⟩
  rw [hKe] at ra ⊢
  have hK0 : 0 <= K := by omega
  have hcb : K + 2 + ((strs x.fields).cnt : Int) <= 1099511627776 := by have := HB.out; simp only [MClassInfos, D.cnt] at this; omega
  have HNX : Hid (k0 + (D.cntL ((l.take (i + 1)).map MClassInfo.d) : Int) = K + 2 + ((strs x.fields).cnt : Int)) := LH (by rw [hc1, <- hKe, hc3]; push_cast; omega)
  obtain ⟨a0, c0, rfl, s0⟩ := MClassInfo.mk_op ra
  have q0 : wr.cell? ⟨ba, oa + i * 3, none⟩ = some (.string (mtext (K))) := hx.cell (show w.cell? ⟨ba, oa + i * 3, none⟩ = some _ from cc 0 (by omega))
  have q1 : wr.cell? ⟨ba, oa + i * 3 + 1, none⟩ = some (.int .i64 (K + 1)) := hx.cell (show w.cell? ⟨ba, oa + i * 3 + 1, none⟩ = some _ from cc 1 (by omega))
  have q2 : wr.cell? ⟨ba, oa + i * 3 + 2, none⟩ = some (.slice a0 x.fields.length c0) := hx.cell (show w.cell? ⟨ba, oa + i * 3 + 2, none⟩ = some _ from cc 2 (by omega))
  have S0 := LH s0
  clear ha pa la cc ra hc1 hc2 hc3 hKe hxl s0
  have HX := LH hx
  clear hx
  have t0 := str_eqn (congrArg mtext (show K = K by omega))
  go_wp2_with fail
  have g0 := reg (XR _) q0
  refine wp_region_quiet_below (by kernel_rfl) (by kernel_rfl) ?_
  repeat (quiet_step (exact Calls.regrown_of (markText_any _ _ (by omega) (by omega))))
  refine wpQuiet_nil ?_
  clear g0
  intro _ hw'
  obtain ⟨pw, hw''⟩ := hw'
  subst hw''
  have X1 := regx wr pw
  generalize hW2 : «Sort».grow (redrawn wr pw.d) pw.os = w1 at *
  clear hW2
  replace q0 := X1.cell q0
  replace q1 := X1.cell q1
  replace q2 := X1.cell q2
  have t1 := int_eqn (rfl : K + 1 = K + 1)
  go_wp2_with fail
  refine (heldStrings_p x.fields _ _ _ ?_ ?_ ?_).mono ?_
  · have h := Rep.ext ((HX.out).trans X1) S0.out
    simp only [Int.add_assoc, Int.reduceAdd] at h ⊢
    exact h
  · omega
  · omega
  rintro e w2 ⟨rfl, y2⟩
  replace q0 := y2.cell q0
  replace q1 := y2.cell q1
  replace q2 := y2.cell q2
  have p0 : ¬ (K + 1 + 1 + ((strs x.fields).cnt : Int) < 0) := by omega
  have p0b : ¬ (K + 2 + ((strs x.fields).cnt : Int) < 0) := by omega
  have EX := LH (((HX.out).trans X1).trans y2)
  go_wp2_with fail
  go_roundw
  case rel => exact ⟨i + 1, by omega, by go_num, by rw [HNX.out]; congr 1; omega, EX.out⟩
  case measure => simp [intOf]; omega
theorem MInstr.mk_op {w : World} {x : MInstr} {K : Int} {cs : List Value} (h : Rep w (mkD K x.d) cs) : cs = [.int .i64 (K), .int .i64 (K + 1), .int .i64 (K + 2), .string (mtext (K + 3))] := by
 obtain ⟨fp, h⟩ := h
 rw [MInstr.mk_eq] at h
 have h0 := RepF.un_st h
 obtain ⟨_, rfl, h1⟩ := RepS.un_int h0
 obtain ⟨_, rfl, h2⟩ := RepS.un_int h1
 obtain ⟨_, rfl, h3⟩ := RepS.un_int h2
 obtain ⟨_, rfl, h4⟩ := RepS.un_str h3
 simp only [RepS] at h4
 obtain ⟨rfl, rfl⟩ := h4
 rfl
theorem heldInstrS_row (l : List MInstr) : ∀ (v : Value) (k0 : Int) (w : World), Rep w (mkD k0 (MInstrs l)) [v] -> 0 <= k0 -> k0 + (MInstrs l).cnt <= 1099511627776 -> Calls Tryz.prog 65 #[v, .int .i64 k0] w (fun e w' => e = .returned (.int .i64 (k0 + (MInstrs l).cnt)) /\ Ext w w') := by
 intro v k0 w hr h0 h1
 obtain ⟨ao, ca, ba, oa, e1, hla, hma, pa, ha⟩ := Rep.sl (show Rep w (.sl 4 (mkL k0 (l.map MInstr.d))) [v] from hr)
 simp only [List.cons.injEq, and_true] at e1
 subst e1
 clear hr
 rw [mkL_length, List.length_map] at hla pa ⊢
 unfold maxLen at hma
 have HB := LH h1
 clear h1
 go_enter Tryz.func65, Tryz.ntmps65
 go_wp2_with fail
 go_loopw [1, 5] (fun kv iv wr => ∃ i : Nat, i <= l.length /\ iv = .int .i64 i /\ kv = .int .i64 (k0 + (D.cntL ((l.take i).map MInstr.d) : Int)) /\ Ext w wr) (fun _ iv _ => l.length - (intOf iv).toNat)
 case atStart => exact ⟨0, Nat.zero_le _, rfl, by simp [D.cntL], XR _⟩
 case round =>
  obtain ⟨i, hi, rfl, rfl, hx⟩ := hrel
  by_cases hlt : i < l.length
  rotate_left
  · obtain rfl : i = l.length := by omega
    go_wp2_with fail
    go_ret
    exact ⟨ret_int (by rw [List.take_length]; rfl), hx⟩
  obtain rfl := pa (by omega)
  obtain ⟨x, hxl⟩ : ∃ x, l[i]? = some x := ⟨l[i], by simp [hlt]⟩
  obtain ⟨ea, la, cc, ra⟩ := ha i _ (mkL_get k0 _ i x.d (by simp [hxl]))
  rw [<- List.map_take] at ra
  obtain ⟨hc1, hc2⟩ := cnt_at (f := MInstr.d) hxl
  have hc3 := MInstr.cnt_eq x
  obtain ⟨K, hKe⟩ : ∃ K : Int, k0 + (D.cntL ((l.take i).map MInstr.d) : Int) = K := ⟨_, rfl⟩
  rw [hKe] at ra ⊢
  have hK0 : 0 <= K := by omega
  have hcb : K + 4 <= 1099511627776 := by have := HB.out; simp only [MInstrs, D.cnt] at this; omega
  have HNX : Hid (k0 + (D.cntL ((l.take (i + 1)).map MInstr.d) : Int) = K + 4) := LH (by rw [hc1, <- hKe, hc3]; push_cast; omega)
  obtain rfl := MInstr.mk_op ra
  have q0 : wr.cell? ⟨ba, oa + i * 4, none⟩ = some (.int .i64 (K)) := hx.cell (show w.cell? ⟨ba, oa + i * 4, none⟩ = some _ from cc 0 (by omega))
  have q1 : wr.cell? ⟨ba, oa + i * 4 + 1, none⟩ = some (.int .i64 (K + 1)) := hx.cell (show w.cell? ⟨ba, oa + i * 4 + 1, none⟩ = some _ from cc 1 (by omega))
  have q2 : wr.cell? ⟨ba, oa + i * 4 + 2, none⟩ = some (.int .i64 (K + 2)) := hx.cell (show w.cell? ⟨ba, oa + i * 4 + 2, none⟩ = some _ from cc 2 (by omega))
  have q3 : wr.cell? ⟨ba, oa + i * 4 + 3, none⟩ = some (.string (mtext (K + 3))) := hx.cell (show w.cell? ⟨ba, oa + i * 4 + 3, none⟩ = some _ from cc 3 (by omega))
  clear ha pa la cc ra hc1 hc2 hc3 hKe hxl 
  have HX := LH hx
  clear hx
  have t0 := int_eqn (rfl : K = K)
  have t1 := int_eqn (rfl : K + 1 = K + 1)
  have t2 := int_eqn (rfl : K + 2 = K + 2)
  have t3 := str_eqn (congrArg mtext (show K + 3 = K + 1 + 1 + 1 by omega))
  go_wp2_with fail
  have g3 := reg (XR _) q3
  refine wp_region_quiet_below (by kernel_rfl) (by kernel_rfl) ?_
  repeat (quiet_step (exact Calls.regrown_of (markText_any _ _ (by omega) (by omega))))
  refine wpQuiet_nil ?_
  clear g3
  intro _ hw'
  obtain ⟨pw, hw''⟩ := hw'
  subst hw''
  have X1 := regx wr pw
  generalize hW2 : «Sort».grow (redrawn wr pw.d) pw.os = w1 at *
  clear hW2
  replace q0 := X1.cell q0
  replace q1 := X1.cell q1
  replace q2 := X1.cell q2
  replace q3 := X1.cell q3
  have EX := LH ((HX.out).trans X1)
  go_wp2_with fail
  go_roundw
  case rel => exact ⟨i + 1, by omega, by go_num, by rw [HNX.out] <;> (congr 1 <;> omega), EX.out⟩
  case measure => simp [intOf]; omega
theorem MCode.mk_op {w : World} {x : MCode} {K : Int} {cs : List Value} (h : Rep w (mkD K x.d) cs) : ∃ a0 c0, cs = [.bool ((K) % 3 == 0), .int .i64 (K + 1), .int .i64 (K + 2), .slice a0 x.instrs.length c0] /\ Rep w (mkD (K + 3) (MInstrs x.instrs)) [.slice a0 x.instrs.length c0] := by
 obtain ⟨fp, h⟩ := h
 rw [MCode.mk_eq] at h
 have h0 := RepF.un_st h
 obtain ⟨_, rfl, h1⟩ := RepS.un_bool h0
 obtain ⟨_, rfl, h2⟩ := RepS.un_int h1
 obtain ⟨_, rfl, h3⟩ := RepS.un_int h2
 obtain ⟨a3, c3, _, f3, g3, rfl, rfl, s3, h4⟩ := RepS.un_sl (by first | exact h3 | (simp only [strs, ints, mkD] at h3; exact h3) | exact (show RepS w (.sl _ _ :: _) _ _ from h3))
 simp only [RepS] at h4
 obtain ⟨rfl, rfl⟩ := h4
 simp only [mkL_length, List.length_map] at s3
 refine ⟨a3, c3, by simp [mkL_length], ⟨_, s3⟩⟩
theorem heldCodeS_any (l : List MCode) : ∀ (v : Value) (k0 : Int) (w : World), Rep w (mkD k0 (MCodes l)) [v] -> 0 <= k0 -> k0 + (MCodes l).cnt <= 1099511627776 -> Calls Tryz.prog 36 #[v, .int .i64 k0] w (fun e w' => e = .returned (.int .i64 (k0 + (MCodes l).cnt)) /\ Ext w w') := by
 intro v k0 w hr h0 h1
 obtain ⟨ao, ca, ba, oa, e1, hla, hma, pa, ha⟩ := Rep.sl (show Rep w (.sl 4 (mkL k0 (l.map MCode.d))) [v] from hr)
 simp only [List.cons.injEq, and_true] at e1
 subst e1
 clear hr
 rw [mkL_length, List.length_map] at hla pa ⊢
 unfold maxLen at hma
 have HB := LH h1
 clear h1
 go_enter Tryz.func36, Tryz.ntmps36
 go_wp2_with fail
 go_loopw [1, 5] (fun kv iv wr => ∃ i : Nat, i <= l.length /\ iv = .int .i64 i /\ kv = .int .i64 (k0 + (D.cntL ((l.take i).map MCode.d) : Int)) /\ Ext w wr) (fun _ iv _ => l.length - (intOf iv).toNat)
 case atStart => exact ⟨0, Nat.zero_le _, rfl, by simp [D.cntL], XR _⟩
 case round =>
  obtain ⟨i, hi, rfl, rfl, hx⟩ := hrel
  by_cases hlt : i < l.length
  rotate_left
  · obtain rfl : i = l.length := by omega
    go_wp2_with fail
    go_ret
    exact ⟨ret_int (by rw [List.take_length]; rfl), hx⟩
  obtain rfl := pa (by omega)
  obtain ⟨x, hxl⟩ : ∃ x, l[i]? = some x := ⟨l[i], by simp [hlt]⟩
  obtain ⟨ea, la, cc, ra⟩ := ha i _ (mkL_get k0 _ i x.d (by simp [hxl]))
  rw [<- List.map_take] at ra
  obtain ⟨hc1, hc2⟩ := cnt_at (f := MCode.d) hxl
  have hc3 := MCode.cnt_eq x
  obtain ⟨K, hKe⟩ : ∃ K : Int, k0 + (D.cntL ((l.take i).map MCode.d) : Int) = K := ⟨_, rfl⟩
  rw [hKe] at ra ⊢
  have hK0 : 0 <= K := by omega
  have hcb : K + 3 + ((MInstrs x.instrs).cnt : Int) <= 1099511627776 := by have := HB.out; simp only [MCodes, D.cnt] at this; omega
  have HNX : Hid (k0 + (D.cntL ((l.take (i + 1)).map MCode.d) : Int) = K + 3 + ((MInstrs x.instrs).cnt : Int)) := LH (by rw [hc1, <- hKe, hc3]; push_cast; omega)
  obtain ⟨a0, c0, rfl, s0⟩ := MCode.mk_op ra
  have q0 : wr.cell? ⟨ba, oa + i * 4, none⟩ = some (.bool ((K) % 3 == 0)) := hx.cell (show w.cell? ⟨ba, oa + i * 4, none⟩ = some _ from cc 0 (by omega))
  have q1 : wr.cell? ⟨ba, oa + i * 4 + 1, none⟩ = some (.int .i64 (K + 1)) := hx.cell (show w.cell? ⟨ba, oa + i * 4 + 1, none⟩ = some _ from cc 1 (by omega))
  have q2 : wr.cell? ⟨ba, oa + i * 4 + 2, none⟩ = some (.int .i64 (K + 2)) := hx.cell (show w.cell? ⟨ba, oa + i * 4 + 2, none⟩ = some _ from cc 2 (by omega))
  have q3 : wr.cell? ⟨ba, oa + i * 4 + 3, none⟩ = some (.slice a0 x.instrs.length c0) := hx.cell (show w.cell? ⟨ba, oa + i * 4 + 3, none⟩ = some _ from cc 3 (by omega))
  have S0 := LH s0
  clear ha pa la cc ra hc1 hc2 hc3 hKe hxl s0
  have HX := LH hx
  clear hx
  have t0 : ∀ b : Bool, (b != b) = false := fun b => by cases b <;> rfl
  have t1 := int_eqn (rfl : K + 1 = K + 1)
  have t2 := int_eqn (rfl : K + 2 = K + 2)
  go_wp2_with fail
  refine (heldInstrS_row x.instrs _ _ _ ?_ ?_ ?_).mono ?_
  · have h := Rep.ext (HX.out) S0.out
    simp only [Int.add_assoc, Int.reduceAdd] at h ⊢
    exact h
  · omega
  · omega
  rintro e w1 ⟨rfl, y1⟩
  replace q0 := y1.cell q0
  replace q1 := y1.cell q1
  replace q2 := y1.cell q2
  replace q3 := y1.cell q3
  have p0 : ¬ (K + 1 + 1 + 1 + ((MInstrs x.instrs).cnt : Int) < 0) := by omega
  have p0b : ¬ (K + 3 + ((MInstrs x.instrs).cnt : Int) < 0) := by omega
  have EX := LH ((HX.out).trans y1)
  go_wp2_with fail
  go_roundw
  case rel => exact ⟨i + 1, by omega, by go_num, by rw [HNX.out]; congr 1; omega, EX.out⟩
  case measure => simp [intOf]; omega
theorem MEntry.mk_op {w : World} {x : MEntry} {K : Int} {cs : List Value} (h : Rep w (mkD K x.d) cs) : cs = [.int .i64 (K), .bool ((K + 1) % 3 == 0), .string (mtext (K + 2)), .int .i64 (K + 3)] := by
 obtain ⟨fp, h⟩ := h
 rw [MEntry.mk_eq] at h
 have h0 := RepF.un_st h
 obtain ⟨_, rfl, h1⟩ := RepS.un_int h0
 obtain ⟨_, rfl, h2⟩ := RepS.un_bool h1
 obtain ⟨_, rfl, h3⟩ := RepS.un_str h2
 obtain ⟨_, rfl, h4⟩ := RepS.un_int h3
 simp only [RepS] at h4
 obtain ⟨rfl, rfl⟩ := h4
 rfl
theorem heldEntryS_any (l : List MEntry) : ∀ (v : Value) (k0 : Int) (w : World), Rep w (mkD k0 (MEntrys l)) [v] -> 0 <= k0 -> k0 + (MEntrys l).cnt <= 1099511627776 -> Calls Tryz.prog 37 #[v, .int .i64 k0] w (fun e w' => e = .returned (.int .i64 (k0 + (MEntrys l).cnt)) /\ Ext w w') := by
 intro v k0 w hr h0 h1
 obtain ⟨ao, ca, ba, oa, e1, hla, hma, pa, ha⟩ := Rep.sl (show Rep w (.sl 4 (mkL k0 (l.map MEntry.d))) [v] from hr)
 simp only [List.cons.injEq, and_true] at e1
 subst e1
 clear hr
 rw [mkL_length, List.length_map] at hla pa ⊢
 unfold maxLen at hma
 have HB := LH h1
 clear h1
 go_enter Tryz.func37, Tryz.ntmps37
 go_wp2_with fail
 go_loopw [1, 5] (fun kv iv wr => ∃ i : Nat, i <= l.length /\ iv = .int .i64 i /\ kv = .int .i64 (k0 + (D.cntL ((l.take i).map MEntry.d) : Int)) /\ Ext w wr) (fun _ iv _ => l.length - (intOf iv).toNat)
 case atStart => exact ⟨0, Nat.zero_le _, rfl, by simp [D.cntL], XR _⟩
 case round =>
  obtain ⟨i, hi, rfl, rfl, hx⟩ := hrel
  by_cases hlt : i < l.length
  rotate_left
  · obtain rfl : i = l.length := by omega
    go_wp2_with fail
    go_ret
    exact ⟨ret_int (by rw [List.take_length]; rfl), hx⟩
  obtain rfl := pa (by omega)
  obtain ⟨x, hxl⟩ : ∃ x, l[i]? = some x := ⟨l[i], by simp [hlt]⟩
  obtain ⟨ea, la, cc, ra⟩ := ha i _ (mkL_get k0 _ i x.d (by simp [hxl]))
  rw [<- List.map_take] at ra
  obtain ⟨hc1, hc2⟩ := cnt_at (f := MEntry.d) hxl
  have hc3 := MEntry.cnt_eq x
  obtain ⟨K, hKe⟩ : ∃ K : Int, k0 + (D.cntL ((l.take i).map MEntry.d) : Int) = K := ⟨_, rfl⟩
  rw [hKe] at ra ⊢
  have hK0 : 0 <= K := by omega
  have hcb : K + 4 <= 1099511627776 := by have := HB.out; simp only [MEntrys, D.cnt] at this; omega
  have HNX : Hid (k0 + (D.cntL ((l.take (i + 1)).map MEntry.d) : Int) = K + 4) := LH (by rw [hc1, <- hKe, hc3]; push_cast; omega)
  obtain rfl := MEntry.mk_op ra
  have q0 : wr.cell? ⟨ba, oa + i * 4, none⟩ = some (.int .i64 (K)) := hx.cell (show w.cell? ⟨ba, oa + i * 4, none⟩ = some _ from cc 0 (by omega))
  have q1 : wr.cell? ⟨ba, oa + i * 4 + 1, none⟩ = some (.bool ((K + 1) % 3 == 0)) := hx.cell (show w.cell? ⟨ba, oa + i * 4 + 1, none⟩ = some _ from cc 1 (by omega))
  have q2 : wr.cell? ⟨ba, oa + i * 4 + 2, none⟩ = some (.string (mtext (K + 2))) := hx.cell (show w.cell? ⟨ba, oa + i * 4 + 2, none⟩ = some _ from cc 2 (by omega))
  have q3 : wr.cell? ⟨ba, oa + i * 4 + 3, none⟩ = some (.int .i64 (K + 3)) := hx.cell (show w.cell? ⟨ba, oa + i * 4 + 3, none⟩ = some _ from cc 3 (by omega))
  clear ha pa la cc ra hc1 hc2 hc3 hKe hxl 
  have HX := LH hx
  clear hx
  have t0 := int_eqn (rfl : K = K)
  have t1 : ∀ b : Bool, (b != b) = false := fun b => by cases b <;> rfl
  have t2 := str_eqn (congrArg mtext (show K + 2 = K + 1 + 1 by omega))
  go_wp2_with fail
  have g2 := reg (XR _) q2
  refine wp_region_quiet_below (by kernel_rfl) (by kernel_rfl) ?_
  repeat (quiet_step (exact Calls.regrown_of (markText_any _ _ (by omega) (by omega))))
  refine wpQuiet_nil ?_
  clear g2
  intro _ hw'
  obtain ⟨pw, hw''⟩ := hw'
  subst hw''
  have X1 := regx wr pw
  generalize hW2 : «Sort».grow (redrawn wr pw.d) pw.os = w1 at *
  clear hW2
  replace q0 := X1.cell q0
  replace q1 := X1.cell q1
  replace q2 := X1.cell q2
  replace q3 := X1.cell q3
  have t3 := int_eqn (rfl : K + 3 = K + 3)
  have EX := LH ((HX.out).trans X1)
  go_wp2_with fail
  go_roundw
  case rel => exact ⟨i + 1, by omega, by go_num, by rw [HNX.out] <;> (congr 1 <;> omega), EX.out⟩
  case measure => simp [intOf]; omega
theorem MCodeBase.mt_op {w : World} {x : MCodeBase} {K : Int} {cs : List Value} (h : Rep w (mtD K x.d) cs) : ∃ a0 c0 a1 c1 a2 c2, cs = [.slice a0 x.classes.length c0, .slice a1 x.codes.length c1, .slice a2 x.entries.length c2, .int .i64 x.main] /\ Rep w (mkD (K) (MClassInfos x.classes)) [.slice a0 x.classes.length c0] /\ Rep w (mkD (K + ((MClassInfos x.classes).cnt : Int)) (MCodes x.codes)) [.slice a1 x.codes.length c1] /\ Rep w (mkD (K + ((MClassInfos x.classes).cnt : Int) + ((MCodes x.codes).cnt : Int)) (MEntrys x.entries)) [.slice a2 x.entries.length c2] := by
 obtain ⟨fp, h⟩ := h
 rw [MCodeBase.mt_eq] at h
 have h0 := RepF.un_st h
 obtain ⟨a0, c0, _, f0, g0, rfl, rfl, s0, h1⟩ := RepS.un_sl (show RepS w (.sl _ _ :: _) _ _ from h0)
 simp only [mkL_length, List.length_map] at s0
 obtain ⟨a1, c1, _, f1, g1, rfl, rfl, s1, h2⟩ := RepS.un_sl (show RepS w (.sl _ _ :: _) _ _ from h1)
 simp only [mkL_length, List.length_map] at s1
 obtain ⟨a2, c2, _, f2, g2, rfl, rfl, s2, h3⟩ := RepS.un_sl (show RepS w (.sl _ _ :: _) _ _ from h2)
 simp only [mkL_length, List.length_map] at s2
 obtain ⟨_, rfl, h4⟩ := RepS.un_int h3
 simp only [RepS] at h4
 obtain ⟨rfl, rfl⟩ := h4
 exact ⟨a0, c0, a1, c1, a2, c2, by simp [mkL_length], ⟨_, s0⟩, ⟨_, s1⟩, ⟨_, s2⟩⟩
theorem heldCodeBase_any (x : MCodeBase) (cx : List Value) (K : Int) (w : World) (hr : Rep w (mtD K x.d) cx) (h0 : 0 <= K) (h1 : K + x.d.tcnt <= 1099511627776) :
 Calls Tryz.prog 12 #[.agg cx.toArray, .int .i64 K] w (fun e w' => e = .returned (.int .i64 (K + x.d.tcnt)) /\ Ext w w') := by
 have hc := MCodeBase.tcnt_eq x
 rw [hc] at h1 ⊢
 clear hc
 obtain ⟨a0, c0, a1, c1, a2, c2, rfl, r0, r1, r2⟩ := MCodeBase.mt_op hr
 clear hr
 go_enter Tryz.func12, Tryz.ntmps12
 go_upto_region 1 with fail
 generalize hS : World.alloc w _ = W0
 have x0 : Ext w W0 := by rw [<- hS]; exact (XR _).alloc _
 have m0 : W0.cell? ⟨w.heap.size, 0, none⟩ = some (.slice a0 x.classes.length c0) := by rw [<- hS]; simp
 have m1 : W0.cell? ⟨w.heap.size, 1, none⟩ = some (.slice a1 x.codes.length c1) := by rw [<- hS]; simp
 have m2 : W0.cell? ⟨w.heap.size, 2, none⟩ = some (.slice a2 x.entries.length c2) := by rw [<- hS]; simp
 have m3 : W0.cell? ⟨w.heap.size, 3, none⟩ = some (.int .i64 x.main) := by rw [<- hS]; simp
 clear hS
 have R0 := LH r0; clear r0
 have R1 := LH r1; clear r1
 have R2 := LH r2; clear r2
 go_wp2_with fail
 refine (heldClassInfoS_any x.classes _ _ _ (Rep.ext (x0) R0.out) (by omega) (by omega)).mono ?_
 rintro e w0 ⟨rfl, y0⟩
 replace m0 := y0.cell m0
 replace m1 := y0.cell m1
 replace m2 := y0.cell m2
 replace m3 := y0.cell m3
 have p0 : ¬ (K + ((MClassInfos x.classes).cnt : Int) < 0) := by omega
 go_wp2_with fail
 refine (heldCodeS_any x.codes _ _ _ (Rep.ext ((x0).trans y0) R1.out) (by omega) (by omega)).mono ?_
 rintro e w1 ⟨rfl, y1⟩
 replace m0 := y1.cell m0
 replace m1 := y1.cell m1
 replace m2 := y1.cell m2
 replace m3 := y1.cell m3
 have p1 : ¬ (K + ((MClassInfos x.classes).cnt : Int) + ((MCodes x.codes).cnt : Int) < 0) := by omega
 go_wp2_with fail
 refine (heldEntryS_any x.entries _ _ _ (Rep.ext (((x0).trans y0).trans y1) R2.out) (by omega) (by omega)).mono ?_
 rintro e w2 ⟨rfl, y2⟩
 replace m0 := y2.cell m0
 replace m1 := y2.cell m1
 replace m2 := y2.cell m2
 replace m3 := y2.cell m3
 have p2 : ¬ (K + ((MClassInfos x.classes).cnt : Int) + ((MCodes x.codes).cnt : Int) + ((MEntrys x.entries).cnt : Int) < 0) := by omega
 have EX := LH ((((x0).trans y0).trans y1).trans y2)
 go_wp2_with fail
 go_ret
 exact ⟨ret_int (by first | rfl | (push_cast; omega)), EX.out⟩
end Go.Proofs.YtlaclfeljimffaaGreatDoor
