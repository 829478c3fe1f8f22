/-
  SEVERAL TEXTS IN ONE: CONTRACTS: the program's copyExprs, copyMethod; CONTRACTS: the small functions of the reference's parser, continued.
  Conditions: those that each lemma states.
-/
import Derived.Test.YtonmcoojgkgemaaGreatDoorRows
import Derived.Test.YtonmcoojgkgemaaGreatDoorP31
import Derived.Test.YtonmcoojgkgemaaGreatDoorParMI
import Derived.Test.YtonmcoojgkgemaaGreatDoorP23
import Derived.Test.YtonmcoojgkgemaaGreatDoorP16
namespace Go.Proofs.YtonmcoojgkgemaaGreatDoor
open Go.RowKit
set_option linter.unusedSimpArgs false
set_option linter.unusedVariables false

set_option maxHeartbeats 8000000 in
set_option maxRecDepth 100000 in
theorem copyExprs_any (l : List MExpr) (va : Value) (w : World) (rl : Rep w (MExprs l) [va]) (hb : (MExprs l).bulk ≤ 1048576) : Calls Tryz.prog 80 #[va] w (GivesV w (MExprs l)) := by
  obtain ⟨ao, ca, ba, oa, e1, hla, hma, pa, hra⟩ := Rep.slmap rl
  simp only [List.cons.injEq, and_true] at e1
  subst e1
  clear rl
  unfold maxLen at hma
  have hbk : Hid (l.length + D.bulkL (l.map MExpr.d) ≤ 1048576) := Lib.hid (by simpa only [MExprs, D.bulk, List.length_map] using hb)
  have hkl : l.length ≤ 1048576 := by have := hbk.out; omega
  clear hb
  go_enter Tryz.func80, Tryz.ntmps80
  go_upto_region 2 with fail
  generalize hS : World.alloc w _ = W4
  have hx4 : Ext w W4 := by rw [← hS]; exact (Ext.refl _).alloc _
  have AK4 : Hid (Acc w.heap.size W4 25 5 (.slice (some ⟨w.heap.size, 0, none⟩) 0 0) ([] : List D) []) := Lib.hid (by rw [← hS]; exact Acc.empty 25 5 (Nat.le_refl _))
  clear hS
  go_wp2_with fail
  go_loopw [3, 9] (fun kv iv wr => ∃ (k : Nat) (fp : List Nat), k ≤ l.length ∧ iv = .int .i64 k ∧ Ext w wr ∧ Hid (Acc w.heap.size wr 25 5 kv ((l.take k).map MExpr.d) fp)) (fun _ iv _ => l.length - (intOf iv).toNat)
  case atStart => exact ⟨0, [], Nat.zero_le _, rfl, hx4, AK4⟩
  case round =>
    clear AK4 hx4
    obtain ⟨kv, hkv⟩ : ∃ x, x = u3 := ⟨_, rfl⟩
    subst hkv
    obtain ⟨k, fp, hk', rfl, hx, hK⟩ := hrel
    have hwr := hx.size
    by_cases hlt : k < l.length
    · obtain rfl := pa (by omega)
      obtain ⟨ea, la, cl, ra⟩ := hra k l[k] (by simp [hlt])
      obtain ⟨aa0, cc0, aa1, cc1, rfl, -, -⟩ := MExpr.op_en ra
      have t0 := hx.cell (show w.cell? ⟨ba, oa + k * 5, none⟩ = some _ from cl 0 (by omega))
      have t1 := hx.cell (show w.cell? ⟨ba, oa + k * 5 + 1, none⟩ = some _ from cl 1 (by omega))
      have t2 := hx.cell (show w.cell? ⟨ba, oa + k * 5 + 2, none⟩ = some _ from cl 2 (by omega))
      have t3 := hx.cell (show w.cell? ⟨ba, oa + k * 5 + 3, none⟩ = some _ from cl 3 (by omega))
      have t4 := hx.cell (show w.cell? ⟨ba, oa + k * 5 + 4, none⟩ = some _ from cl 4 (by omega))
      clear cl la hra pa
      have hbz : l[k].d.bulk ≤ 1048576 := by have := D.bulkL_mem (List.mem_map.2 ⟨l[k], List.getElem_mem hlt, rfl⟩ : l[k].d ∈ l.map MExpr.d); have := hbk.out; omega
      go_upto_region 5 with fail
      generalize hS : World.alloc wr _ = W5
      have x5 : Ext wr W5 := by rw [← hS]; exact (Ext.refl _).alloc _
      have OK : Own W5 wr.heap.size 25 #[.int .i64 l[k].kind, .string l[k].text, .int .i64 l[k].number, .slice aa0 l[k].names.length cc0, .slice aa1 l[k].kids.length cc1] := by rw [← hS]; exact own_new wr _ _
      have RA := Lib.hid (Rep.ext (hx.trans x5) ra)
      clear hS t0 t1 t2 t3 t4 ra
      have q0 : W5.cell? ⟨wr.heap.size, 0, none⟩ = some (.int .i64 l[k].kind) := OK.cell 0
      have qf0 := OK.frozen 0
      have q1 : W5.cell? ⟨wr.heap.size, 1, none⟩ = some (.string l[k].text) := OK.cell 1
      have qf1 := OK.frozen 1
      have q2 : W5.cell? ⟨wr.heap.size, 2, none⟩ = some (.int .i64 l[k].number) := OK.cell 2
      have qf2 := OK.frozen 2
      have q3 : W5.cell? ⟨wr.heap.size, 3, none⟩ = some (.slice aa0 l[k].names.length cc0) := OK.cell 3
      have qf3 := OK.frozen 3
      have q4 : W5.cell? ⟨wr.heap.size, 4, none⟩ = some (.slice aa1 l[k].kids.length cc1) := OK.cell 4
      have qf4 := OK.frozen 4
      have qz := OK.lt
      go_wp2_with fail
      refine (copyExpr_any l[k] _ W5 RA.out hbz).mono ?_
      rintro e w6 ⟨cs, gp, rfl, r6, f6, x6⟩
      obtain ⟨z1, z2, z3, z4, rfl⟩ := fld5 r6
      have HR6 := Lib.hid r6
      have HF6 := Lib.hid f6
      have hxx := x5.trans x6
      have hx6 := hx.trans hxx
      have K6 := Lib.hid (Acc.ext hK.out hxx)
      have hs5 := x5.size
      have hs6 := x6.size
      have HOB : Hid (∀ k, kv.ownBlock = some k → w.heap.size ≤ k ∧ k < wr.heap.size) := Lib.hid fun k hk => Acc.ge hK.out hk
      have HFR : Hid (Fresh wr w.heap.size fp) := Lib.hid (by obtain ⟨_, _, _, h, _⟩ := hK.out; exact h)
      clear r6 f6 x5 x6 hK OK q0 qf0 q1 qf1 q2 qf2 q3 qf3 q4 qf4 qz RA hx
      have x7 : Ext w6 (w6.alloc (.cells #[.int .i64 l[k].kind, .string l[k].text, .int .i64 l[k].number, .slice z1 l[k].names.length z2, .slice z3 l[k].kids.length z4] 25)) := (Ext.refl w6).alloc _
      have KD := Acc.ext K6.out x7
      have HSL := one_expr (HR6.out.ext x7) (own_new w6 #[.int .i64 l[k].kind, .string l[k].text, .int .i64 l[k].number, .slice z1 l[k].names.length z2, .slice z3 l[k].kids.length z4] 25)
      have hFF : Fresh (w6.alloc (.cells #[.int .i64 l[k].kind, .string l[k].text, .int .i64 l[k].number, .slice z1 l[k].names.length z2, .slice z3 l[k].kids.length z4] 25)) w.heap.size (fp ++ gp) := (HFR.out.append (hxx.trans x7) ((HF6.out.ext x7).mono hs5) (Nat.le_refl _) (by omega))
      obtain ⟨i0, hi, hz0, hz1, hz2⟩ := info_parts exprInfo
      have hlk : ((l.take k).map MExpr.d).length = k := by simp; omega
      go_wp2_with (at_builtin; refine wpList_append_at rfl _ _ 23 rfl w.heap.size 25 i0 _ 5 80 Tryz.underlying23 hi hz0 hz1 hz2 rfl (by decide) kv ((l.take k).map MExpr.d) fp rfl KD [l[k].d] _ 1 1 (w6.heap.size :: gp) rfl HSL hFF (fun k hk hm => by have h1 := (HOB.out k hk).2; have h2 := HF6.out.ge k hm; omega) (by rw [hlk]; unfold maxLen; omega) (by rw [hlk]; omega) (by have := x7.size; omega) ?_)
      intro a7 k7 w7 ac7 g7 m7
      have TG : Touch (w6.alloc (.cells #[.int .i64 l[k].kind, .string l[k].text, .int .i64 l[k].number, .slice z1 l[k].names.length z2, .slice z3 l[k].kids.length z4] 25)) w7 kv.ownBlock.toList := (Touch.of_ext (Ext.refl _) _).grown g7 fun k hk => Or.inl (by simp [hk])
      have hw7 : Ext w w7 := Touch.ext (hx6.trans x7) TG (fun k hk => (HOB.out k (by simpa using hk)).1)
      have HK7 : Hid (Acc w.heap.size w7 25 5 (.slice a7 (k + 1) k7) ((l.take (k + 1)).map MExpr.d) (fp ++ gp)) := Lib.hid (by rw [List.take_succ_eq_append_getElem hlt, List.map_append, List.map_take]; exact ac7)
      clear KD HSL hFF g7 m7 TG ac7 x7 K6 HR6 HF6 hi hz0 hz1 hz2
      generalize hv7 : Value.slice a7 (k + 1) k7 = v7 at *
      go_wp2_with fail
      go_roundw
      case rel => exact ⟨k + 1, fp ++ gp, by omega, by go_num, hw7, HK7⟩
      case measure => simp [intOf]; omega
    · obtain rfl : k = l.length := by omega
      obtain ⟨ak, ck, gk, rfl, rk, fk⟩ := Acc.rep hK.out
      rw [List.take_length, List.length_map] at rk
      rw [List.take_length, List.length_map]
      have FIN : GivesV w (MExprs l) (.returned (.slice ak l.length ck)) wr := ⟨ak, _, ck, gk, rfl, rk, fk, hx⟩
      clear hK rk fk
      go_wp2_with fail
      go_ret
      exact FIN

set_option maxHeartbeats 8000000 in
set_option maxRecDepth 100000 in
theorem copyMethod_any (x : MMethod) (cx : List Value) (w : World) (rx : Rep w x.d cx) (hb : x.d.bulk ≤ 1048576) : Calls Tryz.prog 41 #[.agg cx.toArray] w (GivesS w x.d) := by
  obtain ⟨a1, c1, a2, c2, a3, c3, rfl, r1, r2, r3⟩ := MMethod.op_en rx
  clear rx
  have hbb : (MExprs x.body).bulk ≤ 1048576 := by
    rw [MMethod.d_eq] at hb
    simp only [D.bulk, D.bulkL] at hb ⊢
    omega
  have hnp : x.params.length ≤ 1048576 ∧ x.temps.length ≤ 1048576 := by
    rw [MMethod.d_eq] at hb
    simp only [strs, D.bulk, D.bulkL, List.length_map] at hb
    omega
  obtain ⟨hnp, hnt⟩ := hnp
  have R1 := Lib.hid r1
  have R2 := Lib.hid r2
  have R3 := Lib.hid r3
  clear hb r1 r2 r3
  go_enter Tryz.func41, Tryz.ntmps41
  go_upto_region 1 with fail
  generalize hS : World.alloc (World.alloc w _) _ = W1
  have x1 : Ext w W1 := by rw [← hS]; exact ((Ext.refl _).alloc _).alloc _
  have OX : Own W1 w.heap.size 32 #[.string x.selector, .bool x.cls, .slice a1 x.params.length c1, .slice a2 x.temps.length c2, .slice a3 x.body.length c3] := by rw [← hS]; exact (own_new w _ _).ext ((Ext.refl _).alloc _)
  have OR : Own W1 (w.heap.size + 1) 32 #[.string ⟨#[]⟩, .bool false, .slice none 0 0, .slice none 0 0, .slice none 0 0] := by rw [← hS]; exact own_new2 w _ _ _
  have hs1 : w.heap.size + 2 ≤ W1.heap.size := by rw [← hS]; simp
  clear hS
  have q0 : W1.cell? ⟨w.heap.size, 0, none⟩ = some (.string x.selector) := OX.cell 0
  have qf0 := OX.frozen 0
  have q1 : W1.cell? ⟨w.heap.size, 1, none⟩ = some (.bool x.cls) := OX.cell 1
  have qf1 := OX.frozen 1
  have q2 : W1.cell? ⟨w.heap.size, 2, none⟩ = some (.slice a1 x.params.length c1) := OX.cell 2
  have qf2 := OX.frozen 2
  have q3 : W1.cell? ⟨w.heap.size, 3, none⟩ = some (.slice a2 x.temps.length c2) := OX.cell 3
  have qf3 := OX.frozen 3
  have q4 : W1.cell? ⟨w.heap.size, 4, none⟩ = some (.slice a3 x.body.length c3) := OX.cell 4
  have qf4 := OX.frozen 4
  have qz := OX.lt
  have x2 : Ext W1 (W1.alloc (.cells #[] 9)) := (Ext.refl W1).alloc _
  have KD : AccT W1.heap.size (W1.alloc (.cells #[] 9)) (.slice (some ⟨W1.heap.size, 0, none⟩) 0 0) [] := Acc.empty _ _ (Nat.le_refl _)
  have HS1 := Rep.ext (x1.trans x2) R1.out
  have hl1 : ([] : List ByteArray).length + x.params.length ≤ 1073741824 := by simp; omega
  go_wp2_with (at_builtin; refine wpList_append_strs_at rfl _ _ rfl W1.heap.size _ [] rfl KD x.params _ _ _ rfl HS1 hl1 (by simp) ?_)
  intro b1 k1 w11 ac1 g1 m1
  have TG : Touch (W1.alloc (.cells #[] 9)) w11 [W1.heap.size] := (Touch.of_ext (Ext.refl _) _).grown g1 fun k hk => Or.inl (by simp [Value.ownBlock] at hk; simp [hk])
  have X2 : Ext W1 w11 := Touch.ext x2 TG (fun k hk => by simp at hk; omega)
  have OX1 := OX.ext X2
  have OR1 := OR.ext X2
  have hs11 := X2.size
  have hx11 := x1.trans X2
  obtain ⟨_, _, g1_, hv_1, r1_, f1_⟩ := AccT.rep ac1
  injection hv_1 with hv1 _ hv2
  subst hv1
  subst hv2
  have HR1 := Lib.hid r1_
  have HF1 := Lib.hid f1_
  have hg1_ := fun k (hk : k ∈ g1_) => f1_.lt hk
  have Hext1 := Lib.hid X2
  have HG1 := Lib.hid hg1_
  clear KD HS1 hl1 g1 m1 TG x2 ac1 OX OR X2 q0 qf0 q1 qf1 q2 qf2 q3 qf3 q4 qf4 qz r1_ f1_ hg1_
  have q0 : w11.cell? ⟨w.heap.size, 0, none⟩ = some (.string x.selector) := OX1.cell 0
  have qf0 := OX1.frozen 0
  have q1 : w11.cell? ⟨w.heap.size, 1, none⟩ = some (.bool x.cls) := OX1.cell 1
  have qf1 := OX1.frozen 1
  have q2 : w11.cell? ⟨w.heap.size, 2, none⟩ = some (.slice a1 x.params.length c1) := OX1.cell 2
  have qf2 := OX1.frozen 2
  have q3 : w11.cell? ⟨w.heap.size, 3, none⟩ = some (.slice a2 x.temps.length c2) := OX1.cell 3
  have qf3 := OX1.frozen 3
  have q4 : w11.cell? ⟨w.heap.size, 4, none⟩ = some (.slice a3 x.body.length c3) := OX1.cell 4
  have qf4 := OX1.frozen 4
  have qz := OX1.lt
  go_upto_region 2 with fail
  generalize hS : World.setCell w11 _ _ = v11
  have TT1 : Touch w11 v11 [w.heap.size] := by rw [← hS]; exact (Touch.of_ext (Ext.refl _) _).setCell (by simp) _
  have OY1 : Own v11 w.heap.size 32 #[.string x.selector, .bool x.cls, .slice b1 x.params.length k1, .slice a2 x.temps.length c2, .slice a3 x.body.length c3] := by rw [← hS]; exact OX1.set 2 _
  have OQ1 := OR1.touch' TT1 (by simp)
  have HQ1 := Lib.hid (HR1.out.touch TT1 (fun k hk hm => by have := HF1.out.ge k hk; simp at hm; omega))
  have hy1 : Ext w v11 := Touch.ext hx11 TT1 (fun k hk => by simp at hk; omega)
  have hz1 := TT1.size
  have Tyy1 := Lib.hid ((Touch.of_ext Hext1.out [w.heap.size]).trans TT1)
  have Frv1 := Lib.hid (HF1.out.touch TT1 (fun k hk hm => by have := HF1.out.ge k hk; simp at hm; omega))
  clear hS OX1 OR1 hx11 q0 qf0 q1 qf1 q2 qf2 q3 qf3 q4 qf4 qz HR1
  have q0 : v11.cell? ⟨w.heap.size, 0, none⟩ = some (.string x.selector) := OY1.cell 0
  have qf0 := OY1.frozen 0
  have q1 : v11.cell? ⟨w.heap.size, 1, none⟩ = some (.bool x.cls) := OY1.cell 1
  have qf1 := OY1.frozen 1
  have q2 : v11.cell? ⟨w.heap.size, 2, none⟩ = some (.slice b1 x.params.length k1) := OY1.cell 2
  have qf2 := OY1.frozen 2
  have q3 : v11.cell? ⟨w.heap.size, 3, none⟩ = some (.slice a2 x.temps.length c2) := OY1.cell 3
  have qf3 := OY1.frozen 3
  have q4 : v11.cell? ⟨w.heap.size, 4, none⟩ = some (.slice a3 x.body.length c3) := OY1.cell 4
  have qf4 := OY1.frozen 4
  have qz := OY1.lt
  have x2 : Ext v11 (v11.alloc (.cells #[] 9)) := (Ext.refl v11).alloc _
  have KD : AccT v11.heap.size (v11.alloc (.cells #[] 9)) (.slice (some ⟨v11.heap.size, 0, none⟩) 0 0) [] := Acc.empty _ _ (Nat.le_refl _)
  have HS1 := Rep.ext (hy1.trans x2) R2.out
  have hl1 : ([] : List ByteArray).length + x.temps.length ≤ 1073741824 := by simp; omega
  go_wp2_with (at_builtin; refine wpList_append_strs_at rfl _ _ rfl v11.heap.size _ [] rfl KD x.temps _ _ _ rfl HS1 hl1 (by simp) ?_)
  intro b2 k2 w12 ac1 g1 m1
  have TG : Touch (v11.alloc (.cells #[] 9)) w12 [v11.heap.size] := (Touch.of_ext (Ext.refl _) _).grown g1 fun k hk => Or.inl (by simp [Value.ownBlock] at hk; simp [hk])
  have X2 : Ext v11 w12 := Touch.ext x2 TG (fun k hk => by simp at hk; omega)
  have OX2 := OY1.ext X2
  have OR2 := OQ1.ext X2
  have hs12 := X2.size
  have hx12 := hy1.trans X2
  obtain ⟨_, _, g2_, hv_2, r2_, f2_⟩ := AccT.rep ac1
  injection hv_2 with hv1 _ hv2
  subst hv1
  subst hv2
  have HR2 := Lib.hid r2_
  have HF2 := Lib.hid f2_
  have hg2_ := fun k (hk : k ∈ g2_) => f2_.lt hk
  have Hext2 := Lib.hid X2
  have HG2 := Lib.hid hg2_
  clear KD HS1 hl1 g1 m1 TG x2 ac1 OY1 OQ1 X2 q0 qf0 q1 qf1 q2 qf2 q3 qf3 q4 qf4 qz r2_ f2_ hg2_
  have q0 : w12.cell? ⟨w.heap.size, 0, none⟩ = some (.string x.selector) := OX2.cell 0
  have qf0 := OX2.frozen 0
  have q1 : w12.cell? ⟨w.heap.size, 1, none⟩ = some (.bool x.cls) := OX2.cell 1
  have qf1 := OX2.frozen 1
  have q2 : w12.cell? ⟨w.heap.size, 2, none⟩ = some (.slice b1 x.params.length k1) := OX2.cell 2
  have qf2 := OX2.frozen 2
  have q3 : w12.cell? ⟨w.heap.size, 3, none⟩ = some (.slice a2 x.temps.length c2) := OX2.cell 3
  have qf3 := OX2.frozen 3
  have q4 : w12.cell? ⟨w.heap.size, 4, none⟩ = some (.slice a3 x.body.length c3) := OX2.cell 4
  have qf4 := OX2.frozen 4
  have qz := OX2.lt
  go_upto_region 3 with fail
  generalize hS : World.setCell w12 _ _ = v12
  have TT2 : Touch w12 v12 [w.heap.size] := by rw [← hS]; exact (Touch.of_ext (Ext.refl _) _).setCell (by simp) _
  have OY2 : Own v12 w.heap.size 32 #[.string x.selector, .bool x.cls, .slice b1 x.params.length k1, .slice b2 x.temps.length k2, .slice a3 x.body.length c3] := by rw [← hS]; exact OX2.set 3 _
  have OQ2 := OR2.touch' TT2 (by simp)
  have HQ2 := Lib.hid (HR2.out.touch TT2 (fun k hk hm => by have := HF2.out.ge k hk; simp at hm; omega))
  have hy2 : Ext w v12 := Touch.ext hx12 TT2 (fun k hk => by simp at hk; omega)
  have hz2 := TT2.size
  have Tyy2 := Lib.hid ((Touch.of_ext Hext2.out [w.heap.size]).trans TT2)
  have Frv2 := Lib.hid (HF2.out.touch TT2 (fun k hk hm => by have := HF2.out.ge k hk; simp at hm; omega))
  clear hS OX2 OR2 hx12 q0 qf0 q1 qf1 q2 qf2 q3 qf3 q4 qf4 qz HR2
  have q0 : v12.cell? ⟨w.heap.size, 0, none⟩ = some (.string x.selector) := OY2.cell 0
  have qf0 := OY2.frozen 0
  have q1 : v12.cell? ⟨w.heap.size, 1, none⟩ = some (.bool x.cls) := OY2.cell 1
  have qf1 := OY2.frozen 1
  have q2 : v12.cell? ⟨w.heap.size, 2, none⟩ = some (.slice b1 x.params.length k1) := OY2.cell 2
  have qf2 := OY2.frozen 2
  have q3 : v12.cell? ⟨w.heap.size, 3, none⟩ = some (.slice b2 x.temps.length k2) := OY2.cell 3
  have qf3 := OY2.frozen 3
  have q4 : v12.cell? ⟨w.heap.size, 4, none⟩ = some (.slice a3 x.body.length c3) := OY2.cell 4
  have qf4 := OY2.frozen 4
  have qz := OY2.lt
  go_wp2_with fail
  refine (copyExprs_any x.body _ v12 (Rep.ext hy2 R3.out) hbb).mono ?_
  rintro e w13 ⟨b3, n3, k3, g3_, rfl, r3_, f3_, x13⟩
  obtain ⟨_, _, e3, _⟩ := RepF.sl_iff.1 r3_
  simp only [List.cons.injEq, and_true, Value.slice.injEq, List.length_map] at e3
  obtain ⟨rfl, rfl, rfl⟩ := e3
  have OX3 := OY2.ext x13
  have OR3 := OQ2.ext x13
  have HR3 := Lib.hid r3_
  have HF3 := Lib.hid f3_
  have m1 : ∀ k, k ∈ g1_ → k ∉ [w.heap.size] := fun k hk hm => by have := Frv1.out.ge k hk; simp at hm; omega
  have HP3 := Lib.hid ((HQ1.out.touch Tyy2.out m1).ext x13)
  have FP3 := Lib.hid ((Frv1.out.touch Tyy2.out m1).ext x13)
  have FT3 := Lib.hid (Frv2.out.ext x13)
  have HT3 := Lib.hid (HQ2.out.ext x13)
  have hx13 := hy2.trans x13
  clear r3_ f3_ OY2 OQ2 q0 qf0 q1 qf1 q2 qf2 q3 qf3 q4 qf4 qz
  have q0 : w13.cell? ⟨w.heap.size, 0, none⟩ = some (.string x.selector) := OX3.cell 0
  have qf0 := OX3.frozen 0
  have q1 : w13.cell? ⟨w.heap.size, 1, none⟩ = some (.bool x.cls) := OX3.cell 1
  have qf1 := OX3.frozen 1
  have q2 : w13.cell? ⟨w.heap.size, 2, none⟩ = some (.slice b1 x.params.length k1) := OX3.cell 2
  have qf2 := OX3.frozen 2
  have q3 : w13.cell? ⟨w.heap.size, 3, none⟩ = some (.slice b2 x.temps.length k2) := OX3.cell 3
  have qf3 := OX3.frozen 3
  have q4 : w13.cell? ⟨w.heap.size, 4, none⟩ = some (.slice a3 x.body.length c3) := OX3.cell 4
  have qf4 := OX3.frozen 4
  have qz := OX3.lt
  go_upto_region 4 with fail
  generalize hS : World.setCell w13 _ _ = v13
  have TT3 : Touch w13 v13 [w.heap.size] := by rw [← hS]; exact (Touch.of_ext (Ext.refl _) _).setCell (by simp) _
  have OX4 : Own v13 w.heap.size 32 #[.string x.selector, .bool x.cls, .slice b1 x.params.length k1, .slice b2 x.temps.length k2, .slice b3 x.body.length k3] := by rw [← hS]; exact OX3.set 4 _
  have OR4 := OR3.touch' TT3 (by simp)
  clear hS OX3 OR3 q0 qf0 q1 qf1 q2 qf2 q3 qf3 q4 qf4 qz
  have q0 : v13.cell? ⟨w.heap.size, 0, none⟩ = some (.string x.selector) := OX4.cell 0
  have qf0 := OX4.frozen 0
  have q1 : v13.cell? ⟨w.heap.size, 1, none⟩ = some (.bool x.cls) := OX4.cell 1
  have qf1 := OX4.frozen 1
  have q2 : v13.cell? ⟨w.heap.size, 2, none⟩ = some (.slice b1 x.params.length k1) := OX4.cell 2
  have qf2 := OX4.frozen 2
  have q3 : v13.cell? ⟨w.heap.size, 3, none⟩ = some (.slice b2 x.temps.length k2) := OX4.cell 3
  have qf3 := OX4.frozen 3
  have q4 : v13.cell? ⟨w.heap.size, 4, none⟩ = some (.slice b3 x.body.length k3) := OX4.cell 4
  have qf4 := OX4.frozen 4
  have qz := OX4.lt
  have r0 : v13.cell? ⟨w.heap.size + 1, 0, none⟩ = some (.string ⟨#[]⟩) := OR4.cell 0
  have rf0 := OR4.frozen 0
  have r1 : v13.cell? ⟨w.heap.size + 1, 1, none⟩ = some (.bool false) := OR4.cell 1
  have rf1 := OR4.frozen 1
  have r2 : v13.cell? ⟨w.heap.size + 1, 2, none⟩ = some (.slice none 0 0) := OR4.cell 2
  have rf2 := OR4.frozen 2
  have r3 : v13.cell? ⟨w.heap.size + 1, 3, none⟩ = some (.slice none 0 0) := OR4.cell 3
  have rf3 := OR4.frozen 3
  have r4 : v13.cell? ⟨w.heap.size + 1, 4, none⟩ = some (.slice none 0 0) := OR4.cell 4
  have rf4 := OR4.frozen 4
  have rz := OR4.lt
  go_wp2_with fail
  generalize hS : World.setCell (World.setCell (World.setCell (World.setCell (World.setCell v13 _ _) _ _) _ _) _ _) _ _ = W9
  obtain ⟨O9, T9⟩ := own5m OR4 (.string x.selector) (.bool x.cls) (.slice b1 x.params.length k1) (.slice b2 x.temps.length k2) (.slice b3 x.body.length k3)
  rw [hS] at O9 T9
  clear hS
  have p0 : W9.cell? ⟨w.heap.size + 1, 0, none⟩ = some (.string x.selector) := O9.cell 0
  have p1 : W9.cell? ⟨w.heap.size + 1, 1, none⟩ = some (.bool x.cls) := O9.cell 1
  have p2 : W9.cell? ⟨w.heap.size + 1, 2, none⟩ = some (.slice b1 x.params.length k1) := O9.cell 2
  have p3 : W9.cell? ⟨w.heap.size + 1, 3, none⟩ = some (.slice b2 x.temps.length k2) := O9.cell 3
  have p4 : W9.cell? ⟨w.heap.size + 1, 4, none⟩ = some (.slice b3 x.body.length k3) := O9.cell 4
  have pz := O9.lt
  have T89 : Touch w13 W9 [w.heap.size, w.heap.size + 1] := (TT3.mono (by simp)).trans (T9.mono (by simp))
  have n1 : ∀ k, k ∈ g1_ → k ∉ [w.heap.size, w.heap.size + 1] := fun k hk hm => by have := HF1.out.ge k hk; simp at hm; omega
  have n2 : ∀ k, k ∈ g2_ → k ∉ [w.heap.size, w.heap.size + 1] := fun k hk hm => by have := HF2.out.ge k hk; simp at hm; omega
  have n3 : ∀ k, k ∈ g3_ → k ∉ [w.heap.size, w.heap.size + 1] := fun k hk hm => by have := HF3.out.ge k hk; simp at hm; omega
  have RN := HP3.out.touch T89 n1
  have RT := HT3.out.touch T89 n2
  have RB := HR3.out.touch T89 n3
  have R9 := MMethod.shut (x := x) RN RT RB
  rw [List.append_nil] at R9
  have F1 := FP3.out.touch T89 n1
  have F2 := FT3.out.touch T89 n2
  have F3 := HF3.out.touch T89 n3
  have F : Fresh W9 w.heap.size (g1_ ++ (g2_ ++ g3_)) := (F1.mono (by omega)).join (F2.join F3 (fun k hk => by have := HG2.out k hk; omega) (by omega)) (fun k hk => by have := HG1.out k hk; omega) (by omega)
  have FIN : GivesS w x.d (.returned (.agg #[.string x.selector, .bool x.cls, .slice b1 x.params.length k1, .slice b2 x.temps.length k2, .slice b3 x.body.length k3])) W9 := ⟨_, g1_ ++ (g2_ ++ g3_), rfl, R9, F, Touch.ext hx13 T89 (fun k hk => by simp at hk; omega)⟩
  exact bodyPost_ret (v := .agg #[.string x.selector, .bool x.cls, .slice b1 x.params.length k1, .slice b2 x.temps.length k2, .slice b3 x.body.length k3]) (by simp [results, Tryz.results41, go_sem, p0, p1, p2, p3, p4, pz]) rfl FIN

open Go.RowKit
set_option linter.unusedSimpArgs false
set_option linter.unusedVariables false

set_option maxHeartbeats 2000000 in
set_option maxRecDepth 100000 in
theorem rtake_yes {B tb to_ cap : Nat} {ao : Option Addr} {ts : List MToken} {a : Nat} {b : Bool} (w : World) (h : Prs 48 B tb to_ cap ao ts w (a) b) (k : Int) (s : ByteArray) (hk : k ≠ 0) (hs : (s.toList == []) = false) (hb : tkxB ts a k s = true) : Calls Tryz.prog 35 #[.pointer (some ⟨B, 0, none⟩), .int .i64 k, .string s] w fun e w' => e = .returned (.bool true) ∧ Prs 48 B tb to_ cap ao ts w' (a + 1) b ∧ Touch w w' [B] := by
  have hi := risx_any w h k s hk hs
  rw [hb] at hi
  have HI := Lib.hid hi
  have HP := Lib.hid h
  have hlt := tok_lt hk hb
  clear h hi hb hk hs
  go_enter Tryz.func35, Tryz.ntmps35
  go_wp2_with fail
  refine HI.out.mono ?_
  rintro e w1 ⟨rfl, hx⟩
  have HP1 := Lib.hid (HP.out.ext hx)
  obtain ⟨c0, c1, c2⟩ := HP1.out.cells
  have zB := lt_of_cell c0
  have f1 := HP1.out.own.frozen 1
  have f2 := HP1.out.own.frozen 2
  have hln := HP1.out.len
  go_wp2_with fail
  go_ret
  obtain ⟨K2, T2⟩ := HP1.out.setAt (a + 1) (by omega) (fun _ => by omega)
  have e1 : ((a + 1 : Nat) : Int) = (a : Int) + 1 := by omega
  rw [e1] at K2 T2
  exact ⟨rfl, K2, (Touch.of_ext hx _).trans T2⟩

set_option maxHeartbeats 2000000 in
set_option maxRecDepth 100000 in
theorem rtake_no {B tb to_ cap : Nat} {ao : Option Addr} {ts : List MToken} {a : Nat} {b : Bool} (w : World) (h : Prs 48 B tb to_ cap ao ts w (a) b) (k : Int) (s : ByteArray) (hk : k ≠ 0) (hs : (s.toList == []) = false) (hb : tkxB ts a k s = false) : Calls Tryz.prog 35 #[.pointer (some ⟨B, 0, none⟩), .int .i64 k, .string s] w fun e w' => e = .returned (.bool false) ∧ Ext w w' := by
  have hi := risx_any w h k s hk hs
  rw [hb] at hi
  have HI := Lib.hid hi
  clear h hi hb hk hs
  go_enter Tryz.func35, Tryz.ntmps35
  go_wp2_with fail
  refine HI.out.mono ?_
  rintro e w1 ⟨rfl, hx⟩
  go_wp2_with fail
  go_ret
  exact ⟨rfl, hx⟩

set_option maxHeartbeats 2000000 in
set_option maxRecDepth 100000 in
theorem rneedk_yes {B tb to_ cap : Nat} {ao : Option Addr} {ts : List MToken} {a : Nat} {b : Bool} (w : World) (h : Prs 48 B tb to_ cap ao ts w (a) b) (k : Int) (hk : k ≠ 0) (hb : tkB ts a k = true) : Calls Tryz.prog 36 #[.pointer (some ⟨B, 0, none⟩), .int .i64 k, .string ⟨#[]⟩] w fun e w' => e = .returned (.string (tkT ts a)) ∧ Prs 48 B tb to_ cap ao ts w' (a + 1) b ∧ Touch w w' [B] := by
  have hi := risk_any w h k hk
  rw [hb] at hi
  have HI := Lib.hid hi
  have HP := Lib.hid h
  have hlt := kind_lt hk hb
  clear h hi hb hk
  go_enter Tryz.func36, Tryz.ntmps36
  go_wp2_with fail
  refine HI.out.mono ?_
  rintro e w1 ⟨rfl, hx⟩
  have HP1 := Lib.hid (HP.out.ext hx)
  obtain ⟨c0, c1, c2⟩ := HP1.out.cells
  have zB := lt_of_cell c0
  have f1 := HP1.out.own.frozen 1
  have f2 := HP1.out.own.frozen 2
  have hln := HP1.out.len
  go_upto_region 5 with fail
  generalize hS : World.setCell w1 _ _ = W2
  obtain ⟨K2, T2⟩ := HP1.out.setAt (a + 1) (by omega) (fun _ => by omega)
  have e1 : ((a + 1 : Nat) : Int) = (a : Int) + 1 := by omega
  rw [e1] at K2 T2
  rw [hS] at K2 T2
  obtain ⟨d0, d1, d2⟩ := K2.cells
  obtain ⟨-, t0, t1, t2⟩ := K2.at hlt
  obtain rfl := (K2.at hlt).1
  have zt := lt_of_cell t1
  have zB2 := lt_of_cell d0
  have HK := Lib.hid K2
  have HT := Lib.hid ((Touch.of_ext hx _).trans T2)
  have hl2 : (a : Int) < ts.length := by omega
  have ha0 : (0 : Int) ≤ a := by omega
  obtain ⟨tx, htx⟩ : ∃ x, tkT ts a = x := ⟨_, rfl⟩
  rw [htx] at t1
  have HTX := Lib.hid htx
  clear htx
  rw [e1] at d1
  clear hS c0 c1 c2 f1 f2 K2 T2 t0 t2 d2 zB
  go_region
  go_wp2_with fail
  go_ret
  exact ⟨by rw [HTX.out]; rfl, HK.out.ext (Ext.drew (Ext.refl _)), HT.out.trans (Touch.of_ext (Ext.drew (Ext.refl _)) _)⟩

set_option maxHeartbeats 2000000 in
set_option maxRecDepth 100000 in
theorem rneedk_no {B tb to_ cap : Nat} {ao : Option Addr} {ts : List MToken} {a : Nat} {b : Bool} (w : World) (h : Prs 48 B tb to_ cap ao ts w (a) b) (k : Int) (hk : k ≠ 0) (hb : tkB ts a k = false) : Calls Tryz.prog 36 #[.pointer (some ⟨B, 0, none⟩), .int .i64 k, .string ⟨#[]⟩] w fun e w' => e = .returned (.string ⟨#[]⟩) ∧ Prs 48 B tb to_ cap ao ts w' (a) true ∧ Touch w w' [B] := by
  have hi := risk_any w h k hk
  rw [hb] at hi
  have HI := Lib.hid hi
  have HP := Lib.hid h
  clear h hi hb hk
  go_enter Tryz.func36, Tryz.ntmps36
  go_wp2_with fail
  refine HI.out.mono ?_
  rintro e w1 ⟨rfl, hx⟩
  have HP1 := Lib.hid (HP.out.ext hx)
  obtain ⟨c0, c1, c2⟩ := HP1.out.cells
  have zB := lt_of_cell c0
  have f1 := HP1.out.own.frozen 1
  have f2 := HP1.out.own.frozen 2
  have hln := HP1.out.len
  go_wp2_with fail
  go_ret
  obtain ⟨K2, T2⟩ := HP1.out.setBad
  exact ⟨rfl, K2, (Touch.of_ext hx _).trans T2⟩

set_option maxHeartbeats 2000000 in
set_option maxRecDepth 100000 in
theorem rneedx_yes {B tb to_ cap : Nat} {ao : Option Addr} {ts : List MToken} {a : Nat} {b : Bool} (w : World) (h : Prs 48 B tb to_ cap ao ts w (a) b) (k : Int) (s : ByteArray) (hk : k ≠ 0) (hs : (s.toList == []) = false) (hb : tkxB ts a k s = true) : Calls Tryz.prog 36 #[.pointer (some ⟨B, 0, none⟩), .int .i64 k, .string s] w fun e w' => e = .returned (.string (tkT ts a)) ∧ Prs 48 B tb to_ cap ao ts w' (a + 1) b ∧ Touch w w' [B] := by
  have hi := risx_any w h k s hk hs
  rw [hb] at hi
  have HI := Lib.hid hi
  have HP := Lib.hid h
  have hlt := tok_lt hk hb
  clear h hi hb hk hs
  go_enter Tryz.func36, Tryz.ntmps36
  go_wp2_with fail
  refine HI.out.mono ?_
  rintro e w1 ⟨rfl, hx⟩
  have HP1 := Lib.hid (HP.out.ext hx)
  obtain ⟨c0, c1, c2⟩ := HP1.out.cells
  have zB := lt_of_cell c0
  have f1 := HP1.out.own.frozen 1
  have f2 := HP1.out.own.frozen 2
  have hln := HP1.out.len
  go_upto_region 5 with fail
  generalize hS : World.setCell w1 _ _ = W2
  obtain ⟨K2, T2⟩ := HP1.out.setAt (a + 1) (by omega) (fun _ => by omega)
  have e1 : ((a + 1 : Nat) : Int) = (a : Int) + 1 := by omega
  rw [e1] at K2 T2
  rw [hS] at K2 T2
  obtain ⟨d0, d1, d2⟩ := K2.cells
  obtain ⟨-, t0, t1, t2⟩ := K2.at hlt
  obtain rfl := (K2.at hlt).1
  have zt := lt_of_cell t1
  have zB2 := lt_of_cell d0
  have HK := Lib.hid K2
  have HT := Lib.hid ((Touch.of_ext hx _).trans T2)
  have hl2 : (a : Int) < ts.length := by omega
  have ha0 : (0 : Int) ≤ a := by omega
  obtain ⟨tx, htx⟩ : ∃ x, tkT ts a = x := ⟨_, rfl⟩
  rw [htx] at t1
  have HTX := Lib.hid htx
  clear htx
  rw [e1] at d1
  clear hS c0 c1 c2 f1 f2 K2 T2 t0 t2 d2 zB
  go_region
  go_wp2_with fail
  go_ret
  exact ⟨by rw [HTX.out]; rfl, HK.out.ext (Ext.drew (Ext.refl _)), HT.out.trans (Touch.of_ext (Ext.drew (Ext.refl _)) _)⟩

set_option maxHeartbeats 2000000 in
set_option maxRecDepth 100000 in
theorem rneedx_no {B tb to_ cap : Nat} {ao : Option Addr} {ts : List MToken} {a : Nat} {b : Bool} (w : World) (h : Prs 48 B tb to_ cap ao ts w (a) b) (k : Int) (s : ByteArray) (hk : k ≠ 0) (hs : (s.toList == []) = false) (hb : tkxB ts a k s = false) : Calls Tryz.prog 36 #[.pointer (some ⟨B, 0, none⟩), .int .i64 k, .string s] w fun e w' => e = .returned (.string ⟨#[]⟩) ∧ Prs 48 B tb to_ cap ao ts w' (a) true ∧ Touch w w' [B] := by
  have hi := risx_any w h k s hk hs
  rw [hb] at hi
  have HI := Lib.hid hi
  have HP := Lib.hid h
  clear h hi hb hk hs
  go_enter Tryz.func36, Tryz.ntmps36
  go_wp2_with fail
  refine HI.out.mono ?_
  rintro e w1 ⟨rfl, hx⟩
  have HP1 := Lib.hid (HP.out.ext hx)
  obtain ⟨c0, c1, c2⟩ := HP1.out.cells
  have zB := lt_of_cell c0
  have f1 := HP1.out.own.frozen 1
  have f2 := HP1.out.own.frozen 2
  have hln := HP1.out.len
  go_wp2_with fail
  go_ret
  obtain ⟨K2, T2⟩ := HP1.out.setBad
  exact ⟨rfl, K2, (Touch.of_ext hx _).trans T2⟩

theorem rbeg_eq (ts : List MToken) (a : Nat) : (beginsB ts a || tkxB ts a 7 retM) = (decide (1 ≤ tkK ts a ∧ tkK ts a ≤ 5) && !(tkK ts a == 2) || tkK ts a == 7 && (eqB (tkT ts a) lparM || eqB (tkT ts a) lbrM || eqB (tkT ts a) retM)) := by
  unfold beginsB
  rw [tkB_eq (by decide), tkB_eq (by decide), tkB_eq (by decide), tkB_eq (by decide), tkxB_eq (by decide), tkxB_eq (by decide), tkxB_eq (by decide)]
  generalize tkK ts a = kd
  by_cases h1 : kd = 1
  · subst h1; simp
  by_cases h2 : kd = 2
  · subst h2; simp
  by_cases h3 : kd = 3
  · subst h3; simp
  by_cases h4 : kd = 4
  · subst h4; simp
  by_cases h5 : kd = 5
  · subst h5; simp
  by_cases h7 : kd = 7
  · subst h7; simp [Bool.or_assoc]
  have e1 : (kd == 1) = false := by simp [h1]
  have e3 : (kd == 3) = false := by simp [h3]
  have e4 : (kd == 4) = false := by simp [h4]
  have e5 : (kd == 5) = false := by simp [h5]
  have e7 : (kd == 7) = false := by simp [h7]
  have hn : decide (1 ≤ kd ∧ kd ≤ 5) = false := decide_eq_false (by omega)
  rw [e1, e3, e4, e5, e7, hn]
  rfl

set_option maxHeartbeats 2000000 in
set_option maxRecDepth 100000 in
theorem rbegins_any {B tb to_ cap : Nat} {ao : Option Addr} {ts : List MToken} {a : Nat} {b : Bool} (w : World) (h : Prs 48 B tb to_ cap ao ts w (a) b)  : Calls Tryz.prog 81 #[.pointer (some ⟨B, 0, none⟩)] w fun e w' => e = .returned (.bool (beginsB ts a || tkxB ts a 7 retM)) ∧ Ext w w' := by
  obtain ⟨c0, c1, c2⟩ := h.cells
  have zB := lt_of_cell c0
  obtain ⟨V, hV⟩ : ∃ V, (beginsB ts a || tkxB ts a 7 retM) = V := ⟨_, rfl⟩
  rw [hV]
  rw [rbeg_eq] at hV
  by_cases hl : a < ts.length
  · obtain ⟨rfl, t0, t1, t2⟩ := h.at hl
    have hl' : (a : Int) < ts.length := by omega
    have hng : ¬ (ts.length : Int) ≤ a := by omega
    have hd : decide ((ts.length : Int) ≤ a) = false := decide_eq_false hng
    have ha0 : (0 : Int) ≤ a := by omega
    have hd2 : decide (ts.length ≤ a) = false := decide_eq_false (by omega)
    have zt := lt_of_cell t0
    generalize tkK ts a = kd at *
    generalize tkT ts a = tx at *
    generalize tkN ts a = nm at *
    clear h c2
    by_cases hin : 1 ≤ kd ∧ kd ≤ 5
    · have D1 := decide_eq_true hin
      by_cases h2 : kd = 2
      · have s2 : (kd != 2) = false := by simp [h2]
        have s7 : (kd == 7) = false := int_ne (by omega)
        have HV : Hid (false = V) := Lib.hid (by rw [← hV]; simp [h2])
        clear hV h2 hin
        go_enter Tryz.func81, Tryz.ntmps81
        go_wp2_with fail
        go_region
        go_wp2_with fail
        go_region
        go_wp2_with fail
        refine (l1In_any _ _ _ _).mono ?_
        rintro e wq ⟨rfl, hq⟩
        subst wq
        go_wp2_with fail
        go_ret
        exact ⟨ret_bool HV.out, by first | exact ((Ext.refl _).drew.drew).alloc _ | exact ((Ext.refl _).drew.alloc _).drew⟩
      have s2 : (kd != 2) = true := by simp [h2]
      have HV : Hid (true = V) := Lib.hid (by rw [← hV]; simp [hin, h2])
      clear hV h2 hin
      go_enter Tryz.func81, Tryz.ntmps81
      go_wp2_with fail
      go_region
      go_wp2_with fail
      go_region
      go_wp2_with fail
      refine (l1In_any _ _ _ _).mono ?_
      rintro e wq ⟨rfl, hq⟩
      subst wq
      go_wp2_with fail
      go_ret
      exact ⟨ret_bool HV.out, by first | exact ((Ext.refl _).drew.drew).alloc _ | exact ((Ext.refl _).drew.alloc _).drew⟩
    have D1 := decide_eq_false hin
    by_cases h7 : kd = 7
    · have s7 := int_eq h7
      by_cases u0 : tx = lparM
      · have v0 : (tx.toList == [40]) = true := str_eq' u0
        have HV : Hid (true = V) := Lib.hid (by rw [← hV]; simp [h7, u0, eqB_tt])
        clear hV h7 hin u0
        go_enter Tryz.func81, Tryz.ntmps81
        go_wp2_with fail
        go_region
        go_wp2_with fail
        go_region
        go_wp2_with fail
        refine (l1In_any _ _ _ _).mono ?_
        rintro e wq ⟨rfl, hq⟩
        subst wq
        go_wp2_with fail
        go_ret
        exact ⟨ret_bool HV.out, by first | exact ((Ext.refl _).drew.drew).alloc _ | exact ((Ext.refl _).drew.alloc _).drew⟩
      have v0 : (tx.toList == [40]) = false := str_ne' u0
      by_cases u1 : tx = lbrM
      · have v1 : (tx.toList == [91]) = true := str_eq' u1
        have HV : Hid (true = V) := Lib.hid (by rw [← hV]; simp [h7, u1, eqB_tt])
        clear hV h7 hin u0 u1
        go_enter Tryz.func81, Tryz.ntmps81
        go_wp2_with fail
        go_region
        go_wp2_with fail
        go_region
        go_wp2_with fail
        refine (l1In_any _ _ _ _).mono ?_
        rintro e wq ⟨rfl, hq⟩
        subst wq
        go_wp2_with fail
        go_ret
        exact ⟨ret_bool HV.out, by first | exact ((Ext.refl _).drew.drew).alloc _ | exact ((Ext.refl _).drew.alloc _).drew⟩
      have v1 : (tx.toList == [91]) = false := str_ne' u1
      by_cases u2 : tx = retM
      · have v2 : (tx.toList == [94]) = true := str_eq' u2
        have HV : Hid (true = V) := Lib.hid (by rw [← hV]; simp [h7, u2, eqB_tt])
        clear hV h7 hin u0 u1 u2
        go_enter Tryz.func81, Tryz.ntmps81
        go_wp2_with fail
        go_region
        go_wp2_with fail
        go_region
        go_wp2_with fail
        refine (l1In_any _ _ _ _).mono ?_
        rintro e wq ⟨rfl, hq⟩
        subst wq
        go_wp2_with fail
        go_ret
        exact ⟨ret_bool HV.out, by first | exact ((Ext.refl _).drew.drew).alloc _ | exact ((Ext.refl _).drew.alloc _).drew⟩
      have v2 : (tx.toList == [94]) = false := str_ne' u2
      have HV : Hid (false = V) := Lib.hid (by rw [← hV]; simp [h7, eqB_ff u0, eqB_ff u1, eqB_ff u2])
      clear hV h7 hin u0 u1 u2
      go_enter Tryz.func81, Tryz.ntmps81
      go_wp2_with fail
      go_region
      go_wp2_with fail
      go_region
      go_wp2_with fail
      refine (l1In_any _ _ _ _).mono ?_
      rintro e wq ⟨rfl, hq⟩
      subst wq
      go_wp2_with fail
      go_ret
      exact ⟨ret_bool HV.out, by first | exact ((Ext.refl _).drew.drew).alloc _ | exact ((Ext.refl _).drew.alloc _).drew⟩
    have s7 := int_ne h7
    have HV : Hid (false = V) := Lib.hid (by rw [← hV]; simp [hin, s7, h7])
    clear hV h7 hin
    go_enter Tryz.func81, Tryz.ntmps81
    go_wp2_with fail
    go_region
    go_wp2_with fail
    go_region
    go_wp2_with fail
    refine (l1In_any _ _ _ _).mono ?_
    rintro e wq ⟨rfl, hq⟩
    subst wq
    go_wp2_with fail
    go_ret
    exact ⟨ret_bool HV.out, by first | exact ((Ext.refl _).drew.drew).alloc _ | exact ((Ext.refl _).drew.alloc _).drew⟩
  have hge : (ts.length : Int) ≤ a := by omega
  have hd : decide ((ts.length : Int) ≤ a) = true := decide_eq_true hge
  obtain ⟨e1, e2, e3⟩ := tkK_none (ts := ts) (a := a) (by omega)
  have HV : Hid (false = V) := Lib.hid (by rw [← hV, e1]; rfl)
  clear hV h e1 e2 e3 c2
  have hd2 : decide (ts.length ≤ a) = true := decide_eq_true (by omega)
  go_enter Tryz.func81, Tryz.ntmps81
  go_wp2_with fail
  go_region
  go_wp2_with fail
  trace_state
  go_ret
  exact ⟨ret_bool HV.out, Ext.drew (Ext.refl _)⟩

end Go.Proofs.YtonmcoojgkgemaaGreatDoor
