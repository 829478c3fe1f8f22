/-
  SEVERAL TEXTS IN ONE: CONTRACTS: the program's copyExpr; A SLICE THAT A CALL GATHERS, its elements' own rows within a set of blocks; a tree's kids but the first.
  Conditions: those that each lemma states.
-/
import Derived.Test.YtonmcoojgkgemaaGreatDoorRows
import Derived.Test.YtonmcoojgkgemaaGreatDoorP23
import Derived.Test.YtonmcoojgkgemaaGreatDoorParJ
import Derived.Test.YtonmcoojgkgemaaGreatDoorP13
import Derived.Test.YtonmcoojgkgemaaGreatDoorParK
namespace Go.Proofs.YtonmcoojgkgemaaGreatDoor
open Go.RowKit
set_option linter.unusedSimpArgs false
set_option linter.unusedVariables false

theorem strs_blk {w : World} {l : List ByteArray} {ao : Option Addr} {n cap : Nat} {gp : List Nat} (h : RepF w (strs l) [.slice ao n cap] gp) : ∀ k, k ∈ gp → (Value.slice ao n cap).ownBlock = some k := by
  intro k hk
  have ht := h.strs_tail
  obtain ⟨ao', cap', e, _, _, _, h2⟩ := RepF.sl_iff.1 h
  rcases h2 with ⟨_, rfl⟩ | ⟨b, o, cs, fp', _, ha, rfl, _⟩
  · cases hk
  · simp at ht
    subst ht
    simp at hk
    subst hk
    simp at e
    rw [e.1, ha]
    rfl

set_option maxHeartbeats 8000000 in
set_option maxRecDepth 100000 in
theorem copy_of (n : Nat) (IH : Hid (∀ (z : MExpr) (cz : List Value) (w : World), SizeOf.sizeOf z < n → Rep w z.d cz → z.d.bulk ≤ 1048576 → Calls Tryz.prog 28 #[.agg cz.toArray] w (GivesS w z.d)))
    (x : MExpr) (cx : List Value) (w : World) (hn : SizeOf.sizeOf x < n + 1) (rx : Rep w x.d cx) (hb : x.d.bulk ≤ 1048576) : Calls Tryz.prog 28 #[.agg cx.toArray] w (GivesS w x.d) := by
  have hk : Hid (∀ z, z ∈ x.kids → SizeOf.sizeOf z < n) := Lib.hid fun z hz => by have := MExpr.kid_lt hz; omega
  obtain ⟨a1, c1, a2, c2, rfl, rn, rk⟩ := MExpr.op_en rx
  obtain ⟨ao, ca, ba, oa, e1, hla, hma, pa, hra⟩ := Rep.slmap rk
  simp only [List.cons.injEq, and_true, Value.slice.injEq, true_and] at e1
  obtain ⟨rfl, rfl⟩ := e1
  clear rx rk hn
  unfold maxLen at hma
  rw [MExpr.d_eq] at hb
  simp only [D.bulk, D.bulkL] at hb
  have hbk : Hid (x.kids.length + D.bulkL (x.kids.map MExpr.d) ≤ 1048576) := Lib.hid (by simp only [MExprs, D.bulk, List.length_map] at hb; omega)
  have hnl : x.names.length ≤ 1048576 := by simp only [strs, D.bulk, List.length_map] at hb; omega
  have hkl : x.kids.length ≤ 1048576 := by have := hbk.out; omega
  clear hb
  go_enter Tryz.func28, Tryz.ntmps28
  go_upto_region 1 with fail
  generalize hS : World.alloc (World.alloc w _) _ = W1
  have x1 : Ext w W1 := by rw [← hS]; exact ((Ext.refl _).alloc _).alloc _
  have OX : Own W1 w.heap.size 25 #[.int .i64 x.kind, .string x.text, .int .i64 x.number, .slice a1 x.names.length c1, .slice a2 x.kids.length c2] := by rw [← hS]; exact (own_new w _ _).ext ((Ext.refl _).alloc _)
  have OR : Own W1 (w.heap.size + 1) 25 #[.int .i64 0, .string ⟨#[]⟩, .int .i64 0, .slice none 0 0, .slice none 0 0] := by rw [← hS]; exact own_new2 w _ _ _
  have hs1 : w.heap.size + 2 ≤ W1.heap.size := by rw [← hS]; simp
  clear hS
  have HN := Lib.hid (Rep.ext x1 rn)
  clear rn
  have q0 : W1.cell? ⟨w.heap.size, 0, none⟩ = some (.int .i64 x.kind) := OX.cell 0
  have qf0 := OX.frozen 0
  have q1 : W1.cell? ⟨w.heap.size, 1, none⟩ = some (.string x.text) := OX.cell 1
  have qf1 := OX.frozen 1
  have q2 : W1.cell? ⟨w.heap.size, 2, none⟩ = some (.int .i64 x.number) := OX.cell 2
  have qf2 := OX.frozen 2
  have q3 : W1.cell? ⟨w.heap.size, 3, none⟩ = some (.slice a1 x.names.length c1) := OX.cell 3
  have qf3 := OX.frozen 3
  have q4 : W1.cell? ⟨w.heap.size, 4, none⟩ = some (.slice a2 x.kids.length c2) := OX.cell 4
  have qf4 := OX.frozen 4
  have qz := OX.lt
  have x2 : Ext W1 (W1.alloc (.cells #[] 9)) := (Ext.refl W1).alloc _
  have KD : AccT (w.heap.size + 2) (W1.alloc (.cells #[] 9)) (.slice (some ⟨W1.heap.size, 0, none⟩) 0 0) [] := Acc.empty _ _ hs1
  have HS1 := Rep.ext x2 HN.out
  have hl1 : ([] : List ByteArray).length + x.names.length ≤ 1073741824 := by simp; omega
  go_wp2_with (at_builtin; refine wpList_append_strs_at rfl _ _ rfl (w.heap.size + 2) _ [] rfl KD x.names _ _ _ rfl HS1 hl1 (by simp; omega) ?_)
  intro b1 k1 w2 ac1 g1 m1
  have TG : Touch (W1.alloc (.cells #[] 9)) w2 [W1.heap.size] := (Touch.of_ext (Ext.refl _) _).grown g1 fun k hk => Or.inl (by simp [Value.ownBlock] at hk; simp [hk])
  have X2 : Ext W1 w2 := Touch.ext x2 TG (fun k hk => by simp at hk; omega)
  have OX2 := OX.ext X2
  have OR2 := OR.ext X2
  have hs2 := X2.size
  have hx2 := x1.trans X2
  have AN := Lib.hid ac1
  clear KD HS1 hl1 g1 m1 TG x2 ac1 OX OR x1 X2 q0 qf0 q1 qf1 q2 qf2 q3 qf3 q4 qf4 qz HN
  have q0 : w2.cell? ⟨w.heap.size, 0, none⟩ = some (.int .i64 x.kind) := OX2.cell 0
  have qf0 := OX2.frozen 0
  have q1 : w2.cell? ⟨w.heap.size, 1, none⟩ = some (.string x.text) := OX2.cell 1
  have qf1 := OX2.frozen 1
  have q2 : w2.cell? ⟨w.heap.size, 2, none⟩ = some (.int .i64 x.number) := OX2.cell 2
  have qf2 := OX2.frozen 2
  have q3 : w2.cell? ⟨w.heap.size, 3, none⟩ = some (.slice a1 x.names.length c1) := OX2.cell 3
  have qf3 := OX2.frozen 3
  have q4 : w2.cell? ⟨w.heap.size, 4, none⟩ = some (.slice a2 x.kids.length c2) := OX2.cell 4
  have qf4 := OX2.frozen 4
  have qz := OX2.lt
  go_upto_region 2 with fail
  generalize hS : World.setCell w2 _ _ = W3
  have T3 : Touch w2 W3 [w.heap.size] := by rw [← hS]; exact (Touch.of_ext (Ext.refl _) _).setCell (by simp) _
  have OX3 : Own W3 w.heap.size 25 #[.int .i64 x.kind, .string x.text, .int .i64 x.number, .slice b1 x.names.length k1, .slice a2 x.kids.length c2] := by rw [← hS]; exact OX2.set 3 _
  have OR3 := OR2.touch' T3 (by simp)
  have AN3 := Lib.hid (AccT.low AN.out T3 (fun k hk => by simp at hk; omega))
  have hx3 : Ext w W3 := Touch.ext hx2 T3 (fun k hk => by simp at hk; omega)
  have hs3 := T3.size
  have HNB : Hid (∀ k, (Value.slice b1 x.names.length k1).ownBlock = some k → w.heap.size + 2 ≤ k ∧ k < W3.heap.size) := Lib.hid fun k hk => Acc.ge AN3.out hk
  clear hS T3 OX2 OR2 AN hx2 q0 qf0 q1 qf1 q2 qf2 q3 qf3 q4 qf4 qz
  go_upto_region 3 with fail
  generalize hS : World.alloc W3 _ = W4
  have x4 : Ext W3 W4 := by rw [← hS]; exact (Ext.refl _).alloc _
  have OX4 := OX3.ext x4
  have OR4 := OR3.ext x4
  have AN4 := Lib.hid (AccT.ext AN3.out x4)
  have AK4 : Hid (Acc W3.heap.size W4 25 5 (.slice (some ⟨W3.heap.size, 0, none⟩) 0 0) ([] : List D) []) := Lib.hid (by rw [← hS]; exact Acc.empty 25 5 (Nat.le_refl _))
  have hx4 := hx3.trans x4
  have hs4 := x4.size
  clear hS AN3 hx3 x4 OX3 OR3
  have q4 : W4.cell? ⟨w.heap.size, 4, none⟩ = some (.slice a2 x.kids.length c2) := OX4.cell 4
  have qz := OX4.lt
  go_wp2_with fail
  go_loopw [3, 15] (fun kv iv wr => ∃ (k : Nat) (fp : List Nat), k ≤ x.kids.length ∧ iv = .int .i64 k ∧ W3.heap.size ≤ wr.heap.size ∧ Ext w wr ∧ Own wr w.heap.size 25 #[.int .i64 x.kind, .string x.text, .int .i64 x.number, .slice b1 x.names.length k1, .slice a2 x.kids.length c2] ∧ Own wr (w.heap.size + 1) 25 #[.int .i64 0, .string ⟨#[]⟩, .int .i64 0, .slice none 0 0, .slice none 0 0] ∧ AccT (w.heap.size + 2) wr (.slice b1 x.names.length k1) x.names ∧ Hid (Acc W3.heap.size wr 25 5 kv ((x.kids.take k).map MExpr.d) fp)) (fun _ iv _ => x.kids.length - (intOf iv).toNat)
  case atStart => exact ⟨0, [], Nat.zero_le _, rfl, hs4, hx4, OX4, OR4, AN4.out, AK4⟩
  case round =>
    clear OX4 OR4 AN4 AK4 q4 qz hx4
    obtain ⟨kv, hkv⟩ : ∃ x, x = u3 := ⟨_, rfl⟩
    subst hkv
    obtain ⟨k, fp, hk', rfl, hwr, hx, hX, hR, hA, hK⟩ := hrel
    have hRl := hR.lt
    by_cases hlt : k < x.kids.length
    · obtain rfl := pa (by omega)
      obtain ⟨ea, la, cl, ra⟩ := hra k x.kids[k] (by simp [hlt])
      obtain ⟨aa0, cc0, aa1, cc1, rfl, -, -⟩ := MExpr.op_en ra
      have t0 := hx.cell (show w.cell? ⟨ba, oa + k * 5, none⟩ = some _ from cl 0 (by omega))
      have t1 := hx.cell (show w.cell? ⟨ba, oa + k * 5 + 1, none⟩ = some _ from cl 1 (by omega))
      have t2 := hx.cell (show w.cell? ⟨ba, oa + k * 5 + 2, none⟩ = some _ from cl 2 (by omega))
      have t3 := hx.cell (show w.cell? ⟨ba, oa + k * 5 + 3, none⟩ = some _ from cl 3 (by omega))
      have t4 := hx.cell (show w.cell? ⟨ba, oa + k * 5 + 4, none⟩ = some _ from cl 4 (by omega))
      clear cl la hra pa
      have hbz : x.kids[k].d.bulk ≤ 1048576 := by have := D.bulkL_mem (List.mem_map.2 ⟨x.kids[k], List.getElem_mem hlt, rfl⟩ : x.kids[k].d ∈ x.kids.map MExpr.d); have := hbk.out; omega
      have HAT := Lib.hid hA
      have HX := Lib.hid hX
      have HR := Lib.hid hR
      clear hX hR hA
      go_upto_region 6 with fail
      generalize hS : World.alloc wr _ = W5
      have x5 : Ext wr W5 := by rw [← hS]; exact (Ext.refl _).alloc _
      have OK : Own W5 wr.heap.size 25 #[.int .i64 x.kids[k].kind, .string x.kids[k].text, .int .i64 x.kids[k].number, .slice aa0 x.kids[k].names.length cc0, .slice aa1 x.kids[k].kids.length cc1] := by rw [← hS]; exact own_new wr _ _
      have RA := Lib.hid (Rep.ext (hx.trans x5) ra)
      clear hS t0 t1 t2 t3 t4 ra
      have q0 : W5.cell? ⟨wr.heap.size, 0, none⟩ = some (.int .i64 x.kids[k].kind) := OK.cell 0
      have qf0 := OK.frozen 0
      have q1 : W5.cell? ⟨wr.heap.size, 1, none⟩ = some (.string x.kids[k].text) := OK.cell 1
      have qf1 := OK.frozen 1
      have q2 : W5.cell? ⟨wr.heap.size, 2, none⟩ = some (.int .i64 x.kids[k].number) := OK.cell 2
      have qf2 := OK.frozen 2
      have q3 : W5.cell? ⟨wr.heap.size, 3, none⟩ = some (.slice aa0 x.kids[k].names.length cc0) := OK.cell 3
      have qf3 := OK.frozen 3
      have q4 : W5.cell? ⟨wr.heap.size, 4, none⟩ = some (.slice aa1 x.kids[k].kids.length cc1) := OK.cell 4
      have qf4 := OK.frozen 4
      have qz := OK.lt
      go_wp2_with fail
      refine (IH.out x.kids[k] _ W5 (hk.out _ (List.getElem_mem hlt)) RA.out hbz).mono ?_
      rintro e w6 ⟨cs, gp, rfl, r6, f6, x6⟩
      obtain ⟨z1, z2, z3, z4, rfl⟩ := fld5 r6
      have HR6 := Lib.hid r6
      have HF6 := Lib.hid f6
      have hxx := x5.trans x6
      have hx6 := hx.trans hxx
      have K6 := Lib.hid (Acc.ext hK.out hxx)
      have HAT6 := Lib.hid (AccT.ext HAT.out hxx)
      have HX6 := Lib.hid (HX.out.ext hxx)
      have HRR6 := Lib.hid (HR.out.ext hxx)
      have hs5 := x5.size
      have hs6 := x6.size
      have HOB : Hid (∀ k, kv.ownBlock = some k → W3.heap.size ≤ k ∧ k < wr.heap.size) := Lib.hid fun k hk => Acc.ge hK.out hk
      have HFW : Hid (∀ k, k ∈ fp → k < wr.heap.size) := Lib.hid fun k hk => by obtain ⟨_, _, _, h, _⟩ := hK.out; exact h.lt hk
      have HFR : Hid (Fresh wr W3.heap.size fp) := Lib.hid (by obtain ⟨_, _, _, h, _⟩ := hK.out; exact h)
      clear r6 f6 x5 x6 hK HAT HX HR OK q0 qf0 q1 qf1 q2 qf2 q3 qf3 q4 qf4 qz RA hx
      have x7 : Ext w6 (w6.alloc (.cells #[.int .i64 x.kids[k].kind, .string x.kids[k].text, .int .i64 x.kids[k].number, .slice z1 x.kids[k].names.length z2, .slice z3 x.kids[k].kids.length z4] 25)) := (Ext.refl w6).alloc _
      have KD := Acc.ext K6.out x7
      have HSL := one_expr (HR6.out.ext x7) (own_new w6 #[.int .i64 x.kids[k].kind, .string x.kids[k].text, .int .i64 x.kids[k].number, .slice z1 x.kids[k].names.length z2, .slice z3 x.kids[k].kids.length z4] 25)
      have hFF : Fresh (w6.alloc (.cells #[.int .i64 x.kids[k].kind, .string x.kids[k].text, .int .i64 x.kids[k].number, .slice z1 x.kids[k].names.length z2, .slice z3 x.kids[k].kids.length z4] 25)) W3.heap.size (fp ++ gp) := (HFR.out.append (hxx.trans x7) ((HF6.out.ext x7).mono hs5) (Nat.le_refl _) (by have := HRR6.out.lt; omega))
      obtain ⟨i0, hi, hz0, hz1, hz2⟩ := info_parts exprInfo
      have hlk : ((x.kids.take k).map MExpr.d).length = k := by simp; omega
      go_wp2_with (at_builtin; refine wpList_append_at rfl _ _ 23 rfl W3.heap.size 25 i0 _ 5 80 Tryz.underlying23 hi hz0 hz1 hz2 rfl (by decide) kv ((x.kids.take k).map MExpr.d) fp rfl KD [x.kids[k].d] _ 1 1 (w6.heap.size :: gp) rfl HSL hFF (fun k hk hm => by have h1 := (HOB.out k hk).2; have h2 := HF6.out.ge k hm; omega) (by rw [hlk]; unfold maxLen; omega) (by rw [hlk]; omega) (by have := x7.size; omega) ?_)
      intro a7 k7 w7 ac7 g7 m7
      have TG : Touch (w6.alloc (.cells #[.int .i64 x.kids[k].kind, .string x.kids[k].text, .int .i64 x.kids[k].number, .slice z1 x.kids[k].names.length z2, .slice z3 x.kids[k].kids.length z4] 25)) w7 kv.ownBlock.toList := (Touch.of_ext (Ext.refl _) _).grown g7 fun k hk => Or.inl (by simp [hk])
      have hge : ∀ k, k ∈ kv.ownBlock.toList → W3.heap.size ≤ k := fun k hk => (HOB.out k (by simpa using hk)).1
      have hX7 := (HX6.out.ext x7).touch' TG (fun hm => by have := hge _ hm; omega)
      have hR7 := (HRR6.out.ext x7).touch' TG (fun hm => by have := hge _ hm; omega)
      have hA7 := Acc.touch (AccT.ext HAT6.out x7) TG (fun k hk hm => by have h1 := hge _ hm; have h2 := (HNB.out k hk).2; omega) (fun k hk => nomatch hk)
      have hsz7 : W3.heap.size ≤ w7.heap.size := by have h1 := x7.size; have h2 := TG.size; omega
      have hw7 : Ext w w7 := Touch.ext (hx6.trans x7) TG (fun k hk => by have := hge k hk; omega)
      have HK7 : Hid (Acc W3.heap.size w7 25 5 (.slice a7 (k + 1) k7) ((x.kids.take (k + 1)).map MExpr.d) (fp ++ gp)) := Lib.hid (by rw [List.take_succ_eq_append_getElem hlt, List.map_append, List.map_take]; exact ac7)
      clear KD HSL hFF g7 m7 TG ac7 hge HX6 HRR6 HAT6 x7 K6 HR6 HF6 hi hz0 hz1 hz2
      generalize hv7 : Value.slice a7 (k + 1) k7 = v7 at *
      go_wp2_with fail
      go_roundw
      case rel => exact ⟨k + 1, fp ++ gp, by omega, by go_num, hsz7, hw7, hX7, hR7, hA7, HK7⟩
      case measure => simp [intOf]; omega
    · obtain rfl : k = x.kids.length := by omega
      obtain ⟨ak, ck, gk, rfl, rk, fk⟩ := Acc.rep hK.out
      obtain ⟨an, cn, gn, hvn, rn, fn⟩ := AccT.rep hA
      injection hvn with hv1 _ hv2
      subst hv1
      subst hv2
      rw [List.take_length, List.length_map] at rk
      have HRK := Lib.hid rk
      have HFK := Lib.hid fk
      have HRN := Lib.hid rn
      have HFN := Lib.hid fn
      have HNB2 : Hid (∀ k, k ∈ gn → w.heap.size + 2 ≤ k ∧ k < W3.heap.size) := Lib.hid (fun k hk => HNB.out k (strs_blk HRN.out k hk))
      clear hA hK rk fk rn fn
      have q0 : wr.cell? ⟨w.heap.size, 0, none⟩ = some (.int .i64 x.kind) := hX.cell 0
      have qf0 := hX.frozen 0
      have q1 : wr.cell? ⟨w.heap.size, 1, none⟩ = some (.string x.text) := hX.cell 1
      have qf1 := hX.frozen 1
      have q2 : wr.cell? ⟨w.heap.size, 2, none⟩ = some (.int .i64 x.number) := hX.cell 2
      have qf2 := hX.frozen 2
      have q3 : wr.cell? ⟨w.heap.size, 3, none⟩ = some (.slice b1 x.names.length k1) := hX.cell 3
      have qf3 := hX.frozen 3
      have q4 : wr.cell? ⟨w.heap.size, 4, none⟩ = some (.slice a2 x.kids.length c2) := hX.cell 4
      have qf4 := hX.frozen 4
      have qz := hX.lt
      have r0 : wr.cell? ⟨w.heap.size + 1, 0, none⟩ = some (.int .i64 0) := hR.cell 0
      have rf0 := hR.frozen 0
      have r1 : wr.cell? ⟨w.heap.size + 1, 1, none⟩ = some (.string ⟨#[]⟩) := hR.cell 1
      have rf1 := hR.frozen 1
      have r2 : wr.cell? ⟨w.heap.size + 1, 2, none⟩ = some (.int .i64 0) := hR.cell 2
      have rf2 := hR.frozen 2
      have r3 : wr.cell? ⟨w.heap.size + 1, 3, none⟩ = some (.slice none 0 0) := hR.cell 3
      have rf3 := hR.frozen 3
      have r4 : wr.cell? ⟨w.heap.size + 1, 4, none⟩ = some (.slice none 0 0) := hR.cell 4
      have rf4 := hR.frozen 4
      have rz := hR.lt
      go_upto_region 9 with fail
      generalize hS : World.setCell wr _ _ = W8
      have T8 : Touch wr W8 [w.heap.size] := by rw [← hS]; exact (Touch.of_ext (Ext.refl _) _).setCell (by simp) _
      have OX8 : Own W8 w.heap.size 25 #[.int .i64 x.kind, .string x.text, .int .i64 x.number, .slice b1 x.names.length k1, .slice ak x.kids.length ck] := by rw [← hS]; exact hX.set 4 _
      have OR8 := hR.touch' T8 (by simp)
      clear hS q0 qf0 r0 rf0 q1 qf1 r1 rf1 q2 qf2 r2 rf2 q3 qf3 r3 rf3 q4 qf4 r4 rf4 qz rz hX hR
      have q0 : W8.cell? ⟨w.heap.size, 0, none⟩ = some (.int .i64 x.kind) := OX8.cell 0
      have qf0 := OX8.frozen 0
      have q1 : W8.cell? ⟨w.heap.size, 1, none⟩ = some (.string x.text) := OX8.cell 1
      have qf1 := OX8.frozen 1
      have q2 : W8.cell? ⟨w.heap.size, 2, none⟩ = some (.int .i64 x.number) := OX8.cell 2
      have qf2 := OX8.frozen 2
      have q3 : W8.cell? ⟨w.heap.size, 3, none⟩ = some (.slice b1 x.names.length k1) := OX8.cell 3
      have qf3 := OX8.frozen 3
      have q4 : W8.cell? ⟨w.heap.size, 4, none⟩ = some (.slice ak x.kids.length ck) := OX8.cell 4
      have qf4 := OX8.frozen 4
      have qz := OX8.lt
      have r0 : W8.cell? ⟨w.heap.size + 1, 0, none⟩ = some (.int .i64 0) := OR8.cell 0
      have rf0 := OR8.frozen 0
      have r1 : W8.cell? ⟨w.heap.size + 1, 1, none⟩ = some (.string ⟨#[]⟩) := OR8.cell 1
      have rf1 := OR8.frozen 1
      have r2 : W8.cell? ⟨w.heap.size + 1, 2, none⟩ = some (.int .i64 0) := OR8.cell 2
      have rf2 := OR8.frozen 2
      have r3 : W8.cell? ⟨w.heap.size + 1, 3, none⟩ = some (.slice none 0 0) := OR8.cell 3
      have rf3 := OR8.frozen 3
      have r4 : W8.cell? ⟨w.heap.size + 1, 4, none⟩ = some (.slice none 0 0) := OR8.cell 4
      have rf4 := OR8.frozen 4
      have rz := OR8.lt
      go_wp2_with fail
      generalize hS : World.setCell (World.setCell (World.setCell (World.setCell (World.setCell W8 _ _) _ _) _ _) _ _) _ _ = W9
      obtain ⟨O9, T9⟩ := own5 OR8 (.int .i64 x.kind) (.string x.text) (.int .i64 x.number) (.slice b1 x.names.length k1) (.slice ak x.kids.length ck)
      rw [hS] at O9 T9
      clear hS
      have p0 : W9.cell? ⟨w.heap.size + 1, 0, none⟩ = some (.int .i64 x.kind) := O9.cell 0
      have p1 : W9.cell? ⟨w.heap.size + 1, 1, none⟩ = some (.string x.text) := O9.cell 1
      have p2 : W9.cell? ⟨w.heap.size + 1, 2, none⟩ = some (.int .i64 x.number) := O9.cell 2
      have p3 : W9.cell? ⟨w.heap.size + 1, 3, none⟩ = some (.slice b1 x.names.length k1) := O9.cell 3
      have p4 : W9.cell? ⟨w.heap.size + 1, 4, none⟩ = some (.slice ak x.kids.length ck) := O9.cell 4
      have pz := O9.lt
      have T89 : Touch wr W9 [w.heap.size, w.heap.size + 1] := (T8.mono (by simp)).trans (T9.mono (by simp))
      have RN9 := HRN.out.touch T89 (fun k hk hm => by have := (HNB2.out k hk).1; simp at hm; omega)
      have RK9 := HRK.out.touch T89 (fun k hk hm => by have := HFK.out.ge k hk; simp at hm; omega)
      have R9 := MExpr.shut (x := x) RN9 RK9
      rw [List.append_nil] at R9
      have FN9 := HFN.out.touch T89 (fun k hk hm => by have := (HNB2.out k hk).1; simp at hm; omega)
      have FK9 := HFK.out.touch T89 (fun k hk hm => by have := HFK.out.ge k hk; simp at hm; omega)
      have F9 : Fresh W9 w.heap.size (gn ++ gk) := (FN9.mono (by omega)).join FK9 (fun k hk => (HNB2.out k hk).2) (by omega)
      have FIN : GivesS w x.d (.returned (.agg #[.int .i64 x.kind, .string x.text, .int .i64 x.number, .slice b1 x.names.length k1, .slice ak x.kids.length ck])) W9 := ⟨_, gn ++ gk, rfl, R9, F9, Touch.ext hx T89 (fun k hk => by simp at hk; omega)⟩
      exact bodyPost_ret (v := .agg #[.int .i64 x.kind, .string x.text, .int .i64 x.number, .slice b1 x.names.length k1, .slice ak x.kids.length ck]) (by simp [results, Tryz.results28, go_sem, p0, p1, p2, p3, p4, pz]) rfl FIN

theorem copy_lt : ∀ (n : Nat) (x : MExpr) (cx : List Value) (w : World), SizeOf.sizeOf x < n → Rep w x.d cx → x.d.bulk ≤ 1048576 → Calls Tryz.prog 28 #[.agg cx.toArray] w (GivesS w x.d)
  | 0, x, cx, w, h, _, _ => absurd h (Nat.not_lt_zero _)
  | n + 1, x, cx, w, h, rx, hb => copy_of n (Lib.hid fun z cz w' hz rz hb' => copy_lt n z cz w' hz rz hb') x cx w h rx hb
theorem copyExpr_any (x : MExpr) (cx : List Value) (w : World) (rx : Rep w x.d cx) (hb : x.d.bulk ≤ 1048576) : Calls Tryz.prog 28 #[.agg cx.toArray] w (GivesS w x.d) := copy_lt _ x cx w (Nat.lt_succ_self _) rx hb

open Go.RowKit
set_option linter.unusedSimpArgs false
set_option linter.unusedVariables false

/-- As Acw; the blocks of the elements' rows are in S. -/
def AcwS (S : Nat → Prop) (B0 : Nat) (w : World) (e : TypeId) (size : Nat) (v : Value) (ds : List D) : Prop :=
  ∃ xs fp, w.ownsRow B0 e size v ds.length xs ∧ RepR w size ds xs fp ∧ (∀ k, k ∈ fp → S k) ∧ ∀ k, v.ownBlock = some k → k ∉ fp
def AccXS (S : Nat → Prop) (B0 : Nat) (w : World) (v : Value) (l : List MExpr) : Prop := AcwS S B0 w 25 5 v (l.map MExpr.d)
theorem AcwS.touch {S : Nat → Prop} {B0 : Nat} {w w' : World} {e : TypeId} {size : Nat} {v : Value} {ds : List D} {gp : List Nat} (h : AcwS S B0 w e size v ds) (ht : Touch w w' gp) (hg : ∀ k, k ∈ gp → ¬ S k ∧ v.ownBlock ≠ some k) : AcwS S B0 w' e size v ds := by
  obtain ⟨xs, fp, ⟨k1, k2⟩, h2, h3, h4⟩ := h
  refine ⟨xs, fp, ⟨k1, ?_⟩, h2.keep _ _ fun k hk => ht.block k (h2.lt _ _ k hk) (fun hm => (hg k hm).1 (h3 k hk)), h3, h4⟩
  rcases k2 with k2 | ⟨g, cap, cur, rfl, hg2, hh, r⟩
  · exact Or.inl k2
  · exact Or.inr ⟨g, cap, cur, rfl, hg2, (ht.block g (Array.getElem?_eq_some_iff.1 hh).1 (fun hm => (hg g hm).2 (by simp [Value.ownBlock]))).trans hh, r⟩
theorem AcwS.ext {S : Nat → Prop} {B0 : Nat} {w w' : World} {e : TypeId} {size : Nat} {v : Value} {ds : List D} (h : AcwS S B0 w e size v ds) (hx : Ext w w') : AcwS S B0 w' e size v ds := h.touch (Touch.of_ext hx []) (fun k hk => nomatch hk)
theorem AcwS.acw {S : Nat → Prop} {B0 : Nat} {w : World} {e : TypeId} {size : Nat} {v : Value} {ds : List D} (h : AcwS S B0 w e size v ds) (hS : ∀ k, S k → B0 ≤ k) : Acw B0 w e size v ds := by
  obtain ⟨xs, fp, h1, h2, h3, h4⟩ := h
  exact ⟨xs, fp, h1, h2, fun k hk => hS k (h3 k hk), h4⟩
theorem AcwS.ge {S : Nat → Prop} {B0 : Nat} {w : World} {e : TypeId} {size : Nat} {v : Value} {ds : List D} (h : AcwS S B0 w e size v ds) {k : Nat} (hk : v.ownBlock = some k) : B0 ≤ k ∧ k < w.heap.size := by
  obtain ⟨xs, fp, ⟨_, h2⟩, _⟩ := h
  rcases h2 with ⟨rfl, _⟩ | ⟨g, cap, cur, rfl, hg, hh, _⟩
  · cases hk
  · simp [Value.ownBlock] at hk
    subst hk
    exact ⟨hg, (Array.getElem?_eq_some_iff.1 hh).1⟩
/-- The row is a slice that reads as its data; its blocks are its own and those of S. -/
theorem AcwS.rep {S : Nat → Prop} {B0 : Nat} {w : World} {e : TypeId} {size : Nat} {v : Value} {ds : List D} (h : AcwS S B0 w e size v ds) (hsz : 0 < size) : ∃ ao cap gp, v = .slice ao ds.length cap ∧ RepF w (.sl size ds) [.slice ao ds.length cap] gp ∧ ∀ k, k ∈ gp → S k ∨ v.ownBlock = some k := by
  obtain ⟨xs, fp, ⟨k1, k2⟩, h2, h3, h4⟩ := h
  rcases k2 with ⟨rfl, hn⟩ | ⟨g, cap, cur, rfl, hg, hh, hc, hm, hcs, htk⟩
  · have : ds = [] := List.length_eq_zero_iff.1 hn
    subst this
    exact ⟨none, 0, [], rfl, RepF.sl_iff.2 ⟨none, 0, rfl, by simp, by unfold maxLen; omega, by simp, Or.inl ⟨rfl, rfl⟩⟩, fun k hk => nomatch hk⟩
  · by_cases h0 : ds = []
    · subst h0
      exact ⟨_, cap, [], rfl, RepF.sl_iff.2 ⟨_, cap, rfl, hc, hm, by simp, Or.inl ⟨rfl, rfl⟩⟩, fun k hk => nomatch hk⟩
    · refine ⟨_, cap, g :: fp, rfl, RepF.sl_iff.2 ⟨_, cap, rfl, hc, hm, by simp, Or.inr ⟨g, 0, xs, fp, h0, rfl, rfl, (Array.getElem?_eq_some_iff.1 hh).1, fun j c hj => ?_, h2⟩⟩, fun k hk => ?_⟩
      · rw [Nat.zero_add, cell_of_row w g j cur e (0, 0) hh]
        rw [← htk] at hj
        have hjl := (List.getElem?_eq_some_iff.1 hj).1
        rw [List.getElem?_take_of_lt (by rw [List.length_take] at hjl; omega)] at hj
        simpa using hj
      · rcases List.mem_cons.1 hk with rfl | hk
        · exact Or.inr (by simp [Value.ownBlock])
        · exact Or.inl (h3 k hk)
theorem AccXS.rep {S : Nat → Prop} {B0 : Nat} {w : World} {v : Value} {l : List MExpr} (h : AccXS S B0 w v l) : ∃ ao cap gp, v = .slice ao l.length cap ∧ RepF w (MExprs l) [.slice ao l.length cap] gp ∧ ∀ k, k ∈ gp → S k ∨ v.ownBlock = some k := by
  obtain ⟨ao, cap, gp, h1, h2, h3⟩ := AcwS.rep h (by decide)
  simp only [List.length_map] at h1 h2
  exact ⟨ao, cap, gp, h1, h2, h3⟩
/-- A row that lies in one block of its own. -/
theorem AcwS.own {S : Nat → Prop} {B0 nb : Nat} {w : World} {e : TypeId} {size n : Nat} {ds : List D} {xs : List Value} {fp : List Nat} (hO : Own w nb e xs.toArray) (h : RepR w size ds xs fp) (hn : ds.length = n) (hB : B0 ≤ nb) (hm : n ≤ maxLen) (hS : ∀ k, k ∈ fp → S k ∧ k ≠ nb) : AcwS S B0 w e size (.slice (some ⟨nb, 0, none⟩) n n) ds := by
  subst hn
  have hl := RepR.length h
  refine ⟨xs, fp, ⟨hl, Or.inr ⟨nb, ds.length, xs.toArray, rfl, hB, hO, Nat.le_refl _, hm, by simpa using hl, by simp [← hl]⟩⟩, h, fun k hk => (hS k hk).1, fun k hk hm => ?_⟩
  simp [Value.ownBlock] at hk
  exact (hS k hm).2 hk.symm
theorem AccXS.one {S : Nat → Prop} {B0 nb : Nat} {w : World} {x : MExpr} {cs : List Value} {fp : List Nat} (h : RepF w x.d cs fp) (hO : Own w nb 25 cs.toArray) (hB : B0 ≤ nb) (hS : ∀ k, k ∈ fp → S k ∧ k ≠ nb) : AccXS S B0 w (.slice (some ⟨nb, 0, none⟩) 1 1) [x] := by
  obtain ⟨_, _, _, _, rfl⟩ := fld5 h
  exact AcwS.own hO (RepR.one h rfl) rfl hB (by unfold maxLen; omega) hS
theorem AccXS.two {S : Nat → Prop} {B0 nb : Nat} {w : World} {x y : MExpr} {cs ds : List Value} {fp gp : List Nat} (h : RepF w x.d cs fp) (k : RepF w y.d ds gp) (hO : Own w nb 25 (cs ++ ds).toArray) (hB : B0 ≤ nb) (hS : ∀ k, k ∈ fp ++ gp → S k ∧ k ≠ nb) : AccXS S B0 w (.slice (some ⟨nb, 0, none⟩) 2 2) [x, y] := by
  obtain ⟨_, _, _, _, rfl⟩ := fld5 h
  obtain ⟨_, _, _, _, rfl⟩ := fld5 k
  exact AcwS.own hO ((RepR.one h rfl).append (RepR.one k rfl)) rfl hB (by unfold maxLen; omega) hS
/-- A tree's kids: the first and the rest. -/
theorem kids_cut {w : World} {k0 : MExpr} {l : List MExpr} {ao : Option Addr} {cap : Nat} {gp : List Nat} (h : RepF w (MExprs (k0 :: l)) [.slice ao (l.length + 1) cap] gp) :
    ∃ g off cs f0 f1, ao = some ⟨g, off, none⟩ ∧ g < w.heap.size ∧ l.length + 1 ≤ cap ∧ cap ≤ maxLen ∧ RepF w k0.d cs f0 ∧ (∀ (j : Nat) c, cs[j]? = some c → w.cell? ⟨g, off + j, none⟩ = some c) ∧ (∀ k, k ∈ f0 → k ∈ gp) ∧ (∀ k, k ∈ f1 → k ∈ gp) ∧
      RepF w (MExprs l) [.slice (if cap = 1 then some ⟨g, off, none⟩ else some ⟨g, off + 5, none⟩) l.length (cap - 1)] f1 := by
  obtain ⟨ao', cap', h1, hc, hm, hn, h2⟩ := RepF.sl_iff.1 h
  simp at h1
  obtain ⟨rfl, rfl⟩ := h1
  rcases h2 with ⟨h2, _⟩ | ⟨g, off, cs, fp, _, ha, hgp, hg, hcell, hr⟩
  · cases h2
  subst ha
  have hr' : RepR w 5 (k0.d :: l.map MExpr.d) cs fp := hr
  simp only [RepR] at hr'
  obtain ⟨c1, c2, f1, f2, rfl, rfl, hl1, r1, r2⟩ := hr'
  have e0 : ([.slice (some ⟨g, off, none⟩) (l.length + 1) cap] : List Value).length = 1 := rfl
  have hc' : l.length + 1 ≤ cap := by simpa using hc
  subst hgp
  by_cases hl : l = []
  · subst hl
    simp only [List.map_nil, RepR] at r2
    refine ⟨g, off, c1, f1, [], rfl, hg, hc', hm, r1, fun j c hj => hcell j c ?_, fun k hk => by simp [hk], (fun k hk => nomatch hk), RepF.sl_iff.2 ⟨_, cap - 1, rfl, by simp, by omega, fun h => ?_, Or.inl ⟨rfl, rfl⟩⟩⟩
    · rw [List.getElem?_append_left (List.getElem?_eq_some_iff.1 hj).1]; exact hj
    · split at h <;> cases h
  · have hp : 0 < l.length := List.length_pos_iff.2 hl
    have hif : ∀ p q : Option Addr, (if cap = 1 then p else q) = q := fun _ _ => if_neg (by omega)
    simp only [hif]
    refine ⟨g, off, c1, f1, g :: f2, rfl, hg, hc', hm, r1, fun j c hj => hcell j c ?_, fun k hk => by simp [hk], fun k hk => ?_, RepF.sl_iff.2 ⟨_, cap - 1, by simp, by simp; omega, by omega, by simp, Or.inr ⟨g, off + 5, c2, f2, by simpa using hl, rfl, rfl, hg, fun j c hj => ?_, r2⟩⟩⟩
    · rw [List.getElem?_append_left (List.getElem?_eq_some_iff.1 hj).1]; exact hj
    · rcases List.mem_cons.1 hk with rfl | hk
      · simp
      · simp [hk]
    · have := hcell (5 + j) c (by rw [List.getElem?_append_right (by omega)]; rw [hl1]; simpa using hj)
      rwa [← Nat.add_assoc] at this
theorem MExpr.op_enP {w : World} {x : MExpr} {cs : List Value} {fp : List Nat} (h : RepF w x.d cs fp) : ∃ a1 c1 a2 c2 f1 f2, cs = [.int .i64 x.kind, .string x.text, .int .i64 x.number, .slice a1 x.names.length c1, .slice a2 x.kids.length c2] ∧
    RepF w (strs x.names) [.slice a1 x.names.length c1] f1 ∧ RepF w (MExprs x.kids) [.slice a2 x.kids.length c2] f2 ∧ (∀ k, k ∈ f1 → k ∈ fp) ∧ ∀ k, k ∈ f2 → k ∈ fp := by
  rw [MExpr.d_eq] at h
  obtain ⟨k1, rfl, g1⟩ := RepS.un_int (RepF.un_st h)
  obtain ⟨k2, rfl, g2⟩ := RepS.un_str g1
  obtain ⟨k3, rfl, g3⟩ := RepS.un_int g2
  obtain ⟨a1, c1, k4, f1, f2, rfl, rfl, h1, g4⟩ := RepS.un_sl g3
  obtain ⟨a2, c2, k5, f3, f4, rfl, rfl, h2, g5⟩ := RepS.un_sl g4
  simp only [RepS] at g5
  obtain ⟨rfl, rfl⟩ := g5
  simp only [List.length_map] at h1 h2 ⊢
  exact ⟨a1, c1, a2, c2, f1, f3, rfl, h1, h2, fun k hk => List.mem_append_left _ hk, fun k hk => List.mem_append_right _ (List.mem_append_left _ hk)⟩
/-- A tree with kids, in memory: the first of them, and the rest as a slice. -/
theorem kids_open {w : World} {x k0 : MExpr} {l : List MExpr} {v0 v1 v2 v3 : Value} {ao : Option Addr} {n cap : Nat} {fp : List Nat} (h : RepF w x.d [v0, v1, v2, v3, .slice ao n cap] fp) (hk : x.kids = k0 :: l) :
    n = l.length + 1 ∧ ∃ g off cs f0 f1, ao = some ⟨g, off, none⟩ ∧ g < w.heap.size ∧ l.length + 1 ≤ cap ∧ cap ≤ maxLen ∧ RepF w k0.d cs f0 ∧ (∀ (j : Nat) c, cs[j]? = some c → w.cell? ⟨g, off + j, none⟩ = some c) ∧ (∀ k, k ∈ f0 → k ∈ fp) ∧ (∀ k, k ∈ f1 → k ∈ fp) ∧
      RepF w (MExprs l) [.slice (if cap = 1 then some ⟨g, off, none⟩ else some ⟨g, off + 5, none⟩) l.length (cap - 1)] f1 := by
  obtain ⟨a1, c1, a2, c2, f1, f2, hcs, rn, rk, hf1, hf2⟩ := MExpr.op_enP h
  simp only [List.cons.injEq, Value.slice.injEq, and_true] at hcs
  obtain ⟨rfl, rfl, rfl, rfl, rfl, rfl, rfl⟩ := hcs
  rw [hk] at rk
  obtain ⟨g, off, cs, f0, f3, h1, h2, h3, h4, h5, h6, h7, h8, h9⟩ := kids_cut (l := l) (by rw [List.length_cons] at rk; exact rk)
  exact ⟨by rw [hk]; rfl, g, off, cs, f0, f3, h1, h2, h3, h4, h5, h6, fun k hk => hf2 k (h7 k hk), fun k hk => hf2 k (h8 k hk), h9⟩
theorem kids_cons {x : MExpr} (h : x.kids ≠ []) : ∃ k0 l, x.kids = k0 :: l := by
  cases hx : x.kids with
  | nil => exact absurd hx h
  | cons a l => exact ⟨a, l, rfl⟩

theorem run_append_s {S : Nat → Prop} {P : Program} {w : World} (t ty : TypeId) (B0 : Nat) (e : TypeId) (i : TypeInfo) (z : Value) (size bytes : Nat) (ht : P.underlying t = some (.slice e)) (hi : P.info? e = some i) (hz : i.zero = some z)
    (hsize : i.size = size) (hby : i.bytes = bytes) (hzs : z.cells.size = size) (hsz : 0 < size)
    (v : Value) (ds : List D) (hacc : AcwS S B0 w e size v ds) (ys : List D) (ao : Option Addr) (m c : Nat) (gp : List Nat) (hr : RepF w (.sl size ys) [.slice ao m c] gp)
    (hF : ∀ k, k ∈ gp.tail → S k) (hown : ∀ k, v.ownBlock = some k → k ∉ gp.tail)
    (h63 : ds.length + m ≤ maxLen) (hbytes : (ds.length + m) * bytes ≤ 140737488355328) (hbase : B0 ≤ w.heap.size) :
    ∃ ao' cap' w', (Builtin.append_ #[t, t] ty #[v, .slice ao m c]).run P w = .ok (.slice ao' (ds.length + m) cap') w' ∧ AcwS S B0 w' e size (.slice ao' (ds.length + m) cap') (ds ++ ys) ∧ w.grownBy w' v.ownBlock ∧ ((Value.slice ao' (ds.length + m) cap').ownBlock = v.ownBlock ∨ (Value.slice ao' (ds.length + m) cap').ownBlock = some w.heap.size) := by
  obtain ⟨xs, fp, h1, h2, h3, h4⟩ := hacc
  obtain ⟨hm, hml, news, hnr, hsrc⟩ := hr.source
  rcases hsrc with ⟨rfl, rfl, rfl, rfl⟩ | ⟨ad, rfl, hcells⟩
  · have hv : ∃ ao' cap', v = .slice ao' (ds.length + 0) cap' := by
      rcases h1.2 with ⟨rfl, hn⟩ | ⟨g, cap, cur, rfl, _⟩
      · exact ⟨none, 0, by rw [hn]⟩
      · exact ⟨_, cap, by rw [Nat.add_zero]⟩
    obtain ⟨ao', cap', hv⟩ := hv
    refine ⟨ao', cap', w, ?_, ⟨xs, fp, by rw [← hv]; simpa using h1, by simpa using h2, h3, by rw [← hv]; exact h4⟩, World.grownBy.refl _ _, Or.inl (by rw [← hv])⟩
    rw [← hv]
    exact run_append_owned_none (P := P) (w := w) B0 t ty e i size ht hi v ds.length xs h1
  · obtain ⟨v', w', hrun, hown', hgrow, hnil, hat⟩ := run_append_own_at (P := P) w B0 t ty e i z size bytes ht hi hz hsize hby hzs hsz v ds.length xs h1 ad m c news (by rw [hm]; exact hnr.length) hcells (fun u hu => RepR.one_cell hnr u hu) h63 hbytes hbase
    have hv : ∃ ao' cap', v' = .slice ao' (ds.length + m) cap' := by
      rcases hown'.2 with ⟨rfl, hn⟩ | ⟨g, cap, cur, rfl, _⟩
      · exact ⟨none, 0, by rw [hn]⟩
      · exact ⟨_, cap, rfl⟩
    have hlt : ∀ k, k ∈ fp ++ gp.tail → k < w.heap.size := fun k hk => by
      rcases List.mem_append.1 hk with hk | hk
      · exact h2.lt _ _ k hk
      · exact hnr.lt _ _ k hk
    have hkeep : ∀ k, k ∈ fp ++ gp.tail → w'.heap[k]? = w.heap[k]? := fun k hk => grown_keep hgrow (hlt k hk) (fun e => by
      rcases List.mem_append.1 hk with hk | hk
      · exact h4 k e hk
      · exact hown k e hk)
    obtain ⟨ao', cap', rfl⟩ := hv
    refine ⟨ao', cap', w', hrun, ⟨xs ++ news, fp ++ gp.tail, by rw [List.length_append, ← hm]; exact hown', (h2.keep size ds fun k hk => hkeep k (List.mem_append_left _ hk)).append (hnr.keep size ys fun k hk => hkeep k (List.mem_append_right _ hk)),
        fun k hk => (List.mem_append.1 hk).elim (h3 k) (hF k), fun k hk hkm => ?_⟩, hgrow, hat⟩
    rcases hat with hat | hat
    · rw [hat] at hk
      rcases List.mem_append.1 hkm with hkm | hkm
      · exact h4 k hk hkm
      · exact hown k hk hkm
    · have := hlt k hkm
      rw [hat] at hk; injection hk with hk; omega
theorem wp_append_s {S : Nat → Prop} {P : Program} {w : World} {o : Oper} {a : Act} {K : Act → World → Prop} {Q : Exit → Act → World → Prop} (s x : Operand) (t : TypeId)
    (ho : o.op = .call { callee := .builtin .append, args := #[s, x], argTypes := #[t, t] })
    (B0 : Nat) (e : TypeId) (i : TypeInfo) (z : Value) (size bytes : Nat) (ht : P.underlying t = some (.slice e)) (hi : P.info? e = some i) (hz : i.zero = some z)
    (hsize : i.size = size) (hby : i.bytes = bytes) (hzs : z.cells.size = size) (hsz : 0 < size)
    (v : Value) (ds : List D) (hs : a.eval s = v) (hacc : AcwS S B0 w e size v ds)
    (ys : List D) (ao : Option Addr) (m c : Nat) (gp : List Nat) (hx : a.eval x = .slice ao m c) (hr : RepF w (.sl size ys) [.slice ao m c] gp)
    (hF : ∀ k, k ∈ gp.tail → S k) (hown : ∀ k, v.ownBlock = some k → k ∉ gp.tail)
    (h63 : ds.length + m ≤ maxLen) (hbytes : (ds.length + m) * bytes ≤ 140737488355328) (hbase : B0 ≤ w.heap.size)
    (h : ∀ ao' cap' w', AcwS S B0 w' e size (.slice ao' (ds.length + m) cap') (ds ++ ys) → w.grownBy w' v.ownBlock → ((Value.slice ao' (ds.length + m) cap').ownBlock = v.ownBlock ∨ (Value.slice ao' (ds.length + m) cap').ownBlock = some w.heap.size) → K (a.put o.dst (.slice ao' (ds.length + m) cap')) w') : o.wp P a w K Q := by
  obtain ⟨ao', cap', w', hrun, h2, h3, h4⟩ := run_append_s (P := P) t o.type B0 e i z size bytes ht hi hz hsize hby hzs hsz v ds hacc ys ao m c gp hr hF hown h63 hbytes hbase
  unfold Oper.wp execOp
  simp only [ho, resolve, invoke, builtin, Sem.run_bind, Sem.run_pure, Result.andThen_ok, List.map_toArray, List.map_cons, List.map_nil, hs, hx, hrun]
  exact h ao' cap' w' h2 h3 h4

theorem wp_append_xs {S : Nat → Prop} {w : World} {o : Oper} {a : Act} {K : Act → World → Prop} {Q : Exit → Act → World → Prop} (s y : Operand)
    (ho : o.op = .call { callee := .builtin .append, args := #[s, y], argTypes := #[23, 23] })
    (B0 : Nat) (v : Value) (l : List MExpr) (hs : a.eval s = v) (hacc : AccXS S B0 w v l)
    (ys : List MExpr) (ao : Option Addr) (m c : Nat) (gp : List Nat) (hx : a.eval y = .slice ao m c) (hr : RepF w (MExprs ys) [.slice ao m c] gp)
    (hF : ∀ k, k ∈ gp.tail → S k) (hown : ∀ k, v.ownBlock = some k → k ∉ gp.tail) (hlen : l.length + ys.length ≤ 1073741824) (hbase : B0 ≤ w.heap.size)
    (h : ∀ ao' cap' w', AccXS S B0 w' (.slice ao' (l.length + ys.length) cap') (l ++ ys) → w.grownBy w' v.ownBlock → ((Value.slice ao' (l.length + ys.length) cap').ownBlock = v.ownBlock ∨ (Value.slice ao' (l.length + ys.length) cap').ownBlock = some w.heap.size) → K (a.put o.dst (.slice ao' (l.length + ys.length) cap')) w') : o.wp Tryz.prog a w K Q := by
  obtain ⟨i0, hi, hz0, hz1, hz2⟩ := info_parts exprInfo
  have hm : m = ys.length := by
    obtain ⟨_, _, h1, _⟩ := RepF.sl_iff.1 hr
    simp at h1; omega
  subst hm
  refine wp_append_s s y 23 ho B0 25 i0 _ 5 80 Tryz.underlying23 hi hz0 hz1 hz2 rfl (by decide) v (l.map MExpr.d) hs hacc (ys.map MExpr.d) ao ys.length c gp hx hr hF hown (by simp [maxLen]; omega) (by simp; omega) hbase ?_
  intro ao' cap' w' h2 h3 h4
  simp only [List.length_map, ← List.map_append] at h2 h4 ⊢
  exact h ao' cap' w' h2 h3 h4
theorem wpList_append_xs {S : Nat → Prop} {w : World} {ops : Array Oper} {rest : List Oper} {o : Oper} {a : Act} {Q : Exit → Act → World → Prop} (hgd : o.guard = none) (s y : Operand)
    (ho : o.op = .call { callee := .builtin .append, args := #[s, y], argTypes := #[23, 23] })
    (B0 : Nat) (v : Value) (l : List MExpr) (hs : a.eval s = v) (hacc : AccXS S B0 w v l)
    (ys : List MExpr) (ao : Option Addr) (m c : Nat) (gp : List Nat) (hx : a.eval y = .slice ao m c) (hr : RepF w (MExprs ys) [.slice ao m c] gp)
    (hF : ∀ k, k ∈ gp.tail → S k) (hown : ∀ k, v.ownBlock = some k → k ∉ gp.tail) (hlen : l.length + ys.length ≤ 1073741824) (hbase : B0 ≤ w.heap.size)
    (h : ∀ ao' cap' w', AccXS S B0 w' (.slice ao' (l.length + ys.length) cap') (l ++ ys) → w.grownBy w' v.ownBlock → ((Value.slice ao' (l.length + ys.length) cap').ownBlock = v.ownBlock ∨ (Value.slice ao' (l.length + ys.length) cap').ownBlock = some w.heap.size) → wpList Tryz.prog ops Q rest (a.put o.dst (.slice ao' (l.length + ys.length) cap')) w') : wpList Tryz.prog ops Q (o :: rest) a w :=
  wpList_plain hgd fun _ hK => wp_append_xs s y ho B0 v l hs hacc ys ao m c gp hx hr hF hown hlen hbase fun ao' cap' w' h2 h3 h4 => hK _ _ (h ao' cap' w' h2 h3 h4)
theorem step_append_xs {S : Nat → Prop} {w : World} {ops : Array Oper} {o : Oper} {a : Act} {K : Act → World → Prop} {Q : Exit → Act → World → Prop} {E : Prop} (hgd : o.guard = none) (s y : Operand)
    (ho : o.op = .call { callee := .builtin .append, args := #[s, y], argTypes := #[23, 23] })
    (B0 : Nat) (v : Value) (l : List MExpr) (hs : a.eval s = v) (hacc : AccXS S B0 w v l)
    (ys : List MExpr) (ao : Option Addr) (m c : Nat) (gp : List Nat) (hx : a.eval y = .slice ao m c) (hr : RepF w (MExprs ys) [.slice ao m c] gp)
    (hF : ∀ k, k ∈ gp.tail → S k) (hown : ∀ k, v.ownBlock = some k → k ∉ gp.tail) (hlen : l.length + ys.length ≤ 1073741824) (hbase : B0 ≤ w.heap.size)
    (h : ∀ ao' cap' w', AccXS S B0 w' (.slice ao' (l.length + ys.length) cap') (l ++ ys) → w.grownBy w' v.ownBlock → ((Value.slice ao' (l.length + ys.length) cap').ownBlock = v.ownBlock ∨ (Value.slice ao' (l.length + ys.length) cap').ownBlock = some w.heap.size) → K (a.put o.dst (.slice ao' (l.length + ys.length) cap')) w') : if Region.wanted o (yielded ops a.tmps) = true then Oper.wp Tryz.prog o a w K Q else E := by
  have hw : Region.wanted o (yielded ops a.tmps) = true := by simp [Region.wanted, hgd]
  rw [if_pos hw]
  exact wp_append_xs s y ho B0 v l hs hacc ys ao m c gp hx hr hF hown hlen hbase h
end Go.Proofs.YtonmcoojgkgemaaGreatDoor
