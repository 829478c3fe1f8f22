/-
  SEVERAL TEXTS IN ONE: CONTRACTS: the program's parser: done; CONTRACTS: the program's copyExpr; CONTRACTS: the small functions of the reference's parser, continued.
  Conditions: those that each lemma states.
-/
import Derived.Test.YtonmcoojgkgemaaGreatDoorRows
import Derived.Test.YtonmcoojgkgemaaGreatDoorP29
import Derived.Test.YtonmcoojgkgemaaGreatDoorP24
import Derived.Test.YtonmcoojgkgemaaGreatDoorParJ
import Derived.Test.YtonmcoojgkgemaaGreatDoorP14
import Derived.Test.YtonmcoojgkgemaaGreatDoorP17
namespace Go.Proofs.YtonmcoojgkgemaaGreatDoor
open Go.RowKit
set_option linter.unusedSimpArgs false
set_option linter.unusedVariables false

set_option maxHeartbeats 2000000 in
set_option maxRecDepth 100000 in
theorem done_any {B tb to_ cap : Nat} {ao : Option Addr} {ts : List MToken} {a : Nat} {b : Bool} (w : World) (h : Prs 54 B tb to_ cap ao ts w (a) b) : Calls Tryz.prog 26 #[.pointer (some ⟨B, 0, none⟩)] w (fun e w' => e = .returned (.bool (!b && decide (a = ts.length))) ∧ Ext w w') := by
  obtain ⟨c0, c1, c2⟩ := h.cells
  have zB := lt_of_cell c0
  clear h
  obtain ⟨V, hV⟩ : ∃ V, (!b && decide (a = ts.length)) = V := ⟨_, rfl⟩
  rw [hV]
  cases b
  · by_cases hl : a = ts.length
    · subst hl
      have hv : V = true := by rw [← hV]; simp
      subst hv
      clear hV
      go_enter Tryz.func26, Tryz.ntmps26
      go_wp2_with fail
      have gc0 := reg (Ext.refl _) c0
      have gc1 := reg (Ext.refl _) c1
      have gc2 := reg (Ext.refl _) c2
      refine wp_region_quiet_below (by kernel_rfl) (by kernel_rfl) ?_
      repeat (go_big_quiet_step ((fail)))
      refine wpQuiet_nil ?_
      clear gc0 gc1 gc2
      intro _ hw'
      obtain ⟨pw, hw''⟩ := hw'
      subst hw''
      have xW2 := regx w pw
      generalize hWR : «Sort».grow (redrawn w pw.d) pw.os = W2 at *
      clear hWR
      replace c0 := xW2.cell c0
      replace c1 := xW2.cell c1
      replace c2 := xW2.cell c2
      go_wp2_with fail
      go_ret
      exact ⟨rfl, by first | exact xW2 | exact xW2.alloc _⟩
    have hn : decide ((a : Int) = (ts.length : Int)) = false := decide_eq_false (by omega)
    have hn2 : ((a : Int) == (ts.length : Int)) = false := by simp; omega
    have hv : V = false := by rw [← hV]; simp [hl]
    subst hv
    clear hV
    go_enter Tryz.func26, Tryz.ntmps26
    go_wp2_with fail
    have gc0 := reg (Ext.refl _) c0
    have gc1 := reg (Ext.refl _) c1
    have gc2 := reg (Ext.refl _) c2
    refine wp_region_quiet_below (by kernel_rfl) (by kernel_rfl) ?_
    repeat (go_big_quiet_step ((fail)))
    refine wpQuiet_nil ?_
    clear gc0 gc1 gc2
    intro _ hw'
    obtain ⟨pw, hw''⟩ := hw'
    subst hw''
    have xW2 := regx w pw
    generalize hWR : «Sort».grow (redrawn w pw.d) pw.os = W2 at *
    clear hWR
    replace c0 := xW2.cell c0
    replace c1 := xW2.cell c1
    replace c2 := xW2.cell c2
    go_wp2_with fail
    go_ret
    exact ⟨rfl, by first | exact xW2 | exact xW2.alloc _⟩
  have hv : V = false := by rw [← hV]; simp
  subst hv
  clear hV
  go_enter Tryz.func26, Tryz.ntmps26
  go_wp2_with fail
  have gc0 := reg (Ext.refl _) c0
  have gc1 := reg (Ext.refl _) c1
  have gc2 := reg (Ext.refl _) c2
  refine wp_region_quiet_below (by kernel_rfl) (by kernel_rfl) ?_
  repeat (go_big_quiet_step ((fail)))
  refine wpQuiet_nil ?_
  clear gc0 gc1 gc2
  intro _ hw'
  obtain ⟨pw, hw''⟩ := hw'
  subst hw''
  have xW2 := regx w pw
  generalize hWR : «Sort».grow (redrawn w pw.d) pw.os = W2 at *
  clear hWR
  replace c0 := xW2.cell c0
  replace c1 := xW2.cell c1
  replace c2 := xW2.cell c2
  go_wp2_with fail
  go_ret
  exact ⟨rfl, by first | exact xW2 | exact xW2.alloc _⟩

open Go.RowKit
set_option linter.unusedSimpArgs false
set_option linter.unusedVariables false

theorem strs_blk {w : World} {l : List ByteArray} {ao : Option Addr} {n cap : Nat} {gp : List Nat} (h : RepF w (strs l) [.slice ao n cap] gp) : ∀ k, k ∈ gp → (Value.slice ao n cap).ownBlock = some k := by
  intro k hk
  have ht := h.strs_tail
  obtain ⟨ao', cap', e, _, _, _, h2⟩ := RepF.sl_iff.1 h
  rcases h2 with ⟨_, rfl⟩ | ⟨b, o, cs, fp', _, ha, rfl, _⟩
  · cases hk
  · simp at ht
    subst ht
    simp at hk
    subst hk
    simp at e
    rw [e.1, ha]
    rfl

set_option maxHeartbeats 8000000 in
set_option maxRecDepth 100000 in
theorem copy_of (n : Nat) (IH : Hid (∀ (z : MExpr) (cz : List Value) (w : World), SizeOf.sizeOf z < n → Rep w z.d cz → z.d.bulk ≤ 1048576 → Calls Tryz.prog 28 #[.agg cz.toArray] w (GivesS w z.d)))
    (x : MExpr) (cx : List Value) (w : World) (hn : SizeOf.sizeOf x < n + 1) (rx : Rep w x.d cx) (hb : x.d.bulk ≤ 1048576) : Calls Tryz.prog 28 #[.agg cx.toArray] w (GivesS w x.d) := by
  have hk : Hid (∀ z, z ∈ x.kids → SizeOf.sizeOf z < n) := Lib.hid fun z hz => by have := MExpr.kid_lt hz; omega
  obtain ⟨a1, c1, a2, c2, rfl, rn, rk⟩ := MExpr.op_en rx
  obtain ⟨ao, ca, ba, oa, e1, hla, hma, pa, hra⟩ := Rep.slmap rk
  simp only [List.cons.injEq, and_true, Value.slice.injEq, true_and] at e1
  obtain ⟨rfl, rfl⟩ := e1
  clear rx rk hn
  unfold maxLen at hma
  rw [MExpr.d_eq] at hb
  simp only [D.bulk, D.bulkL] at hb
  have hbk : Hid (x.kids.length + D.bulkL (x.kids.map MExpr.d) ≤ 1048576) := Lib.hid (by simp only [MExprs, D.bulk, List.length_map] at hb; omega)
  have hnl : x.names.length ≤ 1048576 := by simp only [strs, D.bulk, List.length_map] at hb; omega
  have hkl : x.kids.length ≤ 1048576 := by have := hbk.out; omega
  clear hb
  go_enter Tryz.func28, Tryz.ntmps28
  go_upto_region 1 with fail
  generalize hS : World.alloc (World.alloc w _) _ = W1
  have x1 : Ext w W1 := by rw [← hS]; exact ((Ext.refl _).alloc _).alloc _
  have OX : Own W1 w.heap.size 25 #[.int .i64 x.kind, .string x.text, .int .i64 x.number, .slice a1 x.names.length c1, .slice a2 x.kids.length c2] := by rw [← hS]; exact (own_new w _ _).ext ((Ext.refl _).alloc _)
  have OR : Own W1 (w.heap.size + 1) 25 #[.int .i64 0, .string ⟨#[]⟩, .int .i64 0, .slice none 0 0, .slice none 0 0] := by rw [← hS]; exact own_new2 w _ _ _
  have hs1 : w.heap.size + 2 ≤ W1.heap.size := by rw [← hS]; simp
  clear hS
  have HN := Lib.hid (Rep.ext x1 rn)
  clear rn
  have q0 : W1.cell? ⟨w.heap.size, 0, none⟩ = some (.int .i64 x.kind) := OX.cell 0
  have qf0 := OX.frozen 0
  have q1 : W1.cell? ⟨w.heap.size, 1, none⟩ = some (.string x.text) := OX.cell 1
  have qf1 := OX.frozen 1
  have q2 : W1.cell? ⟨w.heap.size, 2, none⟩ = some (.int .i64 x.number) := OX.cell 2
  have qf2 := OX.frozen 2
  have q3 : W1.cell? ⟨w.heap.size, 3, none⟩ = some (.slice a1 x.names.length c1) := OX.cell 3
  have qf3 := OX.frozen 3
  have q4 : W1.cell? ⟨w.heap.size, 4, none⟩ = some (.slice a2 x.kids.length c2) := OX.cell 4
  have qf4 := OX.frozen 4
  have qz := OX.lt
  have x2 : Ext W1 (W1.alloc (.cells #[] 9)) := (Ext.refl W1).alloc _
  have KD : AccT (w.heap.size + 2) (W1.alloc (.cells #[] 9)) (.slice (some ⟨W1.heap.size, 0, none⟩) 0 0) [] := Acc.empty _ _ hs1
  have HS1 := Rep.ext x2 HN.out
  have hl1 : ([] : List ByteArray).length + x.names.length ≤ 1073741824 := by simp; omega
  go_wp2_with (at_builtin; refine wpList_append_strs_at rfl _ _ rfl (w.heap.size + 2) _ [] rfl KD x.names _ _ _ rfl HS1 hl1 (by simp; omega) ?_)
  intro b1 k1 w2 ac1 g1 m1
  have TG : Touch (W1.alloc (.cells #[] 9)) w2 [W1.heap.size] := (Touch.of_ext (Ext.refl _) _).grown g1 fun k hk => Or.inl (by simp [Value.ownBlock] at hk; simp [hk])
  have X2 : Ext W1 w2 := Touch.ext x2 TG (fun k hk => by simp at hk; omega)
  have OX2 := OX.ext X2
  have OR2 := OR.ext X2
  have hs2 := X2.size
  have hx2 := x1.trans X2
  have AN := Lib.hid ac1
  clear KD HS1 hl1 g1 m1 TG x2 ac1 OX OR x1 X2 q0 qf0 q1 qf1 q2 qf2 q3 qf3 q4 qf4 qz HN
  have q0 : w2.cell? ⟨w.heap.size, 0, none⟩ = some (.int .i64 x.kind) := OX2.cell 0
  have qf0 := OX2.frozen 0
  have q1 : w2.cell? ⟨w.heap.size, 1, none⟩ = some (.string x.text) := OX2.cell 1
  have qf1 := OX2.frozen 1
  have q2 : w2.cell? ⟨w.heap.size, 2, none⟩ = some (.int .i64 x.number) := OX2.cell 2
  have qf2 := OX2.frozen 2
  have q3 : w2.cell? ⟨w.heap.size, 3, none⟩ = some (.slice a1 x.names.length c1) := OX2.cell 3
  have qf3 := OX2.frozen 3
  have q4 : w2.cell? ⟨w.heap.size, 4, none⟩ = some (.slice a2 x.kids.length c2) := OX2.cell 4
  have qf4 := OX2.frozen 4
  have qz := OX2.lt
  go_upto_region 2 with fail
  generalize hS : World.setCell w2 _ _ = W3
  have T3 : Touch w2 W3 [w.heap.size] := by rw [← hS]; exact (Touch.of_ext (Ext.refl _) _).setCell (by simp) _
  have OX3 : Own W3 w.heap.size 25 #[.int .i64 x.kind, .string x.text, .int .i64 x.number, .slice b1 x.names.length k1, .slice a2 x.kids.length c2] := by rw [← hS]; exact OX2.set 3 _
  have OR3 := OR2.touch' T3 (by simp)
  have AN3 := Lib.hid (AccT.low AN.out T3 (fun k hk => by simp at hk; omega))
  have hx3 : Ext w W3 := Touch.ext hx2 T3 (fun k hk => by simp at hk; omega)
  have hs3 := T3.size
  have HNB : Hid (∀ k, (Value.slice b1 x.names.length k1).ownBlock = some k → w.heap.size + 2 ≤ k ∧ k < W3.heap.size) := Lib.hid fun k hk => Acc.ge AN3.out hk
  clear hS T3 OX2 OR2 AN hx2 q0 qf0 q1 qf1 q2 qf2 q3 qf3 q4 qf4 qz
  go_upto_region 3 with fail
  generalize hS : World.alloc W3 _ = W4
  have x4 : Ext W3 W4 := by rw [← hS]; exact (Ext.refl _).alloc _
  have OX4 := OX3.ext x4
  have OR4 := OR3.ext x4
  have AN4 := Lib.hid (AccT.ext AN3.out x4)
  have AK4 : Hid (Acc W3.heap.size W4 25 5 (.slice (some ⟨W3.heap.size, 0, none⟩) 0 0) ([] : List D) []) := Lib.hid (by rw [← hS]; exact Acc.empty 25 5 (Nat.le_refl _))
  have hx4 := hx3.trans x4
  have hs4 := x4.size
  clear hS AN3 hx3 x4 OX3 OR3
  have q4 : W4.cell? ⟨w.heap.size, 4, none⟩ = some (.slice a2 x.kids.length c2) := OX4.cell 4
  have qz := OX4.lt
  go_wp2_with fail
  go_loopw [3, 15] (fun kv iv wr => ∃ (k : Nat) (fp : List Nat), k ≤ x.kids.length ∧ iv = .int .i64 k ∧ W3.heap.size ≤ wr.heap.size ∧ Ext w wr ∧ Own wr w.heap.size 25 #[.int .i64 x.kind, .string x.text, .int .i64 x.number, .slice b1 x.names.length k1, .slice a2 x.kids.length c2] ∧ Own wr (w.heap.size + 1) 25 #[.int .i64 0, .string ⟨#[]⟩, .int .i64 0, .slice none 0 0, .slice none 0 0] ∧ AccT (w.heap.size + 2) wr (.slice b1 x.names.length k1) x.names ∧ Hid (Acc W3.heap.size wr 25 5 kv ((x.kids.take k).map MExpr.d) fp)) (fun _ iv _ => x.kids.length - (intOf iv).toNat)
  case atStart => exact ⟨0, [], Nat.zero_le _, rfl, hs4, hx4, OX4, OR4, AN4.out, AK4⟩
  case round =>
    clear OX4 OR4 AN4 AK4 q4 qz hx4
    obtain ⟨kv, hkv⟩ : ∃ x, x = u3 := ⟨_, rfl⟩
    subst hkv
    obtain ⟨k, fp, hk', rfl, hwr, hx, hX, hR, hA, hK⟩ := hrel
    have hRl := hR.lt
    by_cases hlt : k < x.kids.length
    · obtain rfl := pa (by omega)
      obtain ⟨ea, la, cl, ra⟩ := hra k x.kids[k] (by simp [hlt])
      obtain ⟨aa0, cc0, aa1, cc1, rfl, -, -⟩ := MExpr.op_en ra
      have t0 := hx.cell (show w.cell? ⟨ba, oa + k * 5, none⟩ = some _ from cl 0 (by omega))
      have t1 := hx.cell (show w.cell? ⟨ba, oa + k * 5 + 1, none⟩ = some _ from cl 1 (by omega))
      have t2 := hx.cell (show w.cell? ⟨ba, oa + k * 5 + 2, none⟩ = some _ from cl 2 (by omega))
      have t3 := hx.cell (show w.cell? ⟨ba, oa + k * 5 + 3, none⟩ = some _ from cl 3 (by omega))
      have t4 := hx.cell (show w.cell? ⟨ba, oa + k * 5 + 4, none⟩ = some _ from cl 4 (by omega))
      clear cl la hra pa
      have hbz : x.kids[k].d.bulk ≤ 1048576 := by have := D.bulkL_mem (List.mem_map.2 ⟨x.kids[k], List.getElem_mem hlt, rfl⟩ : x.kids[k].d ∈ x.kids.map MExpr.d); have := hbk.out; omega
      have HAT := Lib.hid hA
      have HX := Lib.hid hX
      have HR := Lib.hid hR
      clear hX hR hA
      go_upto_region 6 with fail
      generalize hS : World.alloc wr _ = W5
      have x5 : Ext wr W5 := by rw [← hS]; exact (Ext.refl _).alloc _
      have OK : Own W5 wr.heap.size 25 #[.int .i64 x.kids[k].kind, .string x.kids[k].text, .int .i64 x.kids[k].number, .slice aa0 x.kids[k].names.length cc0, .slice aa1 x.kids[k].kids.length cc1] := by rw [← hS]; exact own_new wr _ _
      have RA := Lib.hid (Rep.ext (hx.trans x5) ra)
      clear hS t0 t1 t2 t3 t4 ra
      have q0 : W5.cell? ⟨wr.heap.size, 0, none⟩ = some (.int .i64 x.kids[k].kind) := OK.cell 0
      have qf0 := OK.frozen 0
      have q1 : W5.cell? ⟨wr.heap.size, 1, none⟩ = some (.string x.kids[k].text) := OK.cell 1
      have qf1 := OK.frozen 1
      have q2 : W5.cell? ⟨wr.heap.size, 2, none⟩ = some (.int .i64 x.kids[k].number) := OK.cell 2
      have qf2 := OK.frozen 2
      have q3 : W5.cell? ⟨wr.heap.size, 3, none⟩ = some (.slice aa0 x.kids[k].names.length cc0) := OK.cell 3
      have qf3 := OK.frozen 3
      have q4 : W5.cell? ⟨wr.heap.size, 4, none⟩ = some (.slice aa1 x.kids[k].kids.length cc1) := OK.cell 4
      have qf4 := OK.frozen 4
      have qz := OK.lt
      go_wp2_with fail
      refine (IH.out x.kids[k] _ W5 (hk.out _ (List.getElem_mem hlt)) RA.out hbz).mono ?_
      rintro e w6 ⟨cs, gp, rfl, r6, f6, x6⟩
      obtain ⟨z1, z2, z3, z4, rfl⟩ := fld5 r6
      have HR6 := Lib.hid r6
      have HF6 := Lib.hid f6
      have hxx := x5.trans x6
      have hx6 := hx.trans hxx
      have K6 := Lib.hid (Acc.ext hK.out hxx)
      have HAT6 := Lib.hid (AccT.ext HAT.out hxx)
      have HX6 := Lib.hid (HX.out.ext hxx)
      have HRR6 := Lib.hid (HR.out.ext hxx)
      have hs5 := x5.size
      have hs6 := x6.size
      have HOB : Hid (∀ k, kv.ownBlock = some k → W3.heap.size ≤ k ∧ k < wr.heap.size) := Lib.hid fun k hk => Acc.ge hK.out hk
      have HFW : Hid (∀ k, k ∈ fp → k < wr.heap.size) := Lib.hid fun k hk => by obtain ⟨_, _, _, h, _⟩ := hK.out; exact h.lt hk
      have HFR : Hid (Fresh wr W3.heap.size fp) := Lib.hid (by obtain ⟨_, _, _, h, _⟩ := hK.out; exact h)
      clear r6 f6 x5 x6 hK HAT HX HR OK q0 qf0 q1 qf1 q2 qf2 q3 qf3 q4 qf4 qz RA hx
      have x7 : Ext w6 (w6.alloc (.cells #[.int .i64 x.kids[k].kind, .string x.kids[k].text, .int .i64 x.kids[k].number, .slice z1 x.kids[k].names.length z2, .slice z3 x.kids[k].kids.length z4] 25)) := (Ext.refl w6).alloc _
      have KD := Acc.ext K6.out x7
      have HSL := one_expr (HR6.out.ext x7) (own_new w6 #[.int .i64 x.kids[k].kind, .string x.kids[k].text, .int .i64 x.kids[k].number, .slice z1 x.kids[k].names.length z2, .slice z3 x.kids[k].kids.length z4] 25)
      have hFF : Fresh (w6.alloc (.cells #[.int .i64 x.kids[k].kind, .string x.kids[k].text, .int .i64 x.kids[k].number, .slice z1 x.kids[k].names.length z2, .slice z3 x.kids[k].kids.length z4] 25)) W3.heap.size (fp ++ gp) := (HFR.out.append (hxx.trans x7) ((HF6.out.ext x7).mono hs5) (Nat.le_refl _) (by have := HRR6.out.lt; omega))
      obtain ⟨i0, hi, hz0, hz1, hz2⟩ := info_parts exprInfo
      have hlk : ((x.kids.take k).map MExpr.d).length = k := by simp; omega
      go_wp2_with (at_builtin; refine wpList_append_at rfl _ _ 23 rfl W3.heap.size 25 i0 _ 5 80 Tryz.underlying23 hi hz0 hz1 hz2 rfl (by decide) kv ((x.kids.take k).map MExpr.d) fp rfl KD [x.kids[k].d] _ 1 1 (w6.heap.size :: gp) rfl HSL hFF (fun k hk hm => by have h1 := (HOB.out k hk).2; have h2 := HF6.out.ge k hm; omega) (by rw [hlk]; unfold maxLen; omega) (by rw [hlk]; omega) (by have := x7.size; omega) ?_)
      intro a7 k7 w7 ac7 g7 m7
      have TG : Touch (w6.alloc (.cells #[.int .i64 x.kids[k].kind, .string x.kids[k].text, .int .i64 x.kids[k].number, .slice z1 x.kids[k].names.length z2, .slice z3 x.kids[k].kids.length z4] 25)) w7 kv.ownBlock.toList := (Touch.of_ext (Ext.refl _) _).grown g7 fun k hk => Or.inl (by simp [hk])
      have hge : ∀ k, k ∈ kv.ownBlock.toList → W3.heap.size ≤ k := fun k hk => (HOB.out k (by simpa using hk)).1
      have hX7 := (HX6.out.ext x7).touch' TG (fun hm => by have := hge _ hm; omega)
      have hR7 := (HRR6.out.ext x7).touch' TG (fun hm => by have := hge _ hm; omega)
      have hA7 := Acc.touch (AccT.ext HAT6.out x7) TG (fun k hk hm => by have h1 := hge _ hm; have h2 := (HNB.out k hk).2; omega) (fun k hk => nomatch hk)
      have hsz7 : W3.heap.size ≤ w7.heap.size := by have h1 := x7.size; have h2 := TG.size; omega
      have hw7 : Ext w w7 := Touch.ext (hx6.trans x7) TG (fun k hk => by have := hge k hk; omega)
      have HK7 : Hid (Acc W3.heap.size w7 25 5 (.slice a7 (k + 1) k7) ((x.kids.take (k + 1)).map MExpr.d) (fp ++ gp)) := Lib.hid (by rw [List.take_succ_eq_append_getElem hlt, List.map_append, List.map_take]; exact ac7)
      clear KD HSL hFF g7 m7 TG ac7 hge HX6 HRR6 HAT6 x7 K6 HR6 HF6 hi hz0 hz1 hz2
      generalize hv7 : Value.slice a7 (k + 1) k7 = v7 at *
      go_wp2_with fail
      go_roundw
      case rel => exact ⟨k + 1, fp ++ gp, by omega, by go_num, hsz7, hw7, hX7, hR7, hA7, HK7⟩
      case measure => simp [intOf]; omega
    · obtain rfl : k = x.kids.length := by omega
      obtain ⟨ak, ck, gk, rfl, rk, fk⟩ := Acc.rep hK.out
      obtain ⟨an, cn, gn, hvn, rn, fn⟩ := AccT.rep hA
      injection hvn with hv1 _ hv2
      subst hv1
      subst hv2
      rw [List.take_length, List.length_map] at rk
      have HRK := Lib.hid rk
      have HFK := Lib.hid fk
      have HRN := Lib.hid rn
      have HFN := Lib.hid fn
      have HNB2 : Hid (∀ k, k ∈ gn → w.heap.size + 2 ≤ k ∧ k < W3.heap.size) := Lib.hid (fun k hk => HNB.out k (strs_blk HRN.out k hk))
      clear hA hK rk fk rn fn
      have q0 : wr.cell? ⟨w.heap.size, 0, none⟩ = some (.int .i64 x.kind) := hX.cell 0
      have qf0 := hX.frozen 0
      have q1 : wr.cell? ⟨w.heap.size, 1, none⟩ = some (.string x.text) := hX.cell 1
      have qf1 := hX.frozen 1
      have q2 : wr.cell? ⟨w.heap.size, 2, none⟩ = some (.int .i64 x.number) := hX.cell 2
      have qf2 := hX.frozen 2
      have q3 : wr.cell? ⟨w.heap.size, 3, none⟩ = some (.slice b1 x.names.length k1) := hX.cell 3
      have qf3 := hX.frozen 3
      have q4 : wr.cell? ⟨w.heap.size, 4, none⟩ = some (.slice a2 x.kids.length c2) := hX.cell 4
      have qf4 := hX.frozen 4
      have qz := hX.lt
      have r0 : wr.cell? ⟨w.heap.size + 1, 0, none⟩ = some (.int .i64 0) := hR.cell 0
      have rf0 := hR.frozen 0
      have r1 : wr.cell? ⟨w.heap.size + 1, 1, none⟩ = some (.string ⟨#[]⟩) := hR.cell 1
      have rf1 := hR.frozen 1
      have r2 : wr.cell? ⟨w.heap.size + 1, 2, none⟩ = some (.int .i64 0) := hR.cell 2
      have rf2 := hR.frozen 2
      have r3 : wr.cell? ⟨w.heap.size + 1, 3, none⟩ = some (.slice none 0 0) := hR.cell 3
      have rf3 := hR.frozen 3
      have r4 : wr.cell? ⟨w.heap.size + 1, 4, none⟩ = some (.slice none 0 0) := hR.cell 4
      have rf4 := hR.frozen 4
      have rz := hR.lt
      go_upto_region 9 with fail
      generalize hS : World.setCell wr _ _ = W8
      have T8 : Touch wr W8 [w.heap.size] := by rw [← hS]; exact (Touch.of_ext (Ext.refl _) _).setCell (by simp) _
      have OX8 : Own W8 w.heap.size 25 #[.int .i64 x.kind, .string x.text, .int .i64 x.number, .slice b1 x.names.length k1, .slice ak x.kids.length ck] := by rw [← hS]; exact hX.set 4 _
      have OR8 := hR.touch' T8 (by simp)
      clear hS q0 qf0 r0 rf0 q1 qf1 r1 rf1 q2 qf2 r2 rf2 q3 qf3 r3 rf3 q4 qf4 r4 rf4 qz rz hX hR
      have q0 : W8.cell? ⟨w.heap.size, 0, none⟩ = some (.int .i64 x.kind) := OX8.cell 0
      have qf0 := OX8.frozen 0
      have q1 : W8.cell? ⟨w.heap.size, 1, none⟩ = some (.string x.text) := OX8.cell 1
      have qf1 := OX8.frozen 1
      have q2 : W8.cell? ⟨w.heap.size, 2, none⟩ = some (.int .i64 x.number) := OX8.cell 2
      have qf2 := OX8.frozen 2
      have q3 : W8.cell? ⟨w.heap.size, 3, none⟩ = some (.slice b1 x.names.length k1) := OX8.cell 3
      have qf3 := OX8.frozen 3
      have q4 : W8.cell? ⟨w.heap.size, 4, none⟩ = some (.slice ak x.kids.length ck) := OX8.cell 4
      have qf4 := OX8.frozen 4
      have qz := OX8.lt
      have r0 : W8.cell? ⟨w.heap.size + 1, 0, none⟩ = some (.int .i64 0) := OR8.cell 0
      have rf0 := OR8.frozen 0
      have r1 : W8.cell? ⟨w.heap.size + 1, 1, none⟩ = some (.string ⟨#[]⟩) := OR8.cell 1
      have rf1 := OR8.frozen 1
      have r2 : W8.cell? ⟨w.heap.size + 1, 2, none⟩ = some (.int .i64 0) := OR8.cell 2
      have rf2 := OR8.frozen 2
      have r3 : W8.cell? ⟨w.heap.size + 1, 3, none⟩ = some (.slice none 0 0) := OR8.cell 3
      have rf3 := OR8.frozen 3
      have r4 : W8.cell? ⟨w.heap.size + 1, 4, none⟩ = some (.slice none 0 0) := OR8.cell 4
      have rf4 := OR8.frozen 4
      have rz := OR8.lt
      go_wp2_with fail
      generalize hS : World.setCell (World.setCell (World.setCell (World.setCell (World.setCell W8 _ _) _ _) _ _) _ _) _ _ = W9
      obtain ⟨O9, T9⟩ := own5 OR8 (.int .i64 x.kind) (.string x.text) (.int .i64 x.number) (.slice b1 x.names.length k1) (.slice ak x.kids.length ck)
      rw [hS] at O9 T9
      clear hS
      have p0 : W9.cell? ⟨w.heap.size + 1, 0, none⟩ = some (.int .i64 x.kind) := O9.cell 0
      have p1 : W9.cell? ⟨w.heap.size + 1, 1, none⟩ = some (.string x.text) := O9.cell 1
      have p2 : W9.cell? ⟨w.heap.size + 1, 2, none⟩ = some (.int .i64 x.number) := O9.cell 2
      have p3 : W9.cell? ⟨w.heap.size + 1, 3, none⟩ = some (.slice b1 x.names.length k1) := O9.cell 3
      have p4 : W9.cell? ⟨w.heap.size + 1, 4, none⟩ = some (.slice ak x.kids.length ck) := O9.cell 4
      have pz := O9.lt
      have T89 : Touch wr W9 [w.heap.size, w.heap.size + 1] := (T8.mono (by simp)).trans (T9.mono (by simp))
      have RN9 := HRN.out.touch T89 (fun k hk hm => by have := (HNB2.out k hk).1; simp at hm; omega)
      have RK9 := HRK.out.touch T89 (fun k hk hm => by have := HFK.out.ge k hk; simp at hm; omega)
      have R9 := MExpr.shut (x := x) RN9 RK9
      rw [List.append_nil] at R9
      have FN9 := HFN.out.touch T89 (fun k hk hm => by have := (HNB2.out k hk).1; simp at hm; omega)
      have FK9 := HFK.out.touch T89 (fun k hk hm => by have := HFK.out.ge k hk; simp at hm; omega)
      have F9 : Fresh W9 w.heap.size (gn ++ gk) := (FN9.mono (by omega)).join FK9 (fun k hk => (HNB2.out k hk).2) (by omega)
      have FIN : GivesS w x.d (.returned (.agg #[.int .i64 x.kind, .string x.text, .int .i64 x.number, .slice b1 x.names.length k1, .slice ak x.kids.length ck])) W9 := ⟨_, gn ++ gk, rfl, R9, F9, Touch.ext hx T89 (fun k hk => by simp at hk; omega)⟩
      exact bodyPost_ret (v := .agg #[.int .i64 x.kind, .string x.text, .int .i64 x.number, .slice b1 x.names.length k1, .slice ak x.kids.length ck]) (by simp [results, Tryz.results28, go_sem, p0, p1, p2, p3, p4, pz]) rfl FIN

theorem copy_lt : ∀ (n : Nat) (x : MExpr) (cx : List Value) (w : World), SizeOf.sizeOf x < n → Rep w x.d cx → x.d.bulk ≤ 1048576 → Calls Tryz.prog 28 #[.agg cx.toArray] w (GivesS w x.d)
  | 0, x, cx, w, h, _, _ => absurd h (Nat.not_lt_zero _)
  | n + 1, x, cx, w, h, rx, hb => copy_of n (Lib.hid fun z cz w' hz rz hb' => copy_lt n z cz w' hz rz hb') x cx w h rx hb
theorem copyExpr_any (x : MExpr) (cx : List Value) (w : World) (rx : Rep w x.d cx) (hb : x.d.bulk ≤ 1048576) : Calls Tryz.prog 28 #[.agg cx.toArray] w (GivesS w x.d) := copy_lt _ x cx w (Nat.lt_succ_self _) rx hb

open Go.RowKit
set_option linter.unusedSimpArgs false
set_option linter.unusedVariables false

set_option maxHeartbeats 2000000 in
set_option maxRecDepth 100000 in
theorem rtake_yes {B tb to_ cap : Nat} {ao : Option Addr} {ts : List MToken} {a : Nat} {b : Bool} (w : World) (h : Prs 48 B tb to_ cap ao ts w (a) b) (k : Int) (s : ByteArray) (hk : k ≠ 0) (hs : (s.toList == []) = false) (hb : tkxB ts a k s = true) : Calls Tryz.prog 35 #[.pointer (some ⟨B, 0, none⟩), .int .i64 k, .string s] w fun e w' => e = .returned (.bool true) ∧ Prs 48 B tb to_ cap ao ts w' (a + 1) b ∧ Touch w w' [B] := by
  have hi := risx_any w h k s hk hs
  rw [hb] at hi
  have HI := Lib.hid hi
  have HP := Lib.hid h
  have hlt := tok_lt hk hb
  clear h hi hb hk hs
  go_enter Tryz.func35, Tryz.ntmps35
  go_wp2_with fail
  refine HI.out.mono ?_
  rintro e w1 ⟨rfl, hx⟩
  have HP1 := Lib.hid (HP.out.ext hx)
  obtain ⟨c0, c1, c2⟩ := HP1.out.cells
  have zB := lt_of_cell c0
  have f1 := HP1.out.own.frozen 1
  have f2 := HP1.out.own.frozen 2
  have hln := HP1.out.len
  go_wp2_with fail
  go_ret
  obtain ⟨K2, T2⟩ := HP1.out.setAt (a + 1) (by omega) (fun _ => by omega)
  have e1 : ((a + 1 : Nat) : Int) = (a : Int) + 1 := by omega
  rw [e1] at K2 T2
  exact ⟨rfl, K2, (Touch.of_ext hx _).trans T2⟩

set_option maxHeartbeats 2000000 in
set_option maxRecDepth 100000 in
theorem rtake_no {B tb to_ cap : Nat} {ao : Option Addr} {ts : List MToken} {a : Nat} {b : Bool} (w : World) (h : Prs 48 B tb to_ cap ao ts w (a) b) (k : Int) (s : ByteArray) (hk : k ≠ 0) (hs : (s.toList == []) = false) (hb : tkxB ts a k s = false) : Calls Tryz.prog 35 #[.pointer (some ⟨B, 0, none⟩), .int .i64 k, .string s] w fun e w' => e = .returned (.bool false) ∧ Ext w w' := by
  have hi := risx_any w h k s hk hs
  rw [hb] at hi
  have HI := Lib.hid hi
  clear h hi hb hk hs
  go_enter Tryz.func35, Tryz.ntmps35
  go_wp2_with fail
  refine HI.out.mono ?_
  rintro e w1 ⟨rfl, hx⟩
  go_wp2_with fail
  go_ret
  exact ⟨rfl, hx⟩

set_option maxHeartbeats 2000000 in
set_option maxRecDepth 100000 in
theorem rneedk_yes {B tb to_ cap : Nat} {ao : Option Addr} {ts : List MToken} {a : Nat} {b : Bool} (w : World) (h : Prs 48 B tb to_ cap ao ts w (a) b) (k : Int) (hk : k ≠ 0) (hb : tkB ts a k = true) : Calls Tryz.prog 36 #[.pointer (some ⟨B, 0, none⟩), .int .i64 k, .string ⟨#[]⟩] w fun e w' => e = .returned (.string (tkT ts a)) ∧ Prs 48 B tb to_ cap ao ts w' (a + 1) b ∧ Touch w w' [B] := by
  have hi := risk_any w h k hk
  rw [hb] at hi
  have HI := Lib.hid hi
  have HP := Lib.hid h
  have hlt := kind_lt hk hb
  clear h hi hb hk
  go_enter Tryz.func36, Tryz.ntmps36
  go_wp2_with fail
  refine HI.out.mono ?_
  rintro e w1 ⟨rfl, hx⟩
  have HP1 := Lib.hid (HP.out.ext hx)
  obtain ⟨c0, c1, c2⟩ := HP1.out.cells
  have zB := lt_of_cell c0
  have f1 := HP1.out.own.frozen 1
  have f2 := HP1.out.own.frozen 2
  have hln := HP1.out.len
  go_upto_region 5 with fail
  generalize hS : World.setCell w1 _ _ = W2
  obtain ⟨K2, T2⟩ := HP1.out.setAt (a + 1) (by omega) (fun _ => by omega)
  have e1 : ((a + 1 : Nat) : Int) = (a : Int) + 1 := by omega
  rw [e1] at K2 T2
  rw [hS] at K2 T2
  obtain ⟨d0, d1, d2⟩ := K2.cells
  obtain ⟨-, t0, t1, t2⟩ := K2.at hlt
  obtain rfl := (K2.at hlt).1
  have zt := lt_of_cell t1
  have zB2 := lt_of_cell d0
  have HK := Lib.hid K2
  have HT := Lib.hid ((Touch.of_ext hx _).trans T2)
  have hl2 : (a : Int) < ts.length := by omega
  have ha0 : (0 : Int) ≤ a := by omega
  obtain ⟨tx, htx⟩ : ∃ x, tkT ts a = x := ⟨_, rfl⟩
  rw [htx] at t1
  have HTX := Lib.hid htx
  clear htx
  rw [e1] at d1
  clear hS c0 c1 c2 f1 f2 K2 T2 t0 t2 d2 zB
  go_region
  go_wp2_with fail
  go_ret
  exact ⟨by rw [HTX.out]; rfl, HK.out.ext (Ext.drew (Ext.refl _)), HT.out.trans (Touch.of_ext (Ext.drew (Ext.refl _)) _)⟩

set_option maxHeartbeats 2000000 in
set_option maxRecDepth 100000 in
theorem rneedk_no {B tb to_ cap : Nat} {ao : Option Addr} {ts : List MToken} {a : Nat} {b : Bool} (w : World) (h : Prs 48 B tb to_ cap ao ts w (a) b) (k : Int) (hk : k ≠ 0) (hb : tkB ts a k = false) : Calls Tryz.prog 36 #[.pointer (some ⟨B, 0, none⟩), .int .i64 k, .string ⟨#[]⟩] w fun e w' => e = .returned (.string ⟨#[]⟩) ∧ Prs 48 B tb to_ cap ao ts w' (a) true ∧ Touch w w' [B] := by
  have hi := risk_any w h k hk
  rw [hb] at hi
  have HI := Lib.hid hi
  have HP := Lib.hid h
  clear h hi hb hk
  go_enter Tryz.func36, Tryz.ntmps36
  go_wp2_with fail
  refine HI.out.mono ?_
  rintro e w1 ⟨rfl, hx⟩
  have HP1 := Lib.hid (HP.out.ext hx)
  obtain ⟨c0, c1, c2⟩ := HP1.out.cells
  have zB := lt_of_cell c0
  have f1 := HP1.out.own.frozen 1
  have f2 := HP1.out.own.frozen 2
  have hln := HP1.out.len
  go_wp2_with fail
  go_ret
  obtain ⟨K2, T2⟩ := HP1.out.setBad
  exact ⟨rfl, K2, (Touch.of_ext hx _).trans T2⟩

set_option maxHeartbeats 2000000 in
set_option maxRecDepth 100000 in
theorem rneedx_yes {B tb to_ cap : Nat} {ao : Option Addr} {ts : List MToken} {a : Nat} {b : Bool} (w : World) (h : Prs 48 B tb to_ cap ao ts w (a) b) (k : Int) (s : ByteArray) (hk : k ≠ 0) (hs : (s.toList == []) = false) (hb : tkxB ts a k s = true) : Calls Tryz.prog 36 #[.pointer (some ⟨B, 0, none⟩), .int .i64 k, .string s] w fun e w' => e = .returned (.string (tkT ts a)) ∧ Prs 48 B tb to_ cap ao ts w' (a + 1) b ∧ Touch w w' [B] := by
  have hi := risx_any w h k s hk hs
  rw [hb] at hi
  have HI := Lib.hid hi
  have HP := Lib.hid h
  have hlt := tok_lt hk hb
  clear h hi hb hk hs
  go_enter Tryz.func36, Tryz.ntmps36
  go_wp2_with fail
  refine HI.out.mono ?_
  rintro e w1 ⟨rfl, hx⟩
  have HP1 := Lib.hid (HP.out.ext hx)
  obtain ⟨c0, c1, c2⟩ := HP1.out.cells
  have zB := lt_of_cell c0
  have f1 := HP1.out.own.frozen 1
  have f2 := HP1.out.own.frozen 2
  have hln := HP1.out.len
  go_upto_region 5 with fail
  generalize hS : World.setCell w1 _ _ = W2
  obtain ⟨K2, T2⟩ := HP1.out.setAt (a + 1) (by omega) (fun _ => by omega)
  have e1 : ((a + 1 : Nat) : Int) = (a : Int) + 1 := by omega
  rw [e1] at K2 T2
  rw [hS] at K2 T2
  obtain ⟨d0, d1, d2⟩ := K2.cells
  obtain ⟨-, t0, t1, t2⟩ := K2.at hlt
  obtain rfl := (K2.at hlt).1
  have zt := lt_of_cell t1
  have zB2 := lt_of_cell d0
  have HK := Lib.hid K2
  have HT := Lib.hid ((Touch.of_ext hx _).trans T2)
  have hl2 : (a : Int) < ts.length := by omega
  have ha0 : (0 : Int) ≤ a := by omega
  obtain ⟨tx, htx⟩ : ∃ x, tkT ts a = x := ⟨_, rfl⟩
  rw [htx] at t1
  have HTX := Lib.hid htx
  clear htx
  rw [e1] at d1
  clear hS c0 c1 c2 f1 f2 K2 T2 t0 t2 d2 zB
  go_region
  go_wp2_with fail
  go_ret
  exact ⟨by rw [HTX.out]; rfl, HK.out.ext (Ext.drew (Ext.refl _)), HT.out.trans (Touch.of_ext (Ext.drew (Ext.refl _)) _)⟩

set_option maxHeartbeats 2000000 in
set_option maxRecDepth 100000 in
theorem rneedx_no {B tb to_ cap : Nat} {ao : Option Addr} {ts : List MToken} {a : Nat} {b : Bool} (w : World) (h : Prs 48 B tb to_ cap ao ts w (a) b) (k : Int) (s : ByteArray) (hk : k ≠ 0) (hs : (s.toList == []) = false) (hb : tkxB ts a k s = false) : Calls Tryz.prog 36 #[.pointer (some ⟨B, 0, none⟩), .int .i64 k, .string s] w fun e w' => e = .returned (.string ⟨#[]⟩) ∧ Prs 48 B tb to_ cap ao ts w' (a) true ∧ Touch w w' [B] := by
  have hi := risx_any w h k s hk hs
  rw [hb] at hi
  have HI := Lib.hid hi
  have HP := Lib.hid h
  clear h hi hb hk hs
  go_enter Tryz.func36, Tryz.ntmps36
  go_wp2_with fail
  refine HI.out.mono ?_
  rintro e w1 ⟨rfl, hx⟩
  have HP1 := Lib.hid (HP.out.ext hx)
  obtain ⟨c0, c1, c2⟩ := HP1.out.cells
  have zB := lt_of_cell c0
  have f1 := HP1.out.own.frozen 1
  have f2 := HP1.out.own.frozen 2
  have hln := HP1.out.len
  go_wp2_with fail
  go_ret
  obtain ⟨K2, T2⟩ := HP1.out.setBad
  exact ⟨rfl, K2, (Touch.of_ext hx _).trans T2⟩

theorem rbeg_eq (ts : List MToken) (a : Nat) : (beginsB ts a || tkxB ts a 7 retM) = (decide (1 ≤ tkK ts a ∧ tkK ts a ≤ 5) && !(tkK ts a == 2) || tkK ts a == 7 && (eqB (tkT ts a) lparM || eqB (tkT ts a) lbrM || eqB (tkT ts a) retM)) := by
  unfold beginsB
  rw [tkB_eq (by decide), tkB_eq (by decide), tkB_eq (by decide), tkB_eq (by decide), tkxB_eq (by decide), tkxB_eq (by decide), tkxB_eq (by decide)]
  generalize tkK ts a = kd
  by_cases h1 : kd = 1
  · subst h1; simp
  by_cases h2 : kd = 2
  · subst h2; simp
  by_cases h3 : kd = 3
  · subst h3; simp
  by_cases h4 : kd = 4
  · subst h4; simp
  by_cases h5 : kd = 5
  · subst h5; simp
  by_cases h7 : kd = 7
  · subst h7; simp [Bool.or_assoc]
  have e1 : (kd == 1) = false := by simp [h1]
  have e3 : (kd == 3) = false := by simp [h3]
  have e4 : (kd == 4) = false := by simp [h4]
  have e5 : (kd == 5) = false := by simp [h5]
  have e7 : (kd == 7) = false := by simp [h7]
  have hn : decide (1 ≤ kd ∧ kd ≤ 5) = false := decide_eq_false (by omega)
  rw [e1, e3, e4, e5, e7, hn]
  rfl

set_option maxHeartbeats 2000000 in
set_option maxRecDepth 100000 in
theorem rbegins_any {B tb to_ cap : Nat} {ao : Option Addr} {ts : List MToken} {a : Nat} {b : Bool} (w : World) (h : Prs 48 B tb to_ cap ao ts w (a) b)  : Calls Tryz.prog 81 #[.pointer (some ⟨B, 0, none⟩)] w fun e w' => e = .returned (.bool (beginsB ts a || tkxB ts a 7 retM)) ∧ Ext w w' := by
  obtain ⟨c0, c1, c2⟩ := h.cells
  have zB := lt_of_cell c0
  obtain ⟨V, hV⟩ : ∃ V, (beginsB ts a || tkxB ts a 7 retM) = V := ⟨_, rfl⟩
  rw [hV]
  rw [rbeg_eq] at hV
  by_cases hl : a < ts.length
  · obtain ⟨rfl, t0, t1, t2⟩ := h.at hl
    have hl' : (a : Int) < ts.length := by omega
    have hng : ¬ (ts.length : Int) ≤ a := by omega
    have hd : decide ((ts.length : Int) ≤ a) = false := decide_eq_false hng
    have ha0 : (0 : Int) ≤ a := by omega
    have hd2 : decide (ts.length ≤ a) = false := decide_eq_false (by omega)
    have zt := lt_of_cell t0
    generalize tkK ts a = kd at *
    generalize tkT ts a = tx at *
    generalize tkN ts a = nm at *
    clear h c2
    by_cases hin : 1 ≤ kd ∧ kd ≤ 5
    · have D1 := decide_eq_true hin
      by_cases h2 : kd = 2
      · have s2 : (kd != 2) = false := by simp [h2]
        have s7 : (kd == 7) = false := int_ne (by omega)
        have HV : Hid (false = V) := Lib.hid (by rw [← hV]; simp [h2])
        clear hV h2 hin
        go_enter Tryz.func81, Tryz.ntmps81
        go_wp2_with fail
        go_region
        go_wp2_with fail
        go_region
        go_wp2_with fail
        refine (l1In_any _ _ _ _).mono ?_
        rintro e wq ⟨rfl, hq⟩
        subst wq
        go_wp2_with fail
        go_ret
        exact ⟨ret_bool HV.out, by first | exact ((Ext.refl _).drew.drew).alloc _ | exact ((Ext.refl _).drew.alloc _).drew⟩
      have s2 : (kd != 2) = true := by simp [h2]
      have HV : Hid (true = V) := Lib.hid (by rw [← hV]; simp [hin, h2])
      clear hV h2 hin
      go_enter Tryz.func81, Tryz.ntmps81
      go_wp2_with fail
      go_region
      go_wp2_with fail
      go_region
      go_wp2_with fail
      refine (l1In_any _ _ _ _).mono ?_
      rintro e wq ⟨rfl, hq⟩
      subst wq
      go_wp2_with fail
      go_ret
      exact ⟨ret_bool HV.out, by first | exact ((Ext.refl _).drew.drew).alloc _ | exact ((Ext.refl _).drew.alloc _).drew⟩
    have D1 := decide_eq_false hin
    by_cases h7 : kd = 7
    · have s7 := int_eq h7
      by_cases u0 : tx = lparM
      · have v0 : (tx.toList == [40]) = true := str_eq' u0
        have HV : Hid (true = V) := Lib.hid (by rw [← hV]; simp [h7, u0, eqB_tt])
        clear hV h7 hin u0
        go_enter Tryz.func81, Tryz.ntmps81
        go_wp2_with fail
        go_region
        go_wp2_with fail
        go_region
        go_wp2_with fail
        refine (l1In_any _ _ _ _).mono ?_
        rintro e wq ⟨rfl, hq⟩
        subst wq
        go_wp2_with fail
        go_ret
        exact ⟨ret_bool HV.out, by first | exact ((Ext.refl _).drew.drew).alloc _ | exact ((Ext.refl _).drew.alloc _).drew⟩
      have v0 : (tx.toList == [40]) = false := str_ne' u0
      by_cases u1 : tx = lbrM
      · have v1 : (tx.toList == [91]) = true := str_eq' u1
        have HV : Hid (true = V) := Lib.hid (by rw [← hV]; simp [h7, u1, eqB_tt])
        clear hV h7 hin u0 u1
        go_enter Tryz.func81, Tryz.ntmps81
        go_wp2_with fail
        go_region
        go_wp2_with fail
        go_region
        go_wp2_with fail
        refine (l1In_any _ _ _ _).mono ?_
        rintro e wq ⟨rfl, hq⟩
        subst wq
        go_wp2_with fail
        go_ret
        exact ⟨ret_bool HV.out, by first | exact ((Ext.refl _).drew.drew).alloc _ | exact ((Ext.refl _).drew.alloc _).drew⟩
      have v1 : (tx.toList == [91]) = false := str_ne' u1
      by_cases u2 : tx = retM
      · have v2 : (tx.toList == [94]) = true := str_eq' u2
        have HV : Hid (true = V) := Lib.hid (by rw [← hV]; simp [h7, u2, eqB_tt])
        clear hV h7 hin u0 u1 u2
        go_enter Tryz.func81, Tryz.ntmps81
        go_wp2_with fail
        go_region
        go_wp2_with fail
        go_region
        go_wp2_with fail
        refine (l1In_any _ _ _ _).mono ?_
        rintro e wq ⟨rfl, hq⟩
        subst wq
        go_wp2_with fail
        go_ret
        exact ⟨ret_bool HV.out, by first | exact ((Ext.refl _).drew.drew).alloc _ | exact ((Ext.refl _).drew.alloc _).drew⟩
      have v2 : (tx.toList == [94]) = false := str_ne' u2
      have HV : Hid (false = V) := Lib.hid (by rw [← hV]; simp [h7, eqB_ff u0, eqB_ff u1, eqB_ff u2])
      clear hV h7 hin u0 u1 u2
      go_enter Tryz.func81, Tryz.ntmps81
      go_wp2_with fail
      go_region
      go_wp2_with fail
      go_region
      go_wp2_with fail
      refine (l1In_any _ _ _ _).mono ?_
      rintro e wq ⟨rfl, hq⟩
      subst wq
      go_wp2_with fail
      go_ret
      exact ⟨ret_bool HV.out, by first | exact ((Ext.refl _).drew.drew).alloc _ | exact ((Ext.refl _).drew.alloc _).drew⟩
    have s7 := int_ne h7
    have HV : Hid (false = V) := Lib.hid (by rw [← hV]; simp [hin, s7, h7])
    clear hV h7 hin
    go_enter Tryz.func81, Tryz.ntmps81
    go_wp2_with fail
    go_region
    go_wp2_with fail
    go_region
    go_wp2_with fail
    refine (l1In_any _ _ _ _).mono ?_
    rintro e wq ⟨rfl, hq⟩
    subst wq
    go_wp2_with fail
    go_ret
    exact ⟨ret_bool HV.out, by first | exact ((Ext.refl _).drew.drew).alloc _ | exact ((Ext.refl _).drew.alloc _).drew⟩
  have hge : (ts.length : Int) ≤ a := by omega
  have hd : decide ((ts.length : Int) ≤ a) = true := decide_eq_true hge
  obtain ⟨e1, e2, e3⟩ := tkK_none (ts := ts) (a := a) (by omega)
  have HV : Hid (false = V) := Lib.hid (by rw [← hV, e1]; rfl)
  clear hV h e1 e2 e3 c2
  have hd2 : decide (ts.length ≤ a) = true := decide_eq_true (by omega)
  go_enter Tryz.func81, Tryz.ntmps81
  go_wp2_with fail
  go_region
  go_wp2_with fail
  trace_state
  go_ret
  exact ⟨ret_bool HV.out, Ext.drew (Ext.refl _)⟩

end Go.Proofs.YtonmcoojgkgemaaGreatDoor
