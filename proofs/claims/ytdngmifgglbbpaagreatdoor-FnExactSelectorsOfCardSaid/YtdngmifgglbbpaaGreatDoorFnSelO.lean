/-
  CONTRACTS: SelectorsOf, of the program and of the reference.
  Conditions: those that each lemma states.
-/
import Derived.Test.YtdngmifgglbbpaaGreatDoorRows
import Derived.Test.YtdngmifgglbbpaaGreatDoorFnFind
import Derived.Test.YtdngmifgglbbpaaGreatDoorMark
import Derived.Test.YtdngmifgglbbpaaGreatDoorAccAt
import Derived.Maps.OwnOps
import Derived.Maps.OwnSet
namespace Go.Proofs.YtdngmifgglbbpaaGreatDoor
open Go.RowKit Go.Maps Go.WideMaps
set_option linter.unusedSimpArgs false
set_option linter.unusedVariables false

open Classical in
/-- A routine that is not on the list yet. -/
noncomputable def addR (cls : Bool) (k : Int) (out : List ByteArray) (r : MRoutine) : List ByteArray := if (r.owner = k ∧ r.cls = cls) ∧ ¬ r.selector ∈ out then out ++ [r.selector] else out
noncomputable def lvl (cls : Bool) (k : Int) (out : List ByteArray) (rs : List MRoutine) : List ByteArray := rs.foldl (addR cls k) out
theorem addR_no {cls : Bool} {k : Int} {out : List ByteArray} {r : MRoutine} (h : ¬ ((r.owner = k ∧ r.cls = cls) ∧ ¬ r.selector ∈ out)) : addR cls k out r = out := by unfold addR; rw [if_neg h]
theorem addR_yes {cls : Bool} {k : Int} {out : List ByteArray} {r : MRoutine} (h : (r.owner = k ∧ r.cls = cls) ∧ ¬ r.selector ∈ out) : addR cls k out r = out ++ [r.selector] := by unfold addR; rw [if_pos h]
theorem lvl_step {cls : Bool} {k : Int} {out o2 o3 : List ByteArray} {rs : List MRoutine} {i : Nat} {e : MRoutine} (he : rs[i]? = some e) (h : lvl cls k out (rs.take i) = o2) (h3 : addR cls k o2 e = o3) : lvl cls k out (rs.take (i + 1)) = o3 := by
  unfold lvl at *
  rw [List.take_add_one, he]
  simp only [Option.toList, List.foldl_append, List.foldl_cons, List.foldl_nil]
  rw [h, h3]
inductive SelR (x : MSystem) (cls : Bool) : Int → List ByteArray → List ByteArray → Prop
  | neg {k : Int} {out : List ByteArray} (h : k < 0) : SelR x cls k out out
  | up {k : Int} {out res : List ByteArray} {c : MClassInfo} (h0 : 0 ≤ k) (hc : x.classes[k.toNat]? = some c) (h : SelR x cls c.parent (lvl cls k out x.routines) res) : SelR x cls k out res
theorem SelR.uniq {x : MSystem} {cls : Bool} {k : Int} {out a : List ByteArray} (h : SelR x cls k out a) : ∀ {b : List ByteArray}, SelR x cls k out b → a = b := by
  induction h with
  | neg h =>
    intro b g
    cases g with
    | neg _ => rfl
    | up h0 _ _ => omega
  | up h0 hc h ih =>
    intro b g
    cases g with
    | neg h => omega
    | up _ hc2 h2 => rw [hc] at hc2; injection hc2 with e; subst e; exact ih h2
open Classical in
noncomputable def selsV (x : MSystem) (cls : Bool) (k : Int) : List ByteArray := if h : ∃ v, SelR x cls k [] v then h.choose else []
theorem selsV_eq {x : MSystem} {cls : Bool} {k : Int} {v : List ByteArray} (h : SelR x cls k [] v) : v = selsV x cls k := by
  have hx : ∃ v, SelR x cls k [] v := ⟨v, h⟩
  unfold selsV
  rw [dif_pos hx]
  exact h.uniq hx.choose_spec
noncomputable def selO (x : MSystem) (k : Int) (cls : Bool) : List ByteArray := if prB (SysP x) = true ∧ decide (0 ≤ k ∧ k ≤ (x.classes.length : Int) - 1) = true then selsV x cls k else []
theorem selO_ff {x : MSystem} {k : Int} {cls : Bool} (h : prB (SysP x) = false ∨ decide (0 ≤ k ∧ k ≤ (x.classes.length : Int) - 1) = false) : [] = selO x k cls := by
  unfold selO
  rw [if_neg]
  rintro ⟨h1, h2⟩
  rcases h with h | h
  · rw [h] at h1; cases h1
  · rw [h] at h2; cases h2
theorem selO_tt {x : MSystem} {k : Int} {cls : Bool} {v : List ByteArray} (h1 : prB (SysP x) = true) (h2 : decide (0 ≤ k ∧ k ≤ (x.classes.length : Int) - 1) = true) (h : SelR x cls k [] v) : v = selO x k cls := by
  unfold selO
  rw [if_pos ⟨h1, h2⟩, ← selsV_eq h]
theorem rep_one_at {w : World} {b : Nat} {x : ByteArray} (h : w.heap.size = b) : Rep (w.alloc (.cells #[.string x] 9)) (strs [x]) [.slice (some ⟨b, 0, none⟩) 1 1] := by subst h; exact rep_one w x
theorem nil_strsS (w : World) : RepF w (strs []) [.slice none 0 0] [] := RepF.sl_iff.2 ⟨_, _, rfl, by simp, by simp, by simp, Or.inl ⟨rfl, rfl⟩⟩

set_option maxHeartbeats 4000000 in
set_option maxRecDepth 100000 in
theorem spec_SelectorsOf_any (x : MSystem) (cx : List Value) (k : Int) (cls : Bool) (w : World) (rx : Rep w x.d cx) (hz : SysSz x) :
    Calls Tryz.prog 28 #[.agg cx.toArray, .int .i64 k, .bool cls] w (GivesV w (strs (selO x k cls))) := by
  have RX := Lib.hid rx
  obtain ⟨ac, cc, ar, cr, am, cm, rfl, rc, rr, -, rm⟩ := MSystem.op_en rx
  have RC := Lib.hid rc
  have RR := Lib.hid rr
  clear rx rc rr rm
  go_enter Tryz.func28, Tryz.ntmps28
  go_upto_region 1 with fail
  generalize hS : World.alloc w _ = W0
  have x0 : Ext w W0 := by rw [← hS]; exact (Ext.refl _).alloc _
  have m0 : W0.cell? ⟨w.heap.size, 0, none⟩ = some (.slice ac x.classes.length cc) := by rw [← hS]; simp <;> assumption
  have m1 : W0.cell? ⟨w.heap.size, 1, none⟩ = some (.slice ar x.routines.length cr) := by rw [← hS]; simp <;> assumption
  have m2 : W0.cell? ⟨w.heap.size, 2, none⟩ = some (.string x.main.selector) := by rw [← hS]; simp <;> assumption
  have m3 : W0.cell? ⟨w.heap.size, 3, none⟩ = some (.int .i64 x.main.owner) := by rw [← hS]; simp <;> assumption
  have m4 : W0.cell? ⟨w.heap.size, 4, none⟩ = some (.bool x.main.cls) := by rw [← hS]; simp <;> assumption
  have m5 : W0.cell? ⟨w.heap.size, 5, none⟩ = some (.int .i64 x.main.params) := by rw [← hS]; simp <;> assumption
  have m6 : W0.cell? ⟨w.heap.size, 6, none⟩ = some (.int .i64 x.main.slots) := by rw [← hS]; simp <;> assumption
  have m7 : W0.cell? ⟨w.heap.size, 7, none⟩ = some (.int .i64 x.main.body.kind) := by rw [← hS]; simp <;> assumption
  have m8 : W0.cell? ⟨w.heap.size, 8, none⟩ = some (.string x.main.body.text) := by rw [← hS]; simp <;> assumption
  have m9 : W0.cell? ⟨w.heap.size, 9, none⟩ = some (.int .i64 x.main.body.number) := by rw [← hS]; simp <;> assumption
  have m10 : W0.cell? ⟨w.heap.size, 10, none⟩ = some (.int .i64 x.main.body.depth) := by rw [← hS]; simp <;> assumption
  have m11 : W0.cell? ⟨w.heap.size, 11, none⟩ = some (.slice am x.main.body.kids.length cm) := by rw [← hS]; simp <;> assumption
  clear hS
  have MB0 : Hid (∀ W, Ext W0 W → W.cell? ⟨w.heap.size, 0, none⟩ = some (.slice ac x.classes.length cc)) := Lib.hid fun W h => h.cell m0
  have MB1 : Hid (∀ W, Ext W0 W → W.cell? ⟨w.heap.size, 1, none⟩ = some (.slice ar x.routines.length cr)) := Lib.hid fun W h => h.cell m1
  have hA : AccT W0.heap.size (W0.alloc (.cells #[] 9)) (.slice (some ⟨W0.heap.size, 0, none⟩) 0 0) [] := Acc.empty _ _ (Nat.le_refl _)
  have y1 : Ext W0 (W0.alloc (.cells #[] 9)) := (Ext.refl W0).alloc _
  have zb := lt_of_cell m0
  go_wp2_with fail
  refine (spec_IsSystem_any x _ _ (Rep.ext (x0.trans y1) RX.out) hz).mono ?_
  rintro e w2 ⟨rfl, hx2⟩
  have z2 := y1.trans hx2
  replace m0 := Ext.cell z2 m0
  replace m1 := Ext.cell z2 m1
  replace m2 := Ext.cell z2 m2
  replace m3 := Ext.cell z2 m3
  replace m4 := Ext.cell z2 m4
  replace m5 := Ext.cell z2 m5
  replace m6 := Ext.cell z2 m6
  replace m7 := Ext.cell z2 m7
  replace m8 := Ext.cell z2 m8
  replace m9 := Ext.cell z2 m9
  replace m10 := Ext.cell z2 m10
  replace m11 := Ext.cell z2 m11
  replace hA := hA.ext hx2
  have hzb := x0.size
  clear y1 hx2
  cases g0 : prB (SysP x)
  · have HV : Hid ([] = selO x k cls) := Lib.hid (selO_ff (Or.inl g0))
    clear g0
    obtain ⟨ao, cap, gp, hv, h4, hf4⟩ := hA.rep
    simp only [Value.slice.injEq, List.length_nil] at hv
    obtain ⟨rfl, -, rfl⟩ := hv
    go_wp2_with fail
    go_ret
    exact ⟨_, _, _, gp, rfl, by rw [← HV.out]; exact h4, hf4.mono hzb, x0.trans z2⟩
  have hS := prB_iff.1 g0
  have hok : ClsOk x.classes := clsB_iff.1 hS.1
  have hn := hS.2.2.2.1
  have HOK := Lib.hid hok
  have hcl : x.classes.length ≤ 24 := hok.1.2
  clear hS hok
  cases g1 : decide (0 ≤ k ∧ k ≤ (x.classes.length : Int) - 1)
  · have HV : Hid ([] = selO x k cls) := Lib.hid (selO_ff (Or.inr g1))
    clear g0
    go_wp2_with fail
    refine (l1In_any _ _ _ _).mono ?_
    rw [show decide (0 ≤ k ∧ k ≤ (x.classes.length : Int) - 1) = _ from g1]
    rintro e wq ⟨rfl, hq⟩
    subst wq
    clear g1
    obtain ⟨ao, cap, gp, hv, h4, hf4⟩ := hA.rep
    simp only [Value.slice.injEq, List.length_nil] at hv
    obtain ⟨rfl, -, rfl⟩ := hv
    go_wp2_with fail
    go_ret
    exact ⟨_, _, _, gp, rfl, by rw [← HV.out]; exact h4, hf4.mono hzb, x0.trans z2⟩
  have HV : Hid (∀ v, SelR x cls k [] v → v = selO x k cls) := Lib.hid fun v h => selO_tt g0 g1 h
  have hk := of_decide_eq_true g1
  clear g0
  go_wp2_with fail
  refine (l1In_any _ _ _ _).mono ?_
  rw [show decide (0 ≤ k ∧ k ≤ (x.classes.length : Int) - 1) = _ from g1]
  rintro e wq ⟨rfl, hq⟩
  subst wq
  clear g1
  obtain ⟨aro, cro, br, orr, h1, hlr, hmr, pr, har⟩ := Rep.slmap RR.out
  simp only [List.cons.injEq, and_true, Value.slice.injEq] at h1
  obtain ⟨rfl, -, rfl⟩ := h1
  unfold maxLen at hmr
  have HAR := Lib.hid har; clear har
  obtain ⟨aco, cco, bc, oc, h1, hlc, hmc, pc, hac⟩ := Rep.slmap RC.out
  simp only [List.cons.injEq, and_true, Value.slice.injEq] at h1
  obtain ⟨rfl, -, rfl⟩ := h1
  unfold maxLen at hmc
  have HAC := Lib.hid hac; clear hac
  obtain rfl := pc (by omega)
  clear m2 m3 m4 m5 m6 m7 m8 m9 m10 m11
  go_wp2_with fail
  go_loopw [1, 7] (fun kv ov wr => ∃ (j : Int) (out : List ByteArray), -1 ≤ j ∧ j < x.classes.length ∧ kv = .int .i64 j ∧ (out.length : Int) + 96 * (j + 1) ≤ 2400 ∧ AccT W0.heap.size wr ov out ∧ Ext W0 wr ∧ wr.cell? ⟨w.heap.size, 0, none⟩ = some (.slice (some ⟨bc, oc, none⟩) x.classes.length cc) ∧ wr.cell? ⟨w.heap.size, 1, none⟩ = some (.slice ar x.routines.length cr) ∧ Hid (∀ res, SelR x cls j out res → SelR x cls k [] res)) (fun kv _ _ => (intOf kv + 1).toNat)
  case atStart => exact ⟨k, [], by omega, by omega, rfl, by simp; omega, hA, z2, m0, m1, Lib.hid fun v h => h⟩
  case round =>
    obtain ⟨j, out, hj0, hj1, rfl, hln, hacc, hx, m0, m1, hR⟩ := hrel
    have X := x0.trans hx
    by_cases h0 : 0 ≤ j
    rotate_left
    · have t0 : ¬ (0 : Int) ≤ j := h0
      have HN := Lib.hid (HV.out _ (hR.out _ (.neg (by omega))))
      obtain ⟨ao, cap, gp, rfl, h4, hf4⟩ := hacc.rep
      go_wp2_with fail
      go_ret
      exact ⟨ao, _, cap, gp, rfl, by rw [← HN.out]; exact h4, hf4.mono hzb, X⟩
    obtain ⟨m, rfl⟩ : ∃ m : Nat, j = m := ⟨j.toNat, by omega⟩
    have hm : m < x.classes.length := by omega
    obtain ⟨c, hc⟩ : ∃ c, c = x.classes[m] := ⟨_, rfl⟩
    have hcm : x.classes[m]? = some c := by rw [hc]; simp [hm]
    clear hc
    obtain ⟨es, les, ces, res⟩ := HAC.out m c hcm
    obtain ⟨af, cf, rfl, -⟩ := MClassInfo.op_en res
    have q1 : w.cell? ⟨bc, oc + m * 3 + 1, none⟩ = some _ := ces 1 (by omega)
    have hp := HOK.out.parent hcm
    have HCM := Lib.hid hcm
    clear les ces res hcm
    obtain ⟨nm, par, fs⟩ := c
    simp only at q1 hp HCM
    have Q1 : Hid (∀ W, Ext w W → W.cell? ⟨bc, oc + m * 3 + 1, none⟩ = some (.int .i64 par)) := Lib.hid fun W h => h.cell q1
    clear q1
    have hmi : (m : Int) < x.classes.length := by omega
    go_wp2_with fail
    go_loopw [7, 8] (fun ov iv w5 => ∃ (i : Nat) (o2 : List ByteArray), i ≤ x.routines.length ∧ iv = .int .i64 i ∧ o2.length ≤ out.length + i ∧ AccT W0.heap.size w5 ov o2 ∧ Ext W0 w5 ∧ w5.cell? ⟨w.heap.size, 0, none⟩ = some (.slice (some ⟨bc, oc, none⟩) x.classes.length cc) ∧ w5.cell? ⟨w.heap.size, 1, none⟩ = some (.slice ar x.routines.length cr) ∧ Hid (lvl cls m out (x.routines.take i) = o2)) (fun _ iv _ => x.routines.length - (intOf iv).toNat)
    case atStart => exact ⟨0, out, Nat.zero_le _, rfl, by omega, hacc, hx, m0, m1, Lib.hid rfl⟩
    case round =>
      clear m0 m1
      obtain ⟨i, o2, hi, rfl, hl2, hac2, hx5, m0, m1, hJ⟩ := hrel
      have E5 := x0.trans hx5
      have q1 := Q1.out _ E5
      by_cases hlt : i < x.routines.length
      rotate_left
      · have HL : Hid (lvl cls m out x.routines = o2) := Lib.hid (by rw [← hJ.out, List.take_of_length_le (by omega)])
        have HN : Hid (∀ v, SelR x cls par o2 v → SelR x cls k [] v) := Lib.hid fun v h => hR.out v (.up (by omega) (by rw [Int.toNat_natCast]; exact HCM.out) (by rw [HL.out]; exact h))
        go_wp2_with fail
        go_roundw
        case rel => exact ⟨par, o2, by omega, by omega, rfl, by omega, hac2, hx5, m0, m1, HN⟩
        case measure => simp [intOf]; omega
      obtain ⟨e, he⟩ : ∃ e, e = x.routines[i] := ⟨_, rfl⟩
      have hej : x.routines[i]? = some e := by rw [he]; simp [hlt]
      clear he
      obtain rfl := pr (by omega)
      obtain ⟨es, les, ces, res⟩ := HAR.out i e hej
      obtain ⟨ae, ce, rfl, -, -⟩ := MRoutine.op_en res
      have d0 := E5.cell (show w.cell? ⟨br, orr + i * 10, none⟩ = some _ from ces 0 (by omega))
      have d1 := E5.cell (show w.cell? ⟨br, orr + i * 10 + 1, none⟩ = some _ from ces 1 (by omega))
      have d2 := E5.cell (show w.cell? ⟨br, orr + i * 10 + 2, none⟩ = some _ from ces 2 (by omega))
      have d3 := E5.cell (show w.cell? ⟨br, orr + i * 10 + 3, none⟩ = some _ from ces 3 (by omega))
      have d4 := E5.cell (show w.cell? ⟨br, orr + i * 10 + 4, none⟩ = some _ from ces 4 (by omega))
      have d5 := E5.cell (show w.cell? ⟨br, orr + i * 10 + 5, none⟩ = some _ from ces 5 (by omega))
      have d6 := E5.cell (show w.cell? ⟨br, orr + i * 10 + 6, none⟩ = some _ from ces 6 (by omega))
      have d7 := E5.cell (show w.cell? ⟨br, orr + i * 10 + 7, none⟩ = some _ from ces 7 (by omega))
      have d8 := E5.cell (show w.cell? ⟨br, orr + i * 10 + 8, none⟩ = some _ from ces 8 (by omega))
      have d9 := E5.cell (show w.cell? ⟨br, orr + i * 10 + 9, none⟩ = some _ from ces 9 (by omega))
      have HEJ := Lib.hid hej
      have hjl : (i : Int) < x.routines.length := by omega
      clear les ces res hej
      have STEP : Hid (∀ {o3 : List ByteArray}, addR cls m o2 e = o3 → lvl cls m out (x.routines.take (i + 1)) = o3) := Lib.hid fun h => lvl_step HEJ.out hJ.out h
      have hs5 := hx5.size
      by_cases z1 : e.owner = m
      rotate_left
      · have HS := Lib.hid (STEP.out (addR_no fun h => z1 h.1.1))
        have s1 := int_ne z1
        clear z1 STEP
        go_wp2_with fail
        go_roundw
        case rel => exact ⟨i + 1, o2, by omega, by go_num, by omega, hac2.ext ((Ext.refl _).alloc _), hx5.alloc _, Ext.cell ((Ext.refl _).alloc _) m0, Ext.cell ((Ext.refl _).alloc _) m1, HS⟩
        case measure => simp [intOf]; omega
      have s1 := int_eq z1
      have Z1 := Lib.hid z1; clear z1
      by_cases z2 : e.cls = cls
      rotate_left
      · have HS := Lib.hid (STEP.out (addR_no fun h => z2 h.1.2))
        have s2 : (e.cls == cls) = false := by simpa using z2
        clear z2 STEP
        go_wp2_with fail
        go_roundw
        case rel => exact ⟨i + 1, o2, by omega, by go_num, by omega, hac2.ext ((Ext.refl _).alloc _), hx5.alloc _, Ext.cell ((Ext.refl _).alloc _) m0, Ext.cell ((Ext.refl _).alloc _) m1, HS⟩
        case measure => simp [intOf]; omega
      have s2 : (e.cls == cls) = true := by simpa using z2
      have Z2 := Lib.hid z2; clear z2
      have hA5 := hac2.ext ((Ext.refl wr).alloc (.cells #[.string e.selector, .int .i64 e.owner, .bool e.cls, .int .i64 e.params, .int .i64 e.slots, .int .i64 e.body.kind, .string e.body.text, .int .i64 e.body.number, .int .i64 e.body.depth, .slice ae e.body.kids.length ce] 39))
      obtain ⟨ao, cap, gp, rfl, h4, hf4⟩ := hA5.rep
      have H4 := Lib.hid h4.rep
      clear h4 hf4
      go_wp2_with fail
      refine (l1Has_any o2 e.selector _ _ H4.out).mono ?_
      cases z3 : hasB o2 e.selector
      rotate_left
      · have HS := Lib.hid (STEP.out (addR_no fun h => h.2 (hasB_iff.1 z3)))
        clear z3 STEP
        rintro e2 w6 ⟨rfl, rfl⟩
        go_wp2_with fail
        go_roundw
        case rel => exact ⟨i + 1, o2, by omega, by go_num, by omega, hA5, hx5.alloc _, Ext.cell ((Ext.refl _).alloc _) m0, Ext.cell ((Ext.refl _).alloc _) m1, HS⟩
        case measure => simp [intOf]; omega
      have HS := Lib.hid (STEP.out (addR_yes ⟨⟨Z1.out, Z2.out⟩, fun h => by rw [hasB_tt h] at z3; cases z3⟩))
      clear z3 STEP
      rintro e2 w6 ⟨rfl, rfl⟩
      go_wp2_with (at_builtin; refine wpList_append_strs rfl _ _ rfl W0.heap.size _ o2 rfl (hA5.ext ((Ext.refl _).alloc _)) [e.selector] _ _ _ rfl (rep_one_at (by simp)) (by first | omega | (simp; omega)) (by first | omega | (simp; omega)) ?_)
      intro ao2 cap2 w7 ac hg
      have hx7 : Ext W0 w7 := AccT.below (hA5.ext ((Ext.refl _).alloc (.cells #[.string e.selector] 9))) ((hx5.alloc _).alloc _) hg (by simp; omega)
      have m0' := MB0.out _ hx7
      have m1' := MB1.out _ hx7
      go_wp2_with fail
      go_roundw
      case rel => exact ⟨i + 1, o2 ++ [e.selector], by omega, by go_num, by simp; omega, ac, hx7, m0', m1', HS⟩
      case measure => simp [intOf]; omega

theorem wpList_append_strs_at {w : World} {ops : Array Oper} {rest : List Oper} {o : Oper} {a : Act} {Q : Exit → Act → World → Prop} (hgd : o.guard = none) (s x : Operand)
    (ho : o.op = .call { callee := .builtin .append, args := #[s, x], argTypes := #[48, 48] })
    (B0 : Nat) (v : Value) (l : List ByteArray) (hs : a.eval s = v) (hacc : AccT B0 w v l)
    (ys : List ByteArray) (ao : Option Addr) (m c : Nat) (hx : a.eval x = .slice ao m c) (hr : Rep w (strs ys) [.slice ao m c])
    (hlen : l.length + ys.length ≤ 1073741824) (hbase : B0 ≤ w.heap.size)
    (h : ∀ ao' cap' w', AccT B0 w' (.slice ao' (l.length + ys.length) cap') (l ++ ys) → w.grownBy w' v.ownBlock → ((Value.slice ao' (l.length + ys.length) cap').ownBlock = v.ownBlock ∨ (Value.slice ao' (l.length + ys.length) cap').ownBlock = some w.heap.size) → wpList Tryz.prog ops Q rest (a.put o.dst (.slice ao' (l.length + ys.length) cap')) w') : wpList Tryz.prog ops Q (o :: rest) a w := by
  obtain ⟨i0, hi, hz0, hz1, hz2⟩ := info_parts strInfo
  obtain ⟨gp, hr⟩ := hr
  have ht := hr.strs_tail
  have hm : m = ys.length := by
    obtain ⟨_, _, h1, _⟩ := RepF.sl_iff.1 hr
    simp at h1; omega
  subst hm
  refine wpList_append_at hgd s x 48 ho B0 9 i0 _ 1 16 Tryz.underlying48 hi hz0 hz1 hz2 rfl (by decide) v (l.map .str) [] hs hacc (ys.map .str) ao ys.length c gp hx hr (by rw [ht]; exact Fresh.nil _ _) (by rw [ht]; simp) (by simp [maxLen]; omega) (by simp; omega) hbase ?_
  intro ao' cap' w' h2 h3 h4
  rw [ht] at h2
  simp only [List.length_map, List.append_nil, ← List.map_append] at h2 h4 ⊢
  exact h ao' cap' w' h2 h3 h4
theorem AccT.kept {B0 : Nat} {w w' : World} {v : Value} {l : List ByteArray} {row : Option Nat} (h : AccT B0 w v l) (hg : w.grownBy w' row) (hne : v.ownBlock = none ∨ v.ownBlock ≠ row) : AccT B0 w' v l := by
  obtain ⟨xs, h1, h2, h3, h4⟩ := h
  refine ⟨xs, h1.kept hg hne, ?_, Fresh.nil _ _, h4⟩
  exact h2.keep 1 _ fun b hb => by cases hb
theorem AccT.own {B0 : Nat} {w : World} {v : Value} {l : List ByteArray} (h : AccT B0 w v l) : ∀ k, v.ownBlock = some k → k < w.heap.size := fun k hk => by
  obtain ⟨xs, h1, -⟩ := h
  exact (h1.lt k hk).2
theorem grown_cell {w w' : World} {row : Option Nat} (h : w.grownBy w' row) {a : Addr} {v : Value} (hne : row ≠ some a.block) (hc : w.cell? a = some v) : w'.cell? a = some v := by
  rw [World.cell?_of_block (w := w) (grown_keep h (lt_of_cell hc) hne)]; exact hc
theorem keyS : Keyed Tryz.prog 9 := string_keyed Tryz.underlying9
theorem zeroI (w : World) : (zeroValue 3).run Tryz.prog w = .ok (.int .i64 0) w := by kernel_rfl
/-- The map holds the list's texts. -/
def MapIs (D : DataW Unit) (out : List ByteArray) : Prop := ∀ s : ByteArray, D.atKey (.string s.data.toList) (.lit (.int .i64 0)) = .lit (.int .i64 (if hasB out s = true then 1 else 0))
theorem MapIs.put {D : DataW Unit} {out : List ByteArray} (h : MapIs D out) (hD : IsMap D) (s : ByteArray) : MapIs (D.put (.string s.data.toList) (.lit (.int .i64 1))) (out ++ [s]) := by
  intro t
  by_cases e : t = s
  · subst e
    rw [atKey_put_same hD (by trivial), if_pos (hasB_tt (by simp))]
  · have hk : Lit.string t.data.toList ≠ Lit.string s.data.toList := fun h => e (by cases t; cases s; simpa using h)
    rw [atKey_put_other hk, h t]
    congr 3
    rw [eq_iff_iff, hasB_iff, hasB_iff]
    simp [e]

set_option maxHeartbeats 4000000 in
set_option maxRecDepth 100000 in
theorem impl_SelectorsOf_any (x : MSystem) (cx : List Value) (k : Int) (cls : Bool) (w : World) (rx : Rep w x.d cx) (hz : SysSz x) (hM : MaxOk w) :
    Calls Tryz.prog 29 #[.agg cx.toArray, .int .i64 k, .bool cls] w (GivesV w (strs (selO x k cls))) := by
  have RX := Lib.hid rx
  obtain ⟨ac, cc, ar, cr, am, cm, rfl, rc, rr, -, rm⟩ := MSystem.op_en rx
  have RC := Lib.hid rc
  have RR := Lib.hid rr
  clear rx rc rr rm
  have hmm := @run_makeMap Tryz.prog
  go_enter Tryz.func29, Tryz.ntmps29
  go_upto_region 1 with fail
  generalize hS : World.alloc w _ = W0
  have x0 : Ext w W0 := by rw [← hS]; exact (Ext.refl _).alloc _
  have m0 : W0.cell? ⟨w.heap.size, 0, none⟩ = some (.slice ac x.classes.length cc) := by rw [← hS]; simp <;> assumption
  have m1 : W0.cell? ⟨w.heap.size, 1, none⟩ = some (.slice ar x.routines.length cr) := by rw [← hS]; simp <;> assumption
  have m2 : W0.cell? ⟨w.heap.size, 2, none⟩ = some (.string x.main.selector) := by rw [← hS]; simp <;> assumption
  have m3 : W0.cell? ⟨w.heap.size, 3, none⟩ = some (.int .i64 x.main.owner) := by rw [← hS]; simp <;> assumption
  have m4 : W0.cell? ⟨w.heap.size, 4, none⟩ = some (.bool x.main.cls) := by rw [← hS]; simp <;> assumption
  have m5 : W0.cell? ⟨w.heap.size, 5, none⟩ = some (.int .i64 x.main.params) := by rw [← hS]; simp <;> assumption
  have m6 : W0.cell? ⟨w.heap.size, 6, none⟩ = some (.int .i64 x.main.slots) := by rw [← hS]; simp <;> assumption
  have m7 : W0.cell? ⟨w.heap.size, 7, none⟩ = some (.int .i64 x.main.body.kind) := by rw [← hS]; simp <;> assumption
  have m8 : W0.cell? ⟨w.heap.size, 8, none⟩ = some (.string x.main.body.text) := by rw [← hS]; simp <;> assumption
  have m9 : W0.cell? ⟨w.heap.size, 9, none⟩ = some (.int .i64 x.main.body.number) := by rw [← hS]; simp <;> assumption
  have m10 : W0.cell? ⟨w.heap.size, 10, none⟩ = some (.int .i64 x.main.body.depth) := by rw [← hS]; simp <;> assumption
  have m11 : W0.cell? ⟨w.heap.size, 11, none⟩ = some (.slice am x.main.body.kids.length cm) := by rw [← hS]; simp <;> assumption
  clear hS
  go_wp2_with fail
  refine (impl_IsSystem_any x _ _ (Rep.ext x0 RX.out) hz (hM.ext x0)).mono ?_
  rintro e w2 ⟨rfl, hx2⟩
  have X2 := x0.trans hx2
  replace m0 := Ext.cell hx2 m0
  replace m1 := Ext.cell hx2 m1
  replace m2 := Ext.cell hx2 m2
  replace m3 := Ext.cell hx2 m3
  replace m4 := Ext.cell hx2 m4
  replace m5 := Ext.cell hx2 m5
  replace m6 := Ext.cell hx2 m6
  replace m7 := Ext.cell hx2 m7
  replace m8 := Ext.cell hx2 m8
  replace m9 := Ext.cell hx2 m9
  replace m10 := Ext.cell hx2 m10
  replace m11 := Ext.cell hx2 m11
  have hzb := X2.size
  clear hx2 x0
  cases g0 : prB (SysP x)
  · have HV : Hid ([] = selO x k cls) := Lib.hid (selO_ff (Or.inl g0))
    clear g0
    go_wp2_with fail
    go_ret
    exact ⟨_, _, _, [], rfl, by rw [← HV.out]; exact nil_strsS _, Fresh.nil _ _, X2⟩
  have hS := prB_iff.1 g0
  have hok : ClsOk x.classes := clsB_iff.1 hS.1
  have hn := hS.2.2.2.1
  have HOK := Lib.hid hok
  have hcl : x.classes.length ≤ 24 := hok.1.2
  clear hS hok
  cases g1 : decide (0 ≤ k ∧ k ≤ (x.classes.length : Int) - 1)
  · have HV : Hid ([] = selO x k cls) := Lib.hid (selO_ff (Or.inr g1))
    clear g0
    go_wp2_with fail
    refine (within_any _ _ _ _).mono ?_
    rw [show decide (0 ≤ k ∧ k ≤ (x.classes.length : Int) - 1) = _ from g1]
    rintro e wq ⟨rfl, hq⟩
    subst wq
    clear g1
    go_wp2_with fail
    go_ret
    exact ⟨_, _, _, [], rfl, by rw [← HV.out]; exact nil_strsS _, Fresh.nil _ _, X2⟩
  have HV : Hid (∀ v, SelR x cls k [] v → v = selO x k cls) := Lib.hid fun v h => selO_tt g0 g1 h
  have hk := of_decide_eq_true g1
  clear g0
  go_wp2_with fail
  refine (within_any _ _ _ _).mono ?_
  rw [show decide (0 ≤ k ∧ k ≤ (x.classes.length : Int) - 1) = _ from g1]
  rintro e wq ⟨rfl, hq⟩
  subst wq
  clear g1
  obtain ⟨aro, cro, br, orr, h1, hlr, hmr, pr, har⟩ := Rep.slmap RR.out
  simp only [List.cons.injEq, and_true, Value.slice.injEq] at h1
  obtain ⟨rfl, -, rfl⟩ := h1
  unfold maxLen at hmr
  have HAR := Lib.hid har; clear har
  obtain ⟨aco, cco, bc, oc, h1, hlc, hmc, pc, hac⟩ := Rep.slmap RC.out
  simp only [List.cons.injEq, and_true, Value.slice.injEq] at h1
  obtain ⟨rfl, -, rfl⟩ := h1
  unfold maxLen at hmc
  have HAC := Lib.hid hac; clear hac
  obtain rfl := pc (by omega)
  clear m2 m3 m4 m5 m6 m7 m8 m9 m10 m11
  have MB0 : Hid (∀ W, Ext w2 W → W.cell? ⟨w.heap.size, 0, none⟩ = some (.slice (some ⟨bc, oc, none⟩) x.classes.length cc)) := Lib.hid fun W h => h.cell m0
  have MB1 : Hid (∀ W, Ext w2 W → W.cell? ⟨w.heap.size, 1, none⟩ = some (.slice ar x.routines.length cr)) := Lib.hid fun W h => h.cell m1
  have hA : AccT w2.heap.size ((w2.alloc (.cells #[] 9)).alloc (.map #[] 0)) (.slice (some ⟨w2.heap.size, 0, none⟩) 0 0) [] := AccT.ext (Acc.empty _ _ (Nat.le_refl _)) ((Ext.refl _).alloc _)
  have y1 : Ext w2 ((w2.alloc (.cells #[] 9)).alloc (.map #[] 0)) := ((Ext.refl w2).alloc _).alloc _
  have hO0 : ((w2.alloc (.cells #[] 9)).alloc (.map #[] 0)).ownsMap (H := Unit) Tryz.prog 9 (plainElem Tryz.prog 3) (w2.heap.size + 1) 0 (.map []) := by
    have := World.ownsMap_made (H := Unit) (w2.alloc (.cells #[] 9)) Tryz.prog 9 (plainElem Tryz.prog 3)
    simpa using this
  have hM0 : Hid (MapIs (.map []) []) := Lib.hid fun s => by rw [if_neg (by rw [hasB_iff]; simp)]; rfl
  go_wp2_with fail
  go_loopw [1, 7] (fun kv ov wr => ∃ (j : Int) (out : List ByteArray), -1 ≤ j ∧ j < x.classes.length ∧ kv = .int .i64 j ∧ (out.length : Int) + 96 * (j + 1) ≤ 2400 ∧ AccT w2.heap.size wr ov out ∧ Ext w2 wr ∧ (∃ Dm, wr.ownsMap (H := Unit) Tryz.prog 9 (plainElem Tryz.prog 3) (w2.heap.size + 1) out.length Dm ∧ Hid (MapIs Dm out) ∧ ov.ownBlock ≠ some (w2.heap.size + 1)) ∧ Hid (∀ res, SelR x cls j out res → SelR x cls k [] res)) (fun kv _ _ => (intOf kv + 1).toNat)
  case atStart => exact ⟨k, [], by omega, by omega, rfl, by simp; omega, hA, y1, ⟨_, hO0, hM0, by simp [Value.ownBlock]⟩, Lib.hid fun v h => h⟩
  case round =>
    obtain ⟨j, out, hj0, hj1, rfl, hln, hacc, hx, ⟨Dm, hown, hmi0, hob⟩, hR⟩ := hrel
    clear hA y1 hO0 hM0
    have X := X2.trans hx
    have m0 := MB0.out _ hx
    have m1 := MB1.out _ hx
    by_cases h0 : 0 ≤ j
    rotate_left
    · have t0 : ¬ (0 : Int) ≤ j := h0
      have HN := Lib.hid (HV.out _ (hR.out _ (.neg (by omega))))
      obtain ⟨ao, cap, gp, rfl, h4, hf4⟩ := hacc.rep
      go_wp2_with fail
      go_ret
      exact ⟨ao, _, cap, gp, rfl, by rw [← HN.out]; exact h4, hf4.mono hzb, X⟩
    obtain ⟨m, rfl⟩ : ∃ m : Nat, j = m := ⟨j.toNat, by omega⟩
    have hm : m < x.classes.length := by omega
    obtain ⟨c, hc⟩ : ∃ c, c = x.classes[m] := ⟨_, rfl⟩
    have hcm : x.classes[m]? = some c := by rw [hc]; simp [hm]
    clear hc
    obtain ⟨es, les, ces, res⟩ := HAC.out m c hcm
    obtain ⟨af, cf, rfl, -⟩ := MClassInfo.op_en res
    have q1 : w.cell? ⟨bc, oc + m * 3 + 1, none⟩ = some _ := ces 1 (by omega)
    have hp := HOK.out.parent hcm
    have HCM := Lib.hid hcm
    clear les ces res hcm
    obtain ⟨nm, par, fs⟩ := c
    simp only at q1 hp HCM
    have Q1 : Hid (∀ W, Ext w W → W.cell? ⟨bc, oc + m * 3 + 1, none⟩ = some (.int .i64 par)) := Lib.hid fun W h => h.cell q1
    clear q1
    have hmi : (m : Int) < x.classes.length := by omega
    go_wp2_with fail
    go_loopw [7, 36] (fun ov iv w5 => ∃ (i : Nat) (o2 : List ByteArray), i ≤ x.routines.length ∧ iv = .int .i64 i ∧ o2.length ≤ out.length + i ∧ AccT w2.heap.size w5 ov o2 ∧ Ext w2 w5 ∧ (∃ Dm, w5.ownsMap (H := Unit) Tryz.prog 9 (plainElem Tryz.prog 3) (w2.heap.size + 1) o2.length Dm ∧ Hid (MapIs Dm o2) ∧ ov.ownBlock ≠ some (w2.heap.size + 1)) ∧ Hid (lvl cls m out (x.routines.take i) = o2)) (fun _ iv _ => x.routines.length - (intOf iv).toNat)
    case atStart => exact ⟨0, out, Nat.zero_le _, rfl, by omega, hacc, hx, ⟨Dm, hown, hmi0, hob⟩, Lib.hid rfl⟩
    case round =>
      clear m0 m1 hacc hown hmi0 hob Dm
      obtain ⟨i, o2, hi, rfl, hl2, hac2, hx5, ⟨Dm, hown, hmi0, hob⟩, hJ⟩ := hrel
      have E5 := X2.trans hx5
      have m0 := MB0.out _ hx5
      have m1 := MB1.out _ hx5
      have q1 := Q1.out _ E5
      by_cases hlt : i < x.routines.length
      rotate_left
      · have HL : Hid (lvl cls m out x.routines = o2) := Lib.hid (by rw [← hJ.out, List.take_of_length_le (by omega)])
        have HN : Hid (∀ v, SelR x cls par o2 v → SelR x cls k [] v) := Lib.hid fun v h => hR.out v (.up (by omega) (by rw [Int.toNat_natCast]; exact HCM.out) (by rw [HL.out]; exact h))
        go_wp2_with fail
        go_roundw
        case rel => exact ⟨par, o2, by omega, by omega, rfl, by omega, hac2, hx5, ⟨Dm, hown, hmi0, hob⟩, HN⟩
        case measure => simp [intOf]; omega
      obtain ⟨e, he⟩ : ∃ e, e = x.routines[i] := ⟨_, rfl⟩
      have hej : x.routines[i]? = some e := by rw [he]; simp [hlt]
      clear he
      obtain rfl := pr (by omega)
      obtain ⟨es, les, ces, res⟩ := HAR.out i e hej
      obtain ⟨ae, ce, rfl, -, -⟩ := MRoutine.op_en res
      have d0 := E5.cell (show w.cell? ⟨br, orr + i * 10, none⟩ = some _ from ces 0 (by omega))
      have d1 := E5.cell (show w.cell? ⟨br, orr + i * 10 + 1, none⟩ = some _ from ces 1 (by omega))
      have d2 := E5.cell (show w.cell? ⟨br, orr + i * 10 + 2, none⟩ = some _ from ces 2 (by omega))
      have d3 := E5.cell (show w.cell? ⟨br, orr + i * 10 + 3, none⟩ = some _ from ces 3 (by omega))
      have d4 := E5.cell (show w.cell? ⟨br, orr + i * 10 + 4, none⟩ = some _ from ces 4 (by omega))
      have d5 := E5.cell (show w.cell? ⟨br, orr + i * 10 + 5, none⟩ = some _ from ces 5 (by omega))
      have d6 := E5.cell (show w.cell? ⟨br, orr + i * 10 + 6, none⟩ = some _ from ces 6 (by omega))
      have d7 := E5.cell (show w.cell? ⟨br, orr + i * 10 + 7, none⟩ = some _ from ces 7 (by omega))
      have d8 := E5.cell (show w.cell? ⟨br, orr + i * 10 + 8, none⟩ = some _ from ces 8 (by omega))
      have d9 := E5.cell (show w.cell? ⟨br, orr + i * 10 + 9, none⟩ = some _ from ces 9 (by omega))
      have HEJ := Lib.hid hej
      have hjl : (i : Int) < x.routines.length := by omega
      clear les ces res hej
      have STEP : Hid (∀ {o3 : List ByteArray}, addR cls m o2 e = o3 → lvl cls m out (x.routines.take (i + 1)) = o3) := Lib.hid fun h => lvl_step HEJ.out hJ.out h
      have hs5 := hx5.size
      have hlm := hown.lt
      have hsz5 : e.selector.size ≤ maxLen := by unfold maxLen; have := (hz.2.2.1 e (List.mem_of_getElem? HEJ.out)).1; omega
      by_cases z1 : e.owner = m
      rotate_left
      · have HS := Lib.hid (STEP.out (addR_no fun h => z1 h.1.1))
        have s1 := int_ne z1
        clear z1 STEP
        go_wp2_with fail
        go_roundw
        case rel => exact ⟨i + 1, o2, by omega, by go_num, by omega, hac2.ext ((Ext.refl _).alloc _), hx5.alloc _, ⟨Dm, hown.alloc _, hmi0, hob⟩, HS⟩
        case measure => simp [intOf]; omega
      have s1 := int_eq z1
      have Z1 := Lib.hid z1; clear z1
      by_cases z2 : e.cls = cls
      rotate_left
      · have HS := Lib.hid (STEP.out (addR_no fun h => z2 h.1.2))
        have s2 : (e.cls == cls) = false := by simpa using z2
        clear z2 STEP
        go_wp2_with fail
        go_roundw
        case rel => exact ⟨i + 1, o2, by omega, by go_num, by omega, hac2.ext ((Ext.refl _).alloc _), hx5.alloc _, ⟨Dm, hown.alloc _, hmi0, hob⟩, HS⟩
        case measure => simp [intOf]; omega
      have s2 : (e.cls == cls) = true := by simpa using z2
      have Z2 := Lib.hid z2; clear z2
      have hown5 := hown.alloc (.cells #[.string e.selector, .int .i64 e.owner, .bool e.cls, .int .i64 e.params, .int .i64 e.slots, .int .i64 e.body.kind, .string e.body.text, .int .i64 e.body.number, .int .i64 e.body.depth, .slice ae e.body.kids.length ce] 39)
      have hkey := keyOf_string_mk Tryz.underlying9 hsz5
      obtain ⟨c, hrun, hat, hwc⟩ := hown5.lookup_int keyS Tryz.underlying141 Tryz.underlying3 (zeroI _) hkey
      rw [hmi0.out e.selector] at hat
      simp only [DataW.lit.injEq, Lit.int.injEq, true_and] at hat
      cases z3 : hasB o2 e.selector
      rotate_left
      · rw [z3] at hat
        simp only [if_true] at hat
        subst hat
        have HS := Lib.hid (STEP.out (addR_no fun h => h.2 (hasB_iff.1 z3)))
        clear z3 STEP
        go_wp2_with fail
        go_roundw
        case rel => exact ⟨i + 1, o2, by omega, by go_num, by omega, hac2.ext ((Ext.refl _).alloc _), hx5.alloc _, ⟨Dm, hown.alloc _, hmi0, hob⟩, HS⟩
        case measure => simp [intOf]; omega
      rw [z3] at hat
      simp only [Bool.false_eq_true, if_false] at hat
      subst hat
      have HS := Lib.hid (STEP.out (addR_yes ⟨⟨Z1.out, Z2.out⟩, fun h => by rw [hasB_tt h] at z3; cases z3⟩))
      clear z3 STEP
      have hA5 := hac2.ext ((Ext.refl wr).alloc (.cells #[.string e.selector, .int .i64 e.owner, .bool e.cls, .int .i64 e.params, .int .i64 e.slots, .int .i64 e.body.kind, .string e.body.text, .int .i64 e.body.number, .int .i64 e.body.depth, .slice ae e.body.kids.length ce] 39))
      have d0' : (wr.alloc (.cells #[.string e.selector, .int .i64 e.owner, .bool e.cls, .int .i64 e.params, .int .i64 e.slots, .int .i64 e.body.kind, .string e.body.text, .int .i64 e.body.number, .int .i64 e.body.depth, .slice ae e.body.kids.length ce] 39)).cell? ⟨wr.heap.size, 0, none⟩ = some (.string e.selector) := by simp
      go_wp2_with (first | (at_mapUpdate; refine wpList_mapUpdate_own _ rfl _ _ _ 141 rfl 9 3 keyS Tryz.underlying141 _ (w2.heap.size + 1) o2.length _ rfl hown5 (by unfold maxLen; omega) _ _ _ rfl rfl hkey _ [] (plainElem_int Tryz.underlying3 (by decide)) ?_) | go_in)
      intro w6 hown6 hg6
      have hA6 := hA5.kept hg6 (Or.inr hob)
      have d6 := grown_cell hg6 (fun h => by simp at h; omega) d0'
      have hx6 : Ext w2 w6 := Below.grown (hx5.alloc (.cells #[.string e.selector, .int .i64 e.owner, .bool e.cls, .int .i64 e.params, .int .i64 e.slots, .int .i64 e.body.kind, .string e.body.text, .int .i64 e.body.number, .int .i64 e.body.depth, .slice ae e.body.kids.length ce] 39)) hg6 (by simp; omega) (fun j hj => by cases hj; omega)
      have hs6 := hx6.size
      have HI := Lib.hid (hmi0.out.put hown5.isMap e.selector)
      clear d0' hrun hown hown5
      go_wp2_with (at_builtin; refine wpList_append_strs_at rfl _ _ rfl w2.heap.size _ o2 rfl (hA6.ext ((Ext.refl _).alloc _)) [e.selector] _ _ _ rfl (rep_one_at (by simp)) (by first | omega | (simp; omega)) (by first | omega | (simp; omega)) ?_)
      intro ao2 cap2 w7 ac hg hloc
      have hx7 : Ext w2 w7 := AccT.below (hA6.ext ((Ext.refl _).alloc (.cells #[.string e.selector] 9))) (hx6.alloc _) hg (by simp; omega)
      have hown7 := (hown6.alloc (.cells #[.string e.selector] 9)).kept hg (fun h => hob h.symm)
      have hlt6 := hown6.lt
      have hob7 : (Value.slice ao2 (o2.length + [e.selector].length) cap2).ownBlock ≠ some (w2.heap.size + 1) := by
        intro hq
        rcases hloc with h | h
        · exact hob (h.symm.trans hq)
        · have h2 := h.symm.trans hq; simp at h2; omega
      go_wp2_with fail
      go_roundw
      case rel => exact ⟨i + 1, o2 ++ [e.selector], by omega, by go_num, by simp; omega, ac, hx7, ⟨_, by simpa using hown7, HI, hob7⟩, HS⟩
      case measure => simp [intOf]; omega

end Go.Proofs.YtdngmifgglbbpaaGreatDoor
