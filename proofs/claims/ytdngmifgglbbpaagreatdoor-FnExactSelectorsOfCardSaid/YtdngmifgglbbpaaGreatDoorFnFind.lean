/-
  CONTRACTS: FindRoutine, of the program and of the reference.
  Conditions: those that each lemma states.
-/
import Derived.Test.YtdngmifgglbbpaaGreatDoorRows
import Derived.Test.YtdngmifgglbbpaaGreatDoorFnSys
namespace Go.Proofs.YtdngmifgglbbpaaGreatDoor
open Go.RowKit
set_option linter.unusedSimpArgs false
set_option linter.unusedVariables false

/-- A routine that a lookup in class k takes. -/
def Mt (cls : Bool) (sel : ByteArray) (k : Int) (e : MRoutine) : Prop := e.owner = k ∧ e.cls = cls ∧ e.selector = sel
inductive Fnd (x : MSystem) (cls : Bool) (sel : ByteArray) : Int → Int → Prop
  | neg {k : Int} (h : k < 0) : Fnd x cls sel k (-1)
  | hit {k : Int} {i : Nat} {e : MRoutine} (h0 : 0 ≤ k) (he : x.routines[i]? = some e) (hm : Mt cls sel k e) (hn : ∀ (j : Nat) f, j < i → x.routines[j]? = some f → ¬ Mt cls sel k f) : Fnd x cls sel k i
  | up {k v : Int} {c : MClassInfo} (h0 : 0 ≤ k) (hn : ∀ (j : Nat) f, x.routines[j]? = some f → ¬ Mt cls sel k f) (hc : x.classes[k.toNat]? = some c) (h : Fnd x cls sel c.parent v) : Fnd x cls sel k v
theorem Fnd.uniq {x : MSystem} {cls : Bool} {sel : ByteArray} {k a : Int} (h : Fnd x cls sel k a) : ∀ {b : Int}, Fnd x cls sel k b → a = b := by
  induction h with
  | neg h =>
    intro b g
    cases g with
    | neg _ => rfl
    | hit h0 _ _ _ => omega
    | up h0 _ _ _ => omega
  | @hit k i e h0 he hm hn =>
    intro b g
    cases g with
    | neg h => omega
    | @hit _ i2 e2 _ he2 hm2 hn2 =>
      rcases Nat.lt_trichotomy i i2 with h | h | h
      · exact absurd hm (hn2 _ _ h he)
      · rw [h]
      · exact absurd hm2 (hn _ _ h he2)
    | up _ hn2 _ _ => exact absurd hm (hn2 _ _ he)
  | up h0 hn hc h ih =>
    intro b g
    cases g with
    | neg h => omega
    | hit _ he2 hm2 _ => exact absurd hm2 (hn _ _ he2)
    | up _ _ hc2 h2 =>
      rw [hc] at hc2; injection hc2 with e; subst e; exact ih h2
open Classical in
noncomputable def findV (x : MSystem) (cls : Bool) (sel : ByteArray) (k : Int) : Int := if h : ∃ v, Fnd x cls sel k v then h.choose else -1
theorem findV_eq {x : MSystem} {cls : Bool} {sel : ByteArray} {k v : Int} (h : Fnd x cls sel k v) : findV x cls sel k = v := by
  have hx : ∃ v, Fnd x cls sel k v := ⟨v, h⟩
  unfold findV
  rw [dif_pos hx]
  exact hx.choose_spec.uniq h
noncomputable def findR (x : MSystem) (k : Int) (cls : Bool) (sel : ByteArray) : Int := if prB (SysP x) = true ∧ decide (0 ≤ k ∧ k ≤ (x.classes.length : Int) - 1) = true then findV x cls sel k else -1
theorem findR_ff {x : MSystem} {k : Int} {cls : Bool} {sel : ByteArray} (h : prB (SysP x) = false ∨ decide (0 ≤ k ∧ k ≤ (x.classes.length : Int) - 1) = false) : findR x k cls sel = -1 := by
  unfold findR
  rw [if_neg]
  rintro ⟨h1, h2⟩
  rcases h with h | h
  · rw [h] at h1; cases h1
  · rw [h] at h2; cases h2
theorem findR_tt {x : MSystem} {k v : Int} {cls : Bool} {sel : ByteArray} (h1 : prB (SysP x) = true) (h2 : decide (0 ≤ k ∧ k ≤ (x.classes.length : Int) - 1) = true) (h : Fnd x cls sel k v) : findR x k cls sel = v := by
  unfold findR
  rw [if_pos ⟨h1, h2⟩, findV_eq h]
theorem retI {a b : Int} (h : a = b) : Ending.returned (.int .i64 a) = .returned (.int .i64 b) := by rw [h]

set_option maxHeartbeats 4000000 in
set_option maxRecDepth 100000 in
theorem findRoutine_any (x : MSystem) (cx : List Value) (k : Int) (cls : Bool) (sel : ByteArray) (w : World) (rx : Rep w x.d cx) (hok : ClsOk x.classes) (hn : x.routines.length ≤ 96) (hk0 : 0 ≤ k) (hk1 : k < x.classes.length) :
    Calls Tryz.prog 57 #[.agg cx.toArray, .int .i64 k, .bool cls, .string sel] w fun e w' => (∃ v, e = .returned (.int .i64 v) ∧ Fnd x cls sel k v) ∧ Ext w w' := by
  obtain ⟨ac, cc, ar, cr, am, cm, rfl, rc, rr, -, rm⟩ := MSystem.op_en rx
  have RC := Lib.hid rc
  have RR := Lib.hid rr
  have HOK := Lib.hid hok
  clear rx rc rr rm hok
  obtain ⟨aro, cro, br, orr, h1, hlr, hmr, pr, har⟩ := Rep.slmap RR.out
  simp only [List.cons.injEq, and_true, Value.slice.injEq] at h1
  obtain ⟨rfl, -, rfl⟩ := h1
  unfold maxLen at hmr
  have HAR := Lib.hid har; clear har
  obtain ⟨aco, cco, bc, oc, h1, hlc, hmc, pc, hac⟩ := Rep.slmap RC.out
  simp only [List.cons.injEq, and_true, Value.slice.injEq] at h1
  obtain ⟨rfl, -, rfl⟩ := h1
  unfold maxLen at hmc
  have HAC := Lib.hid hac; clear hac
  obtain rfl := pc (by omega)
  go_enter Tryz.func57, Tryz.ntmps57
  go_upto_region 1 with fail
  generalize hS : World.alloc w _ = W1
  have x1 : Ext w W1 := by rw [← hS]; exact (Ext.refl _).alloc _
  have m0 : W1.cell? ⟨w.heap.size, 0, none⟩ = some (.slice (some ⟨bc, oc, none⟩) x.classes.length cc) := by rw [← hS]; simp
  have m1 : W1.cell? ⟨w.heap.size, 1, none⟩ = some (.slice ar x.routines.length cr) := by rw [← hS]; simp
  have m2 : W1.cell? ⟨w.heap.size, 2, none⟩ = some (.string x.main.selector) := by rw [← hS]; simp
  have m3 : W1.cell? ⟨w.heap.size, 3, none⟩ = some (.int .i64 x.main.owner) := by rw [← hS]; simp
  have m4 : W1.cell? ⟨w.heap.size, 4, none⟩ = some (.bool x.main.cls) := by rw [← hS]; simp
  have m5 : W1.cell? ⟨w.heap.size, 5, none⟩ = some (.int .i64 x.main.params) := by rw [← hS]; simp
  have m6 : W1.cell? ⟨w.heap.size, 6, none⟩ = some (.int .i64 x.main.slots) := by rw [← hS]; simp
  have m7 : W1.cell? ⟨w.heap.size, 7, none⟩ = some (.int .i64 x.main.body.kind) := by rw [← hS]; simp
  have m8 : W1.cell? ⟨w.heap.size, 8, none⟩ = some (.string x.main.body.text) := by rw [← hS]; simp
  have m9 : W1.cell? ⟨w.heap.size, 9, none⟩ = some (.int .i64 x.main.body.number) := by rw [← hS]; simp
  have m10 : W1.cell? ⟨w.heap.size, 10, none⟩ = some (.int .i64 x.main.body.depth) := by rw [← hS]; simp
  have m11 : W1.cell? ⟨w.heap.size, 11, none⟩ = some (.slice am x.main.body.kids.length cm) := by rw [← hS]; simp
  clear hS
  clear m2 m3 m4 m5 m6 m7 m8 m9 m10 m11
  go_wp2_with fail
  go_loopw [1] (fun kv wr => ∃ j : Int, -1 ≤ j ∧ j < x.classes.length ∧ kv = .int .i64 j ∧ Ext W1 wr ∧ Hid (∀ v, Fnd x cls sel j v → Fnd x cls sel k v)) (fun kv _ => (intOf kv + 1).toNat)
  case atStart => exact ⟨k, by omega, by omega, rfl, Ext.refl _, Lib.hid fun v h => h⟩
  case round =>
    obtain ⟨j, hj0, hj1, rfl, hx, hR⟩ := hrel
    replace m0 := Ext.cell hx m0
    replace m1 := Ext.cell hx m1
    have X := x1.trans hx
    have HX := Lib.hid hx
    clear x1 hx
    by_cases h0 : 0 ≤ j
    rotate_left
    · have t0 : ¬ (0 : Int) ≤ j := h0
      have HN : Hid (Fnd x cls sel k (-1)) := Lib.hid (hR.out _ (.neg (by omega)))
      go_wp2_with fail
      go_ret
      exact ⟨⟨_, rfl, HN.out⟩, X⟩
    obtain ⟨m, rfl⟩ : ∃ m : Nat, j = m := ⟨j.toNat, by omega⟩
    have hm : m < x.classes.length := by omega
    obtain ⟨c, hc⟩ : ∃ c, c = x.classes[m] := ⟨_, rfl⟩
    have hcm : x.classes[m]? = some c := by rw [hc]; simp [hm]
    clear hc
    obtain ⟨es, les, ces, res⟩ := HAC.out m c hcm
    obtain ⟨af, cf, rfl, -⟩ := MClassInfo.op_en res
    have q1 : wr.cell? ⟨bc, oc + m * 3 + 1, none⟩ = some _ := X.cell (show w.cell? _ = _ from ces 1 (by omega))
    have hp := HOK.out.parent hcm
    have HCM := Lib.hid hcm
    clear les ces res hcm
    obtain ⟨nm, par, fs⟩ := c
    simp only at q1 hp HCM
    have hmi : (m : Int) < x.classes.length := by omega
    go_wp2_with fail
    go_loopw [16] (fun iv w5 => ∃ i : Nat, i ≤ x.routines.length ∧ iv = .int .i64 i ∧ Ext wr w5 ∧ Hid (∀ (j : Nat) f, j < i → x.routines[j]? = some f → ¬ Mt cls sel m f)) (fun iv _ => x.routines.length - (intOf iv).toNat)
    case atStart => exact ⟨0, Nat.zero_le _, rfl, Ext.refl _, Lib.hid fun i e hi => by omega⟩
    case round =>
      obtain ⟨i, hi, rfl, hx5, hJ⟩ := hrel
      replace m0 := Ext.cell hx5 m0
      replace m1 := Ext.cell hx5 m1
      replace q1 := Ext.cell hx5 q1
      have E5 := X.trans hx5
      clear X
      by_cases hlt : i < x.routines.length
      rotate_left
      · have HN : Hid (∀ v, Fnd x cls sel par v → Fnd x cls sel k v) := Lib.hid fun v h => hR.out v (.up (by omega) (fun j f hf => hJ.out j f (by have := (List.getElem?_eq_some_iff.1 hf).1; omega) hf) (by rw [Int.toNat_natCast]; exact HCM.out) h)
        have HX5 := Lib.hid (HX.out.trans hx5)
        go_wp2_with fail
        go_roundw
        case rel => exact ⟨par, by omega, by omega, rfl, HX5.out, HN⟩
        case measure => simp [intOf]; omega
      obtain ⟨e, he⟩ : ∃ e, e = x.routines[i] := ⟨_, rfl⟩
      have hej : x.routines[i]? = some e := by rw [he]; simp [hlt]
      clear he
      obtain rfl := pr (by omega)
      obtain ⟨es, les, ces, res⟩ := HAR.out i e hej
      obtain ⟨ae, ce, rfl, -, -⟩ := MRoutine.op_en res
      have d0 := E5.cell (show w.cell? ⟨br, orr + i * 10, none⟩ = some _ from ces 0 (by omega))
      have d1 := E5.cell (show w.cell? ⟨br, orr + i * 10 + 1, none⟩ = some _ from ces 1 (by omega))
      have d2 := E5.cell (show w.cell? ⟨br, orr + i * 10 + 2, none⟩ = some _ from ces 2 (by omega))
      have d3 := E5.cell (show w.cell? ⟨br, orr + i * 10 + 3, none⟩ = some _ from ces 3 (by omega))
      have d4 := E5.cell (show w.cell? ⟨br, orr + i * 10 + 4, none⟩ = some _ from ces 4 (by omega))
      have d5 := E5.cell (show w.cell? ⟨br, orr + i * 10 + 5, none⟩ = some _ from ces 5 (by omega))
      have d6 := E5.cell (show w.cell? ⟨br, orr + i * 10 + 6, none⟩ = some _ from ces 6 (by omega))
      have d7 := E5.cell (show w.cell? ⟨br, orr + i * 10 + 7, none⟩ = some _ from ces 7 (by omega))
      have d8 := E5.cell (show w.cell? ⟨br, orr + i * 10 + 8, none⟩ = some _ from ces 8 (by omega))
      have d9 := E5.cell (show w.cell? ⟨br, orr + i * 10 + 9, none⟩ = some _ from ces 9 (by omega))
      have HEJ := Lib.hid hej
      have hjl : (i : Int) < x.routines.length := by omega
      clear les ces res hej
      have STEP : Hid (¬ Mt cls sel m e → ∀ (j : Nat) f, j < i + 1 → x.routines[j]? = some f → ¬ Mt cls sel m f) := Lib.hid fun h j f hj hf => by
        by_cases h2 : j < i
        · exact hJ.out j f h2 hf
        · obtain rfl : j = i := by omega
          rw [HEJ.out] at hf; injection hf with hf; subst hf; exact h
      have HIT : Hid (Mt cls sel m e → Fnd x cls sel k i) := Lib.hid fun h => hR.out _ (.hit (by omega) HEJ.out h hJ.out)
      by_cases z1 : e.owner = m
      rotate_left
      · have HS := Lib.hid (STEP.out fun h => z1 h.1)
        have s1 := int_ne z1
        clear z1 STEP
        go_wp2_with fail
        go_roundw
        case rel => exact ⟨i + 1, by omega, by go_num, hx5.alloc _, HS⟩
        case measure => simp [intOf]; omega
      have s1 := int_eq z1
      have Z1 := Lib.hid z1; clear z1
      by_cases z2 : e.cls = cls
      rotate_left
      · have HS := Lib.hid (STEP.out fun h => z2 h.2.1)
        have s2 : (e.cls == cls) = false := by simpa using z2
        clear z2 STEP
        go_wp2_with fail
        go_roundw
        case rel => exact ⟨i + 1, by omega, by go_num, hx5.alloc _, HS⟩
        case measure => simp [intOf]; omega
      have s2 : (e.cls == cls) = true := by simpa using z2
      have Z2 := Lib.hid z2; clear z2
      by_cases z3 : e.selector = sel
      rotate_left
      · have HS := Lib.hid (STEP.out fun h => z3 h.2.2)
        have s3 := str_ne z3
        clear z3 STEP
        go_wp2_with fail
        go_roundw
        case rel => exact ⟨i + 1, by omega, by go_num, hx5.alloc _, HS⟩
        case measure => simp [intOf]; omega
      have s3 := str_eq z3
      have HM : Hid (Mt cls sel m e) := Lib.hid ⟨Z1.out, Z2.out, z3⟩
      clear z3 STEP
      have HF := Lib.hid (HIT.out HM.out)
      go_wp2_with fail
      go_ret
      exact ⟨⟨_, rfl, HF.out⟩, E5.alloc _⟩

def Frst (x : MSystem) (cls : Bool) (sel : ByteArray) (k v : Int) : Prop := (v = -1 ∧ ∀ (j : Nat) f, x.routines[j]? = some f → ¬ Mt cls sel k f) ∨ ∃ (i : Nat) (e : MRoutine), v = i ∧ x.routines[i]? = some e ∧ Mt cls sel k e ∧ ∀ (j : Nat) f, j < i → x.routines[j]? = some f → ¬ Mt cls sel k f
set_option maxHeartbeats 4000000 in
set_option maxRecDepth 100000 in
theorem l12Find_any (x : MSystem) (B : Nat) (ar : Option Addr) (cr : Nat) (k : Int) (cls : Bool) (sel : ByteArray) (w : World) (m1 : w.cell? ⟨B, 1, none⟩ = some (.slice ar x.routines.length cr)) (rr : Rep w (MRoutines x.routines) [.slice ar x.routines.length cr]) :
    Calls Tryz.prog 126 #[.pointer (some ⟨B, 0, none⟩), .int .i64 k, .bool cls, .string sel] w fun e w' => (∃ v, e = .returned (.int .i64 v) ∧ Frst x cls sel k v) ∧ Ext w w' := by
  have RR := Lib.hid rr
  clear rr
  obtain ⟨aro, cro, br, orr, h1, hlr, hmr, pr, har⟩ := Rep.slmap RR.out
  simp only [List.cons.injEq, and_true, Value.slice.injEq] at h1
  obtain ⟨rfl, -, rfl⟩ := h1
  unfold maxLen at hmr
  have HAR := Lib.hid har; clear har
  go_enter Tryz.func126, Tryz.ntmps126
  go_wp2_with fail
  go_loopw [9] (fun iv w5 => ∃ i : Nat, i ≤ x.routines.length ∧ iv = .int .i64 i ∧ Ext w w5 ∧ Hid (∀ (j : Nat) f, j < i → x.routines[j]? = some f → ¬ Mt cls sel k f)) (fun iv _ => x.routines.length - (intOf iv).toNat)
  case atStart => exact ⟨0, Nat.zero_le _, rfl, Ext.refl _, Lib.hid fun i e hi => by omega⟩
  case round =>
    obtain ⟨i, hi, rfl, E5, hJ⟩ := hrel
    replace m1 := Ext.cell E5 m1
    by_cases hlt : i < x.routines.length
    rotate_left
    · have HN : Hid (Frst x cls sel k (-1)) := Lib.hid (Or.inl ⟨rfl, fun j f hf => hJ.out j f (by have := (List.getElem?_eq_some_iff.1 hf).1; omega) hf⟩)
      go_wp2_with fail
      go_ret
      exact ⟨⟨_, rfl, HN.out⟩, E5⟩
    obtain ⟨e, he⟩ : ∃ e, e = x.routines[i] := ⟨_, rfl⟩
    have hej : x.routines[i]? = some e := by rw [he]; simp [hlt]
    clear he
    obtain rfl := pr (by omega)
    obtain ⟨es, les, ces, res⟩ := HAR.out i e hej
    obtain ⟨ae, ce, rfl, -, -⟩ := MRoutine.op_en res
    have d0 := E5.cell (show w.cell? ⟨br, orr + i * 10, none⟩ = some _ from ces 0 (by omega))
    have d1 := E5.cell (show w.cell? ⟨br, orr + i * 10 + 1, none⟩ = some _ from ces 1 (by omega))
    have d2 := E5.cell (show w.cell? ⟨br, orr + i * 10 + 2, none⟩ = some _ from ces 2 (by omega))
    have d3 := E5.cell (show w.cell? ⟨br, orr + i * 10 + 3, none⟩ = some _ from ces 3 (by omega))
    have d4 := E5.cell (show w.cell? ⟨br, orr + i * 10 + 4, none⟩ = some _ from ces 4 (by omega))
    have d5 := E5.cell (show w.cell? ⟨br, orr + i * 10 + 5, none⟩ = some _ from ces 5 (by omega))
    have d6 := E5.cell (show w.cell? ⟨br, orr + i * 10 + 6, none⟩ = some _ from ces 6 (by omega))
    have d7 := E5.cell (show w.cell? ⟨br, orr + i * 10 + 7, none⟩ = some _ from ces 7 (by omega))
    have d8 := E5.cell (show w.cell? ⟨br, orr + i * 10 + 8, none⟩ = some _ from ces 8 (by omega))
    have d9 := E5.cell (show w.cell? ⟨br, orr + i * 10 + 9, none⟩ = some _ from ces 9 (by omega))
    have HEJ := Lib.hid hej
    have hjl : (i : Int) < x.routines.length := by omega
    clear les ces res hej
    have STEP : Hid (¬ Mt cls sel k e → ∀ (j : Nat) f, j < i + 1 → x.routines[j]? = some f → ¬ Mt cls sel k f) := Lib.hid fun h j f hj hf => by
      by_cases h2 : j < i
      · exact hJ.out j f h2 hf
      · obtain rfl : j = i := by omega
        rw [HEJ.out] at hf; injection hf with hf; subst hf; exact h
    have HIT : Hid (Mt cls sel k e → Frst x cls sel k i) := Lib.hid fun h => Or.inr ⟨i, e, rfl, HEJ.out, h, hJ.out⟩
    by_cases z1 : e.owner = k
    rotate_left
    · have HS := Lib.hid (STEP.out fun h => z1 h.1)
      have s1 := int_ne z1
      clear z1 STEP
      go_wp2_with fail
      go_roundw
      case rel => exact ⟨i + 1, by omega, by go_num, E5.alloc _, HS⟩
      case measure => simp [intOf]; omega
    have s1 := int_eq z1
    have Z1 := Lib.hid z1; clear z1
    by_cases z2 : e.cls = cls
    rotate_left
    · have HS := Lib.hid (STEP.out fun h => z2 h.2.1)
      have s2 : (e.cls == cls) = false := by simpa using z2
      clear z2 STEP
      go_wp2_with fail
      go_roundw
      case rel => exact ⟨i + 1, by omega, by go_num, E5.alloc _, HS⟩
      case measure => simp [intOf]; omega
    have s2 : (e.cls == cls) = true := by simpa using z2
    have Z2 := Lib.hid z2; clear z2
    by_cases z3 : e.selector = sel
    rotate_left
    · have HS := Lib.hid (STEP.out fun h => z3 h.2.2)
      have s3 := str_ne z3
      clear z3 STEP
      go_wp2_with fail
      go_roundw
      case rel => exact ⟨i + 1, by omega, by go_num, E5.alloc _, HS⟩
      case measure => simp [intOf]; omega
    have s3 := str_eq z3
    have HM : Hid (Mt cls sel k e) := Lib.hid ⟨Z1.out, Z2.out, z3⟩
    clear z3 STEP
    have HF := Lib.hid (HIT.out HM.out)
    go_wp2_with fail
    go_ret
    exact ⟨⟨_, rfl, HF.out⟩, E5.alloc _⟩

set_option maxHeartbeats 4000000 in
set_option maxRecDepth 100000 in
theorem l12Lookup_any (x : MSystem) (B : Nat) (ac : Option Addr) (cc : Nat) (ar : Option Addr) (cr : Nat) (k : Int) (cls : Bool) (sel : ByteArray) (w : World) (m0 : w.cell? ⟨B, 0, none⟩ = some (.slice ac x.classes.length cc)) (m1 : w.cell? ⟨B, 1, none⟩ = some (.slice ar x.routines.length cr)) (rc : Rep w (MClassInfos x.classes) [.slice ac x.classes.length cc]) (rr : Rep w (MRoutines x.routines) [.slice ar x.routines.length cr]) (hok : ClsOk x.classes) (hk0 : 0 ≤ k) (hk1 : k < x.classes.length) :
    Calls Tryz.prog 56 #[.pointer (some ⟨B, 0, none⟩), .int .i64 k, .bool cls, .string sel] w fun e w' => (∃ v, e = .returned (.int .i64 v) ∧ Fnd x cls sel k v) ∧ Ext w w' := by
  have RC := Lib.hid rc
  have RR := Lib.hid rr
  have HOK := Lib.hid hok
  clear rc rr hok
  obtain ⟨aco, cco, bc, oc, h1, hlc, hmc, pc, hac⟩ := Rep.slmap RC.out
  simp only [List.cons.injEq, and_true, Value.slice.injEq] at h1
  obtain ⟨rfl, -, rfl⟩ := h1
  unfold maxLen at hmc
  have HAC := Lib.hid hac; clear hac
  obtain rfl := pc (by omega)
  go_enter Tryz.func56, Tryz.ntmps56
  go_wp2_with fail
  go_loopw [1] (fun kv wr => ∃ j : Int, -1 ≤ j ∧ j < x.classes.length ∧ kv = .int .i64 j ∧ Ext w wr ∧ Hid (∀ v, Fnd x cls sel j v → Fnd x cls sel k v)) (fun kv _ => (intOf kv + 1).toNat)
  case atStart => exact ⟨k, by omega, by omega, rfl, Ext.refl _, Lib.hid fun v h => h⟩
  case round =>
    obtain ⟨j, hj0, hj1, rfl, X, hR⟩ := hrel
    replace m0 := Ext.cell X m0
    replace m1 := Ext.cell X m1
    by_cases h0 : 0 ≤ j
    rotate_left
    · have t0 : ¬ (0 : Int) ≤ j := h0
      have HN : Hid (Fnd x cls sel k (-1)) := Lib.hid (hR.out _ (.neg (by omega)))
      go_wp2_with fail
      go_ret
      exact ⟨⟨_, rfl, HN.out⟩, X⟩
    obtain ⟨m, rfl⟩ : ∃ m : Nat, j = m := ⟨j.toNat, by omega⟩
    have hm : m < x.classes.length := by omega
    obtain ⟨c, hc⟩ : ∃ c, c = x.classes[m] := ⟨_, rfl⟩
    have hcm : x.classes[m]? = some c := by rw [hc]; simp [hm]
    clear hc
    obtain ⟨es, les, ces, res⟩ := HAC.out m c hcm
    obtain ⟨af, cf, rfl, -⟩ := MClassInfo.op_en res
    have q1 : wr.cell? ⟨bc, oc + m * 3 + 1, none⟩ = some _ := X.cell (show w.cell? _ = _ from ces 1 (by omega))
    have hp := HOK.out.parent hcm
    have HCM := Lib.hid hcm
    clear les ces res hcm
    obtain ⟨nm, par, fs⟩ := c
    simp only at q1 hp HCM
    have hmi : (m : Int) < x.classes.length := by omega
    go_wp2_with fail
    refine (l12Find_any x B ar cr m cls sel _ m1 (Rep.ext X RR.out)).mono ?_
    rintro e w3 ⟨⟨v, rfl, hv⟩, hx3⟩
    replace m0 := Ext.cell hx3 m0
    replace m1 := Ext.cell hx3 m1
    replace q1 := Ext.cell hx3 q1
    have X3 := X.trans hx3
    clear X hx3
    rcases hv with ⟨rfl, hv⟩ | ⟨i, e, rfl, he, hm2, hn2⟩
    · have HN : Hid (∀ v, Fnd x cls sel par v → Fnd x cls sel k v) := Lib.hid fun v h => hR.out v (.up (by omega) hv (by rw [Int.toNat_natCast]; exact HCM.out) h)
      clear hv
      go_wp2_with fail
      go_roundw
      case rel => exact ⟨par, by omega, by omega, rfl, X3, HN⟩
      case measure => simp [intOf]; omega
    · have HF : Hid (Fnd x cls sel k i) := Lib.hid (hR.out _ (.hit (by omega) he hm2 hn2))
      clear he hm2 hn2
      go_wp2_with fail
      go_ret
      exact ⟨⟨_, rfl, HF.out⟩, X3⟩

set_option maxHeartbeats 4000000 in
set_option maxRecDepth 100000 in
theorem impl_FindRoutine_any (x : MSystem) (cx : List Value) (k : Int) (cls : Bool) (sel : ByteArray) (w : World) (rx : Rep w x.d cx) (hz : SysSz x) (hM : MaxOk w) :
    Calls Tryz.prog 15 #[.agg cx.toArray, .int .i64 k, .bool cls, .string sel] w fun e w' => e = .returned (.int .i64 (findR x k cls sel)) ∧ Ext w w' := by
  have RX := Lib.hid rx
  obtain ⟨ac, cc, ar, cr, am, cm, rfl, rc, rr, -, rm⟩ := MSystem.op_en rx
  have RC := Lib.hid rc
  have RR := Lib.hid rr
  clear rx rc rr rm
  cases g0 : prB (SysP x)
  · have HV : Hid ((-1 : Int) = findR x k cls sel) := Lib.hid (findR_ff (Or.inl g0)).symm
    go_enter Tryz.func15, Tryz.ntmps15
    go_upto_region 1 with fail
    generalize hS : World.alloc w _ = W1
    have x1 : Ext w W1 := by rw [← hS]; exact (Ext.refl _).alloc _
    have m0 : W1.cell? ⟨w.heap.size, 0, none⟩ = some (.slice ac x.classes.length cc) := by rw [← hS]; simp
    have m1 : W1.cell? ⟨w.heap.size, 1, none⟩ = some (.slice ar x.routines.length cr) := by rw [← hS]; simp
    have m2 : W1.cell? ⟨w.heap.size, 2, none⟩ = some (.string x.main.selector) := by rw [← hS]; simp
    have m3 : W1.cell? ⟨w.heap.size, 3, none⟩ = some (.int .i64 x.main.owner) := by rw [← hS]; simp
    have m4 : W1.cell? ⟨w.heap.size, 4, none⟩ = some (.bool x.main.cls) := by rw [← hS]; simp
    have m5 : W1.cell? ⟨w.heap.size, 5, none⟩ = some (.int .i64 x.main.params) := by rw [← hS]; simp
    have m6 : W1.cell? ⟨w.heap.size, 6, none⟩ = some (.int .i64 x.main.slots) := by rw [← hS]; simp
    have m7 : W1.cell? ⟨w.heap.size, 7, none⟩ = some (.int .i64 x.main.body.kind) := by rw [← hS]; simp
    have m8 : W1.cell? ⟨w.heap.size, 8, none⟩ = some (.string x.main.body.text) := by rw [← hS]; simp
    have m9 : W1.cell? ⟨w.heap.size, 9, none⟩ = some (.int .i64 x.main.body.number) := by rw [← hS]; simp
    have m10 : W1.cell? ⟨w.heap.size, 10, none⟩ = some (.int .i64 x.main.body.depth) := by rw [← hS]; simp
    have m11 : W1.cell? ⟨w.heap.size, 11, none⟩ = some (.slice am x.main.body.kids.length cm) := by rw [← hS]; simp
    clear hS
    go_wp2_with fail
    refine (impl_IsSystem_any x _ _ (Rep.ext x1 RX.out) hz (hM.ext x1)).mono ?_
    rw [g0]
    rintro e w2 ⟨rfl, hx2⟩
    replace m0 := Ext.cell hx2 m0
    replace m1 := Ext.cell hx2 m1
    replace m2 := Ext.cell hx2 m2
    replace m3 := Ext.cell hx2 m3
    replace m4 := Ext.cell hx2 m4
    replace m5 := Ext.cell hx2 m5
    replace m6 := Ext.cell hx2 m6
    replace m7 := Ext.cell hx2 m7
    replace m8 := Ext.cell hx2 m8
    replace m9 := Ext.cell hx2 m9
    replace m10 := Ext.cell hx2 m10
    replace m11 := Ext.cell hx2 m11
    replace x1 := x1.trans hx2
    clear hx2
    clear g0
    go_wp2_with fail
    go_ret
    exact ⟨retI HV.out, x1⟩
  have hS := prB_iff.1 g0
  have hok : ClsOk x.classes := clsB_iff.1 hS.1
  have hn := hS.2.2.2.1
  have HOK := Lib.hid hok
  have hcl : x.classes.length ≤ 24 := hok.1.2
  clear hS hok
  cases g1 : decide (0 ≤ k ∧ k ≤ (x.classes.length : Int) - 1)
  · have HV : Hid ((-1 : Int) = findR x k cls sel) := Lib.hid (findR_ff (Or.inr g1)).symm
    go_enter Tryz.func15, Tryz.ntmps15
    go_upto_region 1 with fail
    generalize hS : World.alloc w _ = W1
    have x1 : Ext w W1 := by rw [← hS]; exact (Ext.refl _).alloc _
    have m0 : W1.cell? ⟨w.heap.size, 0, none⟩ = some (.slice ac x.classes.length cc) := by rw [← hS]; simp
    have m1 : W1.cell? ⟨w.heap.size, 1, none⟩ = some (.slice ar x.routines.length cr) := by rw [← hS]; simp
    have m2 : W1.cell? ⟨w.heap.size, 2, none⟩ = some (.string x.main.selector) := by rw [← hS]; simp
    have m3 : W1.cell? ⟨w.heap.size, 3, none⟩ = some (.int .i64 x.main.owner) := by rw [← hS]; simp
    have m4 : W1.cell? ⟨w.heap.size, 4, none⟩ = some (.bool x.main.cls) := by rw [← hS]; simp
    have m5 : W1.cell? ⟨w.heap.size, 5, none⟩ = some (.int .i64 x.main.params) := by rw [← hS]; simp
    have m6 : W1.cell? ⟨w.heap.size, 6, none⟩ = some (.int .i64 x.main.slots) := by rw [← hS]; simp
    have m7 : W1.cell? ⟨w.heap.size, 7, none⟩ = some (.int .i64 x.main.body.kind) := by rw [← hS]; simp
    have m8 : W1.cell? ⟨w.heap.size, 8, none⟩ = some (.string x.main.body.text) := by rw [← hS]; simp
    have m9 : W1.cell? ⟨w.heap.size, 9, none⟩ = some (.int .i64 x.main.body.number) := by rw [← hS]; simp
    have m10 : W1.cell? ⟨w.heap.size, 10, none⟩ = some (.int .i64 x.main.body.depth) := by rw [← hS]; simp
    have m11 : W1.cell? ⟨w.heap.size, 11, none⟩ = some (.slice am x.main.body.kids.length cm) := by rw [← hS]; simp
    clear hS
    go_wp2_with fail
    refine (impl_IsSystem_any x _ _ (Rep.ext x1 RX.out) hz (hM.ext x1)).mono ?_
    rw [g0]
    rintro e w2 ⟨rfl, hx2⟩
    replace m0 := Ext.cell hx2 m0
    replace m1 := Ext.cell hx2 m1
    replace m2 := Ext.cell hx2 m2
    replace m3 := Ext.cell hx2 m3
    replace m4 := Ext.cell hx2 m4
    replace m5 := Ext.cell hx2 m5
    replace m6 := Ext.cell hx2 m6
    replace m7 := Ext.cell hx2 m7
    replace m8 := Ext.cell hx2 m8
    replace m9 := Ext.cell hx2 m9
    replace m10 := Ext.cell hx2 m10
    replace m11 := Ext.cell hx2 m11
    replace x1 := x1.trans hx2
    clear hx2
    clear g0
    go_wp2_with fail
    refine (within_any _ _ _ _).mono ?_
    rw [show decide (0 ≤ k ∧ k ≤ (x.classes.length : Int) - 1) = _ from g1]
    rintro e wq ⟨rfl, hq⟩
    subst wq
    clear g1
    go_wp2_with fail
    go_ret
    exact ⟨retI HV.out, x1⟩
  have HV : Hid (∀ v, Fnd x cls sel k v → v = findR x k cls sel) := Lib.hid fun v h => (findR_tt g0 g1 h).symm
  have hk := of_decide_eq_true g1
  go_enter Tryz.func15, Tryz.ntmps15
  go_upto_region 1 with fail
  generalize hS : World.alloc w _ = W1
  have x1 : Ext w W1 := by rw [← hS]; exact (Ext.refl _).alloc _
  have m0 : W1.cell? ⟨w.heap.size, 0, none⟩ = some (.slice ac x.classes.length cc) := by rw [← hS]; simp
  have m1 : W1.cell? ⟨w.heap.size, 1, none⟩ = some (.slice ar x.routines.length cr) := by rw [← hS]; simp
  have m2 : W1.cell? ⟨w.heap.size, 2, none⟩ = some (.string x.main.selector) := by rw [← hS]; simp
  have m3 : W1.cell? ⟨w.heap.size, 3, none⟩ = some (.int .i64 x.main.owner) := by rw [← hS]; simp
  have m4 : W1.cell? ⟨w.heap.size, 4, none⟩ = some (.bool x.main.cls) := by rw [← hS]; simp
  have m5 : W1.cell? ⟨w.heap.size, 5, none⟩ = some (.int .i64 x.main.params) := by rw [← hS]; simp
  have m6 : W1.cell? ⟨w.heap.size, 6, none⟩ = some (.int .i64 x.main.slots) := by rw [← hS]; simp
  have m7 : W1.cell? ⟨w.heap.size, 7, none⟩ = some (.int .i64 x.main.body.kind) := by rw [← hS]; simp
  have m8 : W1.cell? ⟨w.heap.size, 8, none⟩ = some (.string x.main.body.text) := by rw [← hS]; simp
  have m9 : W1.cell? ⟨w.heap.size, 9, none⟩ = some (.int .i64 x.main.body.number) := by rw [← hS]; simp
  have m10 : W1.cell? ⟨w.heap.size, 10, none⟩ = some (.int .i64 x.main.body.depth) := by rw [← hS]; simp
  have m11 : W1.cell? ⟨w.heap.size, 11, none⟩ = some (.slice am x.main.body.kids.length cm) := by rw [← hS]; simp
  clear hS
  go_wp2_with fail
  refine (impl_IsSystem_any x _ _ (Rep.ext x1 RX.out) hz (hM.ext x1)).mono ?_
  rw [g0]
  rintro e w2 ⟨rfl, hx2⟩
  replace m0 := Ext.cell hx2 m0
  replace m1 := Ext.cell hx2 m1
  replace m2 := Ext.cell hx2 m2
  replace m3 := Ext.cell hx2 m3
  replace m4 := Ext.cell hx2 m4
  replace m5 := Ext.cell hx2 m5
  replace m6 := Ext.cell hx2 m6
  replace m7 := Ext.cell hx2 m7
  replace m8 := Ext.cell hx2 m8
  replace m9 := Ext.cell hx2 m9
  replace m10 := Ext.cell hx2 m10
  replace m11 := Ext.cell hx2 m11
  replace x1 := x1.trans hx2
  clear hx2
  clear g0
  go_wp2_with fail
  refine (within_any _ _ _ _).mono ?_
  rw [show decide (0 ≤ k ∧ k ≤ (x.classes.length : Int) - 1) = _ from g1]
  rintro e wq ⟨rfl, hq⟩
  subst wq
  clear g1
  go_wp2_with fail
  refine (findRoutine_any x _ k cls sel _ (Rep.ext x1 RX.out) HOK.out hn (by omega) (by omega)).mono ?_
  rintro e w4 ⟨⟨v, rfl, hv⟩, hx4⟩
  have HF := Lib.hid (HV.out v hv)
  clear hv
  go_wp2_with fail
  go_ret
  exact ⟨retI HF.out, x1.trans hx4⟩

set_option maxHeartbeats 4000000 in
set_option maxRecDepth 100000 in
theorem spec_FindRoutine_any (x : MSystem) (cx : List Value) (k : Int) (cls : Bool) (sel : ByteArray) (w : World) (rx : Rep w x.d cx) (hz : SysSz x) :
    Calls Tryz.prog 14 #[.agg cx.toArray, .int .i64 k, .bool cls, .string sel] w fun e w' => e = .returned (.int .i64 (findR x k cls sel)) ∧ Ext w w' := by
  have RX := Lib.hid rx
  obtain ⟨ac, cc, ar, cr, am, cm, rfl, rc, rr, -, rm⟩ := MSystem.op_en rx
  have RC := Lib.hid rc
  have RR := Lib.hid rr
  clear rx rc rr rm
  cases g0 : prB (SysP x)
  · have HV : Hid ((-1 : Int) = findR x k cls sel) := Lib.hid (findR_ff (Or.inl g0)).symm
    go_enter Tryz.func14, Tryz.ntmps14
    go_upto_region 1 with fail
    generalize hS : World.alloc w _ = W1
    have x1 : Ext w W1 := by rw [← hS]; exact (Ext.refl _).alloc _
    have m0 : W1.cell? ⟨w.heap.size, 0, none⟩ = some (.slice ac x.classes.length cc) := by rw [← hS]; simp
    have m1 : W1.cell? ⟨w.heap.size, 1, none⟩ = some (.slice ar x.routines.length cr) := by rw [← hS]; simp
    have m2 : W1.cell? ⟨w.heap.size, 2, none⟩ = some (.string x.main.selector) := by rw [← hS]; simp
    have m3 : W1.cell? ⟨w.heap.size, 3, none⟩ = some (.int .i64 x.main.owner) := by rw [← hS]; simp
    have m4 : W1.cell? ⟨w.heap.size, 4, none⟩ = some (.bool x.main.cls) := by rw [← hS]; simp
    have m5 : W1.cell? ⟨w.heap.size, 5, none⟩ = some (.int .i64 x.main.params) := by rw [← hS]; simp
    have m6 : W1.cell? ⟨w.heap.size, 6, none⟩ = some (.int .i64 x.main.slots) := by rw [← hS]; simp
    have m7 : W1.cell? ⟨w.heap.size, 7, none⟩ = some (.int .i64 x.main.body.kind) := by rw [← hS]; simp
    have m8 : W1.cell? ⟨w.heap.size, 8, none⟩ = some (.string x.main.body.text) := by rw [← hS]; simp
    have m9 : W1.cell? ⟨w.heap.size, 9, none⟩ = some (.int .i64 x.main.body.number) := by rw [← hS]; simp
    have m10 : W1.cell? ⟨w.heap.size, 10, none⟩ = some (.int .i64 x.main.body.depth) := by rw [← hS]; simp
    have m11 : W1.cell? ⟨w.heap.size, 11, none⟩ = some (.slice am x.main.body.kids.length cm) := by rw [← hS]; simp
    clear hS
    go_wp2_with fail
    refine (spec_IsSystem_any x _ _ (Rep.ext x1 RX.out) hz).mono ?_
    rw [g0]
    rintro e w2 ⟨rfl, hx2⟩
    replace m0 := Ext.cell hx2 m0
    replace m1 := Ext.cell hx2 m1
    replace m2 := Ext.cell hx2 m2
    replace m3 := Ext.cell hx2 m3
    replace m4 := Ext.cell hx2 m4
    replace m5 := Ext.cell hx2 m5
    replace m6 := Ext.cell hx2 m6
    replace m7 := Ext.cell hx2 m7
    replace m8 := Ext.cell hx2 m8
    replace m9 := Ext.cell hx2 m9
    replace m10 := Ext.cell hx2 m10
    replace m11 := Ext.cell hx2 m11
    replace x1 := x1.trans hx2
    clear hx2
    clear g0
    go_wp2_with fail
    go_ret
    exact ⟨retI HV.out, x1⟩
  have hS := prB_iff.1 g0
  have hok : ClsOk x.classes := clsB_iff.1 hS.1
  have hn := hS.2.2.2.1
  have HOK := Lib.hid hok
  have hcl : x.classes.length ≤ 24 := hok.1.2
  clear hS hok
  cases g1 : decide (0 ≤ k ∧ k ≤ (x.classes.length : Int) - 1)
  · have HV : Hid ((-1 : Int) = findR x k cls sel) := Lib.hid (findR_ff (Or.inr g1)).symm
    go_enter Tryz.func14, Tryz.ntmps14
    go_upto_region 1 with fail
    generalize hS : World.alloc w _ = W1
    have x1 : Ext w W1 := by rw [← hS]; exact (Ext.refl _).alloc _
    have m0 : W1.cell? ⟨w.heap.size, 0, none⟩ = some (.slice ac x.classes.length cc) := by rw [← hS]; simp
    have m1 : W1.cell? ⟨w.heap.size, 1, none⟩ = some (.slice ar x.routines.length cr) := by rw [← hS]; simp
    have m2 : W1.cell? ⟨w.heap.size, 2, none⟩ = some (.string x.main.selector) := by rw [← hS]; simp
    have m3 : W1.cell? ⟨w.heap.size, 3, none⟩ = some (.int .i64 x.main.owner) := by rw [← hS]; simp
    have m4 : W1.cell? ⟨w.heap.size, 4, none⟩ = some (.bool x.main.cls) := by rw [← hS]; simp
    have m5 : W1.cell? ⟨w.heap.size, 5, none⟩ = some (.int .i64 x.main.params) := by rw [← hS]; simp
    have m6 : W1.cell? ⟨w.heap.size, 6, none⟩ = some (.int .i64 x.main.slots) := by rw [← hS]; simp
    have m7 : W1.cell? ⟨w.heap.size, 7, none⟩ = some (.int .i64 x.main.body.kind) := by rw [← hS]; simp
    have m8 : W1.cell? ⟨w.heap.size, 8, none⟩ = some (.string x.main.body.text) := by rw [← hS]; simp
    have m9 : W1.cell? ⟨w.heap.size, 9, none⟩ = some (.int .i64 x.main.body.number) := by rw [← hS]; simp
    have m10 : W1.cell? ⟨w.heap.size, 10, none⟩ = some (.int .i64 x.main.body.depth) := by rw [← hS]; simp
    have m11 : W1.cell? ⟨w.heap.size, 11, none⟩ = some (.slice am x.main.body.kids.length cm) := by rw [← hS]; simp
    clear hS
    go_wp2_with fail
    refine (spec_IsSystem_any x _ _ (Rep.ext x1 RX.out) hz).mono ?_
    rw [g0]
    rintro e w2 ⟨rfl, hx2⟩
    replace m0 := Ext.cell hx2 m0
    replace m1 := Ext.cell hx2 m1
    replace m2 := Ext.cell hx2 m2
    replace m3 := Ext.cell hx2 m3
    replace m4 := Ext.cell hx2 m4
    replace m5 := Ext.cell hx2 m5
    replace m6 := Ext.cell hx2 m6
    replace m7 := Ext.cell hx2 m7
    replace m8 := Ext.cell hx2 m8
    replace m9 := Ext.cell hx2 m9
    replace m10 := Ext.cell hx2 m10
    replace m11 := Ext.cell hx2 m11
    replace x1 := x1.trans hx2
    clear hx2
    clear g0
    go_wp2_with fail
    refine (l1In_any _ _ _ _).mono ?_
    rw [show decide (0 ≤ k ∧ k ≤ (x.classes.length : Int) - 1) = _ from g1]
    rintro e wq ⟨rfl, hq⟩
    subst wq
    clear g1
    go_wp2_with fail
    go_ret
    exact ⟨retI HV.out, x1⟩
  have HV : Hid (∀ v, Fnd x cls sel k v → v = findR x k cls sel) := Lib.hid fun v h => (findR_tt g0 g1 h).symm
  have hk := of_decide_eq_true g1
  go_enter Tryz.func14, Tryz.ntmps14
  go_upto_region 1 with fail
  generalize hS : World.alloc w _ = W1
  have x1 : Ext w W1 := by rw [← hS]; exact (Ext.refl _).alloc _
  have m0 : W1.cell? ⟨w.heap.size, 0, none⟩ = some (.slice ac x.classes.length cc) := by rw [← hS]; simp
  have m1 : W1.cell? ⟨w.heap.size, 1, none⟩ = some (.slice ar x.routines.length cr) := by rw [← hS]; simp
  have m2 : W1.cell? ⟨w.heap.size, 2, none⟩ = some (.string x.main.selector) := by rw [← hS]; simp
  have m3 : W1.cell? ⟨w.heap.size, 3, none⟩ = some (.int .i64 x.main.owner) := by rw [← hS]; simp
  have m4 : W1.cell? ⟨w.heap.size, 4, none⟩ = some (.bool x.main.cls) := by rw [← hS]; simp
  have m5 : W1.cell? ⟨w.heap.size, 5, none⟩ = some (.int .i64 x.main.params) := by rw [← hS]; simp
  have m6 : W1.cell? ⟨w.heap.size, 6, none⟩ = some (.int .i64 x.main.slots) := by rw [← hS]; simp
  have m7 : W1.cell? ⟨w.heap.size, 7, none⟩ = some (.int .i64 x.main.body.kind) := by rw [← hS]; simp
  have m8 : W1.cell? ⟨w.heap.size, 8, none⟩ = some (.string x.main.body.text) := by rw [← hS]; simp
  have m9 : W1.cell? ⟨w.heap.size, 9, none⟩ = some (.int .i64 x.main.body.number) := by rw [← hS]; simp
  have m10 : W1.cell? ⟨w.heap.size, 10, none⟩ = some (.int .i64 x.main.body.depth) := by rw [← hS]; simp
  have m11 : W1.cell? ⟨w.heap.size, 11, none⟩ = some (.slice am x.main.body.kids.length cm) := by rw [← hS]; simp
  clear hS
  go_wp2_with fail
  refine (spec_IsSystem_any x _ _ (Rep.ext x1 RX.out) hz).mono ?_
  rw [g0]
  rintro e w2 ⟨rfl, hx2⟩
  replace m0 := Ext.cell hx2 m0
  replace m1 := Ext.cell hx2 m1
  replace m2 := Ext.cell hx2 m2
  replace m3 := Ext.cell hx2 m3
  replace m4 := Ext.cell hx2 m4
  replace m5 := Ext.cell hx2 m5
  replace m6 := Ext.cell hx2 m6
  replace m7 := Ext.cell hx2 m7
  replace m8 := Ext.cell hx2 m8
  replace m9 := Ext.cell hx2 m9
  replace m10 := Ext.cell hx2 m10
  replace m11 := Ext.cell hx2 m11
  replace x1 := x1.trans hx2
  clear hx2
  clear g0
  go_wp2_with fail
  refine (l1In_any _ _ _ _).mono ?_
  rw [show decide (0 ≤ k ∧ k ≤ (x.classes.length : Int) - 1) = _ from g1]
  rintro e wq ⟨rfl, hq⟩
  subst wq
  clear g1
  go_wp2_with fail
  refine (l12Lookup_any x _ ac cc ar cr k cls sel _ m0 m1 (Rep.ext x1 RC.out) (Rep.ext x1 RR.out) HOK.out (by omega) (by omega)).mono ?_
  rintro e w4 ⟨⟨v, rfl, hv⟩, hx4⟩
  have HF := Lib.hid (HV.out v hv)
  clear hv
  go_wp2_with fail
  go_ret
  exact ⟨retI HF.out, x1.trans hx4⟩

end Go.Proofs.YtdngmifgglbbpaaGreatDoor
