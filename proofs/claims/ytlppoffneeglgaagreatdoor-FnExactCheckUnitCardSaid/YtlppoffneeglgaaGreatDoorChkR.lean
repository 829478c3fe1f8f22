/-
  CONTRACTS: classes, fields and names of a unit, of the reference.
  Conditions: those that each lemma states.
-/
import Derived.Test.YtlppoffneeglgaaGreatDoorRows
import Derived.Test.YtlppoffneeglgaaGreatDoorChkQ
import Derived.Test.YtlppoffneeglgaaGreatDoorChkS
import Derived.Deep.RegionHeld3
import Derived.Deep.DeepCutAuto
import Derived.Deep.CutBlock
import Derived.BigQuiet
namespace Go.Proofs.YtlppoffneeglgaaGreatDoor
open Go.RowKit
set_option linter.unusedSimpArgs false
set_option linter.unusedVariables false

theorem wrap64_id (n : Int) (h : -9223372036854775808 ≤ n ∧ n ≤ 9223372036854775807) : wrap64 n = n := by unfold wrap64; omega

set_option maxHeartbeats 2000000 in
set_option maxRecDepth 100000 in
theorem l7Index_any (l : List ByteArray) (s : ByteArray) (va : Value) (w : World) (ra : Rep w (strs l) [va]) :
    Calls Tryz.prog 59 #[va, .string s] w fun e w' => e = .returned (.int .i64 (Lib.idxOfS l s)) ∧ w' = w := by
  obtain ⟨ao, ca, ba, oa, h1, hla, hma, pa, ha⟩ := ra.strs
  simp only [List.cons.injEq, and_true] at h1
  subst h1
  clear ra
  unfold maxLen at hma
  go_enter Tryz.func59, Tryz.ntmps59
  go_wp2_with fail
  go_loop [5] (fun i => ∃ k : Nat, k ≤ l.length ∧ i = .int .i64 k ∧ Hid (∀ j, j < k → l.getD j ByteArray.empty ≠ s)) (fun i => l.length - (intOf i).toNat)
  case atStart => exact ⟨0, Nat.zero_le _, rfl, Lib.hid fun j hj => by omega⟩
  case round =>
    obtain ⟨k, hk, rfl, hR⟩ := hrel
    by_cases hlt : k < l.length
    · obtain rfl := pa (by omega)
      have a0 := ha k l[k] (by simp [hlt])
      clear ha pa
      by_cases hs : l[k] = s
      · have ht := str_eq hs
        have HV : Hid (Lib.idxOfS l s = k) := Lib.hid (by
          have := Lib.idxOfS_hit l l.length k s hlt (Nat.le_refl _) (by simp [List.getD, hlt, hs]) hR.out
          rwa [List.take_length] at this)
        clear hs
        go_wp2_with fail
        go_ret
        exact ⟨by rw [HV.out]; rfl, rfl⟩
      · have ht := str_ne hs
        have HS := Lib.hid hs; clear hs
        go_wp2_with fail
        go_round
        case rel => exact ⟨k + 1, by omega, by go_num, Lib.hid fun j hj => by
          by_cases h : j < k
          · exact hR.out j h
          · obtain rfl : j = k := by omega
            simpa [List.getD, hlt] using HS.out⟩
        case measure => simp [intOf]; omega
    · have HV : Hid (Lib.idxOfS l s = -1) := Lib.hid (by
        have := Lib.idxOfS_miss l l.length s (fun j hj => hR.out j (by omega))
        rwa [List.take_length] at this)
      go_wp2_with fail
      go_ret
      exact ⟨by rw [HV.out]; rfl, rfl⟩

set_option maxHeartbeats 2000000 in
set_option maxRecDepth 100000 in
theorem l7Class_any (l : List MClassDef) (hl : l.length ≤ 8) (n : ByteArray) (B : Nat) (a : Option Addr) (c : Nat) (w : World) (b0 : w.cell? ⟨B, 0, none⟩ = some (.slice a l.length c)) (rl : Rep w (MClassDefs l) [.slice a l.length c]) :
    Calls Tryz.prog 30 #[.pointer (some ⟨B, 0, none⟩), .string n] w fun e w' => e = .returned (.int .i64 (clsIx l n)) ∧ Ext w w' := by
  obtain ⟨ao, ca, ba, oa, h1, hla, hma, pa, ha⟩ := Rep.slmap rl
  simp only [List.cons.injEq, and_true, Value.slice.injEq] at h1
  obtain ⟨rfl, -, rfl⟩ := h1
  unfold maxLen at hma
  have HA := Lib.hid ha
  have zB := lt_of_cell b0
  clear rl ha
  obtain ⟨kb, hkb⟩ : ∃ kb, Lib.idxOfS builtinsL n = kb := ⟨_, rfl⟩
  have HK0 : Hid (0 ≤ kb → clsIx l n = kb) := Lib.hid fun h => by unfold clsIx; rw [hkb, if_pos h]
  have HK1 : Hid (kb < 0 → ∀ i, i < l.length → Lib.idxOfS (namesC l) n = (i : Int) → clsIx l n = 16 + (i : Int)) := Lib.hid fun h i hi he => by unfold clsIx; rw [hkb, if_neg (by omega), he, if_pos (by omega)]
  have HK2 : Hid (kb < 0 → Lib.idxOfS (namesC l) n < 0 → clsIx l n = -1) := Lib.hid fun h he => by unfold clsIx; rw [hkb, if_neg (by omega), if_neg (by omega)]
  have HKB : Hid (kb < 0 → kb = -1) := Lib.hid fun h => by
    rw [← hkb]
    have := Lib.idxOfS_miss builtinsL builtinsL.length n (fun j hj he => by
      have : n ∈ builtinsL := by
        rw [← he, List.getD_eq_getElem?_getD, List.getElem?_eq_getElem hj]; exact List.getElem_mem hj
      have := (Lib.idxOfS_nonneg_iff builtinsL n).2 this
      omega)
    rwa [List.take_length] at this
  go_enter Tryz.func30, Tryz.ntmps30
  go_wp2_with fail
  refine (spec_BuiltinClasses_any w).mono ?_
  rintro e w1 ⟨a1, n1, c1, f1, rfl, hr1, hf1, hx1⟩
  have hr1' := hr1.rep
  clear hr1 hf1
  go_wp2_with fail
  refine (l7Index_any builtinsL n _ w1 hr1').mono ?_
  rw [hkb]
  rintro e wq ⟨rfl, hq⟩
  subst wq
  clear hkb hr1'
  replace b0 := hx1.cell b0
  replace zB := lt_of_cell b0
  go_wp2_with fail
  go_loop [5, 6] (fun kv iv => ∃ (k : Int) (i : Nat), kv = .int .i64 k ∧ iv = .int .i64 i ∧ i ≤ l.length ∧ ((0 ≤ k ∧ Hid (k = clsIx l n)) ∨ (k = -1 ∧ Hid (kb < 0 ∧ ∀ j, j < i → (namesC l).getD j ByteArray.empty ≠ n)))) (fun kv iv => (l.length - (intOf iv).toNat) + (if intOf kv < 0 then 1 else 0))
  case atStart => exact ⟨kb, 0, rfl, rfl, Nat.zero_le _, by
    by_cases h : 0 ≤ kb
    · exact Or.inl ⟨h, Lib.hid (HK0.out h).symm⟩
    · exact Or.inr ⟨HKB.out (by omega), Lib.hid ⟨by omega, fun j hj => by omega⟩⟩⟩
  case round =>
    obtain ⟨k, i, rfl, rfl, hi, hR⟩ := hrel
    rcases hR with ⟨hk, hR⟩ | ⟨rfl, hR⟩
    · have hk' : ¬ k < 0 := by omega
      by_cases hlt : i < l.length
      · have hil : (i : Int) < l.length := by omega
        go_wp2_with fail
        go_ret
        exact ⟨by rw [← hR.out]; rfl, hx1⟩
      · have hil : ¬ (i : Int) < l.length := by omega
        go_wp2_with fail
        go_ret
        exact ⟨by rw [← hR.out]; rfl, hx1⟩
    · by_cases hlt : i < l.length
      · obtain rfl := pa (by omega)
        obtain ⟨d, hd⟩ : ∃ d, l[i]? = some d := ⟨_, List.getElem?_eq_getElem hlt⟩
        obtain ⟨es, les, ces, res⟩ := HA.out i d hd
        obtain ⟨a2, c2, a3, c3, rfl, -, -⟩ := MClassDef.op_en res
        have q0 : w1.cell? ⟨ba, oa + i * 4, none⟩ = some (.string d.name) := hx1.cell (ces 0 (by omega))
        have HD : Hid ((namesC l).getD i ByteArray.empty = d.name) := Lib.hid (by unfold namesC; rw [List.getD_eq_getElem?_getD, List.getElem?_map, hd]; rfl)
        have hil : (i : Int) < l.length := by omega
        clear les ces res hd
        by_cases hs : d.name = n
        · have ht := str_eq hs
          have HV : Hid (clsIx l n = 16 + (i : Int)) := Lib.hid (HK1.out hR.out.1 i hlt (by
            have := Lib.idxOfS_hit (namesC l) (namesC l).length i n (by simpa [namesC] using hlt) (Nat.le_refl _) (by rw [HD.out, hs]) hR.out.2
            rwa [List.take_length] at this))
          clear hs
          go_wp2_with fail
          go_round
          case rel => exact ⟨16 + (i : Int), i + 1, by first | rfl | rw [wrap64_id _ ⟨by omega, by omega⟩], by go_num, by omega, Or.inl ⟨by omega, Lib.hid HV.out.symm⟩⟩
          case measure =>
            have hw : wrap64 (16 + (i : Int)) = 16 + (i : Int) := wrap64_id _ ⟨by omega, by omega⟩
            have h2 : ¬ (16 + (i : Int)) < 0 := by omega
            simp [intOf, hw, h2]; omega
        · have ht := str_ne hs
          have HS := Lib.hid hs; clear hs
          go_wp2_with fail
          go_round
          case rel => exact ⟨-1, i + 1, rfl, by go_num, by omega, Or.inr ⟨rfl, Lib.hid ⟨hR.out.1, fun j hj => by
            by_cases h : j < i
            · exact hR.out.2 j h
            · obtain rfl : j = i := by omega
              rw [HD.out]; exact HS.out⟩⟩⟩
          case measure => simp [intOf]; omega
      · have hil : ¬ (i : Int) < l.length := by omega
        have HV : Hid (clsIx l n = -1) := Lib.hid (HK2.out hR.out.1 (by
          have := Lib.idxOfS_miss (namesC l) (namesC l).length n (fun j hj => hR.out.2 j (by simp [namesC] at hj; omega))
          rw [List.take_length] at this; omega))
        go_wp2_with fail
        go_ret
        exact ⟨by rw [HV.out]; rfl, hx1⟩

theorem Acc.base {B0 B1 : Nat} {w : World} {e : TypeId} {size : Nat} {v : Value} {ds : List D} (h : Acc B1 w e size v ds []) (hB : B0 ≤ B1) : Acc B0 w e size v ds [] := by
  obtain ⟨xs, ⟨k1, k2⟩, h2, h3, h4⟩ := h
  refine ⟨xs, ⟨k1, ?_⟩, h2, Fresh.nil _ _, h4⟩
  rcases k2 with k2 | ⟨g, cap, cur, hv, hg, r⟩
  · exact Or.inl k2
  · exact Or.inr ⟨g, cap, cur, hv, Nat.le_trans hB hg, r⟩
theorem AccT.one (w : World) (x : ByteArray) : AccT w.heap.size (w.alloc (.cells #[.string x] 9)) (.slice (some ⟨w.heap.size, 0, none⟩) 1 1) [x] :=
  ⟨[.string x], ⟨by simp, Or.inr ⟨w.heap.size, 1, #[.string x], rfl, Nat.le_refl _, heap_alloc_new w _, by simp, by unfold maxLen; simp, by simp, by simp⟩⟩, repR_strs w [x], Fresh.nil _ _, fun k _ => by simp⟩
set_option maxHeartbeats 2000000 in
set_option maxRecDepth 100000 in
theorem l7Fields_base (l : List MClassDef) (u : Value) (k : Int) (w : World) (h0 : 0 ≤ k) (h1 : k < 16) : Calls Tryz.prog 32 #[u, .int .i64 k] w fun e w' => ∃ v, e = .returned v ∧ AccT w.heap.size w' v (flds l k) ∧ Ext w w' := by
  have T : ∀ W : World, AccT W.heap.size (W.alloc (.cells #[.string ⟨#[116, 101, 120, 116]⟩] 9)) (.slice (some ⟨W.heap.size, 0, none⟩) 1 1) [textN] := fun W => AccT.one W textN
  have HT := Lib.hid T; clear T
  by_cases hx : k = 1 ∨ k = 2 ∨ k = 3 ∨ k = 4
  · have HV : Hid (flds l k = [textN]) := Lib.hid (by unfold flds; rw [if_pos hx])
    rcases hx with rfl | rfl | rfl | rfl
    · go_enter Tryz.func32, Tryz.ntmps32
      go_wp2_with fail
      go_ret
      exact ⟨_, rfl, by rw [HV.out]; exact HT.out w, (Ext.refl w).alloc _⟩
    · go_enter Tryz.func32, Tryz.ntmps32
      go_wp2_with fail
      go_ret
      exact ⟨_, rfl, by rw [HV.out]; exact HT.out w, (Ext.refl w).alloc _⟩
    · go_enter Tryz.func32, Tryz.ntmps32
      go_wp2_with fail
      go_ret
      exact ⟨_, rfl, by rw [HV.out]; exact HT.out w, (Ext.refl w).alloc _⟩
    · go_enter Tryz.func32, Tryz.ntmps32
      go_wp2_with fail
      go_ret
      exact ⟨_, rfl, by rw [HV.out]; exact HT.out w, (Ext.refl w).alloc _⟩
  have HV : Hid (flds l k = []) := Lib.hid (by unfold flds; rw [if_neg hx, if_pos h1])
  have t1 := int_ne (a := k) (b := 1) (fun e => hx (by omega))
  have t2 := int_ne (a := k) (b := 2) (fun e => hx (by omega))
  have t3 := int_ne (a := k) (b := 3) (fun e => hx (by omega))
  have t4 := int_ne (a := k) (b := 4) (fun e => hx (by omega))
  clear hx
  go_enter Tryz.func32, Tryz.ntmps32
  go_wp2_with fail
  go_ret
  exact ⟨_, rfl, by rw [HV.out]; exact Acc.empty _ _ (Nat.le_refl _), (Ext.refl w).alloc _⟩

theorem fold_len : ∀ (l : List MClassDef) (fm : FMap) (n : Nat), (∀ s, (fm s).length ≤ n) → (∀ d, d ∈ l → d.fields.length ≤ 4) → ∀ s, (l.foldl clsF fm s).length ≤ n + 4 * l.length
  | [], fm, n, h, _ => fun s => by simpa using h s
  | d :: l, fm, n, h, hz => fun s => by
    have := fold_len l (clsF fm d) (n + 4) (fun t => by
      unfold clsF putF
      split
      · have := h d.parent; have := hz d List.mem_cons_self; rw [List.length_append]; omega
      · have := h t; omega) (fun e he => hz e (List.mem_cons_of_mem _ he)) s
    rw [List.foldl_cons, List.length_cons]; omega
theorem fmAll_len {l : List MClassDef} (hz : ∀ d, d ∈ l → d.fields.length ≤ 4) (hl : l.length ≤ 8) (s : ByteArray) : (fmAll l s).length ≤ 33 := by
  have := fold_len l baseF 1 (fun t => by unfold baseF; split <;> simp) hz s
  unfold fmAll; omega
theorem flds_len {l : List MClassDef} (hz : ∀ d, d ∈ l → d.fields.length ≤ 4) (hl : l.length ≤ 8) (k : Int) : (flds l k).length ≤ 4194304 := by
  unfold flds
  split
  · simp
  · split
    · simp
    · split
      · have := fmAll_len hz hl (‹MClassDef›).name; omega
      · simp

set_option maxHeartbeats 2000000 in
set_option maxRecDepth 100000 in
theorem l7Fields_at (l : List MClassDef) (hc : Clean l) (hz : ∀ d, d ∈ l → d.fields.length ≤ 4) (hl : l.length ≤ 8) (B : Nat) (a : Option Addr) (c : Nat) : ∀ (m : Nat) (k : Int) (w : World), m ≤ l.length → 0 ≤ k → k < 16 + (m : Int) → w.cell? ⟨B, 0, none⟩ = some (.slice a l.length c) → Rep w (MClassDefs l) [.slice a l.length c] →
    Calls Tryz.prog 32 #[.pointer (some ⟨B, 0, none⟩), .int .i64 k] w fun e w' => ∃ v, e = .returned v ∧ AccT w.heap.size w' v (flds l k) ∧ Ext w w' := by
  intro m
  induction m with
  | zero => intro k w hm h0 h1 b0 rl; exact l7Fields_base l _ k w h0 (by omega)
  | succ m ih =>
    intro k w hm h0 h1 b0 rl
    by_cases hk : k < 16 + (m : Int)
    · exact ih k w (by omega) h0 hk b0 rl
    have hk16 : k - 16 = (m : Int) := by omega
    have hlow : ¬ k < 16 := by omega
    have t1 := int_ne (a := k) (b := 1) (by omega)
    have t2 := int_ne (a := k) (b := 2) (by omega)
    have t3 := int_ne (a := k) (b := 3) (by omega)
    have t4 := int_ne (a := k) (b := 4) (by omega)
    have RL := Lib.hid rl
    obtain ⟨ao, ca, ba, oa, h1', hla, hma, pa, ha⟩ := Rep.slmap rl
    simp only [List.cons.injEq, and_true, Value.slice.injEq] at h1'
    obtain ⟨rfl, -, rfl⟩ := h1'
    unfold maxLen at hma
    obtain rfl := pa (by omega)
    obtain ⟨d, hd⟩ : ∃ d, l[m]? = some d := ⟨_, List.getElem?_eq_getElem (by omega)⟩
    obtain ⟨es, les, ces, res⟩ := ha m d hd
    obtain ⟨a2, c2, a3, c3, rfl, rf, -⟩ := MClassDef.op_en res
    have q0 : w.cell? ⟨ba, oa + m * 4, none⟩ = some (.string d.name) := ces 0 (by omega)
    have q1 : w.cell? ⟨ba, oa + m * 4 + 1, none⟩ = some (.string d.parent) := ces 1 (by omega)
    have q2 : w.cell? ⟨ba, oa + m * 4 + 2, none⟩ = some (.slice a2 d.fields.length c2) := ces 2 (by omega)
    have q3 : w.cell? ⟨ba, oa + m * 4 + 3, none⟩ = some (.slice a3 d.methods.length c3) := ces 3 (by omega)
    obtain ⟨hfl, hp0, hp1⟩ := flds_class hc hd
    have HFL : Hid (flds l k = flds l (clsIx l d.parent) ++ d.fields) := Lib.hid (by rw [show k = 16 + (m : Int) by omega]; exact hfl)
    have HLN : Hid (∀ v W, AccT W.heap.size W v (flds l (clsIx l d.parent)) → True) := Lib.hid fun _ _ _ => trivial
    have hdz := hz d (List.mem_of_getElem? hd)
    have RF := Lib.hid rf
    have zB := lt_of_cell b0
    have hml : (m : Int) < l.length := by omega
    have IH : Hid (∀ W, Ext w W → Calls Tryz.prog 32 #[.pointer (some ⟨B, 0, none⟩), .int .i64 (clsIx l d.parent)] W fun e w' => ∃ v, e = .returned v ∧ AccT W.heap.size w' v (flds l (clsIx l d.parent)) ∧ Ext W w') := Lib.hid fun W hW => ih _ W (by omega) hp0 hp1 (hW.cell b0) (Rep.ext hW RL.out)
    have CC : Hid (∀ W, Ext w W → Calls Tryz.prog 30 #[.pointer (some ⟨B, 0, none⟩), .string d.parent] W fun e w' => e = .returned (.int .i64 (clsIx l d.parent)) ∧ Ext W w') := Lib.hid fun W hW => l7Class_any l hl d.parent B _ _ W (hW.cell b0) (Rep.ext hW RL.out)
    have HLF : Hid ((flds l (clsIx l d.parent)).length ≤ 4194304) := Lib.hid (flds_len hz hl _)
    clear ha ces les res rf rl hfl hp0 hp1 ih hd
    go_enter Tryz.func32, Tryz.ntmps32
    go_upto_region 6 with fail
    generalize hS : World.alloc w _ = W1
    have x1 : Ext w W1 := by rw [← hS]; exact (Ext.refl _).alloc _
    have p1 : W1.cell? ⟨w.heap.size, 1, none⟩ = some (.string d.parent) := by rw [← hS]; simp
    have p2 : W1.cell? ⟨w.heap.size, 2, none⟩ = some (.slice a2 d.fields.length c2) := by rw [← hS]; simp
    clear hS q0 q1 q2 q3
    have KS : Hid (∀ w'', Ext W1 w'' → w''.cell? ⟨w.heap.size, 1, none⟩ = some (.string d.parent) ∧ w''.cell? ⟨w.heap.size, 2, none⟩ = some (.slice a2 d.fields.length c2) ∧ Ext W1 w'') := Lib.hid fun w'' h => ⟨h.cell p1, h.cell p2, h⟩
    generalize clsIx l d.parent = kp at *
    generalize flds l kp = FP at *
    have hfp := HLF.out
    go_region_held3 (fun w'' => w''.cell? ⟨w.heap.size, 1, none⟩ = some (.string d.parent) ∧ w''.cell? ⟨w.heap.size, 2, none⟩ = some (.slice a2 d.fields.length c2) ∧ Ext W1 w'')
      (first | exact KS.out _ hx4 | exact KS.out _ (((Ext.drew (Ext.refl _)).trans hx2).trans hx3) | exact KS.out _ ((Ext.drew (Ext.refl _)).trans hx2) | exact KS.out _ (Ext.drew (Ext.refl _)))
      (first
        | (go_at_call 30; refine (CC.out _ (x1.trans (Ext.drew (Ext.refl _)))).mono ?_; rintro e w2 ⟨rfl, hx2⟩)
        | (go_at_call 32; refine (IH.out _ (x1.trans ((Ext.drew (Ext.refl _)).trans hx2))).mono ?_; rintro e w3 ⟨v3, rfl, ac3, hx3⟩; have hb3 : w2.heap.size ≤ w3.heap.size := hx3.size)
        | (refine step_append_strs rfl _ _ rfl w2.heap.size v3 FP rfl ac3 d.fields _ _ _ rfl (Rep.ext (x1.trans (((Ext.drew (Ext.refl _)).trans hx2).trans hx3)) RF.out) (by omega) hb3 ?_; intro a4 c4 w4 ac4 hg4; have hx4 : Ext W1 w4 := ((Ext.drew (Ext.refl _)).trans hx2).trans (AccT.below ac3 hx3 hg4 hb3)))
    go_wp2_with fail
    go_ret
    exact ⟨_, rfl, by rw [HFL.out]; exact Acc.base ac4 (Nat.le_trans x1.size ((Ext.drew (Ext.refl _)).trans hx2).size), x1.trans hx4⟩

end Go.Proofs.YtlppoffneeglgaaGreatDoor
