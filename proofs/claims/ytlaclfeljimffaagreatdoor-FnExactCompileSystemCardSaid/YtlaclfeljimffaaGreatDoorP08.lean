/-
  THE LAWS' EQUALITIES.
  Conditions: those that each lemma states.
-/
import Derived.Test.YtlaclfeljimffaaGreatDoorRows
import Derived.Test.YtlaclfeljimffaaGreatDoorP02
namespace Go.Proofs.YtlaclfeljimffaaGreatDoor
open Go.RowKit
set_option maxHeartbeats 8000000
set_option maxRecDepth 100000
set_option linter.unusedSimpArgs false
set_option linter.unusedVariables false
theorem eqStringS_any (a b : List ByteArray) (va vb : Value) (w : World) (ra : Rep w (strs a) [va]) (rb : Rep w (strs b) [vb]) :
 Calls Tryz.prog 92 #[va, vb] w fun e w' => e = .returned (.bool (eqB a b)) /\ Ext w w' := by
 obtain ⟨ao, ca, ba, oa, h1, hla, hma, pa, ha⟩ := Rep.strs ra
 obtain ⟨bo, cb, bb, ob, h2, hlb, hmb, pb, hb⟩ := Rep.strs rb
 simp only [List.cons.injEq, and_true] at h1 h2
 subst h1 h2
 clear ra rb
 unfold maxLen at hma hmb
 go_enter Tryz.func92, Tryz.ntmps92
 by_cases hlen : a.length = b.length
 · have hne : ((a.length : Int) != (b.length : Int)) = false := by simp [hlen]
   have HL := LH hlen; clear hlen
   go_wp2
   go_loopw [5] (fun i wr => ∃ k : Nat, k <= a.length /\ i = .int .i64 k /\ Ext w wr /\ Hid (∀ j, j < k -> a[j]? = b[j]?)) (fun i _ => a.length - (intOf i).toNat)
   case atStart => exact ⟨0, Nat.zero_le _, rfl, XR _, fun j hj => by omega⟩
   case round =>
    obtain ⟨k, hk, rfl, hx, heq⟩ := hrel
    by_cases hlt : k < a.length
    · have hltb : k < b.length := by have := HL.out; omega
      obtain rfl := pa (by omega)
      obtain rfl := pb (by omega)
      have a0 := reg hx (ha k a[k] (by simp [hlt]))
      have b0 := reg hx (hb k b[k] (by simp [hltb]))
      clear ha hb pa pb
      by_cases hs : a[k] = b[k]
      · have ht := str_eqn hs
        have HS := LH hs; clear hs
        go_wp2_with fail
        refine wp_region_quiet_below (by kernel_rfl) (by kernel_rfl) ?_
        repeat (quiet_step (fail))
        refine wpQuiet_nil ?_
        clear a0 b0
        intro _ hw'
        obtain ⟨pw, hw''⟩ := hw'
        subst hw''
        go_wp2
        go_roundw
        case rel => exact ⟨k + 1, by omega, by go_num, hx.trans (regx _ _), fun j hj => by
         by_cases h : j < k
         · exact heq.out j h
         · obtain rfl : j = k := by omega
           simp [hlt, hltb, HS.out]⟩
        case measure => simp [intOf]; omega
      · have ht := str_nen hs
        have HS := LH hs; clear hs
        go_wp2_with fail
        refine wp_region_quiet_below (by kernel_rfl) (by kernel_rfl) ?_
        repeat (quiet_step (fail))
        refine wpQuiet_nil ?_
        clear a0 b0
        intro _ hw'
        obtain ⟨pw, hw''⟩ := hw'
        subst hw''
        go_wp2
        go_ret
        exact ⟨ret_ff fun h => HS.out (by subst h; rfl), hx.trans (regx _ _)⟩
    · go_wp2
      go_ret
      have hl := HL.out
      obtain rfl : k = a.length := by omega
      refine ⟨ret_tt ?_, hx⟩
      exact List.ext_getElem? fun j => by
       by_cases hj : j < a.length
       · exact heq.out j hj
       · simp [List.getElem?_eq_none_iff.2 (show a.length <= j by omega), List.getElem?_eq_none_iff.2 (show b.length <= j by omega)]
 · have hne : ((a.length : Int) != (b.length : Int)) = true := by simp; omega
   have HL := LH hlen; clear hlen
   go_wp2
   go_ret
   exact ⟨ret_ff fun h => HL.out (by rw [h]), XR _⟩
theorem eqClassInfo_any (x y : MClassInfo) (cx cy : List Value) (w : World) (rx : Rep w x.d cx) (ry : Rep w y.d cy) :
 Calls Tryz.prog 55 #[.agg cx.toArray, .agg cy.toArray] w fun e w' => e = .returned (.bool (eqB x y)) /\ Ext w w' := by
 obtain ⟨a_x_fields, c_x_fields, rfl, r_x_fields⟩ := MClassInfo.op_en rx
 obtain ⟨a_y_fields, c_y_fields, rfl, r_y_fields⟩ := MClassInfo.op_en ry
 clear rx ry
 go_enter Tryz.func55, Tryz.ntmps55
 by_cases h : x.name = y.name
 rotate_left
 · have t_name := str_nen h
   have H := LH h; clear h
   go_wp2_with fail
   go_ret
   exact ⟨ret_ff fun e => H.out (by rw [e]), ((XR w).alloc _).alloc _⟩
 have t_name := str_eqn h
 have H_name := LH h; clear h
 by_cases h : x.parent = y.parent
 rotate_left
 · have t_parent := int_nen h
   have H := LH h; clear h
   go_wp2_with fail
   go_ret
   exact ⟨ret_ff fun e => H.out (by rw [e]), ((XR w).alloc _).alloc _⟩
 have t_parent := int_eqn h
 have H_parent := LH h; clear h
 by_cases h : x.fields = y.fields
 rotate_left
 · have t_fields := eqB_ff h
   have H := LH h; clear h
   go_wp2_with fail
   refine (eqStringS_any _ _ _ _ _ (Rep.ext (((XR w).alloc _).alloc _) r_x_fields) (Rep.ext (((XR w).alloc _).alloc _) r_y_fields)).mono ?_
   rintro e w1 ⟨rfl, hx1⟩
   obtain ⟨hc1, hf1⟩ := bcell hx1
   have hz1 : w.heap.size < w1.heap.size /\ w.heap.size + 1 < w1.heap.size := by have := hx1.size; simp only [World.size_alloc] at this; omega
   obtain ⟨hy1, hz1⟩ := hz1
   go_wp2_with fail
   go_ret
   exact ⟨ret_ff fun e => H.out (by rw [e]), (((XR w).alloc _).alloc _).trans hx1⟩
 have t_fields := eqB_tt h
 have H_fields := LH h; clear h
 go_wp2_with fail
 refine (eqStringS_any _ _ _ _ _ (Rep.ext (((XR w).alloc _).alloc _) r_x_fields) (Rep.ext (((XR w).alloc _).alloc _) r_y_fields)).mono ?_
 rintro e w1 ⟨rfl, hx1⟩
 obtain ⟨hc1, hf1⟩ := bcell hx1
 have hz1 : w.heap.size < w1.heap.size /\ w.heap.size + 1 < w1.heap.size := by have := hx1.size; simp only [World.size_alloc] at this; omega
 obtain ⟨hy1, hz1⟩ := hz1
 go_wp2_with fail
 go_ret
 refine ⟨ret_tt ?_, (((XR w).alloc _).alloc _).trans hx1⟩
 cases x; cases y
 simp only [MClassInfo.mk.injEq]
 exact ⟨H_name.out, H_parent.out, H_fields.out⟩
theorem eqClassInfoS_any (a b : List MClassInfo) (va vb : Value) (w : World) (ra : Rep w (MClassInfos a) [va]) (rb : Rep w (MClassInfos b) [vb]) :
 Calls Tryz.prog 25 #[va, vb] w fun e w' => e = .returned (.bool (eqB a b)) /\ Ext w w' := by
 obtain ⟨ao, ca, ba, oa, h1, hla, hma, pa, ha⟩ := Rep.slmap ra
 obtain ⟨bo, cb, bb, ob, h2, hlb, hmb, pb, hb⟩ := Rep.slmap rb
 simp only [List.cons.injEq, and_true] at h1 h2
 subst h1 h2
 clear ra rb
 unfold maxLen at hma hmb
 go_enter Tryz.func25, Tryz.ntmps25
 by_cases hlen : a.length = b.length
 · have hne : ((a.length : Int) != (b.length : Int)) = false := by simp [hlen]
   have HL := LH hlen; clear hlen
   go_wp2
   go_loopw [5] (fun i wr => ∃ k : Nat, k <= a.length /\ i = .int .i64 k /\ Ext w wr /\ Hid (∀ j, j < k -> a[j]? = b[j]?)) (fun i _ => a.length - (intOf i).toNat)
   case atStart => exact ⟨0, Nat.zero_le _, rfl, XR _, fun j hj => by omega⟩
   case round =>
    obtain ⟨k, hk, rfl, hx, heq⟩ := hrel
    by_cases hlt : k < a.length
    · have hltb : k < b.length := by have := HL.out; omega
      obtain rfl := pa (by omega)
      obtain rfl := pb (by omega)
      obtain ⟨ea, la, ca, ra⟩ := ha k a[k] (by simp [hlt])
      obtain ⟨aa0, ca0, rfl, _⟩ := MClassInfo.op_en ra
      have a0 := reg hx (show w.cell? ⟨ba, oa + k * 3, none⟩ = some _ from ca 0 (by omega))
      have a1 := reg hx (show w.cell? ⟨ba, oa + k * 3 + 1, none⟩ = some _ from ca 1 (by omega))
      have a2 := reg hx (show w.cell? ⟨ba, oa + k * 3 + 2, none⟩ = some _ from ca 2 (by omega))
      clear ca la
      obtain ⟨eb, lb, cb, rb⟩ := hb k b[k] (by simp [hltb])
      obtain ⟨ab0, cb0, rfl, _⟩ := MClassInfo.op_en rb
      have b0 := reg hx (show w.cell? ⟨bb, ob + k * 3, none⟩ = some _ from cb 0 (by omega))
      have b1 := reg hx (show w.cell? ⟨bb, ob + k * 3 + 1, none⟩ = some _ from cb 1 (by omega))
      have b2 := reg hx (show w.cell? ⟨bb, ob + k * 3 + 2, none⟩ = some _ from cb 2 (by omega))
      clear cb lb
      clear ha hb pa pb
      by_cases hs : a[k] = b[k]
      · have ht := eqB_tt hs
        have HS := LH hs; clear hs
        go_wp2_with fail
        refine wp_region_quiet_below (by kernel_rfl) (by kernel_rfl) ?_
        repeat (quiet_step (exact Calls.regrown_of (eqClassInfo_any _ _ _ _ _ (Rep.ext (hx.trans (below_regrown _ _ _)) ra) (Rep.ext (hx.trans (below_regrown _ _ _)) rb))))
        refine wpQuiet_nil ?_
        clear a0 a1 a2 b0 b1 b2
        intro _ hw'
        obtain ⟨pw, hw''⟩ := hw'
        subst hw''
        go_wp2
        go_roundw
        case rel => exact ⟨k + 1, by omega, by go_num, hx.trans (regx _ _), fun j hj => by
         by_cases h : j < k
         · exact heq.out j h
         · obtain rfl : j = k := by omega
           simp [hlt, hltb, HS.out]⟩
        case measure => simp [intOf]; omega
      · have ht := eqB_ff hs
        have HS := LH hs; clear hs
        go_wp2_with fail
        refine wp_region_quiet_below (by kernel_rfl) (by kernel_rfl) ?_
        repeat (quiet_step (exact Calls.regrown_of (eqClassInfo_any _ _ _ _ _ (Rep.ext (hx.trans (below_regrown _ _ _)) ra) (Rep.ext (hx.trans (below_regrown _ _ _)) rb))))
        refine wpQuiet_nil ?_
        clear a0 a1 a2 b0 b1 b2
        intro _ hw'
        obtain ⟨pw, hw''⟩ := hw'
        subst hw''
        go_wp2
        go_ret
        exact ⟨ret_ff fun h => HS.out (by subst h; rfl), hx.trans (regx _ _)⟩
    · go_wp2
      go_ret
      have hl := HL.out
      obtain rfl : k = a.length := by omega
      refine ⟨ret_tt ?_, hx⟩
      exact List.ext_getElem? fun j => by
       by_cases hj : j < a.length
       · exact heq.out j hj
       · simp [List.getElem?_eq_none_iff.2 (show a.length <= j by omega), List.getElem?_eq_none_iff.2 (show b.length <= j by omega)]
 · have hne : ((a.length : Int) != (b.length : Int)) = true := by simp; omega
   have HL := LH hlen; clear hlen
   go_wp2
   go_ret
   exact ⟨ret_ff fun h => HL.out (by rw [h]), XR _⟩
theorem eqCoreS_of (n : Nat) (ih : Hid (∀ (x y : MCore) (cx cy : List Value) (w : World), SizeOf.sizeOf x < n -> Rep w x.d cx -> Rep w y.d cy -> Calls Tryz.prog 58 #[.agg cx.toArray, .agg cy.toArray] w fun e w' => e = .returned (.bool (eqB x y)) /\ Ext w w')) (a b : List MCore) (va vb : Value) (w : World) (hn : Hid (∀ x, x ∈ a -> SizeOf.sizeOf x < n)) (ra : Rep w (MCores a) [va]) (rb : Rep w (MCores b) [vb]) :
 Calls Tryz.prog 94 #[va, vb] w fun e w' => e = .returned (.bool (eqB a b)) /\ Ext w w' := by
 obtain ⟨ao, ca, ba, oa, h1, hla, hma, pa, ha⟩ := Rep.slmap ra
 obtain ⟨bo, cb, bb, ob, h2, hlb, hmb, pb, hb⟩ := Rep.slmap rb
 simp only [List.cons.injEq, and_true] at h1 h2
 subst h1 h2
 clear ra rb
 unfold maxLen at hma hmb
 go_enter Tryz.func94, Tryz.ntmps94
 by_cases hlen : a.length = b.length
 · have hne : ((a.length : Int) != (b.length : Int)) = false := by simp [hlen]
   have HL := LH hlen; clear hlen
   go_wp2
   go_loopw [5] (fun i wr => ∃ k : Nat, k <= a.length /\ i = .int .i64 k /\ Ext w wr /\ Hid (∀ j, j < k -> a[j]? = b[j]?)) (fun i _ => a.length - (intOf i).toNat)
   case atStart => exact ⟨0, Nat.zero_le _, rfl, XR _, fun j hj => by omega⟩
   case round =>
    obtain ⟨k, hk, rfl, hx, heq⟩ := hrel
    by_cases hlt : k < a.length
    · have hltb : k < b.length := by have := HL.out; omega
      obtain rfl := pa (by omega)
      obtain rfl := pb (by omega)
      obtain ⟨ea, la, ca, ra⟩ := ha k a[k] (by simp [hlt])
      obtain ⟨aa0, ca0, rfl, _⟩ := MCore.op_en ra
      have a0 := reg hx (show w.cell? ⟨ba, oa + k * 5, none⟩ = some _ from ca 0 (by omega))
      have a1 := reg hx (show w.cell? ⟨ba, oa + k * 5 + 1, none⟩ = some _ from ca 1 (by omega))
      have a2 := reg hx (show w.cell? ⟨ba, oa + k * 5 + 2, none⟩ = some _ from ca 2 (by omega))
      have a3 := reg hx (show w.cell? ⟨ba, oa + k * 5 + 3, none⟩ = some _ from ca 3 (by omega))
      have a4 := reg hx (show w.cell? ⟨ba, oa + k * 5 + 4, none⟩ = some _ from ca 4 (by omega))
      clear ca la
      obtain ⟨eb, lb, cb, rb⟩ := hb k b[k] (by simp [hltb])
      obtain ⟨ab0, cb0, rfl, _⟩ := MCore.op_en rb
      have b0 := reg hx (show w.cell? ⟨bb, ob + k * 5, none⟩ = some _ from cb 0 (by omega))
      have b1 := reg hx (show w.cell? ⟨bb, ob + k * 5 + 1, none⟩ = some _ from cb 1 (by omega))
      have b2 := reg hx (show w.cell? ⟨bb, ob + k * 5 + 2, none⟩ = some _ from cb 2 (by omega))
      have b3 := reg hx (show w.cell? ⟨bb, ob + k * 5 + 3, none⟩ = some _ from cb 3 (by omega))
      have b4 := reg hx (show w.cell? ⟨bb, ob + k * 5 + 4, none⟩ = some _ from cb 4 (by omega))
      clear cb lb
      clear ha hb pa pb
      by_cases hs : a[k] = b[k]
      · have ht := eqB_tt hs
        have HS := LH hs; clear hs
        go_wp2_with fail
        refine wp_region_quiet_below (by kernel_rfl) (by kernel_rfl) ?_
        repeat (quiet_step (exact Calls.regrown_of (ih.out _ _ _ _ _ (hn.out _ (List.getElem_mem hlt)) (Rep.ext (hx.trans (below_regrown _ _ _)) ra) (Rep.ext (hx.trans (below_regrown _ _ _)) rb))))
        refine wpQuiet_nil ?_
        clear a0 a1 a2 a3 a4 b0 b1 b2 b3 b4
        intro _ hw'
        obtain ⟨pw, hw''⟩ := hw'
        subst hw''
        go_wp2
        go_roundw
        case rel => exact ⟨k + 1, by omega, by go_num, hx.trans (regx _ _), fun j hj => by
         by_cases h : j < k
         · exact heq.out j h
         · obtain rfl : j = k := by omega
           simp [hlt, hltb, HS.out]⟩
        case measure => simp [intOf]; omega
      · have ht := eqB_ff hs
        have HS := LH hs; clear hs
        go_wp2_with fail
        refine wp_region_quiet_below (by kernel_rfl) (by kernel_rfl) ?_
        repeat (quiet_step (exact Calls.regrown_of (ih.out _ _ _ _ _ (hn.out _ (List.getElem_mem hlt)) (Rep.ext (hx.trans (below_regrown _ _ _)) ra) (Rep.ext (hx.trans (below_regrown _ _ _)) rb))))
        refine wpQuiet_nil ?_
        clear a0 a1 a2 a3 a4 b0 b1 b2 b3 b4
        intro _ hw'
        obtain ⟨pw, hw''⟩ := hw'
        subst hw''
        go_wp2
        go_ret
        exact ⟨ret_ff fun h => HS.out (by subst h; rfl), hx.trans (regx _ _)⟩
    · go_wp2
      go_ret
      have hl := HL.out
      obtain rfl : k = a.length := by omega
      refine ⟨ret_tt ?_, hx⟩
      exact List.ext_getElem? fun j => by
       by_cases hj : j < a.length
       · exact heq.out j hj
       · simp [List.getElem?_eq_none_iff.2 (show a.length <= j by omega), List.getElem?_eq_none_iff.2 (show b.length <= j by omega)]
 · have hne : ((a.length : Int) != (b.length : Int)) = true := by simp; omega
   have HL := LH hlen; clear hlen
   go_wp2
   go_ret
   exact ⟨ret_ff fun h => HL.out (by rw [h]), XR _⟩
theorem eqCore_of (n : Nat) (ih : Hid (∀ (a b : List MCore) (va vb : Value) (w : World), (∀ x, x ∈ a -> SizeOf.sizeOf x < n) -> Rep w (MCores a) [va] -> Rep w (MCores b) [vb] -> Calls Tryz.prog 94 #[va, vb] w fun e w' => e = .returned (.bool (eqB a b)) /\ Ext w w')) (x y : MCore) (cx cy : List Value) (w : World) (hn : Hid (SizeOf.sizeOf x < n + 1)) (rx : Rep w x.d cx) (ry : Rep w y.d cy) :
 Calls Tryz.prog 58 #[.agg cx.toArray, .agg cy.toArray] w fun e w' => e = .returned (.bool (eqB x y)) /\ Ext w w' := by
 have hk : Hid (∀ z, z ∈ x.kids -> SizeOf.sizeOf z < n) := LH fun z hz => by have := MCore.kid_lt hz; have := hn.out; omega
 obtain ⟨a_x_kids, c_x_kids, rfl, r_x_kids⟩ := MCore.op_en rx
 obtain ⟨a_y_kids, c_y_kids, rfl, r_y_kids⟩ := MCore.op_en ry
 clear rx ry
 go_enter Tryz.func58, Tryz.ntmps58
 by_cases h : x.kind = y.kind
 rotate_left
 · have t_kind := int_nen h
   have H := LH h; clear h
   go_wp2_with fail
   go_ret
   exact ⟨ret_ff fun e => H.out (by rw [e]), ((XR w).alloc _).alloc _⟩
 have t_kind := int_eqn h
 have H_kind := LH h; clear h
 by_cases h : x.text = y.text
 rotate_left
 · have t_text := str_nen h
   have H := LH h; clear h
   go_wp2_with fail
   go_ret
   exact ⟨ret_ff fun e => H.out (by rw [e]), ((XR w).alloc _).alloc _⟩
 have t_text := str_eqn h
 have H_text := LH h; clear h
 by_cases h : x.number = y.number
 rotate_left
 · have t_number := int_nen h
   have H := LH h; clear h
   go_wp2_with fail
   go_ret
   exact ⟨ret_ff fun e => H.out (by rw [e]), ((XR w).alloc _).alloc _⟩
 have t_number := int_eqn h
 have H_number := LH h; clear h
 by_cases h : x.depth = y.depth
 rotate_left
 · have t_depth := int_nen h
   have H := LH h; clear h
   go_wp2_with fail
   go_ret
   exact ⟨ret_ff fun e => H.out (by rw [e]), ((XR w).alloc _).alloc _⟩
 have t_depth := int_eqn h
 have H_depth := LH h; clear h
 by_cases h : x.kids = y.kids
 rotate_left
 · have t_kids := eqB_ff h
   have H := LH h; clear h
   go_wp2_with fail
   refine (ih.out _ _ _ _ _ hk.out (Rep.ext (((XR w).alloc _).alloc _) r_x_kids) (Rep.ext (((XR w).alloc _).alloc _) r_y_kids)).mono ?_
   rintro e w1 ⟨rfl, hx1⟩
   obtain ⟨hc1, hf1⟩ := bcell hx1
   have hz1 : w.heap.size < w1.heap.size /\ w.heap.size + 1 < w1.heap.size := by have := hx1.size; simp only [World.size_alloc] at this; omega
   obtain ⟨hy1, hz1⟩ := hz1
   go_wp2_with fail
   go_ret
   exact ⟨ret_ff fun e => H.out (by rw [e]), (((XR w).alloc _).alloc _).trans hx1⟩
 have t_kids := eqB_tt h
 have H_kids := LH h; clear h
 go_wp2_with fail
 refine (ih.out _ _ _ _ _ hk.out (Rep.ext (((XR w).alloc _).alloc _) r_x_kids) (Rep.ext (((XR w).alloc _).alloc _) r_y_kids)).mono ?_
 rintro e w1 ⟨rfl, hx1⟩
 obtain ⟨hc1, hf1⟩ := bcell hx1
 have hz1 : w.heap.size < w1.heap.size /\ w.heap.size + 1 < w1.heap.size := by have := hx1.size; simp only [World.size_alloc] at this; omega
 obtain ⟨hy1, hz1⟩ := hz1
 go_wp2_with fail
 go_ret
 refine ⟨ret_tt ?_, (((XR w).alloc _).alloc _).trans hx1⟩
 cases x; cases y
 simp only [MCore.mk.injEq]
 exact ⟨H_kind.out, H_text.out, H_number.out, H_depth.out, H_kids.out⟩
theorem eqCore_lt : ∀ (n : Nat) (x y : MCore) (cx cy : List Value) (w : World), SizeOf.sizeOf x < n -> Rep w x.d cx -> Rep w y.d cy ->
 Calls Tryz.prog 58 #[.agg cx.toArray, .agg cy.toArray] w fun e w' => e = .returned (.bool (eqB x y)) /\ Ext w w' := by
 intro n
 induction n with
 | zero => intro x y cx cy w h; omega
 | succ n ih => exact fun x y cx cy w h rx ry => eqCore_of n (LH fun a b va vb w hn ra rb => eqCoreS_of n (LH ih) a b va vb w (LH hn) ra rb) x y cx cy w (LH h) rx ry
theorem eqCore_any (x y : MCore) (cx cy : List Value) (w : World) (rx : Rep w x.d cx) (ry : Rep w y.d cy) :
 Calls Tryz.prog 58 #[.agg cx.toArray, .agg cy.toArray] w fun e w' => e = .returned (.bool (eqB x y)) /\ Ext w w' := eqCore_lt _ x y cx cy w (Nat.lt_succ_self _) rx ry
theorem eqRoutine_any (x y : MRoutine) (cx cy : List Value) (w : World) (rx : Rep w x.d cx) (ry : Rep w y.d cy) :
 Calls Tryz.prog 29 #[.agg cx.toArray, .agg cy.toArray] w fun e w' => e = .returned (.bool (eqB x y)) /\ Ext w w' := by
 obtain ⟨a_x_body_kids, c_x_body_kids, rfl, r_x_body_kids, r_x_body⟩ := MRoutine.op_en rx
 obtain ⟨a_y_body_kids, c_y_body_kids, rfl, r_y_body_kids, r_y_body⟩ := MRoutine.op_en ry
 clear rx ry
 go_enter Tryz.func29, Tryz.ntmps29
 by_cases h : x.selector = y.selector
 rotate_left
 · have t_selector := str_nen h
   have H := LH h; clear h
   go_wp2_with fail
   go_ret
   exact ⟨ret_ff fun e => H.out (by rw [e]), ((XR w).alloc _).alloc _⟩
 have t_selector := str_eqn h
 have H_selector := LH h; clear h
 by_cases h : x.owner = y.owner
 rotate_left
 · have t_owner := int_nen h
   have H := LH h; clear h
   go_wp2_with fail
   go_ret
   exact ⟨ret_ff fun e => H.out (by rw [e]), ((XR w).alloc _).alloc _⟩
 have t_owner := int_eqn h
 have H_owner := LH h; clear h
 by_cases h : x.cls = y.cls
 rotate_left
 · have t_cls := bool_nen h
   have H := LH h; clear h
   go_wp2_with fail
   go_ret
   exact ⟨ret_ff fun e => H.out (by rw [e]), ((XR w).alloc _).alloc _⟩
 have t_cls := bool_eqn h
 have H_cls := LH h; clear h
 by_cases h : x.params = y.params
 rotate_left
 · have t_params := int_nen h
   have H := LH h; clear h
   go_wp2_with fail
   go_ret
   exact ⟨ret_ff fun e => H.out (by rw [e]), ((XR w).alloc _).alloc _⟩
 have t_params := int_eqn h
 have H_params := LH h; clear h
 by_cases h : x.slots = y.slots
 rotate_left
 · have t_slots := int_nen h
   have H := LH h; clear h
   go_wp2_with fail
   go_ret
   exact ⟨ret_ff fun e => H.out (by rw [e]), ((XR w).alloc _).alloc _⟩
 have t_slots := int_eqn h
 have H_slots := LH h; clear h
 by_cases h : x.body = y.body
 rotate_left
 · have t_body := eqB_ff h
   have H := LH h; clear h
   go_wp2_with fail
   refine (eqCore_any _ _ _ _ _ (Rep.ext (((XR w).alloc _).alloc _) r_x_body) (Rep.ext (((XR w).alloc _).alloc _) r_y_body)).mono ?_
   rintro e w1 ⟨rfl, hx1⟩
   obtain ⟨hc1, hf1⟩ := bcell hx1
   have hz1 : w.heap.size < w1.heap.size /\ w.heap.size + 1 < w1.heap.size := by have := hx1.size; simp only [World.size_alloc] at this; omega
   obtain ⟨hy1, hz1⟩ := hz1
   go_wp2_with fail
   go_ret
   exact ⟨ret_ff fun e => H.out (by rw [e]), (((XR w).alloc _).alloc _).trans hx1⟩
 have t_body := eqB_tt h
 have H_body := LH h; clear h
 go_wp2_with fail
 refine (eqCore_any _ _ _ _ _ (Rep.ext (((XR w).alloc _).alloc _) r_x_body) (Rep.ext (((XR w).alloc _).alloc _) r_y_body)).mono ?_
 rintro e w1 ⟨rfl, hx1⟩
 obtain ⟨hc1, hf1⟩ := bcell hx1
 have hz1 : w.heap.size < w1.heap.size /\ w.heap.size + 1 < w1.heap.size := by have := hx1.size; simp only [World.size_alloc] at this; omega
 obtain ⟨hy1, hz1⟩ := hz1
 go_wp2_with fail
 go_ret
 refine ⟨ret_tt ?_, (((XR w).alloc _).alloc _).trans hx1⟩
 cases x; cases y
 simp only [MRoutine.mk.injEq]
 exact ⟨H_selector.out, H_owner.out, H_cls.out, H_params.out, H_slots.out, H_body.out⟩
theorem eqRoutineS_any (a b : List MRoutine) (va vb : Value) (w : World) (ra : Rep w (MRoutines a) [va]) (rb : Rep w (MRoutines b) [vb]) :
 Calls Tryz.prog 28 #[va, vb] w fun e w' => e = .returned (.bool (eqB a b)) /\ Ext w w' := by
 obtain ⟨ao, ca, ba, oa, h1, hla, hma, pa, ha⟩ := Rep.slmap ra
 obtain ⟨bo, cb, bb, ob, h2, hlb, hmb, pb, hb⟩ := Rep.slmap rb
 simp only [List.cons.injEq, and_true] at h1 h2
 subst h1 h2
 clear ra rb
 unfold maxLen at hma hmb
 go_enter Tryz.func28, Tryz.ntmps28
 by_cases hlen : a.length = b.length
 · have hne : ((a.length : Int) != (b.length : Int)) = false := by simp [hlen]
   have HL := LH hlen; clear hlen
   go_wp2
   go_loopw [5] (fun i wr => ∃ k : Nat, k <= a.length /\ i = .int .i64 k /\ Ext w wr /\ Hid (∀ j, j < k -> a[j]? = b[j]?)) (fun i _ => a.length - (intOf i).toNat)
   case atStart => exact ⟨0, Nat.zero_le _, rfl, XR _, fun j hj => by omega⟩
   case round =>
    obtain ⟨k, hk, rfl, hx, heq⟩ := hrel
    by_cases hlt : k < a.length
    · have hltb : k < b.length := by have := HL.out; omega
      obtain rfl := pa (by omega)
      obtain rfl := pb (by omega)
      obtain ⟨ea, la, ca, ra⟩ := ha k a[k] (by simp [hlt])
      obtain ⟨aa0, ca0, rfl, _, _⟩ := MRoutine.op_en ra
      have a0 := reg hx (show w.cell? ⟨ba, oa + k * 10, none⟩ = some _ from ca 0 (by omega))
      have a1 := reg hx (show w.cell? ⟨ba, oa + k * 10 + 1, none⟩ = some _ from ca 1 (by omega))
      have a2 := reg hx (show w.cell? ⟨ba, oa + k * 10 + 2, none⟩ = some _ from ca 2 (by omega))
      have a3 := reg hx (show w.cell? ⟨ba, oa + k * 10 + 3, none⟩ = some _ from ca 3 (by omega))
      have a4 := reg hx (show w.cell? ⟨ba, oa + k * 10 + 4, none⟩ = some _ from ca 4 (by omega))
      have a5 := reg hx (show w.cell? ⟨ba, oa + k * 10 + 5, none⟩ = some _ from ca 5 (by omega))
      have a6 := reg hx (show w.cell? ⟨ba, oa + k * 10 + 6, none⟩ = some _ from ca 6 (by omega))
      have a7 := reg hx (show w.cell? ⟨ba, oa + k * 10 + 7, none⟩ = some _ from ca 7 (by omega))
      have a8 := reg hx (show w.cell? ⟨ba, oa + k * 10 + 8, none⟩ = some _ from ca 8 (by omega))
      have a9 := reg hx (show w.cell? ⟨ba, oa + k * 10 + 9, none⟩ = some _ from ca 9 (by omega))
      clear ca la
      obtain ⟨eb, lb, cb, rb⟩ := hb k b[k] (by simp [hltb])
      obtain ⟨ab0, cb0, rfl, _, _⟩ := MRoutine.op_en rb
      have b0 := reg hx (show w.cell? ⟨bb, ob + k * 10, none⟩ = some _ from cb 0 (by omega))
      have b1 := reg hx (show w.cell? ⟨bb, ob + k * 10 + 1, none⟩ = some _ from cb 1 (by omega))
      have b2 := reg hx (show w.cell? ⟨bb, ob + k * 10 + 2, none⟩ = some _ from cb 2 (by omega))
      have b3 := reg hx (show w.cell? ⟨bb, ob + k * 10 + 3, none⟩ = some _ from cb 3 (by omega))
      have b4 := reg hx (show w.cell? ⟨bb, ob + k * 10 + 4, none⟩ = some _ from cb 4 (by omega))
      have b5 := reg hx (show w.cell? ⟨bb, ob + k * 10 + 5, none⟩ = some _ from cb 5 (by omega))
      have b6 := reg hx (show w.cell? ⟨bb, ob + k * 10 + 6, none⟩ = some _ from cb 6 (by omega))
      have b7 := reg hx (show w.cell? ⟨bb, ob + k * 10 + 7, none⟩ = some _ from cb 7 (by omega))
      have b8 := reg hx (show w.cell? ⟨bb, ob + k * 10 + 8, none⟩ = some _ from cb 8 (by omega))
      have b9 := reg hx (show w.cell? ⟨bb, ob + k * 10 + 9, none⟩ = some _ from cb 9 (by omega))
      clear cb lb
      clear ha hb pa pb
      by_cases hs : a[k] = b[k]
      · have ht := eqB_tt hs
        have HS := LH hs; clear hs
        go_wp2_with fail
        refine wp_region_quiet_below (by kernel_rfl) (by kernel_rfl) ?_
        repeat (quiet_step (exact Calls.regrown_of (eqRoutine_any _ _ _ _ _ (Rep.ext (hx.trans (below_regrown _ _ _)) ra) (Rep.ext (hx.trans (below_regrown _ _ _)) rb))))
        refine wpQuiet_nil ?_
        clear a0 a1 a2 a3 a4 a5 a6 a7 a8 a9 b0 b1 b2 b3 b4 b5 b6 b7 b8 b9
        intro _ hw'
        obtain ⟨pw, hw''⟩ := hw'
        subst hw''
        go_wp2
        go_roundw
        case rel => exact ⟨k + 1, by omega, by go_num, hx.trans (regx _ _), fun j hj => by
         by_cases h : j < k
         · exact heq.out j h
         · obtain rfl : j = k := by omega
           simp [hlt, hltb, HS.out]⟩
        case measure => simp [intOf]; omega
      · have ht := eqB_ff hs
        have HS := LH hs; clear hs
        go_wp2_with fail
        refine wp_region_quiet_below (by kernel_rfl) (by kernel_rfl) ?_
        repeat (quiet_step (exact Calls.regrown_of (eqRoutine_any _ _ _ _ _ (Rep.ext (hx.trans (below_regrown _ _ _)) ra) (Rep.ext (hx.trans (below_regrown _ _ _)) rb))))
        refine wpQuiet_nil ?_
        clear a0 a1 a2 a3 a4 a5 a6 a7 a8 a9 b0 b1 b2 b3 b4 b5 b6 b7 b8 b9
        intro _ hw'
        obtain ⟨pw, hw''⟩ := hw'
        subst hw''
        go_wp2
        go_ret
        exact ⟨ret_ff fun h => HS.out (by subst h; rfl), hx.trans (regx _ _)⟩
    · go_wp2
      go_ret
      have hl := HL.out
      obtain rfl : k = a.length := by omega
      refine ⟨ret_tt ?_, hx⟩
      exact List.ext_getElem? fun j => by
       by_cases hj : j < a.length
       · exact heq.out j hj
       · simp [List.getElem?_eq_none_iff.2 (show a.length <= j by omega), List.getElem?_eq_none_iff.2 (show b.length <= j by omega)]
 · have hne : ((a.length : Int) != (b.length : Int)) = true := by simp; omega
   have HL := LH hlen; clear hlen
   go_wp2
   go_ret
   exact ⟨ret_ff fun h => HL.out (by rw [h]), XR _⟩
theorem eqSystem_any (x y : MSystem) (cx cy : List Value) (w : World) (rx : Rep w x.d cx) (ry : Rep w y.d cy) :
 Calls Tryz.prog 9 #[.agg cx.toArray, .agg cy.toArray] w fun e w' => e = .returned (.bool (eqB x y)) /\ Ext w w' := by
 obtain ⟨a_x_classes, c_x_classes, a_x_routines, c_x_routines, a_x_main_body_kids, c_x_main_body_kids, rfl, r_x_classes, r_x_routines, r_x_main_body_kids, r_x_main⟩ := MSystem.op_en rx
 obtain ⟨a_y_classes, c_y_classes, a_y_routines, c_y_routines, a_y_main_body_kids, c_y_main_body_kids, rfl, r_y_classes, r_y_routines, r_y_main_body_kids, r_y_main⟩ := MSystem.op_en ry
 clear rx ry
 go_enter Tryz.func9, Tryz.ntmps9
 by_cases h : x.classes = y.classes
 rotate_left
 · have t_classes := eqB_ff h
   have H := LH h; clear h
   go_wp2_with fail
   refine (eqClassInfoS_any _ _ _ _ _ (Rep.ext (((XR w).alloc _).alloc _) r_x_classes) (Rep.ext (((XR w).alloc _).alloc _) r_y_classes)).mono ?_
   rintro e w1 ⟨rfl, hx1⟩
   obtain ⟨hc1, hf1⟩ := bcell hx1
   have hz1 : w.heap.size < w1.heap.size /\ w.heap.size + 1 < w1.heap.size := by have := hx1.size; simp only [World.size_alloc] at this; omega
   obtain ⟨hy1, hz1⟩ := hz1
   go_wp2_with fail
   go_ret
   exact ⟨ret_ff fun e => H.out (by rw [e]), (((XR w).alloc _).alloc _).trans hx1⟩
 have t_classes := eqB_tt h
 have H_classes := LH h; clear h
 by_cases h : x.routines = y.routines
 rotate_left
 · have t_routines := eqB_ff h
   have H := LH h; clear h
   go_wp2_with fail
   refine (eqClassInfoS_any _ _ _ _ _ (Rep.ext (((XR w).alloc _).alloc _) r_x_classes) (Rep.ext (((XR w).alloc _).alloc _) r_y_classes)).mono ?_
   rintro e w1 ⟨rfl, hx1⟩
   obtain ⟨hc1, hf1⟩ := bcell hx1
   have hz1 : w.heap.size < w1.heap.size /\ w.heap.size + 1 < w1.heap.size := by have := hx1.size; simp only [World.size_alloc] at this; omega
   obtain ⟨hy1, hz1⟩ := hz1
   go_wp2_with fail
   refine (eqRoutineS_any _ _ _ _ _ (Rep.ext ((((XR w).alloc _).alloc _).trans hx1) r_x_routines) (Rep.ext ((((XR w).alloc _).alloc _).trans hx1) r_y_routines)).mono ?_
   rintro e w2 ⟨rfl, hx2⟩
   obtain ⟨hc2, hf2⟩ := bcell hx2
   have hz2 : w.heap.size < w2.heap.size /\ w.heap.size + 1 < w2.heap.size := by have := hx2.size; omega
   obtain ⟨hy2, hz2⟩ := hz2
   go_wp2_with fail
   go_ret
   exact ⟨ret_ff fun e => H.out (by rw [e]), ((((XR w).alloc _).alloc _).trans hx1).trans hx2⟩
 have t_routines := eqB_tt h
 have H_routines := LH h; clear h
 by_cases h : x.main = y.main
 rotate_left
 · have t_main := eqB_ff h
   have H := LH h; clear h
   go_wp2_with fail
   refine (eqClassInfoS_any _ _ _ _ _ (Rep.ext (((XR w).alloc _).alloc _) r_x_classes) (Rep.ext (((XR w).alloc _).alloc _) r_y_classes)).mono ?_
   rintro e w1 ⟨rfl, hx1⟩
   obtain ⟨hc1, hf1⟩ := bcell hx1
   have hz1 : w.heap.size < w1.heap.size /\ w.heap.size + 1 < w1.heap.size := by have := hx1.size; simp only [World.size_alloc] at this; omega
   obtain ⟨hy1, hz1⟩ := hz1
   go_wp2_with fail
   refine (eqRoutineS_any _ _ _ _ _ (Rep.ext ((((XR w).alloc _).alloc _).trans hx1) r_x_routines) (Rep.ext ((((XR w).alloc _).alloc _).trans hx1) r_y_routines)).mono ?_
   rintro e w2 ⟨rfl, hx2⟩
   obtain ⟨hc2, hf2⟩ := bcell hx2
   have hz2 : w.heap.size < w2.heap.size /\ w.heap.size + 1 < w2.heap.size := by have := hx2.size; omega
   obtain ⟨hy2, hz2⟩ := hz2
   go_wp2_with fail
   refine (eqRoutine_any _ _ _ _ _ (Rep.ext (((((XR w).alloc _).alloc _).trans hx1).trans hx2) r_x_main) (Rep.ext (((((XR w).alloc _).alloc _).trans hx1).trans hx2) r_y_main)).mono ?_
   rintro e w3 ⟨rfl, hx3⟩
   obtain ⟨hc3, hf3⟩ := bcell hx3
   have hz3 : w.heap.size < w3.heap.size /\ w.heap.size + 1 < w3.heap.size := by have := hx3.size; omega
   obtain ⟨hy3, hz3⟩ := hz3
   go_wp2_with fail
   go_ret
   exact ⟨ret_ff fun e => H.out (by rw [e]), (((((XR w).alloc _).alloc _).trans hx1).trans hx2).trans hx3⟩
 have t_main := eqB_tt h
 have H_main := LH h; clear h
 go_wp2_with fail
 refine (eqClassInfoS_any _ _ _ _ _ (Rep.ext (((XR w).alloc _).alloc _) r_x_classes) (Rep.ext (((XR w).alloc _).alloc _) r_y_classes)).mono ?_
 rintro e w1 ⟨rfl, hx1⟩
 obtain ⟨hc1, hf1⟩ := bcell hx1
 have hz1 : w.heap.size < w1.heap.size /\ w.heap.size + 1 < w1.heap.size := by have := hx1.size; simp only [World.size_alloc] at this; omega
 obtain ⟨hy1, hz1⟩ := hz1
 go_wp2_with fail
 refine (eqRoutineS_any _ _ _ _ _ (Rep.ext ((((XR w).alloc _).alloc _).trans hx1) r_x_routines) (Rep.ext ((((XR w).alloc _).alloc _).trans hx1) r_y_routines)).mono ?_
 rintro e w2 ⟨rfl, hx2⟩
 obtain ⟨hc2, hf2⟩ := bcell hx2
 have hz2 : w.heap.size < w2.heap.size /\ w.heap.size + 1 < w2.heap.size := by have := hx2.size; omega
 obtain ⟨hy2, hz2⟩ := hz2
 go_wp2_with fail
 refine (eqRoutine_any _ _ _ _ _ (Rep.ext (((((XR w).alloc _).alloc _).trans hx1).trans hx2) r_x_main) (Rep.ext (((((XR w).alloc _).alloc _).trans hx1).trans hx2) r_y_main)).mono ?_
 rintro e w3 ⟨rfl, hx3⟩
 obtain ⟨hc3, hf3⟩ := bcell hx3
 have hz3 : w.heap.size < w3.heap.size /\ w.heap.size + 1 < w3.heap.size := by have := hx3.size; omega
 obtain ⟨hy3, hz3⟩ := hz3
 go_wp2_with fail
 go_ret
 refine ⟨ret_tt ?_, (((((XR w).alloc _).alloc _).trans hx1).trans hx2).trans hx3⟩
 cases x; cases y
 simp only [MSystem.mk.injEq]
 exact ⟨H_classes.out, H_routines.out, H_main.out⟩
theorem eqInstr_any (x y : MInstr) (cx cy : List Value) (w : World) (rx : Rep w x.d cx) (ry : Rep w y.d cy) :
 Calls Tryz.prog 129 #[.agg cx.toArray, .agg cy.toArray] w fun e w' => e = .returned (.bool (eqB x y)) /\ Ext w w' := by
 obtain rfl := MInstr.op_en rx
 obtain rfl := MInstr.op_en ry
 clear rx ry
 go_enter Tryz.func129, Tryz.ntmps129
 by_cases h : x.op = y.op
 rotate_left
 · have t_op := int_nen h
   have H := LH h; clear h
   go_wp2_with fail
   go_ret
   exact ⟨ret_ff fun e => H.out (by rw [e]), ((XR w).alloc _).alloc _⟩
 have t_op := int_eqn h
 have H_op := LH h; clear h
 by_cases h : x.a = y.a
 rotate_left
 · have t_a := int_nen h
   have H := LH h; clear h
   go_wp2_with fail
   go_ret
   exact ⟨ret_ff fun e => H.out (by rw [e]), ((XR w).alloc _).alloc _⟩
 have t_a := int_eqn h
 have H_a := LH h; clear h
 by_cases h : x.b = y.b
 rotate_left
 · have t_b := int_nen h
   have H := LH h; clear h
   go_wp2_with fail
   go_ret
   exact ⟨ret_ff fun e => H.out (by rw [e]), ((XR w).alloc _).alloc _⟩
 have t_b := int_eqn h
 have H_b := LH h; clear h
 by_cases h : x.text = y.text
 rotate_left
 · have t_text := str_nen h
   have H := LH h; clear h
   go_wp2_with fail
   go_ret
   exact ⟨ret_ff fun e => H.out (by rw [e]), ((XR w).alloc _).alloc _⟩
 have t_text := str_eqn h
 have H_text := LH h; clear h
 go_wp2_with fail
 go_ret
 refine ⟨ret_tt ?_, ((XR w).alloc _).alloc _⟩
 cases x; cases y
 simp only [MInstr.mk.injEq]
 exact ⟨H_op.out, H_a.out, H_b.out, H_text.out⟩
theorem eqInstrS_any (a b : List MInstr) (va vb : Value) (w : World) (ra : Rep w (MInstrs a) [va]) (rb : Rep w (MInstrs b) [vb]) :
 Calls Tryz.prog 93 #[va, vb] w fun e w' => e = .returned (.bool (eqB a b)) /\ Ext w w' := by
 obtain ⟨ao, ca, ba, oa, h1, hla, hma, pa, ha⟩ := Rep.slmap ra
 obtain ⟨bo, cb, bb, ob, h2, hlb, hmb, pb, hb⟩ := Rep.slmap rb
 simp only [List.cons.injEq, and_true] at h1 h2
 subst h1 h2
 clear ra rb
 unfold maxLen at hma hmb
 go_enter Tryz.func93, Tryz.ntmps93
 by_cases hlen : a.length = b.length
 · have hne : ((a.length : Int) != (b.length : Int)) = false := by simp [hlen]
   have HL := LH hlen; clear hlen
   go_wp2
   go_loopw [5] (fun i wr => ∃ k : Nat, k <= a.length /\ i = .int .i64 k /\ Ext w wr /\ Hid (∀ j, j < k -> a[j]? = b[j]?)) (fun i _ => a.length - (intOf i).toNat)
   case atStart => exact ⟨0, Nat.zero_le _, rfl, XR _, fun j hj => by omega⟩
   case round =>
    obtain ⟨k, hk, rfl, hx, heq⟩ := hrel
    by_cases hlt : k < a.length
    · have hltb : k < b.length := by have := HL.out; omega
      obtain rfl := pa (by omega)
      obtain rfl := pb (by omega)
      obtain ⟨ea, la, ca, ra⟩ := ha k a[k] (by simp [hlt])
      obtain rfl := MInstr.op_en ra
      have a0 := reg hx (show w.cell? ⟨ba, oa + k * 4, none⟩ = some _ from ca 0 (by omega))
      have a1 := reg hx (show w.cell? ⟨ba, oa + k * 4 + 1, none⟩ = some _ from ca 1 (by omega))
      have a2 := reg hx (show w.cell? ⟨ba, oa + k * 4 + 2, none⟩ = some _ from ca 2 (by omega))
      have a3 := reg hx (show w.cell? ⟨ba, oa + k * 4 + 3, none⟩ = some _ from ca 3 (by omega))
      clear ca la
      obtain ⟨eb, lb, cb, rb⟩ := hb k b[k] (by simp [hltb])
      obtain rfl := MInstr.op_en rb
      have b0 := reg hx (show w.cell? ⟨bb, ob + k * 4, none⟩ = some _ from cb 0 (by omega))
      have b1 := reg hx (show w.cell? ⟨bb, ob + k * 4 + 1, none⟩ = some _ from cb 1 (by omega))
      have b2 := reg hx (show w.cell? ⟨bb, ob + k * 4 + 2, none⟩ = some _ from cb 2 (by omega))
      have b3 := reg hx (show w.cell? ⟨bb, ob + k * 4 + 3, none⟩ = some _ from cb 3 (by omega))
      clear cb lb
      clear ha hb pa pb
      by_cases hs : a[k] = b[k]
      · have ht := eqB_tt hs
        have HS := LH hs; clear hs
        go_wp2_with fail
        refine wp_region_quiet_below (by kernel_rfl) (by kernel_rfl) ?_
        repeat (quiet_step (exact Calls.regrown_of (eqInstr_any _ _ _ _ _ (Rep.ext (hx.trans (below_regrown _ _ _)) ra) (Rep.ext (hx.trans (below_regrown _ _ _)) rb))))
        refine wpQuiet_nil ?_
        clear a0 a1 a2 a3 b0 b1 b2 b3
        intro _ hw'
        obtain ⟨pw, hw''⟩ := hw'
        subst hw''
        go_wp2
        go_roundw
        case rel => exact ⟨k + 1, by omega, by go_num, hx.trans (regx _ _), fun j hj => by
         by_cases h : j < k
         · exact heq.out j h
         · obtain rfl : j = k := by omega
           simp [hlt, hltb, HS.out]⟩
        case measure => simp [intOf]; omega
      · have ht := eqB_ff hs
        have HS := LH hs; clear hs
        go_wp2_with fail
        refine wp_region_quiet_below (by kernel_rfl) (by kernel_rfl) ?_
        repeat (quiet_step (exact Calls.regrown_of (eqInstr_any _ _ _ _ _ (Rep.ext (hx.trans (below_regrown _ _ _)) ra) (Rep.ext (hx.trans (below_regrown _ _ _)) rb))))
        refine wpQuiet_nil ?_
        clear a0 a1 a2 a3 b0 b1 b2 b3
        intro _ hw'
        obtain ⟨pw, hw''⟩ := hw'
        subst hw''
        go_wp2
        go_ret
        exact ⟨ret_ff fun h => HS.out (by subst h; rfl), hx.trans (regx _ _)⟩
    · go_wp2
      go_ret
      have hl := HL.out
      obtain rfl : k = a.length := by omega
      refine ⟨ret_tt ?_, hx⟩
      exact List.ext_getElem? fun j => by
       by_cases hj : j < a.length
       · exact heq.out j hj
       · simp [List.getElem?_eq_none_iff.2 (show a.length <= j by omega), List.getElem?_eq_none_iff.2 (show b.length <= j by omega)]
 · have hne : ((a.length : Int) != (b.length : Int)) = true := by simp; omega
   have HL := LH hlen; clear hlen
   go_wp2
   go_ret
   exact ⟨ret_ff fun h => HL.out (by rw [h]), XR _⟩
theorem eqCode_any (x y : MCode) (cx cy : List Value) (w : World) (rx : Rep w x.d cx) (ry : Rep w y.d cy) :
 Calls Tryz.prog 56 #[.agg cx.toArray, .agg cy.toArray] w fun e w' => e = .returned (.bool (eqB x y)) /\ Ext w w' := by
 obtain ⟨a_x_instrs, c_x_instrs, rfl, r_x_instrs⟩ := MCode.op_en rx
 obtain ⟨a_y_instrs, c_y_instrs, rfl, r_y_instrs⟩ := MCode.op_en ry
 clear rx ry
 go_enter Tryz.func56, Tryz.ntmps56
 by_cases h : x.block = y.block
 rotate_left
 · have t_block := bool_nen h
   have H := LH h; clear h
   go_wp2_with fail
   go_ret
   exact ⟨ret_ff fun e => H.out (by rw [e]), ((XR w).alloc _).alloc _⟩
 have t_block := bool_eqn h
 have H_block := LH h; clear h
 by_cases h : x.params = y.params
 rotate_left
 · have t_params := int_nen h
   have H := LH h; clear h
   go_wp2_with fail
   go_ret
   exact ⟨ret_ff fun e => H.out (by rw [e]), ((XR w).alloc _).alloc _⟩
 have t_params := int_eqn h
 have H_params := LH h; clear h
 by_cases h : x.slots = y.slots
 rotate_left
 · have t_slots := int_nen h
   have H := LH h; clear h
   go_wp2_with fail
   go_ret
   exact ⟨ret_ff fun e => H.out (by rw [e]), ((XR w).alloc _).alloc _⟩
 have t_slots := int_eqn h
 have H_slots := LH h; clear h
 by_cases h : x.instrs = y.instrs
 rotate_left
 · have t_instrs := eqB_ff h
   have H := LH h; clear h
   go_wp2_with fail
   refine (eqInstrS_any _ _ _ _ _ (Rep.ext (((XR w).alloc _).alloc _) r_x_instrs) (Rep.ext (((XR w).alloc _).alloc _) r_y_instrs)).mono ?_
   rintro e w1 ⟨rfl, hx1⟩
   obtain ⟨hc1, hf1⟩ := bcell hx1
   have hz1 : w.heap.size < w1.heap.size /\ w.heap.size + 1 < w1.heap.size := by have := hx1.size; simp only [World.size_alloc] at this; omega
   obtain ⟨hy1, hz1⟩ := hz1
   go_wp2_with fail
   go_ret
   exact ⟨ret_ff fun e => H.out (by rw [e]), (((XR w).alloc _).alloc _).trans hx1⟩
 have t_instrs := eqB_tt h
 have H_instrs := LH h; clear h
 go_wp2_with fail
 refine (eqInstrS_any _ _ _ _ _ (Rep.ext (((XR w).alloc _).alloc _) r_x_instrs) (Rep.ext (((XR w).alloc _).alloc _) r_y_instrs)).mono ?_
 rintro e w1 ⟨rfl, hx1⟩
 obtain ⟨hc1, hf1⟩ := bcell hx1
 have hz1 : w.heap.size < w1.heap.size /\ w.heap.size + 1 < w1.heap.size := by have := hx1.size; simp only [World.size_alloc] at this; omega
 obtain ⟨hy1, hz1⟩ := hz1
 go_wp2_with fail
 go_ret
 refine ⟨ret_tt ?_, (((XR w).alloc _).alloc _).trans hx1⟩
 cases x; cases y
 simp only [MCode.mk.injEq]
 exact ⟨H_block.out, H_params.out, H_slots.out, H_instrs.out⟩
theorem eqCodeS_any (a b : List MCode) (va vb : Value) (w : World) (ra : Rep w (MCodes a) [va]) (rb : Rep w (MCodes b) [vb]) :
 Calls Tryz.prog 26 #[va, vb] w fun e w' => e = .returned (.bool (eqB a b)) /\ Ext w w' := by
 obtain ⟨ao, ca, ba, oa, h1, hla, hma, pa, ha⟩ := Rep.slmap ra
 obtain ⟨bo, cb, bb, ob, h2, hlb, hmb, pb, hb⟩ := Rep.slmap rb
 simp only [List.cons.injEq, and_true] at h1 h2
 subst h1 h2
 clear ra rb
 unfold maxLen at hma hmb
 go_enter Tryz.func26, Tryz.ntmps26
 by_cases hlen : a.length = b.length
 · have hne : ((a.length : Int) != (b.length : Int)) = false := by simp [hlen]
   have HL := LH hlen; clear hlen
   go_wp2
   go_loopw [5] (fun i wr => ∃ k : Nat, k <= a.length /\ i = .int .i64 k /\ Ext w wr /\ Hid (∀ j, j < k -> a[j]? = b[j]?)) (fun i _ => a.length - (intOf i).toNat)
   case atStart => exact ⟨0, Nat.zero_le _, rfl, XR _, fun j hj => by omega⟩
   case round =>
    obtain ⟨k, hk, rfl, hx, heq⟩ := hrel
    by_cases hlt : k < a.length
    · have hltb : k < b.length := by have := HL.out; omega
      obtain rfl := pa (by omega)
      obtain rfl := pb (by omega)
      obtain ⟨ea, la, ca, ra⟩ := ha k a[k] (by simp [hlt])
      obtain ⟨aa0, ca0, rfl, _⟩ := MCode.op_en ra
      have a0 := reg hx (show w.cell? ⟨ba, oa + k * 4, none⟩ = some _ from ca 0 (by omega))
      have a1 := reg hx (show w.cell? ⟨ba, oa + k * 4 + 1, none⟩ = some _ from ca 1 (by omega))
      have a2 := reg hx (show w.cell? ⟨ba, oa + k * 4 + 2, none⟩ = some _ from ca 2 (by omega))
      have a3 := reg hx (show w.cell? ⟨ba, oa + k * 4 + 3, none⟩ = some _ from ca 3 (by omega))
      clear ca la
      obtain ⟨eb, lb, cb, rb⟩ := hb k b[k] (by simp [hltb])
      obtain ⟨ab0, cb0, rfl, _⟩ := MCode.op_en rb
      have b0 := reg hx (show w.cell? ⟨bb, ob + k * 4, none⟩ = some _ from cb 0 (by omega))
      have b1 := reg hx (show w.cell? ⟨bb, ob + k * 4 + 1, none⟩ = some _ from cb 1 (by omega))
      have b2 := reg hx (show w.cell? ⟨bb, ob + k * 4 + 2, none⟩ = some _ from cb 2 (by omega))
      have b3 := reg hx (show w.cell? ⟨bb, ob + k * 4 + 3, none⟩ = some _ from cb 3 (by omega))
      clear cb lb
      clear ha hb pa pb
      by_cases hs : a[k] = b[k]
      · have ht := eqB_tt hs
        have HS := LH hs; clear hs
        go_wp2_with fail
        refine wp_region_quiet_below (by kernel_rfl) (by kernel_rfl) ?_
        repeat (quiet_step (exact Calls.regrown_of (eqCode_any _ _ _ _ _ (Rep.ext (hx.trans (below_regrown _ _ _)) ra) (Rep.ext (hx.trans (below_regrown _ _ _)) rb))))
        refine wpQuiet_nil ?_
        clear a0 a1 a2 a3 b0 b1 b2 b3
        intro _ hw'
        obtain ⟨pw, hw''⟩ := hw'
        subst hw''
        go_wp2
        go_roundw
        case rel => exact ⟨k + 1, by omega, by go_num, hx.trans (regx _ _), fun j hj => by
         by_cases h : j < k
         · exact heq.out j h
         · obtain rfl : j = k := by omega
           simp [hlt, hltb, HS.out]⟩
        case measure => simp [intOf]; omega
      · have ht := eqB_ff hs
        have HS := LH hs; clear hs
        go_wp2_with fail
        refine wp_region_quiet_below (by kernel_rfl) (by kernel_rfl) ?_
        repeat (quiet_step (exact Calls.regrown_of (eqCode_any _ _ _ _ _ (Rep.ext (hx.trans (below_regrown _ _ _)) ra) (Rep.ext (hx.trans (below_regrown _ _ _)) rb))))
        refine wpQuiet_nil ?_
        clear a0 a1 a2 a3 b0 b1 b2 b3
        intro _ hw'
        obtain ⟨pw, hw''⟩ := hw'
        subst hw''
        go_wp2
        go_ret
        exact ⟨ret_ff fun h => HS.out (by subst h; rfl), hx.trans (regx _ _)⟩
    · go_wp2
      go_ret
      have hl := HL.out
      obtain rfl : k = a.length := by omega
      refine ⟨ret_tt ?_, hx⟩
      exact List.ext_getElem? fun j => by
       by_cases hj : j < a.length
       · exact heq.out j hj
       · simp [List.getElem?_eq_none_iff.2 (show a.length <= j by omega), List.getElem?_eq_none_iff.2 (show b.length <= j by omega)]
 · have hne : ((a.length : Int) != (b.length : Int)) = true := by simp; omega
   have HL := LH hlen; clear hlen
   go_wp2
   go_ret
   exact ⟨ret_ff fun h => HL.out (by rw [h]), XR _⟩
theorem eqEntry_any (x y : MEntry) (cx cy : List Value) (w : World) (rx : Rep w x.d cx) (ry : Rep w y.d cy) :
 Calls Tryz.prog 57 #[.agg cx.toArray, .agg cy.toArray] w fun e w' => e = .returned (.bool (eqB x y)) /\ Ext w w' := by
 obtain rfl := MEntry.op_en rx
 obtain rfl := MEntry.op_en ry
 clear rx ry
 go_enter Tryz.func57, Tryz.ntmps57
 by_cases h : x.owner = y.owner
 rotate_left
 · have t_owner := int_nen h
   have H := LH h; clear h
   go_wp2_with fail
   go_ret
   exact ⟨ret_ff fun e => H.out (by rw [e]), ((XR w).alloc _).alloc _⟩
 have t_owner := int_eqn h
 have H_owner := LH h; clear h
 by_cases h : x.cls = y.cls
 rotate_left
 · have t_cls := bool_nen h
   have H := LH h; clear h
   go_wp2_with fail
   go_ret
   exact ⟨ret_ff fun e => H.out (by rw [e]), ((XR w).alloc _).alloc _⟩
 have t_cls := bool_eqn h
 have H_cls := LH h; clear h
 by_cases h : x.selector = y.selector
 rotate_left
 · have t_selector := str_nen h
   have H := LH h; clear h
   go_wp2_with fail
   go_ret
   exact ⟨ret_ff fun e => H.out (by rw [e]), ((XR w).alloc _).alloc _⟩
 have t_selector := str_eqn h
 have H_selector := LH h; clear h
 by_cases h : x.code = y.code
 rotate_left
 · have t_code := int_nen h
   have H := LH h; clear h
   go_wp2_with fail
   go_ret
   exact ⟨ret_ff fun e => H.out (by rw [e]), ((XR w).alloc _).alloc _⟩
 have t_code := int_eqn h
 have H_code := LH h; clear h
 go_wp2_with fail
 go_ret
 refine ⟨ret_tt ?_, ((XR w).alloc _).alloc _⟩
 cases x; cases y
 simp only [MEntry.mk.injEq]
 exact ⟨H_owner.out, H_cls.out, H_selector.out, H_code.out⟩
theorem eqEntryS_any (a b : List MEntry) (va vb : Value) (w : World) (ra : Rep w (MEntrys a) [va]) (rb : Rep w (MEntrys b) [vb]) :
 Calls Tryz.prog 27 #[va, vb] w fun e w' => e = .returned (.bool (eqB a b)) /\ Ext w w' := by
 obtain ⟨ao, ca, ba, oa, h1, hla, hma, pa, ha⟩ := Rep.slmap ra
 obtain ⟨bo, cb, bb, ob, h2, hlb, hmb, pb, hb⟩ := Rep.slmap rb
 simp only [List.cons.injEq, and_true] at h1 h2
 subst h1 h2
 clear ra rb
 unfold maxLen at hma hmb
 go_enter Tryz.func27, Tryz.ntmps27
 by_cases hlen : a.length = b.length
 · have hne : ((a.length : Int) != (b.length : Int)) = false := by simp [hlen]
   have HL := LH hlen; clear hlen
   go_wp2
   go_loopw [5] (fun i wr => ∃ k : Nat, k <= a.length /\ i = .int .i64 k /\ Ext w wr /\ Hid (∀ j, j < k -> a[j]? = b[j]?)) (fun i _ => a.length - (intOf i).toNat)
   case atStart => exact ⟨0, Nat.zero_le _, rfl, XR _, fun j hj => by omega⟩
   case round =>
    obtain ⟨k, hk, rfl, hx, heq⟩ := hrel
    by_cases hlt : k < a.length
    · have hltb : k < b.length := by have := HL.out; omega
      obtain rfl := pa (by omega)
      obtain rfl := pb (by omega)
      obtain ⟨ea, la, ca, ra⟩ := ha k a[k] (by simp [hlt])
      obtain rfl := MEntry.op_en ra
      have a0 := reg hx (show w.cell? ⟨ba, oa + k * 4, none⟩ = some _ from ca 0 (by omega))
      have a1 := reg hx (show w.cell? ⟨ba, oa + k * 4 + 1, none⟩ = some _ from ca 1 (by omega))
      have a2 := reg hx (show w.cell? ⟨ba, oa + k * 4 + 2, none⟩ = some _ from ca 2 (by omega))
      have a3 := reg hx (show w.cell? ⟨ba, oa + k * 4 + 3, none⟩ = some _ from ca 3 (by omega))
      clear ca la
      obtain ⟨eb, lb, cb, rb⟩ := hb k b[k] (by simp [hltb])
      obtain rfl := MEntry.op_en rb
      have b0 := reg hx (show w.cell? ⟨bb, ob + k * 4, none⟩ = some _ from cb 0 (by omega))
      have b1 := reg hx (show w.cell? ⟨bb, ob + k * 4 + 1, none⟩ = some _ from cb 1 (by omega))
      have b2 := reg hx (show w.cell? ⟨bb, ob + k * 4 + 2, none⟩ = some _ from cb 2 (by omega))
      have b3 := reg hx (show w.cell? ⟨bb, ob + k * 4 + 3, none⟩ = some _ from cb 3 (by omega))
      clear cb lb
      clear ha hb pa pb
      by_cases hs : a[k] = b[k]
      · have ht := eqB_tt hs
        have HS := LH hs; clear hs
        go_wp2_with fail
        refine wp_region_quiet_below (by kernel_rfl) (by kernel_rfl) ?_
        repeat (quiet_step (exact Calls.regrown_of (eqEntry_any _ _ _ _ _ (Rep.ext (hx.trans (below_regrown _ _ _)) ra) (Rep.ext (hx.trans (below_regrown _ _ _)) rb))))
        refine wpQuiet_nil ?_
        clear a0 a1 a2 a3 b0 b1 b2 b3
        intro _ hw'
        obtain ⟨pw, hw''⟩ := hw'
        subst hw''
        go_wp2
        go_roundw
        case rel => exact ⟨k + 1, by omega, by go_num, hx.trans (regx _ _), fun j hj => by
         by_cases h : j < k
         · exact heq.out j h
         · obtain rfl : j = k := by omega
           simp [hlt, hltb, HS.out]⟩
        case measure => simp [intOf]; omega
      · have ht := eqB_ff hs
        have HS := LH hs; clear hs
        go_wp2_with fail
        refine wp_region_quiet_below (by kernel_rfl) (by kernel_rfl) ?_
        repeat (quiet_step (exact Calls.regrown_of (eqEntry_any _ _ _ _ _ (Rep.ext (hx.trans (below_regrown _ _ _)) ra) (Rep.ext (hx.trans (below_regrown _ _ _)) rb))))
        refine wpQuiet_nil ?_
        clear a0 a1 a2 a3 b0 b1 b2 b3
        intro _ hw'
        obtain ⟨pw, hw''⟩ := hw'
        subst hw''
        go_wp2
        go_ret
        exact ⟨ret_ff fun h => HS.out (by subst h; rfl), hx.trans (regx _ _)⟩
    · go_wp2
      go_ret
      have hl := HL.out
      obtain rfl : k = a.length := by omega
      refine ⟨ret_tt ?_, hx⟩
      exact List.ext_getElem? fun j => by
       by_cases hj : j < a.length
       · exact heq.out j hj
       · simp [List.getElem?_eq_none_iff.2 (show a.length <= j by omega), List.getElem?_eq_none_iff.2 (show b.length <= j by omega)]
 · have hne : ((a.length : Int) != (b.length : Int)) = true := by simp; omega
   have HL := LH hlen; clear hlen
   go_wp2
   go_ret
   exact ⟨ret_ff fun h => HL.out (by rw [h]), XR _⟩
theorem eqCodeBase_any (x y : MCodeBase) (cx cy : List Value) (w : World) (rx : Rep w x.d cx) (ry : Rep w y.d cy) :
 Calls Tryz.prog 8 #[.agg cx.toArray, .agg cy.toArray] w fun e w' => e = .returned (.bool (eqB x y)) /\ Ext w w' := by
 obtain ⟨a_x_classes, c_x_classes, a_x_codes, c_x_codes, a_x_entries, c_x_entries, rfl, r_x_classes, r_x_codes, r_x_entries⟩ := MCodeBase.op_en rx
 obtain ⟨a_y_classes, c_y_classes, a_y_codes, c_y_codes, a_y_entries, c_y_entries, rfl, r_y_classes, r_y_codes, r_y_entries⟩ := MCodeBase.op_en ry
 clear rx ry
 go_enter Tryz.func8, Tryz.ntmps8
 by_cases h : x.classes = y.classes
 rotate_left
 · have t_classes := eqB_ff h
   have H := LH h; clear h
   go_wp2_with fail
   refine (eqClassInfoS_any _ _ _ _ _ (Rep.ext (((XR w).alloc _).alloc _) r_x_classes) (Rep.ext (((XR w).alloc _).alloc _) r_y_classes)).mono ?_
   rintro e w1 ⟨rfl, hx1⟩
   obtain ⟨hc1, hf1⟩ := bcell hx1
   have hz1 : w.heap.size < w1.heap.size /\ w.heap.size + 1 < w1.heap.size := by have := hx1.size; simp only [World.size_alloc] at this; omega
   obtain ⟨hy1, hz1⟩ := hz1
   go_wp2_with fail
   go_ret
   exact ⟨ret_ff fun e => H.out (by rw [e]), (((XR w).alloc _).alloc _).trans hx1⟩
 have t_classes := eqB_tt h
 have H_classes := LH h; clear h
 by_cases h : x.codes = y.codes
 rotate_left
 · have t_codes := eqB_ff h
   have H := LH h; clear h
   go_wp2_with fail
   refine (eqClassInfoS_any _ _ _ _ _ (Rep.ext (((XR w).alloc _).alloc _) r_x_classes) (Rep.ext (((XR w).alloc _).alloc _) r_y_classes)).mono ?_
   rintro e w1 ⟨rfl, hx1⟩
   obtain ⟨hc1, hf1⟩ := bcell hx1
   have hz1 : w.heap.size < w1.heap.size /\ w.heap.size + 1 < w1.heap.size := by have := hx1.size; simp only [World.size_alloc] at this; omega
   obtain ⟨hy1, hz1⟩ := hz1
   go_wp2_with fail
   refine (eqCodeS_any _ _ _ _ _ (Rep.ext ((((XR w).alloc _).alloc _).trans hx1) r_x_codes) (Rep.ext ((((XR w).alloc _).alloc _).trans hx1) r_y_codes)).mono ?_
   rintro e w2 ⟨rfl, hx2⟩
   obtain ⟨hc2, hf2⟩ := bcell hx2
   have hz2 : w.heap.size < w2.heap.size /\ w.heap.size + 1 < w2.heap.size := by have := hx2.size; omega
   obtain ⟨hy2, hz2⟩ := hz2
   go_wp2_with fail
   go_ret
   exact ⟨ret_ff fun e => H.out (by rw [e]), ((((XR w).alloc _).alloc _).trans hx1).trans hx2⟩
 have t_codes := eqB_tt h
 have H_codes := LH h; clear h
 by_cases h : x.entries = y.entries
 rotate_left
 · have t_entries := eqB_ff h
   have H := LH h; clear h
   go_wp2_with fail
   refine (eqClassInfoS_any _ _ _ _ _ (Rep.ext (((XR w).alloc _).alloc _) r_x_classes) (Rep.ext (((XR w).alloc _).alloc _) r_y_classes)).mono ?_
   rintro e w1 ⟨rfl, hx1⟩
   obtain ⟨hc1, hf1⟩ := bcell hx1
   have hz1 : w.heap.size < w1.heap.size /\ w.heap.size + 1 < w1.heap.size := by have := hx1.size; simp only [World.size_alloc] at this; omega
   obtain ⟨hy1, hz1⟩ := hz1
   go_wp2_with fail
   refine (eqCodeS_any _ _ _ _ _ (Rep.ext ((((XR w).alloc _).alloc _).trans hx1) r_x_codes) (Rep.ext ((((XR w).alloc _).alloc _).trans hx1) r_y_codes)).mono ?_
   rintro e w2 ⟨rfl, hx2⟩
   obtain ⟨hc2, hf2⟩ := bcell hx2
   have hz2 : w.heap.size < w2.heap.size /\ w.heap.size + 1 < w2.heap.size := by have := hx2.size; omega
   obtain ⟨hy2, hz2⟩ := hz2
   go_wp2_with fail
   refine (eqEntryS_any _ _ _ _ _ (Rep.ext (((((XR w).alloc _).alloc _).trans hx1).trans hx2) r_x_entries) (Rep.ext (((((XR w).alloc _).alloc _).trans hx1).trans hx2) r_y_entries)).mono ?_
   rintro e w3 ⟨rfl, hx3⟩
   obtain ⟨hc3, hf3⟩ := bcell hx3
   have hz3 : w.heap.size < w3.heap.size /\ w.heap.size + 1 < w3.heap.size := by have := hx3.size; omega
   obtain ⟨hy3, hz3⟩ := hz3
   go_wp2_with fail
   go_ret
   exact ⟨ret_ff fun e => H.out (by rw [e]), (((((XR w).alloc _).alloc _).trans hx1).trans hx2).trans hx3⟩
 have t_entries := eqB_tt h
 have H_entries := LH h; clear h
 by_cases h : x.main = y.main
 rotate_left
 · have t_main := int_nen h
   have H := LH h; clear h
   go_wp2_with fail
   refine (eqClassInfoS_any _ _ _ _ _ (Rep.ext (((XR w).alloc _).alloc _) r_x_classes) (Rep.ext (((XR w).alloc _).alloc _) r_y_classes)).mono ?_
   rintro e w1 ⟨rfl, hx1⟩
   obtain ⟨hc1, hf1⟩ := bcell hx1
   have hz1 : w.heap.size < w1.heap.size /\ w.heap.size + 1 < w1.heap.size := by have := hx1.size; simp only [World.size_alloc] at this; omega
   obtain ⟨hy1, hz1⟩ := hz1
   go_wp2_with fail
   refine (eqCodeS_any _ _ _ _ _ (Rep.ext ((((XR w).alloc _).alloc _).trans hx1) r_x_codes) (Rep.ext ((((XR w).alloc _).alloc _).trans hx1) r_y_codes)).mono ?_
   rintro e w2 ⟨rfl, hx2⟩
   obtain ⟨hc2, hf2⟩ := bcell hx2
   have hz2 : w.heap.size < w2.heap.size /\ w.heap.size + 1 < w2.heap.size := by have := hx2.size; omega
   obtain ⟨hy2, hz2⟩ := hz2
   go_wp2_with fail
   refine (eqEntryS_any _ _ _ _ _ (Rep.ext (((((XR w).alloc _).alloc _).trans hx1).trans hx2) r_x_entries) (Rep.ext (((((XR w).alloc _).alloc _).trans hx1).trans hx2) r_y_entries)).mono ?_
   rintro e w3 ⟨rfl, hx3⟩
   obtain ⟨hc3, hf3⟩ := bcell hx3
   have hz3 : w.heap.size < w3.heap.size /\ w.heap.size + 1 < w3.heap.size := by have := hx3.size; omega
   obtain ⟨hy3, hz3⟩ := hz3
   go_wp2_with fail
   go_ret
   exact ⟨ret_ff fun e => H.out (by rw [e]), (((((XR w).alloc _).alloc _).trans hx1).trans hx2).trans hx3⟩
 have t_main := int_eqn h
 have H_main := LH h; clear h
 go_wp2_with fail
 refine (eqClassInfoS_any _ _ _ _ _ (Rep.ext (((XR w).alloc _).alloc _) r_x_classes) (Rep.ext (((XR w).alloc _).alloc _) r_y_classes)).mono ?_
 rintro e w1 ⟨rfl, hx1⟩
 obtain ⟨hc1, hf1⟩ := bcell hx1
 have hz1 : w.heap.size < w1.heap.size /\ w.heap.size + 1 < w1.heap.size := by have := hx1.size; simp only [World.size_alloc] at this; omega
 obtain ⟨hy1, hz1⟩ := hz1
 go_wp2_with fail
 refine (eqCodeS_any _ _ _ _ _ (Rep.ext ((((XR w).alloc _).alloc _).trans hx1) r_x_codes) (Rep.ext ((((XR w).alloc _).alloc _).trans hx1) r_y_codes)).mono ?_
 rintro e w2 ⟨rfl, hx2⟩
 obtain ⟨hc2, hf2⟩ := bcell hx2
 have hz2 : w.heap.size < w2.heap.size /\ w.heap.size + 1 < w2.heap.size := by have := hx2.size; omega
 obtain ⟨hy2, hz2⟩ := hz2
 go_wp2_with fail
 refine (eqEntryS_any _ _ _ _ _ (Rep.ext (((((XR w).alloc _).alloc _).trans hx1).trans hx2) r_x_entries) (Rep.ext (((((XR w).alloc _).alloc _).trans hx1).trans hx2) r_y_entries)).mono ?_
 rintro e w3 ⟨rfl, hx3⟩
 obtain ⟨hc3, hf3⟩ := bcell hx3
 have hz3 : w.heap.size < w3.heap.size /\ w.heap.size + 1 < w3.heap.size := by have := hx3.size; omega
 obtain ⟨hy3, hz3⟩ := hz3
 go_wp2_with fail
 go_ret
 refine ⟨ret_tt ?_, (((((XR w).alloc _).alloc _).trans hx1).trans hx2).trans hx3⟩
 cases x; cases y
 simp only [MCodeBase.mk.injEq]
 exact ⟨H_classes.out, H_codes.out, H_entries.out, H_main.out⟩
end Go.Proofs.YtlaclfeljimffaaGreatDoor
