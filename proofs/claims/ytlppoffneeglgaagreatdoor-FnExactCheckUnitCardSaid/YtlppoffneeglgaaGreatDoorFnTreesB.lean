/-
  CONTRACTS: SizeOfExpr, DepthOfExpr, of the program and of the reference.
  Conditions: those that each lemma states.
-/
import Derived.Test.YtlppoffneeglgaaGreatDoorRows
import Derived.Test.YtlppoffneeglgaaGreatDoorTypes
namespace Go.Proofs.YtlppoffneeglgaaGreatDoor
open Go.RowKit
set_option linter.unusedSimpArgs false
set_option linter.unusedVariables false

mutual
def MExpr.size : MExpr → Nat
  | ⟨_, _, _, _, ks⟩ => 1 + MExpr.sizeL ks
def MExpr.sizeL : List MExpr → Nat
  | [] => 0
  | k :: ks => k.size + MExpr.sizeL ks
end
mutual
def MExpr.depth : MExpr → Nat
  | ⟨_, _, _, _, ks⟩ => 1 + MExpr.depthL ks
def MExpr.depthL : List MExpr → Nat
  | [] => 0
  | k :: ks => max k.depth (MExpr.depthL ks)
end
theorem MExpr.size_eq (x : MExpr) : x.size = 1 + MExpr.sizeL x.kids := by cases x; simp only [MExpr.size]
theorem MExpr.depth_eq (x : MExpr) : x.depth = 1 + MExpr.depthL x.kids := by cases x; simp only [MExpr.depth]
theorem MExpr.sizeL_append : ∀ (xs ys : List MExpr), MExpr.sizeL (xs ++ ys) = MExpr.sizeL xs + MExpr.sizeL ys
  | [], ys => by simp [MExpr.sizeL]
  | x :: xs, ys => by simp [MExpr.sizeL, MExpr.sizeL_append xs ys]; omega
theorem MExpr.depthL_append : ∀ (xs ys : List MExpr), MExpr.depthL (xs ++ ys) = max (MExpr.depthL xs) (MExpr.depthL ys)
  | [], ys => by simp [MExpr.depthL]
  | x :: xs, ys => by simp only [List.cons_append, MExpr.depthL, MExpr.depthL_append xs ys]; omega
theorem MExpr.sizeL_succ {a : List MExpr} {k : Nat} (h : k < a.length) : MExpr.sizeL (a.take (k + 1)) = MExpr.sizeL (a.take k) + a[k].size := by
  rw [List.take_succ_eq_append_getElem h, MExpr.sizeL_append]; simp [MExpr.sizeL]
theorem MExpr.depthL_succ {a : List MExpr} {k : Nat} (h : k < a.length) : MExpr.depthL (a.take (k + 1)) = max (MExpr.depthL (a.take k)) a[k].depth := by
  rw [List.take_succ_eq_append_getElem h, MExpr.depthL_append]; simp [MExpr.depthL]
mutual
theorem MExpr.size_le : ∀ (x : MExpr), x.size ≤ 1 + x.d.bulk
  | ⟨k, t, n, ns, ks⟩ => by
    have := MExpr.sizeL_le ks
    rw [MExpr.d_eq]
    simp only [MExpr.size, D.bulk, D.bulkL, MExprs]
    simp only [List.length_map]
    omega
theorem MExpr.sizeL_le : ∀ (l : List MExpr), MExpr.sizeL l ≤ l.length + D.bulkL (l.map MExpr.d)
  | [] => by simp [MExpr.sizeL]
  | x :: xs => by
    have := MExpr.size_le x
    have := MExpr.sizeL_le xs
    simp only [MExpr.sizeL, List.map_cons, D.bulkL, List.length_cons]
    omega
end
mutual
theorem MExpr.depth_le : ∀ (x : MExpr), x.depth ≤ x.size
  | ⟨k, t, n, ns, ks⟩ => by
    have := MExpr.depthL_le ks
    simp only [MExpr.size, MExpr.depth]; omega
theorem MExpr.depthL_le : ∀ (l : List MExpr), MExpr.depthL l ≤ MExpr.sizeL l
  | [] => by simp [MExpr.sizeL, MExpr.depthL]
  | x :: xs => by
    have := MExpr.depth_le x
    have := MExpr.depthL_le xs
    simp only [MExpr.sizeL, MExpr.depthL]; omega
end
theorem MExpr.sizeL_take (a : List MExpr) (k : Nat) : MExpr.sizeL (a.take k) ≤ MExpr.sizeL a := by
  have := MExpr.sizeL_append (a.take k) (a.drop k)
  rw [List.take_append_drop] at this; omega
theorem MExpr.size_mem {a : List MExpr} {x : MExpr} (h : x ∈ a) : x.size ≤ MExpr.sizeL a := by
  induction a with
  | nil => simp at h
  | cons y ys ih =>
    simp only [MExpr.sizeL]
    rcases List.mem_cons.1 h with rfl | h
    · omega
    · have := ih h; omega

set_option maxHeartbeats 1000000 in
theorem impl_SizeOfExpr_lt : ∀ (n : Nat) (x : MExpr) (cx : List Value) (w : World), SizeOf.sizeOf x < n → x.size ≤ 1048577 → Rep w x.d cx →
    Calls Tryz.prog 78 #[.agg cx.toArray] w fun e w' => e = .returned (.int .i64 x.size) ∧ Ext w w' := by
  intro n
  induction n with
  | zero => intro x cx w h; omega
  | succ n ih =>
    intro x cx w hn hsz rx
    obtain ⟨an, cn, ak, ck, rfl, -, sx⟩ := MExpr.op_en rx
    have hk : Hid (∀ z, z ∈ x.kids → SizeOf.sizeOf z < n) := Lib.hid fun z hz => by have := MExpr.kid_lt hz; omega
    clear rx hn
    have IH := Lib.hid ih; clear ih
    obtain ⟨ao, ca, ba, oa, h1, hla, hma, pa, ha⟩ := Rep.slmap sx
    simp only [List.cons.injEq, and_true, Value.slice.injEq] at h1
    obtain ⟨rfl, -, rfl⟩ := h1
    clear sx
    unfold maxLen at hma
    rw [MExpr.size_eq] at hsz
    have Hsz := Lib.hid hsz; clear hsz
    go_enter Tryz.func78, Tryz.ntmps78
    go_wp2_with fail
    go_loopw [3, 9] (fun v i wr => ∃ (k : Nat) (q : Nat), k ≤ x.kids.length ∧ i = .int .i64 k ∧ v = .int .i64 q ∧ q ≤ 1048577 ∧ Ext w wr ∧ Hid (q = 1 + MExpr.sizeL (x.kids.take k))) (fun _ i _ => x.kids.length - (intOf i).toNat)
    case atStart => exact ⟨0, 1, Nat.zero_le _, rfl, rfl, by omega, (Ext.refl w).alloc _, Lib.hid (by simp [MExpr.sizeL])⟩
    case round =>
      obtain ⟨k, q, hk', rfl, rfl, hq, hx, hq'⟩ := hrel
      by_cases hlt : k < x.kids.length
      · obtain rfl := pa (by omega)
        obtain ⟨ea, la, c1, ra⟩ := ha k x.kids[k] (by simp [hlt])
        obtain ⟨aa0, cc0, aa1, cc1, rfl, -, -⟩ := MExpr.op_en ra
        have a0 := hx.cell (show w.cell? ⟨ba, oa + k * 5, none⟩ = some _ from c1 0 (by omega))
        have a1 := hx.cell (show w.cell? ⟨ba, oa + k * 5 + 1, none⟩ = some _ from c1 1 (by omega))
        have a2 := hx.cell (show w.cell? ⟨ba, oa + k * 5 + 2, none⟩ = some _ from c1 2 (by omega))
        have a3 := hx.cell (show w.cell? ⟨ba, oa + k * 5 + 3, none⟩ = some _ from c1 3 (by omega))
        have a4 := hx.cell (show w.cell? ⟨ba, oa + k * 5 + 4, none⟩ = some _ from c1 4 (by omega))
        clear c1 la ha pa
        have hs1 := MExpr.sizeL_succ hlt
        have hs2 := MExpr.sizeL_take x.kids (k + 1)
        have hs3 : x.kids[k].size ≤ 1048577 := by have := MExpr.size_mem (List.getElem_mem hlt); have := Hsz.out; omega
        have hs4 : q + x.kids[k].size ≤ 1048577 := by have := Hsz.out; have := hq'.out; omega
        have HS := Lib.hid hs1; clear hs1 hs2
        go_wp2_with fail
        refine (IH.out x.kids[k] _ _ (hk.out _ (List.getElem_mem hlt)) hs3 (Rep.ext (hx.alloc _) ra)).mono ?_
        clear a0 a1 a2 a3 a4
        rintro e w2 ⟨rfl, hx2⟩
        go_wp2_with fail
        go_roundw
        case rel => exact ⟨k + 1, q + x.kids[k].size, by omega, by go_num, by go_num, hs4, (hx.alloc _).trans hx2, Lib.hid (by rw [HS.out, hq'.out]; omega)⟩
        case measure => simp [intOf]; omega
      · go_wp2_with fail
        go_ret
        obtain rfl : k = x.kids.length := by omega
        exact ⟨ret_int (by have := hq'.out; rw [List.take_length] at this; rw [MExpr.size_eq, this]), hx⟩

theorem bulk_size {x : MExpr} (h : x.d.bulk ≤ 1048576) : x.size ≤ 1048577 := by have := MExpr.size_le x; omega

theorem impl_SizeOfExpr_any (x : MExpr) (cx : List Value) (w : World) (rx : Rep w x.d cx) (hb : x.size ≤ 1048577) :
    Calls Tryz.prog 78 #[.agg cx.toArray] w fun e w' => e = .returned (.int .i64 x.size) ∧ Ext w w' := impl_SizeOfExpr_lt _ x cx w (Nat.lt_succ_self _) hb rx

set_option maxHeartbeats 400000 in
theorem l1Max_any (a b : Int) (w : World) : Calls Tryz.prog 72 #[.int .i64 a, .int .i64 b] w fun e w' => e = .returned (.int .i64 (max a b)) ∧ w' = w := by
  by_cases h : b < a
  · go_enter Tryz.func72, Tryz.ntmps72
    go_wp2
    go_ret
    exact ⟨ret_int (by omega), rfl⟩
  · go_enter Tryz.func72, Tryz.ntmps72
    go_wp2
    go_ret
    exact ⟨ret_int (by omega), rfl⟩

set_option maxHeartbeats 1000000 in
theorem l3Depth_lt : ∀ (n : Nat) (x : MExpr) (cx : List Value) (w : World), SizeOf.sizeOf x < n → x.size ≤ 1048577 → Rep w x.d cx →
    Calls Tryz.prog 53 #[.agg cx.toArray] w fun e w' => e = .returned (.int .i64 x.depth) ∧ Ext w w' := by
  intro n
  induction n with
  | zero => intro x cx w h; omega
  | succ n ih =>
    intro x cx w hn hsz rx
    obtain ⟨an, cn, ak, ck, rfl, -, sx⟩ := MExpr.op_en rx
    have hk : Hid (∀ z, z ∈ x.kids → SizeOf.sizeOf z < n) := Lib.hid fun z hz => by have := MExpr.kid_lt hz; omega
    clear rx hn
    have IH := Lib.hid ih; clear ih
    obtain ⟨ao, ca, ba, oa, h1, hla, hma, pa, ha⟩ := Rep.slmap sx
    simp only [List.cons.injEq, and_true, Value.slice.injEq] at h1
    obtain ⟨rfl, -, rfl⟩ := h1
    clear sx
    unfold maxLen at hma
    rw [MExpr.size_eq] at hsz
    have Hsz := Lib.hid hsz; clear hsz
    go_enter Tryz.func53, Tryz.ntmps53
    go_wp2_with fail
    go_loopw [3, 4] (fun v i wr => ∃ (k : Nat) (q : Nat), k ≤ x.kids.length ∧ i = .int .i64 k ∧ v = .int .i64 q ∧ q ≤ 1048577 ∧ Ext w wr ∧ wr.cell? ⟨w.heap.size, 4, none⟩ = some (.slice ak x.kids.length ck) ∧ Hid (q = MExpr.depthL (x.kids.take k))) (fun _ i _ => x.kids.length - (intOf i).toNat)
    case atStart => exact ⟨0, 0, Nat.zero_le _, rfl, rfl, by omega, (Ext.refl w).alloc _, by simp, Lib.hid (by simp [MExpr.depthL])⟩
    case round =>
      obtain ⟨k, q, hk', rfl, rfl, hq, hx, m0, hq'⟩ := hrel
      by_cases hlt : k < x.kids.length
      · obtain rfl := pa (by omega)
        obtain ⟨ea, la, c1, ra⟩ := ha k x.kids[k] (by simp [hlt])
        obtain ⟨aa0, cc0, aa1, cc1, rfl, -, -⟩ := MExpr.op_en ra
        have a0 := hx.cell (show w.cell? ⟨ba, oa + k * 5, none⟩ = some _ from c1 0 (by omega))
        have a1 := hx.cell (show w.cell? ⟨ba, oa + k * 5 + 1, none⟩ = some _ from c1 1 (by omega))
        have a2 := hx.cell (show w.cell? ⟨ba, oa + k * 5 + 2, none⟩ = some _ from c1 2 (by omega))
        have a3 := hx.cell (show w.cell? ⟨ba, oa + k * 5 + 3, none⟩ = some _ from c1 3 (by omega))
        have a4 := hx.cell (show w.cell? ⟨ba, oa + k * 5 + 4, none⟩ = some _ from c1 4 (by omega))
        clear c1 la ha pa
        have hs3 : x.kids[k].size ≤ 1048577 := by have := MExpr.size_mem (List.getElem_mem hlt); have := Hsz.out; omega
        have hs4 : max (q : Int) x.kids[k].depth ≤ 1048577 ∧ 0 ≤ max (q : Int) x.kids[k].depth := by have := MExpr.depth_le x.kids[k]; omega
        obtain ⟨hs4, hs5⟩ := hs4
        have HS := Lib.hid (MExpr.depthL_succ hlt)
        go_wp2_with fail
        refine (IH.out x.kids[k] _ wr (hk.out _ (List.getElem_mem hlt)) hs3 (Rep.ext hx ra)).mono ?_
        clear a0 a1 a2 a3 a4
        rintro e w2 ⟨rfl, hx2⟩
        go_wp2_with fail
        refine (l1Max_any _ _ _).mono ?_
        rintro e w3 ⟨rfl, rfl⟩
        go_wp2_with fail
        go_roundw
        case rel => exact ⟨k + 1, max q x.kids[k].depth, by omega, by go_num, by rw [show ((max q x.kids[k].depth : Nat) : Int) = max (q : Int) x.kids[k].depth from by omega], by omega, hx.trans hx2, Ext.cell hx2 m0, Lib.hid (by rw [HS.out, hq'.out])⟩
        case measure => simp [intOf]; omega
      · go_wp2_with fail
        go_ret
        obtain rfl : k = x.kids.length := by omega
        exact ⟨ret_int (by have := hq'.out; rw [List.take_length] at this; rw [MExpr.depth_eq, this]; omega), hx⟩

set_option maxHeartbeats 1000000 in
theorem impl_DepthOfExpr_lt : ∀ (n : Nat) (x : MExpr) (cx : List Value) (w : World), SizeOf.sizeOf x < n → x.size ≤ 1048577 → Rep w x.d cx →
    Calls Tryz.prog 79 #[.agg cx.toArray] w fun e w' => e = .returned (.int .i64 x.depth) ∧ Ext w w' := by
  intro n
  induction n with
  | zero => intro x cx w h; omega
  | succ n ih =>
    intro x cx w hn hsz rx
    obtain ⟨an, cn, ak, ck, rfl, -, sx⟩ := MExpr.op_en rx
    have hk : Hid (∀ z, z ∈ x.kids → SizeOf.sizeOf z < n) := Lib.hid fun z hz => by have := MExpr.kid_lt hz; omega
    clear rx hn
    have IH := Lib.hid ih; clear ih
    obtain ⟨ao, ca, ba, oa, h1, hla, hma, pa, ha⟩ := Rep.slmap sx
    simp only [List.cons.injEq, and_true, Value.slice.injEq] at h1
    obtain ⟨rfl, -, rfl⟩ := h1
    clear sx
    unfold maxLen at hma
    rw [MExpr.size_eq] at hsz
    have Hsz := Lib.hid hsz; clear hsz
    go_enter Tryz.func79, Tryz.ntmps79
    go_wp2_with fail
    go_loopw [3, 9] (fun v i wr => ∃ (k : Nat) (q : Nat), k ≤ x.kids.length ∧ i = .int .i64 k ∧ v = .int .i64 q ∧ q ≤ 1048577 ∧ Ext w wr ∧ Hid (q = MExpr.depthL (x.kids.take k))) (fun _ i _ => x.kids.length - (intOf i).toNat)
    case atStart => exact ⟨0, 0, Nat.zero_le _, rfl, rfl, by omega, (Ext.refl w).alloc _, Lib.hid (by simp [MExpr.depthL])⟩
    case round =>
      obtain ⟨k, q, hk', rfl, rfl, hq, hx, hq'⟩ := hrel
      by_cases hlt : k < x.kids.length
      · obtain rfl := pa (by omega)
        obtain ⟨ea, la, c1, ra⟩ := ha k x.kids[k] (by simp [hlt])
        obtain ⟨aa0, cc0, aa1, cc1, rfl, -, -⟩ := MExpr.op_en ra
        have a0 := hx.cell (show w.cell? ⟨ba, oa + k * 5, none⟩ = some _ from c1 0 (by omega))
        have a1 := hx.cell (show w.cell? ⟨ba, oa + k * 5 + 1, none⟩ = some _ from c1 1 (by omega))
        have a2 := hx.cell (show w.cell? ⟨ba, oa + k * 5 + 2, none⟩ = some _ from c1 2 (by omega))
        have a3 := hx.cell (show w.cell? ⟨ba, oa + k * 5 + 3, none⟩ = some _ from c1 3 (by omega))
        have a4 := hx.cell (show w.cell? ⟨ba, oa + k * 5 + 4, none⟩ = some _ from c1 4 (by omega))
        clear c1 la ha pa
        have hs3 : x.kids[k].size ≤ 1048577 := by have := MExpr.size_mem (List.getElem_mem hlt); have := Hsz.out; omega
        have hs5 : x.kids[k].depth ≤ 1048577 := by have := MExpr.depth_le x.kids[k]; omega
        have HS := Lib.hid (MExpr.depthL_succ hlt)
        by_cases hm : (q : Int) < x.kids[k].depth
        all_goals
          go_wp2_with fail
          refine (IH.out x.kids[k] _ _ (hk.out _ (List.getElem_mem hlt)) hs3 (Rep.ext (hx.alloc _) ra)).mono ?_
          clear a0 a1 a2 a3 a4
          rintro e w2 ⟨rfl, hx2⟩
          go_wp2_with fail
          go_roundw
          case rel => exact ⟨k + 1, max q x.kids[k].depth, by omega, by go_num, by go_num, by omega, (hx.alloc _).trans hx2, Lib.hid (by rw [HS.out, hq'.out])⟩
          case measure => simp [intOf]; omega
      · go_wp2_with fail
        go_ret
        obtain rfl : k = x.kids.length := by omega
        exact ⟨ret_int (by have := hq'.out; rw [List.take_length] at this; rw [MExpr.depth_eq, this]; omega), hx⟩

theorem impl_DepthOfExpr_any (x : MExpr) (cx : List Value) (w : World) (rx : Rep w x.d cx) (hb : x.size ≤ 1048577) :
    Calls Tryz.prog 79 #[.agg cx.toArray] w fun e w' => e = .returned (.int .i64 x.depth) ∧ Ext w w' := impl_DepthOfExpr_lt _ x cx w (Nat.lt_succ_self _) hb rx

end Go.Proofs.YtlppoffneeglgaaGreatDoor
