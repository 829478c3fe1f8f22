/-
  SEVERAL TEXTS IN ONE: CONTRACTS: SizeOfExpr, DepthOfExpr, of the program and of the reference; PLAIN: what the parsers read, by fuel; what holds for all fuels that are great enough; THE PARSERS IN MEMORY: a struct of three fields: the tokens, the place, whether something was wrong.
  Conditions: those that each lemma states.
-/
import Derived.Test.YtonmcoojgkgemaaGreatDoorRows
import Derived.Test.YtonmcoojgkgemaaGreatDoorP02
import Derived.Test.YtonmcoojgkgemaaGreatDoorP12
import Derived.Test.YtonmcoojgkgemaaGreatDoorP10
namespace Go.Proofs.YtonmcoojgkgemaaGreatDoor
open Go.RowKit
set_option linter.unusedSimpArgs false
set_option linter.unusedVariables false

mutual
def MExpr.size : MExpr → Nat
  | ⟨_, _, _, _, ks⟩ => 1 + MExpr.sizeL ks
def MExpr.sizeL : List MExpr → Nat
  | [] => 0
  | k :: ks => k.size + MExpr.sizeL ks
end
mutual
def MExpr.depth : MExpr → Nat
  | ⟨_, _, _, _, ks⟩ => 1 + MExpr.depthL ks
def MExpr.depthL : List MExpr → Nat
  | [] => 0
  | k :: ks => max k.depth (MExpr.depthL ks)
end
theorem MExpr.size_eq (x : MExpr) : x.size = 1 + MExpr.sizeL x.kids := by cases x; simp only [MExpr.size]
theorem MExpr.depth_eq (x : MExpr) : x.depth = 1 + MExpr.depthL x.kids := by cases x; simp only [MExpr.depth]
theorem MExpr.sizeL_append : ∀ (xs ys : List MExpr), MExpr.sizeL (xs ++ ys) = MExpr.sizeL xs + MExpr.sizeL ys
  | [], ys => by simp [MExpr.sizeL]
  | x :: xs, ys => by simp [MExpr.sizeL, MExpr.sizeL_append xs ys]; omega
theorem MExpr.depthL_append : ∀ (xs ys : List MExpr), MExpr.depthL (xs ++ ys) = max (MExpr.depthL xs) (MExpr.depthL ys)
  | [], ys => by simp [MExpr.depthL]
  | x :: xs, ys => by simp only [List.cons_append, MExpr.depthL, MExpr.depthL_append xs ys]; omega
theorem MExpr.sizeL_succ {a : List MExpr} {k : Nat} (h : k < a.length) : MExpr.sizeL (a.take (k + 1)) = MExpr.sizeL (a.take k) + a[k].size := by
  rw [List.take_succ_eq_append_getElem h, MExpr.sizeL_append]; simp [MExpr.sizeL]
theorem MExpr.depthL_succ {a : List MExpr} {k : Nat} (h : k < a.length) : MExpr.depthL (a.take (k + 1)) = max (MExpr.depthL (a.take k)) a[k].depth := by
  rw [List.take_succ_eq_append_getElem h, MExpr.depthL_append]; simp [MExpr.depthL]
mutual
theorem MExpr.size_le : ∀ (x : MExpr), x.size ≤ 1 + x.d.bulk
  | ⟨k, t, n, ns, ks⟩ => by
    have := MExpr.sizeL_le ks
    rw [MExpr.d_eq]
    simp only [MExpr.size, D.bulk, D.bulkL, MExprs]
    simp only [List.length_map]
    omega
theorem MExpr.sizeL_le : ∀ (l : List MExpr), MExpr.sizeL l ≤ l.length + D.bulkL (l.map MExpr.d)
  | [] => by simp [MExpr.sizeL]
  | x :: xs => by
    have := MExpr.size_le x
    have := MExpr.sizeL_le xs
    simp only [MExpr.sizeL, List.map_cons, D.bulkL, List.length_cons]
    omega
end
mutual
theorem MExpr.depth_le : ∀ (x : MExpr), x.depth ≤ x.size
  | ⟨k, t, n, ns, ks⟩ => by
    have := MExpr.depthL_le ks
    simp only [MExpr.size, MExpr.depth]; omega
theorem MExpr.depthL_le : ∀ (l : List MExpr), MExpr.depthL l ≤ MExpr.sizeL l
  | [] => by simp [MExpr.sizeL, MExpr.depthL]
  | x :: xs => by
    have := MExpr.depth_le x
    have := MExpr.depthL_le xs
    simp only [MExpr.sizeL, MExpr.depthL]; omega
end
theorem MExpr.sizeL_take (a : List MExpr) (k : Nat) : MExpr.sizeL (a.take k) ≤ MExpr.sizeL a := by
  have := MExpr.sizeL_append (a.take k) (a.drop k)
  rw [List.take_append_drop] at this; omega
theorem MExpr.size_mem {a : List MExpr} {x : MExpr} (h : x ∈ a) : x.size ≤ MExpr.sizeL a := by
  induction a with
  | nil => simp at h
  | cons y ys ih =>
    simp only [MExpr.sizeL]
    rcases List.mem_cons.1 h with rfl | h
    · omega
    · have := ih h; omega

set_option maxHeartbeats 1000000 in
theorem impl_SizeOfExpr_lt : ∀ (n : Nat) (x : MExpr) (cx : List Value) (w : World), SizeOf.sizeOf x < n → x.size ≤ 1048577 → Rep w x.d cx →
    Calls Tryz.prog 67 #[.agg cx.toArray] w fun e w' => e = .returned (.int .i64 x.size) ∧ Ext w w' := by
  intro n
  induction n with
  | zero => intro x cx w h; omega
  | succ n ih =>
    intro x cx w hn hsz rx
    obtain ⟨an, cn, ak, ck, rfl, -, sx⟩ := MExpr.op_en rx
    have hk : Hid (∀ z, z ∈ x.kids → SizeOf.sizeOf z < n) := Lib.hid fun z hz => by have := MExpr.kid_lt hz; omega
    clear rx hn
    have IH := Lib.hid ih; clear ih
    obtain ⟨ao, ca, ba, oa, h1, hla, hma, pa, ha⟩ := Rep.slmap sx
    simp only [List.cons.injEq, and_true, Value.slice.injEq] at h1
    obtain ⟨rfl, -, rfl⟩ := h1
    clear sx
    unfold maxLen at hma
    rw [MExpr.size_eq] at hsz
    have Hsz := Lib.hid hsz; clear hsz
    go_enter Tryz.func67, Tryz.ntmps67
    go_wp2_with fail
    go_loopw [3, 9] (fun v i wr => ∃ (k : Nat) (q : Nat), k ≤ x.kids.length ∧ i = .int .i64 k ∧ v = .int .i64 q ∧ q ≤ 1048577 ∧ Ext w wr ∧ Hid (q = 1 + MExpr.sizeL (x.kids.take k))) (fun _ i _ => x.kids.length - (intOf i).toNat)
    case atStart => exact ⟨0, 1, Nat.zero_le _, rfl, rfl, by omega, (Ext.refl w).alloc _, Lib.hid (by simp [MExpr.sizeL])⟩
    case round =>
      obtain ⟨k, q, hk', rfl, rfl, hq, hx, hq'⟩ := hrel
      by_cases hlt : k < x.kids.length
      · obtain rfl := pa (by omega)
        obtain ⟨ea, la, c1, ra⟩ := ha k x.kids[k] (by simp [hlt])
        obtain ⟨aa0, cc0, aa1, cc1, rfl, -, -⟩ := MExpr.op_en ra
        have a0 := hx.cell (show w.cell? ⟨ba, oa + k * 5, none⟩ = some _ from c1 0 (by omega))
        have a1 := hx.cell (show w.cell? ⟨ba, oa + k * 5 + 1, none⟩ = some _ from c1 1 (by omega))
        have a2 := hx.cell (show w.cell? ⟨ba, oa + k * 5 + 2, none⟩ = some _ from c1 2 (by omega))
        have a3 := hx.cell (show w.cell? ⟨ba, oa + k * 5 + 3, none⟩ = some _ from c1 3 (by omega))
        have a4 := hx.cell (show w.cell? ⟨ba, oa + k * 5 + 4, none⟩ = some _ from c1 4 (by omega))
        clear c1 la ha pa
        have hs1 := MExpr.sizeL_succ hlt
        have hs2 := MExpr.sizeL_take x.kids (k + 1)
        have hs3 : x.kids[k].size ≤ 1048577 := by have := MExpr.size_mem (List.getElem_mem hlt); have := Hsz.out; omega
        have hs4 : q + x.kids[k].size ≤ 1048577 := by have := Hsz.out; have := hq'.out; omega
        have HS := Lib.hid hs1; clear hs1 hs2
        go_wp2_with fail
        refine (IH.out x.kids[k] _ _ (hk.out _ (List.getElem_mem hlt)) hs3 (Rep.ext (hx.alloc _) ra)).mono ?_
        clear a0 a1 a2 a3 a4
        rintro e w2 ⟨rfl, hx2⟩
        go_wp2_with fail
        go_roundw
        case rel => exact ⟨k + 1, q + x.kids[k].size, by omega, by go_num, by go_num, hs4, (hx.alloc _).trans hx2, Lib.hid (by rw [HS.out, hq'.out]; omega)⟩
        case measure => simp [intOf]; omega
      · go_wp2_with fail
        go_ret
        obtain rfl : k = x.kids.length := by omega
        exact ⟨ret_int (by have := hq'.out; rw [List.take_length] at this; rw [MExpr.size_eq, this]), hx⟩

theorem bulk_size {x : MExpr} (h : x.d.bulk ≤ 1048576) : x.size ≤ 1048577 := by have := MExpr.size_le x; omega

theorem impl_SizeOfExpr_any (x : MExpr) (cx : List Value) (w : World) (rx : Rep w x.d cx) (hb : x.size ≤ 1048577) :
    Calls Tryz.prog 67 #[.agg cx.toArray] w fun e w' => e = .returned (.int .i64 x.size) ∧ Ext w w' := impl_SizeOfExpr_lt _ x cx w (Nat.lt_succ_self _) hb rx

set_option maxHeartbeats 400000 in
theorem l1Max_any (a b : Int) (w : World) : Calls Tryz.prog 103 #[.int .i64 a, .int .i64 b] w fun e w' => e = .returned (.int .i64 (max a b)) ∧ w' = w := by
  by_cases h : b < a
  · go_enter Tryz.func103, Tryz.ntmps103
    go_wp2
    go_ret
    exact ⟨ret_int (by omega), rfl⟩
  · go_enter Tryz.func103, Tryz.ntmps103
    go_wp2
    go_ret
    exact ⟨ret_int (by omega), rfl⟩

set_option maxHeartbeats 1000000 in
theorem l3Depth_lt : ∀ (n : Nat) (x : MExpr) (cx : List Value) (w : World), SizeOf.sizeOf x < n → x.size ≤ 1048577 → Rep w x.d cx →
    Calls Tryz.prog 62 #[.agg cx.toArray] w fun e w' => e = .returned (.int .i64 x.depth) ∧ Ext w w' := by
  intro n
  induction n with
  | zero => intro x cx w h; omega
  | succ n ih =>
    intro x cx w hn hsz rx
    obtain ⟨an, cn, ak, ck, rfl, -, sx⟩ := MExpr.op_en rx
    have hk : Hid (∀ z, z ∈ x.kids → SizeOf.sizeOf z < n) := Lib.hid fun z hz => by have := MExpr.kid_lt hz; omega
    clear rx hn
    have IH := Lib.hid ih; clear ih
    obtain ⟨ao, ca, ba, oa, h1, hla, hma, pa, ha⟩ := Rep.slmap sx
    simp only [List.cons.injEq, and_true, Value.slice.injEq] at h1
    obtain ⟨rfl, -, rfl⟩ := h1
    clear sx
    unfold maxLen at hma
    rw [MExpr.size_eq] at hsz
    have Hsz := Lib.hid hsz; clear hsz
    go_enter Tryz.func62, Tryz.ntmps62
    go_wp2_with fail
    go_loopw [3, 4] (fun v i wr => ∃ (k : Nat) (q : Nat), k ≤ x.kids.length ∧ i = .int .i64 k ∧ v = .int .i64 q ∧ q ≤ 1048577 ∧ Ext w wr ∧ wr.cell? ⟨w.heap.size, 4, none⟩ = some (.slice ak x.kids.length ck) ∧ Hid (q = MExpr.depthL (x.kids.take k))) (fun _ i _ => x.kids.length - (intOf i).toNat)
    case atStart => exact ⟨0, 0, Nat.zero_le _, rfl, rfl, by omega, (Ext.refl w).alloc _, by simp, Lib.hid (by simp [MExpr.depthL])⟩
    case round =>
      obtain ⟨k, q, hk', rfl, rfl, hq, hx, m0, hq'⟩ := hrel
      by_cases hlt : k < x.kids.length
      · obtain rfl := pa (by omega)
        obtain ⟨ea, la, c1, ra⟩ := ha k x.kids[k] (by simp [hlt])
        obtain ⟨aa0, cc0, aa1, cc1, rfl, -, -⟩ := MExpr.op_en ra
        have a0 := hx.cell (show w.cell? ⟨ba, oa + k * 5, none⟩ = some _ from c1 0 (by omega))
        have a1 := hx.cell (show w.cell? ⟨ba, oa + k * 5 + 1, none⟩ = some _ from c1 1 (by omega))
        have a2 := hx.cell (show w.cell? ⟨ba, oa + k * 5 + 2, none⟩ = some _ from c1 2 (by omega))
        have a3 := hx.cell (show w.cell? ⟨ba, oa + k * 5 + 3, none⟩ = some _ from c1 3 (by omega))
        have a4 := hx.cell (show w.cell? ⟨ba, oa + k * 5 + 4, none⟩ = some _ from c1 4 (by omega))
        clear c1 la ha pa
        have hs3 : x.kids[k].size ≤ 1048577 := by have := MExpr.size_mem (List.getElem_mem hlt); have := Hsz.out; omega
        have hs4 : max (q : Int) x.kids[k].depth ≤ 1048577 ∧ 0 ≤ max (q : Int) x.kids[k].depth := by have := MExpr.depth_le x.kids[k]; omega
        obtain ⟨hs4, hs5⟩ := hs4
        have HS := Lib.hid (MExpr.depthL_succ hlt)
        go_wp2_with fail
        refine (IH.out x.kids[k] _ wr (hk.out _ (List.getElem_mem hlt)) hs3 (Rep.ext hx ra)).mono ?_
        clear a0 a1 a2 a3 a4
        rintro e w2 ⟨rfl, hx2⟩
        go_wp2_with fail
        refine (l1Max_any _ _ _).mono ?_
        rintro e w3 ⟨rfl, rfl⟩
        go_wp2_with fail
        go_roundw
        case rel => exact ⟨k + 1, max q x.kids[k].depth, by omega, by go_num, by rw [show ((max q x.kids[k].depth : Nat) : Int) = max (q : Int) x.kids[k].depth from by omega], by omega, hx.trans hx2, Ext.cell hx2 m0, Lib.hid (by rw [HS.out, hq'.out])⟩
        case measure => simp [intOf]; omega
      · go_wp2_with fail
        go_ret
        obtain rfl : k = x.kids.length := by omega
        exact ⟨ret_int (by have := hq'.out; rw [List.take_length] at this; rw [MExpr.depth_eq, this]; omega), hx⟩

set_option maxHeartbeats 1000000 in
theorem impl_DepthOfExpr_lt : ∀ (n : Nat) (x : MExpr) (cx : List Value) (w : World), SizeOf.sizeOf x < n → x.size ≤ 1048577 → Rep w x.d cx →
    Calls Tryz.prog 68 #[.agg cx.toArray] w fun e w' => e = .returned (.int .i64 x.depth) ∧ Ext w w' := by
  intro n
  induction n with
  | zero => intro x cx w h; omega
  | succ n ih =>
    intro x cx w hn hsz rx
    obtain ⟨an, cn, ak, ck, rfl, -, sx⟩ := MExpr.op_en rx
    have hk : Hid (∀ z, z ∈ x.kids → SizeOf.sizeOf z < n) := Lib.hid fun z hz => by have := MExpr.kid_lt hz; omega
    clear rx hn
    have IH := Lib.hid ih; clear ih
    obtain ⟨ao, ca, ba, oa, h1, hla, hma, pa, ha⟩ := Rep.slmap sx
    simp only [List.cons.injEq, and_true, Value.slice.injEq] at h1
    obtain ⟨rfl, -, rfl⟩ := h1
    clear sx
    unfold maxLen at hma
    rw [MExpr.size_eq] at hsz
    have Hsz := Lib.hid hsz; clear hsz
    go_enter Tryz.func68, Tryz.ntmps68
    go_wp2_with fail
    go_loopw [3, 9] (fun v i wr => ∃ (k : Nat) (q : Nat), k ≤ x.kids.length ∧ i = .int .i64 k ∧ v = .int .i64 q ∧ q ≤ 1048577 ∧ Ext w wr ∧ Hid (q = MExpr.depthL (x.kids.take k))) (fun _ i _ => x.kids.length - (intOf i).toNat)
    case atStart => exact ⟨0, 0, Nat.zero_le _, rfl, rfl, by omega, (Ext.refl w).alloc _, Lib.hid (by simp [MExpr.depthL])⟩
    case round =>
      obtain ⟨k, q, hk', rfl, rfl, hq, hx, hq'⟩ := hrel
      by_cases hlt : k < x.kids.length
      · obtain rfl := pa (by omega)
        obtain ⟨ea, la, c1, ra⟩ := ha k x.kids[k] (by simp [hlt])
        obtain ⟨aa0, cc0, aa1, cc1, rfl, -, -⟩ := MExpr.op_en ra
        have a0 := hx.cell (show w.cell? ⟨ba, oa + k * 5, none⟩ = some _ from c1 0 (by omega))
        have a1 := hx.cell (show w.cell? ⟨ba, oa + k * 5 + 1, none⟩ = some _ from c1 1 (by omega))
        have a2 := hx.cell (show w.cell? ⟨ba, oa + k * 5 + 2, none⟩ = some _ from c1 2 (by omega))
        have a3 := hx.cell (show w.cell? ⟨ba, oa + k * 5 + 3, none⟩ = some _ from c1 3 (by omega))
        have a4 := hx.cell (show w.cell? ⟨ba, oa + k * 5 + 4, none⟩ = some _ from c1 4 (by omega))
        clear c1 la ha pa
        have hs3 : x.kids[k].size ≤ 1048577 := by have := MExpr.size_mem (List.getElem_mem hlt); have := Hsz.out; omega
        have hs5 : x.kids[k].depth ≤ 1048577 := by have := MExpr.depth_le x.kids[k]; omega
        have HS := Lib.hid (MExpr.depthL_succ hlt)
        by_cases hm : (q : Int) < x.kids[k].depth
        all_goals
          go_wp2_with fail
          refine (IH.out x.kids[k] _ _ (hk.out _ (List.getElem_mem hlt)) hs3 (Rep.ext (hx.alloc _) ra)).mono ?_
          clear a0 a1 a2 a3 a4
          rintro e w2 ⟨rfl, hx2⟩
          go_wp2_with fail
          go_roundw
          case rel => exact ⟨k + 1, max q x.kids[k].depth, by omega, by go_num, by go_num, by omega, (hx.alloc _).trans hx2, Lib.hid (by rw [HS.out, hq'.out])⟩
          case measure => simp [intOf]; omega
      · go_wp2_with fail
        go_ret
        obtain rfl : k = x.kids.length := by omega
        exact ⟨ret_int (by have := hq'.out; rw [List.take_length] at this; rw [MExpr.depth_eq, this]; omega), hx⟩

theorem impl_DepthOfExpr_any (x : MExpr) (cx : List Value) (w : World) (rx : Rep w x.d cx) (hb : x.size ≤ 1048577) :
    Calls Tryz.prog 68 #[.agg cx.toArray] w fun e w' => e = .returned (.int .i64 x.depth) ∧ Ext w w' := impl_DepthOfExpr_lt _ x cx w (Nat.lt_succ_self _) hb rx

open Go.RowKit
set_option linter.unusedSimpArgs false
set_option linter.unusedVariables false

/-- The token at a place: its kind; its kind and text. -/
def tkB (ts : List MToken) (a : Nat) (k : Int) : Bool := match ts[a]? with | some t => t.kind == k | none => false
noncomputable def tkxB (ts : List MToken) (a : Nat) (k : Int) (s : ByteArray) : Bool := match ts[a]? with | some t => t.kind == k && eqB t.text s | none => false
def tkT (ts : List MToken) (a : Nat) : ByteArray := match ts[a]? with | some t => t.text | none => ⟨#[]⟩
def tkN (ts : List MToken) (a : Nat) : Int := match ts[a]? with | some t => t.number | none => 0
def asgM : ByteArray := ⟨#[58, 61]⟩
def lparM : ByteArray := ⟨#[40]⟩
def rparM : ByteArray := ⟨#[41]⟩
def lbrM : ByteArray := ⟨#[91]⟩
def rbrM : ByteArray := ⟨#[93]⟩
def semiM : ByteArray := ⟨#[59]⟩
def colM : ByteArray := ⟨#[58]⟩
def barM : ByteArray := ⟨#[124]⟩
def retM : ByteArray := ⟨#[94]⟩
def dotM : ByteArray := ⟨#[46]⟩
def eName (s : ByteArray) : MExpr := ⟨4, s, 0, [], []⟩
def eInt (n : Int) : MExpr := ⟨1, ⟨#[]⟩, n, [], []⟩
def eText (s : ByteArray) : MExpr := ⟨2, s, 0, [], []⟩
def eSym (s : ByteArray) : MExpr := ⟨3, s, 0, [], []⟩
def eAsg (s : ByteArray) (e : MExpr) : MExpr := ⟨5, s, 0, [], [e]⟩
def eMsg (s : ByteArray) (l : List MExpr) : MExpr := ⟨6, s, 0, [], l⟩
def eCasc (l : List MExpr) : MExpr := ⟨7, ⟨#[]⟩, 0, [], l⟩
def eRet (e : MExpr) : MExpr := ⟨9, ⟨#[]⟩, 0, [], [e]⟩
/-- Names one behind the other. -/
def pNames (ts : List MToken) : Nat → List ByteArray → Nat → Option (List ByteArray × Nat)
  | 0, _, _ => none
  | n + 1, l, a => if tkB ts a 1 = true then pNames ts n (l ++ [tkT ts a]) (a + 1) else some (l, a)
noncomputable def pVars (ts : List MToken) (n : Nat) (a : Nat) : Option (List ByteArray × Nat) :=
  if tkxB ts a 7 barM = true then (pNames ts n [] (a + 1)).bind fun r => if tkxB ts r.2 7 barM = true then some (r.1, r.2 + 1) else none else some ([], a)
noncomputable def pPars (ts : List MToken) : Nat → List ByteArray → Nat → Option (List ByteArray × Nat)
  | 0, _, _ => none
  | n + 1, l, a => if tkxB ts a 7 colM = true then (if tkB ts (a + 1) 1 = true then pPars ts n (l ++ [tkT ts (a + 1)]) (a + 2) else none) else some (l, a)
noncomputable def beginsB (ts : List MToken) (a : Nat) : Bool := tkB ts a 1 || tkB ts a 3 || tkB ts a 4 || tkB ts a 5 || tkxB ts a 7 lparM || tkxB ts a 7 lbrM

mutual
noncomputable def pExpr (ts : List MToken) : Nat → Nat → Option (MExpr × Nat)
  | 0, _ => none
  | n + 1, a => if (tkB ts a 1 && tkxB ts (a + 1) 7 asgM) = true then (pExpr ts n (a + 2)).bind fun r => some (eAsg (tkT ts a) r.1, r.2)
    else (pBinary ts n a).bind fun r => pWord ts n r.1 r.2.1 r.2.2
/-- Behind a binary expression: a keyword message. -/
noncomputable def pWord (ts : List MToken) : Nat → MExpr → Bool → Nat → Option (MExpr × Nat)
  | 0, _, _, _ => none
  | n + 1, e, s, a => if tkB ts a 2 = true then (pKeys ts n ⟨#[]⟩ [] a).bind fun r => pSemi ts n (eMsg r.1 (e :: r.2.1)) true r.2.2 else pSemi ts n e s a
noncomputable def pSemi (ts : List MToken) : Nat → MExpr → Bool → Nat → Option (MExpr × Nat)
  | 0, _, _, _ => none
  | n + 1, e, s, a => if tkxB ts a 7 semiM = true then (if s = true then pCasc ts n (e.kids.take 1 ++ [eMsg e.text (e.kids.drop 1)]) a else none) else some (e, a)
noncomputable def pCasc (ts : List MToken) : Nat → List MExpr → Nat → Option (MExpr × Nat)
  | 0, _, _ => none
  | n + 1, l, a => if tkxB ts a 7 semiM = true then (pMsg ts n (a + 1)).bind fun r => pCasc ts n (l ++ [r.1]) r.2 else some (eCasc l, a)
noncomputable def pMsg (ts : List MToken) : Nat → Nat → Option (MExpr × Nat)
  | 0, _ => none
  | n + 1, a => if tkB ts a 1 = true then some (eMsg (tkT ts a) [], a + 1)
    else if tkB ts a 6 = true then (pUnary ts n (a + 1)).bind fun r => some (eMsg (tkT ts a) [r.1], r.2.2)
    else if tkB ts a 2 = true then (pKeys ts n ⟨#[]⟩ [] a).bind fun r => some (eMsg r.1 r.2.1, r.2.2)
    else none
noncomputable def pKeys (ts : List MToken) : Nat → ByteArray → List MExpr → Nat → Option (ByteArray × List MExpr × Nat)
  | 0, _, _, _ => none
  | n + 1, s, l, a => if tkB ts a 2 = true then (pBinary ts n (a + 1)).bind fun r => pKeys ts n (s ++ tkT ts a) (l ++ [r.1]) r.2.2 else some (s, l, a)
noncomputable def pBinary (ts : List MToken) : Nat → Nat → Option (MExpr × Bool × Nat)
  | 0, _ => none
  | n + 1, a => (pUnary ts n a).bind fun r => pBin ts n r.1 r.2.1 r.2.2
noncomputable def pBin (ts : List MToken) : Nat → MExpr → Bool → Nat → Option (MExpr × Bool × Nat)
  | 0, _, _, _ => none
  | n + 1, e, s, a => if tkB ts a 6 = true then (pUnary ts n (a + 1)).bind fun r => pBin ts n (eMsg (tkT ts a) [e, r.1]) true r.2.2 else some (e, s, a)
noncomputable def pUnary (ts : List MToken) : Nat → Nat → Option (MExpr × Bool × Nat)
  | 0, _ => none
  | n + 1, a => (pPrim ts n a).bind fun r => pUn ts n r.1 false r.2
noncomputable def pUn (ts : List MToken) : Nat → MExpr → Bool → Nat → Option (MExpr × Bool × Nat)
  | 0, _, _, _ => none
  | n + 1, e, s, a => if tkB ts a 1 = true then pUn ts n (eMsg (tkT ts a) [e]) true (a + 1) else some (e, s, a)
noncomputable def pPrim (ts : List MToken) : Nat → Nat → Option (MExpr × Nat)
  | 0, _ => none
  | n + 1, a => if tkB ts a 1 = true then some (eName (tkT ts a), a + 1)
    else if tkB ts a 3 = true then some (eInt (tkN ts a), a + 1)
    else if tkB ts a 4 = true then some (eText (tkT ts a), a + 1)
    else if tkB ts a 5 = true then some (eSym (tkT ts a), a + 1)
    else if tkxB ts a 7 lparM = true then (pExpr ts n (a + 1)).bind fun r => if tkxB ts r.2 7 rparM = true then some (r.1, r.2 + 1) else none
    else if tkxB ts a 7 lbrM = true then pBlock ts n (a + 1)
    else none
noncomputable def pBlock (ts : List MToken) : Nat → Nat → Option (MExpr × Nat)
  | 0, _ => none
  | n + 1, a => (pBody ts n a).bind fun r => if tkxB ts r.2 7 rbrM = true then some (r.1, r.2 + 1) else none
/-- A block without its end. -/
noncomputable def pBody (ts : List MToken) : Nat → Nat → Option (MExpr × Nat)
  | 0, _ => none
  | n + 1, a => (pPars ts n [] a).bind fun p => if (p.1.length ≠ 0 ∧ tkxB ts p.2 7 barM = false) then none else
    (pVars ts n (if p.1.length ≠ 0 then p.2 + 1 else p.2)).bind fun v => (pStmts ts n [] v.2).bind fun b => some (blockM p.1 v.1 b.1, b.2)
noncomputable def pStmts (ts : List MToken) : Nat → List MExpr → Nat → Option (List MExpr × Nat)
  | 0, _, _ => none
  | n + 1, l, a => if tkxB ts a 7 retM = true then (pExpr ts n (a + 1)).bind fun r => some (l ++ [eRet r.1], if tkxB ts r.2 7 dotM = true then r.2 + 1 else r.2)
    else if beginsB ts a = true then (pExpr ts n a).bind fun r => if tkxB ts r.2 7 dotM = true then pStmts ts n (l ++ [r.1]) (r.2 + 1) else some (l ++ [r.1], r.2)
    else some (l, a)
end

/-- For all fuels that are great enough. -/
def Ev {α : Type} (f : Nat → Option α) (r : Option α) : Prop := ∃ n0, ∀ n, n0 ≤ n → f n = r
theorem Ev.uniq {α : Type} {f : Nat → Option α} {r s : Option α} (h : Ev f r) (k : Ev f s) : r = s := by
  obtain ⟨n, h⟩ := h
  obtain ⟨m, k⟩ := k
  rw [← h (max n m) (Nat.le_max_left _ _), ← k (max n m) (Nat.le_max_right _ _)]
theorem Ev.const {α : Type} (r : Option α) : Ev (fun _ => r) r := ⟨0, fun _ _ => rfl⟩
/-- One unfolding. -/
theorem Ev.step {α : Type} {f g : Nat → Option α} {r : Option α} (hf : ∀ n, f (n + 1) = g n) (h : Ev g r) : Ev f r := by
  obtain ⟨n0, h⟩ := h
  refine ⟨n0 + 1, fun n hn => ?_⟩
  obtain ⟨m, rfl⟩ : ∃ m, n = m + 1 := ⟨n - 1, by omega⟩
  rw [hf, h m (by omega)]
theorem Ev.bind {α β : Type} {f : Nat → Option α} {g : Nat → α → Option β} {x : α} {r : Option β} (h : Ev f (some x)) (k : Ev (fun n => g n x) r) : Ev (fun n => (f n).bind (g n)) r := by
  obtain ⟨n, h⟩ := h
  obtain ⟨m, k⟩ := k
  refine ⟨max n m, fun i hi => ?_⟩
  show (f i).bind (g i) = r
  rw [h i (Nat.le_trans (Nat.le_max_left _ _) hi)]
  exact k i (Nat.le_trans (Nat.le_max_right _ _) hi)
theorem Ev.bind_none {α β : Type} {f : Nat → Option α} {g : Nat → α → Option β} (h : Ev f none) : Ev (fun n => (f n).bind (g n)) none := by
  obtain ⟨n, h⟩ := h
  exact ⟨n, fun i hi => by show (f i).bind (g i) = none; rw [h i hi]; rfl⟩
/-- What a call that began right, or not, has found. -/
structure Got {α : Type} (bad : Bool) (F : Nat → Option α) (bad' : Bool) (y : α) : Prop where
  keep : bad = true → bad' = true
  no : bad = false → bad' = true → Ev F none
  yes : bad = false → bad' = false → Ev F (some y)
theorem Got.dead {α : Type} (F : Nat → Option α) (y : α) : Got true F true y := ⟨fun _ => rfl, fun h => (by cases h), fun h => (by cases h)⟩
theorem Got.ok {α : Type} {b : Bool} {F : Nat → Option α} {y : α} (h : Ev F (some y)) : Got b F b y := ⟨fun h => h, fun e k => (by rw [e] at k; cases k), fun _ _ => h⟩
theorem Got.bad {α : Type} {b : Bool} {F : Nat → Option α} (y : α) (h : Ev F none) : Got b F true y := ⟨fun _ => rfl, fun _ _ => h, fun _ k => (by cases k)⟩
/-- What is left to be done: G is the whole, F the rest. -/
structure Todo {β : Type} (bad : Bool) (G : Nat → Option β) (b : Bool) (F : Nat → Option β) : Prop where
  keep : bad = true → b = true
  no : bad = false → b = true → Ev G none
  yes : bad = false → b = false → ∀ r, Ev F r → Ev G r
theorem Todo.refl {β : Type} (b : Bool) (G : Nat → Option β) : Todo b G b G := ⟨fun h => h, fun h k => (by rw [h] at k; cases k), fun _ _ _ h => h⟩
theorem Todo.trans {β : Type} {b0 b1 b2 : Bool} {G F H : Nat → Option β} (h : Todo b0 G b1 F) (k : Todo b1 F b2 H) : Todo b0 G b2 H where
  keep e := k.keep (h.keep e)
  no e e2 := by
    cases b1 with
    | true => exact h.no e rfl
    | false => exact h.yes e rfl _ (k.no rfl e2)
  yes e e2 r hr := by
    cases b1 with
    | true => have := k.keep rfl; rw [this] at e2; cases e2
    | false => exact h.yes e rfl _ (k.yes rfl e2 r hr)
theorem Todo.step {β : Type} {b0 b : Bool} {G F H : Nat → Option β} (h : Todo b0 G b F) (hF : ∀ n, F (n + 1) = H n) : Todo b0 G b H := ⟨h.keep, h.no, fun e e2 r hr => h.yes e e2 r (Ev.step hF hr)⟩
theorem Todo.done {β : Type} {b0 b : Bool} {G F : Nat → Option β} {y : β} (h : Todo b0 G b F) (hF : ∀ n, F (n + 1) = some y) : Got b0 G b y := ⟨h.keep, h.no, fun e e2 => h.yes e e2 _ (Ev.step hF (Ev.const _))⟩
theorem Todo.fail {β : Type} {b0 b : Bool} {G F : Nat → Option β} (y : β) (h : Todo b0 G b F) (hF : ∀ n, F (n + 1) = none) : Got b0 G true y where
  keep _ := rfl
  no e _ := by
    cases b with
    | true => exact h.no e rfl
    | false => exact h.yes e rfl _ (Ev.step hF (Ev.const _))
  yes _ e := by cases e
theorem Todo.dead {β : Type} {b0 : Bool} {G F : Nat → Option β} (y : β) (h : Todo b0 G true F) : Got b0 G true y := ⟨fun _ => rfl, fun e _ => h.no e rfl, fun _ e => (by cases e)⟩
/-- What is bad stays bad, whatever is said to be left. -/
theorem Todo.bad {β : Type} {b0 : Bool} {G F H : Nat → Option β} (h : Todo b0 G true F) : Todo b0 G true H := ⟨fun _ => rfl, h.no, fun _ e => (by cases e)⟩
theorem Todo.badly {β : Type} {b0 b : Bool} {G F H : Nat → Option β} (h : Todo b0 G b F) (hF : ∀ n, F (n + 1) = none) : Todo b0 G true H where
  keep _ := rfl
  no e _ := by
    cases b with
    | true => exact h.no e rfl
    | false => exact h.yes e rfl _ (Ev.step hF (Ev.const _))
  yes _ e := by cases e
/-- A call in the course of it. -/
theorem Todo.call {α β : Type} {b0 b b' : Bool} {G F : Nat → Option β} {f : Nat → Option α} {g : Nat → α → Option β} {y : α} (h : Todo b0 G b F) (c : Got b f b' y) (hF : ∀ n, F (n + 1) = (f n).bind (g n)) : Todo b0 G b' (fun n => g n y) :=
  h.trans ⟨c.keep, fun e e2 => Ev.step hF (Ev.bind_none (c.no e e2)), fun e e2 r hr => Ev.step hF (Ev.bind (c.yes e e2) hr)⟩
theorem Todo.got {β : Type} {b0 b b' : Bool} {G F : Nat → Option β} {y : β} (h : Todo b0 G b F) (c : Got b F b' y) : Got b0 G b' y where
  keep e := c.keep (h.keep e)
  no e e2 := by
    cases b with
    | true => exact h.no e rfl
    | false => exact h.yes e rfl _ (c.no rfl e2)
  yes e e2 := by
    cases b with
    | true => have := c.keep rfl; rw [this] at e2; cases e2
    | false => exact h.yes e rfl _ (c.yes rfl e2)
/-- The kind at a place; 0: there is no token. -/
def tkK (ts : List MToken) (a : Nat) : Int := match ts[a]? with | some t => t.kind | none => 0
theorem tkB_eq {ts : List MToken} {a : Nat} {k : Int} (hk : k ≠ 0) : tkB ts a k = (tkK ts a == k) := by
  unfold tkB tkK
  cases ts[a]? with
  | some t => rfl
  | none => simp; exact fun h => hk h.symm
theorem tkxB_eq {ts : List MToken} {a : Nat} {k : Int} {s : ByteArray} (hk : k ≠ 0) : tkxB ts a k s = (tkK ts a == k && eqB (tkT ts a) s) := by
  unfold tkxB tkK tkT
  cases ts[a]? with
  | some t => rfl
  | none =>
    have : ((0 : Int) == k) = false := by simp; exact fun h => hk h.symm
    simp [this]
theorem tkK_some {ts : List MToken} {a : Nat} {t : MToken} (h : ts[a]? = some t) : tkK ts a = t.kind ∧ tkT ts a = t.text ∧ tkN ts a = t.number := by
  unfold tkK tkT tkN
  rw [h]
  exact ⟨rfl, rfl, rfl⟩
theorem tkK_none {ts : List MToken} {a : Nat} (h : ts.length ≤ a) : tkK ts a = 0 ∧ tkT ts a = ⟨#[]⟩ ∧ tkN ts a = 0 := by
  unfold tkK tkT tkN
  rw [List.getElem?_eq_none h]
  exact ⟨rfl, rfl, rfl⟩
theorem tkK_lt {ts : List MToken} {a : Nat} (h : tkK ts a ≠ 0) : a < ts.length := by
  apply Decidable.byContradiction
  intro hn
  exact h (tkK_none (by omega)).1

open Go.RowKit
set_option linter.unusedSimpArgs false
set_option linter.unusedVariables false

/-- A parser: its struct in block B; its tokens in block tb. -/
structure Prs (ty : TypeId) (B tb to_ cap : Nat) (ao : Option Addr) (ts : List MToken) (w : World) (a : Nat) (b : Bool) : Prop where
  own : Own w B ty #[.slice ao ts.length cap, .int .i64 a, .bool b]
  pa : 0 < ts.length → ao = some ⟨tb, to_, none⟩
  tk : ∀ (i : Nat) (t : MToken), ts[i]? = some t → w.cell? ⟨tb, to_ + i * 3, none⟩ = some (.int .i64 t.kind) ∧ w.cell? ⟨tb, to_ + i * 3 + 1, none⟩ = some (.string t.text) ∧ w.cell? ⟨tb, to_ + i * 3 + 2, none⟩ = some (.int .i64 t.number)
  ne : 0 < ts.length → tb ≠ B
  cp : ts.length ≤ cap ∧ cap ≤ 9223372036854775807
  len : ts.length ≤ 800
  sz : ∀ t, t ∈ ts → t.text.size ≤ 100000
  tq : ∀ t, t ∈ ts → (t.kind ≠ 3 → t.number = 0) ∧ ((t.kind = 1 ∨ t.kind = 2 ∨ t.kind = 6) → t.text.size ≠ 0)
  le : a ≤ ts.length + 1
  ok : b = false → a ≤ ts.length
section
variable {ty : TypeId} {B tb to_ cap : Nat} {ao : Option Addr} {ts : List MToken} {w w' : World} {a : Nat} {b : Bool}
theorem Prs.tl (h : Prs ty B tb to_ cap ao ts w a b) (h0 : 0 < ts.length) : tb < w.heap.size := lt_of_cell (h.tk 0 _ (List.getElem?_eq_getElem h0)).1
theorem Prs.touch {fp : List Nat} (h : Prs ty B tb to_ cap ao ts w a b) (T : Touch w w' fp) (hB : B ∉ fp) (ht : 0 < ts.length → tb ∉ fp) : Prs ty B tb to_ cap ao ts w' a b :=
  ⟨h.own.touch' T hB, h.pa, fun i t hi => by
    have h0 : 0 < ts.length := by have := (List.getElem?_eq_some_iff.1 hi).1; omega
    obtain ⟨h1, h2, h3⟩ := h.tk i t hi
    exact ⟨T.cellAt (ht h0) h1, T.cellAt (ht h0) h2, T.cellAt (ht h0) h3⟩, h.ne, h.cp, h.len, h.sz, h.tq, h.le, h.ok⟩
theorem Prs.ext (h : Prs ty B tb to_ cap ao ts w a b) (x : Ext w w') : Prs ty B tb to_ cap ao ts w' a b := h.touch (Touch.of_ext x []) (by simp) (fun _ => by simp)
/-- What is written in blocks made since. -/
theorem Prs.late {w0 : World} {fp : List Nat} {a0 : Nat} {b0 : Bool} (h0 : Prs ty B tb to_ cap ao ts w0 a0 b0) (h : Prs ty B tb to_ cap ao ts w a b) (T : Touch w w' fp) (hf : ∀ k, k ∈ fp → w0.heap.size ≤ k) : Prs ty B tb to_ cap ao ts w' a b :=
  h.touch T (fun hm => by have := hf B hm; have := h0.own.lt; omega) (fun hp hm => by have := hf tb hm; have := h0.tl hp; omega)
theorem Prs.setAt (h : Prs ty B tb to_ cap ao ts w a b) (a' : Nat) (hl : a' ≤ ts.length + 1) (hk : b = false → a' ≤ ts.length) : Prs ty B tb to_ cap ao ts (w.setCell ⟨B, 1, none⟩ (.int .i64 a')) a' b ∧ Touch w (w.setCell ⟨B, 1, none⟩ (.int .i64 a')) [B] := by
  have T : Touch w (w.setCell ⟨B, 1, none⟩ (.int .i64 a')) [B] := (Touch.of_ext (Ext.refl w) [B]).setCell (by simp) _
  refine ⟨⟨h.own.set 1 _, h.pa, fun i t hi => ?_, h.ne, h.cp, h.len, h.sz, h.tq, hl, hk⟩, T⟩
  have h0 : 0 < ts.length := by have := (List.getElem?_eq_some_iff.1 hi).1; omega
  have hn : tb ∉ [B] := by simpa using h.ne h0
  obtain ⟨h1, h2, h3⟩ := h.tk i t hi
  exact ⟨T.cellAt hn h1, T.cellAt hn h2, T.cellAt hn h3⟩
theorem Prs.setBad (h : Prs ty B tb to_ cap ao ts w a b) : Prs ty B tb to_ cap ao ts (w.setCell ⟨B, 2, none⟩ (.bool true)) a true ∧ Touch w (w.setCell ⟨B, 2, none⟩ (.bool true)) [B] := by
  have T : Touch w (w.setCell ⟨B, 2, none⟩ (.bool true)) [B] := (Touch.of_ext (Ext.refl w) [B]).setCell (by simp) _
  refine ⟨⟨h.own.set 2 _, h.pa, fun i t hi => ?_, h.ne, h.cp, h.len, h.sz, h.tq, h.le, fun e => (by cases e)⟩, T⟩
  have h0 : 0 < ts.length := by have := (List.getElem?_eq_some_iff.1 hi).1; omega
  have hn : tb ∉ [B] := by simpa using h.ne h0
  obtain ⟨h1, h2, h3⟩ := h.tk i t hi
  exact ⟨T.cellAt hn h1, T.cellAt hn h2, T.cellAt hn h3⟩
/-- A place behind the end is bad. -/
theorem Prs.setBoth (h : Prs ty B tb to_ cap ao ts w a b) (a' : Nat) (hl : a' ≤ ts.length + 1) : Prs ty B tb to_ cap ao ts ((w.setCell ⟨B, 1, none⟩ (.int .i64 a')).setCell ⟨B, 2, none⟩ (.bool true)) a' true ∧ Touch w ((w.setCell ⟨B, 1, none⟩ (.int .i64 a')).setCell ⟨B, 2, none⟩ (.bool true)) [B] := by
  have T : Touch w ((w.setCell ⟨B, 1, none⟩ (.int .i64 a')).setCell ⟨B, 2, none⟩ (.bool true)) [B] := ((Touch.of_ext (Ext.refl w) [B]).setCell (by simp) _).setCell (by simp) _
  refine ⟨⟨(h.own.set 1 _).set 2 _, h.pa, fun i t hi => ?_, h.ne, h.cp, h.len, h.sz, h.tq, hl, fun e => (by cases e)⟩, T⟩
  have h0 : 0 < ts.length := by have := (List.getElem?_eq_some_iff.1 hi).1; omega
  have hn : tb ∉ [B] := by simpa using h.ne h0
  obtain ⟨h1, h2, h3⟩ := h.tk i t hi
  exact ⟨T.cellAt hn h1, T.cellAt hn h2, T.cellAt hn h3⟩
theorem Prs.num0 (h : Prs ty B tb to_ cap ao ts w a b) {i : Nat} (hk : tkK ts i ≠ 3) : tkN ts i = 0 := by
  unfold tkK at hk
  unfold tkN
  cases hi : ts[i]? with
  | none => rfl
  | some t => rw [hi] at hk; exact (h.tq t (List.mem_of_getElem? hi)).1 hk
theorem Prs.words (h : Prs ty B tb to_ cap ao ts w a b) {i : Nat} (hk : tkK ts i = 1 ∨ tkK ts i = 2 ∨ tkK ts i = 6) : (tkT ts i).size ≠ 0 := by
  unfold tkK at hk
  unfold tkT
  cases hi : ts[i]? with
  | none => rw [hi] at hk; rcases hk with hk | hk | hk <;> cases hk
  | some t => rw [hi] at hk; exact (h.tq t (List.mem_of_getElem? hi)).2 hk
theorem Prs.word (h : Prs ty B tb to_ cap ao ts w a b) {i : Nat} (hk : tkK ts i = 2) : (tkT ts i).size ≠ 0 := h.words (Or.inr (Or.inl hk))
theorem Prs.cells (h : Prs ty B tb to_ cap ao ts w a b) : w.cell? ⟨B, 0, none⟩ = some (.slice ao ts.length cap) ∧ w.cell? ⟨B, 1, none⟩ = some (.int .i64 a) ∧ w.cell? ⟨B, 2, none⟩ = some (.bool b) := ⟨h.own.cell 0, h.own.cell 1, h.own.cell 2⟩
theorem Prs.txt (h : Prs ty B tb to_ cap ao ts w a b) (i : Nat) : (tkT ts i).size ≤ 100000 := by
  unfold tkT
  cases hi : ts[i]? with
  | none => exact Nat.zero_le _
  | some t => exact h.sz t (List.mem_of_getElem? hi)
/-- The token at a place, in memory. -/
theorem Prs.at (h : Prs ty B tb to_ cap ao ts w a b) {i : Nat} (hi : i < ts.length) : ao = some ⟨tb, to_, none⟩ ∧ w.cell? ⟨tb, to_ + i * 3, none⟩ = some (.int .i64 (tkK ts i)) ∧ w.cell? ⟨tb, to_ + i * 3 + 1, none⟩ = some (.string (tkT ts i)) ∧ w.cell? ⟨tb, to_ + i * 3 + 2, none⟩ = some (.int .i64 (tkN ts i)) := by
  have hg := List.getElem?_eq_getElem hi
  obtain ⟨e1, e2, e3⟩ := tkK_some hg
  rw [e1, e2, e3]
  exact ⟨h.pa (by omega), h.tk i _ hg⟩
end

end Go.Proofs.YtonmcoojgkgemaaGreatDoor
