/-
  CONTRACTS: sizes and limits of core trees, of the program and of the reference.
  Conditions: those that each lemma states.
-/
import Derived.Test.YtdngmifgglbbpaaGreatDoorRows
import Derived.Test.YtdngmifgglbbpaaGreatDoorExprOk
namespace Go.Proofs.YtdngmifgglbbpaaGreatDoor
open Go.RowKit
set_option linter.unusedSimpArgs false
set_option linter.unusedVariables false

mutual
def MCore.nodes : MCore → Nat
  | ⟨_, _, _, _, ks⟩ => 1 + MCore.nodesL ks
def MCore.nodesL : List MCore → Nat
  | [] => 0
  | k :: ks => k.nodes + MCore.nodesL ks
end
mutual
def MCore.deep : MCore → Nat
  | ⟨_, _, _, _, ks⟩ => 1 + MCore.deepL ks
def MCore.deepL : List MCore → Nat
  | [] => 0
  | k :: ks => max k.deep (MCore.deepL ks)
end
theorem MCore.nodes_eq (x : MCore) : x.nodes = 1 + MCore.nodesL x.kids := by cases x; simp only [MCore.nodes]
theorem MCore.deep_eq (x : MCore) : x.deep = 1 + MCore.deepL x.kids := by cases x; simp only [MCore.deep]
theorem MCore.nodesL_append : ∀ (xs ys : List MCore), MCore.nodesL (xs ++ ys) = MCore.nodesL xs + MCore.nodesL ys
  | [], ys => by simp [MCore.nodesL]
  | x :: xs, ys => by simp [MCore.nodesL, MCore.nodesL_append xs ys]; omega
theorem MCore.deepL_append : ∀ (xs ys : List MCore), MCore.deepL (xs ++ ys) = max (MCore.deepL xs) (MCore.deepL ys)
  | [], ys => by simp [MCore.deepL]
  | x :: xs, ys => by simp only [List.cons_append, MCore.deepL, MCore.deepL_append xs ys]; omega
theorem MCore.nodesL_succ {a : List MCore} {k : Nat} (h : k < a.length) : MCore.nodesL (a.take (k + 1)) = MCore.nodesL (a.take k) + a[k].nodes := by
  rw [List.take_succ_eq_append_getElem h, MCore.nodesL_append]; simp [MCore.nodesL]
theorem MCore.deepL_succ {a : List MCore} {k : Nat} (h : k < a.length) : MCore.deepL (a.take (k + 1)) = max (MCore.deepL (a.take k)) a[k].deep := by
  rw [List.take_succ_eq_append_getElem h, MCore.deepL_append]; simp [MCore.deepL]
mutual
theorem MCore.nodes_le : ∀ (x : MCore), x.nodes ≤ 1 + x.d.bulk
  | ⟨k, t, n, ns, ks⟩ => by
    have := MCore.nodesL_le ks
    rw [MCore.d_eq]
    simp only [MCore.nodes, D.bulk, D.bulkL, MCores]
    simp only [List.length_map]
    omega
theorem MCore.nodesL_le : ∀ (l : List MCore), MCore.nodesL l ≤ l.length + D.bulkL (l.map MCore.d)
  | [] => by simp [MCore.nodesL]
  | x :: xs => by
    have := MCore.nodes_le x
    have := MCore.nodesL_le xs
    simp only [MCore.nodesL, List.map_cons, D.bulkL, List.length_cons]
    omega
end
mutual
theorem MCore.deep_le : ∀ (x : MCore), x.deep ≤ x.nodes
  | ⟨k, t, n, ns, ks⟩ => by
    have := MCore.deepL_le ks
    simp only [MCore.nodes, MCore.deep]; omega
theorem MCore.deepL_le : ∀ (l : List MCore), MCore.deepL l ≤ MCore.nodesL l
  | [] => by simp [MCore.nodesL, MCore.deepL]
  | x :: xs => by
    have := MCore.deep_le x
    have := MCore.deepL_le xs
    simp only [MCore.nodesL, MCore.deepL]; omega
end
theorem MCore.nodesL_take (a : List MCore) (k : Nat) : MCore.nodesL (a.take k) ≤ MCore.nodesL a := by
  have := MCore.nodesL_append (a.take k) (a.drop k)
  rw [List.take_append_drop] at this; omega
theorem MCore.nodes_mem {a : List MCore} {x : MCore} (h : x ∈ a) : x.nodes ≤ MCore.nodesL a := by
  induction a with
  | nil => simp at h
  | cons y ys ih =>
    simp only [MCore.nodesL]
    rcases List.mem_cons.1 h with rfl | h
    · omega
    · have := ih h; omega


/-- No block has more than thirty slots. -/
def slimOne (x : MCore) : Prop := x.kind = 16 → x.depth ≤ 30
mutual
def MCore.slim : MCore → Prop
  | ⟨k, _, _, d, ks⟩ => (k = 16 → d ≤ 30) ∧ MCore.slimL ks
def MCore.slimL : List MCore → Prop
  | [] => True
  | k :: ks => k.slim ∧ MCore.slimL ks
end
mutual
def MCore.deepV : MCore → Nat
  | ⟨k, _, _, d, ks⟩ => if k = 16 ∧ 30 < d then 1000 else 1 + MCore.deepVL ks
def MCore.deepVL : List MCore → Nat
  | [] => 0
  | k :: ks => max k.deepV (MCore.deepVL ks)
end
theorem MCore.slim_eq (x : MCore) : x.slim ↔ (x.kind = 16 → x.depth ≤ 30) ∧ MCore.slimL x.kids := by cases x; simp only [MCore.slim]
theorem MCore.slimL_iff : ∀ l : List MCore, MCore.slimL l ↔ ∀ z, z ∈ l → z.slim
  | [] => by simp [MCore.slimL]
  | x :: xs => by simp [MCore.slimL, MCore.slimL_iff xs]
theorem MCore.deepV_eq (x : MCore) : x.deepV = if x.kind = 16 ∧ 30 < x.depth then 1000 else 1 + MCore.deepVL x.kids := by cases x; simp only [MCore.deepV]
theorem MCore.deepVL_append : ∀ (xs ys : List MCore), MCore.deepVL (xs ++ ys) = max (MCore.deepVL xs) (MCore.deepVL ys)
  | [], ys => by simp [MCore.deepVL]
  | x :: xs, ys => by simp only [List.cons_append, MCore.deepVL, MCore.deepVL_append xs ys]; omega
theorem MCore.deepVL_succ {a : List MCore} {k : Nat} (h : k < a.length) : MCore.deepVL (a.take (k + 1)) = max (MCore.deepVL (a.take k)) a[k].deepV := by
  rw [List.take_succ_eq_append_getElem h, MCore.deepVL_append]; simp [MCore.deepVL]
mutual
theorem MCore.deepV_le : ∀ (x : MCore), x.deepV ≤ x.nodes + 1000
  | ⟨k, t, n, ns, ks⟩ => by
    have := MCore.deepVL_le ks
    simp only [MCore.nodes, MCore.deepV]; split <;> omega
theorem MCore.deepVL_le : ∀ (l : List MCore), MCore.deepVL l ≤ MCore.nodesL l + 1000
  | [] => by simp [MCore.nodesL, MCore.deepVL]
  | x :: xs => by
    have := MCore.deepV_le x
    have := MCore.deepVL_le xs
    simp only [MCore.nodesL, MCore.deepVL]; omega
end
mutual
theorem MCore.deepV_iff : ∀ (x : MCore) (m : Nat), m < 1000 → (x.deepV ≤ m ↔ x.slim ∧ x.deep ≤ m)
  | ⟨k, t, n, d, ks⟩, m, h => by
    simp only [MCore.deepV, MCore.slim, MCore.deep]
    by_cases hw : k = 16 ∧ 30 < d
    · rw [if_pos hw]
      constructor
      · intro h; omega
      · rintro ⟨⟨h1, -⟩, -⟩; have := h1 hw.1; omega
    · rw [if_neg hw]
      cases m with
      | zero => constructor
                · intro h; omega
                · rintro ⟨-, h⟩; omega
      | succ m =>
        have := MCore.deepVL_iff ks m (by omega)
        constructor
        · intro h1
          have h2 := this.1 (by omega)
          exact ⟨⟨fun e => by
            by_cases h3 : 30 < d
            · exact absurd ⟨e, h3⟩ hw
            · omega, h2.1⟩, by omega⟩
        · rintro ⟨⟨h1, h2⟩, h3⟩
          have := this.2 ⟨h2, by omega⟩
          omega
theorem MCore.deepVL_iff : ∀ (l : List MCore) (m : Nat), m < 1000 → (MCore.deepVL l ≤ m ↔ MCore.slimL l ∧ MCore.deepL l ≤ m)
  | [], m, h => by simp [MCore.slimL, MCore.deepL, MCore.deepVL]
  | x :: xs, m, h => by
    have h1 := MCore.deepV_iff x m h
    have h2 := MCore.deepVL_iff xs m h
    simp only [MCore.slimL, MCore.deepL, MCore.deepVL]
    constructor
    · intro h3
      have a := h1.1 (by omega)
      have b := h2.1 (by omega)
      exact ⟨⟨a.1, b.1⟩, by omega⟩
    · rintro ⟨⟨a, b⟩, c⟩
      have := h1.2 ⟨a, by omega⟩
      have := h2.2 ⟨b, by omega⟩
      omega
end
theorem MCore.deep_kid {x z : MCore} (h : z ∈ x.kids) : z.deep < x.deep := by
  rw [MCore.deep_eq x]
  have : ∀ l : List MCore, z ∈ l → z.deep ≤ MCore.deepL l := by
    intro l
    induction l with
    | nil => simp
    | cons y ys ih =>
      intro h
      simp only [MCore.deepL]
      rcases List.mem_cons.1 h with rfl | h
      · omega
      · have := ih h; omega
  have := this x.kids h
  omega
theorem core_size {x : MCore} (h : x.d.bulk ≤ 1048576) : x.nodes ≤ 1048577 := by have := MCore.nodes_le x; omega
theorem MCore.bulk_eq (x : MCore) : x.d.bulk = x.text.size + (x.kids.length + D.bulkL (x.kids.map MCore.d)) := by
  rw [MCore.d_eq]
  simp only [D.bulk, D.bulkL, MCores, List.length_map]
  omega
theorem MCore.bulk_kid {x z : MCore} (h : z ∈ x.kids) : z.d.bulk ≤ x.d.bulk := by
  rw [MCore.bulk_eq x]
  have := D.bulkL_mem (List.mem_map_of_mem (f := MCore.d) h)
  omega
theorem MCore.bulk_text (x : MCore) : x.text.size ≤ x.d.bulk := by rw [MCore.bulk_eq x]; omega
theorem MCore.bulk_kids (x : MCore) : x.kids.length ≤ x.d.bulk := by rw [MCore.bulk_eq x]; omega

set_option maxHeartbeats 1000000 in
theorem l8Left_lt : ∀ (n : Nat) (x : MCore) (l : Int) (cx : List Value) (w : World), SizeOf.sizeOf x < n → x.nodes ≤ 1048577 → 0 ≤ l → l ≤ 500 → Rep w x.d cx →
    Calls Tryz.prog 173 #[.agg cx.toArray, .int .i64 l] w fun e w' => (∃ r : Int, e = .returned (.int .i64 r) ∧ -1 ≤ r ∧ r ≤ 500 ∧ ((x.nodes : Int) ≤ l → r = l - x.nodes) ∧ (l < x.nodes → r = -1)) ∧ Ext w w' := by
  intro n
  induction n with
  | zero => intro x l cx w h; omega
  | succ n ih =>
    intro x l cx w hn hsz hl0 hl1 rx
    obtain ⟨ak, ck, rfl, sx⟩ := MCore.op_en rx
    have hk : Hid (∀ z, z ∈ x.kids → SizeOf.sizeOf z < n) := Lib.hid fun z hz => by have := MCore.kid_lt hz; omega
    clear rx hn
    have IH := Lib.hid ih; clear ih
    obtain ⟨ao, ca, ba, oa, h1, hla, hma, pa, ha⟩ := Rep.slmap sx
    simp only [List.cons.injEq, and_true, Value.slice.injEq] at h1
    obtain ⟨rfl, -, rfl⟩ := h1
    clear sx
    unfold maxLen at hma
    rw [MCore.nodes_eq] at hsz ⊢
    have Hsz := Lib.hid hsz; clear hsz
    go_enter Tryz.func173, Tryz.ntmps173
    go_wp2_with fail
    go_loopw [1, 5] (fun v i wr => ∃ (k : Nat) (q : Int), k ≤ x.kids.length ∧ i = .int .i64 k ∧ v = .int .i64 q ∧ -1 ≤ q ∧ q ≤ 500 ∧ Ext w wr ∧ wr.cell? ⟨w.heap.size, 4, none⟩ = some (.slice ak x.kids.length ck) ∧ Hid ((((1 + MCore.nodesL (x.kids.take k) : Nat) : Int) ≤ l → q = l - (1 + MCore.nodesL (x.kids.take k) : Nat)) ∧ (l < (1 + MCore.nodesL (x.kids.take k) : Nat) → q = -1))) (fun _ i _ => x.kids.length - (intOf i).toNat)
    case atStart => exact ⟨0, l - 1, Nat.zero_le _, rfl, rfl, by omega, by omega, (Ext.refl w).alloc _, by simp, Lib.hid (by simp [MCore.nodesL]; omega)⟩
    case round =>
      obtain ⟨k, q, hk', rfl, rfl, hq0, hq1, hx, m0, hq'⟩ := hrel
      by_cases hlt : k < x.kids.length
      · by_cases hq2 : 0 ≤ q
        · obtain rfl := pa (by omega)
          obtain ⟨ea, la, c1, ra⟩ := ha k x.kids[k] (by simp [hlt])
          obtain ⟨aa0, cc0, rfl, -⟩ := MCore.op_en ra
          have a0 := hx.cell (show w.cell? ⟨ba, oa + k * 5, none⟩ = some _ from c1 0 (by omega))
          have a1 := hx.cell (show w.cell? ⟨ba, oa + k * 5 + 1, none⟩ = some _ from c1 1 (by omega))
          have a2 := hx.cell (show w.cell? ⟨ba, oa + k * 5 + 2, none⟩ = some _ from c1 2 (by omega))
          have a3 := hx.cell (show w.cell? ⟨ba, oa + k * 5 + 3, none⟩ = some _ from c1 3 (by omega))
          have a4 := hx.cell (show w.cell? ⟨ba, oa + k * 5 + 4, none⟩ = some _ from c1 4 (by omega))
          clear c1 la ha pa
          have hs3 : x.kids[k].nodes ≤ 1048577 := by have := MCore.nodes_mem (List.getElem_mem hlt); have := Hsz.out; omega
          have HS := Lib.hid (MCore.nodesL_succ hlt)
          go_wp2_with fail
          refine (IH.out x.kids[k] q _ wr (hk.out _ (List.getElem_mem hlt)) hs3 hq2 hq1 (Rep.ext hx ra)).mono ?_
          clear a0 a1 a2 a3 a4
          rintro e w2 ⟨⟨r, rfl, hr0, hr1, hr2, hr3⟩, hx2⟩
          have HR := Lib.hid (And.intro hr2 hr3); clear hr2 hr3
          go_wp2_with fail
          go_roundw
          case rel => exact ⟨k + 1, r, by omega, by go_num, rfl, hr0, hr1, hx.trans hx2, Ext.cell hx2 m0, Lib.hid (by
            have h1 := HS.out; have h2 := HR.out; have h3 := hq'.out
            rw [h1]
            generalize MCore.nodesL (x.kids.take k) = A at *
            generalize x.kids[k].nodes = B at *
            constructor
            · intro h
              have := h3.1 (by omega); have := h2.1 (by omega); omega
            · intro h
              by_cases h5 : ((1 + A : Nat) : Int) ≤ l
              · have := h3.1 h5; exact h2.2 (by omega)
              · have := h3.2 (by omega); omega)⟩
          case measure => simp [intOf]; omega
        · have f0 : q < 0 := by omega
          go_wp2_with fail
          go_ret
          have hsz2 := MCore.nodesL_take x.kids k
          have h3 := hq'.out
          exact ⟨⟨q, rfl, hq0, hq1, fun h => by have := h3.1 (by omega); omega, fun h => by omega⟩, hx⟩
      · go_wp2_with fail
        go_ret
        obtain rfl : k = x.kids.length := by omega
        have h3 := hq'.out
        rw [List.take_length] at h3
        exact ⟨⟨q, rfl, hq0, hq1, h3.1, h3.2⟩, hx⟩

set_option maxHeartbeats 1000000 in
theorem l8Deep_lt : ∀ (n : Nat) (x : MCore) (cx : List Value) (w : World), SizeOf.sizeOf x < n → x.nodes ≤ 1048577 → Rep w x.d cx →
    Calls Tryz.prog 174 #[.agg cx.toArray] w fun e w' => e = .returned (.int .i64 x.deepV) ∧ Ext w w' := by
  intro n
  induction n with
  | zero => intro x cx w h; omega
  | succ n ih =>
    intro x cx w hn hsz rx
    obtain ⟨ak, ck, rfl, sx⟩ := MCore.op_en rx
    have hk : Hid (∀ z, z ∈ x.kids → SizeOf.sizeOf z < n) := Lib.hid fun z hz => by have := MCore.kid_lt hz; omega
    clear rx hn
    have IH := Lib.hid ih; clear ih
    obtain ⟨ao, ca, ba, oa, h1, hla, hma, pa, ha⟩ := Rep.slmap sx
    simp only [List.cons.injEq, and_true, Value.slice.injEq] at h1
    obtain ⟨rfl, -, rfl⟩ := h1
    clear sx
    unfold maxLen at hma
    rw [MCore.nodes_eq] at hsz
    have Hsz := Lib.hid hsz; clear hsz
    by_cases h16 : x.kind = 16
    · have q16 := int_eq h16
      by_cases h30 : 30 < x.depth
      · have HV : Hid (x.deepV = 1000) := Lib.hid (by rw [MCore.deepV_eq, if_pos ⟨h16, h30⟩])
        clear h16 ha pa
        go_enter Tryz.func174, Tryz.ntmps174
        go_wp2_with fail
        go_ret
        exact ⟨ret_int (by rw [HV.out]; rfl), (Ext.refl w).alloc _⟩
      have HV : Hid (x.deepV = 1 + MCore.deepVL x.kids) := Lib.hid (by rw [MCore.deepV_eq, if_neg (fun h => h30 h.2)])
      clear h16
      go_enter Tryz.func174, Tryz.ntmps174
      go_wp2_with fail
      go_loopw [3, 4] (fun v i wr => ∃ (k : Nat) (q : Nat), k ≤ x.kids.length ∧ i = .int .i64 k ∧ v = .int .i64 q ∧ q ≤ 1049577 ∧ Ext w wr ∧ wr.cell? ⟨w.heap.size, 4, none⟩ = some (.slice ak x.kids.length ck) ∧ Hid (q = MCore.deepVL (x.kids.take k))) (fun _ i _ => x.kids.length - (intOf i).toNat)
      case atStart => exact ⟨0, 0, Nat.zero_le _, rfl, rfl, by omega, (Ext.refl w).alloc _, by simp, Lib.hid (by simp [MCore.deepVL])⟩
      case round =>
        obtain ⟨k, q, hk', rfl, rfl, hq, hx, m0, hq'⟩ := hrel
        by_cases hlt : k < x.kids.length
        · obtain rfl := pa (by omega)
          obtain ⟨ea, la, c1, ra⟩ := ha k x.kids[k] (by simp [hlt])
          obtain ⟨aa0, cc0, rfl, -⟩ := MCore.op_en ra
          have a0 := hx.cell (show w.cell? ⟨ba, oa + k * 5, none⟩ = some _ from c1 0 (by omega))
          have a1 := hx.cell (show w.cell? ⟨ba, oa + k * 5 + 1, none⟩ = some _ from c1 1 (by omega))
          have a2 := hx.cell (show w.cell? ⟨ba, oa + k * 5 + 2, none⟩ = some _ from c1 2 (by omega))
          have a3 := hx.cell (show w.cell? ⟨ba, oa + k * 5 + 3, none⟩ = some _ from c1 3 (by omega))
          have a4 := hx.cell (show w.cell? ⟨ba, oa + k * 5 + 4, none⟩ = some _ from c1 4 (by omega))
          clear c1 la ha pa
          have hs3 : x.kids[k].nodes ≤ 1048577 := by have := MCore.nodes_mem (List.getElem_mem hlt); have := Hsz.out; omega
          have hs4 : max (q : Int) x.kids[k].deepV ≤ 1049577 ∧ 0 ≤ max (q : Int) x.kids[k].deepV := by have := MCore.deepV_le x.kids[k]; omega
          obtain ⟨hs4, hs5⟩ := hs4
          have HS := Lib.hid (MCore.deepVL_succ hlt)
          go_wp2_with fail
          refine (IH.out x.kids[k] _ wr (hk.out _ (List.getElem_mem hlt)) hs3 (Rep.ext hx ra)).mono ?_
          clear a0 a1 a2 a3 a4
          rintro e w2 ⟨rfl, hx2⟩
          go_wp2_with fail
          refine (l1Max_any _ _ _).mono ?_
          rintro e w3 ⟨rfl, rfl⟩
          go_wp2_with fail
          go_roundw
          case rel => exact ⟨k + 1, max q x.kids[k].deepV, by omega, by go_num, by rw [show ((max q x.kids[k].deepV : Nat) : Int) = max (q : Int) x.kids[k].deepV from by omega], by omega, hx.trans hx2, Ext.cell hx2 m0, Lib.hid (by rw [HS.out, hq'.out])⟩
          case measure => simp [intOf]; omega
        · go_wp2_with fail
          go_ret
          obtain rfl : k = x.kids.length := by omega
          exact ⟨ret_int (by have := hq'.out; rw [List.take_length] at this; rw [HV.out, this]; omega), hx⟩
    have q16 := int_ne h16
    have HV : Hid (x.deepV = 1 + MCore.deepVL x.kids) := Lib.hid (by rw [MCore.deepV_eq, if_neg (fun h => h16 h.1)])
    clear h16
    go_enter Tryz.func174, Tryz.ntmps174
    go_wp2_with fail
    go_loopw [3, 4] (fun v i wr => ∃ (k : Nat) (q : Nat), k ≤ x.kids.length ∧ i = .int .i64 k ∧ v = .int .i64 q ∧ q ≤ 1049577 ∧ Ext w wr ∧ wr.cell? ⟨w.heap.size, 4, none⟩ = some (.slice ak x.kids.length ck) ∧ Hid (q = MCore.deepVL (x.kids.take k))) (fun _ i _ => x.kids.length - (intOf i).toNat)
    case atStart => exact ⟨0, 0, Nat.zero_le _, rfl, rfl, by omega, (Ext.refl w).alloc _, by simp, Lib.hid (by simp [MCore.deepVL])⟩
    case round =>
      obtain ⟨k, q, hk', rfl, rfl, hq, hx, m0, hq'⟩ := hrel
      by_cases hlt : k < x.kids.length
      · obtain rfl := pa (by omega)
        obtain ⟨ea, la, c1, ra⟩ := ha k x.kids[k] (by simp [hlt])
        obtain ⟨aa0, cc0, rfl, -⟩ := MCore.op_en ra
        have a0 := hx.cell (show w.cell? ⟨ba, oa + k * 5, none⟩ = some _ from c1 0 (by omega))
        have a1 := hx.cell (show w.cell? ⟨ba, oa + k * 5 + 1, none⟩ = some _ from c1 1 (by omega))
        have a2 := hx.cell (show w.cell? ⟨ba, oa + k * 5 + 2, none⟩ = some _ from c1 2 (by omega))
        have a3 := hx.cell (show w.cell? ⟨ba, oa + k * 5 + 3, none⟩ = some _ from c1 3 (by omega))
        have a4 := hx.cell (show w.cell? ⟨ba, oa + k * 5 + 4, none⟩ = some _ from c1 4 (by omega))
        clear c1 la ha pa
        have hs3 : x.kids[k].nodes ≤ 1048577 := by have := MCore.nodes_mem (List.getElem_mem hlt); have := Hsz.out; omega
        have hs4 : max (q : Int) x.kids[k].deepV ≤ 1049577 ∧ 0 ≤ max (q : Int) x.kids[k].deepV := by have := MCore.deepV_le x.kids[k]; omega
        obtain ⟨hs4, hs5⟩ := hs4
        have HS := Lib.hid (MCore.deepVL_succ hlt)
        go_wp2_with fail
        refine (IH.out x.kids[k] _ wr (hk.out _ (List.getElem_mem hlt)) hs3 (Rep.ext hx ra)).mono ?_
        clear a0 a1 a2 a3 a4
        rintro e w2 ⟨rfl, hx2⟩
        go_wp2_with fail
        refine (l1Max_any _ _ _).mono ?_
        rintro e w3 ⟨rfl, rfl⟩
        go_wp2_with fail
        go_roundw
        case rel => exact ⟨k + 1, max q x.kids[k].deepV, by omega, by go_num, by rw [show ((max q x.kids[k].deepV : Nat) : Int) = max (q : Int) x.kids[k].deepV from by omega], by omega, hx.trans hx2, Ext.cell hx2 m0, Lib.hid (by rw [HS.out, hq'.out])⟩
        case measure => simp [intOf]; omega
      · go_wp2_with fail
        go_ret
        obtain rfl : k = x.kids.length := by omega
        exact ⟨ret_int (by have := hq'.out; rw [List.take_length] at this; rw [HV.out, this]; omega), hx⟩

set_option maxHeartbeats 1000000 in
theorem countCore_lt : ∀ (n : Nat) (x : MCore) (cx : List Value) (w : World), SizeOf.sizeOf x < n → x.nodes ≤ 1048577 → Rep w x.d cx →
    Calls Tryz.prog 180 #[.agg cx.toArray] w fun e w' => e = .returned (.tuple #[.int .i64 x.nodes, .int .i64 x.deep]) ∧ Ext w w' := by
  intro n
  induction n with
  | zero => intro x cx w h; omega
  | succ n ih =>
    intro x cx w hn hsz rx
    obtain ⟨ak, ck, rfl, sx⟩ := MCore.op_en rx
    have hk : Hid (∀ z, z ∈ x.kids → SizeOf.sizeOf z < n) := Lib.hid fun z hz => by have := MCore.kid_lt hz; omega
    clear rx hn
    have IH := Lib.hid ih; clear ih
    obtain ⟨ao, ca, ba, oa, h1, hla, hma, pa, ha⟩ := Rep.slmap sx
    simp only [List.cons.injEq, and_true, Value.slice.injEq] at h1
    obtain ⟨rfl, -, rfl⟩ := h1
    clear sx
    unfold maxLen at hma
    rw [MCore.nodes_eq] at hsz
    have Hsz := Lib.hid hsz; clear hsz
    go_enter Tryz.func180, Tryz.ntmps180
    go_wp2_with fail
    go_loopw [4, 5, 13] (fun nv dv i wr => ∃ (k q r : Nat), k ≤ x.kids.length ∧ i = .int .i64 k ∧ nv = .int .i64 q ∧ dv = .int .i64 r ∧ q ≤ 1048577 ∧ r ≤ 1048577 ∧ Ext w wr ∧ Hid (q = 1 + MCore.nodesL (x.kids.take k)) ∧ Hid (r = MCore.deepL (x.kids.take k))) (fun _ _ i _ => x.kids.length - (intOf i).toNat)
    case atStart => exact ⟨0, 1, 0, Nat.zero_le _, rfl, rfl, rfl, by omega, by omega, (Ext.refl w).alloc _, Lib.hid (by simp [MCore.nodesL]), Lib.hid (by simp [MCore.deepL])⟩
    case round =>
      obtain ⟨k, q, r, hk', rfl, rfl, rfl, hq, hr, hx, hq', hr'⟩ := hrel
      by_cases hlt : k < x.kids.length
      · skip
        obtain rfl := pa (by omega)
        obtain ⟨ea, la, c1, ra⟩ := ha k x.kids[k] (by simp [hlt])
        obtain ⟨aa0, cc0, rfl, -⟩ := MCore.op_en ra
        have a0 := hx.cell (show w.cell? ⟨ba, oa + k * 5, none⟩ = some _ from c1 0 (by omega))
        have a1 := hx.cell (show w.cell? ⟨ba, oa + k * 5 + 1, none⟩ = some _ from c1 1 (by omega))
        have a2 := hx.cell (show w.cell? ⟨ba, oa + k * 5 + 2, none⟩ = some _ from c1 2 (by omega))
        have a3 := hx.cell (show w.cell? ⟨ba, oa + k * 5 + 3, none⟩ = some _ from c1 3 (by omega))
        have a4 := hx.cell (show w.cell? ⟨ba, oa + k * 5 + 4, none⟩ = some _ from c1 4 (by omega))
        clear c1 la ha pa
        have hs3 : x.kids[k].nodes ≤ 1048577 := by have := MCore.nodes_mem (List.getElem_mem hlt); have := Hsz.out; omega
        have hs1 := MCore.nodesL_succ hlt
        have hs2 := MCore.nodesL_take x.kids (k + 1)
        have hs4 : q + x.kids[k].nodes ≤ 1048577 := by have := Hsz.out; have := hq'.out; omega
        have hs5 : x.kids[k].deep ≤ 1048577 := by have := MCore.deep_le x.kids[k]; omega
        have HS := Lib.hid hs1; clear hs1 hs2
        have HD := Lib.hid (MCore.deepL_succ hlt)
        by_cases hm : (r : Int) < x.kids[k].deep
        all_goals
          go_wp2_with fail
          refine (IH.out x.kids[k] _ _ (hk.out _ (List.getElem_mem hlt)) hs3 (Rep.ext (hx.alloc _) ra)).mono ?_
          clear a0 a1 a2 a3 a4
          rintro e w2 ⟨rfl, hx2⟩
          go_wp2_with fail
          go_roundw
          case rel => exact ⟨k + 1, q + x.kids[k].nodes, max r x.kids[k].deep, by omega, by go_num, by go_num, by go_num, hs4, by omega, (hx.alloc _).trans hx2, Lib.hid (by rw [HS.out, hq'.out]; omega), Lib.hid (by rw [HD.out, hr'.out])⟩
          case measure => simp [intOf]; omega
      · go_wp2_with fail
        go_ret2
        obtain rfl : k = x.kids.length := by omega
        refine ⟨?_, hx⟩
        have h1 := hq'.out; have h2 := hr'.out
        rw [List.take_length] at h1 h2
        have e1 : (x.nodes : Int) = q := by rw [MCore.nodes_eq, h1]
        have e2 : (x.deep : Int) = r + 1 := by rw [MCore.deep_eq, h2]; omega
        rw [e1, e2]
        rfl

set_option maxHeartbeats 1000000 in
theorem slotsOk_lt : ∀ (n : Nat) (x : MCore) (cx : List Value) (w : World), SizeOf.sizeOf x < n → x.nodes ≤ 1048577 → Rep w x.d cx →
    Calls Tryz.prog 181 #[.agg cx.toArray] w fun e w' => e = .returned (.bool (prB x.slim)) ∧ Ext w w' := by
  intro n
  induction n with
  | zero => intro x cx w h; omega
  | succ n ih =>
    intro x cx w hn hsz rx
    obtain ⟨ak, ck, rfl, sx⟩ := MCore.op_en rx
    have hk : Hid (∀ z, z ∈ x.kids → SizeOf.sizeOf z < n) := Lib.hid fun z hz => by have := MCore.kid_lt hz; omega
    clear rx hn
    have IH := Lib.hid ih; clear ih
    obtain ⟨ao, ca, ba, oa, h1, hla, hma, pa, ha⟩ := Rep.slmap sx
    simp only [List.cons.injEq, and_true, Value.slice.injEq] at h1
    obtain ⟨rfl, -, rfl⟩ := h1
    clear sx
    unfold maxLen at hma
    rw [MCore.nodes_eq] at hsz
    have Hsz := Lib.hid hsz; clear hsz
    go_enter Tryz.func181, Tryz.ntmps181
    go_wp2_with fail
    go_loopw [8] (fun i wr => ∃ (k : Nat), k ≤ x.kids.length ∧ i = .int .i64 k ∧ Ext w wr ∧ wr.cell? ⟨w.heap.size, 0, none⟩ = some (.int .i64 x.kind) ∧ wr.cell? ⟨w.heap.size, 3, none⟩ = some (.int .i64 x.depth) ∧ Hid (∀ z, z ∈ x.kids.take k → z.slim)) (fun i _ => x.kids.length - (intOf i).toNat)
    case atStart => exact ⟨0, Nat.zero_le _, rfl, (Ext.refl w).alloc _, by simp, by simp, Lib.hid (by simp)⟩
    case round =>
      obtain ⟨k, hk', rfl, hx, m0, m3, hR⟩ := hrel
      by_cases hlt : k < x.kids.length
      · skip
        obtain rfl := pa (by omega)
        obtain ⟨ea, la, c1, ra⟩ := ha k x.kids[k] (by simp [hlt])
        obtain ⟨aa0, cc0, rfl, -⟩ := MCore.op_en ra
        have a0 := hx.cell (show w.cell? ⟨ba, oa + k * 5, none⟩ = some _ from c1 0 (by omega))
        have a1 := hx.cell (show w.cell? ⟨ba, oa + k * 5 + 1, none⟩ = some _ from c1 1 (by omega))
        have a2 := hx.cell (show w.cell? ⟨ba, oa + k * 5 + 2, none⟩ = some _ from c1 2 (by omega))
        have a3 := hx.cell (show w.cell? ⟨ba, oa + k * 5 + 3, none⟩ = some _ from c1 3 (by omega))
        have a4 := hx.cell (show w.cell? ⟨ba, oa + k * 5 + 4, none⟩ = some _ from c1 4 (by omega))
        clear c1 la ha pa
        have hs3 : x.kids[k].nodes ≤ 1048577 := by have := MCore.nodes_mem (List.getElem_mem hlt); have := Hsz.out; omega
        cases hg : prB x.kids[k].slim
        · have HF : Hid (¬ x.slim) := Lib.hid (fun h => by
            rw [MCore.slim_eq, MCore.slimL_iff] at h
            have := prB_tt (h.2 _ (List.getElem_mem hlt))
            rw [hg] at this; cases this)
          have HG := Lib.hid hg; clear hg
          go_wp2_with fail
          refine (IH.out x.kids[k] _ _ (hk.out _ (List.getElem_mem hlt)) hs3 (Rep.ext (hx.alloc _) ra)).mono ?_
          rw [HG.out]
          clear a0 a1 a2 a3 a4
          rintro e w2 ⟨rfl, hx2⟩
          go_wp2_with fail
          go_ret
          exact ⟨ret_bool (prB_ff HF.out).symm, (hx.alloc _).trans hx2⟩
        · have HT : Hid (∀ z, z ∈ x.kids.take (k + 1) → z.slim) := Lib.hid (fun z hz => by
            rw [List.take_succ_eq_append_getElem hlt] at hz
            rcases List.mem_append.1 hz with hz | hz
            · exact hR.out z hz
            · rw [List.mem_singleton.1 hz]; exact prB_iff.1 hg)
          have HG := Lib.hid hg; clear hg
          go_wp2_with fail
          refine (IH.out x.kids[k] _ _ (hk.out _ (List.getElem_mem hlt)) hs3 (Rep.ext (hx.alloc _) ra)).mono ?_
          rw [HG.out]
          clear a0 a1 a2 a3 a4
          rintro e w2 ⟨rfl, hx2⟩
          have hz := (hx.alloc (.cells #[.int .i64 x.kids[k].kind, .string x.kids[k].text, .int .i64 x.kids[k].number, .int .i64 x.kids[k].depth, .slice aa0 x.kids[k].kids.length cc0] 37)).trans hx2
          have m0' := Ext.cell (((Ext.refl wr).alloc _).trans hx2) m0
          have m3' := Ext.cell (((Ext.refl wr).alloc _).trans hx2) m3
          clear m0 m3
          go_wp2_with fail
          go_roundw
          case rel => exact ⟨k + 1, by omega, by go_num, hz, m0', m3', HT⟩
          case measure => simp [intOf]; omega
      · have HA : Hid (x.slim ↔ (x.kind = 16 → x.depth ≤ 30)) := Lib.hid (by
          rw [MCore.slim_eq, MCore.slimL_iff]
          have h := hR.out
          rw [List.take_of_length_le (by omega)] at h
          exact ⟨fun g => g.1, fun g => ⟨g, h⟩⟩)
        by_cases h16 : x.kind = 16
        · have q16 := int_eqn h16
          by_cases h30 : x.depth ≤ 30
          · have HV : Hid (prB x.slim = true) := Lib.hid (prB_tt (HA.out.2 fun _ => h30))
            clear h16
            go_wp2_with fail
            go_ret
            exact ⟨ret_bool (by simp [HV.out, h30]), hx⟩
          · have HV : Hid (prB x.slim = false) := Lib.hid (prB_ff (fun h => h30 (HA.out.1 h h16)))
            clear h16
            go_wp2_with fail
            go_ret
            exact ⟨ret_bool (by simp [HV.out, h30]), hx⟩
        · have q16 := int_nen h16
          have HV : Hid (prB x.slim = true) := Lib.hid (prB_tt (HA.out.2 fun h => absurd h h16))
          clear h16
          go_wp2_with fail
          go_ret
          exact ⟨ret_bool (by rw [HV.out]), hx⟩

end Go.Proofs.YtdngmifgglbbpaaGreatDoor
