/-
  SEVERAL TEXTS IN ONE: PLAIN: how tokens are read that stand ahead of a blank, a bracket, a dot or a semicolon; CONTRACTS: l3Block, l5Body, blockOf, EqualMethods; CONTRACTS: SizeOfExpr, DepthOfExpr, of the program and of the reference; PLAIN: what the parsers read, by fuel; what holds for all fuels that are great enough; PLAIN: how much a parsed tree holds: no more than its tokens; PLAIN: what the parsers need of the tokens: only numbers bear a number, keywords are not empty, and how long the texts are.
  Conditions: those that each lemma states.
-/
import Derived.Test.YtndhpbjhkgdieaaGreatDoorRows
import Derived.Deep.RegionHeld3
import Derived.Deep.RegionHeldLaw
import Derived.Test.YtndhpbjhkgdieaaGreatDoorP12
import Derived.Test.YtndhpbjhkgdieaaGreatDoorP13
import Derived.Test.YtndhpbjhkgdieaaGreatDoorP09
import Derived.Test.YtndhpbjhkgdieaaGreatDoorP02
import Derived.Test.YtndhpbjhkgdieaaGreatDoorP04
namespace Go.Proofs.YtndhpbjhkgdieaaGreatDoor
open Go.RowKit
set_option maxHeartbeats 8000000
set_option maxRecDepth 100000
set_option linter.unusedSimpArgs false
set_option linter.unusedVariables false
def Gap (r : List UInt8) : Prop := r = [] ∨ ∃ t, r = 32 :: t ∨ r = 41 :: t ∨ r = 93 :: t ∨ r = 46 :: t ∨ r = 59 :: t
def Halt (r : List UInt8) : Prop := r = [] ∨ ∃ b t, r = b :: t /\ alnB b = false
theorem Gap.halt {r : List UInt8} (h : Gap r) : Halt r := by
 rcases h with h | ⟨t, h | h | h | h | h⟩
 · exact Or.inl h
 · exact Or.inr ⟨32, t, h, by decide⟩
 · exact Or.inr ⟨41, t, h, by decide⟩
 · exact Or.inr ⟨93, t, h, by decide⟩
 · exact Or.inr ⟨46, t, h, by decide⟩
 · exact Or.inr ⟨59, t, h, by decide⟩
theorem run_halt {q : List UInt8} (hq : Halt q) : ∀ R : List UInt8, (∀ b, b ∈ R -> alnB b = true) -> runL (R ++ q) = R.length
 | [], _ => by
  rcases hq with rfl | ⟨b, t, rfl, hb⟩
  · rfl
  · rw [List.nil_append, runL, if_neg (by rw [hb]; exact Bool.false_ne_true)]; rfl
 | b :: R, h => by
  rw [List.cons_append, runL, if_pos (h b (by simp)), run_halt hq R (fun x hx => h x (by simp [hx])), List.length_cons]
theorem col_gap {r : List UInt8} (h : Gap r) : colL r = false := by
 rcases h with rfl | ⟨t, rfl | rfl | rfl | rfl | rfl⟩
 · rfl
 all_goals (cases t <;> simp [colL])
theorem col_yes {r : List UInt8} (h : ∀ t, r ≠ 61 :: t) : colL (58 :: r) = true := by
 cases r with
 | nil => simp [colL]
 | cons a t =>
  have : a ≠ 61 := fun e => h t (by rw [e])
  simp [colL, this]
theorem gap_ne {r : List UInt8} (h : Gap r) : ∀ t, r ≠ 61 :: t := by
 intro t
 rcases h with rfl | ⟨u, rfl | rfl | rfl | rfl | rfl⟩ <;> simp
theorem take_app {R q : List UInt8} : (R ++ q).take R.length = R := by simp
theorem drop_app {R q : List UInt8} : (R ++ q).drop R.length = q := by simp
theorem ltr_plain {b : UInt8} (h : ltrB (b.toNat : Int) = true) : ¬ (b = 32 ∨ b = 10 ∨ b = 9) /\ ¬ b = 34 := by
 refine ⟨fun e => ?_, fun e => ?_⟩
 · rcases e with rfl | rfl | rfl <;> revert h <;> decide
 · subst e; revert h; decide
theorem dgt_plain {b : UInt8} (h : dgtB (b.toNat : Int) = true) : ¬ (b = 32 ∨ b = 10 ∨ b = 9) /\ ¬ b = 34 := by
 refine ⟨fun e => ?_, fun e => ?_⟩
 · rcases e with rfl | rfl | rfl <;> revert h <;> decide
 · subst e; revert h; decide
theorem dgt_ltr {b : UInt8} (h : dgtB (b.toNat : Int) = true) : ltrB (b.toNat : Int) = false := by
 have h1 := dgt_iff.1 h
 unfold ltrB
 exact decide_eq_false (by omega)
theorem runB_app {R q : List UInt8} (h : runL (R ++ q) = R.length) : runB (R ++ q) = mkB R := by rw [runB, h, take_app]
theorem digL_dgt {c : UInt8} : dgtB (c.toNat : Int) = true ↔ 48 <= c.toNat /\ c.toNat <= 57 := by
 rw [dgt_iff]; omega
theorem digN_gap {r : List UInt8} (h : Gap r) : ∀ D : List UInt8, digL D -> digN (D ++ r) = D.length
 | [], _ => by
  rcases h with rfl | ⟨t, rfl | rfl | rfl | rfl | rfl⟩
  · rfl
  all_goals (rw [List.nil_append, digN, if_neg (by decide)]; rfl)
 | c :: D, hD => by
  rw [List.cons_append, digN, if_pos (digL_dgt.2 (hD c (by simp))), digN_gap h D (fun x hx => hD x (by simp [hx])), List.length_cons]
theorem headLtr_gap {r : List UInt8} (h : Gap r) : headLtr r = false := by
 rcases h with rfl | ⟨t, rfl | rfl | rfl | rfl | rfl⟩
 · rfl
 all_goals (show ltrB _ = false; decide)
theorem quo_back {r : List UInt8} (hr : Gap r) : ∀ (m acc : List UInt8) (n : Nat), quoL acc n (subL 39 [39, 39] m ++ 39 :: r) = (acc ++ m, n + (subL 39 [39, 39] m).length + 1)
 | [], acc, n => by
  rcases hr with rfl | ⟨t, rfl | rfl | rfl | rfl | rfl⟩
  · simp [subL, quo_one]
  all_goals
   simp only [subL, List.nil_append, List.length_nil, Nat.add_zero, List.append_nil]
   exact quo_q _ _ _ _ (by decide)
 | b :: m, acc, n => by
  by_cases hb : b = 39
  · subst hb
    have e : subL 39 [39, 39] (39 :: m) = 39 :: 39 :: subL 39 [39, 39] m := by simp [subL]
    rw [e, List.cons_append, List.cons_append, quo_qq, quo_back hr m]
    simp; omega
  · have e : subL 39 [39, 39] (b :: m) = b :: subL 39 [39, 39] m := by simp [subL, hb]
    rw [e, List.cons_append, quo_o _ _ _ _ hb, quo_back hr m]
    simp; omega
theorem ops_app {s : ByteArray} (h : s ∈ opsL) {r : List UInt8} (hr : Gap r) : firstP opsL (mkB (s.data.toList ++ r)) = s := by
 simp only [opsL, List.mem_cons, List.not_mem_nil, or_false] at h
 rcases hr with rfl | ⟨t, rfl | rfl | rfl | rfl | rfl⟩ <;> rcases h with rfl | rfl | rfl | rfl | rfl | rfl | rfl | rfl | rfl | rfl | rfl | rfl | rfl | rfl | rfl <;> simp [firstP, opsL, Lib.hasPrefix, List.isPrefixOf, data_mkB]
theorem ops_ltr {l : List UInt8} (h : headLtr l = true) : firstP opsL (mkB l) = ⟨#[]⟩ := by
 cases l with
 | nil => cases h
 | cons a t =>
  have ha : ltrB (a.toNat : Int) = true := h
  have hn : ∀ x : UInt8, ltrB (x.toNat : Int) = false -> (x == a) = false := fun x hx => by
   cases hq : x == a
   · rfl
   · rw [beq_iff_eq.1 hq, ha] at hx; cases hx
  have q1 := hn 47 (by decide)
  have q2 := hn 92 (by decide)
  have q3 := hn 60 (by decide)
  have q4 := hn 62 (by decide)
  have q5 := hn 61 (by decide)
  have q6 := hn 126 (by decide)
  have q7 := hn 43 (by decide)
  have q8 := hn 45 (by decide)
  have q9 := hn 42 (by decide)
  have q10 := hn 44 (by decide)
  have q11 := hn 38 (by decide)
  simp [firstP, opsL, Lib.hasPrefix, List.isPrefixOf, data_mkB, q1, q2, q3, q4, q5, q6, q7, q8, q9, q10, q11]
theorem cut_flat (c : UInt8) : ∀ (l cur : List UInt8), (cutGo c cur l).flatMap (fun p => p ++ [c]) = cur ++ l ++ [c]
 | [], cur => by simp [cutGo]
 | b :: t, cur => by
  by_cases h : b = c
  · subst h
    simp [cutGo, cut_flat b t []]
  · simp [cutGo, h, cut_flat c t (cur ++ [b])]
theorem kw_flat {r : List UInt8} (hr : Gap r) : ∀ ps : List (List UInt8), (∀ p, p ∈ ps -> partB (mkB p) = true) -> kwL (ps.flatMap (fun p => p ++ [58]) ++ r) = (ps.flatMap (fun p => p ++ [58])).length
 | [], _ => by
  have h0 : runL r = 0 := by
   have := run_halt hr.halt [] (by simp)
   simpa using this
  simpa using kw_no0 h0
 | p :: ps, h => by
  have hp := h p (by simp)
  have ih := kw_flat hr ps (fun x hx => h x (by simp [hx]))
  have hb : ∀ b, b ∈ p -> alnB b = true := fun b hb => part_bytes hp b (by rw [data_mkB]; exact hb)
  have hl := part_mk hp
  have e : (p :: ps).flatMap (fun p => p ++ [58]) ++ r = p ++ 58 :: (ps.flatMap (fun p => p ++ [58]) ++ r) := by simp
  have hrun := run_halt (q := 58 :: (ps.flatMap (fun p => p ++ [58]) ++ r)) (Or.inr ⟨58, _, rfl, by decide⟩) p hb
  have hne : ∀ t, ps.flatMap (fun p => p ++ [58]) ++ r ≠ 61 :: t := by
   cases ps with
   | nil => simpa using gap_ne hr
   | cons p2 ps2 =>
    have h2 := part_mk (h p2 (by simp))
    intro t he
    cases p2 with
    | nil => cases h2
    | cons a u =>
     simp only [List.flatMap_cons, List.cons_append, List.cons.injEq] at he
     have ha : ltrB (a.toNat : Int) = true := h2
     rw [he.1] at ha
     revert ha; decide
  have h0 : runL (p ++ 58 :: (ps.flatMap (fun p => p ++ [58]) ++ r)) ≠ 0 := by
   rw [hrun]
   cases p with
   | nil => cases hl
   | cons _ _ => simp
  rw [e, kw_yes h0 (by rw [hrun, drop_app]; exact col_yes hne), hrun]
  have e2 : (p ++ 58 :: (ps.flatMap (fun p => p ++ [58]) ++ r)).drop (p.length + 1) = ps.flatMap (fun p => p ++ [58]) ++ r := by
   rw [List.drop_append]; simp
  rw [e2, ih]
  simp; omega
theorem symN_app {s : ByteArray} (h : selB s = true) (ho : hasB opsL s = false) {r : List UInt8} (hr : Gap r) : symN (s.data.toList ++ r) = s.data.toList.length := by
 simp only [selB, ho, Bool.false_or, Bool.or_eq_true] at h
 rcases h with h | h
 · simp only [nameB, Bool.and_eq_true] at h
   have hb := part_bytes h.1
   have hl := part_head h.1
   have hrun := run_halt hr.halt s.data.toList hb
   unfold symN
   rw [hrun, if_neg (by cases hd : s.data.toList with
    | nil => rw [hd] at hl; cases hl
    | cons _ _ => simp), drop_app, if_neg (by rw [col_gap hr]; exact Bool.false_ne_true)]
 · simp only [kwB, Bool.and_eq_true] at h
   obtain ⟨h1, h2, _⟩ := h
   obtain ⟨l, hl⟩ := colB_iff.1 h1
   have hs := stem_of hl
   have hp : ∀ p, p ∈ cutGo 58 [] l -> partB (mkB p) = true := fun p hp => by
    rw [allB_iff] at h2
    apply h2
    rw [cutB, hs]
    exact List.mem_map_of_mem hp
   have hf := cut_flat 58 l []
   rw [List.nil_append, <- hl] at hf
   have hk := kw_flat hr _ hp
   rw [hf] at hk
   have hne := cutGo_ne 58 l []
   have hrun : runL (s.data.toList ++ r) ≠ 0 /\ colL ((s.data.toList ++ r).drop (runL (s.data.toList ++ r))) = true := by
    constructor
    · intro h0
      have h3 := kw_no0 h0
      rw [hk, hl] at h3
      simp at h3
    · cases hc : colL ((s.data.toList ++ r).drop (runL (s.data.toList ++ r)))
      · have h3 := kw_noc hc
        rw [hk, hl] at h3
        simp at h3
      · rfl
   unfold symN
   rw [if_neg hrun.1, if_pos hrun.2, hk]
theorem op_plain {s : ByteArray} (h : s ∈ opsL ∨ s ∈ marksL) : ∃ b u, s.data.toList = b :: u /\ ¬ (b = 32 ∨ b = 10 ∨ b = 9) /\ ¬ b = 34 /\ ltrB (b.toNat : Int) = false /\ dgtB (b.toNat : Int) = false /\ ¬ b = 39 /\ ¬ b = 35 := by
 rcases h with h | h
 · simp only [opsL, List.mem_cons, List.not_mem_nil, or_false] at h
   rcases h with rfl | rfl | rfl | rfl | rfl | rfl | rfl | rfl | rfl | rfl | rfl | rfl | rfl | rfl | rfl <;> exact ⟨_, _, rfl, by decide, by decide, by decide, by decide, by decide, by decide⟩
 · simp only [marksL, List.mem_cons, List.not_mem_nil, or_false] at h
   rcases h with rfl | rfl | rfl | rfl | rfl | rfl | rfl | rfl | rfl | rfl <;> exact ⟨_, _, rfl, by decide, by decide, by decide, by decide, by decide, by decide⟩
def blockM (p t : List ByteArray) (b : List MExpr) : MExpr := ⟨8, ⟨#[]⟩, p.length, p ++ t, b⟩
mutual
def MExpr.size : MExpr -> Nat
 | ⟨_, _, _, _, ks⟩ => 1 + MExpr.sizeL ks
def MExpr.sizeL : List MExpr -> Nat
 | [] => 0
 | k :: ks => k.size + MExpr.sizeL ks
end
mutual
def MExpr.depth : MExpr -> Nat
 | ⟨_, _, _, _, ks⟩ => 1 + MExpr.depthL ks
def MExpr.depthL : List MExpr -> Nat
 | [] => 0
 | k :: ks => max k.depth (MExpr.depthL ks)
end
theorem MExpr.size_eq (x : MExpr) : x.size = 1 + MExpr.sizeL x.kids := by cases x; simp only [MExpr.size]
theorem MExpr.depth_eq (x : MExpr) : x.depth = 1 + MExpr.depthL x.kids := by cases x; simp only [MExpr.depth]
theorem MExpr.sizeL_append : ∀ (xs ys : List MExpr), MExpr.sizeL (xs ++ ys) = MExpr.sizeL xs + MExpr.sizeL ys
 | [], ys => by simp [MExpr.sizeL]
 | x :: xs, ys => by simp [MExpr.sizeL, MExpr.sizeL_append xs ys]; omega
theorem MExpr.depthL_append : ∀ (xs ys : List MExpr), MExpr.depthL (xs ++ ys) = max (MExpr.depthL xs) (MExpr.depthL ys)
 | [], ys => by simp [MExpr.depthL]
 | x :: xs, ys => by simp only [List.cons_append, MExpr.depthL, MExpr.depthL_append xs ys]; omega
theorem MExpr.sizeL_succ {a : List MExpr} {k : Nat} (h : k < a.length) : MExpr.sizeL (a.take (k + 1)) = MExpr.sizeL (a.take k) + a[k].size := by
 rw [List.take_succ_eq_append_getElem h, MExpr.sizeL_append]; simp [MExpr.sizeL]
theorem MExpr.depthL_succ {a : List MExpr} {k : Nat} (h : k < a.length) : MExpr.depthL (a.take (k + 1)) = max (MExpr.depthL (a.take k)) a[k].depth := by
 rw [List.take_succ_eq_append_getElem h, MExpr.depthL_append]; simp [MExpr.depthL]
mutual
theorem MExpr.size_le : ∀ (x : MExpr), x.size <= 1 + x.d.bulk
 | ⟨k, t, n, ns, ks⟩ => by
  have := MExpr.sizeL_le ks
  rw [MExpr.d_eq]
  simp only [MExpr.size, D.bulk, D.bulkL, MExprs]
  simp only [List.length_map]
  omega
theorem MExpr.sizeL_le : ∀ (l : List MExpr), MExpr.sizeL l <= l.length + D.bulkL (l.map MExpr.d)
 | [] => by simp [MExpr.sizeL]
 | x :: xs => by
  have := MExpr.size_le x
  have := MExpr.sizeL_le xs
  simp only [MExpr.sizeL, List.map_cons, D.bulkL, List.length_cons]
  omega
end
mutual
theorem MExpr.depth_le : ∀ (x : MExpr), x.depth <= x.size
 | ⟨k, t, n, ns, ks⟩ => by
  have := MExpr.depthL_le ks
  simp only [MExpr.size, MExpr.depth]; omega
theorem MExpr.depthL_le : ∀ (l : List MExpr), MExpr.depthL l <= MExpr.sizeL l
 | [] => by simp [MExpr.sizeL, MExpr.depthL]
 | x :: xs => by
  have := MExpr.depth_le x
  have := MExpr.depthL_le xs
  simp only [MExpr.sizeL, MExpr.depthL]; omega
end
theorem MExpr.sizeL_take (a : List MExpr) (k : Nat) : MExpr.sizeL (a.take k) <= MExpr.sizeL a := by
 have := MExpr.sizeL_append (a.take k) (a.drop k)
 rw [List.take_append_drop] at this; omega
theorem MExpr.size_mem {a : List MExpr} {x : MExpr} (h : x ∈ a) : x.size <= MExpr.sizeL a := by
 induction a with
 | nil => simp at h
 | cons y ys ih =>
  simp only [MExpr.sizeL]
  rcases List.mem_cons.1 h with rfl | h
  · omega
  · have := ih h; omega
theorem impl_SizeOfExpr_lt : ∀ (n : Nat) (x : MExpr) (cx : List Value) (w : World), SizeOf.sizeOf x < n -> x.size <= 1048577 -> Rep w x.d cx ->
 Calls Tryz.prog 12 #[.agg cx.toArray] w fun e w' => e = .returned (.int .i64 x.size) /\ Ext w w' := by
 intro n
 induction n with
 | zero => intro x cx w h; omega
 | succ n ih =>
  intro x cx w hn hsz rx
  obtain ⟨an, cn, ak, ck, rfl, -, sx⟩ := MExpr.op_en rx
  have hk : Hid (∀ z, z ∈ x.kids -> SizeOf.sizeOf z < n) := LH fun z hz => by have := MExpr.kid_lt hz; omega
  clear rx hn
  have IH := LH ih; clear ih
  obtain ⟨ao, ca, ba, oa, h1, hla, hma, pa, ha⟩ := Rep.slmap sx
  simp only [List.cons.injEq, and_true, Value.slice.injEq] at h1
  obtain ⟨rfl, -, rfl⟩ := h1
  clear sx
  unfold maxLen at hma
  rw [MExpr.size_eq] at hsz
  have Hsz := LH hsz; clear hsz
  go_enter Tryz.func12, Tryz.ntmps12
  go_wp2_with fail
  go_loopw [3, 9] (fun v i wr => ∃ (k : Nat) (q : Nat), k <= x.kids.length /\ i = .int .i64 k /\ v = .int .i64 q /\ q <= 1048577 /\ Ext w wr /\ Hid (q = 1 + MExpr.sizeL (x.kids.take k))) (fun _ i _ => x.kids.length - (intOf i).toNat)
  case atStart => exact ⟨0, 1, Nat.zero_le _, rfl, rfl, by omega, (XR w).alloc _, LH (by simp [MExpr.sizeL])⟩
  case round =>
   obtain ⟨k, q, hk', rfl, rfl, hq, hx, hq'⟩ := hrel
   by_cases hlt : k < x.kids.length
   · obtain rfl := pa (by omega)
     obtain ⟨ea, la, c1, ra⟩ := ha k x.kids[k] (by simp [hlt])
     obtain ⟨aa0, cc0, aa1, cc1, rfl, -, -⟩ := MExpr.op_en ra
     have a0 := hx.cell (show w.cell? ⟨ba, oa + k * 5, none⟩ = some _ from c1 0 (by omega))
     have a1 := hx.cell (show w.cell? ⟨ba, oa + k * 5 + 1, none⟩ = some _ from c1 1 (by omega))
     have a2 := hx.cell (show w.cell? ⟨ba, oa + k * 5 + 2, none⟩ = some _ from c1 2 (by omega))
     have a3 := hx.cell (show w.cell? ⟨ba, oa + k * 5 + 3, none⟩ = some _ from c1 3 (by omega))
     have a4 := hx.cell (show w.cell? ⟨ba, oa + k * 5 + 4, none⟩ = some _ from c1 4 (by omega))
     clear c1 la ha pa
     have hs1 := MExpr.sizeL_succ hlt
     have hs2 := MExpr.sizeL_take x.kids (k + 1)
     have hs3 : x.kids[k].size <= 1048577 := by have := MExpr.size_mem (List.getElem_mem hlt); have := Hsz.out; omega
     have hs4 : q + x.kids[k].size <= 1048577 := by have := Hsz.out; have := hq'.out; omega
     have HS := LH hs1; clear hs1 hs2
     go_wp2_with fail
     refine (IH.out x.kids[k] _ _ (hk.out _ (List.getElem_mem hlt)) hs3 (Rep.ext (hx.alloc _) ra)).mono ?_
     clear a0 a1 a2 a3 a4
     rintro e w2 ⟨rfl, hx2⟩
     go_wp2_with fail
     go_roundw
     case rel => exact ⟨k + 1, q + x.kids[k].size, by omega, by go_num, by go_num, hs4, (hx.alloc _).trans hx2, LH (by rw [HS.out, hq'.out]; omega)⟩
     case measure => simp [intOf]; omega
   · go_wp2_with fail
     go_ret
     obtain rfl : k = x.kids.length := by omega
     exact ⟨ret_int (by have := hq'.out; rw [List.take_length] at this; rw [MExpr.size_eq, this]), hx⟩
theorem bulk_size {x : MExpr} (h : x.d.bulk <= 1048576) : x.size <= 1048577 := by have := MExpr.size_le x; omega
theorem impl_SizeOfExpr_any (x : MExpr) (cx : List Value) (w : World) (rx : Rep w x.d cx) (hb : x.size <= 1048577) :
 Calls Tryz.prog 12 #[.agg cx.toArray] w fun e w' => e = .returned (.int .i64 x.size) /\ Ext w w' := impl_SizeOfExpr_lt _ x cx w (Nat.lt_succ_self _) hb rx
theorem l1Max_any (a b : Int) (w : World) : Calls Tryz.prog 44 #[.int .i64 a, .int .i64 b] w fun e w' => e = .returned (.int .i64 (max a b)) /\ w' = w := by
 by_cases h : b < a
 · go_enter Tryz.func44, Tryz.ntmps44
   go_wp2
   go_ret
   exact ⟨ret_int (by omega), rfl⟩
 · go_enter Tryz.func44, Tryz.ntmps44
   go_wp2
   go_ret
   exact ⟨ret_int (by omega), rfl⟩
theorem l3Depth_lt : ∀ (n : Nat) (x : MExpr) (cx : List Value) (w : World), SizeOf.sizeOf x < n -> x.size <= 1048577 -> Rep w x.d cx ->
 Calls Tryz.prog 19 #[.agg cx.toArray] w fun e w' => e = .returned (.int .i64 x.depth) /\ Ext w w' := by
 intro n
 induction n with
 | zero => intro x cx w h; omega
 | succ n ih =>
  intro x cx w hn hsz rx
  obtain ⟨an, cn, ak, ck, rfl, -, sx⟩ := MExpr.op_en rx
  have hk : Hid (∀ z, z ∈ x.kids -> SizeOf.sizeOf z < n) := LH fun z hz => by have := MExpr.kid_lt hz; omega
  clear rx hn
  have IH := LH ih; clear ih
  obtain ⟨ao, ca, ba, oa, h1, hla, hma, pa, ha⟩ := Rep.slmap sx
  simp only [List.cons.injEq, and_true, Value.slice.injEq] at h1
  obtain ⟨rfl, -, rfl⟩ := h1
  clear sx
  unfold maxLen at hma
  rw [MExpr.size_eq] at hsz
  have Hsz := LH hsz; clear hsz
  go_enter Tryz.func19, Tryz.ntmps19
  go_wp2_with fail
  go_loopw [3, 4] (fun v i wr => ∃ (k : Nat) (q : Nat), k <= x.kids.length /\ i = .int .i64 k /\ v = .int .i64 q /\ q <= 1048577 /\ Ext w wr /\ wr.cell? ⟨w.heap.size, 4, none⟩ = some (.slice ak x.kids.length ck) /\ Hid (q = MExpr.depthL (x.kids.take k))) (fun _ i _ => x.kids.length - (intOf i).toNat)
  case atStart => exact ⟨0, 0, Nat.zero_le _, rfl, rfl, by omega, (XR w).alloc _, by simp, LH (by simp [MExpr.depthL])⟩
  case round =>
   obtain ⟨k, q, hk', rfl, rfl, hq, hx, m0, hq'⟩ := hrel
   by_cases hlt : k < x.kids.length
   · obtain rfl := pa (by omega)
     obtain ⟨ea, la, c1, ra⟩ := ha k x.kids[k] (by simp [hlt])
     obtain ⟨aa0, cc0, aa1, cc1, rfl, -, -⟩ := MExpr.op_en ra
     have a0 := hx.cell (show w.cell? ⟨ba, oa + k * 5, none⟩ = some _ from c1 0 (by omega))
     have a1 := hx.cell (show w.cell? ⟨ba, oa + k * 5 + 1, none⟩ = some _ from c1 1 (by omega))
     have a2 := hx.cell (show w.cell? ⟨ba, oa + k * 5 + 2, none⟩ = some _ from c1 2 (by omega))
     have a3 := hx.cell (show w.cell? ⟨ba, oa + k * 5 + 3, none⟩ = some _ from c1 3 (by omega))
     have a4 := hx.cell (show w.cell? ⟨ba, oa + k * 5 + 4, none⟩ = some _ from c1 4 (by omega))
     clear c1 la ha pa
     have hs3 : x.kids[k].size <= 1048577 := by have := MExpr.size_mem (List.getElem_mem hlt); have := Hsz.out; omega
     have hs4 : max (q : Int) x.kids[k].depth <= 1048577 /\ 0 <= max (q : Int) x.kids[k].depth := by have := MExpr.depth_le x.kids[k]; omega
     obtain ⟨hs4, hs5⟩ := hs4
     have HS := LH (MExpr.depthL_succ hlt)
     go_wp2_with fail
     refine (IH.out x.kids[k] _ wr (hk.out _ (List.getElem_mem hlt)) hs3 (Rep.ext hx ra)).mono ?_
     clear a0 a1 a2 a3 a4
     rintro e w2 ⟨rfl, hx2⟩
     go_wp2_with fail
     refine (l1Max_any _ _ _).mono ?_
     rintro e w3 ⟨rfl, rfl⟩
     go_wp2_with fail
     go_roundw
     case rel => exact ⟨k + 1, max q x.kids[k].depth, by omega, by go_num, by rw [show ((max q x.kids[k].depth : Nat) : Int) = max (q : Int) x.kids[k].depth from by omega], by omega, hx.trans hx2, Ext.cell hx2 m0, LH (by rw [HS.out, hq'.out])⟩
     case measure => simp [intOf]; omega
   · go_wp2_with fail
     go_ret
     obtain rfl : k = x.kids.length := by omega
     exact ⟨ret_int (by have := hq'.out; rw [List.take_length] at this; rw [MExpr.depth_eq, this]; omega), hx⟩
theorem impl_DepthOfExpr_lt : ∀ (n : Nat) (x : MExpr) (cx : List Value) (w : World), SizeOf.sizeOf x < n -> x.size <= 1048577 -> Rep w x.d cx ->
 Calls Tryz.prog 13 #[.agg cx.toArray] w fun e w' => e = .returned (.int .i64 x.depth) /\ Ext w w' := by
 intro n
 induction n with
 | zero => intro x cx w h; omega
 | succ n ih =>
  intro x cx w hn hsz rx
  obtain ⟨an, cn, ak, ck, rfl, -, sx⟩ := MExpr.op_en rx
  have hk : Hid (∀ z, z ∈ x.kids -> SizeOf.sizeOf z < n) := LH fun z hz => by have := MExpr.kid_lt hz; omega
  clear rx hn
  have IH := LH ih; clear ih
  obtain ⟨ao, ca, ba, oa, h1, hla, hma, pa, ha⟩ := Rep.slmap sx
  simp only [List.cons.injEq, and_true, Value.slice.injEq] at h1
  obtain ⟨rfl, -, rfl⟩ := h1
  clear sx
  unfold maxLen at hma
  rw [MExpr.size_eq] at hsz
  have Hsz := LH hsz; clear hsz
  go_enter Tryz.func13, Tryz.ntmps13
  go_wp2_with fail
  go_loopw [3, 9] (fun v i wr => ∃ (k : Nat) (q : Nat), k <= x.kids.length /\ i = .int .i64 k /\ v = .int .i64 q /\ q <= 1048577 /\ Ext w wr /\ Hid (q = MExpr.depthL (x.kids.take k))) (fun _ i _ => x.kids.length - (intOf i).toNat)
  case atStart => exact ⟨0, 0, Nat.zero_le _, rfl, rfl, by omega, (XR w).alloc _, LH (by simp [MExpr.depthL])⟩
  case round =>
   obtain ⟨k, q, hk', rfl, rfl, hq, hx, hq'⟩ := hrel
   by_cases hlt : k < x.kids.length
   · obtain rfl := pa (by omega)
     obtain ⟨ea, la, c1, ra⟩ := ha k x.kids[k] (by simp [hlt])
     obtain ⟨aa0, cc0, aa1, cc1, rfl, -, -⟩ := MExpr.op_en ra
     have a0 := hx.cell (show w.cell? ⟨ba, oa + k * 5, none⟩ = some _ from c1 0 (by omega))
     have a1 := hx.cell (show w.cell? ⟨ba, oa + k * 5 + 1, none⟩ = some _ from c1 1 (by omega))
     have a2 := hx.cell (show w.cell? ⟨ba, oa + k * 5 + 2, none⟩ = some _ from c1 2 (by omega))
     have a3 := hx.cell (show w.cell? ⟨ba, oa + k * 5 + 3, none⟩ = some _ from c1 3 (by omega))
     have a4 := hx.cell (show w.cell? ⟨ba, oa + k * 5 + 4, none⟩ = some _ from c1 4 (by omega))
     clear c1 la ha pa
     have hs3 : x.kids[k].size <= 1048577 := by have := MExpr.size_mem (List.getElem_mem hlt); have := Hsz.out; omega
     have hs5 : x.kids[k].depth <= 1048577 := by have := MExpr.depth_le x.kids[k]; omega
     have HS := LH (MExpr.depthL_succ hlt)
     by_cases hm : (q : Int) < x.kids[k].depth
     all_goals
      go_wp2_with fail
      refine (IH.out x.kids[k] _ _ (hk.out _ (List.getElem_mem hlt)) hs3 (Rep.ext (hx.alloc _) ra)).mono ?_
      clear a0 a1 a2 a3 a4
      rintro e w2 ⟨rfl, hx2⟩
      go_wp2_with fail
      go_roundw
      case rel => exact ⟨k + 1, max q x.kids[k].depth, by omega, by go_num, by go_num, by omega, (hx.alloc _).trans hx2, LH (by rw [HS.out, hq'.out])⟩
      case measure => simp [intOf]; omega
   · go_wp2_with fail
     go_ret
     obtain rfl : k = x.kids.length := by omega
     exact ⟨ret_int (by have := hq'.out; rw [List.take_length] at this; rw [MExpr.depth_eq, this]; omega), hx⟩
theorem impl_DepthOfExpr_any (x : MExpr) (cx : List Value) (w : World) (rx : Rep w x.d cx) (hb : x.size <= 1048577) :
 Calls Tryz.prog 13 #[.agg cx.toArray] w fun e w' => e = .returned (.int .i64 x.depth) /\ Ext w w' := impl_DepthOfExpr_lt _ x cx w (Nat.lt_succ_self _) hb rx
def tkB (ts : List MToken) (a : Nat) (k : Int) : Bool := match ts[a]? with | some t => t.kind == k | none => false
noncomputable def tkxB (ts : List MToken) (a : Nat) (k : Int) (s : ByteArray) : Bool := match ts[a]? with | some t => t.kind == k && eqB t.text s | none => false
def tkT (ts : List MToken) (a : Nat) : ByteArray := match ts[a]? with | some t => t.text | none => ⟨#[]⟩
def tkN (ts : List MToken) (a : Nat) : Int := match ts[a]? with | some t => t.number | none => 0
def asgM : ByteArray := ⟨#[58, 61]⟩
def lparM : ByteArray := ⟨#[40]⟩
def rparM : ByteArray := ⟨#[41]⟩
def lbrM : ByteArray := ⟨#[91]⟩
def rbrM : ByteArray := ⟨#[93]⟩
def semiM : ByteArray := ⟨#[59]⟩
def colM : ByteArray := ⟨#[58]⟩
def barM : ByteArray := ⟨#[124]⟩
def retM : ByteArray := ⟨#[94]⟩
def dotM : ByteArray := ⟨#[46]⟩
def eName (s : ByteArray) : MExpr := ⟨4, s, 0, [], []⟩
def eInt (n : Int) : MExpr := ⟨1, ⟨#[]⟩, n, [], []⟩
def eText (s : ByteArray) : MExpr := ⟨2, s, 0, [], []⟩
def eSym (s : ByteArray) : MExpr := ⟨3, s, 0, [], []⟩
def eAsg (s : ByteArray) (e : MExpr) : MExpr := ⟨5, s, 0, [], [e]⟩
def eMsg (s : ByteArray) (l : List MExpr) : MExpr := ⟨6, s, 0, [], l⟩
def eCasc (l : List MExpr) : MExpr := ⟨7, ⟨#[]⟩, 0, [], l⟩
def eRet (e : MExpr) : MExpr := ⟨9, ⟨#[]⟩, 0, [], [e]⟩
def pNames (ts : List MToken) : Nat -> List ByteArray -> Nat -> Option (List ByteArray × Nat)
 | 0, _, _ => none
 | n + 1, l, a => if tkB ts a 1 = true then pNames ts n (l ++ [tkT ts a]) (a + 1) else some (l, a)
noncomputable def pVars (ts : List MToken) (n : Nat) (a : Nat) : Option (List ByteArray × Nat) :=
 if tkxB ts a 7 barM = true then (pNames ts n [] (a + 1)).bind fun r => if tkxB ts r.2 7 barM = true then some (r.1, r.2 + 1) else none else some ([], a)
noncomputable def pPars (ts : List MToken) : Nat -> List ByteArray -> Nat -> Option (List ByteArray × Nat)
 | 0, _, _ => none
 | n + 1, l, a => if tkxB ts a 7 colM = true then (if tkB ts (a + 1) 1 = true then pPars ts n (l ++ [tkT ts (a + 1)]) (a + 2) else none) else some (l, a)
noncomputable def beginsB (ts : List MToken) (a : Nat) : Bool := tkB ts a 1 || tkB ts a 3 || tkB ts a 4 || tkB ts a 5 || tkxB ts a 7 lparM || tkxB ts a 7 lbrM
mutual
noncomputable def pExpr (ts : List MToken) : Nat -> Nat -> Option (MExpr × Nat)
 | 0, _ => none
 | n + 1, a => if (tkB ts a 1 && tkxB ts (a + 1) 7 asgM) = true then (pExpr ts n (a + 2)).bind fun r => some (eAsg (tkT ts a) r.1, r.2)
  else (pBinary ts n a).bind fun r => pWord ts n r.1 r.2.1 r.2.2
noncomputable def pWord (ts : List MToken) : Nat -> MExpr -> Bool -> Nat -> Option (MExpr × Nat)
 | 0, _, _, _ => none
 | n + 1, e, s, a => if tkB ts a 2 = true then (pKeys ts n ⟨#[]⟩ [] a).bind fun r => pSemi ts n (eMsg r.1 (e :: r.2.1)) true r.2.2 else pSemi ts n e s a
noncomputable def pSemi (ts : List MToken) : Nat -> MExpr -> Bool -> Nat -> Option (MExpr × Nat)
 | 0, _, _, _ => none
 | n + 1, e, s, a => if tkxB ts a 7 semiM = true then (if s = true then pCasc ts n (e.kids.take 1 ++ [eMsg e.text (e.kids.drop 1)]) a else none) else some (e, a)
noncomputable def pCasc (ts : List MToken) : Nat -> List MExpr -> Nat -> Option (MExpr × Nat)
 | 0, _, _ => none
 | n + 1, l, a => if tkxB ts a 7 semiM = true then (pMsg ts n (a + 1)).bind fun r => pCasc ts n (l ++ [r.1]) r.2 else some (eCasc l, a)
noncomputable def pMsg (ts : List MToken) : Nat -> Nat -> Option (MExpr × Nat)
 | 0, _ => none
 | n + 1, a => if tkB ts a 1 = true then some (eMsg (tkT ts a) [], a + 1)
  else if tkB ts a 6 = true then (pUnary ts n (a + 1)).bind fun r => some (eMsg (tkT ts a) [r.1], r.2.2)
  else if tkB ts a 2 = true then (pKeys ts n ⟨#[]⟩ [] a).bind fun r => some (eMsg r.1 r.2.1, r.2.2)
  else none
noncomputable def pKeys (ts : List MToken) : Nat -> ByteArray -> List MExpr -> Nat -> Option (ByteArray × List MExpr × Nat)
 | 0, _, _, _ => none
 | n + 1, s, l, a => if tkB ts a 2 = true then (pBinary ts n (a + 1)).bind fun r => pKeys ts n (s ++ tkT ts a) (l ++ [r.1]) r.2.2 else some (s, l, a)
noncomputable def pBinary (ts : List MToken) : Nat -> Nat -> Option (MExpr × Bool × Nat)
 | 0, _ => none
 | n + 1, a => (pUnary ts n a).bind fun r => pBin ts n r.1 r.2.1 r.2.2
noncomputable def pBin (ts : List MToken) : Nat -> MExpr -> Bool -> Nat -> Option (MExpr × Bool × Nat)
 | 0, _, _, _ => none
 | n + 1, e, s, a => if tkB ts a 6 = true then (pUnary ts n (a + 1)).bind fun r => pBin ts n (eMsg (tkT ts a) [e, r.1]) true r.2.2 else some (e, s, a)
noncomputable def pUnary (ts : List MToken) : Nat -> Nat -> Option (MExpr × Bool × Nat)
 | 0, _ => none
 | n + 1, a => (pPrim ts n a).bind fun r => pUn ts n r.1 false r.2
noncomputable def pUn (ts : List MToken) : Nat -> MExpr -> Bool -> Nat -> Option (MExpr × Bool × Nat)
 | 0, _, _, _ => none
 | n + 1, e, s, a => if tkB ts a 1 = true then pUn ts n (eMsg (tkT ts a) [e]) true (a + 1) else some (e, s, a)
noncomputable def pPrim (ts : List MToken) : Nat -> Nat -> Option (MExpr × Nat)
 | 0, _ => none
 | n + 1, a => if tkB ts a 1 = true then some (eName (tkT ts a), a + 1)
  else if tkB ts a 3 = true then some (eInt (tkN ts a), a + 1)
  else if tkB ts a 4 = true then some (eText (tkT ts a), a + 1)
  else if tkB ts a 5 = true then some (eSym (tkT ts a), a + 1)
  else if tkxB ts a 7 lparM = true then (pExpr ts n (a + 1)).bind fun r => if tkxB ts r.2 7 rparM = true then some (r.1, r.2 + 1) else none
  else if tkxB ts a 7 lbrM = true then pBlock ts n (a + 1)
  else none
noncomputable def pBlock (ts : List MToken) : Nat -> Nat -> Option (MExpr × Nat)
 | 0, _ => none
 | n + 1, a => (pBody ts n a).bind fun r => if tkxB ts r.2 7 rbrM = true then some (r.1, r.2 + 1) else none
noncomputable def pBody (ts : List MToken) : Nat -> Nat -> Option (MExpr × Nat)
 | 0, _ => none
 | n + 1, a => (pPars ts n [] a).bind fun p => if (p.1.length ≠ 0 /\ tkxB ts p.2 7 barM = false) then none else
  (pVars ts n (if p.1.length ≠ 0 then p.2 + 1 else p.2)).bind fun v => (pStmts ts n [] v.2).bind fun b => some (blockM p.1 v.1 b.1, b.2)
noncomputable def pStmts (ts : List MToken) : Nat -> List MExpr -> Nat -> Option (List MExpr × Nat)
 | 0, _, _ => none
 | n + 1, l, a => if tkxB ts a 7 retM = true then (pExpr ts n (a + 1)).bind fun r => some (l ++ [eRet r.1], if tkxB ts r.2 7 dotM = true then r.2 + 1 else r.2)
  else if beginsB ts a = true then (pExpr ts n a).bind fun r => if tkxB ts r.2 7 dotM = true then pStmts ts n (l ++ [r.1]) (r.2 + 1) else some (l ++ [r.1], r.2)
  else some (l, a)
end
def Ev {α : Type} (f : Nat -> Option α) (r : Option α) : Prop := ∃ n0, ∀ n, n0 <= n -> f n = r
theorem Ev.uniq {α : Type} {f : Nat -> Option α} {r s : Option α} (h : Ev f r) (k : Ev f s) : r = s := by
 obtain ⟨n, h⟩ := h
 obtain ⟨m, k⟩ := k
 rw [<- h (max n m) (Nat.le_max_left _ _), <- k (max n m) (Nat.le_max_right _ _)]
theorem Ev.const {α : Type} (r : Option α) : Ev (fun _ => r) r := ⟨0, fun _ _ => rfl⟩
theorem Ev.step {α : Type} {f g : Nat -> Option α} {r : Option α} (hf : ∀ n, f (n + 1) = g n) (h : Ev g r) : Ev f r := by
 obtain ⟨n0, h⟩ := h
 refine ⟨n0 + 1, fun n hn => ?_⟩
 obtain ⟨m, rfl⟩ : ∃ m, n = m + 1 := ⟨n - 1, by omega⟩
 rw [hf, h m (by omega)]
theorem Ev.bind {α β : Type} {f : Nat -> Option α} {g : Nat -> α -> Option β} {x : α} {r : Option β} (h : Ev f (some x)) (k : Ev (fun n => g n x) r) : Ev (fun n => (f n).bind (g n)) r := by
 obtain ⟨n, h⟩ := h
 obtain ⟨m, k⟩ := k
 refine ⟨max n m, fun i hi => ?_⟩
 show (f i).bind (g i) = r
 rw [h i (Nat.le_trans (Nat.le_max_left _ _) hi)]
 exact k i (Nat.le_trans (Nat.le_max_right _ _) hi)
theorem Ev.bind_none {α β : Type} {f : Nat -> Option α} {g : Nat -> α -> Option β} (h : Ev f none) : Ev (fun n => (f n).bind (g n)) none := by
 obtain ⟨n, h⟩ := h
 exact ⟨n, fun i hi => by show (f i).bind (g i) = none; rw [h i hi]; rfl⟩
structure Got {α : Type} (bad : Bool) (F : Nat -> Option α) (bad' : Bool) (y : α) : Prop where
 keep : bad = true -> bad' = true
 no : bad = false -> bad' = true -> Ev F none
 yes : bad = false -> bad' = false -> Ev F (some y)
theorem Got.dead {α : Type} (F : Nat -> Option α) (y : α) : Got true F true y := ⟨fun _ => rfl, fun h => (by cases h), fun h => (by cases h)⟩
theorem Got.ok {α : Type} {b : Bool} {F : Nat -> Option α} {y : α} (h : Ev F (some y)) : Got b F b y := ⟨fun h => h, fun e k => (by rw [e] at k; cases k), fun _ _ => h⟩
theorem Got.bad {α : Type} {b : Bool} {F : Nat -> Option α} (y : α) (h : Ev F none) : Got b F true y := ⟨fun _ => rfl, fun _ _ => h, fun _ k => (by cases k)⟩
structure Todo {β : Type} (bad : Bool) (G : Nat -> Option β) (b : Bool) (F : Nat -> Option β) : Prop where
 keep : bad = true -> b = true
 no : bad = false -> b = true -> Ev G none
 yes : bad = false -> b = false -> ∀ r, Ev F r -> Ev G r
theorem Todo.refl {β : Type} (b : Bool) (G : Nat -> Option β) : Todo b G b G := ⟨fun h => h, fun h k => (by rw [h] at k; cases k), fun _ _ _ h => h⟩
theorem Todo.trans {β : Type} {b0 b1 b2 : Bool} {G F H : Nat -> Option β} (h : Todo b0 G b1 F) (k : Todo b1 F b2 H) : Todo b0 G b2 H where
 keep e := k.keep (h.keep e)
 no e e2 := by
  cases b1 with
  | true => exact h.no e rfl
  | false => exact h.yes e rfl _ (k.no rfl e2)
 yes e e2 r hr := by
  cases b1 with
  | true => have := k.keep rfl; rw [this] at e2; cases e2
  | false => exact h.yes e rfl _ (k.yes rfl e2 r hr)
theorem Todo.step {β : Type} {b0 b : Bool} {G F H : Nat -> Option β} (h : Todo b0 G b F) (hF : ∀ n, F (n + 1) = H n) : Todo b0 G b H := ⟨h.keep, h.no, fun e e2 r hr => h.yes e e2 r (Ev.step hF hr)⟩
theorem Todo.done {β : Type} {b0 b : Bool} {G F : Nat -> Option β} {y : β} (h : Todo b0 G b F) (hF : ∀ n, F (n + 1) = some y) : Got b0 G b y := ⟨h.keep, h.no, fun e e2 => h.yes e e2 _ (Ev.step hF (Ev.const _))⟩
theorem Todo.fail {β : Type} {b0 b : Bool} {G F : Nat -> Option β} (y : β) (h : Todo b0 G b F) (hF : ∀ n, F (n + 1) = none) : Got b0 G true y where
 keep _ := rfl
 no e _ := by
  cases b with
  | true => exact h.no e rfl
  | false => exact h.yes e rfl _ (Ev.step hF (Ev.const _))
 yes _ e := by cases e
theorem Todo.dead {β : Type} {b0 : Bool} {G F : Nat -> Option β} (y : β) (h : Todo b0 G true F) : Got b0 G true y := ⟨fun _ => rfl, fun e _ => h.no e rfl, fun _ e => (by cases e)⟩
theorem Todo.badly {β : Type} {b0 b : Bool} {G F H : Nat -> Option β} (h : Todo b0 G b F) (hF : ∀ n, F (n + 1) = none) : Todo b0 G true H where
 keep _ := rfl
 no e _ := by
  cases b with
  | true => exact h.no e rfl
  | false => exact h.yes e rfl _ (Ev.step hF (Ev.const _))
 yes _ e := by cases e
theorem Todo.call {α β : Type} {b0 b b' : Bool} {G F : Nat -> Option β} {f : Nat -> Option α} {g : Nat -> α -> Option β} {y : α} (h : Todo b0 G b F) (c : Got b f b' y) (hF : ∀ n, F (n + 1) = (f n).bind (g n)) : Todo b0 G b' (fun n => g n y) :=
 h.trans ⟨c.keep, fun e e2 => Ev.step hF (Ev.bind_none (c.no e e2)), fun e e2 r hr => Ev.step hF (Ev.bind (c.yes e e2) hr)⟩
def tkK (ts : List MToken) (a : Nat) : Int := match ts[a]? with | some t => t.kind | none => 0
theorem tkB_eq {ts : List MToken} {a : Nat} {k : Int} (hk : k ≠ 0) : tkB ts a k = (tkK ts a == k) := by
 unfold tkB tkK
 cases ts[a]? with
 | some t => rfl
 | none => simp; exact fun h => hk h.symm
theorem tkxB_eq {ts : List MToken} {a : Nat} {k : Int} {s : ByteArray} (hk : k ≠ 0) : tkxB ts a k s = (tkK ts a == k && eqB (tkT ts a) s) := by
 unfold tkxB tkK tkT
 cases ts[a]? with
 | some t => rfl
 | none =>
  have : ((0 : Int) == k) = false := by simp; exact fun h => hk h.symm
  simp [this]
theorem tkK_some {ts : List MToken} {a : Nat} {t : MToken} (h : ts[a]? = some t) : tkK ts a = t.kind /\ tkT ts a = t.text /\ tkN ts a = t.number := by
 unfold tkK tkT tkN
 rw [h]
 exact ⟨rfl, rfl, rfl⟩
theorem tkK_none {ts : List MToken} {a : Nat} (h : ts.length <= a) : tkK ts a = 0 /\ tkT ts a = ⟨#[]⟩ /\ tkN ts a = 0 := by
 unfold tkK tkT tkN
 rw [List.getElem?_eq_none h]
 exact ⟨rfl, rfl, rfl⟩
theorem tkK_lt {ts : List MToken} {a : Nat} (h : tkK ts a ≠ 0) : a < ts.length := by
 apply Decidable.byContradiction
 intro hn
 exact h (tkK_none (by omega)).1
def PS (ts : List MToken) : Nat -> Nat
 | 0 => 0
 | a + 1 => PS ts a + ((tkT ts a).size + 8)
theorem PS_succ (ts : List MToken) (a : Nat) : PS ts (a + 1) = PS ts a + ((tkT ts a).size + 8) := rfl
def lbE : List MExpr -> Nat
 | [] => 0
 | k :: l => k.d.bulk + 1 + lbE l
def lbT : List ByteArray -> Nat
 | [] => 0
 | k :: l => k.size + 1 + lbT l
theorem lbE_append : ∀ a b : List MExpr, lbE (a ++ b) = lbE a + lbE b
 | [], b => by simp [lbE]
 | k :: a, b => by rw [List.cons_append, lbE, lbE, lbE_append a b]; omega
theorem lbT_append : ∀ a b : List ByteArray, lbT (a ++ b) = lbT a + lbT b
 | [], b => by simp [lbT]
 | k :: a, b => by rw [List.cons_append, lbT, lbT, lbT_append a b]; omega
theorem bulkE_lb (l : List MExpr) : l.length + D.bulkL (l.map MExpr.d) = lbE l := by
 induction l with
 | nil => simp [D.bulkL, lbE]
 | cons k l ih => simp only [List.map_cons, D.bulkL, List.length_cons, lbE]; omega
theorem bulkT_lb (l : List ByteArray) : l.length + D.bulkL (l.map D.str) = lbT l := by
 induction l with
 | nil => simp [D.bulkL, lbT]
 | cons k l ih => simp only [List.map_cons, D.bulkL, D.bulk, List.length_cons, lbT]; omega
theorem bulk_lb (x : MExpr) : x.d.bulk = x.text.size + lbT x.names + lbE x.kids := by
 rw [MExpr.d_eq, <- bulkE_lb, <- bulkT_lb]
 simp only [D.bulk, D.bulkL, strs, MExprs, List.length_map]
 omega
theorem bulk_msg (s : ByteArray) (l : List MExpr) : (eMsg s l).d.bulk = s.size + lbE l := by rw [bulk_lb]; simp [eMsg, lbT]
theorem lb_casc (e : MExpr) : lbE (e.kids.take 1 ++ [eMsg e.text (e.kids.drop 1)]) <= e.d.bulk + 1 := by
 rw [lbE_append, bulk_lb e]
 have h := lbE_append (e.kids.take 1) (e.kids.drop 1)
 rw [List.take_append_drop] at h
 simp only [lbE, bulk_msg]
 omega
theorem names_lb (ts : List MToken) : ∀ (n : Nat) (l : List ByteArray) (a : Nat) (r : List ByteArray × Nat), pNames ts n l a = some r -> ∀ c, lbT l + c <= PS ts a -> lbT r.1 + c <= PS ts r.2
 | 0, l, a, r, h, c, hc => by simp [pNames] at h
 | n + 1, l, a, r, h, c, hc => by
  rw [pNames] at h
  split at h
  · refine names_lb ts n _ _ r h c ?_
    rw [lbT_append, PS_succ]
    simp only [lbT]
    omega
  · injection h with h; subst h; exact hc
theorem pars_lb (ts : List MToken) : ∀ (n : Nat) (l : List ByteArray) (a : Nat) (r : List ByteArray × Nat), pPars ts n l a = some r -> ∀ c, lbT l + c <= PS ts a -> lbT r.1 + c <= PS ts r.2
 | 0, l, a, r, h, c, hc => by simp [pPars] at h
 | n + 1, l, a, r, h, c, hc => by
  rw [pPars] at h
  split at h
  · split at h
    · refine pars_lb ts n _ _ r h c ?_
      rw [lbT_append, PS_succ, PS_succ]
      simp only [lbT]
      omega
    · cases h
  · injection h with h; subst h; exact hc
theorem vars_lb (ts : List MToken) (n a : Nat) (r : List ByteArray × Nat) (h : pVars ts n a = some r) : lbT r.1 + PS ts a <= PS ts r.2 := by
 unfold pVars at h
 split at h
 · rw [Option.bind_eq_some_iff] at h
   obtain ⟨y, h1, h2⟩ := h
   have := names_lb ts n _ _ y h1 (PS ts a) (by rw [PS_succ]; simp only [lbT]; omega)
   split at h2
   · injection h2 with h2; subst h2
     show lbT y.1 + _ <= PS ts (y.2 + 1)
     rw [PS_succ]; omega
   · cases h2
 · injection h with h; subst h; simp [lbT]
structure Bnd (ts : List MToken) (n : Nat) : Prop where
 ex : ∀ a r, pExpr ts n a = some r -> r.1.d.bulk + 2 + PS ts a <= PS ts r.2
 wd : ∀ e s a r, pWord ts n e s a = some r -> ∀ c, e.d.bulk + 4 + c <= PS ts a -> r.1.d.bulk + 2 + c <= PS ts r.2
 se : ∀ e s a r, pSemi ts n e s a = some r -> ∀ c, e.d.bulk + 3 + c <= PS ts a -> r.1.d.bulk + 2 + c <= PS ts r.2
 ca : ∀ l a r, pCasc ts n l a = some r -> ∀ c, lbE l + 2 + c <= PS ts a -> r.1.d.bulk + 2 + c <= PS ts r.2
 ms : ∀ a r, pMsg ts n a = some r -> r.1.d.bulk + PS ts a <= PS ts r.2
 ke : ∀ s l a r, pKeys ts n s l a = some r -> ∀ c, s.size + lbE l + c <= PS ts a -> r.1.size + lbE r.2.1 + c <= PS ts r.2.2
 bi : ∀ a r, pBinary ts n a = some r -> r.1.d.bulk + 4 + PS ts a <= PS ts r.2.2
 bl : ∀ e s a r, pBin ts n e s a = some r -> ∀ c, e.d.bulk + 4 + c <= PS ts a -> r.1.d.bulk + 4 + c <= PS ts r.2.2
 un : ∀ a r, pUnary ts n a = some r -> r.1.d.bulk + 4 + PS ts a <= PS ts r.2.2
 ul : ∀ e s a r, pUn ts n e s a = some r -> ∀ c, e.d.bulk + 4 + c <= PS ts a -> r.1.d.bulk + 4 + c <= PS ts r.2.2
 pr : ∀ a r, pPrim ts n a = some r -> r.1.d.bulk + 4 + PS ts a <= PS ts r.2
 bk : ∀ a r, pBlock ts n a = some r -> r.1.d.bulk + PS ts a <= PS ts r.2
 bo : ∀ a r, pBody ts n a = some r -> r.1.d.bulk + PS ts a <= PS ts r.2
 st : ∀ l a r, pStmts ts n l a = some r -> ∀ c, lbE l + c <= PS ts a -> lbE r.1 + c <= PS ts r.2
theorem bnd_zero (ts : List MToken) : Bnd ts 0 where
 ex a r h := by simp [pExpr] at h
 wd e s a r h := by simp [pWord] at h
 se e s a r h := by simp [pSemi] at h
 ca l a r h := by simp [pCasc] at h
 ms a r h := by simp [pMsg] at h
 ke s l a r h := by simp [pKeys] at h
 bi a r h := by simp [pBinary] at h
 bl e s a r h := by simp [pBin] at h
 un a r h := by simp [pUnary] at h
 ul e s a r h := by simp [pUn] at h
 pr a r h := by simp [pPrim] at h
 bk a r h := by simp [pBlock] at h
 bo a r h := by simp [pBody] at h
 st l a r h := by simp [pStmts] at h
theorem nil_sz : (⟨#[]⟩ : ByteArray).size = 0 := rfl
theorem bnd_succ (ts : List MToken) (n : Nat) (h : Bnd ts n) : Bnd ts (n + 1) where
 ex a r hr := by
  rw [pExpr] at hr
  split at hr
  · rw [Option.bind_eq_some_iff] at hr
    obtain ⟨y, h1, h2⟩ := hr
    injection h2 with h2; subst h2
    have := h.ex _ _ h1
    rw [PS_succ, PS_succ] at this
    show (eAsg _ _).d.bulk + 2 + _ <= _
    rw [bulk_lb]
    simp only [eAsg, lbT, lbE]
    omega
  · rw [Option.bind_eq_some_iff] at hr
    obtain ⟨y, h1, h2⟩ := hr
    exact h.wd _ _ _ _ h2 _ (h.bi _ _ h1)
 wd e s a r hr c hc := by
  rw [pWord] at hr
  split at hr
  · rw [Option.bind_eq_some_iff] at hr
    obtain ⟨y, h1, h2⟩ := hr
    have := h.ke _ _ _ _ h1 (PS ts a) (by rw [nil_sz]; simp only [lbE]; omega)
    refine h.se _ _ _ _ h2 c ?_
    rw [bulk_msg]
    simp only [lbE]
    omega
  · exact h.se _ _ _ _ hr c (by omega)
 se e s a r hr c hc := by
  rw [pSemi] at hr
  split at hr
  · split at hr
    · have := lb_casc e
      exact h.ca _ _ _ hr c (by omega)
    · cases hr
  · injection hr with hr; subst hr; show e.d.bulk + 2 + c <= PS ts a; omega
 ca l a r hr c hc := by
  rw [pCasc] at hr
  split at hr
  · rw [Option.bind_eq_some_iff] at hr
    obtain ⟨y, h1, h2⟩ := hr
    have := h.ms _ _ h1
    rw [PS_succ] at this
    refine h.ca _ _ _ h2 c ?_
    rw [lbE_append]
    simp only [lbE]
    omega
  · injection hr with hr; subst hr
    show (eCasc l).d.bulk + 2 + c <= _
    rw [bulk_lb]
    have e0 : (eCasc l).text.size = 0 := rfl
    have e1 : (eCasc l).kids = l := rfl
    have e2 : (eCasc l).names = [] := rfl
    rw [e0, e1, e2]
    simp only [lbT]
    omega
 ms a r hr := by
  rw [pMsg] at hr
  split at hr
  · injection hr with hr; subst hr
    show (eMsg _ _).d.bulk + _ <= PS ts (a + 1)
    rw [bulk_msg, PS_succ]; simp only [lbE]; omega
  · split at hr
    · rw [Option.bind_eq_some_iff] at hr
      obtain ⟨y, h1, h2⟩ := hr
      injection h2 with h2; subst h2
      have := h.un _ _ h1
      rw [PS_succ] at this
      show (eMsg _ _).d.bulk + _ <= _
      rw [bulk_msg]; simp only [lbE]; omega
    · split at hr
      · rw [Option.bind_eq_some_iff] at hr
        obtain ⟨y, h1, h2⟩ := hr
        injection h2 with h2; subst h2
        have := h.ke _ _ _ _ h1 (PS ts a) (by rw [nil_sz]; simp only [lbE]; omega)
        show (eMsg _ _).d.bulk + _ <= _
        rw [bulk_msg]; omega
      · cases hr
 ke s l a r hr c hc := by
  rw [pKeys] at hr
  split at hr
  · rw [Option.bind_eq_some_iff] at hr
    obtain ⟨y, h1, h2⟩ := hr
    have := h.bi _ _ h1
    rw [PS_succ] at this
    refine h.ke _ _ _ _ h2 c ?_
    rw [lbE_append, ByteArray.size_append]
    simp only [lbE]
    omega
  · injection hr with hr; subst hr; exact hc
 bi a r hr := by
  rw [pBinary, Option.bind_eq_some_iff] at hr
  obtain ⟨y, h1, h2⟩ := hr
  exact h.bl _ _ _ _ h2 _ (h.un _ _ h1)
 bl e s a r hr c hc := by
  rw [pBin] at hr
  split at hr
  · rw [Option.bind_eq_some_iff] at hr
    obtain ⟨y, h1, h2⟩ := hr
    have := h.un _ _ h1
    rw [PS_succ] at this
    refine h.bl _ _ _ _ h2 c ?_
    rw [bulk_msg]
    simp only [lbE]
    omega
  · injection hr with hr; subst hr; exact hc
 un a r hr := by
  rw [pUnary, Option.bind_eq_some_iff] at hr
  obtain ⟨y, h1, h2⟩ := hr
  exact h.ul _ _ _ _ h2 _ (h.pr _ _ h1)
 ul e s a r hr c hc := by
  rw [pUn] at hr
  split at hr
  · refine h.ul _ _ _ _ hr c ?_
    rw [bulk_msg, PS_succ]
    simp only [lbE]
    omega
  · injection hr with hr; subst hr; exact hc
 pr a r hr := by
  rw [pPrim] at hr
  split at hr
  · injection hr with hr; subst hr
    show (eName _).d.bulk + 4 + _ <= PS ts (a + 1)
    rw [bulk_lb, PS_succ]; simp only [eName, lbT, lbE]; omega
  split at hr
  · injection hr with hr; subst hr
    show (eInt _).d.bulk + 4 + _ <= PS ts (a + 1)
    rw [bulk_lb, PS_succ]
    have e0 : (eInt (tkN ts a)).text.size = 0 := rfl
    rw [e0]; simp only [eInt, lbT, lbE]; omega
  split at hr
  · injection hr with hr; subst hr
    show (eText _).d.bulk + 4 + _ <= PS ts (a + 1)
    rw [bulk_lb, PS_succ]; simp only [eText, lbT, lbE]; omega
  split at hr
  · injection hr with hr; subst hr
    show (eSym _).d.bulk + 4 + _ <= PS ts (a + 1)
    rw [bulk_lb, PS_succ]; simp only [eSym, lbT, lbE]; omega
  split at hr
  · rw [Option.bind_eq_some_iff] at hr
    obtain ⟨y, h1, h2⟩ := hr
    have := h.ex _ _ h1
    rw [PS_succ] at this
    split at h2
    · injection h2 with h2; subst h2
      show y.1.d.bulk + 4 + _ <= PS ts (y.2 + 1)
      rw [PS_succ]; omega
    · cases h2
  split at hr
  · have := h.bk _ _ hr
    rw [PS_succ] at this
    omega
  · cases hr
 bk a r hr := by
  rw [pBlock, Option.bind_eq_some_iff] at hr
  obtain ⟨y, h1, h2⟩ := hr
  have := h.bo _ _ h1
  split at h2
  · injection h2 with h2; subst h2
    show y.1.d.bulk + _ <= PS ts (y.2 + 1)
    rw [PS_succ]; omega
  · cases h2
 bo a r hr := by
  rw [pBody, Option.bind_eq_some_iff] at hr
  obtain ⟨p, h1, h2⟩ := hr
  have hp := pars_lb ts n _ _ p h1 (PS ts a) (by simp [lbT])
  split at h2
  · cases h2
  rw [Option.bind_eq_some_iff] at h2
  obtain ⟨v, h3, h4⟩ := h2
  have hv := vars_lb ts n _ v h3
  rw [Option.bind_eq_some_iff] at h4
  obtain ⟨b, h5, h6⟩ := h4
  have hb := h.st _ _ _ h5 (PS ts v.2) (by simp [lbE])
  have hq : PS ts p.2 <= PS ts (if p.1.length ≠ 0 then p.2 + 1 else p.2) := by
   split
   · rw [PS_succ]; omega
   · exact Nat.le_refl _
  injection h6 with h6; subst h6
  show (blockM _ _ _).d.bulk + _ <= PS ts b.2
  rw [bulk_lb]
  have e0 : (blockM p.1 v.1 b.1).text.size = 0 := rfl
  have e1 : (blockM p.1 v.1 b.1).kids = b.1 := rfl
  have e2 : (blockM p.1 v.1 b.1).names = p.1 ++ v.1 := rfl
  rw [e0, e1, e2, lbT_append]
  omega
 st l a r hr c hc := by
  rw [pStmts] at hr
  split at hr
  · rw [Option.bind_eq_some_iff] at hr
    obtain ⟨y, h1, h2⟩ := hr
    injection h2 with h2; subst h2
    have := h.ex _ _ h1
    rw [PS_succ] at this
    have hr : (eRet y.1).d.bulk = y.1.d.bulk + 1 := by
     rw [bulk_lb]
     have e0 : (eRet y.1).text.size = 0 := rfl
     rw [e0]; simp only [eRet, lbT, lbE]; omega
    have hq : PS ts y.2 <= PS ts (if tkxB ts y.2 7 dotM = true then y.2 + 1 else y.2) := by
     split
     · rw [PS_succ]; omega
     · exact Nat.le_refl _
    show lbE (l ++ [eRet y.1]) + c <= PS ts (if tkxB ts y.2 7 dotM = true then y.2 + 1 else y.2)
    rw [lbE_append]
    simp only [lbE]
    omega
  · split at hr
    · rw [Option.bind_eq_some_iff] at hr
      obtain ⟨y, h1, h2⟩ := hr
      have := h.ex _ _ h1
      split at h2
      · refine h.st _ _ _ h2 c ?_
        rw [lbE_append, PS_succ]
        simp only [lbE]
        omega
      · injection h2 with h2; subst h2
        show lbE (l ++ [y.1]) + c <= PS ts y.2
        rw [lbE_append]
        simp only [lbE]
        omega
    · injection hr with hr; subst hr; exact hc
theorem bnd_all (ts : List MToken) : ∀ n, Bnd ts n
 | 0 => bnd_zero ts
 | n + 1 => bnd_succ ts n (bnd_all ts n)
def TokQ (t : MToken) : Prop := (t.kind ≠ 3 -> t.number = 0) /\ ((t.kind = 1 ∨ t.kind = 2 ∨ t.kind = 6) -> t.text.size ≠ 0)
def TokR (L : Nat) (x : MToken × Nat) : Prop := TokQ x.1 /\ x.1.text.size <= x.2 + 84 /\ x.1.text.size <= L + 84
theorem TokR.mk0 {L : Nat} {k : Int} {t : ByteArray} {n : Nat} (h : t.size <= n + 84) (h3 : t.size <= L + 84) (h2 : (k = 1 ∨ k = 2 ∨ k = 6) -> t.size ≠ 0) : TokR L (⟨k, t, 0⟩, n) := ⟨⟨fun _ => rfl, h2⟩, h, h3⟩
theorem TokR.none (L : Nat) : TokR L noTok := ⟨⟨fun _ => rfl, (fun h => (by rcases h with h | h | h <;> cases h))⟩, Nat.zero_le _, Nat.zero_le _⟩
theorem name_q (l : List UInt8) (h0 : runL l ≠ 0) : TokR l.length (nameT l) := by
 have hrl := runL_le l
 have h1 : (runB l).size <= runL l /\ (runB l).size <= l.length /\ (runB l).size ≠ 0 := by unfold runB; rw [mkB_size, List.length_take]; omega
 have h2 : (runB l ++ (⟨#[58]⟩ : ByteArray)).size = (runB l).size + 1 := by rw [ByteArray.size_append]; rfl
 unfold nameT
 split
 · split
   · exact TokR.mk0 (by omega) (by omega) (fun _ => by omega)
   · exact TokR.none _
 · split
   · exact TokR.mk0 (by omega) (by omega) (fun h => (by rcases h with h | h | h <;> cases h))
   · split
     · exact TokR.mk0 (by omega) (by omega) (fun _ => by omega)
     · exact TokR.none _
theorem num_q (l : List UInt8) : TokR l.length (numT l) := by
 unfold numT
 split
 · exact TokR.none _
 · split
   · exact TokR.none _
   · exact ⟨⟨fun h => absurd rfl h, (fun h => (by rcases h with h | h | h <;> cases h))⟩, Nat.zero_le _, Nat.zero_le _⟩
theorem quot_q (l : List UInt8) : TokR l.length (quoT l) := by
 unfold quoT
 split
 · exact TokR.none _
 · split
   · rename_i h
     have := (textB_iff.1 h).2
     exact TokR.mk0 (by omega) (by omega) (fun h => (by rcases h with h | h | h <;> cases h))
   · exact TokR.none _
theorem sel_q (l : List UInt8) : TokR l.length (selT l) := by
 have h1 := firstP_le opsL (mkB l)
 rw [mkB_size] at h1
 unfold selT
 split
 · split
   · split
     · exact TokR.mk0 (by rw [mkB_size, List.length_take]; omega) (by rw [mkB_size, List.length_take]; omega) (fun h => (by rcases h with h | h | h <;> cases h))
     · exact TokR.none _
   · exact TokR.none _
 · exact TokR.mk0 (by omega) (by omega) (fun h => (by rcases h with h | h | h <;> cases h))
theorem sym_q (l : List UInt8) : TokR l.length (symT l) := by
 unfold symT
 split
 · exact TokR.none _
 · have := sel_q l
   exact ⟨this.1, by have := this.2.1; show (selT l).1.text.size <= (selT l).2 + 1 + 84; omega, this.2.2⟩
theorem ne_size {s : ByteArray} (h : ¬ s = ⟨#[]⟩) : s.size ≠ 0 := fun hz => h (by
 cases s with
 | mk d =>
  have : d.size = 0 := hz
  rw [Array.size_eq_zero_iff.1 this])
theorem op_q (l : List UInt8) : TokR l.length (opT l) := by
 have h1 := firstP_le opsL (mkB l)
 have h2 := firstP_le marksL (mkB l)
 rw [mkB_size] at h1 h2
 unfold opT
 split
 · split
   · exact TokR.none _
   · exact TokR.mk0 (by omega) (by omega) (fun h => (by rcases h with h | h | h <;> cases h))
 · rename_i hn
   exact TokR.mk0 (by omega) (by omega) (fun _ => ne_size hn)
theorem tok_q (l : List UInt8) : TokR l.length (tokL l) := by
 unfold tokL tokC
 split
 · rename_i h
   refine name_q l ?_
   cases l with
   | nil => exact absurd h (by decide)
   | cons c r => exact run_ltr h
 · split
   · exact num_q l
   · split
     · exact quot_q l
     · split
       · have := sym_q (l.drop 1)
         exact ⟨this.1, this.2.1, by have := this.2.2; rw [List.length_drop] at this; omega⟩
       · exact op_q l
def sumW : List MToken -> Nat
 | [] => 0
 | t :: l => t.text.size + sumW l
theorem sumW_append : ∀ a b : List MToken, sumW (a ++ b) = sumW a + sumW b
 | [], b => by simp [sumW]
 | t :: a, b => by rw [List.cons_append, sumW, sumW, sumW_append a b]; omega
theorem scan_q : ∀ (m : Nat) (l : List UInt8) (acc r : List MToken), l.length <= m -> (∀ t, t ∈ acc -> TokQ t) -> acc.length <= 800 -> scanL l acc = some r -> (∀ t, t ∈ r -> TokQ t) /\ sumW r + 84 * acc.length <= sumW acc + l.length + 84 * r.length
 | 0, l, acc, r, h, ha, h8, e => by
  have : l = [] := List.length_eq_zero_iff.1 (by omega)
  subst this
  rw [scan_nil] at e; injection e with e; subst e; exact ⟨ha, by omega⟩
 | m + 1, [], acc, r, h, ha, h8, e => by rw [scan_nil] at e; injection e with e; subst e; exact ⟨ha, by omega⟩
 | m + 1, b :: t, acc, r, h, ha, h8, e => by
  have h0 := h
  rw [List.length_cons] at h
  by_cases h1 : b = 32 ∨ b = 10 ∨ b = 9
  · rw [scan_blank h1] at e
    obtain ⟨k1, k2⟩ := scan_q m t acc r (by omega) ha h8 e
    exact ⟨k1, by rw [List.length_cons]; omega⟩
  · by_cases h2 : b = 34
    · subst h2
      by_cases h3 : quN t < t.length
      · rw [scan_note h3] at e
        obtain ⟨k1, k2⟩ := scan_q m _ acc r (by rw [List.length_drop]; omega) ha h8 e
        rw [List.length_drop] at k2
        exact ⟨k1, by rw [List.length_cons]; omega⟩
      · rw [scan_open h3] at e; cases e
    · by_cases h3 : (tokL (b :: t)).2 = 0 ∨ 800 <= acc.length
      · rw [scan_bad h1 h2 h3] at e; cases e
      · rw [scan_tok h1 h2 h3] at e
        have hq := tok_q (b :: t)
        obtain ⟨k1, k2⟩ := scan_q m _ _ r (by rw [List.length_drop, List.length_cons]; omega) (fun x hx => by
         rcases List.mem_append.1 hx with hx | hx
         · exact ha x hx
         · rw [List.mem_singleton.1 hx]; exact hq.1) (by rw [List.length_append, List.length_singleton]; omega) e
        refine ⟨k1, ?_⟩
        rw [sumW_append, List.length_append, List.length_singleton, List.length_drop] at k2
        simp only [sumW] at k2
        have h4 := hq.2.1
        have h5 : (tokL (b :: t)).2 <= (b :: t).length ∨ (b :: t).length < (tokL (b :: t)).2 := by omega
        rcases h5 with h5 | h5
        · omega
        · have h6 := hq.2.2
          omega
theorem toks_q {s : ByteArray} {ts : List MToken} (h : toksL s = some ts) : (∀ t, t ∈ ts -> TokQ t) /\ sumW ts <= 4000 + 84 * ts.length := by
 unfold toksL at h
 split at h
 · cases h
 · rename_i hs
   obtain ⟨k1, k2⟩ := scan_q _ s.data.toList [] ts (Nat.le_refl _) (by simp) (by simp) h
   refine ⟨k1, ?_⟩
   have e : s.data.toList.length = s.size := by simp
   rw [e] at k2
   simp only [sumW, List.length_nil] at k2
   omega
theorem sumW_take (ts : List MToken) (a : Nat) : sumW (ts.take a) <= sumW ts := by
 have h := sumW_append (ts.take a) (ts.drop a)
 rw [List.take_append_drop] at h
 omega
theorem PS_sum (ts : List MToken) : ∀ a, PS ts a <= sumW (ts.take a) + 8 * a
 | 0 => by simp [PS]
 | a + 1 => by
  have := PS_sum ts a
  rw [PS_succ, List.take_add_one, sumW_append]
  unfold tkT
  cases ts[a]? with
  | none => simp only [Option.toList_none, sumW, nil_sz]; omega
  | some t => simp only [Option.toList_some, sumW]; omega
theorem ev_bulk {ts : List MToken} (h : sumW ts <= 4000 + 84 * ts.length) (hl : ts.length <= 800) {x : MExpr} {a : Nat} (he : Ev (fun n => pExpr ts n 0) (some (x, a))) (ha : a <= 801) : x.d.bulk <= 1048576 := by
 obtain ⟨n, he⟩ := he
 have := (bnd_all ts n).ex 0 _ (he n (Nat.le_refl _))
 have h2 := PS_sum ts a
 have h3 := sumW_take ts a
 simp only [PS] at this
 omega
end Go.Proofs.YtndhpbjhkgdieaaGreatDoor
