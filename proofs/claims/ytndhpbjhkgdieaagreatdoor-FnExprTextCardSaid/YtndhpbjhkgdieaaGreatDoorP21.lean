/-
  CONTRACTS: right expressions, of the program; IsExpr, of both.
  Conditions: those that each lemma states.
-/
import Derived.Test.YtndhpbjhkgdieaaGreatDoorRows
import Derived.Lib.QuietBelow
import Derived.BigQuiet
import Derived.Test.YtndhpbjhkgdieaaGreatDoorP20
namespace Go.Proofs.YtndhpbjhkgdieaaGreatDoor
open Go.RowKit
set_option maxHeartbeats 8000000
set_option maxRecDepth 100000
set_option linter.unusedSimpArgs false
set_option linter.unusedVariables false
def FormAt (n : Nat) : Prop := ∀ (z : MExpr) (cz : List Value) (w : World), SizeOf.sizeOf z < n -> z.d.bulk <= 1048576 -> MaxOk w -> Rep w z.d cz ->
 Calls Tryz.prog 17 #[.agg cz.toArray] w fun e w' => e = .returned (.bool (prB (okR n true z))) /\ Ext w w'
def plainOk (n : Nat) (l : List MExpr) : Prop := ∀ z, z ∈ l -> okR n false z
theorem head_of {n : Nat} {st : Bool} {x : MExpr} (h : okR (n + 1) st x) : headOk x := h.1.1
theorem MExpr.shut_rep {w : World} {x : MExpr} {cs : List Value} (h : Rep w x.d cs) : ∃ a1 c1 a2 c2, cs = [.int .i64 x.kind, .string x.text, .int .i64 x.number, .slice a1 x.names.length c1, .slice a2 x.kids.length c2] := by
 obtain ⟨a1, c1, a2, c2, h, -, -⟩ := MExpr.op_en h
 exact ⟨a1, c1, a2, c2, h⟩
theorem plainKids_at (n : Nat) (IH : Hid (FormAt n)) (l : List MExpr) (v : Value) (w : World) (rl : Rep w (MExprs l) [v]) (hm : MaxOk w) (hb : Hid (∀ m, m ∈ l -> m.d.bulk <= 1048576)) (hs : Hid (∀ z, z ∈ l -> SizeOf.sizeOf z < n)) :
 Calls Tryz.prog 41 #[v] w fun e w' => e = .returned (.bool (prB (plainOk n l))) /\ Ext w w' := by
 obtain ⟨ao, ca, ba, oa, h1, hla, hma, pa, ha⟩ := Rep.slmap rl
 simp only [List.cons.injEq, and_true] at h1
 subst h1
 clear rl
 unfold maxLen at hma
 go_enter Tryz.func41, Tryz.ntmps41
 go_wp2_with fail
 go_loopw [7] (fun iv wr => ∃ k : Nat, k <= l.length /\ iv = .int .i64 k /\ Ext w wr /\ Hid (∀ j (hj : j < k) (hl : j < l.length), okR n false l[j])) (fun iv _ => l.length - (intOf iv).toNat)
 case atStart => exact ⟨0, Nat.zero_le _, rfl, XR _, LH fun j hj => by omega⟩
 case round =>
  obtain ⟨k, hk, rfl, hx, hR⟩ := hrel
  by_cases hlt : k < l.length
  rotate_left
  · go_wp2_with fail
    go_ret
    exact ⟨ret_bool (Eq.symm (prB_tt fun m hm => by
     obtain ⟨j, hj, rfl⟩ := List.mem_iff_getElem.1 hm
     exact hR.out j (by omega) hj)), hx⟩
  obtain rfl := pa (by omega)
  obtain ⟨ea, la, ca, ra⟩ := ha k l[k] (by simp [hlt])
  obtain ⟨na0, na1, na2, na3, rfl⟩ := MExpr.shut_rep ra
  have a0 := hx.cell (show w.cell? ⟨ba, oa + k * 5, none⟩ = some _ from ca 0 (by omega))
  have a1 := hx.cell (show w.cell? ⟨ba, oa + k * 5 + 1, none⟩ = some _ from ca 1 (by omega))
  have a2 := hx.cell (show w.cell? ⟨ba, oa + k * 5 + 2, none⟩ = some _ from ca 2 (by omega))
  have a3 := hx.cell (show w.cell? ⟨ba, oa + k * 5 + 3, none⟩ = some _ from ca 3 (by omega))
  have a4 := hx.cell (show w.cell? ⟨ba, oa + k * 5 + 4, none⟩ = some _ from ca 4 (by omega))
  clear ca la
  have con : Hid (∀ W, Ext wr W -> Calls Tryz.prog 17 #[.agg #[.int .i64 l[k].kind, .string l[k].text, .int .i64 l[k].number, .slice na0 l[k].names.length na1, .slice na2 l[k].kids.length na3]] W fun e w' => e = .returned (.bool (prB (okR n true l[k]))) /\ Ext W w') := LH fun W hW => IH.out l[k] _ W (hs.out _ (List.getElem_mem hlt)) (hb.out _ (List.getElem_mem hlt)) (hm.ext (hx.trans hW)) (Rep.ext (hx.trans hW) ra)
  have HM := LH (show l[k] ∈ l from List.getElem_mem hlt)
  clear ha pa ra
  generalize hM0 : l[k] = M at *
  have hM := LH hM0; clear hM0
  by_cases h9 : M.kind = 9
  · have t9 := int_eq h9
    have H9 := LH h9; clear h9
    go_wp2_with fail
    go_ret
    exact ⟨ret_bool (Eq.symm (prB_ff fun h => (okR_false.1 (h M HM.out)).1 H9.out)), hx.alloc _⟩
  have t9 := int_ne h9
  have H9 := LH h9; clear h9
  cases hg : prB (okR n true M)
  · have HG := LH hg; clear hg
    go_wp2_with fail
    refine (con.out _ ((XR _).alloc _)).mono ?_
    rw [HG.out]
    rintro e w3 ⟨rfl, hx3⟩
    clear a0 a1 a2 a3 a4
    go_wp2_with fail
    go_ret
    exact ⟨ret_bool (Eq.symm (prB_ff fun h => by
     have := prB_tt (okR_false.1 (h M HM.out)).2
     rw [HG.out] at this; cases this)), (hx.alloc _).trans hx3⟩
  · have HG := LH hg; clear hg
    go_wp2_with fail
    refine (con.out _ ((XR _).alloc _)).mono ?_
    rw [HG.out]
    rintro e w3 ⟨rfl, hx3⟩
    clear a0 a1 a2 a3 a4
    go_wp2_with fail
    go_roundw
    case rel => exact ⟨k + 1, by omega, by go_num, (hx.alloc _).trans hx3, LH fun i hi hl => by
     by_cases h : i < k
     · exact hR.out i h hl
     · obtain rfl : i = k := by omega
       rw [hM.out]
       exact okR_false.2 ⟨H9.out, prB_iff.1 HG.out⟩⟩
    case measure => simp [intOf]; omega
def mesOk (n : Nat) (m : MExpr) : Prop := msgHead m /\ ∀ z, z ∈ m.kids -> okR n false z
theorem messageOk_at (n : Nat) (IH : Hid (FormAt n)) (M : MExpr) (cm : List Value) (w : World) (rm : Rep w M.d cm) (hm : MaxOk w) (hb : M.d.bulk <= 1048576) (hs : Hid (∀ z, z ∈ M.kids -> SizeOf.sizeOf z < n)) :
 Calls Tryz.prog 43 #[.agg cm.toArray] w fun e w' => e = .returned (.bool (prB (mesOk n M))) /\ Ext w w' := by
 have ht := Nat.le_trans (MExpr.bulk_text M) hb
 have hkl := Nat.le_trans (MExpr.bulk_kids M) hb
 have hbk : Hid (∀ m, m ∈ M.kids -> m.d.bulk <= 1048576) := LH (fun m (hm : m ∈ M.kids) => Nat.le_trans (MExpr.bulk_kid hm) hb)
 obtain ⟨aa0, cc0, aa1, cc1, rfl, rn, rk⟩ := MExpr.op_en rm
 clear rm rn hb
 go_enter Tryz.func43, Tryz.ntmps43
 go_wp2_with fail
 generalize hW : World.alloc w _ = W1
 have c0 : W1.cell? ⟨w.heap.size, 0, none⟩ = some (.int .i64 M.kind) := by rw [<- hW]; simp
 have c1 : W1.cell? ⟨w.heap.size, 1, none⟩ = some (.string M.text) := by rw [<- hW]; simp
 have c2 : W1.cell? ⟨w.heap.size, 2, none⟩ = some (.int .i64 M.number) := by rw [<- hW]; simp
 have c3 : W1.cell? ⟨w.heap.size, 3, none⟩ = some (.slice aa0 M.names.length cc0) := by rw [<- hW]; simp
 have c4 : W1.cell? ⟨w.heap.size, 4, none⟩ = some (.slice aa1 M.kids.length cc1) := by rw [<- hW]; simp
 have E1 : Ext w W1 := by rw [<- hW]; exact (XR w).alloc _
 clear hW
 have CA : Hid (∀ W, Ext W1 W -> Calls Tryz.prog 42 #[.string M.text] W fun e w' => e = .returned (.int .i64 (argsB M.text)) /\ Ext W w') := LH fun W hW => impl_CountArgs_any _ _ ht (hm.ext (E1.trans hW))
 have CK0 : Hid (∀ W, Ext W1 W -> Calls Tryz.prog 41 #[.slice aa1 M.kids.length cc1] W fun e w' => e = .returned (.bool (prB (plainOk n M.kids))) /\ Ext W w') := LH fun W hW => plainKids_at n IH M.kids _ W (Rep.ext (E1.trans hW) rk) (hm.ext (E1.trans hW)) hbk hs
 clear rk
 by_cases h1 : M.kind = 6
 rotate_left
 · have t1 := int_ne h1
   have H1 := LH h1; clear h1
   have gc0 := reg (XR _) c0
   have gc1 := reg (XR _) c1
   have gc2 := reg (XR _) c2
   have gc3 := reg (XR _) c3
   have gc4 := reg (XR _) c4
   refine wp_region_quiet_below (by kernel_rfl) (by kernel_rfl) ?_
   repeat (go_big_quiet_step ((first | (go_at_call 42; exact Calls.regrown_of (CA.out _ (below_regrown _ _ _))) | (go_at_call 41; exact Calls.regrown_of (CK.out _ (below_regrown _ _ _))))))
   refine wpQuiet_nil ?_
   clear gc0 gc1 gc2 gc3 gc4
   intro _ hw'
   obtain ⟨pw, hw''⟩ := hw'
   subst hw''
   have X1 := regx W1 pw
   generalize hW2 : «Sort».grow (redrawn W1 pw.d) pw.os = W2 at *
   clear hW2
   go_wp2_with fail
   go_ret
   exact ⟨ret_bool (Eq.symm (prB_ff fun h => H1.out h.1.1)), E1.trans X1⟩
 have t1 := int_eq h1
 by_cases h2 : M.number = 0
 rotate_left
 · have t2 := int_ne h2
   have H2 := LH h2; clear h2
   have gc0 := reg (XR _) c0
   have gc1 := reg (XR _) c1
   have gc2 := reg (XR _) c2
   have gc3 := reg (XR _) c3
   have gc4 := reg (XR _) c4
   refine wp_region_quiet_below (by kernel_rfl) (by kernel_rfl) ?_
   repeat (go_big_quiet_step ((first | (go_at_call 42; exact Calls.regrown_of (CA.out _ (below_regrown _ _ _))) | (go_at_call 41; exact Calls.regrown_of (CK.out _ (below_regrown _ _ _))))))
   refine wpQuiet_nil ?_
   clear gc0 gc1 gc2 gc3 gc4
   intro _ hw'
   obtain ⟨pw, hw''⟩ := hw'
   subst hw''
   have X1 := regx W1 pw
   generalize hW2 : «Sort».grow (redrawn W1 pw.d) pw.os = W2 at *
   clear hW2
   go_wp2_with fail
   go_ret
   exact ⟨ret_bool (Eq.symm (prB_ff fun h => H2.out h.1.2.1)), E1.trans X1⟩
 have t2 := int_eq h2
 by_cases h3 : M.names = []
 rotate_left
 · have t3 := int_ne (show ¬ (M.names.length : Int) = 0 by have := List.length_pos_iff.2 h3; omega)
   have H3 := LH h3; clear h3
   have gc0 := reg (XR _) c0
   have gc1 := reg (XR _) c1
   have gc2 := reg (XR _) c2
   have gc3 := reg (XR _) c3
   have gc4 := reg (XR _) c4
   refine wp_region_quiet_below (by kernel_rfl) (by kernel_rfl) ?_
   repeat (go_big_quiet_step ((first | (go_at_call 42; exact Calls.regrown_of (CA.out _ (below_regrown _ _ _))) | (go_at_call 41; exact Calls.regrown_of (CK.out _ (below_regrown _ _ _))))))
   refine wpQuiet_nil ?_
   clear gc0 gc1 gc2 gc3 gc4
   intro _ hw'
   obtain ⟨pw, hw''⟩ := hw'
   subst hw''
   have X1 := regx W1 pw
   generalize hW2 : «Sort».grow (redrawn W1 pw.d) pw.os = W2 at *
   clear hW2
   go_wp2_with fail
   go_ret
   exact ⟨ret_bool (Eq.symm (prB_ff fun h => H3.out h.1.2.2.1)), E1.trans X1⟩
 have t3 := int_eq (show (M.names.length : Int) = 0 by rw [h3]; rfl)
 by_cases h5 : argsB M.text = (M.kids.length : Int)
 rotate_left
 · have t5 := int_ne h5
   have H5 := LH h5; clear h5
   have H1 := LH h1; have H2 := LH h2; have H3 := LH h3
   clear h1 h2 h3
   have gc0 := reg (XR _) c0
   have gc1 := reg (XR _) c1
   have gc2 := reg (XR _) c2
   have gc3 := reg (XR _) c3
   have gc4 := reg (XR _) c4
   refine wp_region_quiet_below (by kernel_rfl) (by kernel_rfl) ?_
   repeat (go_big_quiet_step ((first | (go_at_call 42; exact Calls.regrown_of (CA.out _ (below_regrown _ _ _))) | (go_at_call 41; exact Calls.regrown_of (CK.out _ (below_regrown _ _ _))))))
   refine wpQuiet_nil ?_
   clear gc0 gc1 gc2 gc3 gc4
   intro _ hw'
   obtain ⟨pw, hw''⟩ := hw'
   subst hw''
   have X1 := regx W1 pw
   generalize hW2 : «Sort».grow (redrawn W1 pw.d) pw.os = W2 at *
   clear hW2
   go_wp2_with fail
   go_ret
   exact ⟨ret_bool (Eq.symm (prB_ff fun h => H5.out h.1.2.2.2.2.symm)), E1.trans X1⟩
 have t5 := int_eq h5
 have HH : Hid (msgHead M) := LH ⟨h1, h2, h3, by omega, h5.symm⟩
 clear h1 h2 h3 h5
 cases hg : prB (plainOk n M.kids)
 all_goals
  have HG := LH hg; clear hg
  have CK := CK0.out
  rw [HG.out] at CK
  replace CK := LH CK
  clear CK0
  have gc0 := reg (XR _) c0
  have gc1 := reg (XR _) c1
  have gc2 := reg (XR _) c2
  have gc3 := reg (XR _) c3
  have gc4 := reg (XR _) c4
  refine wp_region_quiet_below (by kernel_rfl) (by kernel_rfl) ?_
  repeat (go_big_quiet_step ((first | (go_at_call 42; exact Calls.regrown_of (CA.out _ (below_regrown _ _ _))) | (go_at_call 41; exact Calls.regrown_of (CK.out _ (below_regrown _ _ _))))))
  refine wpQuiet_nil ?_
  clear gc0 gc1 gc2 gc3 gc4
  intro _ hw'
  obtain ⟨pw, hw''⟩ := hw'
  subst hw''
  have X1 := regx W1 pw
  generalize hW2 : «Sort».grow (redrawn W1 pw.d) pw.os = W2 at *
  clear hW2
  go_wp2_with fail
  go_ret
 · exact ⟨ret_bool (Eq.symm (prB_ff fun h => by have := prB_tt (p := plainOk n M.kids) h.2; rw [HG.out] at this; cases this)), E1.trans X1⟩
 · exact ⟨ret_bool (Eq.symm (prB_tt ⟨HH.out, prB_iff.1 HG.out⟩)), E1.trans X1⟩
theorem wf_1 (n : Nat) (IH : Hid (FormAt n)) (t : ByteArray) (num : Int) (nm : List ByteArray) (kids : List MExpr) (an : Option Addr) (cn : Nat) (ak : Option Addr) (ck : Nat) (w : World) (hm : MaxOk w)
 (hs : Hid (∀ z, z ∈ kids -> SizeOf.sizeOf z < n)) (hs2 : Hid (∀ m, m ∈ kids -> ∀ z, z ∈ m.kids -> SizeOf.sizeOf z < n)) (hbk : Hid (∀ m, m ∈ kids -> m.d.bulk <= 1048576)) (hbn : Hid (∀ m, m ∈ nm -> m.size <= 1048576))
 (ht : t.size <= 1048576) (hkl : kids.length <= 1048576) (hnl : nm.length <= 1048576) (hab : -1 <= argsB t /\ argsB t <= 4)
 (rn : Rep w (strs nm) [.slice an nm.length cn]) (rk : Rep w (MExprs kids) [.slice ak kids.length ck]) :
 Calls Tryz.prog 17 #[.agg #[.int .i64 1, .string t, .int .i64 num, .slice an nm.length cn, .slice ak kids.length ck]] w fun e w' => e = .returned (.bool (prB (okR (n + 1) true ⟨1, t, num, nm, kids⟩))) /\ Ext w w' := by
 by_cases hnm : nm = []
 rotate_left
 · have hn0 : 0 < nm.length := List.length_pos_iff.2 hnm
   have hp := LH (prB_ff (p := okR (n + 1) true ⟨1, t, num, nm, kids⟩) (by intro h; have h := head_of h; revert h; simp [headOk, hnm]))
   have HM : Hid (∀ W, Ext (w.alloc (.cells #[.int .i64 1, .string t, .int .i64 num, .slice an nm.length cn, .slice ak kids.length ck] 27)) W -> W.cell? ⟨w.heap.size, 0, none⟩ = some (.int .i64 1) /\ W.cell? ⟨w.heap.size, 1, none⟩ = some (.string t) /\ W.cell? ⟨w.heap.size, 2, none⟩ = some (.int .i64 num) /\ W.cell? ⟨w.heap.size, 3, none⟩ = some (.slice an nm.length cn) /\ W.cell? ⟨w.heap.size, 4, none⟩ = some (.slice ak kids.length ck)) := LH fun W hW => ⟨Ext.cell hW (by simp), Ext.cell hW (by simp), Ext.cell hW (by simp), Ext.cell hW (by simp), Ext.cell hW (by simp)⟩
   go_enter Tryz.func17, Tryz.ntmps17
   go_wp2_with fail
   go_ret
   exact ⟨ret_bool (by rw [hp.out]), (XR w).alloc _⟩
 subst hnm
 cases hr : decide ((0 : Int) <= num /\ num <= 999999999)
 · have hr' := of_decide_eq_false hr
   have hp := LH (prB_ff (p := okR (n + 1) true ⟨1, t, num, [], kids⟩) (by intro h; have h := head_of h; exact hr' (h.2.2.2.1 rfl).2.1))
   have HM : Hid (∀ W, Ext (w.alloc (.cells #[.int .i64 1, .string t, .int .i64 num, .slice an ([] : List ByteArray).length cn, .slice ak kids.length ck] 27)) W -> W.cell? ⟨w.heap.size, 0, none⟩ = some (.int .i64 1) /\ W.cell? ⟨w.heap.size, 1, none⟩ = some (.string t) /\ W.cell? ⟨w.heap.size, 2, none⟩ = some (.int .i64 num) /\ W.cell? ⟨w.heap.size, 3, none⟩ = some (.slice an ([] : List ByteArray).length cn) /\ W.cell? ⟨w.heap.size, 4, none⟩ = some (.slice ak kids.length ck)) := LH fun W hW => ⟨Ext.cell hW (by simp), Ext.cell hW (by simp), Ext.cell hW (by simp), Ext.cell hW (by simp), Ext.cell hW (by simp)⟩
   go_enter Tryz.func17, Tryz.ntmps17
   go_wp2_with fail
   refine (within_any _ _ _ _).mono ?_
   rw [hr]
   rintro e w1 ⟨rfl, rfl⟩
   go_wp2_with fail
   go_ret
   exact ⟨ret_bool (by rw [hp.out]), (XR w).alloc _⟩
 have hr' := of_decide_eq_true hr
 by_cases ht0 : t = ⟨#[]⟩
 rotate_left
 · have t0 : ¬ t.toList = [] := fun h => ht0 (toList_inj (by simp [h]))
   have t0' : t.toList.isEmpty = false := by simpa using t0
   have hp := LH (prB_ff (p := okR (n + 1) true ⟨1, t, num, [], kids⟩) (by intro h; have h := head_of h; revert h; simp [headOk, ht0]))
   have HM : Hid (∀ W, Ext (w.alloc (.cells #[.int .i64 1, .string t, .int .i64 num, .slice an ([] : List ByteArray).length cn, .slice ak kids.length ck] 27)) W -> W.cell? ⟨w.heap.size, 0, none⟩ = some (.int .i64 1) /\ W.cell? ⟨w.heap.size, 1, none⟩ = some (.string t) /\ W.cell? ⟨w.heap.size, 2, none⟩ = some (.int .i64 num) /\ W.cell? ⟨w.heap.size, 3, none⟩ = some (.slice an ([] : List ByteArray).length cn) /\ W.cell? ⟨w.heap.size, 4, none⟩ = some (.slice ak kids.length ck)) := LH fun W hW => ⟨Ext.cell hW (by simp), Ext.cell hW (by simp), Ext.cell hW (by simp), Ext.cell hW (by simp), Ext.cell hW (by simp)⟩
   go_enter Tryz.func17, Tryz.ntmps17
   go_wp2_with fail
   refine (within_any _ _ _ _).mono ?_
   rw [hr]
   rintro e w1 ⟨rfl, rfl⟩
   go_wp2_with fail
   go_ret
   exact ⟨ret_bool (by rw [hp.out]), (XR w).alloc _⟩
 subst ht0
 by_cases hk : kids = []
 · subst hk
   have hp := LH (prB_tt (p := okR (n + 1) true ⟨1, ⟨#[]⟩, num, [], []⟩) (by refine (okR_plain (by simp) (by simp)).2 ⟨?_, by simp⟩; simp [headOk, hr']))
   have HM : Hid (∀ W, Ext (w.alloc (.cells #[.int .i64 1, .string ⟨#[]⟩, .int .i64 num, .slice an ([] : List ByteArray).length cn, .slice ak ([] : List MExpr).length ck] 27)) W -> W.cell? ⟨w.heap.size, 0, none⟩ = some (.int .i64 1) /\ W.cell? ⟨w.heap.size, 1, none⟩ = some (.string ⟨#[]⟩) /\ W.cell? ⟨w.heap.size, 2, none⟩ = some (.int .i64 num) /\ W.cell? ⟨w.heap.size, 3, none⟩ = some (.slice an ([] : List ByteArray).length cn) /\ W.cell? ⟨w.heap.size, 4, none⟩ = some (.slice ak ([] : List MExpr).length ck)) := LH fun W hW => ⟨Ext.cell hW (by simp), Ext.cell hW (by simp), Ext.cell hW (by simp), Ext.cell hW (by simp), Ext.cell hW (by simp)⟩
   go_enter Tryz.func17, Tryz.ntmps17
   go_wp2_with fail
   refine (within_any _ _ _ _).mono ?_
   rw [hr]
   rintro e w1 ⟨rfl, rfl⟩
   go_wp2_with fail
   go_ret
   exact ⟨ret_bool (by rw [hp.out]), (XR w).alloc _⟩
 · have hk0 : 0 < kids.length := List.length_pos_iff.2 hk
   have hk1 := int_ne (show ¬ (kids.length : Int) = 0 by omega)
   have hp := LH (prB_ff (p := okR (n + 1) true ⟨1, ⟨#[]⟩, num, [], kids⟩) (by intro h; have h := head_of h; revert h; simp [headOk, hk]))
   have HM : Hid (∀ W, Ext (w.alloc (.cells #[.int .i64 1, .string ⟨#[]⟩, .int .i64 num, .slice an ([] : List ByteArray).length cn, .slice ak kids.length ck] 27)) W -> W.cell? ⟨w.heap.size, 0, none⟩ = some (.int .i64 1) /\ W.cell? ⟨w.heap.size, 1, none⟩ = some (.string ⟨#[]⟩) /\ W.cell? ⟨w.heap.size, 2, none⟩ = some (.int .i64 num) /\ W.cell? ⟨w.heap.size, 3, none⟩ = some (.slice an ([] : List ByteArray).length cn) /\ W.cell? ⟨w.heap.size, 4, none⟩ = some (.slice ak kids.length ck)) := LH fun W hW => ⟨Ext.cell hW (by simp), Ext.cell hW (by simp), Ext.cell hW (by simp), Ext.cell hW (by simp), Ext.cell hW (by simp)⟩
   go_enter Tryz.func17, Tryz.ntmps17
   go_wp2_with fail
   refine (within_any _ _ _ _).mono ?_
   rw [hr]
   rintro e w1 ⟨rfl, rfl⟩
   go_wp2_with fail
   go_ret
   exact ⟨ret_bool (by rw [hp.out]), (XR w).alloc _⟩
theorem wf_2 (n : Nat) (IH : Hid (FormAt n)) (t : ByteArray) (num : Int) (nm : List ByteArray) (kids : List MExpr) (an : Option Addr) (cn : Nat) (ak : Option Addr) (ck : Nat) (w : World) (hm : MaxOk w)
 (hs : Hid (∀ z, z ∈ kids -> SizeOf.sizeOf z < n)) (hs2 : Hid (∀ m, m ∈ kids -> ∀ z, z ∈ m.kids -> SizeOf.sizeOf z < n)) (hbk : Hid (∀ m, m ∈ kids -> m.d.bulk <= 1048576)) (hbn : Hid (∀ m, m ∈ nm -> m.size <= 1048576))
 (ht : t.size <= 1048576) (hkl : kids.length <= 1048576) (hnl : nm.length <= 1048576) (hab : -1 <= argsB t /\ argsB t <= 4)
 (rn : Rep w (strs nm) [.slice an nm.length cn]) (rk : Rep w (MExprs kids) [.slice ak kids.length ck]) :
 Calls Tryz.prog 17 #[.agg #[.int .i64 2, .string t, .int .i64 num, .slice an nm.length cn, .slice ak kids.length ck]] w fun e w' => e = .returned (.bool (prB (okR (n + 1) true ⟨2, t, num, nm, kids⟩))) /\ Ext w w' := by
 by_cases hnm : nm = []
 rotate_left
 · have hn0 : 0 < nm.length := List.length_pos_iff.2 hnm
   have hp := LH (prB_ff (p := okR (n + 1) true ⟨2, t, num, nm, kids⟩) (by intro h; have h := head_of h; revert h; simp [headOk, hnm]))
   have HM : Hid (∀ W, Ext (w.alloc (.cells #[.int .i64 2, .string t, .int .i64 num, .slice an nm.length cn, .slice ak kids.length ck] 27)) W -> W.cell? ⟨w.heap.size, 0, none⟩ = some (.int .i64 2) /\ W.cell? ⟨w.heap.size, 1, none⟩ = some (.string t) /\ W.cell? ⟨w.heap.size, 2, none⟩ = some (.int .i64 num) /\ W.cell? ⟨w.heap.size, 3, none⟩ = some (.slice an nm.length cn) /\ W.cell? ⟨w.heap.size, 4, none⟩ = some (.slice ak kids.length ck)) := LH fun W hW => ⟨Ext.cell hW (by simp), Ext.cell hW (by simp), Ext.cell hW (by simp), Ext.cell hW (by simp), Ext.cell hW (by simp)⟩
   go_enter Tryz.func17, Tryz.ntmps17
   go_wp2_with fail
   go_ret
   exact ⟨ret_bool (by rw [hp.out]), (XR w).alloc _⟩
 subst hnm
 by_cases hnu : num = 0
 rotate_left
 · have n1 := int_nen hnu
   have hp := LH (prB_ff (p := okR (n + 1) true ⟨2, t, num, [], kids⟩) (by intro h; have h := head_of h; revert h; simp [headOk, hnu]))
   have HM : Hid (∀ W, Ext (w.alloc (.cells #[.int .i64 2, .string t, .int .i64 num, .slice an ([] : List ByteArray).length cn, .slice ak kids.length ck] 27)) W -> W.cell? ⟨w.heap.size, 0, none⟩ = some (.int .i64 2) /\ W.cell? ⟨w.heap.size, 1, none⟩ = some (.string t) /\ W.cell? ⟨w.heap.size, 2, none⟩ = some (.int .i64 num) /\ W.cell? ⟨w.heap.size, 3, none⟩ = some (.slice an ([] : List ByteArray).length cn) /\ W.cell? ⟨w.heap.size, 4, none⟩ = some (.slice ak kids.length ck)) := LH fun W hW => ⟨Ext.cell hW (by simp), Ext.cell hW (by simp), Ext.cell hW (by simp), Ext.cell hW (by simp), Ext.cell hW (by simp)⟩
   go_enter Tryz.func17, Tryz.ntmps17
   go_wp2_with fail
   go_ret
   exact ⟨ret_bool (by rw [hp.out]), (XR w).alloc _⟩
 subst hnu
 cases hq : textB 40 t
 · skip
   have hp := LH (prB_ff (p := okR (n + 1) true ⟨2, t, 0, [], kids⟩) (by intro h; have h := head_of h; revert h; simp [headOk, hq]))
   have HM : Hid (∀ W, Ext (w.alloc (.cells #[.int .i64 2, .string t, .int .i64 0, .slice an ([] : List ByteArray).length cn, .slice ak kids.length ck] 27)) W -> W.cell? ⟨w.heap.size, 0, none⟩ = some (.int .i64 2) /\ W.cell? ⟨w.heap.size, 1, none⟩ = some (.string t) /\ W.cell? ⟨w.heap.size, 2, none⟩ = some (.int .i64 0) /\ W.cell? ⟨w.heap.size, 3, none⟩ = some (.slice an ([] : List ByteArray).length cn) /\ W.cell? ⟨w.heap.size, 4, none⟩ = some (.slice ak kids.length ck)) := LH fun W hW => ⟨Ext.cell hW (by simp), Ext.cell hW (by simp), Ext.cell hW (by simp), Ext.cell hW (by simp), Ext.cell hW (by simp)⟩
   go_enter Tryz.func17, Tryz.ntmps17
   go_wp2_with fail
   refine (plainText_any t _ (by omega)).mono ?_
   rw [hq]
   rintro e w1 ⟨rfl, rfl⟩
   go_wp2_with fail
   go_ret
   exact ⟨ret_bool (by rw [hp.out]), (XR w).alloc _⟩
 by_cases hk : kids = []
 · subst hk
   have hp := LH (prB_tt (p := okR (n + 1) true ⟨2, t, 0, [], []⟩) (by refine (okR_plain (by simp) (by simp)).2 ⟨?_, by simp⟩; simp [headOk, hq]))
   have HM : Hid (∀ W, Ext (w.alloc (.cells #[.int .i64 2, .string t, .int .i64 0, .slice an ([] : List ByteArray).length cn, .slice ak ([] : List MExpr).length ck] 27)) W -> W.cell? ⟨w.heap.size, 0, none⟩ = some (.int .i64 2) /\ W.cell? ⟨w.heap.size, 1, none⟩ = some (.string t) /\ W.cell? ⟨w.heap.size, 2, none⟩ = some (.int .i64 0) /\ W.cell? ⟨w.heap.size, 3, none⟩ = some (.slice an ([] : List ByteArray).length cn) /\ W.cell? ⟨w.heap.size, 4, none⟩ = some (.slice ak ([] : List MExpr).length ck)) := LH fun W hW => ⟨Ext.cell hW (by simp), Ext.cell hW (by simp), Ext.cell hW (by simp), Ext.cell hW (by simp), Ext.cell hW (by simp)⟩
   go_enter Tryz.func17, Tryz.ntmps17
   go_wp2_with fail
   refine (plainText_any t _ (by omega)).mono ?_
   rw [hq]
   rintro e w1 ⟨rfl, rfl⟩
   go_wp2_with fail
   go_ret
   exact ⟨ret_bool (by rw [hp.out]), (XR w).alloc _⟩
 · have hk0 : 0 < kids.length := List.length_pos_iff.2 hk
   have hk1 := int_ne (show ¬ (kids.length : Int) = 0 by omega)
   have hp := LH (prB_ff (p := okR (n + 1) true ⟨2, t, 0, [], kids⟩) (by intro h; have h := head_of h; revert h; simp [headOk, hk]))
   have HM : Hid (∀ W, Ext (w.alloc (.cells #[.int .i64 2, .string t, .int .i64 0, .slice an ([] : List ByteArray).length cn, .slice ak kids.length ck] 27)) W -> W.cell? ⟨w.heap.size, 0, none⟩ = some (.int .i64 2) /\ W.cell? ⟨w.heap.size, 1, none⟩ = some (.string t) /\ W.cell? ⟨w.heap.size, 2, none⟩ = some (.int .i64 0) /\ W.cell? ⟨w.heap.size, 3, none⟩ = some (.slice an ([] : List ByteArray).length cn) /\ W.cell? ⟨w.heap.size, 4, none⟩ = some (.slice ak kids.length ck)) := LH fun W hW => ⟨Ext.cell hW (by simp), Ext.cell hW (by simp), Ext.cell hW (by simp), Ext.cell hW (by simp), Ext.cell hW (by simp)⟩
   go_enter Tryz.func17, Tryz.ntmps17
   go_wp2_with fail
   refine (plainText_any t _ (by omega)).mono ?_
   rw [hq]
   rintro e w1 ⟨rfl, rfl⟩
   go_wp2_with fail
   go_ret
   exact ⟨ret_bool (by rw [hp.out]), (XR w).alloc _⟩
theorem wf_3 (n : Nat) (IH : Hid (FormAt n)) (t : ByteArray) (num : Int) (nm : List ByteArray) (kids : List MExpr) (an : Option Addr) (cn : Nat) (ak : Option Addr) (ck : Nat) (w : World) (hm : MaxOk w)
 (hs : Hid (∀ z, z ∈ kids -> SizeOf.sizeOf z < n)) (hs2 : Hid (∀ m, m ∈ kids -> ∀ z, z ∈ m.kids -> SizeOf.sizeOf z < n)) (hbk : Hid (∀ m, m ∈ kids -> m.d.bulk <= 1048576)) (hbn : Hid (∀ m, m ∈ nm -> m.size <= 1048576))
 (ht : t.size <= 1048576) (hkl : kids.length <= 1048576) (hnl : nm.length <= 1048576) (hab : -1 <= argsB t /\ argsB t <= 4)
 (rn : Rep w (strs nm) [.slice an nm.length cn]) (rk : Rep w (MExprs kids) [.slice ak kids.length ck]) :
 Calls Tryz.prog 17 #[.agg #[.int .i64 3, .string t, .int .i64 num, .slice an nm.length cn, .slice ak kids.length ck]] w fun e w' => e = .returned (.bool (prB (okR (n + 1) true ⟨3, t, num, nm, kids⟩))) /\ Ext w w' := by
 by_cases hnm : nm = []
 rotate_left
 · have hn0 : 0 < nm.length := List.length_pos_iff.2 hnm
   have hp := LH (prB_ff (p := okR (n + 1) true ⟨3, t, num, nm, kids⟩) (by intro h; have h := head_of h; revert h; simp [headOk, hnm]))
   have HM : Hid (∀ W, Ext (w.alloc (.cells #[.int .i64 3, .string t, .int .i64 num, .slice an nm.length cn, .slice ak kids.length ck] 27)) W -> W.cell? ⟨w.heap.size, 0, none⟩ = some (.int .i64 3) /\ W.cell? ⟨w.heap.size, 1, none⟩ = some (.string t) /\ W.cell? ⟨w.heap.size, 2, none⟩ = some (.int .i64 num) /\ W.cell? ⟨w.heap.size, 3, none⟩ = some (.slice an nm.length cn) /\ W.cell? ⟨w.heap.size, 4, none⟩ = some (.slice ak kids.length ck)) := LH fun W hW => ⟨Ext.cell hW (by simp), Ext.cell hW (by simp), Ext.cell hW (by simp), Ext.cell hW (by simp), Ext.cell hW (by simp)⟩
   go_enter Tryz.func17, Tryz.ntmps17
   go_wp2_with fail
   go_ret
   exact ⟨ret_bool (by rw [hp.out]), (XR w).alloc _⟩
 subst hnm
 by_cases hnu : num = 0
 rotate_left
 · have n1 := int_nen hnu
   have hp := LH (prB_ff (p := okR (n + 1) true ⟨3, t, num, [], kids⟩) (by intro h; have h := head_of h; revert h; simp [headOk, hnu]))
   have HM : Hid (∀ W, Ext (w.alloc (.cells #[.int .i64 3, .string t, .int .i64 num, .slice an ([] : List ByteArray).length cn, .slice ak kids.length ck] 27)) W -> W.cell? ⟨w.heap.size, 0, none⟩ = some (.int .i64 3) /\ W.cell? ⟨w.heap.size, 1, none⟩ = some (.string t) /\ W.cell? ⟨w.heap.size, 2, none⟩ = some (.int .i64 num) /\ W.cell? ⟨w.heap.size, 3, none⟩ = some (.slice an ([] : List ByteArray).length cn) /\ W.cell? ⟨w.heap.size, 4, none⟩ = some (.slice ak kids.length ck)) := LH fun W hW => ⟨Ext.cell hW (by simp), Ext.cell hW (by simp), Ext.cell hW (by simp), Ext.cell hW (by simp), Ext.cell hW (by simp)⟩
   go_enter Tryz.func17, Tryz.ntmps17
   go_wp2_with fail
   go_ret
   exact ⟨ret_bool (by rw [hp.out]), (XR w).alloc _⟩
 subst hnu
 cases hq : selB t
 · skip
   have hp := LH (prB_ff (p := okR (n + 1) true ⟨3, t, 0, [], kids⟩) (by intro h; have h := head_of h; revert h; simp [headOk, hq]))
   have HM : Hid (∀ W, Ext (w.alloc (.cells #[.int .i64 3, .string t, .int .i64 0, .slice an ([] : List ByteArray).length cn, .slice ak kids.length ck] 27)) W -> W.cell? ⟨w.heap.size, 0, none⟩ = some (.int .i64 3) /\ W.cell? ⟨w.heap.size, 1, none⟩ = some (.string t) /\ W.cell? ⟨w.heap.size, 2, none⟩ = some (.int .i64 0) /\ W.cell? ⟨w.heap.size, 3, none⟩ = some (.slice an ([] : List ByteArray).length cn) /\ W.cell? ⟨w.heap.size, 4, none⟩ = some (.slice ak kids.length ck)) := LH fun W hW => ⟨Ext.cell hW (by simp), Ext.cell hW (by simp), Ext.cell hW (by simp), Ext.cell hW (by simp), Ext.cell hW (by simp)⟩
   go_enter Tryz.func17, Tryz.ntmps17
   go_wp2_with fail
   refine (impl_IsSelector_any t _ ht (hm.ext (((XR w).alloc _)))).mono ?_
   rw [hq]
   rintro e w1 ⟨rfl, hx1⟩
   obtain ⟨m0, m1, m2, m3, m4⟩ := HM.out _ hx1
   go_wp2_with fail
   try clear m0 m1 m2 m3 m4
   go_ret
   exact ⟨ret_bool (by rw [hp.out]), ((XR w).alloc _).trans hx1⟩
 by_cases hk : kids = []
 · subst hk
   have hp := LH (prB_tt (p := okR (n + 1) true ⟨3, t, 0, [], []⟩) (by refine (okR_plain (by simp) (by simp)).2 ⟨?_, by simp⟩; simp [headOk, hq]))
   have HM : Hid (∀ W, Ext (w.alloc (.cells #[.int .i64 3, .string t, .int .i64 0, .slice an ([] : List ByteArray).length cn, .slice ak ([] : List MExpr).length ck] 27)) W -> W.cell? ⟨w.heap.size, 0, none⟩ = some (.int .i64 3) /\ W.cell? ⟨w.heap.size, 1, none⟩ = some (.string t) /\ W.cell? ⟨w.heap.size, 2, none⟩ = some (.int .i64 0) /\ W.cell? ⟨w.heap.size, 3, none⟩ = some (.slice an ([] : List ByteArray).length cn) /\ W.cell? ⟨w.heap.size, 4, none⟩ = some (.slice ak ([] : List MExpr).length ck)) := LH fun W hW => ⟨Ext.cell hW (by simp), Ext.cell hW (by simp), Ext.cell hW (by simp), Ext.cell hW (by simp), Ext.cell hW (by simp)⟩
   go_enter Tryz.func17, Tryz.ntmps17
   go_wp2_with fail
   refine (impl_IsSelector_any t _ ht (hm.ext (((XR w).alloc _)))).mono ?_
   rw [hq]
   rintro e w1 ⟨rfl, hx1⟩
   obtain ⟨m0, m1, m2, m3, m4⟩ := HM.out _ hx1
   go_wp2_with fail
   try clear m0 m1 m2 m3 m4
   go_ret
   exact ⟨ret_bool (by rw [hp.out]), ((XR w).alloc _).trans hx1⟩
 · have hk0 : 0 < kids.length := List.length_pos_iff.2 hk
   have hk1 := int_ne (show ¬ (kids.length : Int) = 0 by omega)
   have hp := LH (prB_ff (p := okR (n + 1) true ⟨3, t, 0, [], kids⟩) (by intro h; have h := head_of h; revert h; simp [headOk, hk]))
   have HM : Hid (∀ W, Ext (w.alloc (.cells #[.int .i64 3, .string t, .int .i64 0, .slice an ([] : List ByteArray).length cn, .slice ak kids.length ck] 27)) W -> W.cell? ⟨w.heap.size, 0, none⟩ = some (.int .i64 3) /\ W.cell? ⟨w.heap.size, 1, none⟩ = some (.string t) /\ W.cell? ⟨w.heap.size, 2, none⟩ = some (.int .i64 0) /\ W.cell? ⟨w.heap.size, 3, none⟩ = some (.slice an ([] : List ByteArray).length cn) /\ W.cell? ⟨w.heap.size, 4, none⟩ = some (.slice ak kids.length ck)) := LH fun W hW => ⟨Ext.cell hW (by simp), Ext.cell hW (by simp), Ext.cell hW (by simp), Ext.cell hW (by simp), Ext.cell hW (by simp)⟩
   go_enter Tryz.func17, Tryz.ntmps17
   go_wp2_with fail
   refine (impl_IsSelector_any t _ ht (hm.ext (((XR w).alloc _)))).mono ?_
   rw [hq]
   rintro e w1 ⟨rfl, hx1⟩
   obtain ⟨m0, m1, m2, m3, m4⟩ := HM.out _ hx1
   go_wp2_with fail
   try clear m0 m1 m2 m3 m4
   go_ret
   exact ⟨ret_bool (by rw [hp.out]), ((XR w).alloc _).trans hx1⟩
theorem wf_4 (n : Nat) (IH : Hid (FormAt n)) (t : ByteArray) (num : Int) (nm : List ByteArray) (kids : List MExpr) (an : Option Addr) (cn : Nat) (ak : Option Addr) (ck : Nat) (w : World) (hm : MaxOk w)
 (hs : Hid (∀ z, z ∈ kids -> SizeOf.sizeOf z < n)) (hs2 : Hid (∀ m, m ∈ kids -> ∀ z, z ∈ m.kids -> SizeOf.sizeOf z < n)) (hbk : Hid (∀ m, m ∈ kids -> m.d.bulk <= 1048576)) (hbn : Hid (∀ m, m ∈ nm -> m.size <= 1048576))
 (ht : t.size <= 1048576) (hkl : kids.length <= 1048576) (hnl : nm.length <= 1048576) (hab : -1 <= argsB t /\ argsB t <= 4)
 (rn : Rep w (strs nm) [.slice an nm.length cn]) (rk : Rep w (MExprs kids) [.slice ak kids.length ck]) :
 Calls Tryz.prog 17 #[.agg #[.int .i64 4, .string t, .int .i64 num, .slice an nm.length cn, .slice ak kids.length ck]] w fun e w' => e = .returned (.bool (prB (okR (n + 1) true ⟨4, t, num, nm, kids⟩))) /\ Ext w w' := by
 by_cases hnm : nm = []
 rotate_left
 · have hn0 : 0 < nm.length := List.length_pos_iff.2 hnm
   have hp := LH (prB_ff (p := okR (n + 1) true ⟨4, t, num, nm, kids⟩) (by intro h; have h := head_of h; revert h; simp [headOk, hnm]))
   have HM : Hid (∀ W, Ext (w.alloc (.cells #[.int .i64 4, .string t, .int .i64 num, .slice an nm.length cn, .slice ak kids.length ck] 27)) W -> W.cell? ⟨w.heap.size, 0, none⟩ = some (.int .i64 4) /\ W.cell? ⟨w.heap.size, 1, none⟩ = some (.string t) /\ W.cell? ⟨w.heap.size, 2, none⟩ = some (.int .i64 num) /\ W.cell? ⟨w.heap.size, 3, none⟩ = some (.slice an nm.length cn) /\ W.cell? ⟨w.heap.size, 4, none⟩ = some (.slice ak kids.length ck)) := LH fun W hW => ⟨Ext.cell hW (by simp), Ext.cell hW (by simp), Ext.cell hW (by simp), Ext.cell hW (by simp), Ext.cell hW (by simp)⟩
   go_enter Tryz.func17, Tryz.ntmps17
   go_wp2_with fail
   go_ret
   exact ⟨ret_bool (by rw [hp.out]), (XR w).alloc _⟩
 subst hnm
 by_cases hnu : num = 0
 rotate_left
 · have n1 := int_nen hnu
   have hp := LH (prB_ff (p := okR (n + 1) true ⟨4, t, num, [], kids⟩) (by intro h; have h := head_of h; revert h; simp [headOk, hnu]))
   have HM : Hid (∀ W, Ext (w.alloc (.cells #[.int .i64 4, .string t, .int .i64 num, .slice an ([] : List ByteArray).length cn, .slice ak kids.length ck] 27)) W -> W.cell? ⟨w.heap.size, 0, none⟩ = some (.int .i64 4) /\ W.cell? ⟨w.heap.size, 1, none⟩ = some (.string t) /\ W.cell? ⟨w.heap.size, 2, none⟩ = some (.int .i64 num) /\ W.cell? ⟨w.heap.size, 3, none⟩ = some (.slice an ([] : List ByteArray).length cn) /\ W.cell? ⟨w.heap.size, 4, none⟩ = some (.slice ak kids.length ck)) := LH fun W hW => ⟨Ext.cell hW (by simp), Ext.cell hW (by simp), Ext.cell hW (by simp), Ext.cell hW (by simp), Ext.cell hW (by simp)⟩
   go_enter Tryz.func17, Tryz.ntmps17
   go_wp2_with fail
   go_ret
   exact ⟨ret_bool (by rw [hp.out]), (XR w).alloc _⟩
 subst hnu
 cases hq : nameB t
 · skip
   have hp := LH (prB_ff (p := okR (n + 1) true ⟨4, t, 0, [], kids⟩) (by intro h; have h := head_of h; revert h; simp [headOk, hq]))
   have HM : Hid (∀ W, Ext (w.alloc (.cells #[.int .i64 4, .string t, .int .i64 0, .slice an ([] : List ByteArray).length cn, .slice ak kids.length ck] 27)) W -> W.cell? ⟨w.heap.size, 0, none⟩ = some (.int .i64 4) /\ W.cell? ⟨w.heap.size, 1, none⟩ = some (.string t) /\ W.cell? ⟨w.heap.size, 2, none⟩ = some (.int .i64 0) /\ W.cell? ⟨w.heap.size, 3, none⟩ = some (.slice an ([] : List ByteArray).length cn) /\ W.cell? ⟨w.heap.size, 4, none⟩ = some (.slice ak kids.length ck)) := LH fun W hW => ⟨Ext.cell hW (by simp), Ext.cell hW (by simp), Ext.cell hW (by simp), Ext.cell hW (by simp), Ext.cell hW (by simp)⟩
   go_enter Tryz.func17, Tryz.ntmps17
   go_wp2_with fail
   refine (impl_IsName_any t _ (by omega)).mono ?_
   rw [hq]
   rintro e w1 ⟨rfl, hx1⟩
   obtain ⟨m0, m1, m2, m3, m4⟩ := HM.out _ hx1
   go_wp2_with fail
   try clear m0 m1 m2 m3 m4
   go_ret
   exact ⟨ret_bool (by rw [hp.out]), ((XR w).alloc _).trans hx1⟩
 by_cases hk : kids = []
 · subst hk
   have hp := LH (prB_tt (p := okR (n + 1) true ⟨4, t, 0, [], []⟩) (by refine (okR_plain (by simp) (by simp)).2 ⟨?_, by simp⟩; simp [headOk, hq]))
   have HM : Hid (∀ W, Ext (w.alloc (.cells #[.int .i64 4, .string t, .int .i64 0, .slice an ([] : List ByteArray).length cn, .slice ak ([] : List MExpr).length ck] 27)) W -> W.cell? ⟨w.heap.size, 0, none⟩ = some (.int .i64 4) /\ W.cell? ⟨w.heap.size, 1, none⟩ = some (.string t) /\ W.cell? ⟨w.heap.size, 2, none⟩ = some (.int .i64 0) /\ W.cell? ⟨w.heap.size, 3, none⟩ = some (.slice an ([] : List ByteArray).length cn) /\ W.cell? ⟨w.heap.size, 4, none⟩ = some (.slice ak ([] : List MExpr).length ck)) := LH fun W hW => ⟨Ext.cell hW (by simp), Ext.cell hW (by simp), Ext.cell hW (by simp), Ext.cell hW (by simp), Ext.cell hW (by simp)⟩
   go_enter Tryz.func17, Tryz.ntmps17
   go_wp2_with fail
   refine (impl_IsName_any t _ (by omega)).mono ?_
   rw [hq]
   rintro e w1 ⟨rfl, hx1⟩
   obtain ⟨m0, m1, m2, m3, m4⟩ := HM.out _ hx1
   go_wp2_with fail
   try clear m0 m1 m2 m3 m4
   go_ret
   exact ⟨ret_bool (by rw [hp.out]), ((XR w).alloc _).trans hx1⟩
 · have hk0 : 0 < kids.length := List.length_pos_iff.2 hk
   have hk1 := int_ne (show ¬ (kids.length : Int) = 0 by omega)
   have hp := LH (prB_ff (p := okR (n + 1) true ⟨4, t, 0, [], kids⟩) (by intro h; have h := head_of h; revert h; simp [headOk, hk]))
   have HM : Hid (∀ W, Ext (w.alloc (.cells #[.int .i64 4, .string t, .int .i64 0, .slice an ([] : List ByteArray).length cn, .slice ak kids.length ck] 27)) W -> W.cell? ⟨w.heap.size, 0, none⟩ = some (.int .i64 4) /\ W.cell? ⟨w.heap.size, 1, none⟩ = some (.string t) /\ W.cell? ⟨w.heap.size, 2, none⟩ = some (.int .i64 0) /\ W.cell? ⟨w.heap.size, 3, none⟩ = some (.slice an ([] : List ByteArray).length cn) /\ W.cell? ⟨w.heap.size, 4, none⟩ = some (.slice ak kids.length ck)) := LH fun W hW => ⟨Ext.cell hW (by simp), Ext.cell hW (by simp), Ext.cell hW (by simp), Ext.cell hW (by simp), Ext.cell hW (by simp)⟩
   go_enter Tryz.func17, Tryz.ntmps17
   go_wp2_with fail
   refine (impl_IsName_any t _ (by omega)).mono ?_
   rw [hq]
   rintro e w1 ⟨rfl, hx1⟩
   obtain ⟨m0, m1, m2, m3, m4⟩ := HM.out _ hx1
   go_wp2_with fail
   try clear m0 m1 m2 m3 m4
   go_ret
   exact ⟨ret_bool (by rw [hp.out]), ((XR w).alloc _).trans hx1⟩
theorem wf_5 (n : Nat) (IH : Hid (FormAt n)) (t : ByteArray) (num : Int) (nm : List ByteArray) (kids : List MExpr) (an : Option Addr) (cn : Nat) (ak : Option Addr) (ck : Nat) (w : World) (hm : MaxOk w)
 (hs : Hid (∀ z, z ∈ kids -> SizeOf.sizeOf z < n)) (hs2 : Hid (∀ m, m ∈ kids -> ∀ z, z ∈ m.kids -> SizeOf.sizeOf z < n)) (hbk : Hid (∀ m, m ∈ kids -> m.d.bulk <= 1048576)) (hbn : Hid (∀ m, m ∈ nm -> m.size <= 1048576))
 (ht : t.size <= 1048576) (hkl : kids.length <= 1048576) (hnl : nm.length <= 1048576) (hab : -1 <= argsB t /\ argsB t <= 4)
 (rn : Rep w (strs nm) [.slice an nm.length cn]) (rk : Rep w (MExprs kids) [.slice ak kids.length ck]) :
 Calls Tryz.prog 17 #[.agg #[.int .i64 5, .string t, .int .i64 num, .slice an nm.length cn, .slice ak kids.length ck]] w fun e w' => e = .returned (.bool (prB (okR (n + 1) true ⟨5, t, num, nm, kids⟩))) /\ Ext w w' := by
 by_cases hnm : nm = []
 rotate_left
 · have hn0 : 0 < nm.length := List.length_pos_iff.2 hnm
   have hp := LH (prB_ff (p := okR (n + 1) true ⟨5, t, num, nm, kids⟩) (by intro h; have h := head_of h; revert h; simp [headOk, hnm]))
   have HM : Hid (∀ W, Ext (w.alloc (.cells #[.int .i64 5, .string t, .int .i64 num, .slice an nm.length cn, .slice ak kids.length ck] 27)) W -> W.cell? ⟨w.heap.size, 0, none⟩ = some (.int .i64 5) /\ W.cell? ⟨w.heap.size, 1, none⟩ = some (.string t) /\ W.cell? ⟨w.heap.size, 2, none⟩ = some (.int .i64 num) /\ W.cell? ⟨w.heap.size, 3, none⟩ = some (.slice an nm.length cn) /\ W.cell? ⟨w.heap.size, 4, none⟩ = some (.slice ak kids.length ck)) := LH fun W hW => ⟨Ext.cell hW (by simp), Ext.cell hW (by simp), Ext.cell hW (by simp), Ext.cell hW (by simp), Ext.cell hW (by simp)⟩
   go_enter Tryz.func17, Tryz.ntmps17
   go_wp2_with fail
   go_ret
   exact ⟨ret_bool (by rw [hp.out]), (XR w).alloc _⟩
 subst hnm
 by_cases hnu : num = 0
 rotate_left
 · have n1 := int_nen hnu
   have hp := LH (prB_ff (p := okR (n + 1) true ⟨5, t, num, [], kids⟩) (by intro h; have h := head_of h; revert h; simp [headOk, hnu]))
   have HM : Hid (∀ W, Ext (w.alloc (.cells #[.int .i64 5, .string t, .int .i64 num, .slice an ([] : List ByteArray).length cn, .slice ak kids.length ck] 27)) W -> W.cell? ⟨w.heap.size, 0, none⟩ = some (.int .i64 5) /\ W.cell? ⟨w.heap.size, 1, none⟩ = some (.string t) /\ W.cell? ⟨w.heap.size, 2, none⟩ = some (.int .i64 num) /\ W.cell? ⟨w.heap.size, 3, none⟩ = some (.slice an ([] : List ByteArray).length cn) /\ W.cell? ⟨w.heap.size, 4, none⟩ = some (.slice ak kids.length ck)) := LH fun W hW => ⟨Ext.cell hW (by simp), Ext.cell hW (by simp), Ext.cell hW (by simp), Ext.cell hW (by simp), Ext.cell hW (by simp)⟩
   go_enter Tryz.func17, Tryz.ntmps17
   go_wp2_with fail
   go_ret
   exact ⟨ret_bool (by rw [hp.out]), (XR w).alloc _⟩
 subst hnu
 cases hq : nameB t
 · skip
   have hp := LH (prB_ff (p := okR (n + 1) true ⟨5, t, 0, [], kids⟩) (by intro h; have h := head_of h; revert h; simp [headOk, hq]))
   have HM : Hid (∀ W, Ext (w.alloc (.cells #[.int .i64 5, .string t, .int .i64 0, .slice an ([] : List ByteArray).length cn, .slice ak kids.length ck] 27)) W -> W.cell? ⟨w.heap.size, 0, none⟩ = some (.int .i64 5) /\ W.cell? ⟨w.heap.size, 1, none⟩ = some (.string t) /\ W.cell? ⟨w.heap.size, 2, none⟩ = some (.int .i64 0) /\ W.cell? ⟨w.heap.size, 3, none⟩ = some (.slice an ([] : List ByteArray).length cn) /\ W.cell? ⟨w.heap.size, 4, none⟩ = some (.slice ak kids.length ck)) := LH fun W hW => ⟨Ext.cell hW (by simp), Ext.cell hW (by simp), Ext.cell hW (by simp), Ext.cell hW (by simp), Ext.cell hW (by simp)⟩
   go_enter Tryz.func17, Tryz.ntmps17
   go_wp2_with fail
   refine (impl_IsName_any t _ (by omega)).mono ?_
   rw [hq]
   rintro e w1 ⟨rfl, hx1⟩
   obtain ⟨m0, m1, m2, m3, m4⟩ := HM.out _ hx1
   go_wp2_with fail
   try clear m0 m1 m2 m3 m4
   go_ret
   exact ⟨ret_bool (by rw [hp.out]), ((XR w).alloc _).trans hx1⟩
 by_cases hk : kids.length = 1
 rotate_left
 · have hk1 := int_ne (show ¬ (kids.length : Int) = 1 by omega)
   have hp := LH (prB_ff (p := okR (n + 1) true ⟨5, t, 0, [], kids⟩) (by intro h; have h := head_of h; revert h; simp [headOk, hk]))
   have HM : Hid (∀ W, Ext (w.alloc (.cells #[.int .i64 5, .string t, .int .i64 0, .slice an ([] : List ByteArray).length cn, .slice ak kids.length ck] 27)) W -> W.cell? ⟨w.heap.size, 0, none⟩ = some (.int .i64 5) /\ W.cell? ⟨w.heap.size, 1, none⟩ = some (.string t) /\ W.cell? ⟨w.heap.size, 2, none⟩ = some (.int .i64 0) /\ W.cell? ⟨w.heap.size, 3, none⟩ = some (.slice an ([] : List ByteArray).length cn) /\ W.cell? ⟨w.heap.size, 4, none⟩ = some (.slice ak kids.length ck)) := LH fun W hW => ⟨Ext.cell hW (by simp), Ext.cell hW (by simp), Ext.cell hW (by simp), Ext.cell hW (by simp), Ext.cell hW (by simp)⟩
   go_enter Tryz.func17, Tryz.ntmps17
   go_wp2_with fail
   refine (impl_IsName_any t _ (by omega)).mono ?_
   rw [hq]
   rintro e w1 ⟨rfl, hx1⟩
   obtain ⟨m0, m1, m2, m3, m4⟩ := HM.out _ hx1
   go_wp2_with fail
   try clear m0 m1 m2 m3 m4
   go_ret
   exact ⟨ret_bool (by rw [hp.out]), ((XR w).alloc _).trans hx1⟩
 have hk1 := int_eq (show (kids.length : Int) = 1 by omega)
 have HK := LH hk; clear hk
 have hv : Hid (prB (okR (n + 1) true ⟨5, t, 0, [], kids⟩) = prB (plainOk n kids)) := LH (by
  congr 1
  rw [okR_plain (by simp) (by simp), eq_iff_iff]
  exact ⟨fun h => h.2, fun h => ⟨by simp [headOk, hq, HK.out], h⟩⟩)
 have HM : Hid (∀ W, Ext (w.alloc (.cells #[.int .i64 5, .string t, .int .i64 0, .slice an ([] : List ByteArray).length cn, .slice ak kids.length ck] 27)) W -> W.cell? ⟨w.heap.size, 0, none⟩ = some (.int .i64 5) /\ W.cell? ⟨w.heap.size, 1, none⟩ = some (.string t) /\ W.cell? ⟨w.heap.size, 2, none⟩ = some (.int .i64 0) /\ W.cell? ⟨w.heap.size, 3, none⟩ = some (.slice an ([] : List ByteArray).length cn) /\ W.cell? ⟨w.heap.size, 4, none⟩ = some (.slice ak kids.length ck)) := LH fun W hW => ⟨Ext.cell hW (by simp), Ext.cell hW (by simp), Ext.cell hW (by simp), Ext.cell hW (by simp), Ext.cell hW (by simp)⟩
 go_enter Tryz.func17, Tryz.ntmps17
 go_wp2_with fail
 refine (impl_IsName_any t _ (by omega)).mono ?_
 rw [hq]
 rintro e w1 ⟨rfl, hx1⟩
 obtain ⟨m0, m1, m2, m3, m4⟩ := HM.out _ hx1
 go_wp2_with fail
 try clear m0 m1 m2 m3 m4
 refine ((plainKids_at n IH kids _ _ (Rep.ext ((((XR w).alloc _).trans hx1)) rk) (hm.ext ((((XR w).alloc _).trans hx1))) hbk hs)).mono ?_
 rintro e w2 ⟨rfl, hx2⟩
 obtain ⟨m0, m1, m2, m3, m4⟩ := HM.out _ (hx1.trans hx2)
 go_wp2_with fail
 try clear m0 m1 m2 m3 m4
 go_ret
 exact ⟨ret_bool (by rw [hv.out]), (((XR w).alloc _).trans hx1).trans hx2⟩
theorem wf_6 (n : Nat) (IH : Hid (FormAt n)) (t : ByteArray) (num : Int) (nm : List ByteArray) (kids : List MExpr) (an : Option Addr) (cn : Nat) (ak : Option Addr) (ck : Nat) (w : World) (hm : MaxOk w)
 (hs : Hid (∀ z, z ∈ kids -> SizeOf.sizeOf z < n)) (hs2 : Hid (∀ m, m ∈ kids -> ∀ z, z ∈ m.kids -> SizeOf.sizeOf z < n)) (hbk : Hid (∀ m, m ∈ kids -> m.d.bulk <= 1048576)) (hbn : Hid (∀ m, m ∈ nm -> m.size <= 1048576))
 (ht : t.size <= 1048576) (hkl : kids.length <= 1048576) (hnl : nm.length <= 1048576) (hab : -1 <= argsB t /\ argsB t <= 4)
 (rn : Rep w (strs nm) [.slice an nm.length cn]) (rk : Rep w (MExprs kids) [.slice ak kids.length ck]) :
 Calls Tryz.prog 17 #[.agg #[.int .i64 6, .string t, .int .i64 num, .slice an nm.length cn, .slice ak kids.length ck]] w fun e w' => e = .returned (.bool (prB (okR (n + 1) true ⟨6, t, num, nm, kids⟩))) /\ Ext w w' := by
 by_cases hnm : nm = []
 rotate_left
 · have hn0 : 0 < nm.length := List.length_pos_iff.2 hnm
   have hp := LH (prB_ff (p := okR (n + 1) true ⟨6, t, num, nm, kids⟩) (by intro h; have h := head_of h; revert h; simp [headOk, hnm]))
   have HM : Hid (∀ W, Ext (w.alloc (.cells #[.int .i64 6, .string t, .int .i64 num, .slice an nm.length cn, .slice ak kids.length ck] 27)) W -> W.cell? ⟨w.heap.size, 0, none⟩ = some (.int .i64 6) /\ W.cell? ⟨w.heap.size, 1, none⟩ = some (.string t) /\ W.cell? ⟨w.heap.size, 2, none⟩ = some (.int .i64 num) /\ W.cell? ⟨w.heap.size, 3, none⟩ = some (.slice an nm.length cn) /\ W.cell? ⟨w.heap.size, 4, none⟩ = some (.slice ak kids.length ck)) := LH fun W hW => ⟨Ext.cell hW (by simp), Ext.cell hW (by simp), Ext.cell hW (by simp), Ext.cell hW (by simp), Ext.cell hW (by simp)⟩
   go_enter Tryz.func17, Tryz.ntmps17
   go_wp2_with fail
   go_ret
   exact ⟨ret_bool (by rw [hp.out]), (XR w).alloc _⟩
 subst hnm
 by_cases hnu : num = 0
 rotate_left
 · have n1 := int_nen hnu
   have hp := LH (prB_ff (p := okR (n + 1) true ⟨6, t, num, [], kids⟩) (by intro h; have h := head_of h; revert h; simp [headOk, hnu]))
   have HM : Hid (∀ W, Ext (w.alloc (.cells #[.int .i64 6, .string t, .int .i64 num, .slice an ([] : List ByteArray).length cn, .slice ak kids.length ck] 27)) W -> W.cell? ⟨w.heap.size, 0, none⟩ = some (.int .i64 6) /\ W.cell? ⟨w.heap.size, 1, none⟩ = some (.string t) /\ W.cell? ⟨w.heap.size, 2, none⟩ = some (.int .i64 num) /\ W.cell? ⟨w.heap.size, 3, none⟩ = some (.slice an ([] : List ByteArray).length cn) /\ W.cell? ⟨w.heap.size, 4, none⟩ = some (.slice ak kids.length ck)) := LH fun W hW => ⟨Ext.cell hW (by simp), Ext.cell hW (by simp), Ext.cell hW (by simp), Ext.cell hW (by simp), Ext.cell hW (by simp)⟩
   go_enter Tryz.func17, Tryz.ntmps17
   go_wp2_with fail
   go_ret
   exact ⟨ret_bool (by rw [hp.out]), (XR w).alloc _⟩
 subst hnu
 by_cases hq : 0 <= argsB t
 rotate_left
 · have hq' : argsB t < 0 := by omega
   have hp := LH (prB_ff (p := okR (n + 1) true ⟨6, t, 0, [], kids⟩) (by intro h; have h := (head_of h).2.2.2.2.2.2.2.2.1 rfl; simp only at h; omega))
   have HM : Hid (∀ W, Ext (w.alloc (.cells #[.int .i64 6, .string t, .int .i64 0, .slice an ([] : List ByteArray).length cn, .slice ak kids.length ck] 27)) W -> W.cell? ⟨w.heap.size, 0, none⟩ = some (.int .i64 6) /\ W.cell? ⟨w.heap.size, 1, none⟩ = some (.string t) /\ W.cell? ⟨w.heap.size, 2, none⟩ = some (.int .i64 0) /\ W.cell? ⟨w.heap.size, 3, none⟩ = some (.slice an ([] : List ByteArray).length cn) /\ W.cell? ⟨w.heap.size, 4, none⟩ = some (.slice ak kids.length ck)) := LH fun W hW => ⟨Ext.cell hW (by simp), Ext.cell hW (by simp), Ext.cell hW (by simp), Ext.cell hW (by simp), Ext.cell hW (by simp)⟩
   go_enter Tryz.func17, Tryz.ntmps17
   go_wp2_with fail
   refine (impl_CountArgs_any t _ ht (hm.ext (((XR w).alloc _)))).mono ?_
   rintro e w1 ⟨rfl, hx1⟩
   obtain ⟨m0, m1, m2, m3, m4⟩ := HM.out _ hx1
   go_wp2_with fail
   try clear m0 m1 m2 m3 m4
   go_ret
   exact ⟨ret_bool (by rw [hp.out]), ((XR w).alloc _).trans hx1⟩
 by_cases hk : (kids.length : Int) = argsB t + 1
 rotate_left
 · have q1 := int_ne hk
   have HK := LH hk; clear hk
   have hp := LH (prB_ff (p := okR (n + 1) true ⟨6, t, 0, [], kids⟩) (by intro h; have h := (head_of h).2.2.2.2.2.2.2.2.1 rfl; exact HK.out h.1))
   have HM : Hid (∀ W, Ext (w.alloc (.cells #[.int .i64 6, .string t, .int .i64 0, .slice an ([] : List ByteArray).length cn, .slice ak kids.length ck] 27)) W -> W.cell? ⟨w.heap.size, 0, none⟩ = some (.int .i64 6) /\ W.cell? ⟨w.heap.size, 1, none⟩ = some (.string t) /\ W.cell? ⟨w.heap.size, 2, none⟩ = some (.int .i64 0) /\ W.cell? ⟨w.heap.size, 3, none⟩ = some (.slice an ([] : List ByteArray).length cn) /\ W.cell? ⟨w.heap.size, 4, none⟩ = some (.slice ak kids.length ck)) := LH fun W hW => ⟨Ext.cell hW (by simp), Ext.cell hW (by simp), Ext.cell hW (by simp), Ext.cell hW (by simp), Ext.cell hW (by simp)⟩
   go_enter Tryz.func17, Tryz.ntmps17
   go_wp2_with fail
   refine (impl_CountArgs_any t _ ht (hm.ext (((XR w).alloc _)))).mono ?_
   rintro e w1 ⟨rfl, hx1⟩
   obtain ⟨m0, m1, m2, m3, m4⟩ := HM.out _ hx1
   go_wp2_with fail
   try clear m0 m1 m2 m3 m4
   go_ret
   exact ⟨ret_bool (by rw [hp.out]), ((XR w).alloc _).trans hx1⟩
 have q1 := int_eq hk
 have hp0 : 0 < kids.length := by omega
 have HK := LH hk; clear hk
 have HP := LH hp0; clear hp0
 have hv : Hid (prB (okR (n + 1) true ⟨6, t, 0, [], kids⟩) = prB (plainOk n kids)) := LH (by
  congr 1
  rw [okR_plain (by simp) (by simp), eq_iff_iff]
  exact ⟨fun h => h.2, fun h => ⟨by have := HK.out; have := HP.out; simp [headOk, HK.out, HP.out], h⟩⟩)
 have HM : Hid (∀ W, Ext (w.alloc (.cells #[.int .i64 6, .string t, .int .i64 0, .slice an ([] : List ByteArray).length cn, .slice ak kids.length ck] 27)) W -> W.cell? ⟨w.heap.size, 0, none⟩ = some (.int .i64 6) /\ W.cell? ⟨w.heap.size, 1, none⟩ = some (.string t) /\ W.cell? ⟨w.heap.size, 2, none⟩ = some (.int .i64 0) /\ W.cell? ⟨w.heap.size, 3, none⟩ = some (.slice an ([] : List ByteArray).length cn) /\ W.cell? ⟨w.heap.size, 4, none⟩ = some (.slice ak kids.length ck)) := LH fun W hW => ⟨Ext.cell hW (by simp), Ext.cell hW (by simp), Ext.cell hW (by simp), Ext.cell hW (by simp), Ext.cell hW (by simp)⟩
 go_enter Tryz.func17, Tryz.ntmps17
 go_wp2_with fail
 refine (impl_CountArgs_any t _ ht (hm.ext (((XR w).alloc _)))).mono ?_
 rintro e w1 ⟨rfl, hx1⟩
 obtain ⟨m0, m1, m2, m3, m4⟩ := HM.out _ hx1
 go_wp2_with fail
 try clear m0 m1 m2 m3 m4
 refine ((plainKids_at n IH kids _ _ (Rep.ext ((((XR w).alloc _).trans hx1)) rk) (hm.ext ((((XR w).alloc _).trans hx1))) hbk hs)).mono ?_
 rintro e w2 ⟨rfl, hx2⟩
 obtain ⟨m0, m1, m2, m3, m4⟩ := HM.out _ (hx1.trans hx2)
 go_wp2_with fail
 try clear m0 m1 m2 m3 m4
 go_ret
 exact ⟨ret_bool (by rw [hv.out]), (((XR w).alloc _).trans hx1).trans hx2⟩
theorem wf_7 (n : Nat) (IH : Hid (FormAt n)) (t : ByteArray) (num : Int) (nm : List ByteArray) (kids : List MExpr) (an : Option Addr) (cn : Nat) (ak : Option Addr) (ck : Nat) (w : World) (hm : MaxOk w)
 (hs : Hid (∀ z, z ∈ kids -> SizeOf.sizeOf z < n)) (hs2 : Hid (∀ m, m ∈ kids -> ∀ z, z ∈ m.kids -> SizeOf.sizeOf z < n)) (hbk : Hid (∀ m, m ∈ kids -> m.d.bulk <= 1048576)) (hbn : Hid (∀ m, m ∈ nm -> m.size <= 1048576))
 (ht : t.size <= 1048576) (hkl : kids.length <= 1048576) (hnl : nm.length <= 1048576) (hab : -1 <= argsB t /\ argsB t <= 4)
 (rn : Rep w (strs nm) [.slice an nm.length cn]) (rk : Rep w (MExprs kids) [.slice ak kids.length ck]) :
 Calls Tryz.prog 17 #[.agg #[.int .i64 7, .string t, .int .i64 num, .slice an nm.length cn, .slice ak kids.length ck]] w fun e w' => e = .returned (.bool (prB (okR (n + 1) true ⟨7, t, num, nm, kids⟩))) /\ Ext w w' := by
 by_cases hnm : nm = []
 rotate_left
 · have hn0 : 0 < nm.length := List.length_pos_iff.2 hnm
   have hp := LH (prB_ff (p := okR (n + 1) true ⟨7, t, num, nm, kids⟩) (by intro h; have h := head_of h; revert h; simp [headOk, hnm]))
   have HM : Hid (∀ W, Ext (w.alloc (.cells #[.int .i64 7, .string t, .int .i64 num, .slice an nm.length cn, .slice ak kids.length ck] 27)) W -> W.cell? ⟨w.heap.size, 0, none⟩ = some (.int .i64 7) /\ W.cell? ⟨w.heap.size, 1, none⟩ = some (.string t) /\ W.cell? ⟨w.heap.size, 2, none⟩ = some (.int .i64 num) /\ W.cell? ⟨w.heap.size, 3, none⟩ = some (.slice an nm.length cn) /\ W.cell? ⟨w.heap.size, 4, none⟩ = some (.slice ak kids.length ck)) := LH fun W hW => ⟨Ext.cell hW (by simp), Ext.cell hW (by simp), Ext.cell hW (by simp), Ext.cell hW (by simp), Ext.cell hW (by simp)⟩
   go_enter Tryz.func17, Tryz.ntmps17
   go_wp2_with fail
   go_ret
   exact ⟨ret_bool (by rw [hp.out]), (XR w).alloc _⟩
 subst hnm
 by_cases hnu : num = 0
 rotate_left
 · have n1 := int_nen hnu
   have hp := LH (prB_ff (p := okR (n + 1) true ⟨7, t, num, [], kids⟩) (by intro h; have h := head_of h; revert h; simp [headOk, hnu]))
   have HM : Hid (∀ W, Ext (w.alloc (.cells #[.int .i64 7, .string t, .int .i64 num, .slice an ([] : List ByteArray).length cn, .slice ak kids.length ck] 27)) W -> W.cell? ⟨w.heap.size, 0, none⟩ = some (.int .i64 7) /\ W.cell? ⟨w.heap.size, 1, none⟩ = some (.string t) /\ W.cell? ⟨w.heap.size, 2, none⟩ = some (.int .i64 num) /\ W.cell? ⟨w.heap.size, 3, none⟩ = some (.slice an ([] : List ByteArray).length cn) /\ W.cell? ⟨w.heap.size, 4, none⟩ = some (.slice ak kids.length ck)) := LH fun W hW => ⟨Ext.cell hW (by simp), Ext.cell hW (by simp), Ext.cell hW (by simp), Ext.cell hW (by simp), Ext.cell hW (by simp)⟩
   go_enter Tryz.func17, Tryz.ntmps17
   go_wp2_with fail
   go_ret
   exact ⟨ret_bool (by rw [hp.out]), (XR w).alloc _⟩
 subst hnu
 by_cases ht0 : t = ⟨#[]⟩
 rotate_left
 · have t0 : ¬ t.toList = [] := fun h => ht0 (toList_inj (by simp [h]))
   have t0' : t.toList.isEmpty = false := by simpa using t0
   have hp := LH (prB_ff (p := okR (n + 1) true ⟨7, t, 0, [], kids⟩) (by intro h; have h := head_of h; revert h; simp [headOk, ht0]))
   have HM : Hid (∀ W, Ext (w.alloc (.cells #[.int .i64 7, .string t, .int .i64 0, .slice an ([] : List ByteArray).length cn, .slice ak kids.length ck] 27)) W -> W.cell? ⟨w.heap.size, 0, none⟩ = some (.int .i64 7) /\ W.cell? ⟨w.heap.size, 1, none⟩ = some (.string t) /\ W.cell? ⟨w.heap.size, 2, none⟩ = some (.int .i64 0) /\ W.cell? ⟨w.heap.size, 3, none⟩ = some (.slice an ([] : List ByteArray).length cn) /\ W.cell? ⟨w.heap.size, 4, none⟩ = some (.slice ak kids.length ck)) := LH fun W hW => ⟨Ext.cell hW (by simp), Ext.cell hW (by simp), Ext.cell hW (by simp), Ext.cell hW (by simp), Ext.cell hW (by simp)⟩
   go_enter Tryz.func17, Tryz.ntmps17
   go_wp2_with fail
   go_ret
   exact ⟨ret_bool (by rw [hp.out]), (XR w).alloc _⟩
 subst ht0
 by_cases hk : 3 <= kids.length
 rotate_left
 · have k1 : kids.length < 3 := by omega
   have hp := LH (prB_ff (p := okR (n + 1) true ⟨7, ⟨#[]⟩, 0, [], kids⟩) (by intro h; exact hk ((head_of h).2.2.2.2.2.2.2.2.2.1 rfl).2))
   have HM : Hid (∀ W, Ext (w.alloc (.cells #[.int .i64 7, .string ⟨#[]⟩, .int .i64 0, .slice an ([] : List ByteArray).length cn, .slice ak kids.length ck] 27)) W -> W.cell? ⟨w.heap.size, 0, none⟩ = some (.int .i64 7) /\ W.cell? ⟨w.heap.size, 1, none⟩ = some (.string ⟨#[]⟩) /\ W.cell? ⟨w.heap.size, 2, none⟩ = some (.int .i64 0) /\ W.cell? ⟨w.heap.size, 3, none⟩ = some (.slice an ([] : List ByteArray).length cn) /\ W.cell? ⟨w.heap.size, 4, none⟩ = some (.slice ak kids.length ck)) := LH fun W hW => ⟨Ext.cell hW (by simp), Ext.cell hW (by simp), Ext.cell hW (by simp), Ext.cell hW (by simp), Ext.cell hW (by simp)⟩
   go_enter Tryz.func17, Tryz.ntmps17
   go_wp2_with fail
   go_ret
   exact ⟨ret_bool (by rw [hp.out]), (XR w).alloc _⟩
 obtain ⟨z, ks, rfl⟩ : ∃ z ks, kids = z :: ks := by
  cases kids with
  | nil => simp at hk
  | cons z ks => exact ⟨z, ks, rfl⟩
 obtain ⟨ao, ca, ba, oa, e1, hla, hma, pa, -⟩ := Rep.slmap rk
 simp only [List.cons.injEq, and_true, Value.slice.injEq] at e1
 obtain ⟨rfl, -, rfl⟩ := e1
 obtain rfl := pa (by simp)
 clear pa
 have rt := Rep.sl_tail (show Rep w (.sl 5 (z.d :: ks.map MExpr.d)) _ from rk)
 have r1 := Rep.sl_take (k := 1) (show Rep w (.sl 5 (z.d :: ks.map MExpr.d)) _ from rk) (by simp)
 rw [show (z.d :: ks.map MExpr.d).take 1 = [z].map MExpr.d from rfl] at r1
 obtain ⟨ao2, ca2, bb, ob, e1, hlb, hmb, pb, hb2⟩ := Rep.slmap rt
 simp only [List.length_cons, List.cons.injEq, and_true, Value.slice.injEq, Nat.add_sub_cancel] at e1
 obtain ⟨rfl, -, rfl⟩ := e1
 simp only [List.length_cons] at *
 have e2 := pb (by omega)
 simp only [Option.some.injEq, Addr.mk.injEq, and_true] at e2
 obtain ⟨rfl, rfl⟩ := e2
 unfold maxLen at hma
 have hv : Hid (okR (n + 1) true ⟨7, ⟨#[]⟩, 0, [], z :: ks⟩ ↔ okR n false z /\ ∀ m, m ∈ ks -> mesOk n m) := LH (by
  rw [okR_casc rfl]
  constructor
  · rintro ⟨-, h2, h3⟩
    exact ⟨h3 z (by simp), h2⟩
  · rintro ⟨h1, h2⟩
    exact ⟨by simp [headOk]; omega, h2, by simpa using h1⟩)
 have P1 : Hid (∀ W, Ext w W -> Calls Tryz.prog 41 #[.slice (some ⟨ba, oa, none⟩) 1 ck] W fun e w' => e = .returned (.bool (prB (plainOk n [z]))) /\ Ext W w') := LH fun W hW => plainKids_at n IH [z] _ W (Rep.ext hW r1) (hm.ext hW) (LH fun m h => hbk.out m (by simp at h; simp [h])) (LH fun m h => hs.out m (by simp at h; simp [h]))
 have M1 : Hid (∀ m, m ∈ ks -> ∀ c W, Ext w W -> Rep W m.d c -> Calls Tryz.prog 43 #[.agg c.toArray] W fun e w' => e = .returned (.bool (prB (mesOk n m))) /\ Ext W w') := LH fun m hmm c W hW r => messageOk_at n IH m c W r (hm.ext hW) (hbk.out m (List.mem_cons_of_mem _ hmm)) (LH (hs2.out m (List.mem_cons_of_mem _ hmm)))
 clear rk rn hs hs2 hbk hbn hab hnl rt r1
 cases hz : prB (plainOk n [z])
 · have HZ := LH hz; clear hz
   go_enter Tryz.func17, Tryz.ntmps17
   go_wp2_with fail
   refine (P1.out _ ((XR w).alloc _)).mono ?_
   rw [HZ.out]
   rintro e w1 ⟨rfl, hx1⟩
   go_wp2_with fail
   go_ret
   exact ⟨ret_bool (Eq.symm (prB_ff fun h => by have := prB_tt (p := plainOk n [z]) (by simpa [plainOk] using (hv.out.1 h).1); rw [HZ.out] at this; cases this)), ((XR w).alloc _).trans hx1⟩
 have HZ := LH hz; clear hz
 go_enter Tryz.func17, Tryz.ntmps17
 go_wp2_with fail
 refine (P1.out _ ((XR w).alloc _)).mono ?_
 rw [HZ.out]
 rintro e w1 ⟨rfl, hx1⟩
 have m4 := Ext.cell hx1 (show (w.alloc (.cells #[.int .i64 7, .string ⟨#[]⟩, .int .i64 0, .slice an ([] : List ByteArray).length cn, .slice (some ⟨ba, oa, none⟩) (z :: ks).length ck] 27)).cell? ⟨w.heap.size, 4, none⟩ = some (.slice (some ⟨ba, oa, none⟩) (ks.length + 1) ck) by simp)
 have x1 := ((XR w).alloc _).trans hx1
 clear hx1
 go_wp2_with fail
 go_loopw [131] (fun iv wr => ∃ k : Nat, k <= ks.length /\ iv = .int .i64 k /\ Ext w wr /\ Hid (∀ j (hj : j < k) (hl : j < ks.length), mesOk n ks[j])) (fun iv _ => ks.length - (intOf iv).toNat)
 case atStart => exact ⟨0, Nat.zero_le _, rfl, x1, LH fun j hj => by omega⟩
 case round =>
  clear m4 x1
  obtain ⟨k, hk2, rfl, hx, hR⟩ := hrel
  by_cases hlt : k < ks.length
  rotate_left
  · go_wp2_with fail
    go_ret
    exact ⟨ret_bool (Eq.symm (prB_tt (hv.out.2 ⟨by have := prB_iff.1 HZ.out; exact this z (by simp), fun m hm => by
     obtain ⟨j, hj, rfl⟩ := List.mem_iff_getElem.1 hm
     exact hR.out j (by omega) hj⟩))), hx⟩
  obtain ⟨ea, la, ca, ra⟩ := hb2 k ks[k] (by simp [hlt])
  obtain ⟨na0, na1, na2, na3, rfl⟩ := MExpr.shut_rep ra
  have a0 := hx.cell (show w.cell? ⟨ba, oa + 5 + k * 5, none⟩ = some _ from ca 0 (by omega))
  have a1 := hx.cell (show w.cell? ⟨ba, oa + 5 + k * 5 + 1, none⟩ = some _ from ca 1 (by omega))
  have a2 := hx.cell (show w.cell? ⟨ba, oa + 5 + k * 5 + 2, none⟩ = some _ from ca 2 (by omega))
  have a3 := hx.cell (show w.cell? ⟨ba, oa + 5 + k * 5 + 3, none⟩ = some _ from ca 3 (by omega))
  have a4 := hx.cell (show w.cell? ⟨ba, oa + 5 + k * 5 + 4, none⟩ = some _ from ca 4 (by omega))
  clear ca la
  have con : Hid (∀ W, Ext wr W -> Calls Tryz.prog 43 #[.agg #[.int .i64 ks[k].kind, .string ks[k].text, .int .i64 ks[k].number, .slice na0 ks[k].names.length na1, .slice na2 ks[k].kids.length na3]] W fun e w' => e = .returned (.bool (prB (mesOk n ks[k]))) /\ Ext W w') := LH fun W hW => M1.out ks[k] (List.getElem_mem hlt) _ W (hx.trans hW) (Rep.ext (hx.trans hW) ra)
  have HMM := LH (show ks[k] ∈ ks from List.getElem_mem hlt)
  clear hb2 pb ra M1
  generalize hM0 : ks[k] = M at *
  have hM := LH hM0; clear hM0
  cases hg : prB (mesOk n M)
  · have HG := LH hg; clear hg
    go_wp2_with fail
    refine (con.out _ ((XR _).alloc _)).mono ?_
    rw [HG.out]
    rintro e w3 ⟨rfl, hx3⟩
    clear a0 a1 a2 a3 a4
    go_wp2_with fail
    go_ret
    exact ⟨ret_bool (Eq.symm (prB_ff fun h => by
     have := prB_tt ((hv.out.1 h).2 M HMM.out)
     rw [HG.out] at this; cases this)), (hx.alloc _).trans hx3⟩
  · have HG := LH hg; clear hg
    go_wp2_with fail
    refine (con.out _ ((XR _).alloc _)).mono ?_
    rw [HG.out]
    rintro e w3 ⟨rfl, hx3⟩
    clear a0 a1 a2 a3 a4
    go_wp2_with fail
    go_roundw
    case rel => exact ⟨k + 1, by omega, by go_num, (hx.alloc _).trans hx3, LH fun i hi hl => by
     by_cases h : i < k
     · exact hR.out i h hl
     · obtain rfl : i = k := by omega
       rw [hM.out]
       exact prB_iff.1 HG.out⟩
    case measure => simp [intOf]; omega
theorem wf_8 (n : Nat) (IH : Hid (FormAt n)) (t : ByteArray) (num : Int) (nm : List ByteArray) (kids : List MExpr) (an : Option Addr) (cn : Nat) (ak : Option Addr) (ck : Nat) (w : World) (hm : MaxOk w)
 (hs : Hid (∀ z, z ∈ kids -> SizeOf.sizeOf z < n)) (hs2 : Hid (∀ m, m ∈ kids -> ∀ z, z ∈ m.kids -> SizeOf.sizeOf z < n)) (hbk : Hid (∀ m, m ∈ kids -> m.d.bulk <= 1048576)) (hbn : Hid (∀ m, m ∈ nm -> m.size <= 1048576))
 (ht : t.size <= 1048576) (hkl : kids.length <= 1048576) (hnl : nm.length <= 1048576) (hab : -1 <= argsB t /\ argsB t <= 4)
 (rn : Rep w (strs nm) [.slice an nm.length cn]) (rk : Rep w (MExprs kids) [.slice ak kids.length ck]) :
 Calls Tryz.prog 17 #[.agg #[.int .i64 8, .string t, .int .i64 num, .slice an nm.length cn, .slice ak kids.length ck]] w fun e w' => e = .returned (.bool (prB (okR (n + 1) true ⟨8, t, num, nm, kids⟩))) /\ Ext w w' := by
 obtain ⟨ao, ca, ba, oa, e1, hla, hma, pa, ha⟩ := Rep.strs rn
 simp only [List.cons.injEq, and_true, Value.slice.injEq] at e1
 obtain ⟨rfl, -, rfl⟩ := e1
 unfold maxLen at hma
 clear rn hs2 hab
 have hH : Hid (okR (n + 1) true ⟨8, t, num, nm, kids⟩ ↔ ((∀ s, s ∈ nm -> nameB s = true) /\ t = ⟨#[]⟩ /\ 0 <= num /\ num <= (nm.length : Int)) /\ plainOk n (kids.take (kids.length - 1)) /\ ∀ h : 0 < kids.length, okR n true kids[kids.length - 1]) := LH (by
  rw [okR_block rfl]
  simp [headOk, plainOk])
 have mb : ∀ W, W = w.alloc (.cells #[.int .i64 8, .string t, .int .i64 num, .slice an nm.length cn, .slice ak kids.length ck] 27) -> W.cell? ⟨w.heap.size, 1, none⟩ = some (.string t) /\ W.cell? ⟨w.heap.size, 2, none⟩ = some (.int .i64 num) /\ W.cell? ⟨w.heap.size, 3, none⟩ = some (.slice an nm.length cn) /\ W.cell? ⟨w.heap.size, 4, none⟩ = some (.slice ak kids.length ck) := fun W h => by subst h; simp
 have MB := LH mb; clear mb
 go_enter Tryz.func17, Tryz.ntmps17
 go_wp2_with fail
 go_loopw [144] (fun iv wr => ∃ k : Nat, k <= nm.length /\ iv = .int .i64 k /\ Ext w wr /\ wr.cell? ⟨w.heap.size, 1, none⟩ = some (.string t) /\ wr.cell? ⟨w.heap.size, 2, none⟩ = some (.int .i64 num) /\ wr.cell? ⟨w.heap.size, 3, none⟩ = some (.slice an nm.length cn) /\ wr.cell? ⟨w.heap.size, 4, none⟩ = some (.slice ak kids.length ck) /\ Hid (∀ j (hj : j < k) (hl : j < nm.length), nameB nm[j] = true)) (fun iv _ => nm.length - (intOf iv).toNat)
 case atStart => obtain ⟨y1, y2, y3, y4⟩ := MB.out _ rfl; exact ⟨0, Nat.zero_le _, rfl, (XR w).alloc _, y1, y2, y3, y4, LH fun j hj => by omega⟩
 case round =>
  obtain ⟨k, hk, rfl, hx, m1, m2, m3, m4, hR⟩ := hrel
  by_cases hlt : k < nm.length
  · obtain rfl := pa (by omega)
    have a0 := hx.cell (ha k nm[k] (by simp [hlt]))
    have hsz : nm[k].size <= 9223372036854775806 := by have := hbn.out nm[k] (List.getElem_mem hlt); omega
    clear ha pa
    cases hq : nameB nm[k]
    · have HQ := LH hq; clear hq
      go_wp2_with fail
      refine (impl_IsName_any nm[k] _ hsz).mono ?_
      rw [HQ.out]
      rintro e w' ⟨rfl, hx3⟩
      go_wp2_with fail
      go_ret
      exact ⟨ret_bool (Eq.symm (prB_ff fun h => by have := (hH.out.1 h).1.1 _ (List.getElem_mem hlt); rw [HQ.out] at this; cases this)), hx.trans hx3⟩
    · have HQ := LH hq; clear hq
      go_wp2_with fail
      refine (impl_IsName_any nm[k] _ hsz).mono ?_
      rw [HQ.out]
      rintro e w' ⟨rfl, hx3⟩
      go_wp2_with fail
      go_roundw
      case rel => exact ⟨k + 1, by omega, by go_num, hx.trans hx3, Ext.cell hx3 m1, Ext.cell hx3 m2, Ext.cell hx3 m3, Ext.cell hx3 m4, LH fun j hj hl => by
       by_cases h : j < k
       · exact hR.out j h hl
       · obtain rfl : j = k := by omega
         exact HQ.out⟩
      case measure => simp [intOf]; omega
  · have hA : Hid (∀ s, s ∈ nm -> nameB s = true) := LH fun s hs => by
     obtain ⟨j, hj, rfl⟩ := List.mem_iff_getElem.1 hs
     exact hR.out j (by omega) hj
    clear ha pa
    by_cases ht0 : t = ⟨#[]⟩
    rotate_left
    · have t0 : ¬ t.toList = [] := fun h => ht0 (toList_inj (by simp [h]))
      have t0' : t.toList.isEmpty = false := by simpa using t0
      have HT := LH ht0; clear ht0
      go_wp2_with fail
      go_ret
      exact ⟨ret_bool (Eq.symm (prB_ff fun h => HT.out (hH.out.1 h).1.2.1)), hx⟩
    have HE : Hid (t = ⟨#[]⟩) := LH ht0
    have m1' : wr.cell? ⟨w.heap.size, 1, none⟩ = some (.string ⟨#[]⟩) := by rw [m1, ht0]
    clear m1 ht0
    cases hr : decide ((0 : Int) <= num /\ num <= (nm.length : Int))
    · have HR := LH hr; clear hr
      go_wp2_with fail
      refine (within_any _ _ _ _).mono ?_
      rw [HR.out]
      rintro e w' ⟨rfl, rfl⟩
      go_wp2_with fail
      go_ret
      exact ⟨ret_bool (Eq.symm (prB_ff fun h => of_decide_eq_false HR.out (hH.out.1 h).1.2.2)), hx⟩
    have HR := LH hr; clear hr
    have hH2 : Hid (okR (n + 1) true ⟨8, t, num, nm, kids⟩ ↔ plainOk n (kids.take (kids.length - 1)) /\ ∀ h : 0 < kids.length, okR n true kids[kids.length - 1]) := LH (by rw [hH.out]; exact ⟨fun h => h.2, fun h => ⟨⟨hA.out, HE.out, of_decide_eq_true HR.out⟩, h⟩⟩)
    by_cases hk0 : kids.length = 0
    · have hk1 := int_eq (show (kids.length : Int) = 0 by omega)
      have HK := LH hk0; clear hk0
      go_wp2_with fail
      refine (within_any _ _ _ _).mono ?_
      rw [HR.out]
      rintro e w' ⟨rfl, rfl⟩
      go_wp2_with fail
      go_ret
      exact ⟨ret_bool (Eq.symm (prB_tt (hH2.out.2 ⟨by have := List.length_eq_zero_iff.1 HK.out; subst this; simp [plainOk], fun h => absurd HK.out (by omega)⟩))), hx⟩
    have hk1 := int_ne (show ¬ (kids.length : Int) = 0 by omega)
    obtain ⟨ao, ca, ba, oa, e1, hla2, hma2, pa2, ha2⟩ := Rep.slmap rk
    simp only [List.cons.injEq, and_true, Value.slice.injEq] at e1
    obtain ⟨rfl, -, rfl⟩ := e1
    obtain rfl := pa2 (by omega)
    unfold maxLen at hma2
    have hpos : 0 < kids.length := by omega
    have hlt2 : kids.length - 1 < kids.length := by omega
    have rtk := Rep.sl_take (k := kids.length - 1) (show Rep w (.sl 5 (kids.map MExpr.d)) _ from rk) (by simp)
    rw [<- List.map_take] at rtk
    have P1 : Hid (∀ W, Ext w W -> Calls Tryz.prog 41 #[.slice (some ⟨ba, oa, none⟩) (kids.length - 1) ck] W fun e w' => e = .returned (.bool (prB (plainOk n (kids.take (kids.length - 1))))) /\ Ext W w') := LH fun W hW => plainKids_at n IH _ _ W (Rep.ext hW rtk) (hm.ext hW) (LH fun m h => hbk.out m (List.mem_of_mem_take h)) (LH fun m h => hs.out m (List.mem_of_mem_take h))
    clear rtk rk
    cases hz : prB (plainOk n (kids.take (kids.length - 1)))
    · have HZ := LH hz; clear hz
      clear ha2
      go_wp2_with fail
      refine (within_any _ _ _ _).mono ?_
      rw [HR.out]
      rintro e w' ⟨rfl, rfl⟩
      go_wp2_with fail
      refine (P1.out _ hx).mono ?_
      rw [HZ.out]
      rintro e w3 ⟨rfl, hx3⟩
      go_wp2_with fail
      go_ret
      exact ⟨ret_bool (Eq.symm (prB_ff fun h => by have := prB_tt (hH2.out.1 h).1; rw [HZ.out] at this; cases this)), hx.trans hx3⟩
    have HZ := LH hz; clear hz
    go_wp2_with fail
    refine (within_any _ _ _ _).mono ?_
    rw [HR.out]
    rintro e w' ⟨rfl, rfl⟩
    go_wp2_with fail
    refine (P1.out _ hx).mono ?_
    rw [HZ.out]
    rintro e w3 ⟨rfl, hx3⟩
    have hy := hx.trans hx3
    have m5 := Ext.cell hx3 m4
    clear m1' m2 m3 m4
    obtain ⟨ea, la, ca, ra⟩ := ha2 (kids.length - 1) kids[(kids.length - 1)] (by simp [hlt2])
    obtain ⟨na0, na1, na2, na3, rfl⟩ := MExpr.shut_rep ra
    have a0 := hy.cell (show w.cell? ⟨ba, oa + (kids.length - 1) * 5, none⟩ = some _ from ca 0 (by omega))
    have a1 := hy.cell (show w.cell? ⟨ba, oa + (kids.length - 1) * 5 + 1, none⟩ = some _ from ca 1 (by omega))
    have a2 := hy.cell (show w.cell? ⟨ba, oa + (kids.length - 1) * 5 + 2, none⟩ = some _ from ca 2 (by omega))
    have a3 := hy.cell (show w.cell? ⟨ba, oa + (kids.length - 1) * 5 + 3, none⟩ = some _ from ca 3 (by omega))
    have a4 := hy.cell (show w.cell? ⟨ba, oa + (kids.length - 1) * 5 + 4, none⟩ = some _ from ca 4 (by omega))
    clear ca la
    have g0 : (0 : Int) <= (kids.length : Int) - 1 := by omega
    have g1 : (kids.length : Int) - 1 < (kids.length : Int) := by omega
    go_wp2_with fail
    refine (IH.out kids[kids.length - 1] _ _ (hs.out _ (List.getElem_mem hlt2)) (hbk.out _ (List.getElem_mem hlt2)) (hm.ext hy) (Rep.ext hy ra)).mono ?_
    rintro e w4 ⟨rfl, hx4⟩
    clear a0 a1 a2 a3 a4 m5
    go_wp2_with fail
    go_ret
    refine ⟨ret_bool ?_, hy.trans hx4⟩
    congr 1
    rw [eq_iff_iff]
    exact ⟨fun h => hH2.out.2 ⟨prB_iff.1 HZ.out, fun _ => h⟩, fun h => (hH2.out.1 h).2 hpos⟩
theorem wf_9 (n : Nat) (IH : Hid (FormAt n)) (t : ByteArray) (num : Int) (nm : List ByteArray) (kids : List MExpr) (an : Option Addr) (cn : Nat) (ak : Option Addr) (ck : Nat) (w : World) (hm : MaxOk w)
 (hs : Hid (∀ z, z ∈ kids -> SizeOf.sizeOf z < n)) (hs2 : Hid (∀ m, m ∈ kids -> ∀ z, z ∈ m.kids -> SizeOf.sizeOf z < n)) (hbk : Hid (∀ m, m ∈ kids -> m.d.bulk <= 1048576)) (hbn : Hid (∀ m, m ∈ nm -> m.size <= 1048576))
 (ht : t.size <= 1048576) (hkl : kids.length <= 1048576) (hnl : nm.length <= 1048576) (hab : -1 <= argsB t /\ argsB t <= 4)
 (rn : Rep w (strs nm) [.slice an nm.length cn]) (rk : Rep w (MExprs kids) [.slice ak kids.length ck]) :
 Calls Tryz.prog 17 #[.agg #[.int .i64 9, .string t, .int .i64 num, .slice an nm.length cn, .slice ak kids.length ck]] w fun e w' => e = .returned (.bool (prB (okR (n + 1) true ⟨9, t, num, nm, kids⟩))) /\ Ext w w' := by
 by_cases hnm : nm = []
 rotate_left
 · have hn0 : 0 < nm.length := List.length_pos_iff.2 hnm
   have hp := LH (prB_ff (p := okR (n + 1) true ⟨9, t, num, nm, kids⟩) (by intro h; have h := head_of h; revert h; simp [headOk, hnm]))
   have HM : Hid (∀ W, Ext (w.alloc (.cells #[.int .i64 9, .string t, .int .i64 num, .slice an nm.length cn, .slice ak kids.length ck] 27)) W -> W.cell? ⟨w.heap.size, 0, none⟩ = some (.int .i64 9) /\ W.cell? ⟨w.heap.size, 1, none⟩ = some (.string t) /\ W.cell? ⟨w.heap.size, 2, none⟩ = some (.int .i64 num) /\ W.cell? ⟨w.heap.size, 3, none⟩ = some (.slice an nm.length cn) /\ W.cell? ⟨w.heap.size, 4, none⟩ = some (.slice ak kids.length ck)) := LH fun W hW => ⟨Ext.cell hW (by simp), Ext.cell hW (by simp), Ext.cell hW (by simp), Ext.cell hW (by simp), Ext.cell hW (by simp)⟩
   go_enter Tryz.func17, Tryz.ntmps17
   go_wp2_with fail
   go_ret
   exact ⟨ret_bool (by rw [hp.out]), (XR w).alloc _⟩
 subst hnm
 by_cases hnu : num = 0
 rotate_left
 · have n1 := int_nen hnu
   have hp := LH (prB_ff (p := okR (n + 1) true ⟨9, t, num, [], kids⟩) (by intro h; have h := head_of h; revert h; simp [headOk, hnu]))
   have HM : Hid (∀ W, Ext (w.alloc (.cells #[.int .i64 9, .string t, .int .i64 num, .slice an ([] : List ByteArray).length cn, .slice ak kids.length ck] 27)) W -> W.cell? ⟨w.heap.size, 0, none⟩ = some (.int .i64 9) /\ W.cell? ⟨w.heap.size, 1, none⟩ = some (.string t) /\ W.cell? ⟨w.heap.size, 2, none⟩ = some (.int .i64 num) /\ W.cell? ⟨w.heap.size, 3, none⟩ = some (.slice an ([] : List ByteArray).length cn) /\ W.cell? ⟨w.heap.size, 4, none⟩ = some (.slice ak kids.length ck)) := LH fun W hW => ⟨Ext.cell hW (by simp), Ext.cell hW (by simp), Ext.cell hW (by simp), Ext.cell hW (by simp), Ext.cell hW (by simp)⟩
   go_enter Tryz.func17, Tryz.ntmps17
   go_wp2_with fail
   go_ret
   exact ⟨ret_bool (by rw [hp.out]), (XR w).alloc _⟩
 subst hnu
 by_cases ht0 : t = ⟨#[]⟩
 rotate_left
 · have t0 : ¬ t.toList = [] := fun h => ht0 (toList_inj (by simp [h]))
   have t0' : t.toList.isEmpty = false := by simpa using t0
   have hp := LH (prB_ff (p := okR (n + 1) true ⟨9, t, 0, [], kids⟩) (by intro h; have h := head_of h; revert h; simp [headOk, ht0]))
   have HM : Hid (∀ W, Ext (w.alloc (.cells #[.int .i64 9, .string t, .int .i64 0, .slice an ([] : List ByteArray).length cn, .slice ak kids.length ck] 27)) W -> W.cell? ⟨w.heap.size, 0, none⟩ = some (.int .i64 9) /\ W.cell? ⟨w.heap.size, 1, none⟩ = some (.string t) /\ W.cell? ⟨w.heap.size, 2, none⟩ = some (.int .i64 0) /\ W.cell? ⟨w.heap.size, 3, none⟩ = some (.slice an ([] : List ByteArray).length cn) /\ W.cell? ⟨w.heap.size, 4, none⟩ = some (.slice ak kids.length ck)) := LH fun W hW => ⟨Ext.cell hW (by simp), Ext.cell hW (by simp), Ext.cell hW (by simp), Ext.cell hW (by simp), Ext.cell hW (by simp)⟩
   go_enter Tryz.func17, Tryz.ntmps17
   go_wp2_with fail
   go_ret
   exact ⟨ret_bool (by rw [hp.out]), (XR w).alloc _⟩
 subst ht0
 by_cases hk : kids.length = 1
 rotate_left
 · have hk1 := int_ne (show ¬ (kids.length : Int) = 1 by omega)
   have hp := LH (prB_ff (p := okR (n + 1) true ⟨9, ⟨#[]⟩, 0, [], kids⟩) (by intro h; have h := head_of h; revert h; simp [headOk, hk]))
   have HM : Hid (∀ W, Ext (w.alloc (.cells #[.int .i64 9, .string ⟨#[]⟩, .int .i64 0, .slice an ([] : List ByteArray).length cn, .slice ak kids.length ck] 27)) W -> W.cell? ⟨w.heap.size, 0, none⟩ = some (.int .i64 9) /\ W.cell? ⟨w.heap.size, 1, none⟩ = some (.string ⟨#[]⟩) /\ W.cell? ⟨w.heap.size, 2, none⟩ = some (.int .i64 0) /\ W.cell? ⟨w.heap.size, 3, none⟩ = some (.slice an ([] : List ByteArray).length cn) /\ W.cell? ⟨w.heap.size, 4, none⟩ = some (.slice ak kids.length ck)) := LH fun W hW => ⟨Ext.cell hW (by simp), Ext.cell hW (by simp), Ext.cell hW (by simp), Ext.cell hW (by simp), Ext.cell hW (by simp)⟩
   go_enter Tryz.func17, Tryz.ntmps17
   go_wp2_with fail
   go_ret
   exact ⟨ret_bool (by rw [hp.out]), (XR w).alloc _⟩
 have hk1 := int_eq (show (kids.length : Int) = 1 by omega)
 have HK := LH hk; clear hk
 have hv : Hid (prB (okR (n + 1) true ⟨9, ⟨#[]⟩, 0, [], kids⟩) = prB (plainOk n kids)) := LH (by
  congr 1
  rw [okR_plain (by simp) (by simp), eq_iff_iff]
  exact ⟨fun h => h.2, fun h => ⟨by simp [headOk, HK.out], h⟩⟩)
 have HM : Hid (∀ W, Ext (w.alloc (.cells #[.int .i64 9, .string ⟨#[]⟩, .int .i64 0, .slice an ([] : List ByteArray).length cn, .slice ak kids.length ck] 27)) W -> W.cell? ⟨w.heap.size, 0, none⟩ = some (.int .i64 9) /\ W.cell? ⟨w.heap.size, 1, none⟩ = some (.string ⟨#[]⟩) /\ W.cell? ⟨w.heap.size, 2, none⟩ = some (.int .i64 0) /\ W.cell? ⟨w.heap.size, 3, none⟩ = some (.slice an ([] : List ByteArray).length cn) /\ W.cell? ⟨w.heap.size, 4, none⟩ = some (.slice ak kids.length ck)) := LH fun W hW => ⟨Ext.cell hW (by simp), Ext.cell hW (by simp), Ext.cell hW (by simp), Ext.cell hW (by simp), Ext.cell hW (by simp)⟩
 go_enter Tryz.func17, Tryz.ntmps17
 go_wp2_with fail
 refine ((plainKids_at n IH kids _ _ (Rep.ext (((XR w).alloc _)) rk) (hm.ext (((XR w).alloc _))) hbk hs)).mono ?_
 rintro e w1 ⟨rfl, hx1⟩
 obtain ⟨m0, m1, m2, m3, m4⟩ := HM.out _ hx1
 go_wp2_with fail
 try clear m0 m1 m2 m3 m4
 go_ret
 exact ⟨ret_bool (by rw [hv.out]), ((XR w).alloc _).trans hx1⟩
theorem wf_o (n : Nat) (IH : Hid (FormAt n)) (K : Int) (hK : ¬ (1 <= K /\ K <= 9)) (t : ByteArray) (num : Int) (nm : List ByteArray) (kids : List MExpr) (an : Option Addr) (cn : Nat) (ak : Option Addr) (ck : Nat) (w : World) (hm : MaxOk w)
 (hs : Hid (∀ z, z ∈ kids -> SizeOf.sizeOf z < n)) (hs2 : Hid (∀ m, m ∈ kids -> ∀ z, z ∈ m.kids -> SizeOf.sizeOf z < n)) (hbk : Hid (∀ m, m ∈ kids -> m.d.bulk <= 1048576)) (hbn : Hid (∀ m, m ∈ nm -> m.size <= 1048576))
 (ht : t.size <= 1048576) (hkl : kids.length <= 1048576) (hnl : nm.length <= 1048576) (hab : -1 <= argsB t /\ argsB t <= 4)
 (rn : Rep w (strs nm) [.slice an nm.length cn]) (rk : Rep w (MExprs kids) [.slice ak kids.length ck]) :
 Calls Tryz.prog 17 #[.agg #[.int .i64 K, .string t, .int .i64 num, .slice an nm.length cn, .slice ak kids.length ck]] w fun e w' => e = .returned (.bool (prB (okR (n + 1) true ⟨K, t, num, nm, kids⟩))) /\ Ext w w' := by
 have e1 := int_ne (show ¬ K = 1 by omega)
 have e2 := int_ne (show ¬ K = 2 by omega)
 have e3 := int_ne (show ¬ K = 3 by omega)
 have e4 := int_ne (show ¬ K = 4 by omega)
 have e5 := int_ne (show ¬ K = 5 by omega)
 have e6 := int_ne (show ¬ K = 6 by omega)
 have e7 := int_ne (show ¬ K = 7 by omega)
 have e8 := int_ne (show ¬ K = 8 by omega)
 have e9 := int_ne (show ¬ K = 9 by omega)
 have f1 := int_nen (show ¬ K = 1 by omega)
 have f8 := int_nen (show ¬ K = 8 by omega)
 have hno : Hid (∀ a b c d, ¬ okR (n + 1) true ⟨K, a, b, c, d⟩) := LH (fun a b c d h => by have := (head_of h).2.2.1; simp only at this; omega)
 clear hK rn rk
 by_cases hnm : nm = []
 rotate_left
 · have hn0 : 0 < nm.length := List.length_pos_iff.2 hnm
   have hp := LH (prB_ff (p := okR (n + 1) true ⟨K, t, num, nm, kids⟩) (by exact hno.out _ _ _ _))
   have HM : Hid (∀ W, Ext (w.alloc (.cells #[.int .i64 K, .string t, .int .i64 num, .slice an nm.length cn, .slice ak kids.length ck] 27)) W -> W.cell? ⟨w.heap.size, 0, none⟩ = some (.int .i64 K) /\ W.cell? ⟨w.heap.size, 1, none⟩ = some (.string t) /\ W.cell? ⟨w.heap.size, 2, none⟩ = some (.int .i64 num) /\ W.cell? ⟨w.heap.size, 3, none⟩ = some (.slice an nm.length cn) /\ W.cell? ⟨w.heap.size, 4, none⟩ = some (.slice ak kids.length ck)) := LH fun W hW => ⟨Ext.cell hW (by simp), Ext.cell hW (by simp), Ext.cell hW (by simp), Ext.cell hW (by simp), Ext.cell hW (by simp)⟩
   go_enter Tryz.func17, Tryz.ntmps17
   go_wp2_with fail
   go_ret
   exact ⟨ret_bool (by rw [hp.out]), (XR w).alloc _⟩
 subst hnm
 by_cases hnu : num = 0
 rotate_left
 · have n1 := int_nen hnu
   have hp := LH (prB_ff (p := okR (n + 1) true ⟨K, t, num, [], kids⟩) (by exact hno.out _ _ _ _))
   have HM : Hid (∀ W, Ext (w.alloc (.cells #[.int .i64 K, .string t, .int .i64 num, .slice an ([] : List ByteArray).length cn, .slice ak kids.length ck] 27)) W -> W.cell? ⟨w.heap.size, 0, none⟩ = some (.int .i64 K) /\ W.cell? ⟨w.heap.size, 1, none⟩ = some (.string t) /\ W.cell? ⟨w.heap.size, 2, none⟩ = some (.int .i64 num) /\ W.cell? ⟨w.heap.size, 3, none⟩ = some (.slice an ([] : List ByteArray).length cn) /\ W.cell? ⟨w.heap.size, 4, none⟩ = some (.slice ak kids.length ck)) := LH fun W hW => ⟨Ext.cell hW (by simp), Ext.cell hW (by simp), Ext.cell hW (by simp), Ext.cell hW (by simp), Ext.cell hW (by simp)⟩
   go_enter Tryz.func17, Tryz.ntmps17
   go_wp2_with fail
   go_ret
   exact ⟨ret_bool (by rw [hp.out]), (XR w).alloc _⟩
 subst hnu
 have hp := LH (prB_ff (p := okR (n + 1) true ⟨K, t, 0, [], kids⟩) (by exact hno.out _ _ _ _))
 have HM : Hid (∀ W, Ext (w.alloc (.cells #[.int .i64 K, .string t, .int .i64 0, .slice an ([] : List ByteArray).length cn, .slice ak kids.length ck] 27)) W -> W.cell? ⟨w.heap.size, 0, none⟩ = some (.int .i64 K) /\ W.cell? ⟨w.heap.size, 1, none⟩ = some (.string t) /\ W.cell? ⟨w.heap.size, 2, none⟩ = some (.int .i64 0) /\ W.cell? ⟨w.heap.size, 3, none⟩ = some (.slice an ([] : List ByteArray).length cn) /\ W.cell? ⟨w.heap.size, 4, none⟩ = some (.slice ak kids.length ck)) := LH fun W hW => ⟨Ext.cell hW (by simp), Ext.cell hW (by simp), Ext.cell hW (by simp), Ext.cell hW (by simp), Ext.cell hW (by simp)⟩
 go_enter Tryz.func17, Tryz.ntmps17
 go_wp2_with fail
 go_ret
 exact ⟨ret_bool (by rw [hp.out]), (XR w).alloc _⟩
theorem wellFormed_at : ∀ n, FormAt n := by
 intro n
 induction n with
 | zero => intro z cz w h; omega
 | succ n ih =>
 intro x cx w hn hb hm rx
 have hs : Hid (∀ z, z ∈ x.kids -> SizeOf.sizeOf z < n) := LH fun z hz => by have := MExpr.kid_lt hz; omega
 have hs2 : Hid (∀ m, m ∈ x.kids -> ∀ z, z ∈ m.kids -> SizeOf.sizeOf z < n) := LH fun m hm z hz => by have := MExpr.kid_lt hm; have := MExpr.kid_lt hz; omega
 have hbk : Hid (∀ m, m ∈ x.kids -> m.d.bulk <= 1048576) := LH (fun m (hm : m ∈ x.kids) => Nat.le_trans (MExpr.bulk_kid hm) hb)
 have hbn : Hid (∀ m, m ∈ x.names -> m.size <= 1048576) := LH (fun m (hm : m ∈ x.names) => Nat.le_trans (MExpr.bulk_name hm) hb)
 have ht := Nat.le_trans (MExpr.bulk_text x) hb
 have hkl := Nat.le_trans (MExpr.bulk_kids x) hb
 have hnl := Nat.le_trans (MExpr.bulk_names x) hb
 have hab := argsB_bd x.text
 obtain ⟨an, cn, ak, ck, rfl, rn, rk⟩ := MExpr.op_en rx
 obtain ⟨K, t, num, nm, kids⟩ := x
 simp only at *
 by_cases h1 : K = 1
 · subst h1; exact wf_1 n (LH ih) t num nm kids an cn ak ck w hm hs hs2 hbk hbn ht hkl hnl hab rn rk
 by_cases h2 : K = 2
 · subst h2; exact wf_2 n (LH ih) t num nm kids an cn ak ck w hm hs hs2 hbk hbn ht hkl hnl hab rn rk
 by_cases h3 : K = 3
 · subst h3; exact wf_3 n (LH ih) t num nm kids an cn ak ck w hm hs hs2 hbk hbn ht hkl hnl hab rn rk
 by_cases h4 : K = 4
 · subst h4; exact wf_4 n (LH ih) t num nm kids an cn ak ck w hm hs hs2 hbk hbn ht hkl hnl hab rn rk
 by_cases h5 : K = 5
 · subst h5; exact wf_5 n (LH ih) t num nm kids an cn ak ck w hm hs hs2 hbk hbn ht hkl hnl hab rn rk
 by_cases h6 : K = 6
 · subst h6; exact wf_6 n (LH ih) t num nm kids an cn ak ck w hm hs hs2 hbk hbn ht hkl hnl hab rn rk
 by_cases h7 : K = 7
 · subst h7; exact wf_7 n (LH ih) t num nm kids an cn ak ck w hm hs hs2 hbk hbn ht hkl hnl hab rn rk
 by_cases h8 : K = 8
 · subst h8; exact wf_8 n (LH ih) t num nm kids an cn ak ck w hm hs hs2 hbk hbn ht hkl hnl hab rn rk
 by_cases h9 : K = 9
 · subst h9; exact wf_9 n (LH ih) t num nm kids an cn ak ck w hm hs hs2 hbk hbn ht hkl hnl hab rn rk
 exact wf_o n (LH ih) K (by omega) t num nm kids an cn ak ck w hm hs hs2 hbk hbn ht hkl hnl hab rn rk
end Go.Proofs.YtndhpbjhkgdieaaGreatDoor
