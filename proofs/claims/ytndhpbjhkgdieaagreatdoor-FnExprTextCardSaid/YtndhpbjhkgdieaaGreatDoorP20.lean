/-
  CONTRACTS: right expressions, of the reference: the walk down.
  Conditions: those that each lemma states.
-/
import Derived.Test.YtndhpbjhkgdieaaGreatDoorRows
import Derived.Lib.QuietBelow
import Derived.BigQuiet
import Derived.Test.YtndhpbjhkgdieaaGreatDoorP19
namespace Go.Proofs.YtndhpbjhkgdieaaGreatDoor
open Go.RowKit
set_option maxHeartbeats 8000000
set_option maxRecDepth 100000
set_option linter.unusedSimpArgs false
set_option linter.unusedVariables false
theorem l3Right_at : ∀ n, RightAt n := by
 intro n
 induction n with
 | zero => intro st z cz w h; omega
 | succ n ih =>
  intro st x cx w hn hb rx
  have IH := LH ih; clear ih
  have hs1 : Hid (∀ z, z ∈ x.kids -> SizeOf.sizeOf z < n) := LH fun z hz => by have := MExpr.kid_lt hz; omega
  have hb1 : Hid (∀ z, z ∈ x.kids -> z.d.bulk <= 1048576) := LH fun z hz => Nat.le_trans (MExpr.bulk_kid hz) hb
  have hkl := Nat.le_trans (MExpr.bulk_kids x) hb
  have con : Hid (∀ (c : List Value) W, Rep W x.d c -> Calls Tryz.prog 45 #[.agg c.toArray] W fun e w' => e = .returned (.bool (prB (nodeOk n x))) /\ Ext W w') := LH fun c W r => l3Node_at n IH x c W r hb (fun m hm z hz => by have := MExpr.kid_lt hm; have := MExpr.kid_lt hz; omega)
  have RX := LH rx
  obtain ⟨an, cn, ak, ck, rfl, -, rk⟩ := MExpr.op_en rx
  clear rx hn hb
  obtain ⟨ao, ca, ba, oa, e1, hla, hma, pa, ha⟩ := Rep.slmap rk
  simp only [List.cons.injEq, and_true, Value.slice.injEq] at e1
  obtain ⟨rfl, -, rfl⟩ := e1
  unfold maxLen at hma
  clear rk
  have hRX : Hid (∀ o, Rep (w.alloc o) x.d _) := LH fun o => Rep.ext ((XR w).alloc _) RX.out
  obtain ⟨K, t, num, nm, kids⟩ := x
  simp only at *
  generalize hN : nodeOk n ⟨K, t, num, nm, kids⟩ = NO at *
  have HN := LH hN; clear hN
  cases hNB : prB NO
  · have HNB := LH hNB; clear hNB
    go_enter Tryz.func20, Tryz.ntmps20
    go_wp2_with fail
    refine (con.out _ _ (hRX.out _)).mono ?_
    rw [HNB.out]
    rintro e w' ⟨rfl, hx⟩
    go_wp2_with fail
    go_ret
    exact ⟨ret_bool (Eq.symm (prB_ff fun h => by have := (okR_succ.1 h).1; rw [HN.out] at this; rw [prB_tt this] at HNB; cases HNB.out)), ((XR _).alloc _).trans hx⟩
  have HNB := LH hNB; clear hNB
  by_cases h7 : K = 7
  · subst h7
    have h1k : Hid (1 <= kids.length) := LH (by have := prB_iff.1 HNB.out; rw [<- HN.out] at this; have := (this.1.2.2.2.2.2.2.2.2.2.1 rfl).2; simp only at this; omega)
    have h1k' := h1k.out
    go_enter Tryz.func20, Tryz.ntmps20
    go_wp2_with fail
    refine (con.out _ _ (hRX.out _)).mono ?_
    rw [HNB.out]
    rintro e w1 ⟨rfl, hx1⟩
    have m0 := Ext.cell hx1 (show (w.alloc (.cells #[.int .i64 (7), .string t, .int .i64 num, .slice an nm.length cn, .slice ak kids.length ck] 27)).cell? ⟨w.heap.size, 0, none⟩ = some (.int .i64 (7)) by simp)
    have m4 := Ext.cell hx1 (show (w.alloc (.cells #[.int .i64 (7), .string t, .int .i64 num, .slice an nm.length cn, .slice ak kids.length ck] 27)).cell? ⟨w.heap.size, 4, none⟩ = some (.slice ak kids.length ck) by simp)
    have x1 := ((XR w).alloc _).trans hx1
    clear hx1
    go_wp2_with fail
    go_loopw [6] (fun iv wr => ∃ k : Nat, k <= 1 /\ iv = .int .i64 k /\ Ext w wr /\ wr.cell? ⟨w.heap.size, 0, none⟩ = some (.int .i64 (7)) /\ wr.cell? ⟨w.heap.size, 4, none⟩ = some (.slice ak kids.length ck) /\ Hid (∀ j (hj : j < k) (hl : j < kids.length), okR n false kids[j])) (fun iv _ => 1 - (intOf iv).toNat)
    case atStart => exact ⟨0, Nat.zero_le _, rfl, x1, m0, m4, LH fun j hj => by omega⟩
    case round =>
     clear m0 m4 x1
     obtain ⟨k, hk, rfl, hx, m0, m4, hR⟩ := hrel
     by_cases hlt : k < 1
     · have hkk : k < kids.length := by omega
       have h30 : (0 : Int) <= k := by omega
       have h31 : (k : Int) < (kids.length : Int) := by omega
       obtain rfl := pa (by omega)
       obtain ⟨ea, la, c1, ra⟩ := ha k kids[k] (by simp [hkk])
       obtain ⟨aa0, cc0, aa1, cc1, rfl, -, -⟩ := MExpr.op_en ra
       have a0 := hx.cell (show w.cell? ⟨ba, oa + k * 5, none⟩ = some _ from c1 0 (by omega))
       have a1 := hx.cell (show w.cell? ⟨ba, oa + k * 5 + 1, none⟩ = some _ from c1 1 (by omega))
       have a2 := hx.cell (show w.cell? ⟨ba, oa + k * 5 + 2, none⟩ = some _ from c1 2 (by omega))
       have a3 := hx.cell (show w.cell? ⟨ba, oa + k * 5 + 3, none⟩ = some _ from c1 3 (by omega))
       have a4 := hx.cell (show w.cell? ⟨ba, oa + k * 5 + 4, none⟩ = some _ from c1 4 (by omega))
       have ck2 : Hid (∀ W, Ext wr W -> Calls Tryz.prog 20 #[.agg #[.int .i64 kids[k].kind, .string kids[k].text, .int .i64 kids[k].number, .slice aa0 kids[k].names.length cc0, .slice aa1 kids[k].kids.length cc1], .bool false] W fun e w' => e = .returned (.bool (prB (okR n false kids[k]))) /\ Ext W w') := LH fun W hW => IH.out false kids[k] _ W (hs1.out _ (List.getElem_mem hkk)) (hb1.out _ (List.getElem_mem hkk)) (Rep.ext (hx.trans hW) ra)
       clear c1 la ha pa ra
       generalize hM0 : kids[k] = M at *
       have hM := LH hM0; clear hM0
       have g0 := reg (XR _) m0
       have g4 := reg (XR _) m4
       have b0 := reg (XR _) a0
       have b1 := reg (XR _) a1
       have b2 := reg (XR _) a2
       have b3 := reg (XR _) a3
       have b4 := reg (XR _) a4
       cases hg : prB (okR n false M)
       · have HG := LH hg; clear hg
         have CC : Hid (∀ W, Ext wr W -> Calls Tryz.prog 20 #[.agg #[.int .i64 M.kind, .string M.text, .int .i64 M.number, .slice aa0 M.names.length cc0, .slice aa1 M.kids.length cc1], .bool false] W fun e w' => e = .returned (.bool false) /\ Ext W w') := LH (by have := ck2.out; rw [HG.out] at this; exact this)
         clear ck2
         go_wp2_with fail
         refine wp_region_quiet_below (by kernel_rfl) (by kernel_rfl) ?_
         repeat (go_big_quiet_step (exact Calls.regrown_of (CC.out _ (below_regrown _ _ _))))
         refine wpQuiet_nil ?_
         intro _ hw'
         obtain ⟨pw, hw''⟩ := hw'
         subst hw''
         have X1 := regx wr pw
         clear g0 g4 b0 b1 b2 b3 b4
         generalize hW2 : «Sort».grow (redrawn wr pw.d) pw.os = W2 at *
         clear hW2
         go_wp2_with fail
         go_ret
         exact ⟨ret_bool (Eq.symm (prB_ff fun h => by
          have h3 := ((okR_succ.1 h).2.2 k (by simp [lastN]; try omega) hkk).1
          simp only [show decide ((7 : Int) = 8) = false from rfl, hM.out] at h3
          rw [prB_tt h3] at HG; cases HG.out)), hx.trans X1⟩
       · have HG := LH hg; clear hg
         have CC : Hid (∀ W, Ext wr W -> Calls Tryz.prog 20 #[.agg #[.int .i64 M.kind, .string M.text, .int .i64 M.number, .slice aa0 M.names.length cc0, .slice aa1 M.kids.length cc1], .bool false] W fun e w' => e = .returned (.bool true) /\ Ext W w') := LH (by have := ck2.out; rw [HG.out] at this; exact this)
         clear ck2
         go_wp2_with fail
         refine wp_region_quiet_below (by kernel_rfl) (by kernel_rfl) ?_
         repeat (go_big_quiet_step (exact Calls.regrown_of (CC.out _ (below_regrown _ _ _))))
         refine wpQuiet_nil ?_
         intro _ hw'
         obtain ⟨pw, hw''⟩ := hw'
         subst hw''
         have X1 := regx wr pw
         clear g0 g4 b0 b1 b2 b3 b4
         generalize hW2 : «Sort».grow (redrawn wr pw.d) pw.os = W2 at *
         clear hW2
         go_wp2_with fail
         go_roundw
         case rel => exact ⟨k + 1, by omega, by go_num, hx.trans X1, X1.cell m0, X1.cell m4, LH fun j hj hl => by
          by_cases h : j < k
          · exact hR.out j h hl
          · obtain rfl : j = k := by omega
            rw [hM.out]
            exact prB_iff.1 HG.out⟩
         case measure => simp [intOf]; omega
     · go_wp2_with fail
       go_ret
       exact ⟨ret_bool (Eq.symm (prB_tt (okR_succ.2 ⟨by rw [HN.out]; exact prB_iff.1 HNB.out, fun e => absurd e (by first | (simp; done) | exact H9.out), fun i hi hl => by
        have h3 := hR.out i (by simp [lastN] at hi; omega) hl
        refine ⟨by simpa [show decide ((7 : Int) = 8) = false from rfl] using h3, fun e => ?_⟩; exact absurd e.1 (by first | (simp; done) | exact H8.out)⟩))), hx⟩
  by_cases h8 : K = 8
  · subst h8
    go_enter Tryz.func20, Tryz.ntmps20
    go_wp2_with fail
    refine (con.out _ _ (hRX.out _)).mono ?_
    rw [HNB.out]
    rintro e w1 ⟨rfl, hx1⟩
    have m0 := Ext.cell hx1 (show (w.alloc (.cells #[.int .i64 (8), .string t, .int .i64 num, .slice an nm.length cn, .slice ak kids.length ck] 27)).cell? ⟨w.heap.size, 0, none⟩ = some (.int .i64 (8)) by simp)
    have m4 := Ext.cell hx1 (show (w.alloc (.cells #[.int .i64 (8), .string t, .int .i64 num, .slice an nm.length cn, .slice ak kids.length ck] 27)).cell? ⟨w.heap.size, 4, none⟩ = some (.slice ak kids.length ck) by simp)
    have x1 := ((XR w).alloc _).trans hx1
    clear hx1
    go_wp2_with fail
    go_loopw [6] (fun iv wr => ∃ k : Nat, k <= kids.length /\ iv = .int .i64 k /\ Ext w wr /\ wr.cell? ⟨w.heap.size, 0, none⟩ = some (.int .i64 (8)) /\ wr.cell? ⟨w.heap.size, 4, none⟩ = some (.slice ak kids.length ck) /\ Hid (∀ j (hj : j < k) (hl : j < kids.length), okR n true kids[j] /\ ¬ (kids[j].kind = 9 /\ j + 1 < kids.length))) (fun iv _ => kids.length - (intOf iv).toNat)
    case atStart => exact ⟨0, Nat.zero_le _, rfl, x1, m0, m4, LH fun j hj => by omega⟩
    case round =>
     clear m0 m4 x1
     obtain ⟨k, hk, rfl, hx, m0, m4, hR⟩ := hrel
     by_cases hlt : k < kids.length
     · have hkk : k < kids.length := by omega
       have h30 : (0 : Int) <= k := by omega
       have h31 : (k : Int) < (kids.length : Int) := by omega
       obtain rfl := pa (by omega)
       obtain ⟨ea, la, c1, ra⟩ := ha k kids[k] (by simp [hkk])
       obtain ⟨aa0, cc0, aa1, cc1, rfl, -, -⟩ := MExpr.op_en ra
       have a0 := hx.cell (show w.cell? ⟨ba, oa + k * 5, none⟩ = some _ from c1 0 (by omega))
       have a1 := hx.cell (show w.cell? ⟨ba, oa + k * 5 + 1, none⟩ = some _ from c1 1 (by omega))
       have a2 := hx.cell (show w.cell? ⟨ba, oa + k * 5 + 2, none⟩ = some _ from c1 2 (by omega))
       have a3 := hx.cell (show w.cell? ⟨ba, oa + k * 5 + 3, none⟩ = some _ from c1 3 (by omega))
       have a4 := hx.cell (show w.cell? ⟨ba, oa + k * 5 + 4, none⟩ = some _ from c1 4 (by omega))
       have ck2 : Hid (∀ W, Ext wr W -> Calls Tryz.prog 20 #[.agg #[.int .i64 kids[k].kind, .string kids[k].text, .int .i64 kids[k].number, .slice aa0 kids[k].names.length cc0, .slice aa1 kids[k].kids.length cc1], .bool true] W fun e w' => e = .returned (.bool (prB (okR n true kids[k]))) /\ Ext W w') := LH fun W hW => IH.out true kids[k] _ W (hs1.out _ (List.getElem_mem hkk)) (hb1.out _ (List.getElem_mem hkk)) (Rep.ext (hx.trans hW) ra)
       clear c1 la ha pa ra
       generalize hM0 : kids[k] = M at *
       have hM := LH hM0; clear hM0
       have g0 := reg (XR _) m0
       have g4 := reg (XR _) m4
       have b0 := reg (XR _) a0
       have b1 := reg (XR _) a1
       have b2 := reg (XR _) a2
       have b3 := reg (XR _) a3
       have b4 := reg (XR _) a4
       cases hg : prB (okR n true M)
       · have HG := LH hg; clear hg
         have CC : Hid (∀ W, Ext wr W -> Calls Tryz.prog 20 #[.agg #[.int .i64 M.kind, .string M.text, .int .i64 M.number, .slice aa0 M.names.length cc0, .slice aa1 M.kids.length cc1], .bool true] W fun e w' => e = .returned (.bool false) /\ Ext W w') := LH (by have := ck2.out; rw [HG.out] at this; exact this)
         clear ck2
         go_wp2_with fail
         refine wp_region_quiet_below (by kernel_rfl) (by kernel_rfl) ?_
         repeat (go_big_quiet_step (exact Calls.regrown_of (CC.out _ (below_regrown _ _ _))))
         refine wpQuiet_nil ?_
         intro _ hw'
         obtain ⟨pw, hw''⟩ := hw'
         subst hw''
         have X1 := regx wr pw
         clear g0 g4 b0 b1 b2 b3 b4
         generalize hW2 : «Sort».grow (redrawn wr pw.d) pw.os = W2 at *
         clear hW2
         go_wp2_with fail
         go_ret
         exact ⟨ret_bool (Eq.symm (prB_ff fun h => by
          have h3 := ((okR_succ.1 h).2.2 k (by simp [lastN]; try omega) hkk).1
          simp only [decide_true, hM.out] at h3
          rw [prB_tt h3] at HG; cases HG.out)), hx.trans X1⟩
       · have HG := LH hg; clear hg
         have CC : Hid (∀ W, Ext wr W -> Calls Tryz.prog 20 #[.agg #[.int .i64 M.kind, .string M.text, .int .i64 M.number, .slice aa0 M.names.length cc0, .slice aa1 M.kids.length cc1], .bool true] W fun e w' => e = .returned (.bool true) /\ Ext W w') := LH (by have := ck2.out; rw [HG.out] at this; exact this)
         clear ck2
         by_cases q1 : M.kind = 9
         · have q2 := int_eq q1
           have Q1 := LH q1; clear q1
           by_cases q3 : k + 1 < kids.length
           · have q4 : (k : Int) < (kids.length : Int) - 1 := by omega
             go_wp2_with fail
             refine wp_region_quiet_below (by kernel_rfl) (by kernel_rfl) ?_
             repeat (go_big_quiet_step (exact Calls.regrown_of (CC.out _ (below_regrown _ _ _))))
             refine wpQuiet_nil ?_
             intro _ hw'
             obtain ⟨pw, hw''⟩ := hw'
             subst hw''
             have X1 := regx wr pw
             clear g0 g4 b0 b1 b2 b3 b4
             generalize hW2 : «Sort».grow (redrawn wr pw.d) pw.os = W2 at *
             clear hW2
             go_wp2_with fail
             go_ret
             exact ⟨ret_bool (Eq.symm (prB_ff fun h => ((okR_succ.1 h).2.2 k (by simp [lastN]; try omega) hkk).2 ⟨rfl, by simp only [hM.out]; exact Q1.out, by simp [lastN]; exact q3⟩)), hx.trans X1⟩
           · have HX : Hid (¬ (M.kind = 9 /\ k + 1 < kids.length)) := LH fun h => q3 h.2
             have q4 : ((k : Int) < (kids.length : Int) - 1) = False := by simp; omega
             go_wp2_with fail
             refine wp_region_quiet_below (by kernel_rfl) (by kernel_rfl) ?_
             repeat (go_big_quiet_step (exact Calls.regrown_of (CC.out _ (below_regrown _ _ _))))
             refine wpQuiet_nil ?_
             intro _ hw'
             obtain ⟨pw, hw''⟩ := hw'
             subst hw''
             have X1 := regx wr pw
             clear g0 g4 b0 b1 b2 b3 b4
             generalize hW2 : «Sort».grow (redrawn wr pw.d) pw.os = W2 at *
             clear hW2
             go_wp2_with fail
             go_roundw
             case rel => exact ⟨k + 1, by omega, by go_num, hx.trans X1, X1.cell m0, X1.cell m4, LH fun j hj hl => by
              by_cases h : j < k
              · exact hR.out j h hl
              · obtain rfl : j = k := by omega
                rw [hM.out]
                exact ⟨prB_iff.1 HG.out, HX.out⟩⟩
             case measure => simp [intOf]; omega
         · have q2 := int_ne q1
           have HX : Hid (¬ (M.kind = 9 /\ k + 1 < kids.length)) := LH fun h => q1 h.1
           clear q1
           go_wp2_with fail
           refine wp_region_quiet_below (by kernel_rfl) (by kernel_rfl) ?_
           repeat (go_big_quiet_step (exact Calls.regrown_of (CC.out _ (below_regrown _ _ _))))
           refine wpQuiet_nil ?_
           intro _ hw'
           obtain ⟨pw, hw''⟩ := hw'
           subst hw''
           have X1 := regx wr pw
           clear g0 g4 b0 b1 b2 b3 b4
           generalize hW2 : «Sort».grow (redrawn wr pw.d) pw.os = W2 at *
           clear hW2
           go_wp2_with fail
           go_roundw
           case rel => exact ⟨k + 1, by omega, by go_num, hx.trans X1, X1.cell m0, X1.cell m4, LH fun j hj hl => by
            by_cases h : j < k
            · exact hR.out j h hl
            · obtain rfl : j = k := by omega
              rw [hM.out]
              exact ⟨prB_iff.1 HG.out, HX.out⟩⟩
           case measure => simp [intOf]; omega
     · go_wp2_with fail
       go_ret
       exact ⟨ret_bool (Eq.symm (prB_tt (okR_succ.2 ⟨by rw [HN.out]; exact prB_iff.1 HNB.out, fun e => absurd e (by first | (simp; done) | exact H9.out), fun i hi hl => by
        have h3 := hR.out i (by simp [lastN] at hi; omega) hl
        exact ⟨by simpa using h3.1, fun e => h3.2 ⟨e.2.1, by simpa [lastN] using e.2.2⟩⟩⟩))), hx⟩
  have H7 := LH h7
  have H8 := LH h8
  have e7 := int_ne h7
  have e8 := int_ne h8
  clear h7 h8
  by_cases h9 : K = 9
  · cases st
    · have e9 := int_eq h9
      have H9 := LH h9; clear h9
      go_enter Tryz.func20, Tryz.ntmps20
      go_wp2_with fail
      refine (con.out _ _ (hRX.out _)).mono ?_
      rw [HNB.out]
      rintro e w1 ⟨rfl, hx1⟩
      have m0 := Ext.cell hx1 (show (w.alloc (.cells #[.int .i64 K, .string t, .int .i64 num, .slice an nm.length cn, .slice ak kids.length ck] 27)).cell? ⟨w.heap.size, 0, none⟩ = some (.int .i64 K) by simp)
      go_wp2_with fail
      go_ret
      exact ⟨ret_bool (Eq.symm (prB_ff fun h => Bool.false_ne_true ((okR_succ.1 h).2.1 H9.out))), ((XR w).alloc _).trans hx1⟩
    · have e9 := int_eq h9
      clear h9
      go_enter Tryz.func20, Tryz.ntmps20
      go_wp2_with fail
      refine (con.out _ _ (hRX.out _)).mono ?_
      rw [HNB.out]
      rintro e w1 ⟨rfl, hx1⟩
      have m0 := Ext.cell hx1 (show (w.alloc (.cells #[.int .i64 (K), .string t, .int .i64 num, .slice an nm.length cn, .slice ak kids.length ck] 27)).cell? ⟨w.heap.size, 0, none⟩ = some (.int .i64 (K)) by simp)
      have m4 := Ext.cell hx1 (show (w.alloc (.cells #[.int .i64 (K), .string t, .int .i64 num, .slice an nm.length cn, .slice ak kids.length ck] 27)).cell? ⟨w.heap.size, 4, none⟩ = some (.slice ak kids.length ck) by simp)
      have x1 := ((XR w).alloc _).trans hx1
      clear hx1
      go_wp2_with fail
      go_loopw [6] (fun iv wr => ∃ k : Nat, k <= kids.length /\ iv = .int .i64 k /\ Ext w wr /\ wr.cell? ⟨w.heap.size, 0, none⟩ = some (.int .i64 (K)) /\ wr.cell? ⟨w.heap.size, 4, none⟩ = some (.slice ak kids.length ck) /\ Hid (∀ j (hj : j < k) (hl : j < kids.length), okR n false kids[j])) (fun iv _ => kids.length - (intOf iv).toNat)
      case atStart => exact ⟨0, Nat.zero_le _, rfl, x1, m0, m4, LH fun j hj => by omega⟩
      case round =>
       clear m0 m4 x1
       obtain ⟨k, hk, rfl, hx, m0, m4, hR⟩ := hrel
       by_cases hlt : k < kids.length
       · have hkk : k < kids.length := by omega
         have h30 : (0 : Int) <= k := by omega
         have h31 : (k : Int) < (kids.length : Int) := by omega
         obtain rfl := pa (by omega)
         obtain ⟨ea, la, c1, ra⟩ := ha k kids[k] (by simp [hkk])
         obtain ⟨aa0, cc0, aa1, cc1, rfl, -, -⟩ := MExpr.op_en ra
         have a0 := hx.cell (show w.cell? ⟨ba, oa + k * 5, none⟩ = some _ from c1 0 (by omega))
         have a1 := hx.cell (show w.cell? ⟨ba, oa + k * 5 + 1, none⟩ = some _ from c1 1 (by omega))
         have a2 := hx.cell (show w.cell? ⟨ba, oa + k * 5 + 2, none⟩ = some _ from c1 2 (by omega))
         have a3 := hx.cell (show w.cell? ⟨ba, oa + k * 5 + 3, none⟩ = some _ from c1 3 (by omega))
         have a4 := hx.cell (show w.cell? ⟨ba, oa + k * 5 + 4, none⟩ = some _ from c1 4 (by omega))
         have ck2 : Hid (∀ W, Ext wr W -> Calls Tryz.prog 20 #[.agg #[.int .i64 kids[k].kind, .string kids[k].text, .int .i64 kids[k].number, .slice aa0 kids[k].names.length cc0, .slice aa1 kids[k].kids.length cc1], .bool false] W fun e w' => e = .returned (.bool (prB (okR n false kids[k]))) /\ Ext W w') := LH fun W hW => IH.out false kids[k] _ W (hs1.out _ (List.getElem_mem hkk)) (hb1.out _ (List.getElem_mem hkk)) (Rep.ext (hx.trans hW) ra)
         clear c1 la ha pa ra
         generalize hM0 : kids[k] = M at *
         have hM := LH hM0; clear hM0
         have g0 := reg (XR _) m0
         have g4 := reg (XR _) m4
         have b0 := reg (XR _) a0
         have b1 := reg (XR _) a1
         have b2 := reg (XR _) a2
         have b3 := reg (XR _) a3
         have b4 := reg (XR _) a4
         cases hg : prB (okR n false M)
         · have HG := LH hg; clear hg
           have CC : Hid (∀ W, Ext wr W -> Calls Tryz.prog 20 #[.agg #[.int .i64 M.kind, .string M.text, .int .i64 M.number, .slice aa0 M.names.length cc0, .slice aa1 M.kids.length cc1], .bool false] W fun e w' => e = .returned (.bool false) /\ Ext W w') := LH (by have := ck2.out; rw [HG.out] at this; exact this)
           clear ck2
           go_wp2_with fail
           refine wp_region_quiet_below (by kernel_rfl) (by kernel_rfl) ?_
           repeat (go_big_quiet_step (exact Calls.regrown_of (CC.out _ (below_regrown _ _ _))))
           refine wpQuiet_nil ?_
           intro _ hw'
           obtain ⟨pw, hw''⟩ := hw'
           subst hw''
           have X1 := regx wr pw
           clear g0 g4 b0 b1 b2 b3 b4
           generalize hW2 : «Sort».grow (redrawn wr pw.d) pw.os = W2 at *
           clear hW2
           go_wp2_with fail
           go_ret
           exact ⟨ret_bool (Eq.symm (prB_ff fun h => by
            have h3 := ((okR_succ.1 h).2.2 k (by simp [lastN, H7.out]; try omega) hkk).1
            simp only [decide_eq_false H8.out, hM.out] at h3
            rw [prB_tt h3] at HG; cases HG.out)), hx.trans X1⟩
         · have HG := LH hg; clear hg
           have CC : Hid (∀ W, Ext wr W -> Calls Tryz.prog 20 #[.agg #[.int .i64 M.kind, .string M.text, .int .i64 M.number, .slice aa0 M.names.length cc0, .slice aa1 M.kids.length cc1], .bool false] W fun e w' => e = .returned (.bool true) /\ Ext W w') := LH (by have := ck2.out; rw [HG.out] at this; exact this)
           clear ck2
           go_wp2_with fail
           refine wp_region_quiet_below (by kernel_rfl) (by kernel_rfl) ?_
           repeat (go_big_quiet_step (exact Calls.regrown_of (CC.out _ (below_regrown _ _ _))))
           refine wpQuiet_nil ?_
           intro _ hw'
           obtain ⟨pw, hw''⟩ := hw'
           subst hw''
           have X1 := regx wr pw
           clear g0 g4 b0 b1 b2 b3 b4
           generalize hW2 : «Sort».grow (redrawn wr pw.d) pw.os = W2 at *
           clear hW2
           go_wp2_with fail
           go_roundw
           case rel => exact ⟨k + 1, by omega, by go_num, hx.trans X1, X1.cell m0, X1.cell m4, LH fun j hj hl => by
            by_cases h : j < k
            · exact hR.out j h hl
            · obtain rfl : j = k := by omega
              rw [hM.out]
              exact prB_iff.1 HG.out⟩
           case measure => simp [intOf]; omega
       · go_wp2_with fail
         go_ret
         exact ⟨ret_bool (Eq.symm (prB_tt (okR_succ.2 ⟨by rw [HN.out]; exact prB_iff.1 HNB.out, fun _ => rfl, fun i hi hl => by
          have h3 := hR.out i (by simp [lastN, H7.out] at hi; omega) hl
          refine ⟨by simpa [decide_eq_false H8.out] using h3, fun e => ?_⟩; exact absurd e.1 (by first | (simp; done) | exact H8.out)⟩))), hx⟩
  have e9 := int_ne h9
  have H9 := LH h9; clear h9
  go_enter Tryz.func20, Tryz.ntmps20
  go_wp2_with fail
  refine (con.out _ _ (hRX.out _)).mono ?_
  rw [HNB.out]
  rintro e w1 ⟨rfl, hx1⟩
  have m0 := Ext.cell hx1 (show (w.alloc (.cells #[.int .i64 (K), .string t, .int .i64 num, .slice an nm.length cn, .slice ak kids.length ck] 27)).cell? ⟨w.heap.size, 0, none⟩ = some (.int .i64 (K)) by simp)
  have m4 := Ext.cell hx1 (show (w.alloc (.cells #[.int .i64 (K), .string t, .int .i64 num, .slice an nm.length cn, .slice ak kids.length ck] 27)).cell? ⟨w.heap.size, 4, none⟩ = some (.slice ak kids.length ck) by simp)
  have x1 := ((XR w).alloc _).trans hx1
  clear hx1
  go_wp2_with fail
  go_loopw [6] (fun iv wr => ∃ k : Nat, k <= kids.length /\ iv = .int .i64 k /\ Ext w wr /\ wr.cell? ⟨w.heap.size, 0, none⟩ = some (.int .i64 (K)) /\ wr.cell? ⟨w.heap.size, 4, none⟩ = some (.slice ak kids.length ck) /\ Hid (∀ j (hj : j < k) (hl : j < kids.length), okR n false kids[j])) (fun iv _ => kids.length - (intOf iv).toNat)
  case atStart => exact ⟨0, Nat.zero_le _, rfl, x1, m0, m4, LH fun j hj => by omega⟩
  case round =>
   clear m0 m4 x1
   obtain ⟨k, hk, rfl, hx, m0, m4, hR⟩ := hrel
   by_cases hlt : k < kids.length
   · have hkk : k < kids.length := by omega
     have h30 : (0 : Int) <= k := by omega
     have h31 : (k : Int) < (kids.length : Int) := by omega
     obtain rfl := pa (by omega)
     obtain ⟨ea, la, c1, ra⟩ := ha k kids[k] (by simp [hkk])
     obtain ⟨aa0, cc0, aa1, cc1, rfl, -, -⟩ := MExpr.op_en ra
     have a0 := hx.cell (show w.cell? ⟨ba, oa + k * 5, none⟩ = some _ from c1 0 (by omega))
     have a1 := hx.cell (show w.cell? ⟨ba, oa + k * 5 + 1, none⟩ = some _ from c1 1 (by omega))
     have a2 := hx.cell (show w.cell? ⟨ba, oa + k * 5 + 2, none⟩ = some _ from c1 2 (by omega))
     have a3 := hx.cell (show w.cell? ⟨ba, oa + k * 5 + 3, none⟩ = some _ from c1 3 (by omega))
     have a4 := hx.cell (show w.cell? ⟨ba, oa + k * 5 + 4, none⟩ = some _ from c1 4 (by omega))
     have ck2 : Hid (∀ W, Ext wr W -> Calls Tryz.prog 20 #[.agg #[.int .i64 kids[k].kind, .string kids[k].text, .int .i64 kids[k].number, .slice aa0 kids[k].names.length cc0, .slice aa1 kids[k].kids.length cc1], .bool false] W fun e w' => e = .returned (.bool (prB (okR n false kids[k]))) /\ Ext W w') := LH fun W hW => IH.out false kids[k] _ W (hs1.out _ (List.getElem_mem hkk)) (hb1.out _ (List.getElem_mem hkk)) (Rep.ext (hx.trans hW) ra)
     clear c1 la ha pa ra
     generalize hM0 : kids[k] = M at *
     have hM := LH hM0; clear hM0
     have g0 := reg (XR _) m0
     have g4 := reg (XR _) m4
     have b0 := reg (XR _) a0
     have b1 := reg (XR _) a1
     have b2 := reg (XR _) a2
     have b3 := reg (XR _) a3
     have b4 := reg (XR _) a4
     cases hg : prB (okR n false M)
     · have HG := LH hg; clear hg
       have CC : Hid (∀ W, Ext wr W -> Calls Tryz.prog 20 #[.agg #[.int .i64 M.kind, .string M.text, .int .i64 M.number, .slice aa0 M.names.length cc0, .slice aa1 M.kids.length cc1], .bool false] W fun e w' => e = .returned (.bool false) /\ Ext W w') := LH (by have := ck2.out; rw [HG.out] at this; exact this)
       clear ck2
       go_wp2_with fail
       refine wp_region_quiet_below (by kernel_rfl) (by kernel_rfl) ?_
       repeat (go_big_quiet_step (exact Calls.regrown_of (CC.out _ (below_regrown _ _ _))))
       refine wpQuiet_nil ?_
       intro _ hw'
       obtain ⟨pw, hw''⟩ := hw'
       subst hw''
       have X1 := regx wr pw
       clear g0 g4 b0 b1 b2 b3 b4
       generalize hW2 : «Sort».grow (redrawn wr pw.d) pw.os = W2 at *
       clear hW2
       go_wp2_with fail
       go_ret
       exact ⟨ret_bool (Eq.symm (prB_ff fun h => by
        have h3 := ((okR_succ.1 h).2.2 k (by simp [lastN, H7.out]; try omega) hkk).1
        simp only [decide_eq_false H8.out, hM.out] at h3
        rw [prB_tt h3] at HG; cases HG.out)), hx.trans X1⟩
     · have HG := LH hg; clear hg
       have CC : Hid (∀ W, Ext wr W -> Calls Tryz.prog 20 #[.agg #[.int .i64 M.kind, .string M.text, .int .i64 M.number, .slice aa0 M.names.length cc0, .slice aa1 M.kids.length cc1], .bool false] W fun e w' => e = .returned (.bool true) /\ Ext W w') := LH (by have := ck2.out; rw [HG.out] at this; exact this)
       clear ck2
       go_wp2_with fail
       refine wp_region_quiet_below (by kernel_rfl) (by kernel_rfl) ?_
       repeat (go_big_quiet_step (exact Calls.regrown_of (CC.out _ (below_regrown _ _ _))))
       refine wpQuiet_nil ?_
       intro _ hw'
       obtain ⟨pw, hw''⟩ := hw'
       subst hw''
       have X1 := regx wr pw
       clear g0 g4 b0 b1 b2 b3 b4
       generalize hW2 : «Sort».grow (redrawn wr pw.d) pw.os = W2 at *
       clear hW2
       go_wp2_with fail
       go_roundw
       case rel => exact ⟨k + 1, by omega, by go_num, hx.trans X1, X1.cell m0, X1.cell m4, LH fun j hj hl => by
        by_cases h : j < k
        · exact hR.out j h hl
        · obtain rfl : j = k := by omega
          rw [hM.out]
          exact prB_iff.1 HG.out⟩
       case measure => simp [intOf]; omega
   · go_wp2_with fail
     go_ret
     exact ⟨ret_bool (Eq.symm (prB_tt (okR_succ.2 ⟨by rw [HN.out]; exact prB_iff.1 HNB.out, fun e => absurd e (by first | (simp; done) | exact H9.out), fun i hi hl => by
      have h3 := hR.out i (by simp [lastN, H7.out] at hi; omega) hl
      refine ⟨by simpa [decide_eq_false H8.out] using h3, fun e => ?_⟩; exact absurd e.1 (by first | (simp; done) | exact H8.out)⟩))), hx⟩
end Go.Proofs.YtndhpbjhkgdieaaGreatDoor
