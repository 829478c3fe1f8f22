/-
  CONTRACTS: EqualExprs, of the program and of the reference.
  Conditions: those that each lemma states.
-/
import Derived.Test.YtndhpbjhkgdieaaGreatDoorRows
import Derived.Test.YtndhpbjhkgdieaaGreatDoorP36
namespace Go.Proofs.YtndhpbjhkgdieaaGreatDoor
open Go.RowKit
set_option maxHeartbeats 8000000
set_option maxRecDepth 100000
set_option linter.unusedSimpArgs false
set_option linter.unusedVariables false
theorem eqFuncExpr_of (n : Nat) (ih : Hid (∀ (x y : MExpr) (cx cy : List Value) (w : World), SizeOf.sizeOf x < n -> Rep w x.d cx -> Rep w y.d cy -> Calls Tryz.prog 11 #[.agg cx.toArray, .agg cy.toArray] w fun e w' => e = .returned (.bool (eqB x y)) /\ Ext w w'))
 (a b : List MExpr) (va vb : Value) (w : World) (hn : Hid (∀ x, x ∈ a -> SizeOf.sizeOf x < n)) (ra : Rep w (MExprs a) [va]) (rb : Rep w (MExprs b) [vb]) :
 Calls Tryz.prog 27 #[va, vb, .func (.func 11) #[] #[]] w fun e w' => e = .returned (.bool (eqB a b)) /\ Ext w w' := by
 obtain ⟨ao, ca, ba, oa, h1, hla, hma, pa, ha⟩ := Rep.slmap ra
 obtain ⟨bo, cb, bb, ob, h2, hlb, hmb, pb, hb⟩ := Rep.slmap rb
 simp only [List.cons.injEq, and_true] at h1 h2
 subst h1 h2
 clear ra rb
 unfold maxLen at hma hmb
 go_enter Tryz.func27, Tryz.ntmps27
 by_cases hlen : a.length = b.length
 · have hne : ((a.length : Int) != (b.length : Int)) = false := by simp [hlen]
   have HL := LH hlen; clear hlen
   go_wp2_with fail
   go_loopw [17] (fun i wr => ∃ k : Nat, k <= a.length /\ i = .int .i64 k /\ Ext w wr /\ Hid (∀ j, j < k -> a[j]? = b[j]?)) (fun i _ => a.length - (intOf i).toNat)
   case atStart => exact ⟨0, Nat.zero_le _, rfl, XR _, fun j hj => by omega⟩
   case round =>
    obtain ⟨k, hk, rfl, hx, heq⟩ := hrel
    by_cases hlt : k < a.length
    · have hltb : k < b.length := by have := HL.out; omega
      obtain rfl := pa (by omega)
      obtain rfl := pb (by omega)
      obtain ⟨ea, la, c1, ra⟩ := ha k a[k] (by simp [hlt])
      obtain ⟨aa0, cc0, aa1, cc1, rfl, -, -⟩ := MExpr.op_en ra
      obtain ⟨eb, lb, c2, rb⟩ := hb k b[k] (by simp [hltb])
      obtain ⟨ba0, bc0, ba1, bc1, rfl, -, -⟩ := MExpr.op_en rb
      have a0 := hx.cell (show w.cell? ⟨ba, oa + k * 5, none⟩ = some _ from c1 0 (by omega))
      have a1 := hx.cell (show w.cell? ⟨ba, oa + k * 5 + 1, none⟩ = some _ from c1 1 (by omega))
      have a2 := hx.cell (show w.cell? ⟨ba, oa + k * 5 + 2, none⟩ = some _ from c1 2 (by omega))
      have a3 := hx.cell (show w.cell? ⟨ba, oa + k * 5 + 3, none⟩ = some _ from c1 3 (by omega))
      have a4 := hx.cell (show w.cell? ⟨ba, oa + k * 5 + 4, none⟩ = some _ from c1 4 (by omega))
      have b0 := hx.cell (show w.cell? ⟨bb, ob + k * 5, none⟩ = some _ from c2 0 (by omega))
      have b1 := hx.cell (show w.cell? ⟨bb, ob + k * 5 + 1, none⟩ = some _ from c2 1 (by omega))
      have b2 := hx.cell (show w.cell? ⟨bb, ob + k * 5 + 2, none⟩ = some _ from c2 2 (by omega))
      have b3 := hx.cell (show w.cell? ⟨bb, ob + k * 5 + 3, none⟩ = some _ from c2 3 (by omega))
      have b4 := hx.cell (show w.cell? ⟨bb, ob + k * 5 + 4, none⟩ = some _ from c2 4 (by omega))
      have zb : bb < wr.heap.size := lt_of_cell b0
      have za : ba < wr.heap.size := lt_of_cell a0
      clear c1 la c2 lb ha hb pa pb
      by_cases hs : a[k] = b[k]
      · have ht := eqB_tt hs
        have HS := LH hs; clear hs
        go_wp2_with fail
        refine (ih.out a[k] b[k] _ _ _ (hn.out _ (List.getElem_mem hlt)) (Rep.ext ((hx.alloc _).alloc _) ra) (Rep.ext ((hx.alloc _).alloc _) rb)).mono ?_
        clear a0 a1 a2 a3 a4 b0 b1 b2 b3 b4
        rintro e w2 ⟨rfl, hx2⟩
        go_wp2_with fail
        go_roundw
        case rel => exact ⟨k + 1, by omega, by go_num, ((hx.alloc _).alloc _).trans hx2, fun j hj => by
         by_cases h : j < k
         · exact heq.out j h
         · obtain rfl : j = k := by omega
           simp [hlt, hltb, HS.out]⟩
        case measure => simp [intOf]; omega
      · have ht := eqB_ff hs
        have HS := LH hs; clear hs
        go_wp2_with fail
        refine (ih.out a[k] b[k] _ _ _ (hn.out _ (List.getElem_mem hlt)) (Rep.ext ((hx.alloc _).alloc _) ra) (Rep.ext ((hx.alloc _).alloc _) rb)).mono ?_
        clear a0 a1 a2 a3 a4 b0 b1 b2 b3 b4
        rintro e w2 ⟨rfl, hx2⟩
        go_wp2_with fail
        go_ret
        exact ⟨ret_ff fun h => HS.out (by subst h; rfl), ((hx.alloc _).alloc _).trans hx2⟩
    · go_wp2_with fail
      go_ret
      have hl := HL.out
      obtain rfl : k = a.length := by omega
      refine ⟨ret_tt ?_, hx⟩
      exact List.ext_getElem? fun j => by
       by_cases hj : j < a.length
       · exact heq.out j hj
       · simp [List.getElem?_eq_none_iff.2 (show a.length <= j by omega), List.getElem?_eq_none_iff.2 (show b.length <= j by omega)]
 · have hne : ((a.length : Int) != (b.length : Int)) = true := by simp; omega
   have HL := LH hlen; clear hlen
   go_wp2_with fail
   go_ret
   exact ⟨ret_ff fun h => HL.out (by rw [h]), XR _⟩
theorem impl_EqualExprs_lt : ∀ (n : Nat) (x y : MExpr) (cx cy : List Value) (w : World), SizeOf.sizeOf x < n -> Rep w x.d cx -> Rep w y.d cy ->
 Calls Tryz.prog 11 #[.agg cx.toArray, .agg cy.toArray] w fun e w' => e = .returned (.bool (eqB x y)) /\ Ext w w' := by
 intro n
 induction n with
 | zero => intro x y cx cy w h; omega
 | succ n ih =>
 intro x y cx cy w hn rx ry
 obtain ⟨anx, cnx, ax, cpx, rfl, nx, sx⟩ := MExpr.op_en rx
 obtain ⟨any, cny, ay, cpy, rfl, ny, sy⟩ := MExpr.op_en ry
 have hk : Hid (∀ z, z ∈ x.kids -> SizeOf.sizeOf z < n) := LH fun z hz => by have := MExpr.kid_lt hz; omega
 clear rx ry hn
 have IH := LH ih; clear ih
 obtain ⟨x1, x2, x3, x4, a⟩ := x
 obtain ⟨y1, y2, y3, y4, b⟩ := y
 dsimp only at sx sy nx ny hk
 go_enter Tryz.func11, Tryz.ntmps11
 by_cases h : x1 = y1
 rotate_left
 · have t := int_ne h
   have H := LH h; clear h
   go_wp2_with fail
   go_ret
   exact ⟨ret_ff fun e => H.out (by injection e), ((XR w).alloc _).alloc _⟩
 have t1 := int_eq h
 have H1 := LH h; clear h
 by_cases h : x2 = y2
 rotate_left
 · have t := str_ne h
   have H := LH h; clear h
   go_wp2_with fail
   go_ret
   exact ⟨ret_ff fun e => H.out (by injection e), ((XR w).alloc _).alloc _⟩
 have t2 := str_eq h
 have H2 := LH h; clear h
 by_cases h : x3 = y3
 rotate_left
 · have t := int_ne h
   have H := LH h; clear h
   go_wp2_with fail
   go_ret
   exact ⟨ret_ff fun e => H.out (by injection e), ((XR w).alloc _).alloc _⟩
 have t3 := int_eq h
 have H3 := LH h; clear h
 by_cases h : x4 = y4
 rotate_left
 · have t := eqB_ff h
   have H := LH h; clear h
   go_wp2_with fail
   refine (slEqStr_any _ _ _ _ _ (Rep.ext (((XR w).alloc _).alloc _) nx) (Rep.ext (((XR w).alloc _).alloc _) ny)).mono ?_
   rintro e w1 ⟨rfl, hx1⟩
   go_wp2_with fail
   go_ret
   exact ⟨ret_ff fun e => H.out (by injection e), (((XR w).alloc _).alloc _).trans hx1⟩
 have t4 := eqB_tt h
 have H4 := LH h; clear h
 go_wp2_with fail
 refine (slEqStr_any _ _ _ _ _ (Rep.ext (((XR w).alloc _).alloc _) nx) (Rep.ext (((XR w).alloc _).alloc _) ny)).mono ?_
 rintro e w1 ⟨rfl, hx1⟩
 have m0 : w1.cell? ⟨w.heap.size, 4, none⟩ = some (.slice ax a.length cpx) := Ext.cell hx1 (by simp)
 have m1 : w1.cell? ⟨w.heap.size + 1, 4, none⟩ = some (.slice ay b.length cpy) := Ext.cell hx1 (by simp)
 have e1 := (((XR w).alloc _).alloc _).trans hx1
 go_wp2_with fail
 refine (eqFuncExpr_of n IH a b _ _ w1 hk (Rep.ext e1 sx) (Rep.ext e1 sy)).mono ?_
 rintro e w2 ⟨rfl, hx2⟩
 go_wp2_with fail
 go_ret
 refine ⟨ret_bool ?_, e1.trans hx2⟩
 have : eqB (MExpr.mk x1 x2 x3 x4 a) (MExpr.mk y1 y2 y3 y4 b) = eqB a b := by
  rw [Bool.eq_iff_iff, eqB_iff, eqB_iff]
  simp only [MExpr.mk.injEq]
  exact ⟨fun h => h.2.2.2.2, fun h => ⟨H1.out, H2.out, H3.out, H4.out, h⟩⟩
 exact this.symm
theorem impl_EqualExprs_any (x y : MExpr) (cx cy : List Value) (w : World) (rx : Rep w x.d cx) (ry : Rep w y.d cy) :
 Calls Tryz.prog 11 #[.agg cx.toArray, .agg cy.toArray] w fun e w' => e = .returned (.bool (eqB x y)) /\ Ext w w' := impl_EqualExprs_lt _ x y cx cy w (Nat.lt_succ_self _) rx ry
end Go.Proofs.YtndhpbjhkgdieaaGreatDoor
