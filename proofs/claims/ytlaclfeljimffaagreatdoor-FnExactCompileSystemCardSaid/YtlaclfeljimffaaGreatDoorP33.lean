/-
  CONTRACTS: a right node of a core tree, of the reference.
  Conditions: those that each lemma states.
-/
import Derived.Test.YtlaclfeljimffaaGreatDoorRows
import Derived.Deep.AppendLies
import Derived.Deep.RegionHeld3
import Derived.Deep.DeepCutAuto
import Derived.Deep.CutBlock
import Derived.Test.YtlaclfeljimffaaGreatDoorP15
import Derived.Test.YtlaclfeljimffaaGreatDoorP30
namespace Go.Proofs.YtlaclfeljimffaaGreatDoor
open Go.RowKit
set_option maxHeartbeats 8000000
set_option maxRecDepth 100000
set_option linter.unusedSimpArgs false
set_option linter.unusedVariables false
def slD (F : Fr) : D := ints (F.map (·.2))
def paD (F : Fr) : D := ints (F.map (·.1))
def CoreAtS (n : Nat) : Prop := ∀ (z : MCore) (cz : List Value) (K : Int) (F : Fr) (vs vp : Value) (w : World), z.deep <= n -> F.length + n <= 1000 -> FrOk F -> 0 <= K -> K <= 1000 -> z.d.bulk <= 1048576 -> Rep w z.d cz -> Rep w (slD F) [vs] -> Rep w (paD F) [vp] ->
 Calls Tryz.prog 73 #[.agg cz.toArray, .int .i64 K, vs, vp] w fun e w' => e = .returned (.bool (prB (okN n K F z))) /\ Ext w w'
def kidsP (n : Nat) (K : Int) (F : Fr) (l : List MCore) : Prop := ∀ z, z ∈ l -> okN n K F z
theorem intInfo : (Tryz.prog.info? 3).map (fun i => (i.zero, i.size, i.bytes)) = some (some (.int .i64 0), 1, 8) := by kernel_rfl
theorem repR_ints_fp {w : World} : ∀ {l : List Int} {cs : List Value} {fp : List Nat}, RepR w 1 (l.map D.int) cs fp -> fp = []
 | [], cs, fp, h => by simp only [List.map_nil, RepR] at h; exact h.2
 | s :: l, cs, fp, h => by
  simp only [List.map_cons, RepR, RepF] at h
  obtain ⟨c1, c2, f1, f2, rfl, rfl, -, ⟨-, rfl⟩, h2⟩ := h
  simpa using repR_ints_fp h2
theorem RepF.ints_tail {w : World} {l : List Int} {cs : List Value} {fp : List Nat} (h : RepF w (ints l) cs fp) : fp.tail = [] := by
 obtain ⟨ao, cap, -, -, -, -, h⟩ := RepF.sl_iff.1 h
 rcases h with ⟨-, rfl⟩ | ⟨b, o, cells, fp', -, -, rfl, -, -, h5⟩
 · rfl
 · exact repR_ints_fp h5
def AccN (B0 : Nat) (w : World) (v : Value) (l : List Int) : Prop := Acc B0 w 3 1 v (l.map .int) []
theorem AccN.ext {B0 : Nat} {w w' : World} {v : Value} {l : List Int} (h : AccN B0 w v l) (hx : Ext w w') : AccN B0 w' v l := Acc.ext h hx
theorem AccN.rep {B0 : Nat} {w : World} {v : Value} {l : List Int} (h : AccN B0 w v l) : ∃ ao cap gp, v = .slice ao l.length cap /\ RepF w (ints l) [.slice ao l.length cap] gp /\ Fresh w B0 gp := by
 obtain ⟨ao, cap, gp, h1, h2, h3⟩ := Acc.rep h
 simp only [List.length_map] at h1 h2
 exact ⟨ao, cap, gp, h1, h2, h3⟩
theorem wp_append_ints {w : World} {o : Oper} {a : Act} {K : Act -> World -> Prop} {Q : Exit -> Act -> World -> Prop} (s x : Operand)
 (ho : o.op = .call { callee := .builtin .append, args := #[s, x], argTypes := #[125, 125] })
 (B0 : Nat) (v : Value) (l : List Int) (hs : a.eval s = v) (hacc : AccN B0 w v l)
 (ys : List Int) (ao : Option Addr) (m c : Nat) (hx : a.eval x = .slice ao m c) (hr : Rep w (ints ys) [.slice ao m c])
 (hlen : l.length + ys.length <= 1073741824) (hbase : B0 <= w.heap.size)
 (h : ∀ ao' cap' w', AccN B0 w' (.slice ao' (l.length + ys.length) cap') (l ++ ys) -> w.grownBy w' v.ownBlock -> K (a.put o.dst (.slice ao' (l.length + ys.length) cap')) w') : o.wp Tryz.prog a w K Q := by
 obtain ⟨i0, hi, hz0, hz1, hz2⟩ := info_parts intInfo
 obtain ⟨gp, hr⟩ := hr
 have ht := hr.ints_tail
 have hm : m = ys.length := by
  obtain ⟨_, _, h1, _⟩ := RepF.sl_iff.1 hr
  simp at h1; omega
 subst hm
 refine wp_append_acc s x 125 ho B0 3 i0 _ 1 8 Tryz.underlying125 hi hz0 hz1 hz2 rfl (by decide) v (l.map .int) [] hs hacc (ys.map .int) ao ys.length c gp hx hr (by rw [ht]; exact Fresh.nil _ _) (by rw [ht]; simp) (by simp [maxLen]; omega) (by simp; omega) hbase ?_
 intro ao' cap' w' h2 h3
 rw [ht] at h2
 simp only [List.length_map, List.append_nil, <- List.map_append] at h2 ⊢
 exact h ao' cap' w' h2 h3
theorem step_append_ints {w : World} {ops : Array Oper} {o : Oper} {a : Act} {K : Act -> World -> Prop} {Q : Exit -> Act -> World -> Prop} {E : Prop} (hgd : o.guard = none) (s x : Operand)
 (ho : o.op = .call { callee := .builtin .append, args := #[s, x], argTypes := #[125, 125] })
 (B0 : Nat) (v : Value) (l : List Int) (hs : a.eval s = v) (hacc : AccN B0 w v l)
 (ys : List Int) (ao : Option Addr) (m c : Nat) (hx : a.eval x = .slice ao m c) (hr : Rep w (ints ys) [.slice ao m c])
 (hlen : l.length + ys.length <= 1073741824) (hbase : B0 <= w.heap.size)
 (h : ∀ ao' cap' w', AccN B0 w' (.slice ao' (l.length + ys.length) cap') (l ++ ys) -> w.grownBy w' v.ownBlock -> K (a.put o.dst (.slice ao' (l.length + ys.length) cap')) w') :
 if Region.wanted o (yielded ops a.tmps) = true then Oper.wp Tryz.prog o a w K Q else E := by
 have hw : Region.wanted o (yielded ops a.tmps) = true := by simp [Region.wanted, hgd]
 rw [if_pos hw]
 exact wp_append_ints s x ho B0 v l hs hacc ys ao m c hx hr hlen hbase h
theorem AccN.below {B0 : Nat} {w0 w w' : World} {v : Value} {l : List Int} (h : AccN B0 w v l) (hb : Below B0 w0 w) (hg : w.grownBy w' v.ownBlock) (hB : B0 <= w.heap.size) : Below B0 w0 w' := Acc.below h hb hg hB
theorem AccN.ext' {B0 : Nat} {w w' : World} {v : Value} {l : List Int} (h : AccN B0 w v l) (hx : Ext w w') : AccN B0 w' v l := h.ext hx
theorem int_row (w : World) (x : Int) : Rep (w.alloc (.cells #[.int .i64 x] 3)) (ints [x]) [.slice (some ⟨w.heap.size, 0, none⟩) 1 1] := by
 refine ⟨[w.heap.size], RepF.sl_iff.2 ⟨_, 1, by simp, by simp, by unfold maxLen; omega, by simp, Or.inr ⟨w.heap.size, 0, [.int .i64 x], [], by simp, rfl, rfl, (own_new w _ _).lt, fun j c hj => ?_, RepR.one (by simp [RepF]) rfl⟩⟩⟩
 rw [Nat.zero_add, (own_new w _ _).cell]
 simpa using hj
theorem int_at {w : World} {b : Nat} {x : Int} (h : w.cell? ⟨b, 0, none⟩ = some (.int .i64 x)) : Rep w (ints [x]) [.slice (some ⟨b, 0, none⟩) 1 1] := by
 refine ⟨[b], RepF.sl_iff.2 ⟨_, 1, by simp, by simp, by unfold maxLen; omega, by simp, Or.inr ⟨b, 0, [.int .i64 x], [], by simp, rfl, rfl, lt_of_cell h, fun j c hj => ?_, RepR.one (by simp [RepF]) rfl⟩⟩⟩
 cases j with
 | zero => simp at hj; subst hj; simpa using h
 | succ j => simp at hj
theorem far_cell {W w4 : World} {B n c : Nat} {x : Int} (hg : W.grownBy w4 (Value.slice (some ⟨B, 0, none⟩) n c).ownBlock) (hz : B + 1 < W.heap.size) (h : W.cell? ⟨B + 1, 0, none⟩ = some (.int .i64 x)) : w4.cell? ⟨B + 1, 0, none⟩ = some (.int .i64 x) := by
 rw [hg.cell_far ⟨B + 1, 0, none⟩ hz (by simp [Value.ownBlock])]; exact h
theorem low_below {W w4 : World} {o : Obj} (h : Below (W.heap.size + 1) (W.alloc o) w4) : Ext W w4 := by
 have h1 : Ext W (W.alloc o) := (XR W).alloc _
 refine Below.trans h1 (Below.mono h (by omega))
theorem low_cell {W w4 : World} {x : Int} (h : Below (W.heap.size + 1) (W.alloc (.cells #[.int .i64 x] 3)) w4) (y : Int) (e : x = y := by rfl) : w4.cell? ⟨W.heap.size, 0, none⟩ = some (.int .i64 y) := by
 subst e
 rw [Below.cell h (p := ⟨W.heap.size, 0, none⟩) (by simp)]
 simp
theorem l8Kids_at (n : Nat) (IH : Hid (CoreAtS n)) (x : MCore) (cx : List Value) (K : Int) (F : Fr) (vs vp : Value) (w : World) (hk : ∀ z, z ∈ x.kids -> z.deep <= n /\ z.d.bulk <= 1048576) (hF : F.length + n <= 1000) (hFo : FrOk F) (hK0 : 0 <= K) (hK1 : K <= 1000)
 (rx : Rep w x.d cx) (rs : Rep w (slD F) [vs]) (rp : Rep w (paD F) [vp]) :
 Calls Tryz.prog 101 #[.agg cx.toArray, .int .i64 K, vs, vp] w fun e w' => e = .returned (.bool (prB (kidsP n K F x.kids))) /\ Ext w w' := by
 obtain ⟨ak, ck, rfl, rk⟩ := MCore.op_en rx
 clear rx
 have HDK := LH hk; clear hk
 have CI : Hid (∀ (z : MCore) (cz : List Value) W, z.deep <= n -> z.d.bulk <= 1048576 -> Ext w W -> Rep W z.d cz -> Calls Tryz.prog 73 #[.agg cz.toArray, .int .i64 K, vs, vp] W fun e w' => e = .returned (.bool (prB (okN n K F z))) /\ Ext W w') := LH fun z cz W h1 h2 h3 h4 => IH.out z cz K F vs vp W h1 hF hFo hK0 hK1 h2 h4 (Rep.ext h3 rs) (Rep.ext h3 rp)
 clear rs rp hFo IH
 obtain ⟨ako, cko, ba, oa, h1, hla, hma, pa, ha⟩ := Rep.slmap rk
 simp only [List.cons.injEq, and_true, Value.slice.injEq] at h1
 obtain ⟨rfl, -, rfl⟩ := h1
 unfold maxLen at hma
 clear rk
 obtain ⟨kd, t, nu, de, kids⟩ := x
 simp only at *
 go_enter Tryz.func101, Tryz.ntmps101
 go_wp2_with fail
 go_loopw [9] (fun iv wr => ∃ k : Nat, k <= kids.length /\ iv = .int .i64 k /\ Ext w wr /\ wr.cell? ⟨w.heap.size, 4, none⟩ = some (.slice ak kids.length ck) /\ Hid (∀ z, z ∈ kids.take k -> okN n K F z)) (fun iv _ => kids.length - (intOf iv).toNat)
 case atStart => exact ⟨0, Nat.zero_le _, rfl, (XR w).alloc _, by simp, LH (by simp)⟩
 case round =>
  obtain ⟨k, hk, rfl, hx, m4, hR⟩ := hrel
  by_cases hlt : k < kids.length
  rotate_left
  · have HT : Hid (kidsP n K F kids) := LH (fun z hz => hR.out z (by rw [List.take_of_length_le (by omega)]; exact hz))
    go_wp2_with fail
    go_ret
    exact ⟨ret_bool (prB_tt HT.out).symm, hx⟩
  obtain rfl := pa (by omega)
  obtain ⟨ea, la, c1, ra⟩ := ha k kids[k] (by simp [hlt])
  obtain ⟨aa0, cc0, rfl, -⟩ := MCore.op_en ra
  have a0 := hx.cell (show w.cell? ⟨ba, oa + k * 5, none⟩ = some _ from c1 0 (by omega))
  have a1 := hx.cell (show w.cell? ⟨ba, oa + k * 5 + 1, none⟩ = some _ from c1 1 (by omega))
  have a2 := hx.cell (show w.cell? ⟨ba, oa + k * 5 + 2, none⟩ = some _ from c1 2 (by omega))
  have a3 := hx.cell (show w.cell? ⟨ba, oa + k * 5 + 3, none⟩ = some _ from c1 3 (by omega))
  have a4 := hx.cell (show w.cell? ⟨ba, oa + k * 5 + 4, none⟩ = some _ from c1 4 (by omega))
  have RA := LH ra
  have hq := HDK.out _ (List.getElem_mem hlt)
  clear c1 la ha pa ra
  have CQ : Hid (∀ W, Ext w W -> Calls Tryz.prog 73 #[.agg #[.int .i64 kids[k].kind, .string kids[k].text, .int .i64 kids[k].number, .int .i64 kids[k].depth, .slice aa0 kids[k].kids.length cc0], .int .i64 K, vs, vp] W fun e w' => e = .returned (.bool (prB (okN n K F kids[k]))) /\ Ext W w') := LH fun W h => CI.out _ _ W hq.1 hq.2 h (Rep.ext h RA.out)
  cases hg : prB (okN n K F kids[k])
  · have NE : Hid (¬ kidsP n K F kids) := LH (fun h => by
     have := prB_tt (h _ (List.getElem_mem hlt))
     rw [hg] at this; cases this)
    rw [hg] at CQ
    clear hg
    go_wp2_with fail
    refine (CQ.out _ hx).mono ?_
    clear a0 a1 a2 a3 a4
    rintro e w2 ⟨rfl, hx3⟩
    go_wp2_with fail
    go_ret
    exact ⟨ret_bool (prB_ff NE.out).symm, hx.trans hx3⟩
  have HT : Hid (∀ z, z ∈ kids.take (k + 1) -> okN n K F z) := LH (fun z hz => by
   rw [List.take_succ_eq_append_getElem hlt] at hz
   rcases List.mem_append.1 hz with hz | hz
   · exact hR.out z hz
   · rw [List.mem_singleton.1 hz]; exact prB_iff.1 hg)
  rw [hg] at CQ
  clear hg
  go_wp2_with fail
  refine (CQ.out _ hx).mono ?_
  clear a0 a1 a2 a3 a4
  rintro e w2 ⟨rfl, hx3⟩
  replace m4 := Ext.cell hx3 m4
  go_wp2_with fail
  go_roundw
  case rel => exact ⟨k + 1, by omega, by go_num, hx.trans hx3, m4, HT⟩
  case measure => simp [intOf]; omega
theorem ints_open {w : World} {l : List Int} {v : Value} (h : Rep w (ints l) [v]) (h0 : l ≠ []) : ∃ b o cap, v = .slice (some ⟨b, o, none⟩) l.length cap /\ l.length <= cap /\ cap <= maxLen /\ b < w.heap.size /\ ∀ (i : Nat) s, l[i]? = some s -> w.cell? ⟨b, o + i, none⟩ = some (.int .i64 s) := by
 obtain ⟨ao, cap, b, o, h1, h2, h3, h4, h5⟩ := h.ints
 simp only [List.cons.injEq, and_true] at h1
 have hl : 0 < l.length := List.length_pos_iff.2 h0
 obtain rfl := h4 hl
 exact ⟨b, o, cap, h1, h2, h3, lt_of_cell (h5 0 l[0] (by simp [hl])), h5⟩
end Go.Proofs.YtlaclfeljimffaaGreatDoor
