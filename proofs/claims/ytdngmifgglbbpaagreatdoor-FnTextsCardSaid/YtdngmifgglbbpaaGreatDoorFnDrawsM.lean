/-
  CONTRACTS: DrawBasicMessage.
  Conditions: those that each lemma states.
-/
import Derived.Test.YtdngmifgglbbpaaGreatDoorRows
import Derived.Test.YtdngmifgglbbpaaGreatDoorFnDrawsB
import Derived.Test.YtdngmifgglbbpaaGreatDoorAcc
import Derived.Test.YtdngmifgglbbpaaGreatDoorAccAt
namespace Go.Proofs.YtdngmifgglbbpaaGreatDoor
open Go.RowKit
set_option linter.unusedSimpArgs false
set_option linter.unusedVariables false

theorem valInfo : (Tryz.prog.info? 60).map (fun i => (i.zero, i.size, i.bytes)) = some (some (.agg #[.int .i64 0, .int .i64 0, .string ByteArray.empty]), 3, 32) := by kernel_rfl
theorem repR_vals_fp {w : World} : ∀ {l : List MValue} {cs : List Value} {fp : List Nat}, RepR w 3 (l.map MValue.d) cs fp → fp = []
  | [], cs, fp, h => by simp only [List.map_nil, RepR] at h; exact h.2
  | s :: l, cs, fp, h => by
    simp only [List.map_cons, RepR] at h
    obtain ⟨c1, c2, f1, f2, rfl, rfl, -, h1, h2⟩ := h
    rw [MValue.d_eq] at h1
    simp only [RepF, RepS] at h1
    obtain ⟨_, _, g1, g2, rfl, rfl, ⟨-, rfl⟩, _, _, g3, g4, rfl, rfl, ⟨-, rfl⟩, _, _, g5, g6, rfl, rfl, ⟨-, rfl⟩, -, rfl⟩ := h1
    simpa using repR_vals_fp h2
theorem RepF.vals_tail {w : World} {l : List MValue} {cs : List Value} {fp : List Nat} (h : RepF w (MValues l) cs fp) : fp.tail = [] := by
  obtain ⟨ao, cap, -, -, -, -, h⟩ := RepF.sl_iff.1 h
  rcases h with ⟨-, rfl⟩ | ⟨b, o, cells, fp', -, -, rfl, -, -, h5⟩
  · rfl
  · exact repR_vals_fp h5
/-- Ints that a call gathers. -/
def AccV (B0 : Nat) (w : World) (v : Value) (l : List MValue) : Prop := Acc B0 w 60 3 v (l.map MValue.d) []
theorem AccV.ext {B0 : Nat} {w w' : World} {v : Value} {l : List MValue} (h : AccV B0 w v l) (hx : Ext w w') : AccV B0 w' v l := Acc.ext h hx
theorem AccV.rep {B0 : Nat} {w : World} {v : Value} {l : List MValue} (h : AccV B0 w v l) : ∃ ao cap gp, v = .slice ao l.length cap ∧ RepF w (MValues l) [.slice ao l.length cap] gp ∧ Fresh w B0 gp := by
  obtain ⟨ao, cap, gp, h1, h2, h3⟩ := Acc.rep h
  simp only [List.length_map] at h1 h2
  exact ⟨ao, cap, gp, h1, h2, h3⟩


theorem wp_append_vals {w : World} {o : Oper} {a : Act} {K : Act → World → Prop} {Q : Exit → Act → World → Prop} (s x : Operand)
    (ho : o.op = .call { callee := .builtin .append, args := #[s, x], argTypes := #[66, 66] })
    (B0 : Nat) (v : Value) (l : List MValue) (hs : a.eval s = v) (hacc : AccV B0 w v l)
    (ys : List MValue) (ao : Option Addr) (m c : Nat) (hx : a.eval x = .slice ao m c) (hr : Rep w (MValues ys) [.slice ao m c])
    (hlen : l.length + ys.length ≤ 1073741824) (hbase : B0 ≤ w.heap.size)
    (h : ∀ ao' cap' w', AccV B0 w' (.slice ao' (l.length + ys.length) cap') (l ++ ys) → w.grownBy w' v.ownBlock → K (a.put o.dst (.slice ao' (l.length + ys.length) cap')) w') : o.wp Tryz.prog a w K Q := by
  obtain ⟨i0, hi, hz0, hz1, hz2⟩ := info_parts valInfo
  obtain ⟨gp, hr⟩ := hr
  have ht := hr.vals_tail
  have hm : m = ys.length := by
    obtain ⟨_, _, h1, _⟩ := RepF.sl_iff.1 hr
    simp at h1; omega
  subst hm
  refine wp_append_acc s x 66 ho B0 60 i0 _ 3 32 Tryz.underlying66 hi hz0 hz1 hz2 rfl (by decide) v (l.map MValue.d) [] hs hacc (ys.map MValue.d) ao ys.length c gp hx hr (by rw [ht]; exact Fresh.nil _ _) (by rw [ht]; simp) (by simp [maxLen]; omega) (by simp; omega) hbase ?_
  intro ao' cap' w' h2 h3
  rw [ht] at h2
  simp only [List.length_map, List.append_nil, ← List.map_append] at h2 ⊢
  exact h ao' cap' w' h2 h3
theorem wpList_append_vals {w : World} {ops : Array Oper} {rest : List Oper} {o : Oper} {a : Act} {Q : Exit → Act → World → Prop} (hgd : o.guard = none) (s x : Operand)
    (ho : o.op = .call { callee := .builtin .append, args := #[s, x], argTypes := #[66, 66] })
    (B0 : Nat) (v : Value) (l : List MValue) (hs : a.eval s = v) (hacc : AccV B0 w v l)
    (ys : List MValue) (ao : Option Addr) (m c : Nat) (hx : a.eval x = .slice ao m c) (hr : Rep w (MValues ys) [.slice ao m c])
    (hlen : l.length + ys.length ≤ 1073741824) (hbase : B0 ≤ w.heap.size)
    (h : ∀ ao' cap' w', AccV B0 w' (.slice ao' (l.length + ys.length) cap') (l ++ ys) → w.grownBy w' v.ownBlock → wpList Tryz.prog ops Q rest (a.put o.dst (.slice ao' (l.length + ys.length) cap')) w') : wpList Tryz.prog ops Q (o :: rest) a w :=
  wpList_plain hgd fun _ hK => wp_append_vals s x ho B0 v l hs hacc ys ao m c hx hr hlen hbase fun ao' cap' w' h2 h3 => hK _ _ (h ao' cap' w' h2 h3)
theorem step_append_vals {w : World} {ops : Array Oper} {o : Oper} {a : Act} {K : Act → World → Prop} {Q : Exit → Act → World → Prop} {E : Prop} (hgd : o.guard = none) (s x : Operand)
    (ho : o.op = .call { callee := .builtin .append, args := #[s, x], argTypes := #[66, 66] })
    (B0 : Nat) (v : Value) (l : List MValue) (hs : a.eval s = v) (hacc : AccV B0 w v l)
    (ys : List MValue) (ao : Option Addr) (m c : Nat) (hx : a.eval x = .slice ao m c) (hr : Rep w (MValues ys) [.slice ao m c])
    (hlen : l.length + ys.length ≤ 1073741824) (hbase : B0 ≤ w.heap.size)
    (h : ∀ ao' cap' w', AccV B0 w' (.slice ao' (l.length + ys.length) cap') (l ++ ys) → w.grownBy w' v.ownBlock → K (a.put o.dst (.slice ao' (l.length + ys.length) cap')) w') :
    if Region.wanted o (yielded ops a.tmps) = true then Oper.wp Tryz.prog o a w K Q else E := by
  have hw : Region.wanted o (yielded ops a.tmps) = true := by simp [Region.wanted, hgd]
  rw [if_pos hw]
  exact wp_append_vals s x ho B0 v l hs hacc ys ao m c hx hr hlen hbase h
theorem AccV.below {B0 : Nat} {w0 w w' : World} {v : Value} {l : List MValue} (h : AccV B0 w v l) (hb : Below B0 w0 w) (hg : w.grownBy w' v.ownBlock) (hB : B0 ≤ w.heap.size) : Below B0 w0 w' := Acc.below h hb hg hB

theorem AccV.own {B0 : Nat} {w : World} {v : Value} {l : List MValue} (h : AccV B0 w v l) : ∀ k, v.ownBlock = some k → B0 ≤ k := fun k hk => by
  obtain ⟨xs, ⟨_, h2⟩, _⟩ := h
  rcases h2 with ⟨rfl, _⟩ | ⟨g, cap, cur, rfl, hg', _⟩
  · cases hk
  · simp [Value.ownBlock] at hk; omega
theorem AccV.touch {B0 B : Nat} {w w' : World} {v : Value} {l : List MValue} (h : AccV B0 w v l) (ht : Touch w w' [B]) (hB : B < B0) : AccV B0 w' v l := by
  obtain ⟨xs, ⟨k1, k2⟩, h2, h3, h4⟩ := h
  have hf : RepR w' 3 (l.map MValue.d) xs [] := h2.keep _ _ (by simp)
  refine ⟨xs, ⟨k1, ?_⟩, hf, Fresh.nil _ _, h4⟩
  rcases k2 with k2 | ⟨g, cap, cur, hv, hg, hh, r⟩
  · exact Or.inl k2
  · exact Or.inr ⟨g, cap, cur, hv, hg, (ht.block g (by exact (Array.getElem?_eq_some_iff.1 hh).1) (by simp; omega)).trans hh, r⟩
theorem Cur.grown {w w' : World} {B : Nat} {v : Value} {row : Option Nat} (h : Cur w B v) (hg : w.grownBy w' row) (hr : row ≠ some B) : Cur w' B v :=
  let ⟨i, q, hi, hO⟩ := h; ⟨i, q, hi, (grown_keep hg hO.lt hr).trans hO⟩
theorem Bytes.grown {w w' : World} {v : Value} {row : Option Nat} (h : Bytes w v) (hg : w.grownBy w' row) (hr : ∀ k, row = some k → Off v k) : Bytes w' v := by
  obtain ⟨ao, n, cap, rfl, hn, hc⟩ := h
  refine ⟨ao, n, cap, rfl, hn, ?_⟩
  rcases hc with rfl | ⟨a, rfl, hz⟩
  · exact Or.inl rfl
  · refine Or.inr ⟨a, rfl, fun k hk => ?_⟩
    obtain ⟨z, h1, h2⟩ := hz k hk
    have e : (a.add k).block = a.block := by unfold Addr.add; split <;> rfl
    have hb := grown_keep hg (lt_of_cell h1) (fun er => by
      have := hr _ er a n cap (by omega) rfl
      rw [e] at this; exact this rfl)
    exact ⟨z, by unfold World.cell? at h1 ⊢; rw [hb]; exact h1, h2⟩
theorem val_row (w : World) (x : MValue) : Rep (w.alloc (.cells #[.int .i64 (x).kind, .int .i64 (x).number, .string (x).text] 60)) (MValues [x]) [.slice (some ⟨w.heap.size, 0, none⟩) 1 1] := by
  refine ⟨[w.heap.size], RepF.sl_iff.2 ⟨_, 1, by simp, by simp, by unfold maxLen; omega, by simp, Or.inr ⟨w.heap.size, 0, [.int .i64 x.kind, .int .i64 x.number, .string x.text], [], by simp, rfl, rfl, (own_new w _ _).lt, fun j c hj => ?_, RepR.one (MValue.shut) rfl⟩⟩⟩
  rw [Nat.zero_add, (own_new w _ _).cell]
  simpa using hj

theorem argsB_bdD (s : ByteArray) : -1 ≤ argsB s ∧ argsB s ≤ 4 := by
  unfold argsB
  split
  · omega
  · split
    · omega
    · split
      · rename_i h
        simp only [kwB, Bool.and_eq_true, decide_eq_true_eq] at h
        omega
      · omega
theorem ciInfoD : (Tryz.prog.info? 140).map (fun i => (i.zero, i.size, i.bytes)) = some (some (.agg #[.string ByteArray.empty, .int .i64 0, .slice none 0 0]), 3, 48) := by kernel_rfl
def drSels : List ByteArray := [⟨#[43]⟩, ⟨#[45]⟩, ⟨#[42]⟩, ⟨#[47, 47]⟩, ⟨#[92, 92]⟩, ⟨#[60]⟩, ⟨#[62]⟩, ⟨#[60, 61]⟩, ⟨#[62, 61]⟩, ⟨#[109, 97, 120, 58]⟩, ⟨#[109, 105, 110, 58]⟩, ⟨#[110, 101, 103, 97, 116, 101, 100]⟩, ⟨#[97, 98, 115]⟩, ⟨#[110, 111, 116]⟩, ⟨#[38]⟩, ⟨#[115, 105, 122, 101]⟩, ⟨#[44]⟩, ⟨#[97, 116, 58]⟩, ⟨#[97, 115, 83, 121, 109, 98, 111, 108]⟩, ⟨#[97, 115, 73, 110, 116, 101, 103, 101, 114]⟩, ⟨#[97, 115, 83, 116, 114, 105, 110, 103]⟩, ⟨#[61]⟩, ⟨#[61, 61]⟩, ⟨#[126, 61]⟩, ⟨#[126, 126]⟩, ⟨#[105, 115, 78, 105, 108]⟩, ⟨#[110, 111, 116, 78, 105, 108]⟩, ⟨#[121, 111, 117, 114, 115, 101, 108, 102]⟩, ⟨#[115, 112, 101, 99, 105, 101, 115]⟩, ⟨#[112, 114, 105, 110, 116, 83, 116, 114, 105, 110, 103]⟩, ⟨#[105, 115, 75, 105, 110, 100, 79, 102, 58]⟩, ⟨#[99, 111, 112, 121]⟩, ⟨#[98, 101, 99, 111, 109, 101, 58]⟩, ⟨#[97, 116, 58, 112, 117, 116, 58]⟩, ⟨#[110, 101, 119]⟩, ⟨#[110, 101, 119, 58]⟩, ⟨#[110, 97, 109, 101]⟩, ⟨#[115, 117, 112, 101, 114, 99, 108, 97, 115, 115]⟩, ⟨#[115, 104, 111, 119, 58]⟩, ⟨#[109, 101, 115, 115, 97, 103, 101, 84, 101, 120, 116]⟩, ⟨#[109, 101, 115, 115, 97, 103, 101, 84, 101, 120, 116, 58]⟩, ⟨#[109, 105, 115, 115, 105, 110, 103]⟩, ⟨#[102, 111, 111, 58, 98, 97, 114, 58]⟩]
set_option maxHeartbeats 2000000 in
set_option maxRecDepth 100000 in
theorem l10Selector_cur (B : Nat) (v : Value) (w : World) (hC : Cur w B v) (hc : Bytes w v) (hB : Off v B) :
    Calls Tryz.prog 73 #[.pointer (some ⟨B, 0, none⟩)] w fun e w' => (∃ s, e = .returned (.string s) ∧ s.size ≤ 1000) ∧ Touch w w' [B] ∧ Cur w' B v := by
  have hx2 : Ext w (w.alloc (.cells (drSels.map Value.string).toArray 9)) := (Ext.refl w).alloc _
  have hlt := hC.lt
  go_enter Tryz.func73, Tryz.ntmps73
  go_wp2_with fail
  refine (l1Pick_cur B v drSels w.heap.size 43 _ (hC.ext hx2) (hc.ext hx2) hB (by decide) (by decide) (by omega) (lit_strs w drSels _)).mono ?_
  rintro e w2 ⟨⟨s, rfl, hs⟩, hT2, hC2⟩
  have hss : s.size ≤ 1000 := by
    have : ∀ s ∈ drSels, s.size ≤ 1000 := by decide
    exact this s hs
  clear hs
  have HT := (Touch.of_ext hx2 [B]).trans hT2
  clear hT2 hx2
  go_wp2_with fail
  go_ret
  exact ⟨⟨s, rfl, hss⟩, HT, hC2⟩

set_option maxHeartbeats 8000000 in
set_option maxRecDepth 100000 in
theorem DrawBasicMessage_any (v : Value) (w : World) (hc : Bytes w v) :
    Calls Tryz.prog 24 #[v] w fun e w' => (∃ (x : MValue) (s : ByteArray) (va : Value), e = .returned (.tuple #[.agg #[.int .i64 (x).kind, .int .i64 (x).number, .string (x).text], .string s, va]) ∧ DrawnV x) ∧ Ext w w' := by
  have hx0 : Ext w (w.alloc (.cells #[.int .i64 0, .int .i64 0, .string ByteArray.empty] 60)) := (Ext.refl w).alloc _
  have hO : Own (w.alloc (.cells #[.int .i64 0, .int .i64 0, .string ByteArray.empty] 60)) w.heap.size 60 #[.int .i64 0, .int .i64 0, .string ByteArray.empty] := own_new w _ _
  go_enter Tryz.func24, Tryz.ntmps24
  go_wp2_with fail
  refine (l1New_any v _ (hc.ext hx0)).mono ?_
  rintro e w1 ⟨B, rfl, hB, ⟨h, hOB⟩, hx1⟩
  have hC : Cur w1 B v := ⟨0, h, by omega, hOB⟩
  have hof : Off v B := off_new (hc.ext hx0) hB
  have hBw : w.heap.size < B := by
    have : (w.alloc (.cells #[.int .i64 0, .int .i64 0, .string ByteArray.empty] 60)).heap.size = w.heap.size + 1 := by simp
    omega
  replace hO := hO.ext hx1
  have hc1 := (hc.ext hx0).ext hx1
  have E1 := hx0.trans hx1
  clear hOB hB hx0 hx1 hc
  have hlt1 := hC.lt
  obtain ⟨i0, hi, hz0, hz1, hz2⟩ := info_parts ciInfoD
  go_wp2_with (at_make; refine wpList_make_full _ rfl _ _ 33 rfl w1.heap.size 140 i0 _ 3 Tryz.underlying33 hi hz0 hz1 .i64 .i64 _ _ 16 rfl rfl rfl rfl ?c1 ?c2 ?c3 ?_)
  case c1 => rw [hz2]; omega
  case c2 => unfold maxLen; omega
  case c3 => exact Nat.le_refl _
  intro wm hown hgrow
  have hxm : Ext w1 wm := (Ext.refl w1).grown hgrow (Nat.le_refl _) (by simp)
  have hsm := hxm.size
  clear hown hgrow hi hz0 hz1 hz2
  go_wp2_with fail
  generalize hS : World.alloc wm _ = w2
  have hx2 : Ext w1 w2 := by rw [← hS]; exact hxm.alloc _
  have s0 : w2.cell? ⟨wm.heap.size, 0, none⟩ = some (.slice (some ⟨w1.heap.size, 0, none⟩) 16 16) := by rw [← hS]; simp
  have s1 : w2.cell? ⟨wm.heap.size, 1, none⟩ = some (.slice none 0 0) := by rw [← hS]; simp
  clear hS hxm
  refine (l9SomeValue_cur B v wm.heap.size _ 16 none 0 w2 (hC.ext hx2) (hc1.ext hx2) hof s0 s1 (by omega)).mono ?_
  rintro e w3 ⟨⟨x, rfl, hx⟩, hT3, hC3⟩
  have HX := Lib.hid hx; clear hx
  replace hO := (hO.ext hx2).touch hT3 (by simp; omega)
  replace s0 := hT3.cell (by simp; omega) s0
  replace s1 := hT3.cell (by simp; omega) s1
  have hc3 := (hc1.ext hx2).touch hT3 hof
  have E3 : Ext w w3 := hT3.ext (E1.trans hx2) (by simp; omega)
  have hlt3 := hC3.lt
  clear hC hc1 hT3 hx2
  go_wp2_with fail
  have hx4 : Ext w3 (w3.alloc (.cells #[.int .i64 (x).kind, .int .i64 (x).number, .string (x).text] 60)) := (Ext.refl w3).alloc _
  refine (l10Selector_cur B v _ (hC3.ext hx4) (hc3.ext hx4) hof).mono ?_
  rintro e w5 ⟨⟨s, rfl, hs⟩, hT5, hC5⟩
  have q0 : w5.cell? ⟨w3.heap.size, 0, none⟩ = some (.int .i64 x.kind) := hT5.cell (by simp; omega) (by simp)
  have q1 : w5.cell? ⟨w3.heap.size, 1, none⟩ = some (.int .i64 x.number) := hT5.cell (by simp; omega) (by simp)
  have q2 : w5.cell? ⟨w3.heap.size, 2, none⟩ = some (.string x.text) := hT5.cell (by simp; omega) (by simp)
  replace hO := (hO.ext hx4).touch hT5 (by simp; omega)
  replace s0 := hT5.cell (by simp; omega) (hx4.cell s0)
  replace s1 := hT5.cell (by simp; omega) (hx4.cell s1)
  have hc5 := (hc3.ext hx4).touch hT5 hof
  have E5 : Ext w w5 := hT5.ext (E3.trans hx4) (by simp; omega)
  have hlt5 := hC5.lt
  clear hC3 hc3 hT5 hx4 E3
  have hab := argsB_bdD s
  go_wp2_with fail
  have hA : AccV w5.heap.size (w5.alloc (.cells #[] 60)) (.slice (some ⟨w5.heap.size, 0, none⟩) 0 0) [] := Acc.empty _ _ (Nat.le_refl _)
  have hx6 : Ext w5 (w5.alloc (.cells #[] 60)) := (Ext.refl w5).alloc _
  generalize hS6 : w5.alloc (.cells #[] 60) = w6 at *
  clear hS6
  go_loopw [9, 10] (fun sv iv wr => ∃ (i : Nat) (l : List MValue), i ≤ 5 ∧ iv = .int .i64 i ∧ l.length = i ∧ AccV w5.heap.size wr sv l ∧ Touch w5 wr [B] ∧ Cur wr B v) (fun _ iv _ => 5 - (intOf iv).toNat)
  case atStart => exact ⟨0, [], by omega, rfl, rfl, hA, Touch.of_ext hx6 _, hC5.ext hx6⟩
  case round =>
    obtain ⟨i, l, hi, rfl, hl, hA2, hT, hC⟩ := hrel
    clear hA hx6 hC5
    go_wp2_with fail
    refine (spec_CountArgs_any s _ (by omega)).mono ?_
    rintro e wa ⟨rfl, hxa⟩
    replace hA2 := hA2.ext hxa
    replace hT := hT.trans (Touch.of_ext hxa _)
    replace hC := hC.ext hxa
    clear hxa
    have hca := hc5.touch hT hof
    have t0 := hT.cell (by simp; omega) s0
    have t1 := hT.cell (by simp; omega) s1
    by_cases hlt : (i : Int) < argsB s
    · go_wp2_with fail
      refine (l9SomeValue_cur B v wm.heap.size _ 16 none 0 wa hC hca hof t0 t1 (by omega)).mono ?_
      rintro e wb ⟨⟨y, rfl, -⟩, hTb, hCb⟩
      replace hA2 := hA2.touch hTb hlt5
      replace hT := hT.trans hTb
      clear hC
      have hC := hCb
      clear hCb hTb hca t0 t1
      have hxy : Ext wb (wb.alloc (.cells #[.int .i64 (y).kind, .int .i64 (y).number, .string (y).text] 60)) := (Ext.refl wb).alloc _
      replace hA2 := hA2.ext hxy
      replace hT := hT.trans (Touch.of_ext hxy _)
      replace hC := hC.ext hxy
      clear hxy
      have hz := hT.size
      have HR := val_row wb (y)
      go_wp2_with (at_builtin; (refine wpList_append_vals rfl _ _ rfl w5.heap.size _ l rfl hA2 [y] _ 1 1 rfl HR (by simp; omega) hz ?_; intro a7 c7 w7 ac7 hg7; have hown := hA2.own; have hT7 : Touch w5 w7 [B] := hT.grown hg7 (fun k hk => Or.inr (hown k hk)); have hC7 : Cur w7 B v := hC.grown hg7 (fun e => by have := hown _ e; omega); clear hA2 hT hC HR hg7 hown))
      go_roundw
      case rel => exact ⟨i + 1, l ++ [y], by omega, by go_num, by simp; omega, (by have h := ac7; rw [hl] at h; exact h), hT7, hC7⟩
      case measure => simp [intOf]; omega
    go_wp2_with fail
    refine (l1Once_cur B v 14 wa hC hca hof (by omega) (by omega)).mono ?_
    rintro e wb ⟨⟨c, rfl⟩, hTb, hCb⟩
    replace hA2 := hA2.touch hTb hlt5
    replace hT := hT.trans hTb
    clear hC
    have hC := hCb
    clear hCb hTb hca t0 t1
    cases c
    · have hO7 := hO.touch hT (by simp; omega)
      have p0 := hT.cell (by simp; omega) q0
      have p1 := hT.cell (by simp; omega) q1
      have p2 := hT.cell (by simp; omega) q2
      have R0 := hO7.cell 0
      have R1 := hO7.cell 1
      have R2 := hO7.cell 2
      simp at R0 R1 R2
      have F0 := hO7.frozen 0
      have F1 := hO7.frozen 1
      have F2 := hO7.frozen 2
      have R5 := hO7.lt
      have EF : Ext w wb := hT.ext E5 (by simp; omega)
      go_wp2_with fail
      refine bodyPost_ret (v := .tuple #[.agg #[.int .i64 (x).kind, .int .i64 (x).number, .string (x).text], .string s, _]) (by simp [results, Tryz.results24, go_sem, R0, R1, R2]; rfl) rfl ⟨⟨x, s, _, rfl, HX.out⟩, ?_⟩
      (repeat refine Ext.setCell ?_ (Nat.le_refl _) _)
      exact EF
    · go_wp2_with fail
      refine (l9Int_any 1 _).mono ?_
      rintro e wd ⟨rfl, hxd⟩
      replace hA2 := hA2.ext hxd
      replace hT := hT.trans (Touch.of_ext hxd _)
      replace hC := hC.ext hxd
      clear hxd
      have hxy : Ext wd (wd.alloc (.cells #[.int .i64 (intV 1).kind, .int .i64 (intV 1).number, .string (intV 1).text] 60)) := (Ext.refl wd).alloc _
      replace hA2 := hA2.ext hxy
      replace hT := hT.trans (Touch.of_ext hxy _)
      replace hC := hC.ext hxy
      clear hxy
      have hz := hT.size
      have HR := val_row wd (intV 1)
      go_wp2_with (at_builtin; (refine wpList_append_vals rfl _ _ rfl w5.heap.size _ l rfl hA2 [intV 1] _ 1 1 rfl HR (by simp; omega) hz ?_; intro a7 c7 w7 ac7 hg7; have hown := hA2.own; have hT7 : Touch w5 w7 [B] := hT.grown hg7 (fun k hk => Or.inr (hown k hk)); have hC7 : Cur w7 B v := hC.grown hg7 (fun e => by have := hown _ e; omega); clear hA2 hT hC HR hg7 hown; have hO7 := hO.touch hT7 (by simp; omega); have p0 := hT7.cell (by simp; omega) q0; have p1 := hT7.cell (by simp; omega) q1; have p2 := hT7.cell (by simp; omega) q2; have R0 := hO7.cell 0; have R1 := hO7.cell 1; have R2 := hO7.cell 2; simp at R0 R1 R2; have F0 := hO7.frozen 0; have F1 := hO7.frozen 1; have F2 := hO7.frozen 2; have R5 := hO7.lt; have EF : Ext w w7 := hT7.ext E5 (by simp; omega)))
      refine bodyPost_ret (v := .tuple #[.agg #[.int .i64 (x).kind, .int .i64 (x).number, .string (x).text], .string s, _]) (by simp [results, Tryz.results24, go_sem, R0, R1, R2]; rfl) rfl ⟨⟨x, s, _, rfl, HX.out⟩, ?_⟩
      (repeat refine Ext.setCell ?_ (Nat.le_refl _) _)
      exact EF

end Go.Proofs.YtdngmifgglbbpaaGreatDoor
