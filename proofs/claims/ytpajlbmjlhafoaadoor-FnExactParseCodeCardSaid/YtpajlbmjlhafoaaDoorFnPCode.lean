/-
  CONTRACTS: ParseCode, of the program and of the reference.
  Conditions: those that each lemma states.
-/
import Derived.Test.YtpajlbmjlhafoaaDoorRows
import Derived.Test.YtpajlbmjlhafoaaDoorCodeP
import Derived.Test.YtpajlbmjlhafoaaDoorFnPInstI
import Derived.Test.YtpajlbmjlhafoaaDoorMarkInstr
import Derived.Test.YtpajlbmjlhafoaaDoorAcc
import Derived.Deep.AppendLies
namespace Go.Proofs.YtpajlbmjlhafoaaDoor
open Go.RowKit
set_option linter.unusedSimpArgs false
set_option linter.unusedVariables false

theorem insInfo : (Tryd.prog.info? 60).map (fun i => (i.zero, i.size, i.bytes)) = some (some (.agg #[.int .i64 0, .int .i64 0, .int .i64 0, .string ByteArray.empty]), 4, 40) := by kernel_rfl
/-- Instructions that a call gathers. -/
def AccI (B0 : Nat) (w : World) (v : Value) (l : List MInstr) : Prop := Acc B0 w 60 4 v (l.map MInstr.d) []
theorem AccI.ext {B0 : Nat} {w w' : World} {v : Value} {l : List MInstr} (h : AccI B0 w v l) (hx : Ext w w') : AccI B0 w' v l := Acc.ext h hx
theorem AccI.rep {B0 : Nat} {w : World} {v : Value} {l : List MInstr} (h : AccI B0 w v l) : ∃ ao cap gp, v = .slice ao l.length cap ∧ RepF w (MInstrs l) [.slice ao l.length cap] gp ∧ Fresh w B0 gp := by
  obtain ⟨ao, cap, gp, h1, h2, h3⟩ := Acc.rep h
  simp only [List.length_map] at h1 h2
  exact ⟨ao, cap, gp, h1, h2, h3⟩
theorem AccI.below {B0 : Nat} {w0 w w' : World} {v : Value} {l : List MInstr} (h : AccI B0 w v l) (hb : Below B0 w0 w) (hg : w.grownBy w' v.ownBlock) (hB : B0 ≤ w.heap.size) : Below B0 w0 w' := Acc.below h hb hg hB
theorem RepF.ins_row {w : World} {b : Nat} {x : MInstr} (hb : b < w.heap.size) (h0 : w.cell? ⟨b, 0, none⟩ = some (.int .i64 x.op)) (h1 : w.cell? ⟨b, 1, none⟩ = some (.int .i64 x.a)) (h2 : w.cell? ⟨b, 2, none⟩ = some (.int .i64 x.b)) (h3 : w.cell? ⟨b, 3, none⟩ = some (.string x.text)) :
    RepF w (MInstrs [x]) [.slice (some ⟨b, 0, none⟩) 1 1] [b] := by
  refine RepF.sl_iff.2 ⟨_, 1, by simp, by simp, by unfold maxLen; omega, by simp, Or.inr ⟨b, 0, icells [x], [], by simp, rfl, rfl, hb, fun j c hj => ?_, repR_ins w [x]⟩⟩
  rw [Nat.zero_add]
  match j with
  | 0 => simp [icells] at hj; rw [h0, hj]
  | 1 => simp [icells] at hj; rw [h1, hj]
  | 2 => simp [icells] at hj; rw [h2, hj]
  | 3 => simp [icells] at hj; rw [h3, hj]
  | j + 4 => simp [icells] at hj
theorem wpList_append_ins {w : World} {ops : Array Oper} {rest : List Oper} {o : Oper} {a : Act} {Q : Exit → Act → World → Prop} (hgd : o.guard = none) (s y : Operand)
    (ho : o.op = .call { callee := .builtin .append, args := #[s, y], argTypes := #[37, 37] })
    (B0 : Nat) (v : Value) (l : List MInstr) (hs : a.eval s = v) (hacc : AccI B0 w v l)
    (x : MInstr) (b : Nat) (hx : a.eval y = .slice (some ⟨b, 0, none⟩) 1 1) (hr : RepF w (MInstrs [x]) [.slice (some ⟨b, 0, none⟩) 1 1] [b])
    (hlen : l.length ≤ 1073741824) (hbase : B0 ≤ w.heap.size)
    (h : ∀ ao' cap' w', AccI B0 w' (.slice ao' (l.length + 1) cap') (l ++ [x]) → w.grownBy w' v.ownBlock → wpList Tryd.prog ops Q rest (a.put o.dst (.slice ao' (l.length + 1) cap')) w') : wpList Tryd.prog ops Q (o :: rest) a w := by
  obtain ⟨i0, hi, hz0, hz1, hz2⟩ := info_parts insInfo
  refine wpList_append_acc hgd s y 37 ho B0 60 i0 _ 4 40 Tryd.underlying37 hi hz0 hz1 hz2 rfl (by decide) v (l.map MInstr.d) [] hs hacc ([x].map MInstr.d) _ 1 1 [b] hx hr (Fresh.nil _ _) (by simp) (by simp [maxLen]; omega) (by simp; omega) hbase ?_
  intro ao' cap' w' h2 h3
  simp only [List.length_map, List.append_nil, List.tail_cons, ← List.map_append] at h2 ⊢
  exact h ao' cap' w' h2 h3
theorem AccI.own_ge {B0 : Nat} {w : World} {v : Value} {l : List MInstr} (h : AccI B0 w v l) (k : Nat) (hk : v.ownBlock = some k) : B0 ≤ k := by
  obtain ⟨xs, ⟨_, h2⟩, _⟩ := h
  rcases h2 with ⟨rfl, _⟩ | ⟨g, cap, cur, rfl, hg', _⟩
  · cases hk
  · simp [Value.ownBlock] at hk; omega
theorem AccI.low {B0 : Nat} {w : World} {v : Value} {l : List MInstr} (h : AccI B0 w v l) {X o : Nat} (hX : X < B0) (u : Value) : AccI B0 (w.setCell ⟨X, o, none⟩ u) v l := by
  obtain ⟨xs, ⟨k1, k2⟩, h2, h3, h4⟩ := h
  refine ⟨xs, ⟨k1, ?_⟩, RepR.keep _ _ (fun k hk => by simp at hk) h2, Fresh.nil _ _, h4⟩
  rcases k2 with k2 | ⟨g, cap, cur, hv, hg, hh, r⟩
  · exact Or.inl k2
  · exact Or.inr ⟨g, cap, cur, hv, hg, (heap_setCell_other w ⟨X, o, none⟩ g u (show g ≠ X by omega)).trans hh, r⟩
theorem Own.grown {w w' : World} {row : Option Nat} {B : Nat} {e : TypeId} {C : Array Value} (h : Own w B e C) (hg : w.grownBy w' row) (hr : row ≠ Option.some B) : Own w' B e C := (grown_keep hg h.lt hr).trans h
theorem Own.val {w : World} {B : Nat} {e : TypeId} {C : Array Value} (h : Own w B e C) (j : Nat) (v : Value) (hv : C[j]? = Option.some v) : w.cell? ⟨B, j, none⟩ = Option.some v := by rw [h.cell]; exact hv
theorem len3 {α : Type} {l : List α} (h : l.length = 3) : ∃ a b c, l = [a, b, c] := by
  match l, h with
  | [a, b, c], _ => exact ⟨a, b, c, rfl⟩
theorem code_zero (w : World) : Rep w zeroC.d [.bool false, .int .i64 0, .int .i64 0, .slice none 0 0] := by
  have h := MCode.shut (w := w) (x := zeroC) (v_instrs := .slice none 0 0) (f_instrs := []) (RepF.sl_iff.2 ⟨_, _, rfl, by simp [zeroC], by simp, by simp, Or.inl ⟨rfl, rfl⟩⟩)
  exact h.rep
theorem split_gives (s : ByteArray) (c : UInt8) (w : World) (hs : s.size ≤ 1048576) (hm : MaxOk w) : Calls Tryd.prog 32 #[.string s, .string (oneB c)] w (GivesV w (strs (cutB c s))) :=
  (strings_Split_one s c w hs hm).mono fun e w' h => by
    obtain ⟨rfl, rfl⟩ := h
    exact gives_strs w (cutB c s) 9 (by have := cutB_le c s; simp only [maxLen]; omega) (fun h => by have := cutB_length c s; rw [h] at this; simp at this)
theorem code_nil (w : World) (b : Bool) (p s : Int) : RepF w (MCode.mk b p s []).d [.bool b, .int .i64 p, .int .i64 s, .slice none 0 0] [] := by
  have h := MCode.shut (w := w) (x := ⟨b, p, s, []⟩) (v_instrs := .slice none 0 0) (f_instrs := []) (RepF.sl_iff.2 ⟨_, _, rfl, by simp, by simp, by simp, Or.inl ⟨rfl, rfl⟩⟩)
  exact h
theorem gives_noC {w w' : World} {L : List ByteArray} (h : ¬ ∃ y, OkC L y) (hx : Ext w w') : GivesC w L (.returned (.tuple #[.agg #[.bool false, .int .i64 0, .int .i64 0, .slice none 0 0], .bool false])) w' :=
  ⟨zeroC, false, none, 0, [], rfl, RepF.sl_iff.2 ⟨_, _, rfl, by simp [zeroC], by simp, by simp, Or.inl ⟨rfl, rfl⟩⟩, Fresh.nil _ _, (fun h => by cases h), fun _ => ⟨rfl, h⟩, hx⟩

set_option maxRecDepth 100000 in
set_option maxHeartbeats 16000000 in
theorem spec_ParseCode_any (L : List ByteArray) (va : Value) (w : World) (ra : Rep w (strs L) [va]) (hb : (strs L).bulk ≤ 1048576) :
    Calls Tryd.prog 11 #[va] w (GivesC w L) := by
  obtain ⟨ao, ca, ba, oa, h1, hla, hma, pa, ha⟩ := ra.strs
  simp only [List.cons.injEq, and_true] at h1
  subst h1
  have RA := Lib.hid ra; clear ra
  unfold maxLen at hma
  by_cases hL : 0 < L.length
  rotate_left
  · have NO : Hid (¬ ∃ y, OkC L y) := Lib.hid (by
      rintro ⟨y, h, t, rfl, -⟩
      simp at hL)
    have q0 : ((L.length : Int) == 0) = true := int_eq (by omega)
    clear ha pa
    go_enter Tryd.func11, Tryd.ntmps11
    go_wp2_with fail
    refine bodyPost_ret (v := .tuple #[.agg #[.bool false, .int .i64 0, .int .i64 0, .slice none 0 0], .bool false]) (by simp [results, Tryd.results11, go_sem]) rfl (gives_noC NO.out ?_)
    (repeat refine Ext.setCell ?_ (by simp) _)
    exact (Ext.refl w).alloc _
  obtain rfl := pa hL
  obtain ⟨hd, hhd⟩ : ∃ h, h = L[0] := ⟨_, rfl⟩
  have HL : Hid (L = hd :: L.tail) := Lib.hid (by rw [hhd]; cases L with | nil => simp at hL | cons a b => rfl)
  have HB := Lib.hid hb
  have hds : hd.size ≤ 1048576 := by
    have := D.bulkL_mem (List.mem_map_of_mem (f := D.str) (show hd ∈ L by rw [hhd]; exact List.getElem_mem hL))
    simp only [strs, D.bulk] at hb this
    omega
  have HLS : Hid (∀ s, s ∈ L → s.size ≤ 1048576) := Lib.hid fun s hs => by
    have := D.bulkL_mem (List.mem_map_of_mem (f := D.str) hs)
    simp only [strs, D.bulk] at hb this
    omega
  have hLn : L.length ≤ 1048576 := by simp only [strs, D.bulk, List.length_map] at hb; omega
  have c0 : w.cell? ⟨ba, oa, none⟩ = some (.string hd) := ha 0 hd (by rw [hhd]; simp [hL])
  have zba : ba < w.heap.size := lt_of_cell c0
  have HC : Hid (∀ i s, L[i]? = some s → w.cell? ⟨ba, oa + i, none⟩ = some (.string s)) := Lib.hid ha
  have q0 : ((L.length : Int) == 0) = false := int_ne (by omega)
  clear ha pa hhd hb
  go_enter Tryd.func11, Tryd.ntmps11
  go_wp2_with fail
  generalize hW : World.alloc w _ = W1
  have x1 : Ext w W1 := by rw [← hW]; exact (Ext.refl w).alloc _
  have OR : Own W1 w.heap.size 39 #[.bool false, .int .i64 0, .int .i64 0, .slice none 0 0] := by rw [← hW]; exact own_new w _ _
  have zW : w.heap.size + 1 ≤ W1.heap.size := by rw [← hW]; simp
  clear hW
  refine (spec_SplitByte_any hd 32 _ hds).mono ?_
  rintro e w1 ⟨ao2, n2, cap2, fp2, rfl, hr, hf, hx1⟩
  obtain ⟨P, hP⟩ : ∃ P, P = cutB 32 hd := ⟨_, rfl⟩
  rw [← hP] at hr
  have hPn : P.length ≤ 1048577 := by have := cutB_le 32 hd; rw [hP]; omega
  have HPS : Hid (∀ x, x ∈ P → x.size ≤ 1048576) := Lib.hid fun x hx => by
    have := cutB_size (hP ▸ hx); omega
  have HP := Lib.hid hP; clear hP
  obtain ⟨ao', cp, bp, op, h1, hlp, hmp, pp, hp⟩ := hr.rep.strs
  simp only [List.cons.injEq, and_true, Value.slice.injEq] at h1
  obtain ⟨rfl, rfl, rfl⟩ := h1
  have OR1 := OR.ext hx1
  have z1 : w.heap.size + 1 ≤ w1.heap.size := Nat.le_trans zW hx1.size
  have e1 : Ext w w1 := x1.trans hx1
  clear hf hr OR hx1 x1 zW
  unfold maxLen at hmp
  by_cases h3 : P.length = 3
  rotate_left
  · have NO : Hid (¬ ∃ y, OkC L y) := Lib.hid (by
      rintro ⟨y, hy⟩
      rw [HL.out] at hy
      have := (spec_head (okC_head hy)).1
      rw [← HP.out] at this
      exact h3 this)
    have q3 : ((P.length : Int) != 3) = true := int_nen (by omega)
    have q3' : ((P.length : Int) == 3) = false := int_ne (by omega)
    clear h3 hp pp c0
    have R0 := OR1.val 0 (.bool false) rfl
    have R1 := OR1.val 1 (.int .i64 0) rfl
    have R2 := OR1.val 2 (.int .i64 0) rfl
    have R3 := OR1.val 3 (.slice none 0 0) rfl
    have F0 := OR1.frozen
    go_wp2_with fail
    refine bodyPost_ret (v := .tuple #[.agg #[.bool false, .int .i64 0, .int .i64 0, .slice none 0 0], .bool false]) (by simp [results, Tryd.results11, go_sem, R0, R1, R2, R3, F0]) rfl (gives_noC NO.out ?_)
    (repeat refine Ext.setCell ?_ (by omega) _)
    exact e1
  obtain rfl := pp (by omega)
  obtain ⟨p0, p1, p2, rfl⟩ := len3 h3
  have d0 : w1.cell? ⟨bp, op, none⟩ = some (.string p0) := hp 0 p0 rfl
  have d1 : w1.cell? ⟨bp, op + 1, none⟩ = some (.string p1) := hp 1 p1 rfl
  have d2 : w1.cell? ⟨bp, op + 2, none⟩ = some (.string p2) := hp 2 p2 rfl
  have s1 : p1.size ≤ 1048576 := HPS.out p1 (by simp)
  have s2 : p2.size ≤ 1048576 := HPS.out p2 (by simp)
  obtain ⟨B, hB⟩ : ∃ B : Bool, (p0.toList == [98, 108, 111, 99, 107, 99, 111, 100, 101]) = B := ⟨_, rfl⟩
  obtain ⟨v1, hv1⟩ : ∃ v : Int, PV p1 = v := ⟨_, rfl⟩
  obtain ⟨v2, hv2⟩ : ∃ v : Int, PV p2 = v := ⟨_, rfl⟩
  have b1 := pv_bd p1; have b2 := pv_bd p2
  rw [hv1] at b1; rw [hv2] at b2
  have HBB : Hid (eqB p0 bcodeW = B) := Lib.hid (by
    by_cases h : p0 = bcodeW
    · rw [← hB, eqB_tt h]; exact (str_eq' (l := [98, 108, 111, 99, 107, 99, 111, 100, 101]) h).symm
    · rw [← hB, eqB_ff h]; exact (str_ne' (l := [98, 108, 111, 99, 107, 99, 111, 100, 101]) h).symm)
  have HV : Hid (∀ b p s, HeadOk hd b p s → b = B ∧ p = v1 ∧ s = v2) := Lib.hid fun b p s h => by
    have h := spec_head h
    rw [← HP.out] at h
    obtain ⟨-, h0, h1, h2, -, -⟩ := h
    exact ⟨h0.symm.trans HBB.out, h1.symm.trans hv1, h2.symm.trans hv2⟩
  have CI1 : Hid (∀ W, Calls Tryd.prog 28 #[.string p1] W fun e w' => e = .returned (.tuple #[.int .i64 v1, .bool (PB p1)]) ∧ Ext W w') := Lib.hid fun W => by
    rw [← hv1]; exact spec_ParseInt_any p1 W s1
  have CI2 : Hid (∀ W, Calls Tryd.prog 28 #[.string p2] W fun e w' => e = .returned (.tuple #[.int .i64 v2, .bool (PB p2)]) ∧ Ext W w') := Lib.hid fun W => by
    rw [← hv2]; exact spec_ParseInt_any p2 W s2
  have B1 := Lib.hid b1; have B2 := Lib.hid b2
  have zbp : bp < w1.heap.size := lt_of_cell d0
  clear hv1 hv2 s1 s2 hp pp h3 b1 b2 hlp hmp hPn
  go_wp2_with fail
  clear hB d0
  generalize hW : World.alloc w1 _ = W5
  obtain ⟨X, hX⟩ : ∃ X, X = w1.heap.size := ⟨_, rfl⟩
  have OX : Own W5 X 39 #[.bool B, .int .i64 0, .int .i64 0, .slice none 0 0] := by rw [← hW, hX]; exact own_new w1 _ _
  have x5 : Ext w1 W5 := by rw [← hW]; exact (Ext.refl w1).alloc _
  have zX : w.heap.size + 1 ≤ X := by rw [hX]; exact z1
  have zX1 : w1.heap.size ≤ X := by rw [hX]; exact Nat.le_refl _
  have OR := OR1.ext x5
  rw [← hX]
  clear hW hX OR1
  refine (CI1.out _).mono ?_
  rintro e wk ⟨rfl, hxk⟩
  replace x5 := x5.trans hxk
  replace OX := OX.ext hxk
  replace OR := OR.ext hxk
  have X1 : wk.cell? ⟨X, 1, none⟩ = some (.int .i64 0) := by rw [OX.cell]; rfl
  have FX : ∀ o, wk.frozen? ⟨X, o, none⟩ = false := OX.frozen
  have D2 := Ext.cell x5 d2
  have zbk : bp < X := by omega
  clear d1 d2 hxk
  go_wp2_with fail
  generalize hS : World.setCell wk _ _ = W6
  replace OX : Own W6 X 39 #[.bool B, .int .i64 v1, .int .i64 0, .slice none 0 0] := by rw [← hS]; exact OX.set _ _
  replace OR : Own W6 w.heap.size 39 #[.bool false, .int .i64 0, .int .i64 0, .slice none 0 0] := by rw [← hS]; exact OR.other _ (by show w.heap.size ≠ X; omega) _
  replace x5 : Ext w1 W6 := by rw [← hS]; exact Ext.setCell x5 zX1 _
  clear hS X1 FX D2
  refine (CI2.out _).mono ?_
  rintro e wl ⟨rfl, hxk⟩
  replace x5 := x5.trans hxk
  replace OX := OX.ext hxk
  replace OR := OR.ext hxk
  have X2 : wl.cell? ⟨X, 2, none⟩ = some (.int .i64 0) := by rw [OX.cell]; rfl
  have FX : ∀ o, wl.frozen? ⟨X, o, none⟩ = false := OX.frozen
  clear hxk
  go_wp2_with fail
  generalize hS : World.setCell wl _ _ = W7
  replace OX : Own W7 X 39 #[.bool B, .int .i64 v1, .int .i64 v2, .slice none 0 0] := by rw [← hS]; exact OX.set _ _
  replace OR : Own W7 w.heap.size 39 #[.bool false, .int .i64 0, .int .i64 0, .slice none 0 0] := by rw [← hS]; exact OR.other _ (by show w.heap.size ≠ X; omega) _
  replace x5 : Ext w1 W7 := by rw [← hS]; exact Ext.setCell x5 zX1 _
  have x7 : Ext w W7 := e1.trans x5
  have HOX := Lib.hid OX; have HOR := Lib.hid OR
  have zX7 : X + 1 ≤ W7.heap.size := OX.lt
  clear hS X2 FX CI1 CI2 OX OR x5
  go_loopw [6] (fun iv wr => ∃ (k : Nat) (v : Value) (R : List MInstr), 1 ≤ k ∧ k ≤ L.length ∧ iv = .int .i64 k ∧ R.length + 1 ≤ k ∧ Hid (OkIs (L.tail.take (k - 1)) R) ∧ AccI (X + 1) wr v R ∧ Own wr X 39 #[.bool B, .int .i64 v1, .int .i64 v2, v] ∧ Own wr w.heap.size 39 #[.bool false, .int .i64 0, .int .i64 0, .slice none 0 0] ∧ Ext w wr ∧ X + 1 ≤ wr.heap.size) (fun iv _ => L.length - (intOf iv).toNat)
  case atStart => exact ⟨1, .slice none 0 0, [], Nat.le_refl _, hL, rfl, by simp, Lib.hid (by simpa using okIs_nil), Acc.nil _ _ _ _, HOX.out, HOR.out, x7, zX7⟩
  case round =>
    obtain ⟨k, v, R, hk1, hk, rfl, hRk, hR, hacc, OX, OR, hx, zr⟩ := hrel
    by_cases hlt : k < L.length
    · obtain ⟨s, hs⟩ : ∃ s, s = L[k] := ⟨_, rfl⟩
      have hsk : L[k]? = some s := by rw [hs]; simp [hlt]
      have a0 := Ext.cell hx (HC.out k s hsk)
      have zs : s.size ≤ 1048576 := HLS.out s (List.mem_of_getElem? hsk)
      have HT : Hid (∃ h : k - 1 < L.tail.length, L.tail[k - 1] = s) := Lib.hid ⟨by simp; omega, by
        rw [List.getElem_tail, hs]
        congr 1; omega⟩
      clear hs hsk
      go_wp2_with fail
      refine (spec_ParseInstr_any s _ zs).mono ?_
      rintro e w3 ⟨⟨o, a, b, t⟩, kb, rfl, hy, hn, hx3⟩
      have HY := Lib.hid hy; have HN := Lib.hid hn
      clear hy hn a0
      simp only
      replace hx := hx.trans hx3
      replace OX := OX.ext hx3
      replace OR := OR.ext hx3
      replace hacc := hacc.ext hx3
      replace zr := Nat.le_trans zr hx3.size
      clear hx3
      go_upto_region 13 with fail
      generalize hS : World.alloc w3 _ = W8
      obtain ⟨Y, hY⟩ : ∃ Y, Y = w3.heap.size := ⟨_, rfl⟩
      have OY : Own W8 Y 60 #[.int .i64 o, .int .i64 a, .int .i64 b, .string t] := by rw [← hS, hY]; exact own_new w3 _ _
      have x8 : Ext w3 W8 := by rw [← hS]; exact (Ext.refl w3).alloc _
      rw [← hY]
      clear hS hY
      replace hx := hx.trans x8
      replace OX := OX.ext x8
      replace OR := OR.ext x8
      replace hacc := hacc.ext x8
      replace zr := Nat.le_trans zr x8.size
      clear x8
      cases kb
      · have NO : Hid (¬ ∃ y, OkC L y) := Lib.hid (by
          rintro ⟨y, hy⟩
          rw [HL.out] at hy
          obtain ⟨h, e⟩ := HT.out
          obtain ⟨y, hy⟩ := okC_line hy h
          rw [e] at hy
          exact (HN.out rfl).2 ⟨y, hy⟩)
        clear OX OY
        have R0 := OR.val 0 (.bool false) rfl
        have R1 := OR.val 1 (.int .i64 0) rfl
        have R2 := OR.val 2 (.int .i64 0) rfl
        have R3 := OR.val 3 (.slice none 0 0) rfl
        have F0 := OR.frozen
        go_wp2_with fail
        refine bodyPost_ret (v := .tuple #[.agg #[.bool false, .int .i64 0, .int .i64 0, .slice none 0 0], .bool false]) (by simp [results, Tryd.results11, go_sem, R0, R1, R2, R3, F0]) rfl (gives_noC NO.out ?_)
        (repeat refine Ext.setCell ?_ (by omega) _)
        exact hx
      · obtain ⟨ao, cap, gp, rfl, -, -⟩ := hacc.rep
        have HY2 : Hid (OkIs (L.tail.take (k + 1 - 1)) (R ++ [⟨o, a, b, t⟩])) := Lib.hid (by
          obtain ⟨h, e⟩ := HT.out
          have := okIs_step hR.out h (by rw [e]; exact HY.out rfl)
          rwa [show k - 1 + 1 = k + 1 - 1 by omega] at this)
        have X3 : W8.cell? ⟨X, 3, none⟩ = some (.slice ao R.length cap) := by rw [OX.cell]; rfl
        have Y0 : W8.cell? ⟨Y, 0, none⟩ = some (.int .i64 o) := by rw [OY.cell]; rfl
        have Y1 : W8.cell? ⟨Y, 1, none⟩ = some (.int .i64 a) := by rw [OY.cell]; rfl
        have Y2 : W8.cell? ⟨Y, 2, none⟩ = some (.int .i64 b) := by rw [OY.cell]; rfl
        have Y3 : W8.cell? ⟨Y, 3, none⟩ = some (.string t) := by rw [OY.cell]; rfl
        go_wp2_with (at_builtin; refine wpList_append_ins rfl _ _ rfl (X + 1) _ R rfl (hacc.ext ((Ext.refl _).alloc _)) ⟨o, a, b, t⟩ _ rfl (RepF.ins_row (by simp) (by simp) (by simp) (by simp) (by simp)) (by omega) (by simp; omega) ?_)
        intro ao' cap' w9 hacc2 hg
        have x9 : Ext W8 (W8.alloc (.cells #[.int .i64 o, .int .i64 a, .int .i64 b, .string t] 60)) := (Ext.refl W8).alloc _
        have hge := (hacc.ext x9).own_ge
        have hx9 : Ext w w9 := Below.trans (hx.trans x9) (Below.mono (AccI.below (hacc.ext x9) (Below.refl _ _) hg (by simp; omega)) (by omega))
        have OX9 : Own w9 X 39 _ := Own.grown (OX.ext x9) hg (fun h => by have := hge X h; omega)
        have OR9 : Own w9 w.heap.size 39 _ := Own.grown (OR.ext x9) hg (fun h => by have := hge _ h; omega)
        have X3 : w9.cell? ⟨X, 3, none⟩ = some (.slice ao R.length cap) := by rw [OX9.cell]; rfl
        have FX : ∀ o, w9.frozen? ⟨X, o, none⟩ = false := OX9.frozen
        have z9 : X + 1 ≤ w9.heap.size := OX9.lt
        have HGE := Lib.hid hge
        clear hg hacc OX OR OY Y0 Y1 Y2 Y3 x9 hge
        go_wp2_with fail
        clear X3 FX
        go_roundw
        case rel => exact ⟨k + 1, .slice ao' (R.length + 1) cap', R ++ [⟨o, a, b, t⟩], by omega, by omega, by go_num, by rw [List.length_append, List.length_singleton]; omega, HY2, AccI.low hacc2 (by omega) _, OX9.set 3 _, OR9.other _ (by show w.heap.size ≠ X; omega) _, Ext.setCell hx9 (by omega) _, by rw [size_setCell]; exact z9⟩
        case measure => simp [intOf]; omega
    · have HR2 : Hid (OkIs L.tail R) := Lib.hid (by
        have := hR.out
        rwa [List.take_of_length_le (by simp; omega)] at this)
      obtain ⟨ao, cap, gp, rfl, hr4, hf4⟩ := hacc.rep
      have hbk := okIs_code (h := hd) (b := B) (p := v1) (s := v2) HR2.out (by rw [← HL.out]; exact HB.out) B1.out B2.out
      have HH0 : Hid (headB ⟨B, v1, v2, R⟩ = headB ⟨B, v1, v2, []⟩) := Lib.hid rfl
      obtain ⟨H, hH⟩ : ∃ H, H = headB ⟨B, v1, v2, R⟩ := ⟨_, rfl⟩
      have CF : Hid (∀ W, Ext wr W → Calls Tryd.prog 30 #[.agg #[.bool B, .int .i64 v1, .int .i64 v2, .slice ao R.length cap]] W fun e w' => ∃ b4 o4 n4 c4, e = .returned (.slice (some ⟨b4, o4, none⟩) n4 c4) ∧ 0 < n4 ∧ b4 < w'.heap.size ∧ w'.cell? ⟨b4, o4, none⟩ = some (.string H) ∧ Ext W w') := Lib.hid fun W hW =>
        (spec_FormatCode_any ⟨B, v1, v2, R⟩ _ W (Rep.ext hW (MCode.shut hr4).rep) hbk.1 hbk.2).mono fun e w' h => by
          obtain ⟨a4, n4, c4, f4, rfl, hr, hf, hx⟩ := h
          obtain ⟨a5, c5, b4, o4, h1, hl, hm, hp, hc⟩ := hr.rep.strs
          simp only [List.cons.injEq, and_true, Value.slice.injEq] at h1
          obtain ⟨rfl, rfl, rfl⟩ := h1
          have h0 : 0 < (codeL ⟨B, v1, v2, R⟩).length := by simp [codeL]
          obtain rfl := hp h0
          have hc0 := hc 0 H (by rw [hH]; rfl)
          exact ⟨b4, o4, _, _, rfl, h0, lt_of_cell hc0, hc0, hx⟩
      have HHd := Lib.hid hH
      clear hH hbk hacc
      have a0 := Ext.cell hx c0
      have zwr : ba < wr.heap.size := lt_of_cell a0
      have X0 : wr.cell? ⟨X, 0, none⟩ = some (.bool B) := by rw [OX.cell]; rfl
      have X1 : wr.cell? ⟨X, 1, none⟩ = some (.int .i64 v1) := by rw [OX.cell]; rfl
      have X2 : wr.cell? ⟨X, 2, none⟩ = some (.int .i64 v2) := by rw [OX.cell]; rfl
      have X3 : wr.cell? ⟨X, 3, none⟩ = some (.slice ao R.length cap) := by rw [OX.cell]; rfl
      obtain ⟨ne, hne⟩ : ∃ ne : Bool, (!H.toList == hd.toList) = ne := ⟨_, rfl⟩
      have HO := Lib.hid OX; have HR' := Lib.hid OR; have HF := Lib.hid hf4; have HR4 := Lib.hid hr4
      clear OX OR hf4 hr4
      go_wp2_with fail
      go_cut [72] (fun v wx => v = .bool ne ∧ Ext wr wx)
      case first =>
        go_region_with (go_at_call 30; refine (CF.out _ (Ext.drew (Ext.refl _))).mono ?_; rintro e w4 ⟨b4, o4, n4, c4, rfl, hn4, hb4, h04, hx4⟩; have q0 := Ext.cell (Ext.trans (Ext.drew (Ext.refl wr)) hx4) a0)
        all_goals (go_wp2_with fail; go_meet; exact ⟨rfl, Ext.trans (Ext.drew (Ext.refl _)) (by assumption)⟩)
      case rest =>
      obtain ⟨rfl, hx5⟩ := hcut
      have HNE := Lib.hid hne
      clear hne X0 X1 X2 X3 a0 zwr CF
      have OR := HR'.out.ext hx5
      replace hx := hx.trans hx5
      cases ne
      · skip
        have OX := HO.out.ext hx5
        have hr5 := HR4.out.ext hx5
        have hf5 := HF.out.ext hx5
        have X0 := OX.val 0 (.bool B) rfl
        have X1 := OX.val 1 (.int .i64 v1) rfl
        have X2 := OX.val 2 (.int .i64 v2) rfl
        have X3 := OX.val 3 (.slice ao R.length cap) rfl
        have R0 := OR.val 0 (.bool false) rfl
        have R1 := OR.val 1 (.int .i64 0) rfl
        have R2 := OR.val 2 (.int .i64 0) rfl
        have R3 := OR.val 3 (.slice none 0 0) rfl
        have F0 := OR.frozen
        go_wp2_with fail
        refine bodyPost_ret (v := .tuple #[.agg #[.bool B, .int .i64 v1, .int .i64 v2, .slice ao R.length cap], .bool true]) (by simp [results, Tryd.results11, go_sem, R0, R1, R2, R3, F0]) rfl ⟨⟨B, v1, v2, R⟩, true, ao, cap, gp, rfl, ?_, ?_, fun _ => ⟨hd, L.tail, HL.out, ⟨?_, B1.out, B2.out⟩, HR2.out⟩, (fun h => by cases h), ?_⟩
        · (repeat refine RepF.low ?_ (B := X + 1) hf5.ge (by omega) _)
          exact hr5
        · refine Fresh.mono (B := X + 1) ?_ (by omega)
          (repeat refine Fresh.low ?_ (by omega) _)
          exact hf5
        · rw [← HH0.out, ← HHd.out]; exact str_eqn_inv HNE.out
        · (repeat refine Ext.setCell ?_ (by omega) _)
          exact hx
      · have NO : Hid (¬ ∃ y, OkC L y) := Lib.hid (by
          rintro ⟨y, hy⟩
          rw [HL.out] at hy
          have hh := okC_head hy
          obtain ⟨e1, e2, e3⟩ := HV.out _ _ _ hh
          have h1 := hh.1
          rw [e1, e2, e3, ← HH0.out, ← HHd.out] at h1
          have h2 := HNE.out
          rw [str_eqn h1] at h2; cases h2)
        have R0 := OR.val 0 (.bool false) rfl
        have R1 := OR.val 1 (.int .i64 0) rfl
        have R2 := OR.val 2 (.int .i64 0) rfl
        have R3 := OR.val 3 (.slice none 0 0) rfl
        have F0 := OR.frozen
        go_wp2_with fail
        refine bodyPost_ret (v := .tuple #[.agg #[.bool false, .int .i64 0, .int .i64 0, .slice none 0 0], .bool false]) (by simp [results, Tryd.results11, go_sem, R0, R1, R2, R3, F0]) rfl (gives_noC NO.out ?_)
        (repeat refine Ext.setCell ?_ (by omega) _)
        exact hx

set_option maxRecDepth 100000 in
set_option maxHeartbeats 16000000 in
theorem impl_ParseCode_any (L : List ByteArray) (va : Value) (w : World) (ra : Rep w (strs L) [va]) (hb : (strs L).bulk ≤ 1048576) (hM : MaxOk w) (hT : TabOk w) (hE : ErrOk w) :
    Calls Tryd.prog 13 #[va] w (GivesC w L) := by
  obtain ⟨ao, ca, ba, oa, h1, hla, hma, pa, ha⟩ := ra.strs
  simp only [List.cons.injEq, and_true] at h1
  subst h1
  have RA := Lib.hid ra; clear ra
  unfold maxLen at hma
  by_cases hL : 0 < L.length
  rotate_left
  · have NO : Hid (¬ ∃ y, OkC L y) := Lib.hid (by
      rintro ⟨y, h, t, rfl, -⟩
      simp at hL)
    have q0 : ((L.length : Int) == 0) = true := int_eq (by omega)
    clear ha pa
    go_enter Tryd.func13, Tryd.ntmps13
    go_wp2_with fail
    refine bodyPost_ret (v := .tuple #[.agg #[.bool false, .int .i64 0, .int .i64 0, .slice none 0 0], .bool false]) (by simp [results, Tryd.results13, go_sem]) rfl (gives_noC NO.out ?_)
    (repeat refine Ext.setCell ?_ (by simp) _)
    exact (Ext.refl w).alloc _
  obtain rfl := pa hL
  obtain ⟨hd, hhd⟩ : ∃ h, h = L[0] := ⟨_, rfl⟩
  have HL : Hid (L = hd :: L.tail) := Lib.hid (by rw [hhd]; cases L with | nil => simp at hL | cons a b => rfl)
  have HB := Lib.hid hb
  have hds : hd.size ≤ 1048576 := by
    have := D.bulkL_mem (List.mem_map_of_mem (f := D.str) (show hd ∈ L by rw [hhd]; exact List.getElem_mem hL))
    simp only [strs, D.bulk] at hb this
    omega
  have HLS : Hid (∀ s, s ∈ L → s.size ≤ 1048576) := Lib.hid fun s hs => by
    have := D.bulkL_mem (List.mem_map_of_mem (f := D.str) hs)
    simp only [strs, D.bulk] at hb this
    omega
  have hLn : L.length ≤ 1048576 := by simp only [strs, D.bulk, List.length_map] at hb; omega
  have c0 : w.cell? ⟨ba, oa, none⟩ = some (.string hd) := ha 0 hd (by rw [hhd]; simp [hL])
  have zba : ba < w.heap.size := lt_of_cell c0
  have HC : Hid (∀ i s, L[i]? = some s → w.cell? ⟨ba, oa + i, none⟩ = some (.string s)) := Lib.hid ha
  have q0 : ((L.length : Int) == 0) = false := int_ne (by omega)
  clear ha pa hhd hb
  go_enter Tryd.func13, Tryd.ntmps13
  go_wp2_with fail
  generalize hW : World.alloc w _ = W1
  have x1 : Ext w W1 := by rw [← hW]; exact (Ext.refl w).alloc _
  have OR : Own W1 w.heap.size 39 #[.bool false, .int .i64 0, .int .i64 0, .slice none 0 0] := by rw [← hW]; exact own_new w _ _
  have zW : w.heap.size + 1 ≤ W1.heap.size := by rw [← hW]; simp
  clear hW
  refine (Tryd.strings_HasPrefix _ _ _).mono ?_
  obtain ⟨B, hB⟩ : ∃ B : Bool, Lib.hasPrefix hd.data.toList (⟨#[98, 108, 111, 99, 107, 99, 111, 100, 101, 32]⟩ : ByteArray).data.toList = B := ⟨_, rfl⟩
  rw [hB]
  have HBB : Hid (pfxC hd = B) := Lib.hid hB
  clear hB
  rintro e wq ⟨rfl, hq⟩
  subst wq
  have c1 := Ext.cell x1 c0
  have z1b : ba < W1.heap.size := lt_of_cell c1
  go_wp2_with fail
  generalize hW : World.alloc W1 _ = W2
  obtain ⟨X, hX⟩ : ∃ X, X = W1.heap.size := ⟨_, rfl⟩
  have OX : Own W2 X 39 #[.bool B, .int .i64 0, .int .i64 0, .slice none 0 0] := by rw [← hW, hX]; exact own_new W1 _ _
  have x2 : Ext W1 W2 := by rw [← hW]; exact (Ext.refl W1).alloc _
  have zX : w.heap.size + 1 ≤ X := by rw [hX]; exact zW
  have zX1 : W1.heap.size ≤ X := by rw [hX]; exact Nat.le_refl _
  replace OR := OR.ext x2
  replace x2 := x1.trans x2
  rw [← hX]
  clear hW hX c1 z1b x1
  refine (strings_Split_one hd 32 _ hds (hM.ext x2)).mono ?_
  obtain ⟨P, hP⟩ : ∃ P, P = cutB 32 hd := ⟨_, rfl⟩
  rw [← hP]
  have hPn : P.length ≤ 1048577 := by have := cutB_le 32 hd; rw [hP]; omega
  have HPS : Hid (∀ x, x ∈ P → x.size ≤ 1048576) := Lib.hid fun x hx => by
    have := cutB_size (hP ▸ hx); omega
  have HP := Lib.hid hP; clear hP
  rintro e w1 ⟨rfl, hz⟩
  obtain ⟨bp, hbp⟩ : ∃ b, b = W2.heap.size := ⟨_, rfl⟩
  have OP : Own w1 bp 9 (P.map Value.string).toArray := by rw [hz, hbp]; exact own_new W2 _ _
  have x3 : Ext W2 w1 := by rw [hz]; exact (Ext.refl W2).alloc _
  have zXp : X + 1 ≤ bp := by rw [hbp]; exact OX.lt
  rw [← hbp]
  clear hz hbp
  replace OR := OR.ext x3
  replace OX := OX.ext x3
  replace x2 := x2.trans x3
  clear x3
  by_cases h3 : P.length = 3
  rotate_left
  · have NO : Hid (¬ ∃ y, OkC L y) := Lib.hid (by
      rintro ⟨y, hy⟩
      rw [HL.out] at hy
      have := (spec_head (okC_head hy)).1
      rw [← HP.out] at this
      exact h3 this)
    have q3 : ((P.length : Int) != 3) = true := int_nen (by omega)
    have q3' : ((P.length : Int) == 3) = false := int_ne (by omega)
    clear h3 OP c0 OX
    have R0 := OR.val 0 (.bool false) rfl
    have R1 := OR.val 1 (.int .i64 0) rfl
    have R2 := OR.val 2 (.int .i64 0) rfl
    have R3 := OR.val 3 (.slice none 0 0) rfl
    have F0 := OR.frozen
    go_wp2_with fail
    refine bodyPost_ret (v := .tuple #[.agg #[.bool false, .int .i64 0, .int .i64 0, .slice none 0 0], .bool false]) (by simp [results, Tryd.results13, go_sem, R0, R1, R2, R3, F0]) rfl (gives_noC NO.out ?_)
    (repeat refine Ext.setCell ?_ (by omega) _)
    exact x2
  obtain ⟨p0, p1, p2, rfl⟩ := len3 h3
  have d1 := OP.val 1 (.string p1) rfl
  have d2 := OP.val 2 (.string p2) rfl
  have s1 : p1.size ≤ 1048576 := HPS.out p1 (by simp)
  have s2 : p2.size ≤ 1048576 := HPS.out p2 (by simp)
  obtain ⟨v1, hv1⟩ : ∃ v : Int, PV p1 = v := ⟨_, rfl⟩
  obtain ⟨v2, hv2⟩ : ∃ v : Int, PV p2 = v := ⟨_, rfl⟩
  obtain ⟨f1, hf1⟩ : ∃ v : Bool, PB p1 = v := ⟨_, rfl⟩
  obtain ⟨f2, hf2⟩ : ∃ v : Bool, PB p2 = v := ⟨_, rfl⟩
  have b1 := pv_bd p1; have b2 := pv_bd p2
  rw [hv1] at b1; rw [hv2] at b2
  have HV : Hid (∀ b p s, HeadOk hd b p s → b = B ∧ p = v1 ∧ s = v2 ∧ f1 = true ∧ f2 = true) := Lib.hid fun b p s h => by
    have h0 := head_pfx h
    have h := spec_head h
    rw [← HP.out] at h
    obtain ⟨-, -, h1, h2, h3, h4⟩ := h
    exact ⟨h0.symm.trans HBB.out, h1.symm.trans hv1, h2.symm.trans hv2, hf1.symm.trans h3, hf2.symm.trans h4⟩
  have CI1 : Hid (∀ W, Ext w W → Calls Tryd.prog 33 #[.string p1] W fun e w' => e = .returned (.tuple #[.int .i64 v1, .bool f1]) ∧ Ext W w') := Lib.hid fun W h => by
    rw [← hv1, ← hf1]; exact impl_ParseInt_any p1 W s1 (hT.ext h) (hE.ext h)
  have CI2 : Hid (∀ W, Ext w W → Calls Tryd.prog 33 #[.string p2] W fun e w' => e = .returned (.tuple #[.int .i64 v2, .bool f2]) ∧ Ext W w') := Lib.hid fun W h => by
    rw [← hv2, ← hf2]; exact impl_ParseInt_any p2 W s2 (hT.ext h) (hE.ext h)
  have B1 := Lib.hid b1; have B2 := Lib.hid b2
  have zbp : bp < w1.heap.size := lt_of_cell d1
  clear hv1 hv2 hf1 hf2 s1 s2 h3 b1 b2 hPn
  go_wp2_with fail
  refine (CI1.out _ x2).mono ?_
  rintro e wk ⟨rfl, hxk⟩
  replace x2 := x2.trans hxk
  replace OX := OX.ext hxk
  replace OR := OR.ext hxk
  have X1 : wk.cell? ⟨X, 1, none⟩ = some (.int .i64 0) := by rw [OX.cell]; rfl
  have FX : ∀ o, wk.frozen? ⟨X, o, none⟩ = false := OX.frozen
  have D2 := Ext.cell hxk d2
  have zbk : bp < wk.heap.size := lt_of_cell D2
  clear d1 d2 hxk
  go_upto_region 9 with fail
  generalize hS : World.setCell wk _ _ = W6
  replace OX : Own W6 X 39 #[.bool B, .int .i64 v1, .int .i64 0, .slice none 0 0] := by rw [← hS]; exact OX.set _ _
  replace OR : Own W6 w.heap.size 39 #[.bool false, .int .i64 0, .int .i64 0, .slice none 0 0] := by rw [← hS]; exact OR.other _ (by show w.heap.size ≠ X; omega) _
  replace x2 : Ext w W6 := by rw [← hS]; exact Ext.setCell x2 (by omega) _
  replace D2 : W6.cell? ⟨bp, 2, none⟩ = some (.string p2) := by rw [← hS, World.cell?_setCell_far _ _ _ _ (show X ≠ bp by omega)]; exact D2
  replace zbk : bp < W6.heap.size := lt_of_cell D2
  clear hS X1 FX OP
  go_wp2_with fail
  refine (CI2.out _ x2).mono ?_
  rintro e wl ⟨rfl, hxk⟩
  replace x2 := x2.trans hxk
  replace OX := OX.ext hxk
  replace OR := OR.ext hxk
  have X2 : wl.cell? ⟨X, 2, none⟩ = some (.int .i64 0) := by rw [OX.cell]; rfl
  have FX : ∀ o, wl.frozen? ⟨X, o, none⟩ = false := OX.frozen
  clear hxk D2
  go_upto_region 10 with fail
  generalize hS : World.setCell wl _ _ = W7
  replace OX : Own W7 X 39 #[.bool B, .int .i64 v1, .int .i64 v2, .slice none 0 0] := by rw [← hS]; exact OX.set _ _
  replace OR : Own W7 w.heap.size 39 #[.bool false, .int .i64 0, .int .i64 0, .slice none 0 0] := by rw [← hS]; exact OR.other _ (by show w.heap.size ≠ X; omega) _
  replace x2 : Ext w W7 := by rw [← hS]; exact Ext.setCell x2 (by omega) _
  clear hS X2 FX CI1 CI2
  cases f1
  · have NO : Hid (¬ ∃ y, OkC L y) := Lib.hid (by
      rintro ⟨y, hy⟩
      rw [HL.out] at hy
      have := (HV.out _ _ _ (okC_head hy)).2.2.2.1
      cases this)
    clear OX
    refine wp_region_quiet_below (by kernel_rfl) (by kernel_rfl) ?_
    repeat (go_big_quiet_step (fail))
    refine wpQuiet_nil ?_
    intro _ hw'
    obtain ⟨pw, hw''⟩ := hw'
    subst hw''
    replace OR := OR.ext (regx W7 pw)
    replace x2 := x2.trans (regx W7 pw)
    generalize hW2 : «Sort».grow (redrawn W7 pw.d) pw.os = W8 at *
    clear hW2
    have R0 := OR.val 0 (.bool false) rfl
    have R1 := OR.val 1 (.int .i64 0) rfl
    have R2 := OR.val 2 (.int .i64 0) rfl
    have R3 := OR.val 3 (.slice none 0 0) rfl
    have F0 := OR.frozen
    go_wp2_with fail
    refine bodyPost_ret (v := .tuple #[.agg #[.bool false, .int .i64 0, .int .i64 0, .slice none 0 0], .bool false]) (by simp [results, Tryd.results13, go_sem, R0, R1, R2, R3, F0]) rfl (gives_noC NO.out ?_)
    (repeat refine Ext.setCell ?_ (by omega) _)
    exact x2
  cases f2
  · have NO : Hid (¬ ∃ y, OkC L y) := Lib.hid (by
      rintro ⟨y, hy⟩
      rw [HL.out] at hy
      have := (HV.out _ _ _ (okC_head hy)).2.2.2.2
      cases this)
    clear OX
    refine wp_region_quiet_below (by kernel_rfl) (by kernel_rfl) ?_
    repeat (go_big_quiet_step (fail))
    refine wpQuiet_nil ?_
    intro _ hw'
    obtain ⟨pw, hw''⟩ := hw'
    subst hw''
    replace OR := OR.ext (regx W7 pw)
    replace x2 := x2.trans (regx W7 pw)
    generalize hW2 : «Sort».grow (redrawn W7 pw.d) pw.os = W8 at *
    clear hW2
    have R0 := OR.val 0 (.bool false) rfl
    have R1 := OR.val 1 (.int .i64 0) rfl
    have R2 := OR.val 2 (.int .i64 0) rfl
    have R3 := OR.val 3 (.slice none 0 0) rfl
    have F0 := OR.frozen
    go_wp2_with fail
    refine bodyPost_ret (v := .tuple #[.agg #[.bool false, .int .i64 0, .int .i64 0, .slice none 0 0], .bool false]) (by simp [results, Tryd.results13, go_sem, R0, R1, R2, R3, F0]) rfl (gives_noC NO.out ?_)
    (repeat refine Ext.setCell ?_ (by omega) _)
    exact x2
  obtain ⟨H, hH⟩ : ∃ H, H = headB ⟨B, v1, v2, []⟩ := ⟨_, rfl⟩
  have hok : (MCode.mk B v1 v2 []).d.ok := by
    have b1 := B1.out; have b2 := B2.out
    rw [MCode.d_eq]
    simp only [D.ok, D.okL, MInstrs, and_true, true_and, List.map_nil]
    omega
  have CH : Hid (∀ W, Ext W7 W → Calls Tryd.prog 34 #[.agg #[.bool B, .int .i64 v1, .int .i64 v2, .slice none 0 0]] W fun e w' => e = .returned (.string H) ∧ Ext W w') := Lib.hid fun W h => by
    rw [hH]; exact headOf_any ⟨B, v1, v2, []⟩ _ W (code_nil W B v1 v2).rep hok (hT.ext (x2.trans h))
  have a0 := Ext.cell x2 c0
  have X0 := OX.val 0 (.bool B) rfl
  have X1 := OX.val 1 (.int .i64 v1) rfl
  have X2 := OX.val 2 (.int .i64 v2) rfl
  have X3 := OX.val 3 (.slice none 0 0) rfl
  obtain ⟨ne, hne⟩ : ∃ ne : Bool, (!H.toList == hd.toList) = ne := ⟨_, rfl⟩
  have HHd := Lib.hid hH
  clear hH hok
  have g0 := reg (Ext.refl _) X0
  have g1 := reg (Ext.refl _) X1
  have g2 := reg (Ext.refl _) X2
  have g3 := reg (Ext.refl _) X3
  have ga := reg (Ext.refl _) a0
  refine wp_region_quiet_below (by kernel_rfl) (by kernel_rfl) ?_
  repeat (go_big_quiet_step ((go_at_call 34; exact Calls.regrown_of (CH.out _ (below_regrown _ _ _)))))
  refine wpQuiet_nil ?_
  clear g0 g1 g2 g3 ga
  intro _ hw'
  obtain ⟨pw, hw''⟩ := hw'
  subst hw''
  replace OR := OR.ext (regx W7 pw)
  replace OX := OX.ext (regx W7 pw)
  replace x2 := x2.trans (regx W7 pw)
  clear X0 X1 X2 X3 CH a0
  generalize hW2 : «Sort».grow (redrawn W7 pw.d) pw.os = W8 at *
  clear hW2
  have HNE := Lib.hid hne; clear hne
  cases ne
  rotate_left
  · have NO : Hid (¬ ∃ y, OkC L y) := Lib.hid (by
      rintro ⟨y, hy⟩
      rw [HL.out] at hy
      have hh := okC_head hy
      obtain ⟨e1, e2, e3, -, -⟩ := HV.out _ _ _ hh
      have h1 := hh.1
      rw [e1, e2, e3, ← HHd.out] at h1
      have h2 := HNE.out
      rw [str_eqn h1] at h2; cases h2)
    clear OX
    have R0 := OR.val 0 (.bool false) rfl
    have R1 := OR.val 1 (.int .i64 0) rfl
    have R2 := OR.val 2 (.int .i64 0) rfl
    have R3 := OR.val 3 (.slice none 0 0) rfl
    have F0 := OR.frozen
    go_wp2_with fail
    refine bodyPost_ret (v := .tuple #[.agg #[.bool false, .int .i64 0, .int .i64 0, .slice none 0 0], .bool false]) (by simp [results, Tryd.results13, go_sem, R0, R1, R2, R3, F0]) rfl (gives_noC NO.out ?_)
    (repeat refine Ext.setCell ?_ (by omega) _)
    exact x2
  have HNIL : Hid (∀ W : World, RepF W (MInstrs []) [.slice none 0 0] []) := Lib.hid fun W => RepF.sl_iff.2 ⟨_, _, rfl, by simp, by simp, by simp, Or.inl ⟨rfl, rfl⟩⟩
  have zX7 : X + 1 ≤ W8.heap.size := OX.lt
  by_cases h1 : L.length = 1
  · have HR2 : Hid (OkIs L.tail []) := Lib.hid (by
      have : L.tail = [] := List.eq_nil_of_length_eq_zero (by simp; omega)
      rw [this]; exact okIs_nil)
    by_cases hc1 : ca = 1
    all_goals
      go_wp2_with fail
      refine wp_loop_rounds 1 ?_
      rw [rounds_succ]
      have X0 := OX.val 0 (.bool B) rfl
      have X1 := OX.val 1 (.int .i64 v1) rfl
      have X2 := OX.val 2 (.int .i64 v2) rfl
      have X3 := OX.val 3 (.slice none 0 0) rfl
      have R0 := OR.val 0 (.bool false) rfl
      have R1 := OR.val 1 (.int .i64 0) rfl
      have R2 := OR.val 2 (.int .i64 0) rfl
      have R3 := OR.val 3 (.slice none 0 0) rfl
      have F0 := OR.frozen
      go_wp2_with fail
      refine bodyPost_ret (v := .tuple #[.agg #[.bool B, .int .i64 v1, .int .i64 v2, .slice none 0 0], .bool true]) (by simp [results, Tryd.results13, go_sem, R0, R1, R2, R3, F0]) rfl ⟨⟨B, v1, v2, []⟩, true, none, 0, [], rfl, ?_, ?_, fun _ => ⟨hd, L.tail, HL.out, ⟨?_, B1.out, B2.out⟩, HR2.out⟩, (fun h => by cases h), ?_⟩
      · (repeat refine RepF.low ?_ (B := X + 1) (fun b hb => by simp at hb) (by omega) _)
        exact (HNIL.out _)
      · refine Fresh.mono (B := X + 1) ?_ (by omega)
        (repeat refine Fresh.low ?_ (by omega) _)
        exact (Fresh.nil _ _)
      · rw [← HHd.out]; exact str_eqn_inv HNE.out
      · (repeat refine Ext.setCell ?_ (by omega) _)
        exact x2
  have hl1 : 1 < L.length := by omega
  have hc0 : 1 < ca := by omega
  have hc1 : ¬ ca = 1 := by omega
  clear h1
  have HOX := Lib.hid OX; have HOR := Lib.hid OR
  clear OX OR
  go_wp2_with fail
  go_loopw [63] (fun iv wr => ∃ (k : Nat) (v : Value) (R : List MInstr), k ≤ L.length - 1 ∧ iv = .int .i64 k ∧ R.length ≤ k ∧ Hid (OkIs (L.tail.take k) R) ∧ AccI (X + 1) wr v R ∧ Own wr X 39 #[.bool B, .int .i64 v1, .int .i64 v2, v] ∧ Own wr w.heap.size 39 #[.bool false, .int .i64 0, .int .i64 0, .slice none 0 0] ∧ Ext w wr ∧ X + 1 ≤ wr.heap.size) (fun iv _ => L.length - 1 - (intOf iv).toNat)
  case atStart => exact ⟨0, .slice none 0 0, [], Nat.zero_le _, rfl, by simp, Lib.hid (by simpa using okIs_nil), Acc.nil _ _ _ _, HOX.out, HOR.out, x2, zX7⟩
  case round =>
    obtain ⟨k, v, R, hk, rfl, hRk, hR, hacc, OX, OR, hx, zr⟩ := hrel
    by_cases hlt : k < L.length - 1
    · obtain ⟨s, hs⟩ : ∃ s, s = L[k + 1] := ⟨_, rfl⟩
      have hsk : L[k + 1]? = some s := by rw [hs, List.getElem?_eq_getElem]
      have a0 : wr.cell? ⟨ba, oa + 1 + k, none⟩ = some (.string s) := by
        rw [show oa + 1 + k = oa + (k + 1) by omega]
        exact Ext.cell hx (HC.out (k + 1) s hsk)
      have zs : s.size ≤ 1048576 := HLS.out s (List.mem_of_getElem? hsk)
      have HT : Hid (∃ h : k < L.tail.length, L.tail[k] = s) := Lib.hid ⟨by simp; omega, by rw [List.getElem_tail, hs]⟩
      clear hs hsk
      go_wp2_with fail
      refine (impl_ParseInstr_any s _ zs (hM.ext hx) (hT.ext hx) (hE.ext hx)).mono ?_
      rintro e w3 ⟨⟨o, a, b, t⟩, kb, rfl, hy, hn, hx3⟩
      have HY := Lib.hid hy; have HN := Lib.hid hn
      clear hy hn a0
      simp only
      replace hx := hx.trans hx3
      replace OX := OX.ext hx3
      replace OR := OR.ext hx3
      replace hacc := hacc.ext hx3
      replace zr := Nat.le_trans zr hx3.size
      clear hx3
      go_upto_region 16 with fail
      generalize hS : World.alloc w3 _ = W8
      obtain ⟨Y, hY⟩ : ∃ Y, Y = w3.heap.size := ⟨_, rfl⟩
      have OY : Own W8 Y 60 #[.int .i64 o, .int .i64 a, .int .i64 b, .string t] := by rw [← hS, hY]; exact own_new w3 _ _
      have x8 : Ext w3 W8 := by rw [← hS]; exact (Ext.refl w3).alloc _
      rw [← hY]
      clear hS hY
      replace hx := hx.trans x8
      replace OX := OX.ext x8
      replace OR := OR.ext x8
      replace hacc := hacc.ext x8
      replace zr := Nat.le_trans zr x8.size
      clear x8
      cases kb
      · have NO : Hid (¬ ∃ y, OkC L y) := Lib.hid (by
          rintro ⟨y, hy⟩
          rw [HL.out] at hy
          obtain ⟨h, e⟩ := HT.out
          obtain ⟨y, hy⟩ := okC_line hy h
          rw [e] at hy
          exact (HN.out rfl).2 ⟨y, hy⟩)
        clear OX OY
        have R0 := OR.val 0 (.bool false) rfl
        have R1 := OR.val 1 (.int .i64 0) rfl
        have R2 := OR.val 2 (.int .i64 0) rfl
        have R3 := OR.val 3 (.slice none 0 0) rfl
        have F0 := OR.frozen
        go_wp2_with fail
        refine bodyPost_ret (v := .tuple #[.agg #[.bool false, .int .i64 0, .int .i64 0, .slice none 0 0], .bool false]) (by simp [results, Tryd.results13, go_sem, R0, R1, R2, R3, F0]) rfl (gives_noC NO.out ?_)
        (repeat refine Ext.setCell ?_ (by omega) _)
        exact hx
      · obtain ⟨ao, cap, gp, rfl, -, -⟩ := hacc.rep
        have HY2 : Hid (OkIs (L.tail.take (k + 1)) (R ++ [⟨o, a, b, t⟩])) := Lib.hid (by
          obtain ⟨h, e⟩ := HT.out
          have := okIs_step hR.out h (by rw [e]; exact HY.out rfl)
          exact this)
        have X3 : W8.cell? ⟨X, 3, none⟩ = some (.slice ao R.length cap) := by rw [OX.cell]; rfl
        have Y0 : W8.cell? ⟨Y, 0, none⟩ = some (.int .i64 o) := by rw [OY.cell]; rfl
        have Y1 : W8.cell? ⟨Y, 1, none⟩ = some (.int .i64 a) := by rw [OY.cell]; rfl
        have Y2 : W8.cell? ⟨Y, 2, none⟩ = some (.int .i64 b) := by rw [OY.cell]; rfl
        have Y3 : W8.cell? ⟨Y, 3, none⟩ = some (.string t) := by rw [OY.cell]; rfl
        go_wp2_with (at_builtin; refine wpList_append_ins rfl _ _ rfl (X + 1) _ R rfl (hacc.ext ((Ext.refl _).alloc _)) ⟨o, a, b, t⟩ _ rfl (RepF.ins_row (by simp) (by simp) (by simp) (by simp) (by simp)) (by omega) (by simp; omega) ?_)
        intro ao' cap' w9 hacc2 hg
        have x9 : Ext W8 (W8.alloc (.cells #[.int .i64 o, .int .i64 a, .int .i64 b, .string t] 60)) := (Ext.refl W8).alloc _
        have hge := (hacc.ext x9).own_ge
        have hx9 : Ext w w9 := Below.trans (hx.trans x9) (Below.mono (AccI.below (hacc.ext x9) (Below.refl _ _) hg (by simp; omega)) (by omega))
        have OX9 : Own w9 X 39 _ := Own.grown (OX.ext x9) hg (fun h => by have := hge X h; omega)
        have OR9 : Own w9 w.heap.size 39 _ := Own.grown (OR.ext x9) hg (fun h => by have := hge _ h; omega)
        have X3 : w9.cell? ⟨X, 3, none⟩ = some (.slice ao R.length cap) := by rw [OX9.cell]; rfl
        have FX : ∀ o, w9.frozen? ⟨X, o, none⟩ = false := OX9.frozen
        have z9 : X + 1 ≤ w9.heap.size := OX9.lt
        have HGE := Lib.hid hge
        clear hg hacc OX OR OY Y0 Y1 Y2 Y3 x9 hge
        go_wp2_with fail
        clear X3 FX
        go_roundw
        case rel => exact ⟨k + 1, .slice ao' (R.length + 1) cap', R ++ [⟨o, a, b, t⟩], by omega, by go_num, by rw [List.length_append, List.length_singleton]; omega, HY2, AccI.low hacc2 (by omega) _, OX9.set 3 _, OR9.other _ (by show w.heap.size ≠ X; omega) _, Ext.setCell hx9 (by omega) _, by rw [size_setCell]; exact z9⟩
        case measure => simp [intOf]; omega
    · have HR2 : Hid (OkIs L.tail R) := Lib.hid (by
        have := hR.out
        rwa [List.take_of_length_le (by simp; omega)] at this)
      obtain ⟨ao, cap, gp, rfl, hr5, hf5⟩ := hacc.rep
      have X0 := OX.val 0 (.bool B) rfl
      have X1 := OX.val 1 (.int .i64 v1) rfl
      have X2 := OX.val 2 (.int .i64 v2) rfl
      have X3 := OX.val 3 (.slice ao R.length cap) rfl
      have R0 := OR.val 0 (.bool false) rfl
      have R1 := OR.val 1 (.int .i64 0) rfl
      have R2 := OR.val 2 (.int .i64 0) rfl
      have R3 := OR.val 3 (.slice none 0 0) rfl
      have F0 := OR.frozen
      go_wp2_with fail
      refine bodyPost_ret (v := .tuple #[.agg #[.bool B, .int .i64 v1, .int .i64 v2, .slice ao R.length cap], .bool true]) (by simp [results, Tryd.results13, go_sem, R0, R1, R2, R3, F0]) rfl ⟨⟨B, v1, v2, R⟩, true, ao, cap, gp, rfl, ?_, ?_, fun _ => ⟨hd, L.tail, HL.out, ⟨?_, B1.out, B2.out⟩, HR2.out⟩, (fun h => by cases h), ?_⟩
      · (repeat refine RepF.low ?_ (B := X + 1) hf5.ge (by omega) _)
        exact hr5
      · refine Fresh.mono (B := X + 1) ?_ (by omega)
        (repeat refine Fresh.low ?_ (by omega) _)
        exact hf5
      · rw [← HHd.out]; exact str_eqn_inv HNE.out
      · (repeat refine Ext.setCell ?_ (by omega) _)
        exact hx

end Go.Proofs.YtpajlbmjlhafoaaDoor
