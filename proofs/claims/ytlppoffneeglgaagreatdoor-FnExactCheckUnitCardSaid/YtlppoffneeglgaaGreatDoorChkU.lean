/-
  CONTRACTS: CheckUnit of the program.
  Conditions: those that each lemma states.
-/
import Derived.Test.YtlppoffneeglgaaGreatDoorRows
import Derived.Test.YtlppoffneeglgaaGreatDoorChkC
import Derived.Test.YtlppoffneeglgaaGreatDoorChkE
import Derived.Test.YtlppoffneeglgaaGreatDoorChkT
import Derived.Deep.RegionHeld3
import Derived.Deep.RegionLaw
import Derived.Deep.DeepCutAuto
import Derived.Deep.CutBlock
import Derived.BigQuiet
import Derived.IntWalk
namespace Go.Proofs.YtlppoffneeglgaaGreatDoor
open Go.RowKit Go.Maps Go.WideMaps
set_option linter.unusedSimpArgs false
set_option linter.unusedVariables false

/-- The map behind the first names. -/
noncomputable def fmI (i : Nat) : FMap := (extB.tail.take i).foldl (fun g n => putF g n [textN]) (fun _ => [])
theorem fmI_step {i : Nat} {s : ByteArray} (h : extB.tail[i]? = some s) : fmI (i + 1) = putF (fmI i) s [textN] := by
  unfold fmI
  rw [List.take_add_one, h, Option.toList_some, List.foldl_append]
  rfl
theorem fmI_all : fmI 4 = baseF := by
  funext s
  by_cases h : hasB extB.tail s = true
  · have hb : baseF s = [textN] := if_pos h
    rw [hb]
    rw [hasB_iff] at h
    simp only [extB, List.tail_cons, List.mem_cons, List.not_mem_nil, or_false] at h
    simp only [fmI, extB, List.tail_cons, List.take, List.foldl, putF]
    rcases h with rfl | rfl | rfl | rfl
    all_goals (repeat (first | rw [if_pos rfl] | (split <;> first | rfl | skip)))
  · have hb : baseF s = [] := if_neg h
    rw [hb]
    rw [hasB_iff] at h
    simp only [extB, List.tail_cons, List.mem_cons, List.not_mem_nil, or_false, not_or] at h
    simp only [fmI, extB, List.tail_cons, List.take, List.foldl, putF]
    rw [if_neg h.2.2.2, if_neg h.2.2.1, if_neg h.2.1, if_neg h.1]
theorem acc_lits (w : World) (l : List ByteArray) (hl : l.length ≤ maxLen) : AccT w.heap.size (w.alloc (.cells (l.map Value.string).toArray 9)) (.slice (some ⟨w.heap.size, 0, none⟩) l.length l.length) l :=
  ⟨l.map Value.string, ⟨by simp, Or.inr ⟨w.heap.size, l.length, (l.map Value.string).toArray, by rw [List.length_map], Nat.le_refl _, own_new w _ _, by simp, hl, by simp, by simpa using List.take_of_length_le (by simp)⟩⟩, repR_strs _ l, Fresh.nil _ _, fun k _ => by simp⟩
set_option maxHeartbeats 400000 in
theorem builtin_at (w : World) : Calls Tryz.prog 17 #[] w fun e w' => e = .returned (.slice (some ⟨w.heap.size, 0, none⟩) 16 16) ∧ w' = w.alloc (.cells (builtinsL.map Value.string).toArray 9) := by
  go_enter Tryz.func17, Tryz.ntmps17
  go_wp2
  go_ret
  exact ⟨rfl, rfl⟩
theorem step_append_strs_at {w : World} {ops : Array Oper} {o : Oper} {a : Act} {K : Act → World → Prop} {Q : Exit → Act → World → Prop} {E : Prop} (hgd : o.guard = none) (s x : Operand)
    (ho : o.op = .call { callee := .builtin .append, args := #[s, x], argTypes := #[23, 23] })
    (B0 : Nat) (v : Value) (l : List ByteArray) (hs : a.eval s = v) (hacc : AccT B0 w v l)
    (ys : List ByteArray) (ao : Option Addr) (m c : Nat) (hx : a.eval x = .slice ao m c) (hr : Rep w (strs ys) [.slice ao m c])
    (hlen : l.length + ys.length ≤ 1073741824) (hbase : B0 ≤ w.heap.size)
    (h : ∀ ao' cap' w', AccT B0 w' (.slice ao' (l.length + ys.length) cap') (l ++ ys) → w.grownBy w' v.ownBlock → ((Value.slice ao' (l.length + ys.length) cap').ownBlock = v.ownBlock ∨ (Value.slice ao' (l.length + ys.length) cap').ownBlock = some w.heap.size) → K (a.put o.dst (.slice ao' (l.length + ys.length) cap')) w') : if Region.wanted o (yielded ops a.tmps) = true then Oper.wp Tryz.prog o a w K Q else E := by
  obtain ⟨i0, hi, hz0, hz1, hz2⟩ := info_parts strInfo
  obtain ⟨gp, hr⟩ := hr
  have ht := hr.strs_tail
  have hm : m = ys.length := by
    obtain ⟨_, _, h1, _⟩ := RepF.sl_iff.1 hr
    simp at h1; omega
  subst hm
  refine step_append_at hgd s x 23 ho B0 9 i0 _ 1 16 Tryz.underlying23 hi hz0 hz1 hz2 rfl (by decide) v (l.map .str) [] hs hacc (ys.map .str) ao ys.length c gp hx hr (by rw [ht]; exact Fresh.nil _ _) (by rw [ht]; simp) (by simp [maxLen]; omega) (by simp; omega) hbase ?_
  intro ao' cap' w' h2 h3 h4
  rw [ht] at h2
  simp only [List.length_map, List.append_nil, ← List.map_append] at h2 h4 ⊢
  exact h ao' cap' w' h2 h3 h4
/-- The map gives the fields in rows off these blocks. -/
def FmL (w : World) (L : List Nat) (Dm : DataW Value) (fm : FMap) : Prop := ∀ s : ByteArray, ∃ (ao : Option Addr) (cap : Nat) (fp : List Nat), Dm.atKey (.string s.data.toList) (.held (.slice none 0 0)) = .held (.slice ao (fm s).length cap) ∧ RepF w (strs (fm s)) [.slice ao (fm s).length cap] fp ∧ ∀ k, k ∈ fp → k ∉ L
theorem FmL.touch {w w' : World} {L fp : List Nat} {Dm : DataW Value} {fm : FMap} (h : FmL w L Dm fm) (T : Touch w w' fp) (hL : ∀ k, k ∈ fp → k ∈ L) : FmL w' L Dm fm := fun s => by
  obtain ⟨ao, cap, gp, h1, h2, h3⟩ := h s
  exact ⟨ao, cap, gp, h1, h2.touch T (fun b hb hm => h3 b hb (hL b hm)), h3⟩
theorem FmL.ext {w w' : World} {L : List Nat} {Dm : DataW Value} {fm : FMap} (h : FmL w L Dm fm) (x : Ext w w') : FmL w' L Dm fm := h.touch (Touch.of_ext x []) (fun k hk => nomatch hk)
theorem FmL.is {w : World} {B mb : Nat} {L : List Nat} {Dm : DataW Value} {fm : FMap} (h : FmL w L Dm fm) (h1 : B ∈ L) (h2 : mb ∈ L) : FmIs w B mb Dm fm := fun s => by
  obtain ⟨ao, cap, gp, k1, k2, k3⟩ := h s
  exact ⟨ao, cap, gp, k1, k2, fun hm => k3 _ hm h1, fun hm => k3 _ hm h2⟩
theorem FmL.put {w : World} {L : List Nat} {Dm : DataW Value} {fm : FMap} (h : FmL w L Dm fm) (hD : IsMap Dm) (n : ByteArray) (l : List ByteArray) {ao : Option Addr} {cap : Nat} {fp : List Nat} (h2 : RepF w (strs l) [.slice ao l.length cap] fp) (h3 : ∀ k, k ∈ fp → k ∉ L) : FmL w L (Dm.put (.string n.data.toList) (.held (.slice ao l.length cap))) (putF fm n l) := fun s => by
  unfold putF
  by_cases hs : s = n
  · subst hs
    rw [if_pos rfl]
    exact ⟨ao, cap, fp, by rw [atKey_put_same hD (by trivial)], h2, h3⟩
  · rw [if_neg hs]
    obtain ⟨ao', cap', fp', g1, g2⟩ := h s
    have hk : Lit.string s.data.toList ≠ Lit.string n.data.toList := fun h => hs (by cases s; cases n; simpa using h)
    exact ⟨ao', cap', fp', by rw [atKey_put_other hk]; exact g1, g2⟩
/-- The checker, its map and its names, before it has checked. -/
structure Pre (w : World) (B mb BC : Nat) (cC : Value) (C : List ByteArray) (n : Nat) (Dm : DataW Value) (fm : FMap) : Prop where
  own : Own w B 57 #[cC, .map (some mb), .string ⟨#[]⟩, .slice none 0 0, .bool false, .slice none 0 0, .slice none 0 0]
  map : World.ownsMap (H := Value) w Tryz.prog 9 RM mb n Dm
  fmi : FmL w [B, mb, BC] Dm fm
  row : AccT BC w cC C
  rB : cC.ownBlock ≠ some B
  rM : cC.ownBlock ≠ some mb
theorem Pre.touch {w w' : World} {B mb BC : Nat} {cC : Value} {C : List ByteArray} {n : Nat} {Dm : DataW Value} {fm : FMap} {fp : List Nat} (h : Pre w B mb BC cC C n Dm fm) (T : Touch w w' fp) (h1 : B ∉ fp) (h2 : mb ∉ fp) (h3 : ∀ k, cC.ownBlock = some k → k ∉ fp) (h4 : ∀ k, k ∈ fp → w.heap.size ≤ k) : Pre w' B mb BC cC C n Dm fm :=
  ⟨h.own.touch' T h1, own_map_touch h.map T h2, h.fmi.ext (Touch.ext (Ext.refl w) T h4), Acc.touch h.row T h3 (fun k hk => nomatch hk), h.rB, h.rM⟩
theorem Pre.ext {w w' : World} {B mb BC : Nat} {cC : Value} {C : List ByteArray} {n : Nat} {Dm : DataW Value} {fm : FMap} (h : Pre w B mb BC cC C n Dm fm) (x : Ext w w') : Pre w' B mb BC cC C n Dm fm :=
  h.touch (Touch.of_ext x []) (by simp) (by simp) (fun _ _ => by simp) (fun k hk => nomatch hk)
theorem Pre.cells {w : World} {B mb BC : Nat} {cC : Value} {C : List ByteArray} {n : Nat} {Dm : DataW Value} {fm : FMap} (h : Pre w B mb BC cC C n Dm fm) : w.cell? ⟨B, 0, none⟩ = some cC ∧ w.cell? ⟨B, 1, none⟩ = some (.map (some mb)) := by
  refine ⟨?_, ?_⟩ <;> (rw [h.own.cell]; rfl)

theorem Pre.put {w w6 : World} {B mb BC : Nat} {cC : Value} {C : List ByteArray} {n : Nat} {Dm : DataW Value} {fm : FMap} (h : Pre w B mb BC cC C n Dm fm) (s : ByteArray) (hmB : mb ≠ B) (hBC : BC < w.heap.size)
    (h6 : World.ownsMap (H := Value) w6 Tryz.prog 9 RM mb (n + 1) (Dm.put (.string s.data.toList) (.held (.slice (some ⟨w.heap.size, 0, none⟩) 1 1)))) (hg : (w.alloc (.cells #[.string textN] 9)).grownBy w6 (some mb)) :
    Pre w6 B mb BC cC C (n + 1) (Dm.put (.string s.data.toList) (.held (.slice (some ⟨w.heap.size, 0, none⟩) 1 1))) (putF fm s [textN]) ∧ Touch w w6 [mb] := by
  have x := (Ext.refl w).alloc (.cells #[.string textN] 9)
  have T := (Touch.of_ext x [mb]).trans (grown_touch hg)
  have hB := h.own.lt
  have hm := h.map.lt
  have O := (own_new w #[.string textN] 9).touch' (grown_touch hg) (by simp; omega)
  refine ⟨⟨h.own.touch' T (by simpa using fun e => hmB e.symm), h6, ?_, Acc.touch h.row T (fun k hk hm => h.rM (by simp at hm; rw [← hm]; exact hk)) (fun k hk => nomatch hk), h.rB, h.rM⟩, T⟩
  exact (h.fmi.touch T (fun b hb => by simp at hb; simp [hb])).put h.map.isMap s [textN] (RepF.strs_mk (l := [textN]) (by simp) (by unfold maxLen; omega) (by simp) O.lt (fun i t hi => by
    cases i with
    | zero => simp at hi; subst hi; rw [O.cell]; rfl
    | succ i => simp at hi)) (fun k hk hm => by simp at hk hm; omega)
theorem Chk.setO {w : World} {B B0 : Nat} {cC mp cV : Value} {own : Bool} {p : ByteArray} {D : Scope} {vd vp : Value} (h : Chk w B B0 cC mp cV own p D vd vp) (b : Bool) : Chk (w.setCell ⟨B, 4, none⟩ (.bool b)) B B0 cC mp cV b p D vd vp ∧ Touch w (w.setCell ⟨B, 4, none⟩ (.bool b)) [B] := by
  have T : Touch w (w.setCell ⟨B, 4, none⟩ (.bool b)) [B] := (Touch.of_ext (Ext.refl w) [B]).setCell (by simp) _
  have hB0 := h.lt
  refine ⟨⟨h.own.set 4 _, h.lt, Nat.le_trans h.le T.size, Acc.touch h.ds T (fun k hk => ?_) (fun k hk => nomatch hk), Acc.touch h.ps T (fun k hk => ?_) (fun k hk => nomatch hk), h.ne⟩, T⟩
  · have := (Acc.ge h.ds hk).1; simp; omega
  · have := (Acc.ge h.ps hk).1; simp; omega
theorem Chk.setV {w : World} {B B0 : Nat} {cC mp cV : Value} {own : Bool} {p : ByteArray} {D : Scope} {vd vp : Value} (h : Chk w B B0 cC mp cV own p D vd vp) (v : Value) : Chk (w.setCell ⟨B, 3, none⟩ v) B B0 cC mp v own p D vd vp ∧ Touch w (w.setCell ⟨B, 3, none⟩ v) [B] := by
  have T : Touch w (w.setCell ⟨B, 3, none⟩ v) [B] := (Touch.of_ext (Ext.refl w) [B]).setCell (by simp) _
  have hB0 := h.lt
  refine ⟨⟨h.own.set 3 _, h.lt, Nat.le_trans h.le T.size, Acc.touch h.ds T (fun k hk => ?_) (fun k hk => nomatch hk), Acc.touch h.ps T (fun k hk => ?_) (fun k hk => nomatch hk), h.ne⟩, T⟩
  · have := (Acc.ge h.ds hk).1; simp; omega
  · have := (Acc.ge h.ps hk).1; simp; omega
theorem repL_nil (w : World) (B B0 : Nat) : RepL w B B0 (strs []) (.slice none 0 0) := ⟨[], RepF.sl_iff.2 ⟨none, 0, rfl, by simp, by unfold maxLen; omega, by simp, Or.inl ⟨rfl, rfl⟩⟩, fun k hk => nomatch hk⟩
/-- A row of texts that lies low, off the checker and its map. -/
def RepM (w : World) (B mb B0 : Nat) (d : D) (v : Value) : Prop := ∃ fp, RepF w d [v] fp ∧ ∀ k, k ∈ fp → k < B0 ∧ k ≠ B ∧ k ≠ mb
theorem RepM.low {w : World} {B mb B0 : Nat} {d : D} {v : Value} (h : RepM w B mb B0 d v) : RepL w B B0 d v := let ⟨fp, h, k⟩ := h; ⟨fp, h, fun b hb => ⟨(k b hb).1, (k b hb).2.1⟩⟩
theorem RepM.touch {w w' : World} {B mb B0 : Nat} {d : D} {v : Value} (h : RepM w B mb B0 d v) (T : Touch w w' [B, mb]) : RepM w' B mb B0 d v := by
  obtain ⟨fp, h, k⟩ := h
  exact ⟨fp, h.touch T fun b hb hm => by have := k b hb; simp at hm; omega, k⟩

set_option maxHeartbeats 16000000 in
set_option maxRecDepth 100000 in
theorem impl_CheckUnit_any (u : MUnit) (cx : List Value) (w : World) (rx : Rep w u.d cx) (hb : u.d.bulk ≤ 1048576) (hm : MaxOk w) : Calls Tryz.prog 7 #[.agg cx.toArray] w fun e w' => e = .returned (.tuple #[.string (checkU u), .bool (prB (UnitOk u))]) ∧ Ext w w' := by
  obtain ⟨ac, cc, a1, c1, a2, c2, a3, c3, rfl, rc, -, -, -, rm⟩ := MUnit.op_en rx
  have RX := Lib.hid rx
  have RC := Lib.hid rc
  have RMN := Lib.hid rm
  have HBU := Lib.hid (unit_bulks hb)
  have HB := Lib.hid hb
  have HMX : Hid (∀ W, Ext w W → MaxOk W) := Lib.hid fun W hW => let ⟨m, h⟩ := hm; ⟨m, hW.cell h⟩
  have hmm := @run_makeMap Tryz.prog
  clear rx rc rm hb hm
  go_enter Tryz.func7, Tryz.ntmps7
  go_upto_region 1 with fail
  generalize hW : World.alloc w _ = W1
  have x1 : Ext w W1 := by rw [← hW]; exact (Ext.refl _).alloc _
  have n0 : W1.cell? ⟨w.heap.size, 0, none⟩ = some (.slice ac u.classes.length cc) := by rw [← hW]; simp
  have n1 : W1.cell? ⟨w.heap.size, 1, none⟩ = some (.string u.main.selector) := by rw [← hW]; simp
  have n2 : W1.cell? ⟨w.heap.size, 2, none⟩ = some (.bool u.main.cls) := by rw [← hW]; simp
  have n3 : W1.cell? ⟨w.heap.size, 3, none⟩ = some (.slice a1 u.main.params.length c1) := by rw [← hW]; simp
  have n4 : W1.cell? ⟨w.heap.size, 4, none⟩ = some (.slice a2 u.main.temps.length c2) := by rw [← hW]; simp
  have n5 : W1.cell? ⟨w.heap.size, 5, none⟩ = some (.slice a3 u.main.body.length c3) := by rw [← hW]; simp
  clear hW
  have zn := lt_of_cell n0
  go_wp2_with fail
  refine (impl_IsUnit_any u _ W1 (Rep.ext x1 RX.out) HB.out (HMX.out _ x1)).mono ?_
  rintro e w2 ⟨rfl, hx2⟩
  replace n0 := hx2.cell n0
  replace n1 := hx2.cell n1
  replace n2 := hx2.cell n2
  replace n3 := hx2.cell n3
  replace n4 := hx2.cell n4
  replace n5 := hx2.cell n5
  have x2 := x1.trans hx2
  clear zn
  have zn := lt_of_cell n0
  by_cases hok : UnitOk u
  rotate_left
  · have HV : Hid (checkU u = ⟨#[]⟩) := Lib.hid (checkU_no hok)
    have HPB := Lib.hid (prB_ff hok)
    rw [prB_ff hok]
    clear hok
    go_wp2_with fail
    go_ret2
    exact ⟨by rw [HV.out, HPB.out]; rfl, x2⟩
  have HPB := Lib.hid (prB_tt hok)
  rw [prB_tt hok]
  have HOK := Lib.hid hok
  have HV : Hid (checkU u = checkV u) := Lib.hid (checkU_yes hok)
  clear hok
  have hl : u.classes.length ≤ 8 := HOK.out.1
  have N0 := Lib.hid n0
  have N1 := Lib.hid n1
  have N2 := Lib.hid n2
  have N3 := Lib.hid n3
  have N4 := Lib.hid n4
  have N5 := Lib.hid n5
  have HZ : Hid (∀ d, d ∈ u.classes → d.fields.length ≤ 4) := Lib.hid fun d hd => (HOK.out.2.2 d hd).1.2.2.1
  go_wp2_with fail
  refine (builtin_at w2).mono ?_
  rintro e w3 ⟨rfl, hw3⟩
  have A3 : AccT w2.heap.size w3 (.slice (some ⟨w2.heap.size, 0, none⟩) 16 16) builtinsL := by rw [hw3]; exact acc_lits w2 builtinsL (by unfold maxLen; simp [builtinsL])
  have x3 : Ext w2 w3 := by rw [hw3]; exact (Ext.refl _).alloc _
  have hs3 : w3.heap.size = w2.heap.size + 1 := by rw [hw3]; simp
  clear hw3
  go_upto_region 4 with fail
  generalize hBe : w2.heap.size + 1 + 1 = B at *
  generalize hme : w2.heap.size + 1 = mb at *
  generalize hWe : World.alloc (World.alloc w3 _) _ = W4
  have P4 : Pre W4 B mb w2.heap.size (.slice (some ⟨w2.heap.size, 0, none⟩) 16 16) builtinsL 0 (.map []) (fmI 0) := by
    rw [← hWe]
    refine ⟨?_, ?_, ?_, ?_, ?_, ?_⟩
    · have h := own_new (w3.alloc (.map #[] 0)) #[.slice (some ⟨w2.heap.size, 0, none⟩) 16 16, .map (some mb), .string ⟨#[]⟩, .slice none 0 0, .bool false, .slice none 0 0, .slice none 0 0] 57
      have e : (w3.alloc (.map #[] 0)).heap.size = B := by simp; omega
      rw [e] at h
      exact h
    · have h := World.ownsMap_made (H := Value) w3 Tryz.prog 9 RM
      rw [hs3] at h
      exact h.alloc _
    · exact fun s => ⟨none, 0, [], rfl, RepF.sl_iff.2 ⟨none, 0, by simp [fmI], by simp [fmI], by unfold maxLen; omega, by simp, Or.inl ⟨by simp [fmI], rfl⟩⟩, fun k hk => nomatch hk⟩
    · exact (A3.ext ((Ext.refl _).alloc _)).ext ((Ext.refl _).alloc _)
    · simp [Value.ownBlock]; omega
    · simp [Value.ownBlock]; omega
  have x4 : Ext w2 W4 := by rw [← hWe]; exact (x3.alloc _).alloc _
  have hBg : w2.heap.size < B := by omega
  have hmg : w2.heap.size < mb := by omega
  have hmB : mb ≠ B := by omega
  clear hWe hBe hme A3 x3 hs3 hmm
  go_upto_region 5 with fail
  generalize hW5 : World.alloc W4 _ = W5
  have x5 : Ext W4 W5 := by rw [← hW5]; exact (Ext.refl _).alloc _
  have OL : Hid (Own W5 W4.heap.size 9 #[.string ⟨#[69, 120, 99, 101, 112, 116, 105, 111, 110]⟩, .string ⟨#[69, 114, 114, 111, 114]⟩, .string ⟨#[77, 101, 115, 115, 97, 103, 101, 78, 111, 116, 85, 110, 100, 101, 114, 115, 116, 111, 111, 100]⟩, .string ⟨#[90, 101, 114, 111, 68, 105, 118, 105, 100, 101]⟩]) := Lib.hid (by rw [← hW5]; exact own_new W4 _ _)
  have HP5 := Lib.hid (P4.ext x5)
  have HX5 := Lib.hid (x4.trans x5)
  obtain ⟨nb, hnb⟩ : ∃ nb, nb = W4.heap.size := ⟨_, rfl⟩
  have HNB : Hid (nb ≠ mb ∧ nb ≠ B) := Lib.hid (by have := P4.map.lt; have := P4.own.lt; omega)
  rw [← hnb] at OL
  clear hW5 P4 x4 x5
  rw [← hnb]
  clear hnb
  go_loopw [24] (fun iv wr => ∃ (i : Nat) (Dm : DataW Value), i ≤ 4 ∧ iv = .int .i64 i ∧ Pre wr B mb w2.heap.size (.slice (some ⟨w2.heap.size, 0, none⟩) 16 16) builtinsL i Dm (fmI i) ∧ Touch W5 wr [mb]) (fun iv _ => 4 - (intOf iv).toNat)
  case atStart => exact ⟨0, _, Nat.zero_le _, rfl, HP5.out, Touch.of_ext (Ext.refl _) _⟩
  case round =>
    obtain ⟨i, Dm, hi, rfl, hP, hT⟩ := hrel
    clear n0 n1 n2 n3 n4 n5 zn
    obtain ⟨c0, c1_⟩ := hP.cells
    have zB := lt_of_cell c0
    have OLr := OL.out.touch' hT (by simpa using HNB.out.1)
    have zl := OLr.lt
    have hown := hP.map
    have HP := Lib.hid hP
    have HT := Lib.hid hT
    clear hP hT HP5
    by_cases hlt : i < 4
    · obtain ⟨s, hs⟩ : ∃ s, extB.tail[i]? = some s := ⟨_, List.getElem?_eq_getElem (by simpa [extB] using hlt)⟩
      have hsz : s.size ≤ 1000 := by
        have := List.mem_of_getElem? hs
        simp only [extB, List.tail_cons, List.mem_cons, List.not_mem_nil, or_false] at this
        rcases this with rfl | rfl | rfl | rfl <;> decide
      have cl : wr.cell? ⟨nb, i, none⟩ = some (.string s) := by
        rw [OLr.cell]
        have : i = 0 ∨ i = 1 ∨ i = 2 ∨ i = 3 := by omega
        rcases this with rfl | rfl | rfl | rfl <;> (simp [extB] at hs; rw [← hs]; rfl)
      have HS := Lib.hid hs
      have hown5 := hown.alloc (.cells #[.string ⟨#[116, 101, 120, 116]⟩] 9)
      have hkey := keyOf_string_mk Tryz.underlying9 (s := s) (by unfold maxLen; omega)
      have hi0 : (0 : Int) ≤ i := by omega
      have hi4 : (i : Int) < 4 := by omega
      clear hs OLr hown
      go_wp2_with (first | (at_mapUpdate; refine wpList_mapUpdate_own _ rfl _ _ _ 54 rfl 9 23 keyS2 Tryz.underlying54 _ mb i Dm rfl hown5 (by unfold maxLen; omega) _ _ _ rfl rfl hkey (.held (.slice (some ⟨wr.heap.size, 0, none⟩) 1 1)) [] rfl ?_) | go_in)
      intro w6 hown6 hg6
      obtain ⟨P6, T6⟩ := Pre.put HP.out s hmB (by omega) hown6 hg6
      have HP6 := Lib.hid P6
      have HT6 := Lib.hid (HT.out.trans T6)
      clear P6 T6 hown6 hg6 hown5 hkey c0 c1_ zB zl cl
      go_wp2_with fail
      go_roundw
      case rel => exact ⟨i + 1, _, by omega, by go_num, by rw [fmI_step HS.out]; exact HP6.out, HT6.out⟩
      case measure => simp [intOf]; omega
    obtain rfl : i = 4 := by omega
    have P7 := HP.out
    rw [fmI_all] at P7
    have HXB := Lib.hid (Touch.ext HX5.out HT.out (fun b hb => by simp at hb; omega))
    have HPB := Lib.hid P7
    clear HP HT HX5 P7 c0 c1_ zB OLr zl hown OL
    obtain ⟨WB, hwb⟩ : ∃ x, x = wr := ⟨_, rfl⟩
    subst hwb
    have n0 := HXB.out.cell N0.out
    have zn := lt_of_cell n0
    have hBW := HPB.out.own.lt
    have hmW := HPB.out.map.lt
    obtain ⟨ao, ca, ba, oa, h1, hla, hma, pa, ha⟩ := Rep.slmap RC.out
    simp only [List.cons.injEq, and_true, Value.slice.injEq] at h1
    obtain ⟨rfl, -, rfl⟩ := h1
    unfold maxLen at hma
    have HA := Lib.hid ha
    clear ha
    go_wp2_with fail
    go_loopw [38] (fun iv wr => ∃ (i : Nat) (cC : Value), i ≤ u.classes.length ∧ iv = .int .i64 i ∧ Own wr B 57 #[cC, .map (some mb), .string ⟨#[]⟩, .slice none 0 0, .bool false, .slice none 0 0, .slice none 0 0] ∧ AccT w2.heap.size wr cC (builtinsL ++ namesC (u.classes.take i)) ∧ Hid (∀ k, cC.ownBlock = some k → k = w2.heap.size ∨ WB.heap.size ≤ k) ∧ Touch WB wr [B, w2.heap.size]) (fun iv _ => u.classes.length - (intOf iv).toNat)
    case atStart => exact ⟨0, _, Nat.zero_le _, rfl, HPB.out.own, by simpa [namesC] using HPB.out.row, Lib.hid (fun k hk => Or.inl (by simp [Value.ownBlock] at hk; omega)), Touch.of_ext (Ext.refl _) _⟩
    case round =>
      clear n0 zn
      obtain ⟨i, cC, hi, rfl, hO, hR, HK, hT⟩ := hrel
      have HO := Lib.hid hO
      have HR := Lib.hid hR
      have HT := Lib.hid hT
      have HW := Lib.hid (Touch.ext HXB.out hT (fun b hb => by simp at hb; omega))
      have n0 := HW.out.cell N0.out
      have zn := lt_of_cell n0
      have b0 : wr.cell? ⟨B, 0, none⟩ = some cC := by rw [hO.cell]; rfl
      have f0 := hO.frozen 0
      have zB := lt_of_cell b0
      clear hO hR hT
      by_cases hlt : i < u.classes.length
      · obtain rfl := pa (by omega)
        obtain ⟨d, hd⟩ : ∃ d, u.classes[i]? = some d := ⟨_, List.getElem?_eq_getElem hlt⟩
        obtain ⟨es, les, ces, res⟩ := HA.out i d hd
        obtain ⟨af, cf, am, cm, rfl, -, -⟩ := MClassDef.op_en res
        have hxx := x2.trans HW.out
        have q0 := hxx.cell (show w.cell? ⟨ba, oa + i * 4, none⟩ = some (.string d.name) from ces 0 (by omega))
        have q1 := hxx.cell (show w.cell? ⟨ba, oa + i * 4 + 1, none⟩ = some (.string d.parent) from ces 1 (by omega))
        have q2 := hxx.cell (show w.cell? ⟨ba, oa + i * 4 + 2, none⟩ = some (.slice af d.fields.length cf) from ces 2 (by omega))
        have q3 := hxx.cell (show w.cell? ⟨ba, oa + i * 4 + 3, none⟩ = some (.slice am d.methods.length cm) from ces 3 (by omega))
        have HSTEP : Hid (builtinsL ++ namesC (u.classes.take (i + 1)) = (builtinsL ++ namesC (u.classes.take i)) ++ [d.name]) := Lib.hid (by rw [List.take_add_one, hd]; simp [namesC])
        have hCl : (builtinsL ++ namesC (u.classes.take i)).length ≤ 24 := by rw [List.length_append, namesC, List.length_map, List.length_take]; simp [builtinsL]; omega
        have hil : (i : Int) < u.classes.length := by omega
        have hi0 : (0 : Int) ≤ i := by omega
        clear hd les ces res hxx
        generalize hC : builtinsL ++ namesC (u.classes.take i) = C at *
        go_upto_region 12 with fail
        generalize hS : World.alloc wr _ = WD
        have xd : Ext wr WD := by rw [← hS]; exact (Ext.refl _).alloc _
        have d0 : WD.cell? ⟨wr.heap.size, 0, none⟩ = some (.string d.name) := by rw [← hS]; simp
        clear hS
        have OD := HO.out.ext xd
        have bD : WD.cell? ⟨B, 0, none⟩ = some cC := by rw [OD.cell]; rfl
        have zD := lt_of_cell bD
        have AD := AccT.ext HR.out xd
        have hsW := HT.out.size
        have hsD := xd.size
        have HG : Hid (∀ Wx W7, Ext WD Wx → Wx.grownBy W7 cC.ownBlock → Own W7 B 57 #[cC, .map (some mb), .string ⟨#[]⟩, .slice none 0 0, .bool false, .slice none 0 0, .slice none 0 0] ∧ Touch WB W7 [B, w2.heap.size]) := Lib.hid fun Wx W7 hx hg => by
          refine ⟨(OD.ext hx).touch' (fp := cC.ownBlock.toList) ((Touch.of_ext (Ext.refl _) _).grown hg fun k hk => Or.inl (by simp [hk])) (fun hm => by
            have := HK.out B (by simpa using hm)
            omega), ?_⟩
          exact ((HT.out.trans (Touch.of_ext xd _)).trans (Touch.of_ext hx _)).grown hg fun k hk => by
            rcases HK.out k hk with h | h
            · exact Or.inl (by simp [h])
            · exact Or.inr h
        clear n0 zn b0 f0 zB q0 q1 q2 q3 OD
        go_region_law (refine step_append_strs_at rfl _ _ rfl w2.heap.size cC C rfl (AccT.ext AD ((Ext.drew (Ext.refl _)).alloc _)) [d.name] _ _ _ rfl (rep_one _ _) (by simp <;> omega) (by simp <;> omega) ?_; intro ao2 cap2 w7 ac hg hloc; have h7 := HG.out _ _ ((Ext.drew (Ext.refl _)).alloc _) hg; have c7 : w7.cell? ⟨B, 0, none⟩ = some cC := h7.1.cell 0; have f7 := h7.1.frozen 0; have z7 := lt_of_cell c7)
        all_goals
          have hnB : ∀ k, (Value.slice ao2 (C.length + [d.name].length) cap2).ownBlock = some k → k = w2.heap.size ∨ WB.heap.size ≤ k := fun k hk => by
            rcases hloc with h | h
            · exact HK.out k (h.symm.trans hk)
            · have := h.symm.trans hk
              simp at this; omega
          have HNB2 := Lib.hid hnB
          have O9 := h7.1.set 0 (.slice ao2 (C.length + [d.name].length) cap2)
          have A9 : AccT w2.heap.size (w7.setCell ⟨B, 0, none⟩ (.slice ao2 (C.length + [d.name].length) cap2)) (.slice ao2 (C.length + [d.name].length) cap2) (C ++ [d.name]) := Acc.touch ac ((Touch.of_ext (Ext.refl _) [B]).setCell (by simp) _) (fun k hk hm => by have := hnB k hk; simp at hm; omega) (fun k hk => nomatch hk)
          have T9 : Touch WB (w7.setCell ⟨B, 0, none⟩ (.slice ao2 (C.length + [d.name].length) cap2)) [B, w2.heap.size] := h7.2.setCell (by simp) _
          have HO9 := Lib.hid O9
          clear hg hloc ac h7 c7 f7 z7 O9 hnB
          go_wp2_with fail
          go_roundw
          case rel => exact ⟨i + 1, _, by omega, by go_num, HO9.out, by rw [HSTEP.out]; exact A9, HNB2, T9⟩
          case measure => simp [intOf]; omega
      obtain rfl : i = u.classes.length := by omega
      rw [List.take_length] at HR
      obtain ⟨C, hC⟩ : ∃ C, builtinsL ++ namesC u.classes = C := ⟨_, rfl⟩
      have hCl : C.length = 16 + u.classes.length := by rw [← hC, List.length_append, namesC, List.length_map]; rfl
      rw [hC] at HR
      have HC := Lib.hid hC
      have HCl := Lib.hid hCl
      obtain ⟨g, cg, rfl, hcg, hgB, hgm, hgl⟩ : ∃ g cg, cC = .slice (some ⟨g, 0, none⟩) C.length cg ∧ C.length ≤ cg ∧ g ≠ B ∧ g ≠ mb ∧ g < wr.heap.size := by
        have hf := Acc.form HR.out
        rw [List.length_map] at hf
        rcases hf with ⟨-, h0⟩ | ⟨g, cap, h1, h2, -⟩
        · have := congrArg List.length h0
          rw [List.length_map, List.length_nil] at this; omega
        · have h3 := HK.out g (by rw [h1]; rfl)
          have h4 := (Acc.ge HR.out (k := g) (by rw [h1]; rfl)).2
          exact ⟨g, cap, h1, h2, by omega, by omega, h4⟩
      have hcm : cg ≤ 9223372036854775807 := by
        obtain ⟨_, _, gp, h1, h2, -⟩ := AccT.rep HR.out
        obtain ⟨_, _, _, _, h3, -, h4, -⟩ := h2.rep.strs
        simp only [List.cons.injEq, and_true, Value.slice.injEq] at h1 h3
        unfold maxLen at h4; omega
      obtain ⟨WC, hwc⟩ : ∃ x, x = wr := ⟨_, rfl⟩
      subst hwc
      have HCC : Hid (∀ j s, C[j]? = some s → WC.cell? ⟨g, j, none⟩ = some (.string s)) := Lib.hid (by
        obtain ⟨_, _, gp, h1, h2, -⟩ := AccT.rep HR.out
        obtain ⟨a9, _, b9, o9, h3, -, -, h4, h5⟩ := h2.rep.strs
        simp only [List.cons.injEq, and_true, Value.slice.injEq] at h1 h3
        obtain ⟨rfl, -⟩ := h1
        obtain ⟨rfl, -⟩ := h3
        have := h4 (by omega)
        simp only [Option.some.injEq, Addr.mk.injEq, and_true] at this
        obtain ⟨rfl, rfl⟩ := this
        intro j s hs
        have := h5 j s hs
        rwa [Nat.zero_add] at this)
      have HRM : Hid (RepM WC B mb WC.heap.size (strs C) (.slice (some ⟨g, 0, none⟩) C.length cg)) := Lib.hid ⟨[g], RepF.strs_mk hcg (by unfold maxLen; omega) (fun h => by rw [h] at hCl; simp at hCl; omega) hgl (fun j s hs => by rw [Nat.zero_add]; exact HCC.out j s hs), fun k hk => by simp at hk; subst hk; exact ⟨hgl, hgB, hgm⟩⟩
      have hBl := HO.out.lt
      have KC : Hid (Chk WC B WC.heap.size (.slice (some ⟨g, 0, none⟩) C.length cg) (.map (some mb)) (.slice none 0 0) false ⟨#[]⟩ [] (.slice none 0 0) (.slice none 0 0)) := Lib.hid ⟨HO.out, hBl, Nat.le_refl _, Acc.nil _ _ _ _, Acc.nil _ _ _ _, fun k hk => nomatch hk⟩
      have HMC : Hid (World.ownsMap (H := Value) WC Tryz.prog 9 RM mb (4 + 0) Dm) := Lib.hid (own_map_touch HPB.out.map HT.out (by simp; omega))
      have HFC : Hid (FmIs WC B mb Dm baseF) := Lib.hid ((HPB.out.fmi.touch HT.out (fun k hk => by simp at hk ⊢; omega)).is (by simp) (by simp))
      obtain ⟨EV, hEV⟩ : ∃ EV, checkV u = EV := ⟨_, rfl⟩
      have HEV : Hid (checkU u = EV) := Lib.hid (by rw [HV.out, hEV])
      obtain ⟨MN, hMN⟩ : ∃ M, exV C [] false [] (blockM u.main.params u.main.temps u.main.body) = M := ⟨_, rfl⟩
      obtain ⟨TL, hTL⟩ : ∃ T, orT (firstT (u.classes.map fun d => firstT (d.methods.map (metP C (fmAll u.classes) d)))) MN = T := ⟨_, rfl⟩
      have H0 : Hid (EV = orT ⟨#[]⟩ (orT (clssP C (builtinsL ++ namesC (u.classes.take 0)) (fmAll (u.classes.take 0)) (u.classes.drop 0)) TL)) := Lib.hid (by rw [← hEV, ← hTL, ← hMN, ← hC, orT_l]; simp [namesC, fmAll]; rfl)
      have HTL := Lib.hid hTL
      have HMN := Lib.hid hMN
      clear HO HR HK HT HPB b0 f0 zB hEV hMN hTL hC hCl HV hgl
      go_wp2_with fail
      go_loopw [57] (fun iv wr => ∃ (i : Nat) (q : ByteArray) (Dm : DataW Value), i ≤ u.classes.length ∧ iv = .int .i64 i ∧ Chk wr B WC.heap.size (.slice (some ⟨g, 0, none⟩) C.length cg) (.map (some mb)) (.slice none 0 0) false q [] (.slice none 0 0) (.slice none 0 0) ∧ World.ownsMap (H := Value) wr Tryz.prog 9 RM mb (4 + i) Dm ∧ FmIs wr B mb Dm (fmAll (u.classes.take i)) ∧ Touch WC wr [B, mb] ∧ Hid (EV = orT q (orT (clssP C (builtinsL ++ namesC (u.classes.take i)) (fmAll (u.classes.take i)) (u.classes.drop i)) TL))) (fun iv _ => u.classes.length - (intOf iv).toNat)
      case atStart => exact ⟨0, _, _, Nat.zero_le _, rfl, KC.out, HMC.out, HFC.out, Touch.of_ext (Ext.refl _) _, H0⟩
      case round =>
        clear n0 zn KC HMC HFC H0
        obtain ⟨i, q, Dm', hi, rfl, hK, hM, hF, hT, hQ⟩ := hrel
        have HK := Lib.hid hK
        have HM := Lib.hid hM
        have HF := Lib.hid hF
        have HT := Lib.hid hT
        have HX := Lib.hid (Touch.ext HW.out hT (fun b hb => by simp at hb; omega))
        have n0 := HX.out.cell N0.out
        have zn := lt_of_cell n0
        obtain ⟨e0, e1, -, -, -, -, -⟩ := hK.cells
        have zB := lt_of_cell e0
        clear hK hM hF hT
        by_cases hlt : i < u.classes.length
        · obtain rfl := pa (by omega)
          obtain ⟨d, hd⟩ : ∃ d, u.classes[i]? = some d := ⟨_, List.getElem?_eq_getElem hlt⟩
          obtain ⟨es, les, ces, res⟩ := HA.out i d hd
          obtain ⟨af, cf, am, cm, rfl, -, -⟩ := MClassDef.op_en res
          obtain ⟨fd, hfd⟩ := res
          have hxx := x2.trans HX.out
          have q0 := hxx.cell (show w.cell? ⟨ba, oa + i * 4, none⟩ = some (.string d.name) from ces 0 (by omega))
          have q1 := hxx.cell (show w.cell? ⟨ba, oa + i * 4 + 1, none⟩ = some (.string d.parent) from ces 1 (by omega))
          have q2 := hxx.cell (show w.cell? ⟨ba, oa + i * 4 + 2, none⟩ = some (.slice af d.fields.length cf) from ces 2 (by omega))
          have q3 := hxx.cell (show w.cell? ⟨ba, oa + i * 4 + 3, none⟩ = some (.slice am d.methods.length cm) from ces 3 (by omega))
          have hdm := List.mem_of_getElem? hd
          have hcb := class_bulks (HBU.out.2.2 d hdm)
          obtain ⟨KN, hKN⟩ : ∃ K, builtinsL ++ namesC (u.classes.take i) = K := ⟨_, rfl⟩
          have hKl : KN.length = 16 + i := by rw [← hKN, List.length_append, namesC, List.length_map, List.length_take]; simp [builtinsL]; omega
          have hKj : ∀ j s, KN[j]? = some s → C[j]? = some s := fun j s hs => by
            rw [← HC.out, ← List.take_append_drop i u.classes, namesC, List.map_append, ← List.append_assoc]
            rw [← hKN] at hs
            rw [List.getElem?_append_left (by have := (List.getElem?_eq_some_iff.1 hs).1; exact this)]
            exact hs
          obtain ⟨T9, hT9⟩ : ∃ T, orT (clssP C (builtinsL ++ namesC (u.classes.take (i + 1))) (fmAll (u.classes.take (i + 1))) (u.classes.drop (i + 1))) TL = T := ⟨_, rfl⟩
          have HQ2 : Hid (EV = orT (orT q (clsP C KN (fmAll (u.classes.take i)) d)) T9) := Lib.hid (by rw [hQ.out, clss_rest hd, hKN, orT_assoc, orT_assoc, ← hT9])
          have HFS : Hid (fmAll (u.classes.take (i + 1)) = clsF (fmAll (u.classes.take i)) d) := Lib.hid (by rw [List.take_add_one, hd, Option.toList_some, fmAll_snoc])
          have hil : (i : Int) < u.classes.length := by omega
          have hi0 : (0 : Int) ≤ i := by omega
          have hic : (16 : Int) + i ≤ cg := by have := HCl.out; omega
          have CC : Hid (∀ W, Touch wr W [] → wr.heap.size ≤ W.heap.size → Calls Tryz.prog 18 #[.pointer (some ⟨B, 0, none⟩), .agg #[.string d.name, .string d.parent, .slice af d.fields.length cf, .slice am d.methods.length cm], .slice (some ⟨g, 0, none⟩) (16 + i) cg] W fun e w' => e = .returned (.tuple #[]) ∧ Chk w' B WC.heap.size (.slice (some ⟨g, 0, none⟩) C.length cg) (.map (some mb)) (.slice none 0 0) false (orT q (clsP C KN (fmAll (u.classes.take i)) d)) [] (.slice none 0 0) (.slice none 0 0) ∧ (∃ Dm', World.ownsMap (H := Value) w' Tryz.prog 9 RM mb (4 + i + 1) Dm' ∧ FmIs w' B mb Dm' (clsF (fmAll (u.classes.take i)) d)) ∧ Touch WC w' [B, mb]) := Lib.hid fun W hW hs => by
            have hE : Ext wr W := Touch.ext (Ext.refl wr) hW (fun k hk => nomatch hk)
            have TW := HT.out.trans (Touch.of_ext hE [B, mb])
            have hgW : g < W.heap.size := by
              obtain ⟨fp, h1, h2⟩ := HRM.out.touch TW
              have h3 := h1
              obtain ⟨_, _, h4, -, -, -, h5⟩ := RepF.sl_iff.1 h3
              simp only [List.cons.injEq, and_true, Value.slice.injEq] at h4
              rcases h5 with ⟨h5, -⟩ | ⟨b, o, cells, fp', -, h6, -, h7, -⟩
              · have := congrArg List.length h5; rw [List.length_map, List.length_nil] at this; have := HCl.out; omega
              · rw [← h4.1] at h6; simp at h6; omega
            have rKf : RepF W (strs KN) [.slice (some ⟨g, 0, none⟩) KN.length cg] [g] := RepF.strs_mk (by omega) (by unfold maxLen; omega) (fun h => by rw [h] at hKl; simp at hKl; omega) hgW (fun j s hs => by
              rw [Nat.zero_add]
              exact TW.cellAt (by simp; exact ⟨hgB, hgm⟩) (HCC.out j s (hKj j s hs)))
            have h := class_any C KN (fmAll (u.classes.take i)) d [.string d.name, .string d.parent, .slice af d.fields.length cf, .slice am d.methods.length cm] fd [g] g 0 cg W (HK.out.ext hE) (HRM.out.touch TW).low (own_map_touch HM.out hW (by simp)) (HF.out.touch (Touch.of_ext hE _)) hmB (by omega) (hfd.ext (hxx.trans hE)) rKf (fun k hk => by
              simp only [List.mem_append, List.mem_cons, List.not_mem_nil, or_false] at hk
              rcases hk with hk | rfl
              · have := hfd.lt _ k hk
                have := x2.size
                omega
              · exact ⟨hgB, hgm⟩) (by omega) ⟨hcb.1, hcb.2.1, hcb.2.2.2.1, hcb.2.2.1.2, fun m hm => bulk_sel (hcb.2.2.2.2 m hm)⟩ ⟨by have := fmAll_len (fun e he => HZ.out e (List.mem_of_mem_take he)) (by rw [List.length_take]; omega) d.parent (l := u.classes.take i); omega, by have := HZ.out d hdm; omega⟩
            rw [hKl] at h
            exact h.mono fun e w' ⟨h1, h2, h3, h4⟩ => ⟨h1, h2, h3, TW.trans h4⟩
          have HT9 := Lib.hid hT9
          clear hKl hKj hKN hT9 hQ hd hdm hcb les ces hxx hfd
          go_upto_region 17 with fail
          generalize hS : World.alloc wr _ = WD
          have xd : Ext wr WD := by rw [← hS]; exact (Ext.refl _).alloc _
          have d0 : WD.cell? ⟨wr.heap.size, 0, none⟩ = some (.string d.name) := by rw [← hS]; simp
          have d1 : WD.cell? ⟨wr.heap.size, 1, none⟩ = some (.string d.parent) := by rw [← hS]; simp
          have d2 : WD.cell? ⟨wr.heap.size, 2, none⟩ = some (.slice af d.fields.length cf) := by rw [← hS]; simp
          have d3 : WD.cell? ⟨wr.heap.size, 3, none⟩ = some (.slice am d.methods.length cm) := by rw [← hS]; simp
          clear hS q0 q1 q2 q3
          replace e0 := xd.cell e0
          have ze := lt_of_cell e0
          have zd := lt_of_cell d0
          clear n0 zn e1 zB
          have hw1 : IntKind.i64.wrap (16 + (i : Int)) = 16 + (i : Int) := IntWalk.i64_in _ (by omega)
          have hw2 : (0 : Int) ≤ 16 + (i : Int) := by omega
          have hw3 : (16 + (i : Int)).toNat = 16 + i := by omega
          have hw4 : 16 + i ≤ cg := by omega
          clear hic
          go_region_with (refine (CC.out _ (Touch.of_ext (xd.trans (by first | exact Ext.drew (Ext.refl _) | exact Ext.refl _)) _) (by first | exact (xd.trans (Ext.drew (Ext.refl _))).size | exact xd.size)).mono ?_; rintro e w7 ⟨rfl, hK, ⟨Dn, hM, hF⟩, hT⟩)
          all_goals
            clear d0 d1 d2 d3 e0 ze zd hw1 hw2 hw3 hw4
            go_wp2_with fail
            go_roundw
            case rel => exact ⟨i + 1, _, Dn, by omega, by go_num, hK, hM, by rw [HFS.out]; exact hF, hT, Lib.hid (by rw [HQ2.out, ← HT9.out])⟩
            case measure => simp [intOf]; omega
        obtain rfl : i = u.classes.length := by omega
        rw [List.take_length] at HF
        have H1 : Hid (EV = orT q (orT (firstT ((u.classes.drop 0).map fun d => firstT (d.methods.map (metP C (fmAll u.classes) d)))) MN)) := Lib.hid (by rw [hQ.out, List.drop_length, clssP, orT_l, ← HTL.out, List.drop_zero])
        obtain ⟨W5_, hw5⟩ : ∃ x, x = wr := ⟨_, rfl⟩
        subst hw5
        have hsz5 := HT.out.size
        have K5 : Hid (Chk W5_ B W5_.heap.size (.slice (some ⟨g, 0, none⟩) C.length cg) (.map (some mb)) (.slice none 0 0) false q [] (.slice none 0 0) (.slice none 0 0)) := Lib.hid ⟨HK.out.own, HK.out.own.lt, Nat.le_refl _, Acc.nil _ _ _ _, Acc.nil _ _ _ _, fun k hk => nomatch hk⟩
        have RM5 : Hid (RepM W5_ B mb W5_.heap.size (strs C) (.slice (some ⟨g, 0, none⟩) C.length cg)) := Lib.hid (let ⟨fp, h1, h2⟩ := HRM.out.touch HT.out; ⟨fp, h1, fun k hk => ⟨Nat.lt_of_lt_of_le (h2 k hk).1 hsz5, (h2 k hk).2⟩⟩)
        have hB5 := HK.out.own.lt
        have hl5 := HX.out.size
        have RCW : Hid (∀ W, Touch W5_ W [B] → RepL W B W5_.heap.size (strs C) (.slice (some ⟨g, 0, none⟩) C.length cg)) := Lib.hid fun W hT => RM5.out.low.touch hT (fun k hk => Or.inl (by simpa using hk))
        have HMW : Hid (∀ W, Touch W5_ W [B] → World.ownsMap (H := Value) W Tryz.prog 9 RM mb (4 + u.classes.length) Dm') := Lib.hid fun W hT => own_map_touch HM.out hT (by simpa using hmB)
        have HXW : Hid (∀ W, Touch W5_ W [B] → Ext w2 W) := Lib.hid fun W hT => Touch.ext HX.out hT (fun b hb => by simp at hb; omega)
        have HVW : Hid (∀ s : ByteArray, s.size ≤ 1048576 → ∃ aq cq, (∀ W, Touch W5_ W [B] → (Instr.lookup 54 (.map (some mb)) (.string s) false).run Tryz.prog W = .ok (.slice aq (fmAll u.classes s).length cq) W) ∧ ∀ W, Touch W5_ W [B] → RepL W B W5_.heap.size (strs (fmAll u.classes s)) (.slice aq (fmAll u.classes s).length cq)) := Lib.hid fun s hs => by
          obtain ⟨aq, cq, gq, hat, hrq, hq1, hq2⟩ := HF.out s
          refine ⟨aq, cq, fun W hT => ?_, fun W hT => ?_⟩
          · obtain ⟨v, ps, hrun, hv⟩ := (HMW.out W hT).lookup keyS2 Tryz.underlying54 (zeroL W) (zd := .held (.slice none 0 0)) (zp := []) rfl (keyOf_string_mk Tryz.underlying9 (s := s) (by unfold maxLen; omega))
            rw [hat] at hv
            simp only [RM, Option.some.injEq, Prod.mk.injEq, DataW.held.injEq] at hv
            rw [hrun, hv.1]
          · exact ⟨gq, hrq.touch hT (fun k hk hm => hq1 (by simp at hm; exact hm ▸ hk)), fun k hk => ⟨hrq.lt _ k hk, fun e => hq1 (e ▸ hk)⟩⟩
        clear n0 zn e0 e1 zB hQ HK HT HM HF HX hlt
        generalize Value.slice (some ⟨g, 0, none⟩) C.length cg = cC at *
        have n0 := (HXW.out _ (Touch.of_ext (Ext.refl _) _)).cell N0.out
        have zn := lt_of_cell n0
        go_wp2_with fail
        go_loopw [76] (fun iv wr => ∃ (i : Nat) (q : ByteArray) (cV : Value) (ow : Bool) (vd vp : Value), i ≤ u.classes.length ∧ iv = .int .i64 i ∧ Chk wr B W5_.heap.size cC (.map (some mb)) cV ow q [] vd vp ∧ Touch W5_ wr [B] ∧ Hid (EV = orT q (orT (firstT ((u.classes.drop i).map fun d => firstT (d.methods.map (metP C (fmAll u.classes) d)))) MN))) (fun iv _ => u.classes.length - (intOf iv).toNat)
        case atStart => exact ⟨0, _, _, _, _, _, Nat.zero_le _, rfl, K5.out, Touch.of_ext (Ext.refl _) _, H1⟩
        case round =>
          clear n0 zn K5 H1
          obtain ⟨i, q, cV, ow, vd, vp, hi, rfl, hK, hT, hQ⟩ := hrel
          have HK := Lib.hid hK
          have HT := Lib.hid hT
          have HX := Lib.hid (HXW.out _ hT)
          have n0 := HX.out.cell N0.out
          have zn := lt_of_cell n0
          clear hK hT
          by_cases hlt : i < u.classes.length
          · obtain rfl := pa (by omega)
            obtain ⟨d, hd⟩ : ∃ d, u.classes[i]? = some d := ⟨_, List.getElem?_eq_getElem hlt⟩
            obtain ⟨es, les, ces, res⟩ := HA.out i d hd
            obtain ⟨af, cf, am, cm, rfl, -, rmm⟩ := MClassDef.op_en res
            have hxx := x2.trans HX.out
            have q0 := hxx.cell (show w.cell? ⟨ba, oa + i * 4, none⟩ = some (.string d.name) from ces 0 (by omega))
            have q1 := hxx.cell (show w.cell? ⟨ba, oa + i * 4 + 1, none⟩ = some (.string d.parent) from ces 1 (by omega))
            have q2 := hxx.cell (show w.cell? ⟨ba, oa + i * 4 + 2, none⟩ = some (.slice af d.fields.length cf) from ces 2 (by omega))
            have q3 := hxx.cell (show w.cell? ⟨ba, oa + i * 4 + 3, none⟩ = some (.slice am d.methods.length cm) from ces 3 (by omega))
            have hdm := List.mem_of_getElem? hd
            have HOD := Lib.hid (HOK.out.2.2 d hdm)
            have hcb := class_bulks (HBU.out.2.2 d hdm)
            have HMB := Lib.hid hcb.2.2.2.2
            have hmz := hcb.2.2.1.2
            have hnz := hcb.1
            obtain ⟨REST, hRE⟩ : ∃ R, orT (firstT ((u.classes.drop (i + 1)).map fun d => firstT (d.methods.map (metP C (fmAll u.classes) d)))) MN = R := ⟨_, rfl⟩
            have HRE := Lib.hid hRE
            have HQ2 : Hid (EV = orT q (orT (firstT ((d.methods.drop 0).map (metP C (fmAll u.classes) d))) REST)) := Lib.hid (by rw [hQ.out, drop_cons hd, List.map_cons, firstT, orT_assoc, hRE, List.drop_zero])
            obtain ⟨amm, cmm, bm, om, h1, hlm, hmm, pm, hmm2⟩ := Rep.slmap rmm
            simp only [List.cons.injEq, and_true, Value.slice.injEq] at h1
            obtain ⟨rfl, -, rfl⟩ := h1
            unfold maxLen at hmm
            have HMM := Lib.hid hmm2
            have hil : (i : Int) < u.classes.length := by omega
            have hi0 : (0 : Int) ≤ i := by omega
            clear hd les ces res hxx rmm hmm2 hcb hRE hQ hdm
            go_upto_region 22 with fail
            generalize hS : World.alloc wr _ = WD
            have xd : Ext wr WD := by rw [← hS]; exact (Ext.refl _).alloc _
            have d0 : WD.cell? ⟨wr.heap.size, 0, none⟩ = some (.string d.name) := by rw [← hS]; simp
            have d3 : WD.cell? ⟨wr.heap.size, 3, none⟩ = some (.slice am d.methods.length cm) := by rw [← hS]; simp
            have hof : Hid (Off [wr.heap.size] B vd vp) := Lib.hid (fun k hk hm => by
              simp at hk; subst hk
              rw [mem_obs] at hm
              rcases hm with h | h | h
              · have := HK.out.own.lt; omega
              · have := (Acc.ge HK.out.ds h).2; omega
              · have := (Acc.ge HK.out.ps h).2; omega)
            have HKD := Lib.hid (HK.out.ext xd)
            have HTD := Lib.hid (HT.out.trans (Touch.of_ext xd [B]))
            have zd := lt_of_cell d0
            have hbs : Hid (wr.heap.size < WD.heap.size ∧ W5_.heap.size ≤ wr.heap.size) := Lib.hid ⟨lt_of_cell d0, HT.out.size⟩
            clear hS q0 q1 q2 q3 n0 zn HK HT HX xd
            generalize hbx : wr.heap.size = bx at *
            clear hbx
            go_wp2_with fail
            go_loopw [83] (fun kv w9 => ∃ (k : Nat) (q : ByteArray) (cV : Value) (ow : Bool) (vd vp : Value), k ≤ d.methods.length ∧ kv = .int .i64 k ∧ Chk w9 B W5_.heap.size cC (.map (some mb)) cV ow q [] vd vp ∧ Touch W5_ w9 [B] ∧ w9.cell? ⟨bx, 0, none⟩ = some (.string d.name) ∧ Hid (Off [bx] B vd vp) ∧ Hid (EV = orT q (orT (firstT ((d.methods.drop k).map (metP C (fmAll u.classes) d))) REST))) (fun kv _ => d.methods.length - (intOf kv).toNat)
            case atStart => exact ⟨0, _, _, _, _, _, Nat.zero_le _, rfl, HKD.out, HTD.out, d0, hof, HQ2⟩
            case round =>
              clear d0 d3 zd HKD HTD HQ2 hof
              obtain ⟨k, q, cV, ow, vd, vp, hk, rfl, hK, hT, d0, hof, hQ⟩ := hrel
              have HK := Lib.hid hK
              have HT := Lib.hid hT
              have zd := lt_of_cell d0
              obtain ⟨-, -, -, e3, e4, -, -⟩ := hK.cells
              have f3 := hK.own.frozen 3
              have f4 := hK.own.frozen 4
              have zB := lt_of_cell e3
              by_cases hkl : k < d.methods.length
              · obtain rfl := pm (by omega)
                obtain ⟨m, hm⟩ : ∃ m, d.methods[k]? = some m := ⟨_, List.getElem?_eq_getElem hkl⟩
                obtain ⟨es, les, ces, res⟩ := HMM.out k m hm
                obtain ⟨y1, z1, y2, z2, y3, z3, rfl, -, -, -⟩ := MMethod.op_en res
                obtain ⟨fmm, hfm⟩ := res
                have hxx := x2.trans (HXW.out _ HT.out)
                have r0 := hxx.cell (show w.cell? ⟨bm, om + k * 5, none⟩ = some (.string m.selector) from ces 0 (by omega))
                have r1 := hxx.cell (show w.cell? ⟨bm, om + k * 5 + 1, none⟩ = some (.bool m.cls) from ces 1 (by omega))
                have r2 := hxx.cell (show w.cell? ⟨bm, om + k * 5 + 2, none⟩ = some (.slice y1 m.params.length z1) from ces 2 (by omega))
                have r3 := hxx.cell (show w.cell? ⟨bm, om + k * 5 + 3, none⟩ = some (.slice y2 m.temps.length z2) from ces 3 (by omega))
                have r4 := hxx.cell (show w.cell? ⟨bm, om + k * 5 + 4, none⟩ = some (.slice y3 m.body.length z3) from ces 4 (by omega))
                have hmm_ := List.mem_of_getElem? hm
                have hmb := HMB.out m hmm_
                obtain ⟨P, hP⟩ : ∃ P, metP C (fmAll u.classes) d m = P := ⟨_, rfl⟩
                have HP := Lib.hid hP
                have HQ3 : Hid (EV = orT (orT q P) (orT (firstT ((d.methods.drop (k + 1)).map (metP C (fmAll u.classes) d))) REST)) := Lib.hid (by rw [hQ.out, drop_cons hm, List.map_cons, firstT, hP, orT_assoc, orT_assoc])
                have CALLB : Hid (∀ W, Touch W5_ W [B] → Calls Tryz.prog 20 #[.agg #[.string m.selector, .bool m.cls, .slice y1 m.params.length z1, .slice y2 m.temps.length z2, .slice y3 m.body.length z3]] W fun e w' => ∃ cs fp, e = .returned (.agg cs.toArray) ∧ RepF w' (blockM m.params m.temps m.body).d cs fp ∧ (∀ k, k ∈ fp → k < w.heap.size ∨ W.heap.size ≤ k) ∧ Ext W w') := Lib.hid fun W hT => (blockOf_f m _ fmm W (hfm.ext (x2.trans (HXW.out _ hT))) (bulk_method hmb)).mono fun e w' ⟨cs, fp, h1, h2, h3, h4⟩ => ⟨cs, fp, h1, h2, fun k hk => (h3 k hk).imp (hfm.lt _ k) id, h4⟩
                have CALLX : Hid (∀ (W : World) (cV : Value) (V : List ByteArray), Chk W B W5_.heap.size cC (.map (some mb)) cV true q [] vd vp → Touch W5_ W [B] → RepL W B W5_.heap.size (strs V) cV → ∀ cs fp, RepF W (blockM m.params m.temps m.body).d cs fp → Off fp B vd vp → Calls Tryz.prog 19 #[.pointer (some ⟨B, 0, none⟩), .agg cs.toArray] W fun e w' => e = .returned (.tuple #[]) ∧ ∃ vd' vp', Chk w' B W5_.heap.size cC (.map (some mb)) cV true (orT q (exV C V true [] (blockM m.params m.temps m.body))) [] vd' vp' ∧ Touch W5_ w' [B] ∧ Newer W vd vd' ∧ Newer W vp vp' ∧ Touch W w' (obs B vd vp)) := Lib.hid fun W cV V hk ht rv cs fp hr ho =>
                  (ex_at C V true _ true _ cs fp B W5_.heap.size cC (.map (some mb)) cV q [] vd vp W (HOD.out.2.2 m hmm_).2.2.2.2 hr ho hk (RCW.out W ht) rv (by have := bulk_block hmb; simp; omega)).mono fun e w' ⟨h1, vd', vp', h2, h3, h4, h5⟩ => ⟨h1, vd', vp', h2, ht.trans' h3 (fun x hx => by
                    rcases obs_low hk x hx with h | h
                    · exact Or.inl (by simp [h])
                    · exact Or.inr h), h4, h5, h3⟩
                have hkl2 : (k : Int) < d.methods.length := by omega
                have hk0 : (0 : Int) ≤ k := by omega
                clear hP hm les ces hmb hfm hxx hQ hmm_
                go_upto_region 25 with fail
                generalize hS : World.alloc wr _ = WM
                have xm : Ext wr WM := by rw [← hS]; exact (Ext.refl _).alloc _
                have OM : Own WM wr.heap.size 35 #[.string m.selector, .bool m.cls, .slice y1 m.params.length z1, .slice y2 m.temps.length z2, .slice y3 m.body.length z3] := by rw [← hS]; exact own_new wr _ _
                have HKM := Lib.hid (HK.out.ext xm)
                have HTM := Lib.hid (HT.out.trans (Touch.of_ext xm [B]))
                have d0 := xm.cell d0
                have zB2 : B < wr.heap.size := zB
                clear hS r0 r1 r2 r3 r4 HK HT xm zB zd e3 e4 f3 f4
                generalize hbm2 : wr.heap.size = bq at *
                clear hbm2
                obtain ⟨-, -, -, e3, e4, -, -⟩ := HKM.out.cells
                have f4 := HKM.out.own.frozen 4
                have zB := lt_of_cell e3
                have zq := OM.lt
                have zd := lt_of_cell d0
                go_upto_region 26 with fail
                generalize hS : World.setCell WM _ _ = W6
                obtain ⟨K6, T6⟩ := HKM.out.setO true
                rw [hS] at K6 T6
                replace OM := OM.touch' T6 (by simp; omega)
                have hbxB : bx ≠ B := fun h => hof.out bx (by simp) (mem_obs.2 (Or.inl h))
                replace d0 := T6.cellAt (by simpa using hbxB) d0
                have HK6 := Lib.hid K6
                have HT6 := Lib.hid (HTM.out.trans T6)
                clear hS K6 T6 HKM HTM e3 e4 f4 zB zq zd
                obtain ⟨-, -, -, e3, e4, -, -⟩ := HK6.out.cells
                have f3 := HK6.out.own.frozen 3
                have zB := lt_of_cell e3
                have zq := OM.lt
                have zd := lt_of_cell d0
                go_upto_region 27 with fail
                generalize hS : World.setCell W6 _ _ = W7
                obtain ⟨K7, T7⟩ := HK6.out.setV (.slice none 0 0)
                rw [hS] at K7 T7
                replace OM := OM.touch' T7 (by simp; omega)
                replace d0 := T7.cellAt (by simpa using hbxB) d0
                have HK7 := Lib.hid K7
                have HT7 := Lib.hid (HT6.out.trans T7)
                clear hS K7 T7 HK6 HT6 e3 e4 f3 zB zq zd
                obtain ⟨-, e1, -, e3, -, -, -⟩ := HK7.out.cells
                have f3 := HK7.out.own.frozen 3
                have zB := lt_of_cell e3
                have zq := OM.lt
                have zd := lt_of_cell d0
                have p0 : W7.cell? ⟨bq, 0, none⟩ = some (.string m.selector) := OM.cell 0
                have p1 : W7.cell? ⟨bq, 1, none⟩ = some (.bool m.cls) := OM.cell 1
                have p2 : W7.cell? ⟨bq, 2, none⟩ = some (.slice y1 m.params.length z1) := OM.cell 2
                have p3 : W7.cell? ⟨bq, 3, none⟩ = some (.slice y2 m.temps.length z2) := OM.cell 3
                have p4 : W7.cell? ⟨bq, 4, none⟩ = some (.slice y3 m.body.length z3) := OM.cell 4
                have HPC : Hid (P = exV C (if m.cls = true then [] else fmAll u.classes d.name) true [] (blockM m.params m.temps m.body)) := Lib.hid (by rw [← HP.out]; rfl)
                obtain ⟨mc, hmc⟩ : ∃ b, m.cls = b := ⟨_, rfl⟩
                rw [hmc] at p1 HPC CALLB
                have HMC2 := Lib.hid hmc
                clear hmc HP OM
                cases mc
                rotate_left
                · have HPM : Hid (P = exV C [] true [] (blockM m.params m.temps m.body)) := Lib.hid (by rw [HPC.out, if_pos rfl])
                  clear HPC
                  go_wp2_with fail
                  refine (CALLB.out _ HT7.out).mono ?_
                  rintro e w8 ⟨cs, fp, rfl, hr, hf, hx⟩
                  have K8 := HK7.out.ext hx
                  have T8 := HT7.out.trans (Touch.of_ext hx [B])
                  have d8 := hx.cell d0
                  have OF8 : Off fp B vd vp := fun k hk hm => by
                    rcases hf k hk with h | h
                    · have h1 := obs_low K8 k hm
                      have h2 := HXW.out _ (Touch.of_ext (Ext.refl _) _)
                      have h3 := x2.size
                      have h4 := h2.size
                      rcases h1 with h1 | h1 <;> omega
                    · rw [mem_obs] at hm
                      rcases hm with rfl | h5 | h5
                      · have := HK7.out.own.lt; omega
                      · have := (Acc.ge HK7.out.ds h5).2; omega
                      · have := (Acc.ge HK7.out.ps h5).2; omega
                  have CX := Lib.hid (CALLX.out w8 (.slice none 0 0) [] K8 T8 (repL_nil _ _ _) cs fp hr OF8)
                  have BX8 : Hid (bx < w8.heap.size) := Lib.hid (lt_of_cell d8)
                  have D8 := Lib.hid d8
                  clear hr hf OF8 K8 T8 d8 p0 p1 p2 p3 p4 e1 e3 f3 zB zq zd
                  go_wp2_with fail
                  refine CX.out.mono ?_
                  rintro e w10 ⟨rfl, vd', vp', K10, T10, n1_, n2_, TO⟩
                  have d10 := TO.cellAt (show bx ∉ obs B vd vp from hof.out bx (by simp)) D8.out
                  have OF10 := Lib.hid (hof.out.newer n1_ n2_ (fun k hk => by simp at hk; subst hk; exact BX8.out))
                  clear n1_ n2_ TO
                  go_wp2_with fail
                  go_roundw
                  case rel => exact ⟨k + 1, _, _, _, vd', vp', by omega, by go_num, K10, T10, d10, OF10, Lib.hid (by rw [HQ3.out, HPM.out])⟩
                  case measure => simp [intOf]; omega
                have HPM : Hid (P = exV C (fmAll u.classes d.name) true [] (blockM m.params m.temps m.body)) := Lib.hid (by rw [HPC.out, if_neg (by decide)])
                clear HPC
                obtain ⟨aq, cq, HLK, HRV⟩ := HVW.out d.name hnz
                have HLK := Lib.hid HLK
                have HRV := Lib.hid HRV
                go_upto_region 28 with fail
                have hl0 := HLK.out W7 HT7.out
                have hl1 : (Instr.lookup 54 (.map (some mb)) (.string d.name) false).run Tryz.prog W7.drew = .ok (.slice aq (fmAll u.classes d.name).length cq) W7.drew := HLK.out W7.drew (HT7.out.trans (Touch.of_ext (Ext.drew (Ext.refl _)) [B]))
                go_region
                generalize hS : World.drew (World.setCell W7 _ _) = W8_
                obtain ⟨K9, T9⟩ := HK7.out.setV (.slice aq (fmAll u.classes d.name).length cq)
                replace K9 := K9.ext (Ext.drew (Ext.refl _))
                replace T9 := T9.trans (Touch.of_ext (Ext.drew (Ext.refl _)) [B])
                rw [hS] at K9 T9
                have hbqB : bq ∉ [B] := by simp; omega
                replace p0 := T9.cellAt hbqB p0
                replace p1 := T9.cellAt hbqB p1
                replace p2 := T9.cellAt hbqB p2
                replace p3 := T9.cellAt hbqB p3
                replace p4 := T9.cellAt hbqB p4
                replace d0 := T9.cellAt (by simpa using hbxB) d0
                have HT9 := Lib.hid (HT7.out.trans T9)
                have HK9 := Lib.hid K9
                clear hS hl0 hl1 e1 e3 f3 zB zq zd K9 T9 HK7 HT7 hbqB
                have zq := lt_of_cell p0
                have zd := lt_of_cell d0
                go_wp2_with fail
                refine (CALLB.out _ HT9.out).mono ?_
                rintro e w8 ⟨cs, fp, rfl, hr, hf, hx⟩
                have K8 := HK9.out.ext hx
                have T8 := HT9.out.trans (Touch.of_ext hx [B])
                have d8 := hx.cell d0
                have OF8 : Off fp B vd vp := fun k hk hm => by
                  rcases hf k hk with h | h
                  · have h1 := obs_low K8 k hm
                    have h2 := HXW.out _ (Touch.of_ext (Ext.refl _) _)
                    have h3 := x2.size
                    have h4 := h2.size
                    rcases h1 with h1 | h1 <;> omega
                  · rw [mem_obs] at hm
                    rcases hm with rfl | h5 | h5
                    · have := HK9.out.own.lt; omega
                    · have := (Acc.ge HK9.out.ds h5).2; omega
                    · have := (Acc.ge HK9.out.ps h5).2; omega
                have CX := Lib.hid (CALLX.out w8 (.slice aq (fmAll u.classes d.name).length cq) (fmAll u.classes d.name) K8 T8 (HRV.out _ T8) cs fp hr OF8)
                have BX8 : Hid (bx < w8.heap.size) := Lib.hid (lt_of_cell d8)
                have D8 := Lib.hid d8
                clear hr hf OF8 K8 T8 d8 p0 p1 p2 p3 p4 zq zd
                go_wp2_with fail
                refine CX.out.mono ?_
                rintro e w10 ⟨rfl, vd', vp', K10, T10, n1_, n2_, TO⟩
                have d10 := TO.cellAt (show bx ∉ obs B vd vp from hof.out bx (by simp)) D8.out
                have OF10 := Lib.hid (hof.out.newer n1_ n2_ (fun k hk => by simp at hk; subst hk; exact BX8.out))
                clear n1_ n2_ TO
                go_wp2_with fail
                go_roundw
                case rel => exact ⟨k + 1, _, _, _, vd', vp', by omega, by go_num, K10, T10, d10, OF10, Lib.hid (by rw [HQ3.out, HPM.out])⟩
                case measure => simp [intOf]; omega
              obtain rfl : k = d.methods.length := by omega
              have HN : Hid (EV = orT q REST) := Lib.hid (by rw [hQ.out, List.drop_length, List.map_nil, firstT, orT_l])
              clear hQ e3 e4 f3 f4 zB
              go_wp2_with fail
              go_roundw
              case rel => exact ⟨i + 1, q, cV, ow, vd, vp, by omega, by go_num, HK.out, HT.out, Lib.hid (by rw [HN.out, HRE.out])⟩
              case measure => simp [intOf]; omega
          obtain rfl : i = u.classes.length := by omega
          have HE : Hid (EV = orT q MN) := Lib.hid (by rw [hQ.out, List.drop_length, List.map_nil, firstT, orT_l])
          clear hQ hlt n0 zn
          have n0 := HX.out.cell N0.out
          have n1 := HX.out.cell N1.out
          have n2 := HX.out.cell N2.out
          have n3 := HX.out.cell N3.out
          have n4 := HX.out.cell N4.out
          have n5 := HX.out.cell N5.out
          have zn := lt_of_cell n0
          have hwB : w.heap.size ∉ [B] := by
            have h1 := HXW.out _ (Touch.of_ext (Ext.refl W5_) [B])
            have h2 := x2.size
            have h3 := lt_of_cell N0.out
            simp at h3 ⊢
            omega
          have HWB := Lib.hid hwB
          have hmb := HBU.out.1
          obtain ⟨fmm, hfm⟩ := RMN.out
          have CALLB : Hid (∀ W, Touch W5_ W [B] → Calls Tryz.prog 20 #[.agg #[.string u.main.selector, .bool u.main.cls, .slice a1 u.main.params.length c1, .slice a2 u.main.temps.length c2, .slice a3 u.main.body.length c3]] W fun e w' => ∃ cs fp, e = .returned (.agg cs.toArray) ∧ RepF w' (blockM u.main.params u.main.temps u.main.body).d cs fp ∧ (∀ k, k ∈ fp → k < w.heap.size ∨ W.heap.size ≤ k) ∧ Ext W w') := Lib.hid fun W hT => (blockOf_f u.main _ fmm W (hfm.ext (x2.trans (HXW.out _ hT))) (bulk_method hmb)).mono fun e w' ⟨cs, fp, h1, h2, h3, h4⟩ => ⟨cs, fp, h1, h2, fun k hk => (h3 k hk).imp (hfm.lt _ k) id, h4⟩
          have CALLX : Hid (∀ (W : World), Chk W B W5_.heap.size cC (.map (some mb)) (.slice none 0 0) false q [] vd vp → Touch W5_ W [B] → ∀ cs fp, RepF W (blockM u.main.params u.main.temps u.main.body).d cs fp → Off fp B vd vp → Calls Tryz.prog 19 #[.pointer (some ⟨B, 0, none⟩), .agg cs.toArray] W fun e w' => e = .returned (.tuple #[]) ∧ ∃ vd' vp', Chk w' B W5_.heap.size cC (.map (some mb)) (.slice none 0 0) false (orT q MN) [] vd' vp' ∧ Touch W5_ w' [B]) := Lib.hid fun W hk ht cs fp hr ho => by
            rw [← HMN.out]
            exact (ex_at C [] false _ true _ cs fp B W5_.heap.size cC (.map (some mb)) (.slice none 0 0) q [] vd vp W HOK.out.2.1.2.2.2.2.2 hr ho hk (RCW.out W ht) (repL_nil _ _ _) (by have := bulk_block hmb; simp; omega)).mono fun e w' ⟨h1, vd', vp', h2, h3, h4, h5⟩ => ⟨h1, vd', vp', h2, ht.trans' h3 (fun x hx => by
              rcases obs_low hk x hx with h | h
              · exact Or.inl (by simp [h])
              · exact Or.inr h)⟩
          obtain ⟨-, -, -, e3, e4, -, -⟩ := HK.out.cells
          have f4 := HK.out.own.frozen 4
          have zB := lt_of_cell e4
          clear hmb hfm
          go_upto_region 33 with fail
          generalize hS : World.setCell wr _ _ = W6
          obtain ⟨K6, T6⟩ := HK.out.setO false
          rw [hS] at K6 T6
          have HK6 := Lib.hid K6
          have HT6 := Lib.hid (HT.out.trans T6)
          replace n0 := T6.cellAt HWB.out n0
          replace n1 := T6.cellAt HWB.out n1
          replace n2 := T6.cellAt HWB.out n2
          replace n3 := T6.cellAt HWB.out n3
          replace n4 := T6.cellAt HWB.out n4
          replace n5 := T6.cellAt HWB.out n5
          clear hS K6 T6 HK HT HX e3 e4 f4 zB zn hwB
          obtain ⟨-, -, -, e3, -, -, -⟩ := HK6.out.cells
          have f3 := HK6.out.own.frozen 3
          have zB := lt_of_cell e3
          have zn := lt_of_cell n0
          go_upto_region 34 with fail
          generalize hS : World.setCell W6 _ _ = W7
          obtain ⟨K7, T7⟩ := HK6.out.setV (.slice none 0 0)
          rw [hS] at K7 T7
          have HK7 := Lib.hid K7
          have HT7 := Lib.hid (HT6.out.trans T7)
          replace n0 := T7.cellAt HWB.out n0
          replace n1 := T7.cellAt HWB.out n1
          replace n2 := T7.cellAt HWB.out n2
          replace n3 := T7.cellAt HWB.out n3
          replace n4 := T7.cellAt HWB.out n4
          replace n5 := T7.cellAt HWB.out n5
          clear hS K7 T7 HK6 HT6 e3 f3 zB zn
          have zn := lt_of_cell n0
          go_wp2_with fail
          refine (CALLB.out _ HT7.out).mono ?_
          rintro e w8 ⟨cs, fp, rfl, hr, hf, hx⟩
          have K8 := HK7.out.ext hx
          have T8 := HT7.out.trans (Touch.of_ext hx [B])
          have OF8 : Off fp B vd vp := fun k hk hm => by
            rcases hf k hk with h | h
            · have h1 := obs_low K8 k hm
              have h2 := HXW.out _ (Touch.of_ext (Ext.refl _) _)
              have h3 := x2.size
              have h4 := h2.size
              rcases h1 with h1 | h1 <;> omega
            · rw [mem_obs] at hm
              rcases hm with rfl | h5 | h5
              · have := HK7.out.own.lt; omega
              · have := (Acc.ge HK7.out.ds h5).2; omega
              · have := (Acc.ge HK7.out.ps h5).2; omega
          have CX := Lib.hid (CALLX.out w8 K8 T8 cs fp hr OF8)
          clear hr hf OF8 K8 T8 n0 n1 n2 n3 n4 n5 zn HK7 HT7 CALLX CALLB
          go_wp2_with fail
          refine CX.out.mono ?_
          rintro e w10 ⟨rfl, vd', vp', K10, T10⟩
          have HX10 := Lib.hid (HXW.out _ T10)
          obtain ⟨-, -, e2, -, -, -, -⟩ := K10.cells
          have zB := lt_of_cell e2
          clear K10 T10 CX
          go_wp2_with fail
          go_ret2
          exact ⟨by rw [HEV.out, HE.out, HPB.out]; rfl, x2.trans HX10.out⟩

end Go.Proofs.YtlppoffneeglgaaGreatDoor
