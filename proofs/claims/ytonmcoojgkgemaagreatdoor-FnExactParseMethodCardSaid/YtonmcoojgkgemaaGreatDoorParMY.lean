/-
  CONTRACTS: ParseMethod, of the program and of the reference.
  Conditions: those that each lemma states.
-/
import Derived.Test.YtonmcoojgkgemaaGreatDoorRows
import Derived.Test.YtonmcoojgkgemaaGreatDoorP30
import Derived.Test.YtonmcoojgkgemaaGreatDoorP34
import Derived.Test.YtonmcoojgkgemaaGreatDoorParMR
import Derived.Test.YtonmcoojgkgemaaGreatDoorP44
namespace Go.Proofs.YtonmcoojgkgemaaGreatDoor
open Go.RowKit
set_option linter.unusedSimpArgs false
set_option linter.unusedVariables false

def GivesM (w : World) (s : ByteArray) (e : Ending) (w' : World) : Prop := ∃ cs fp, e = .returned (.tuple #[.agg (List.toArray cs), .bool (parseM s).isSome]) ∧ RepF w' ((parseM s).getD zM).d cs fp ∧ Fresh w' w.heap.size fp ∧ Ext w w'
def GivesMs (w : World) (s : ByteArray) (e : Ending) (w' : World) : Prop := ∃ cs fp, e = .returned (.tuple #[.agg (List.toArray cs), .bool (parseM s).isSome]) ∧ RepF w' ((parseM s).getD zM).d cs fp ∧ (∀ k, k ∈ fp → w.heap.size ≤ k) ∧ Ext w w'
theorem gotM_no {s : ByteArray} {ts : List MToken} {ok b' : Bool} {x : MMethod} {a' : Nat} (hok : (toksL s).isSome = ok) (hts : (toksL s).getD [] = ts) (hg : Got (!ok) (fun n => pMeth ts n 0) b' (x, a')) (hn : ¬ (b' = false ∧ a' = ts.length)) : parseM s = none := by
  cases ht : toksL s with
  | none => exact parseM_no1 ht
  | some us =>
    rw [ht] at hok hts
    subst hok
    have hts : us = ts := hts
    subst hts
    cases b' with
    | true => exact parseM_no2 ht (hg.no rfl rfl)
    | false => exact parseM_no3 ht (hg.yes rfl rfl) (Or.inl (fun h => hn ⟨rfl, h⟩))
theorem gotM_yes {s : ByteArray} {ts : List MToken} {ok b' : Bool} {x : MMethod} {a' : Nat} (hok : (toksL s).isSome = ok) (hts : (toksL s).getD [] = ts) (hg : Got (!ok) (fun n => pMeth ts n 0) b' (x, a')) (hb : b' = false) (ha : a' = ts.length) :
    ok = true ∧ x.d.bulk ≤ 1048576 ∧ (MethOk x → parseM s = some x) ∧ (¬ MethOk x → parseM s = none) := by
  subst hb
  subst ha
  cases ht : toksL s with
  | none =>
    rw [ht] at hok
    subst hok
    have := hg.keep rfl
    cases this
  | some us =>
    rw [ht] at hok hts
    subst hok
    have hts : us = ts := hts
    subst hts
    have he := hg.yes rfl rfl
    obtain ⟨h1, h2⟩ := toks_sum ht
    exact ⟨rfl, evm_bulk h1 h2 he (by omega), fun h => parseM_yes ⟨us, ht, he, h⟩, fun h => parseM_no3 ht he (Or.inr h)⟩

theorem fld5m {w : World} {x : MMethod} {cs : List Value} {fp : List Nat} (h : RepF w x.d cs fp) : ∃ a1 c1 a2 c2 a3 c3, cs = [.string x.selector, .bool x.cls, .slice a1 x.params.length c1, .slice a2 x.temps.length c2, .slice a3 x.body.length c3] := by
  obtain ⟨a1, c1, a2, c2, a3, c3, rfl, -, -, -⟩ := MMethod.op_en h.rep
  exact ⟨a1, c1, a2, c2, a3, c3, rfl⟩
theorem zM_rep (w : World) : RepF w zM.d [.string ⟨#[]⟩, .bool false, .slice none 0 0, .slice none 0 0, .slice none 0 0] [] := MMethod.shut (x := zM) (rep_nilT w) (rep_nilT w) (rep_nilX w)

set_option maxHeartbeats 8000000 in
set_option maxRecDepth 100000 in
theorem impl_ParseMethod_any (s : ByteArray) (w : World) (hs : s.size ≤ 1048576) (hM : MaxOk w) : Calls Tryz.prog 12 #[.string s] w (GivesM w s) := by
  go_enter Tryz.func12, Tryz.ntmps12
  go_upto_region 1 with fail
  generalize hS : World.alloc w _ = W1
  have x1 : Ext w W1 := by rw [← hS]; exact (Ext.refl _).alloc _
  have O1 : Own W1 w.heap.size 32 #[.string ⟨#[]⟩, .bool false, .slice none 0 0, .slice none 0 0, .slice none 0 0] := by rw [← hS]; exact own_new w _ _
  clear hS
  have HM := Lib.hid (hM.ext x1)
  go_wp2_with fail
  refine (impl_Tokens_any s W1 hs HM.out).mono ?_
  rintro e w2 ⟨ao, n, cap, fp, rfl, hr, hf, hx⟩
  have O2 := O1.ext hx
  have HX2 := Lib.hid (x1.trans hx)
  obtain ⟨ok, hok⟩ : ∃ b, (toksL s).isSome = b := ⟨_, rfl⟩
  obtain ⟨ts, hts⟩ : ∃ l, (toksL s).getD [] = l := ⟨_, rfl⟩
  rw [hok]
  have HOK := Lib.hid hok
  have HTS := Lib.hid hts
  have HR := Lib.hid hr
  have hro := O1.lt
  have hs1 := x1.size
  have hs2 := hx.size
  clear hok hts hr hf hx x1 O1
  go_upto_region 3 with fail
  generalize hS : World.alloc w2 _ = W3
  have x3 : Ext w2 W3 := by rw [← hS]; exact (Ext.refl _).alloc _
  have OB : Own W3 w2.heap.size 54 #[.slice ao n cap, .int .i64 0, .bool (!ok)] := by rw [← hS]; exact own_new w2 _ _
  have O3 := O2.ext x3
  have HX3 := Lib.hid (HX2.out.trans x3)
  have hs3 := x3.size
  obtain ⟨hn, tb, to_, HP⟩ := Prs.make (s := s) HR.out x3 (Nat.le_refl _) OB
  rw [HTS.out] at HP hn
  subst hn
  have hb3 := OB.lt
  clear hS O2 HR x3 OB
  generalize hB : w2.heap.size = B at *
  clear hB
  go_wp2_with fail
  refine (method_any W3 HP).mono ?_
  rintro e w4 ⟨x, cs, fp, a', b', rfl, hr, hf, hp, hg, hm, hT⟩
  have O4 := O3.touch' hT (by simp; omega)
  have HX4 : Hid (Ext w w4) := Lib.hid (Touch.ext HX3.out hT (fun k hk => by simp at hk; omega))
  have hs4 := hT.size
  obtain ⟨y1, y2, y3, y4, y5, y6, rfl⟩ := fld5m hr
  have HG := Lib.hid hg
  have HR4 := Lib.hid hr
  have HP4 := Lib.hid hp
  clear hr hf hp hg hm hT HP O3
  go_upto_region 4 with fail
  generalize hS : World.alloc w4 _ = W5
  have x5 : Ext w4 W5 := by rw [← hS]; exact (Ext.refl _).alloc _
  have OE : Own W5 w4.heap.size 32 #[.string x.selector, .bool x.cls, .slice y1 x.params.length y2, .slice y3 x.temps.length y4, .slice y5 x.body.length y6] := by rw [← hS]; exact own_new w4 _ _
  have O5 := O4.ext x5
  have HP5 := Lib.hid (HP4.out.ext x5)
  have HR5 := Lib.hid (HR4.out.ext x5)
  have HX5 := Lib.hid (HX4.out.trans x5)
  have hs5 := x5.size
  clear hS O4 HP4 HR4 x5
  generalize hbe : w4.heap.size = eb at *
  clear hbe
  have HD := Lib.hid (done_any W5 HP5.out)
  by_cases hd : b' = false ∧ a' = ts.length
  rotate_left
  · have HN := Lib.hid (gotM_no HOK.out HTS.out HG.out hd)
    have hv : (!b' && decide (a' = ts.length)) = false := by
      cases b' with
      | true => rfl
      | false => simpa using fun h => hd ⟨rfl, h⟩
    rw [hv] at HD
    clear hd hv
    go_wp2_with fail
    refine HD.out.mono ?_
    rintro e w6 ⟨rfl, hx6⟩
    have O6 := O5.ext hx6
    have HX6 := Lib.hid (HX5.out.trans hx6)
    clear hx6 O5
    have o0 : w6.cell? ⟨w.heap.size, 0, none⟩ = some (.string ⟨#[]⟩) := O6.cell 0
    have of0 := O6.frozen 0
    have o1 : w6.cell? ⟨w.heap.size, 1, none⟩ = some (.bool false) := O6.cell 1
    have of1 := O6.frozen 1
    have o2 : w6.cell? ⟨w.heap.size, 2, none⟩ = some (.slice none 0 0) := O6.cell 2
    have of2 := O6.frozen 2
    have o3 : w6.cell? ⟨w.heap.size, 3, none⟩ = some (.slice none 0 0) := O6.cell 3
    have of3 := O6.frozen 3
    have o4 : w6.cell? ⟨w.heap.size, 4, none⟩ = some (.slice none 0 0) := O6.cell 4
    have of4 := O6.frozen 4
    have oz := O6.lt
    go_wp2_with fail
    generalize hS : World.setCell (World.setCell (World.setCell (World.setCell (World.setCell w6 _ _) _ _) _ _) _ _) _ _ = W9
    obtain ⟨O9, T9⟩ := own5m O6 (.string ⟨#[]⟩) (.bool false) (.slice none 0 0) (.slice none 0 0) (.slice none 0 0)
    rw [hS] at O9 T9
    clear hS
    have p0 : W9.cell? ⟨w.heap.size, 0, none⟩ = some (.string ⟨#[]⟩) := O9.cell 0
    have p1 : W9.cell? ⟨w.heap.size, 1, none⟩ = some (.bool false) := O9.cell 1
    have p2 : W9.cell? ⟨w.heap.size, 2, none⟩ = some (.slice none 0 0) := O9.cell 2
    have p3 : W9.cell? ⟨w.heap.size, 3, none⟩ = some (.slice none 0 0) := O9.cell 3
    have p4 : W9.cell? ⟨w.heap.size, 4, none⟩ = some (.slice none 0 0) := O9.cell 4
    have pz := O9.lt
    have FIN : GivesM w s (.returned (.tuple #[.agg #[.string ⟨#[]⟩, .bool false, .slice none 0 0, .slice none 0 0, .slice none 0 0], .bool false])) W9 := ⟨_, [], by rw [HN.out]; rfl, by rw [HN.out]; exact zM_rep W9, Fresh.nil _ _, Touch.ext HX6.out T9 (fun k hk => by simp at hk; omega)⟩
    exact bodyPost_ret (v := .tuple #[.agg #[.string ⟨#[]⟩, .bool false, .slice none 0 0, .slice none 0 0, .slice none 0 0], .bool false]) (by simp [results, Tryz.results12, go_sem, p0, p1, p2, p3, p4, pz]) rfl FIN
  obtain ⟨-, hbk, hy, hn⟩ := gotM_yes HOK.out HTS.out HG.out hd.1 hd.2
  have hv : (!b' && decide (a' = ts.length)) = true := by rw [hd.1, decide_eq_true hd.2]; rfl
  rw [hv] at HD
  have HY := Lib.hid hy
  have HNO := Lib.hid hn
  clear hd hv hy hn HG
  have q0 : W5.cell? ⟨eb, 0, none⟩ = some (.string x.selector) := OE.cell 0
  have qf0 := OE.frozen 0
  have q1 : W5.cell? ⟨eb, 1, none⟩ = some (.bool x.cls) := OE.cell 1
  have qf1 := OE.frozen 1
  have q2 : W5.cell? ⟨eb, 2, none⟩ = some (.slice y1 x.params.length y2) := OE.cell 2
  have qf2 := OE.frozen 2
  have q3 : W5.cell? ⟨eb, 3, none⟩ = some (.slice y3 x.temps.length y4) := OE.cell 3
  have qf3 := OE.frozen 3
  have q4 : W5.cell? ⟨eb, 4, none⟩ = some (.slice y5 x.body.length y6) := OE.cell 4
  have qf4 := OE.frozen 4
  have qz := OE.lt
  go_wp2_with fail
  refine HD.out.mono ?_
  rintro e w6 ⟨rfl, hx6⟩
  have O6 := O5.ext hx6
  have OE6 := OE.ext hx6
  have HX6 := Lib.hid (HX5.out.trans hx6)
  have HR6 := Lib.hid (HR5.out.ext hx6)
  have HM6 := Lib.hid (hM.ext HX6.out)
  have hs6 := hx6.size
  clear hx6 O5 OE HD q0 qf0 q1 qf1 q2 qf2 q3 qf3 q4 qf4 qz
  have q0 : w6.cell? ⟨eb, 0, none⟩ = some (.string x.selector) := OE6.cell 0
  have qf0 := OE6.frozen 0
  have q1 : w6.cell? ⟨eb, 1, none⟩ = some (.bool x.cls) := OE6.cell 1
  have qf1 := OE6.frozen 1
  have q2 : w6.cell? ⟨eb, 2, none⟩ = some (.slice y1 x.params.length y2) := OE6.cell 2
  have qf2 := OE6.frozen 2
  have q3 : w6.cell? ⟨eb, 3, none⟩ = some (.slice y3 x.temps.length y4) := OE6.cell 3
  have qf3 := OE6.frozen 3
  have q4 : w6.cell? ⟨eb, 4, none⟩ = some (.slice y5 x.body.length y6) := OE6.cell 4
  have qf4 := OE6.frozen 4
  have qz := OE6.lt
  have HI := Lib.hid (impl_IsMethod_any x _ w6 HR6.out.rep hbk HM6.out)
  by_cases hk : MethOk x
  rotate_left
  · have HN := Lib.hid (HNO.out hk)
    rw [prB_ff hk] at HI
    clear hk
    go_wp2_with fail
    refine HI.out.mono ?_
    rintro e w7 ⟨rfl, hx7⟩
    have O7 := O6.ext hx7
    have HX7 := Lib.hid (HX6.out.trans hx7)
    clear hx7 O6 OE6 q0 qf0 q1 qf1 q2 qf2 q3 qf3 q4 qf4 qz
    have o0 : w7.cell? ⟨w.heap.size, 0, none⟩ = some (.string ⟨#[]⟩) := O7.cell 0
    have of0 := O7.frozen 0
    have o1 : w7.cell? ⟨w.heap.size, 1, none⟩ = some (.bool false) := O7.cell 1
    have of1 := O7.frozen 1
    have o2 : w7.cell? ⟨w.heap.size, 2, none⟩ = some (.slice none 0 0) := O7.cell 2
    have of2 := O7.frozen 2
    have o3 : w7.cell? ⟨w.heap.size, 3, none⟩ = some (.slice none 0 0) := O7.cell 3
    have of3 := O7.frozen 3
    have o4 : w7.cell? ⟨w.heap.size, 4, none⟩ = some (.slice none 0 0) := O7.cell 4
    have of4 := O7.frozen 4
    have oz := O7.lt
    go_wp2_with fail
    generalize hS : World.setCell (World.setCell (World.setCell (World.setCell (World.setCell w7 _ _) _ _) _ _) _ _) _ _ = W9
    obtain ⟨O9, T9⟩ := own5m O7 (.string ⟨#[]⟩) (.bool false) (.slice none 0 0) (.slice none 0 0) (.slice none 0 0)
    rw [hS] at O9 T9
    clear hS
    have p0 : W9.cell? ⟨w.heap.size, 0, none⟩ = some (.string ⟨#[]⟩) := O9.cell 0
    have p1 : W9.cell? ⟨w.heap.size, 1, none⟩ = some (.bool false) := O9.cell 1
    have p2 : W9.cell? ⟨w.heap.size, 2, none⟩ = some (.slice none 0 0) := O9.cell 2
    have p3 : W9.cell? ⟨w.heap.size, 3, none⟩ = some (.slice none 0 0) := O9.cell 3
    have p4 : W9.cell? ⟨w.heap.size, 4, none⟩ = some (.slice none 0 0) := O9.cell 4
    have pz := O9.lt
    have FIN : GivesM w s (.returned (.tuple #[.agg #[.string ⟨#[]⟩, .bool false, .slice none 0 0, .slice none 0 0, .slice none 0 0], .bool false])) W9 := ⟨_, [], by rw [HN.out]; rfl, by rw [HN.out]; exact zM_rep W9, Fresh.nil _ _, Touch.ext HX7.out T9 (fun k hk => by simp at hk; omega)⟩
    exact bodyPost_ret (v := .tuple #[.agg #[.string ⟨#[]⟩, .bool false, .slice none 0 0, .slice none 0 0, .slice none 0 0], .bool false]) (by simp [results, Tryz.results12, go_sem, p0, p1, p2, p3, p4, pz]) rfl FIN
  have HN := Lib.hid (HY.out hk)
  rw [prB_tt hk] at HI
  clear hk
  go_wp2_with fail
  refine HI.out.mono ?_
  rintro e w7 ⟨rfl, hx7⟩
  have O7 := O6.ext hx7
  have OE7 := OE6.ext hx7
  have HX7 := Lib.hid (HX6.out.trans hx7)
  have HR7 := Lib.hid (HR6.out.ext hx7)
  have hs7 := hx7.size
  clear hx7 O6 OE6 HI q0 qf0 q1 qf1 q2 qf2 q3 qf3 q4 qf4 qz
  have q0 : w7.cell? ⟨eb, 0, none⟩ = some (.string x.selector) := OE7.cell 0
  have qf0 := OE7.frozen 0
  have q1 : w7.cell? ⟨eb, 1, none⟩ = some (.bool x.cls) := OE7.cell 1
  have qf1 := OE7.frozen 1
  have q2 : w7.cell? ⟨eb, 2, none⟩ = some (.slice y1 x.params.length y2) := OE7.cell 2
  have qf2 := OE7.frozen 2
  have q3 : w7.cell? ⟨eb, 3, none⟩ = some (.slice y3 x.temps.length y4) := OE7.cell 3
  have qf3 := OE7.frozen 3
  have q4 : w7.cell? ⟨eb, 4, none⟩ = some (.slice y5 x.body.length y6) := OE7.cell 4
  have qf4 := OE7.frozen 4
  have qz := OE7.lt
  go_wp2_with fail
  refine (copyMethod_any x _ w7 HR7.out.rep hbk).mono ?_
  rintro e w8 ⟨cs8, fp8, rfl, r8, f8, hx8⟩
  obtain ⟨u1, u2, u3, u4, u5, u6, rfl⟩ := fld5m r8
  have O8 := O7.ext hx8
  have HX8 := Lib.hid (HX7.out.trans hx8)
  have HR8 := Lib.hid r8
  have HF8 := Lib.hid f8
  have hs8 := hx8.size
  clear r8 f8 hx8 O7 OE7 q0 qf0 q1 qf1 q2 qf2 q3 qf3 q4 qf4 qz
  have o0 : w8.cell? ⟨w.heap.size, 0, none⟩ = some (.string ⟨#[]⟩) := O8.cell 0
  have of0 := O8.frozen 0
  have o1 : w8.cell? ⟨w.heap.size, 1, none⟩ = some (.bool false) := O8.cell 1
  have of1 := O8.frozen 1
  have o2 : w8.cell? ⟨w.heap.size, 2, none⟩ = some (.slice none 0 0) := O8.cell 2
  have of2 := O8.frozen 2
  have o3 : w8.cell? ⟨w.heap.size, 3, none⟩ = some (.slice none 0 0) := O8.cell 3
  have of3 := O8.frozen 3
  have o4 : w8.cell? ⟨w.heap.size, 4, none⟩ = some (.slice none 0 0) := O8.cell 4
  have of4 := O8.frozen 4
  have oz := O8.lt
  go_wp2_with fail
  generalize hS : World.setCell (World.setCell (World.setCell (World.setCell (World.setCell w8 _ _) _ _) _ _) _ _) _ _ = W9
  obtain ⟨O9, T9⟩ := own5m O8 (.string x.selector) (.bool x.cls) (.slice u1 x.params.length u2) (.slice u3 x.temps.length u4) (.slice u5 x.body.length u6)
  rw [hS] at O9 T9
  clear hS
  have p0 : W9.cell? ⟨w.heap.size, 0, none⟩ = some (.string x.selector) := O9.cell 0
  have p1 : W9.cell? ⟨w.heap.size, 1, none⟩ = some (.bool x.cls) := O9.cell 1
  have p2 : W9.cell? ⟨w.heap.size, 2, none⟩ = some (.slice u1 x.params.length u2) := O9.cell 2
  have p3 : W9.cell? ⟨w.heap.size, 3, none⟩ = some (.slice u3 x.temps.length u4) := O9.cell 3
  have p4 : W9.cell? ⟨w.heap.size, 4, none⟩ = some (.slice u5 x.body.length u6) := O9.cell 4
  have pz := O9.lt
  have hge : ∀ k, k ∈ fp8 → k ∉ [w.heap.size] := fun k hk hm => by have := HF8.out.ge k hk; simp at hm; omega
  have FIN : GivesM w s (.returned (.tuple #[.agg #[.string x.selector, .bool x.cls, .slice u1 x.params.length u2, .slice u3 x.temps.length u4, .slice u5 x.body.length u6], .bool true])) W9 := ⟨_, fp8, by rw [HN.out]; rfl, by rw [HN.out]; exact HR8.out.touch T9 hge, (HF8.out.touch T9 hge).mono (by omega), Touch.ext HX8.out T9 (fun k hk => by simp at hk; omega)⟩
  exact bodyPost_ret (v := .tuple #[.agg #[.string x.selector, .bool x.cls, .slice u1 x.params.length u2, .slice u3 x.temps.length u4, .slice u5 x.body.length u6], .bool true]) (by simp [results, Tryz.results12, go_sem, p0, p1, p2, p3, p4, pz]) rfl FIN

theorem cm_ne : (cmW.toList == []) = false := str_ne' (l := []) (fun h => by injection h with h; cases h)
theorem me_ne : (meW.toList == []) = false := str_ne' (l := []) (fun h => by injection h with h; cases h)

set_option maxHeartbeats 8000000 in
set_option maxRecDepth 100000 in
theorem spec_ParseMethod_any (s : ByteArray) (w : World) (hs : s.size ≤ 1048576) : Calls Tryz.prog 11 #[.string s] w (GivesMs w s) := by
  go_enter Tryz.func11, Tryz.ntmps11
  go_upto_region 1 with fail
  generalize hS : World.alloc w _ = W1
  have x1 : Ext w W1 := by rw [← hS]; exact (Ext.refl _).alloc _
  have O1 : Own W1 w.heap.size 32 #[.string ⟨#[]⟩, .bool false, .slice none 0 0, .slice none 0 0, .slice none 0 0] := by rw [← hS]; exact own_new w _ _
  clear hS
  go_wp2_with fail
  refine (spec_Tokens_any s W1 hs).mono ?_
  rintro e w2 ⟨ao, n, cap, fp, rfl, hr, hf, hx⟩
  have O2 := O1.ext hx
  have HX2 := Lib.hid (x1.trans hx)
  obtain ⟨ok, hok⟩ : ∃ b, (toksL s).isSome = b := ⟨_, rfl⟩
  obtain ⟨ts, hts⟩ : ∃ l, (toksL s).getD [] = l := ⟨_, rfl⟩
  rw [hok]
  have HOK := Lib.hid hok
  have HTS := Lib.hid hts
  have HR := Lib.hid hr
  have hro := O1.lt
  have hs1 := x1.size
  have hs2 := hx.size
  clear hok hts hr hf hx x1 O1
  go_upto_region 3 with fail
  generalize hS : World.alloc w2 _ = W3
  have x3 : Ext w2 W3 := by rw [← hS]; exact (Ext.refl _).alloc _
  have OB : Own W3 w2.heap.size 48 #[.slice ao n cap, .int .i64 0, .bool false] := by rw [← hS]; exact own_new w2 _ _
  have O3 := O2.ext x3
  have HX3 := Lib.hid (HX2.out.trans x3)
  have hs3 := x3.size
  obtain ⟨hn, tb, to_, hp⟩ := Prs.make (s := s) HR.out x3 (Nat.le_refl _) OB
  rw [HTS.out] at hp hn
  subst hn
  have hb3 := OB.lt
  clear hS O2 HR x3 OB
  generalize hB : w2.heap.size = B at *
  clear hB
  cases ok
  · have HN : Hid (parseM s = none) := Lib.hid (parseM_no1 (by have := HOK.out; cases h : toksL s with | none => rfl | some _ => rw [h] at this; cases this))
    clear hp
    have o0 : W3.cell? ⟨w.heap.size, 0, none⟩ = some (.string ⟨#[]⟩) := O3.cell 0
    have of0 := O3.frozen 0
    have o1 : W3.cell? ⟨w.heap.size, 1, none⟩ = some (.bool false) := O3.cell 1
    have of1 := O3.frozen 1
    have o2 : W3.cell? ⟨w.heap.size, 2, none⟩ = some (.slice none 0 0) := O3.cell 2
    have of2 := O3.frozen 2
    have o3 : W3.cell? ⟨w.heap.size, 3, none⟩ = some (.slice none 0 0) := O3.cell 3
    have of3 := O3.frozen 3
    have o4 : W3.cell? ⟨w.heap.size, 4, none⟩ = some (.slice none 0 0) := O3.cell 4
    have of4 := O3.frozen 4
    have oz := O3.lt
    go_wp2_with fail
    generalize hS : World.setCell (World.setCell (World.setCell (World.setCell (World.setCell W3 _ _) _ _) _ _) _ _) _ _ = W9
    obtain ⟨O9, T9⟩ := own5m O3 (.string ⟨#[]⟩) (.bool false) (.slice none 0 0) (.slice none 0 0) (.slice none 0 0)
    rw [hS] at O9 T9
    clear hS
    have p0 : W9.cell? ⟨w.heap.size, 0, none⟩ = some (.string ⟨#[]⟩) := O9.cell 0
    have p1 : W9.cell? ⟨w.heap.size, 1, none⟩ = some (.bool false) := O9.cell 1
    have p2 : W9.cell? ⟨w.heap.size, 2, none⟩ = some (.slice none 0 0) := O9.cell 2
    have p3 : W9.cell? ⟨w.heap.size, 3, none⟩ = some (.slice none 0 0) := O9.cell 3
    have p4 : W9.cell? ⟨w.heap.size, 4, none⟩ = some (.slice none 0 0) := O9.cell 4
    have pz := O9.lt
    have FIN : GivesMs w s (.returned (.tuple #[.agg #[.string ⟨#[]⟩, .bool false, .slice none 0 0, .slice none 0 0, .slice none 0 0], .bool false])) W9 := ⟨_, [], by rw [HN.out]; rfl, by rw [HN.out]; exact zM_rep W9, (fun k hk => nomatch hk), Touch.ext HX3.out T9 (fun k hk => by simp at hk; omega)⟩
    exact bodyPost_ret (v := .tuple #[.agg #[.string ⟨#[]⟩, .bool false, .slice none 0 0, .slice none 0 0, .slice none 0 0], .bool false]) (by simp [results, Tryz.results11, go_sem, p0, p1, p2, p3, p4, pz]) rfl FIN
  have HP3 := Lib.hid hp
  clear hp
  obtain ⟨t1, ht1⟩ : ∃ c, tkxB ts 0 8 cmW = c := ⟨_, rfl⟩
  have HC1 := Lib.hid ht1
  clear ht1
  cases t1
  rotate_left
  · have HE : Hid ((fun n => pMeth ts n 0) = fun n => pMRest ts n true 1) := Lib.hid (funext fun n => by unfold pMeth; rw [if_pos HC1.out])
    go_wp2_with fail
    refine (rtake_yes W3 HP3.out 8 cmW (by decide) cm_ne HC1.out).mono ?_
    rintro e w4 ⟨rfl, K4, T4⟩
    have hsP := T4.size
    have x4 : Ext w w4 := Touch.ext HX3.out T4 (fun k hk => by simp at hk; omega)
    have O4 : Own w4 w.heap.size 32 #[.string ⟨#[]⟩, .bool false, .slice none 0 0, .slice none 0 0, .slice none 0 0] := O3.touch' T4 (by simp; omega)
    have HX4 := Lib.hid x4
    have HP4 := Lib.hid K4
    clear x4 K4
    obtain ⟨k0, k1, k2⟩ := HP4.out.cells
    have zK := lt_of_cell k0
    go_wp2_with fail
    refine (l5Method_any w4 true HP4.out).mono ?_
    rintro e w6 ⟨x, cs, fp, a', b', rfl, hr, hf, hp, hg, hm, hT⟩
    rw [← HE.out] at hg
    have O6 := O4.touch' hT (by simp; omega)
    have HX6 : Hid (Ext w w6) := Lib.hid (Touch.ext HX4.out hT (fun k hk => by simp at hk; omega))
    have hs6 := hT.size
    have hs64 := HX4.out.size
    obtain ⟨y1, y2, y3, y4, y5, y6, rfl⟩ := fld5m hr
    have HG := Lib.hid hg
    have HR6 := Lib.hid hr
    have HF6 := Lib.hid hf
    have HP6 := Lib.hid hp
    clear hr hf hp hg hm hT HP4 O4 k0 k1 k2 zK
    go_upto_region 11 with fail
    generalize hS : World.alloc w6 _ = W5
    have x5 : Ext w6 W5 := by rw [← hS]; exact (Ext.refl _).alloc _
    have OE : Own W5 w6.heap.size 32 #[.string x.selector, .bool x.cls, .slice y1 x.params.length y2, .slice y3 x.temps.length y4, .slice y5 x.body.length y6] := by rw [← hS]; exact own_new w6 _ _
    have O5 := O6.ext x5
    have HP5 := Lib.hid (HP6.out.ext x5)
    have HR5 := Lib.hid (HR6.out.ext x5)
    have HX5 := Lib.hid (HX6.out.trans x5)
    have hs5 := x5.size
    clear hS O6 HP6 HR6 x5
    generalize hbe : w6.heap.size = eb at *
    clear hbe
    obtain ⟨c0, c1, c2⟩ := HP5.out.cells
    have zB := lt_of_cell c0
    cases b'
    rotate_left
    · have HN := Lib.hid (gotM_no (ok := true) HOK.out HTS.out HG.out (by simp))
      have o0 : W5.cell? ⟨w.heap.size, 0, none⟩ = some (.string ⟨#[]⟩) := O5.cell 0
      have of0 := O5.frozen 0
      have o1 : W5.cell? ⟨w.heap.size, 1, none⟩ = some (.bool false) := O5.cell 1
      have of1 := O5.frozen 1
      have o2 : W5.cell? ⟨w.heap.size, 2, none⟩ = some (.slice none 0 0) := O5.cell 2
      have of2 := O5.frozen 2
      have o3 : W5.cell? ⟨w.heap.size, 3, none⟩ = some (.slice none 0 0) := O5.cell 3
      have of3 := O5.frozen 3
      have o4 : W5.cell? ⟨w.heap.size, 4, none⟩ = some (.slice none 0 0) := O5.cell 4
      have of4 := O5.frozen 4
      have oz := O5.lt
      go_wp2_with fail
      generalize hS : World.setCell (World.setCell (World.setCell (World.setCell (World.setCell W5 _ _) _ _) _ _) _ _) _ _ = W9
      obtain ⟨O9, T9⟩ := own5m O5 (.string ⟨#[]⟩) (.bool false) (.slice none 0 0) (.slice none 0 0) (.slice none 0 0)
      rw [hS] at O9 T9
      clear hS
      have p0 : W9.cell? ⟨w.heap.size, 0, none⟩ = some (.string ⟨#[]⟩) := O9.cell 0
      have p1 : W9.cell? ⟨w.heap.size, 1, none⟩ = some (.bool false) := O9.cell 1
      have p2 : W9.cell? ⟨w.heap.size, 2, none⟩ = some (.slice none 0 0) := O9.cell 2
      have p3 : W9.cell? ⟨w.heap.size, 3, none⟩ = some (.slice none 0 0) := O9.cell 3
      have p4 : W9.cell? ⟨w.heap.size, 4, none⟩ = some (.slice none 0 0) := O9.cell 4
      have pz := O9.lt
      have FIN : GivesMs w s (.returned (.tuple #[.agg #[.string ⟨#[]⟩, .bool false, .slice none 0 0, .slice none 0 0, .slice none 0 0], .bool false])) W9 := ⟨_, [], by rw [HN.out]; rfl, by rw [HN.out]; exact zM_rep W9, (fun k hk => nomatch hk), Touch.ext HX5.out T9 (fun k hk => by simp at hk; omega)⟩
      exact bodyPost_ret (v := .tuple #[.agg #[.string ⟨#[]⟩, .bool false, .slice none 0 0, .slice none 0 0, .slice none 0 0], .bool false]) (by simp [results, Tryz.results11, go_sem, p0, p1, p2, p3, p4, pz]) rfl FIN
    by_cases ha : a' = ts.length
    rotate_left
    · have HN := Lib.hid (gotM_no (ok := true) HOK.out HTS.out HG.out (fun h => ha h.2))
      have hne : ((a' : Int) != (ts.length : Int)) = true := by simp; omega
      have hne2 : ((a' : Int) == (ts.length : Int)) = false := by simp; omega
      clear ha
      have o0 : W5.cell? ⟨w.heap.size, 0, none⟩ = some (.string ⟨#[]⟩) := O5.cell 0
      have of0 := O5.frozen 0
      have o1 : W5.cell? ⟨w.heap.size, 1, none⟩ = some (.bool false) := O5.cell 1
      have of1 := O5.frozen 1
      have o2 : W5.cell? ⟨w.heap.size, 2, none⟩ = some (.slice none 0 0) := O5.cell 2
      have of2 := O5.frozen 2
      have o3 : W5.cell? ⟨w.heap.size, 3, none⟩ = some (.slice none 0 0) := O5.cell 3
      have of3 := O5.frozen 3
      have o4 : W5.cell? ⟨w.heap.size, 4, none⟩ = some (.slice none 0 0) := O5.cell 4
      have of4 := O5.frozen 4
      have oz := O5.lt
      go_wp2_with fail
      generalize hS : World.setCell (World.setCell (World.setCell (World.setCell (World.setCell W5 _ _) _ _) _ _) _ _) _ _ = W9
      obtain ⟨O9, T9⟩ := own5m O5 (.string ⟨#[]⟩) (.bool false) (.slice none 0 0) (.slice none 0 0) (.slice none 0 0)
      rw [hS] at O9 T9
      clear hS
      have p0 : W9.cell? ⟨w.heap.size, 0, none⟩ = some (.string ⟨#[]⟩) := O9.cell 0
      have p1 : W9.cell? ⟨w.heap.size, 1, none⟩ = some (.bool false) := O9.cell 1
      have p2 : W9.cell? ⟨w.heap.size, 2, none⟩ = some (.slice none 0 0) := O9.cell 2
      have p3 : W9.cell? ⟨w.heap.size, 3, none⟩ = some (.slice none 0 0) := O9.cell 3
      have p4 : W9.cell? ⟨w.heap.size, 4, none⟩ = some (.slice none 0 0) := O9.cell 4
      have pz := O9.lt
      have FIN : GivesMs w s (.returned (.tuple #[.agg #[.string ⟨#[]⟩, .bool false, .slice none 0 0, .slice none 0 0, .slice none 0 0], .bool false])) W9 := ⟨_, [], by rw [HN.out]; rfl, by rw [HN.out]; exact zM_rep W9, (fun k hk => nomatch hk), Touch.ext HX5.out T9 (fun k hk => by simp at hk; omega)⟩
      exact bodyPost_ret (v := .tuple #[.agg #[.string ⟨#[]⟩, .bool false, .slice none 0 0, .slice none 0 0, .slice none 0 0], .bool false]) (by simp [results, Tryz.results11, go_sem, p0, p1, p2, p3, p4, pz]) rfl FIN
    obtain ⟨-, hbk, hy, hn⟩ := gotM_yes (ok := true) HOK.out HTS.out HG.out rfl ha
    subst ha
    have HY := Lib.hid hy
    have HNO := Lib.hid hn
    clear hy hn HG
    have q0 : W5.cell? ⟨eb, 0, none⟩ = some (.string x.selector) := OE.cell 0
    have qf0 := OE.frozen 0
    have q1 : W5.cell? ⟨eb, 1, none⟩ = some (.bool x.cls) := OE.cell 1
    have qf1 := OE.frozen 1
    have q2 : W5.cell? ⟨eb, 2, none⟩ = some (.slice y1 x.params.length y2) := OE.cell 2
    have qf2 := OE.frozen 2
    have q3 : W5.cell? ⟨eb, 3, none⟩ = some (.slice y3 x.temps.length y4) := OE.cell 3
    have qf3 := OE.frozen 3
    have q4 : W5.cell? ⟨eb, 4, none⟩ = some (.slice y5 x.body.length y6) := OE.cell 4
    have qf4 := OE.frozen 4
    have qz := OE.lt
    have HI := Lib.hid (spec_IsMethod_any x _ W5 HR5.out.rep hbk)
    by_cases hk : MethOk x
    rotate_left
    · have HN := Lib.hid (HNO.out hk)
      rw [prB_ff hk] at HI
      clear hk
      go_wp2_with fail
      refine HI.out.mono ?_
      rintro e w7 ⟨rfl, hx7⟩
      have O7 := O5.ext hx7
      have HX7 := Lib.hid (HX5.out.trans hx7)
      clear hx7 O5 OE q0 qf0 q1 qf1 q2 qf2 q3 qf3 q4 qf4 qz c0 c1 c2 zB
      have o0 : w7.cell? ⟨w.heap.size, 0, none⟩ = some (.string ⟨#[]⟩) := O7.cell 0
      have of0 := O7.frozen 0
      have o1 : w7.cell? ⟨w.heap.size, 1, none⟩ = some (.bool false) := O7.cell 1
      have of1 := O7.frozen 1
      have o2 : w7.cell? ⟨w.heap.size, 2, none⟩ = some (.slice none 0 0) := O7.cell 2
      have of2 := O7.frozen 2
      have o3 : w7.cell? ⟨w.heap.size, 3, none⟩ = some (.slice none 0 0) := O7.cell 3
      have of3 := O7.frozen 3
      have o4 : w7.cell? ⟨w.heap.size, 4, none⟩ = some (.slice none 0 0) := O7.cell 4
      have of4 := O7.frozen 4
      have oz := O7.lt
      go_wp2_with fail
      generalize hS : World.setCell (World.setCell (World.setCell (World.setCell (World.setCell w7 _ _) _ _) _ _) _ _) _ _ = W9
      obtain ⟨O9, T9⟩ := own5m O7 (.string ⟨#[]⟩) (.bool false) (.slice none 0 0) (.slice none 0 0) (.slice none 0 0)
      rw [hS] at O9 T9
      clear hS
      have p0 : W9.cell? ⟨w.heap.size, 0, none⟩ = some (.string ⟨#[]⟩) := O9.cell 0
      have p1 : W9.cell? ⟨w.heap.size, 1, none⟩ = some (.bool false) := O9.cell 1
      have p2 : W9.cell? ⟨w.heap.size, 2, none⟩ = some (.slice none 0 0) := O9.cell 2
      have p3 : W9.cell? ⟨w.heap.size, 3, none⟩ = some (.slice none 0 0) := O9.cell 3
      have p4 : W9.cell? ⟨w.heap.size, 4, none⟩ = some (.slice none 0 0) := O9.cell 4
      have pz := O9.lt
      have FIN : GivesMs w s (.returned (.tuple #[.agg #[.string ⟨#[]⟩, .bool false, .slice none 0 0, .slice none 0 0, .slice none 0 0], .bool false])) W9 := ⟨_, [], by rw [HN.out]; rfl, by rw [HN.out]; exact zM_rep W9, (fun k hk => nomatch hk), Touch.ext HX7.out T9 (fun k hk => by simp at hk; omega)⟩
      exact bodyPost_ret (v := .tuple #[.agg #[.string ⟨#[]⟩, .bool false, .slice none 0 0, .slice none 0 0, .slice none 0 0], .bool false]) (by simp [results, Tryz.results11, go_sem, p0, p1, p2, p3, p4, pz]) rfl FIN
    have HN := Lib.hid (HY.out hk)
    rw [prB_tt hk] at HI
    clear hk
    go_wp2_with fail
    refine HI.out.mono ?_
    rintro e w7 ⟨rfl, hx7⟩
    have O7 := O5.ext hx7
    have OE7 := OE.ext hx7
    have HX7 := Lib.hid (HX5.out.trans hx7)
    have HR7 := Lib.hid (HR5.out.ext hx7)
    have hs7 := hx7.size
    clear hx7 O5 OE HI q0 qf0 q1 qf1 q2 qf2 q3 qf3 q4 qf4 qz c0 c1 c2 zB
    have q0 : w7.cell? ⟨eb, 0, none⟩ = some (.string x.selector) := OE7.cell 0
    have qf0 := OE7.frozen 0
    have q1 : w7.cell? ⟨eb, 1, none⟩ = some (.bool x.cls) := OE7.cell 1
    have qf1 := OE7.frozen 1
    have q2 : w7.cell? ⟨eb, 2, none⟩ = some (.slice y1 x.params.length y2) := OE7.cell 2
    have qf2 := OE7.frozen 2
    have q3 : w7.cell? ⟨eb, 3, none⟩ = some (.slice y3 x.temps.length y4) := OE7.cell 3
    have qf3 := OE7.frozen 3
    have q4 : w7.cell? ⟨eb, 4, none⟩ = some (.slice y5 x.body.length y6) := OE7.cell 4
    have qf4 := OE7.frozen 4
    have qz := OE7.lt
    have o0 : w7.cell? ⟨w.heap.size, 0, none⟩ = some (.string ⟨#[]⟩) := O7.cell 0
    have of0 := O7.frozen 0
    have o1 : w7.cell? ⟨w.heap.size, 1, none⟩ = some (.bool false) := O7.cell 1
    have of1 := O7.frozen 1
    have o2 : w7.cell? ⟨w.heap.size, 2, none⟩ = some (.slice none 0 0) := O7.cell 2
    have of2 := O7.frozen 2
    have o3 : w7.cell? ⟨w.heap.size, 3, none⟩ = some (.slice none 0 0) := O7.cell 3
    have of3 := O7.frozen 3
    have o4 : w7.cell? ⟨w.heap.size, 4, none⟩ = some (.slice none 0 0) := O7.cell 4
    have of4 := O7.frozen 4
    have oz := O7.lt
    go_wp2_with fail
    generalize hS : World.setCell (World.setCell (World.setCell (World.setCell (World.setCell w7 _ _) _ _) _ _) _ _) _ _ = W9
    obtain ⟨O9, T9⟩ := own5m O7 (.string x.selector) (.bool x.cls) (.slice y1 x.params.length y2) (.slice y3 x.temps.length y4) (.slice y5 x.body.length y6)
    rw [hS] at O9 T9
    clear hS
    have p0 : W9.cell? ⟨w.heap.size, 0, none⟩ = some (.string x.selector) := O9.cell 0
    have p1 : W9.cell? ⟨w.heap.size, 1, none⟩ = some (.bool x.cls) := O9.cell 1
    have p2 : W9.cell? ⟨w.heap.size, 2, none⟩ = some (.slice y1 x.params.length y2) := O9.cell 2
    have p3 : W9.cell? ⟨w.heap.size, 3, none⟩ = some (.slice y3 x.temps.length y4) := O9.cell 3
    have p4 : W9.cell? ⟨w.heap.size, 4, none⟩ = some (.slice y5 x.body.length y6) := O9.cell 4
    have pz := O9.lt
    have hge : ∀ k, k ∈ fp → k ∉ [w.heap.size] := fun k hk hm => by have := HF6.out k hk; simp at hm; omega
    have FIN : GivesMs w s (.returned (.tuple #[.agg #[.string x.selector, .bool x.cls, .slice y1 x.params.length y2, .slice y3 x.temps.length y4, .slice y5 x.body.length y6], .bool true])) W9 := ⟨_, fp, by rw [HN.out]; rfl, by rw [HN.out]; exact HR7.out.touch T9 hge, fun k hk => by have := HF6.out k hk; omega, Touch.ext HX7.out T9 (fun k hk => by simp at hk; omega)⟩
    exact bodyPost_ret (v := .tuple #[.agg #[.string x.selector, .bool x.cls, .slice y1 x.params.length y2, .slice y3 x.temps.length y4, .slice y5 x.body.length y6], .bool true]) (by simp [results, Tryz.results11, go_sem, p0, p1, p2, p3, p4, pz]) rfl FIN
  go_wp2_with fail
  refine (rtake_no W3 HP3.out 8 cmW (by decide) cm_ne HC1.out).mono ?_
  rintro e w4 ⟨rfl, x4⟩
  have O4 := O3.ext x4
  have HX4 := Lib.hid (HX3.out.trans x4)
  have HP4 := Lib.hid (HP3.out.ext x4)
  have hs4 := x4.size
  clear x4 O3 HP3
  obtain ⟨t2, ht2⟩ : ∃ c, tkxB ts 0 8 meW = c := ⟨_, rfl⟩
  have HC2 := Lib.hid ht2
  clear ht2
  cases t2
  rotate_left
  · have HE : Hid ((fun n => pMeth ts n 0) = fun n => pMRest ts n false 1) := Lib.hid (funext fun n => by unfold pMeth; rw [if_neg (by rw [HC1.out]; decide), if_pos HC2.out])
    go_wp2_with fail
    refine (rneedx_yes w4 HP4.out 8 meW (by decide) me_ne HC2.out).mono ?_
    rintro e w5 ⟨rfl, K5, T5⟩
    have hsP := T5.size
    have x4 : Ext w w5 := Touch.ext HX4.out T5 (fun k hk => by simp at hk; omega)
    have O4 : Own w5 w.heap.size 32 #[.string ⟨#[]⟩, .bool false, .slice none 0 0, .slice none 0 0, .slice none 0 0] := O4.touch' T5 (by simp; omega)
    have HX4 := Lib.hid x4
    have HP4 := Lib.hid K5
    clear x4 K5
    obtain ⟨k0, k1, k2⟩ := HP4.out.cells
    have zK := lt_of_cell k0
    go_wp2_with fail
    refine (l5Method_any w5 false HP4.out).mono ?_
    rintro e w6 ⟨x, cs, fp, a', b', rfl, hr, hf, hp, hg, hm, hT⟩
    rw [← HE.out] at hg
    have O6 := O4.touch' hT (by simp; omega)
    have HX6 : Hid (Ext w w6) := Lib.hid (Touch.ext HX4.out hT (fun k hk => by simp at hk; omega))
    have hs6 := hT.size
    have hs64 := HX4.out.size
    obtain ⟨y1, y2, y3, y4, y5, y6, rfl⟩ := fld5m hr
    have HG := Lib.hid hg
    have HR6 := Lib.hid hr
    have HF6 := Lib.hid hf
    have HP6 := Lib.hid hp
    clear hr hf hp hg hm hT HP4 O4 k0 k1 k2 zK
    go_upto_region 11 with fail
    generalize hS : World.alloc w6 _ = W5
    have x5 : Ext w6 W5 := by rw [← hS]; exact (Ext.refl _).alloc _
    have OE : Own W5 w6.heap.size 32 #[.string x.selector, .bool x.cls, .slice y1 x.params.length y2, .slice y3 x.temps.length y4, .slice y5 x.body.length y6] := by rw [← hS]; exact own_new w6 _ _
    have O5 := O6.ext x5
    have HP5 := Lib.hid (HP6.out.ext x5)
    have HR5 := Lib.hid (HR6.out.ext x5)
    have HX5 := Lib.hid (HX6.out.trans x5)
    have hs5 := x5.size
    clear hS O6 HP6 HR6 x5
    generalize hbe : w6.heap.size = eb at *
    clear hbe
    obtain ⟨c0, c1, c2⟩ := HP5.out.cells
    have zB := lt_of_cell c0
    cases b'
    rotate_left
    · have HN := Lib.hid (gotM_no (ok := true) HOK.out HTS.out HG.out (by simp))
      have o0 : W5.cell? ⟨w.heap.size, 0, none⟩ = some (.string ⟨#[]⟩) := O5.cell 0
      have of0 := O5.frozen 0
      have o1 : W5.cell? ⟨w.heap.size, 1, none⟩ = some (.bool false) := O5.cell 1
      have of1 := O5.frozen 1
      have o2 : W5.cell? ⟨w.heap.size, 2, none⟩ = some (.slice none 0 0) := O5.cell 2
      have of2 := O5.frozen 2
      have o3 : W5.cell? ⟨w.heap.size, 3, none⟩ = some (.slice none 0 0) := O5.cell 3
      have of3 := O5.frozen 3
      have o4 : W5.cell? ⟨w.heap.size, 4, none⟩ = some (.slice none 0 0) := O5.cell 4
      have of4 := O5.frozen 4
      have oz := O5.lt
      go_wp2_with fail
      generalize hS : World.setCell (World.setCell (World.setCell (World.setCell (World.setCell W5 _ _) _ _) _ _) _ _) _ _ = W9
      obtain ⟨O9, T9⟩ := own5m O5 (.string ⟨#[]⟩) (.bool false) (.slice none 0 0) (.slice none 0 0) (.slice none 0 0)
      rw [hS] at O9 T9
      clear hS
      have p0 : W9.cell? ⟨w.heap.size, 0, none⟩ = some (.string ⟨#[]⟩) := O9.cell 0
      have p1 : W9.cell? ⟨w.heap.size, 1, none⟩ = some (.bool false) := O9.cell 1
      have p2 : W9.cell? ⟨w.heap.size, 2, none⟩ = some (.slice none 0 0) := O9.cell 2
      have p3 : W9.cell? ⟨w.heap.size, 3, none⟩ = some (.slice none 0 0) := O9.cell 3
      have p4 : W9.cell? ⟨w.heap.size, 4, none⟩ = some (.slice none 0 0) := O9.cell 4
      have pz := O9.lt
      have FIN : GivesMs w s (.returned (.tuple #[.agg #[.string ⟨#[]⟩, .bool false, .slice none 0 0, .slice none 0 0, .slice none 0 0], .bool false])) W9 := ⟨_, [], by rw [HN.out]; rfl, by rw [HN.out]; exact zM_rep W9, (fun k hk => nomatch hk), Touch.ext HX5.out T9 (fun k hk => by simp at hk; omega)⟩
      exact bodyPost_ret (v := .tuple #[.agg #[.string ⟨#[]⟩, .bool false, .slice none 0 0, .slice none 0 0, .slice none 0 0], .bool false]) (by simp [results, Tryz.results11, go_sem, p0, p1, p2, p3, p4, pz]) rfl FIN
    by_cases ha : a' = ts.length
    rotate_left
    · have HN := Lib.hid (gotM_no (ok := true) HOK.out HTS.out HG.out (fun h => ha h.2))
      have hne : ((a' : Int) != (ts.length : Int)) = true := by simp; omega
      have hne2 : ((a' : Int) == (ts.length : Int)) = false := by simp; omega
      clear ha
      have o0 : W5.cell? ⟨w.heap.size, 0, none⟩ = some (.string ⟨#[]⟩) := O5.cell 0
      have of0 := O5.frozen 0
      have o1 : W5.cell? ⟨w.heap.size, 1, none⟩ = some (.bool false) := O5.cell 1
      have of1 := O5.frozen 1
      have o2 : W5.cell? ⟨w.heap.size, 2, none⟩ = some (.slice none 0 0) := O5.cell 2
      have of2 := O5.frozen 2
      have o3 : W5.cell? ⟨w.heap.size, 3, none⟩ = some (.slice none 0 0) := O5.cell 3
      have of3 := O5.frozen 3
      have o4 : W5.cell? ⟨w.heap.size, 4, none⟩ = some (.slice none 0 0) := O5.cell 4
      have of4 := O5.frozen 4
      have oz := O5.lt
      go_wp2_with fail
      generalize hS : World.setCell (World.setCell (World.setCell (World.setCell (World.setCell W5 _ _) _ _) _ _) _ _) _ _ = W9
      obtain ⟨O9, T9⟩ := own5m O5 (.string ⟨#[]⟩) (.bool false) (.slice none 0 0) (.slice none 0 0) (.slice none 0 0)
      rw [hS] at O9 T9
      clear hS
      have p0 : W9.cell? ⟨w.heap.size, 0, none⟩ = some (.string ⟨#[]⟩) := O9.cell 0
      have p1 : W9.cell? ⟨w.heap.size, 1, none⟩ = some (.bool false) := O9.cell 1
      have p2 : W9.cell? ⟨w.heap.size, 2, none⟩ = some (.slice none 0 0) := O9.cell 2
      have p3 : W9.cell? ⟨w.heap.size, 3, none⟩ = some (.slice none 0 0) := O9.cell 3
      have p4 : W9.cell? ⟨w.heap.size, 4, none⟩ = some (.slice none 0 0) := O9.cell 4
      have pz := O9.lt
      have FIN : GivesMs w s (.returned (.tuple #[.agg #[.string ⟨#[]⟩, .bool false, .slice none 0 0, .slice none 0 0, .slice none 0 0], .bool false])) W9 := ⟨_, [], by rw [HN.out]; rfl, by rw [HN.out]; exact zM_rep W9, (fun k hk => nomatch hk), Touch.ext HX5.out T9 (fun k hk => by simp at hk; omega)⟩
      exact bodyPost_ret (v := .tuple #[.agg #[.string ⟨#[]⟩, .bool false, .slice none 0 0, .slice none 0 0, .slice none 0 0], .bool false]) (by simp [results, Tryz.results11, go_sem, p0, p1, p2, p3, p4, pz]) rfl FIN
    obtain ⟨-, hbk, hy, hn⟩ := gotM_yes (ok := true) HOK.out HTS.out HG.out rfl ha
    subst ha
    have HY := Lib.hid hy
    have HNO := Lib.hid hn
    clear hy hn HG
    have q0 : W5.cell? ⟨eb, 0, none⟩ = some (.string x.selector) := OE.cell 0
    have qf0 := OE.frozen 0
    have q1 : W5.cell? ⟨eb, 1, none⟩ = some (.bool x.cls) := OE.cell 1
    have qf1 := OE.frozen 1
    have q2 : W5.cell? ⟨eb, 2, none⟩ = some (.slice y1 x.params.length y2) := OE.cell 2
    have qf2 := OE.frozen 2
    have q3 : W5.cell? ⟨eb, 3, none⟩ = some (.slice y3 x.temps.length y4) := OE.cell 3
    have qf3 := OE.frozen 3
    have q4 : W5.cell? ⟨eb, 4, none⟩ = some (.slice y5 x.body.length y6) := OE.cell 4
    have qf4 := OE.frozen 4
    have qz := OE.lt
    have HI := Lib.hid (spec_IsMethod_any x _ W5 HR5.out.rep hbk)
    by_cases hk : MethOk x
    rotate_left
    · have HN := Lib.hid (HNO.out hk)
      rw [prB_ff hk] at HI
      clear hk
      go_wp2_with fail
      refine HI.out.mono ?_
      rintro e w7 ⟨rfl, hx7⟩
      have O7 := O5.ext hx7
      have HX7 := Lib.hid (HX5.out.trans hx7)
      clear hx7 O5 OE q0 qf0 q1 qf1 q2 qf2 q3 qf3 q4 qf4 qz c0 c1 c2 zB
      have o0 : w7.cell? ⟨w.heap.size, 0, none⟩ = some (.string ⟨#[]⟩) := O7.cell 0
      have of0 := O7.frozen 0
      have o1 : w7.cell? ⟨w.heap.size, 1, none⟩ = some (.bool false) := O7.cell 1
      have of1 := O7.frozen 1
      have o2 : w7.cell? ⟨w.heap.size, 2, none⟩ = some (.slice none 0 0) := O7.cell 2
      have of2 := O7.frozen 2
      have o3 : w7.cell? ⟨w.heap.size, 3, none⟩ = some (.slice none 0 0) := O7.cell 3
      have of3 := O7.frozen 3
      have o4 : w7.cell? ⟨w.heap.size, 4, none⟩ = some (.slice none 0 0) := O7.cell 4
      have of4 := O7.frozen 4
      have oz := O7.lt
      go_wp2_with fail
      generalize hS : World.setCell (World.setCell (World.setCell (World.setCell (World.setCell w7 _ _) _ _) _ _) _ _) _ _ = W9
      obtain ⟨O9, T9⟩ := own5m O7 (.string ⟨#[]⟩) (.bool false) (.slice none 0 0) (.slice none 0 0) (.slice none 0 0)
      rw [hS] at O9 T9
      clear hS
      have p0 : W9.cell? ⟨w.heap.size, 0, none⟩ = some (.string ⟨#[]⟩) := O9.cell 0
      have p1 : W9.cell? ⟨w.heap.size, 1, none⟩ = some (.bool false) := O9.cell 1
      have p2 : W9.cell? ⟨w.heap.size, 2, none⟩ = some (.slice none 0 0) := O9.cell 2
      have p3 : W9.cell? ⟨w.heap.size, 3, none⟩ = some (.slice none 0 0) := O9.cell 3
      have p4 : W9.cell? ⟨w.heap.size, 4, none⟩ = some (.slice none 0 0) := O9.cell 4
      have pz := O9.lt
      have FIN : GivesMs w s (.returned (.tuple #[.agg #[.string ⟨#[]⟩, .bool false, .slice none 0 0, .slice none 0 0, .slice none 0 0], .bool false])) W9 := ⟨_, [], by rw [HN.out]; rfl, by rw [HN.out]; exact zM_rep W9, (fun k hk => nomatch hk), Touch.ext HX7.out T9 (fun k hk => by simp at hk; omega)⟩
      exact bodyPost_ret (v := .tuple #[.agg #[.string ⟨#[]⟩, .bool false, .slice none 0 0, .slice none 0 0, .slice none 0 0], .bool false]) (by simp [results, Tryz.results11, go_sem, p0, p1, p2, p3, p4, pz]) rfl FIN
    have HN := Lib.hid (HY.out hk)
    rw [prB_tt hk] at HI
    clear hk
    go_wp2_with fail
    refine HI.out.mono ?_
    rintro e w7 ⟨rfl, hx7⟩
    have O7 := O5.ext hx7
    have OE7 := OE.ext hx7
    have HX7 := Lib.hid (HX5.out.trans hx7)
    have HR7 := Lib.hid (HR5.out.ext hx7)
    have hs7 := hx7.size
    clear hx7 O5 OE HI q0 qf0 q1 qf1 q2 qf2 q3 qf3 q4 qf4 qz c0 c1 c2 zB
    have q0 : w7.cell? ⟨eb, 0, none⟩ = some (.string x.selector) := OE7.cell 0
    have qf0 := OE7.frozen 0
    have q1 : w7.cell? ⟨eb, 1, none⟩ = some (.bool x.cls) := OE7.cell 1
    have qf1 := OE7.frozen 1
    have q2 : w7.cell? ⟨eb, 2, none⟩ = some (.slice y1 x.params.length y2) := OE7.cell 2
    have qf2 := OE7.frozen 2
    have q3 : w7.cell? ⟨eb, 3, none⟩ = some (.slice y3 x.temps.length y4) := OE7.cell 3
    have qf3 := OE7.frozen 3
    have q4 : w7.cell? ⟨eb, 4, none⟩ = some (.slice y5 x.body.length y6) := OE7.cell 4
    have qf4 := OE7.frozen 4
    have qz := OE7.lt
    have o0 : w7.cell? ⟨w.heap.size, 0, none⟩ = some (.string ⟨#[]⟩) := O7.cell 0
    have of0 := O7.frozen 0
    have o1 : w7.cell? ⟨w.heap.size, 1, none⟩ = some (.bool false) := O7.cell 1
    have of1 := O7.frozen 1
    have o2 : w7.cell? ⟨w.heap.size, 2, none⟩ = some (.slice none 0 0) := O7.cell 2
    have of2 := O7.frozen 2
    have o3 : w7.cell? ⟨w.heap.size, 3, none⟩ = some (.slice none 0 0) := O7.cell 3
    have of3 := O7.frozen 3
    have o4 : w7.cell? ⟨w.heap.size, 4, none⟩ = some (.slice none 0 0) := O7.cell 4
    have of4 := O7.frozen 4
    have oz := O7.lt
    go_wp2_with fail
    generalize hS : World.setCell (World.setCell (World.setCell (World.setCell (World.setCell w7 _ _) _ _) _ _) _ _) _ _ = W9
    obtain ⟨O9, T9⟩ := own5m O7 (.string x.selector) (.bool x.cls) (.slice y1 x.params.length y2) (.slice y3 x.temps.length y4) (.slice y5 x.body.length y6)
    rw [hS] at O9 T9
    clear hS
    have p0 : W9.cell? ⟨w.heap.size, 0, none⟩ = some (.string x.selector) := O9.cell 0
    have p1 : W9.cell? ⟨w.heap.size, 1, none⟩ = some (.bool x.cls) := O9.cell 1
    have p2 : W9.cell? ⟨w.heap.size, 2, none⟩ = some (.slice y1 x.params.length y2) := O9.cell 2
    have p3 : W9.cell? ⟨w.heap.size, 3, none⟩ = some (.slice y3 x.temps.length y4) := O9.cell 3
    have p4 : W9.cell? ⟨w.heap.size, 4, none⟩ = some (.slice y5 x.body.length y6) := O9.cell 4
    have pz := O9.lt
    have hge : ∀ k, k ∈ fp → k ∉ [w.heap.size] := fun k hk hm => by have := HF6.out k hk; simp at hm; omega
    have FIN : GivesMs w s (.returned (.tuple #[.agg #[.string x.selector, .bool x.cls, .slice y1 x.params.length y2, .slice y3 x.temps.length y4, .slice y5 x.body.length y6], .bool true])) W9 := ⟨_, fp, by rw [HN.out]; rfl, by rw [HN.out]; exact HR7.out.touch T9 hge, fun k hk => by have := HF6.out k hk; omega, Touch.ext HX7.out T9 (fun k hk => by simp at hk; omega)⟩
    exact bodyPost_ret (v := .tuple #[.agg #[.string x.selector, .bool x.cls, .slice y1 x.params.length y2, .slice y3 x.temps.length y4, .slice y5 x.body.length y6], .bool true]) (by simp [results, Tryz.results11, go_sem, p0, p1, p2, p3, p4, pz]) rfl FIN
  go_wp2_with fail
  refine (rneedx_no w4 HP4.out 8 meW (by decide) me_ne HC2.out).mono ?_
  rintro e w5 ⟨rfl, K5, T5⟩
  have O5 := O4.touch' T5 (by simp; omega)
  have HX5 : Hid (Ext w w5) := Lib.hid (Touch.ext HX4.out T5 (fun k hk => by simp at hk; omega))
  obtain ⟨k0, k1, k2⟩ := K5.cells
  have zK := lt_of_cell k0
  clear K5 T5 O4 HP4
  have HN : Hid (parseM s = none) := Lib.hid (by
    cases h : toksL s with
    | none => exact parseM_no1 h
    | some us =>
      have h2 := HTS.out
      rw [h] at h2
      have h2 : us = ts := h2
      subst h2
      exact parseM_no2 h ⟨0, fun n _ => by show pMeth us n 0 = none; unfold pMeth; rw [if_neg (by rw [HC1.out]; decide), if_neg (by rw [HC2.out]; decide)]⟩)
  have o0 : w5.cell? ⟨w.heap.size, 0, none⟩ = some (.string ⟨#[]⟩) := O5.cell 0
  have of0 := O5.frozen 0
  have o1 : w5.cell? ⟨w.heap.size, 1, none⟩ = some (.bool false) := O5.cell 1
  have of1 := O5.frozen 1
  have o2 : w5.cell? ⟨w.heap.size, 2, none⟩ = some (.slice none 0 0) := O5.cell 2
  have of2 := O5.frozen 2
  have o3 : w5.cell? ⟨w.heap.size, 3, none⟩ = some (.slice none 0 0) := O5.cell 3
  have of3 := O5.frozen 3
  have o4 : w5.cell? ⟨w.heap.size, 4, none⟩ = some (.slice none 0 0) := O5.cell 4
  have of4 := O5.frozen 4
  have oz := O5.lt
  go_wp2_with fail
  generalize hS : World.setCell (World.setCell (World.setCell (World.setCell (World.setCell w5 _ _) _ _) _ _) _ _) _ _ = W9
  obtain ⟨O9, T9⟩ := own5m O5 (.string ⟨#[]⟩) (.bool false) (.slice none 0 0) (.slice none 0 0) (.slice none 0 0)
  rw [hS] at O9 T9
  clear hS
  have p0 : W9.cell? ⟨w.heap.size, 0, none⟩ = some (.string ⟨#[]⟩) := O9.cell 0
  have p1 : W9.cell? ⟨w.heap.size, 1, none⟩ = some (.bool false) := O9.cell 1
  have p2 : W9.cell? ⟨w.heap.size, 2, none⟩ = some (.slice none 0 0) := O9.cell 2
  have p3 : W9.cell? ⟨w.heap.size, 3, none⟩ = some (.slice none 0 0) := O9.cell 3
  have p4 : W9.cell? ⟨w.heap.size, 4, none⟩ = some (.slice none 0 0) := O9.cell 4
  have pz := O9.lt
  have FIN : GivesMs w s (.returned (.tuple #[.agg #[.string ⟨#[]⟩, .bool false, .slice none 0 0, .slice none 0 0, .slice none 0 0], .bool false])) W9 := ⟨_, [], by rw [HN.out]; rfl, by rw [HN.out]; exact zM_rep W9, (fun k hk => nomatch hk), Touch.ext HX5.out T9 (fun k hk => by simp at hk; omega)⟩
  exact bodyPost_ret (v := .tuple #[.agg #[.string ⟨#[]⟩, .bool false, .slice none 0 0, .slice none 0 0, .slice none 0 0], .bool false]) (by simp [results, Tryz.results11, go_sem, p0, p1, p2, p3, p4, pz]) rfl FIN

end Go.Proofs.YtonmcoojgkgemaaGreatDoor
