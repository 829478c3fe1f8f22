/-
  SEVERAL TEXTS IN ONE: CONTRACTS: IsExpr, of the program and of the reference; PLAIN: what ParseExpr gives; the tokens of a text as a parser holds them; A SLICE THAT A CALL GATHERS, its elements' own rows anywhere since a block (they may be shared: nothing writes into them); APPENDS of texts, and where the row lies then; CONTRACTS: BuiltinClasses, of the program and of the reference; CONTRACTS: the small functions of the reference's parser.
  Conditions: those that each lemma states.
-/
import Derived.Test.YtonmcoojgkgemaaGreatDoorRows
import Derived.Lib.QuietBelow
import Derived.BigQuiet
import Derived.Deep.RegionHeld3
import Derived.Deep.QuietTactic
import Derived.Test.YtonmcoojgkgemaaGreatDoorFnExprI
import Derived.Test.YtonmcoojgkgemaaGreatDoorP13
import Derived.Test.YtonmcoojgkgemaaGreatDoorP18
import Derived.Test.YtonmcoojgkgemaaGreatDoorExprOk
import Derived.Test.YtonmcoojgkgemaaGreatDoorP10
import Derived.Test.YtonmcoojgkgemaaGreatDoorP02
namespace Go.Proofs.YtonmcoojgkgemaaGreatDoor
open Go.RowKit
set_option linter.unusedSimpArgs false
set_option linter.unusedVariables false


/-- An expression of the language. -/
def ExprOk (x : MExpr) : Prop := x.size ≤ 300 ∧ x.depth ≤ 25 ∧ okR (SizeOf.sizeOf x + 1) true x

set_option maxHeartbeats 2000000 in
theorem spec_IsExpr_any (x : MExpr) (cx : List Value) (w : World) (rx : Rep w x.d cx) (hb : x.d.bulk ≤ 1048576) :
    Calls Tryz.prog 23 #[.agg cx.toArray] w fun e w' => e = .returned (.bool (prB (ExprOk x))) ∧ Ext w w' := by
  have hsz := bulk_size hb
  have hdp : x.depth ≤ 1048577 := by have := MExpr.depth_le x; omega
  have RX : Hid (∀ W, Ext w W → Rep W x.d cx) := Lib.hid fun W h => Rep.ext h rx
  obtain ⟨an, cn, ak, ck, rfl⟩ := MExpr.shut_rep rx
  clear rx
  have HM : Hid (∀ W, Ext (w.alloc (.cells #[.int .i64 x.kind, .string x.text, .int .i64 x.number, .slice an x.names.length cn, .slice ak x.kids.length ck] 25)) W → W.cell? ⟨w.heap.size, 0, none⟩ = some (.int .i64 x.kind) ∧ W.cell? ⟨w.heap.size, 1, none⟩ = some (.string x.text) ∧ W.cell? ⟨w.heap.size, 2, none⟩ = some (.int .i64 x.number) ∧ W.cell? ⟨w.heap.size, 3, none⟩ = some (.slice an x.names.length cn) ∧ W.cell? ⟨w.heap.size, 4, none⟩ = some (.slice ak x.kids.length ck)) := Lib.hid fun W hW => ⟨Ext.cell hW (by simp), Ext.cell hW (by simp), Ext.cell hW (by simp), Ext.cell hW (by simp), Ext.cell hW (by simp)⟩
  by_cases hq : x.size ≤ 300
  rotate_left
  · have hq' : ¬ (x.size : Int) ≤ 300 := by omega
    go_enter Tryz.func23, Tryz.ntmps23
    go_wp2_with fail
    refine (l3Left_lt _ x 300 _ _ (Nat.lt_succ_self _) hsz (by omega) (by omega) (RX.out _ ((Ext.refl w).alloc _))).mono ?_
    rintro e w1 ⟨⟨r, rfl, hr0, hr1, hr2, hr3⟩, hx1⟩
    obtain rfl := hr3 (by omega)
    clear hr2 hr3
    go_wp2_with fail
    go_ret
    exact ⟨ret_bool (Eq.symm (prB_ff fun h => hq h.1)), ((Ext.refl w).alloc _).trans hx1⟩
  have hq' : (x.size : Int) ≤ 300 := by omega
  by_cases hd : x.depth ≤ 25
  rotate_left
  · have hd' : ¬ (x.depth : Int) ≤ 25 := by omega
    go_enter Tryz.func23, Tryz.ntmps23
    go_wp2_with fail
    refine (l3Left_lt _ x 300 _ _ (Nat.lt_succ_self _) hsz (by omega) (by omega) (RX.out _ ((Ext.refl w).alloc _))).mono ?_
    rintro e w1 ⟨⟨r, rfl, hr0, hr1, hr2, hr3⟩, hx1⟩
    have hr4 : (0 : Int) ≤ r := by have := hr2 (by omega); omega
    have Hr := Lib.hid (And.intro hr2 hr3); clear hr2 hr3
    obtain ⟨m0, m1, m2, m3, m4⟩ := HM.out _ hx1
    go_wp2_with fail
    refine (l3Depth_lt _ x _ _ (Nat.lt_succ_self _) hsz (RX.out _ (((Ext.refl w).alloc _).trans hx1))).mono ?_
    rintro e w2 ⟨rfl, hx2⟩
    clear m0 m1 m2 m3 m4
    go_wp2_with fail
    go_ret
    exact ⟨ret_bool (Eq.symm (prB_ff fun h => hd h.2.1)), (((Ext.refl w).alloc _).trans hx1).trans hx2⟩
  have hd' : (x.depth : Int) ≤ 25 := by omega
  go_enter Tryz.func23, Tryz.ntmps23
  go_wp2_with fail
  refine (l3Left_lt _ x 300 _ _ (Nat.lt_succ_self _) hsz (by omega) (by omega) (RX.out _ ((Ext.refl w).alloc _))).mono ?_
  rintro e w1 ⟨⟨r, rfl, hr0, hr1, hr2, hr3⟩, hx1⟩
  have hr4 : (0 : Int) ≤ r := by have := hr2 (by omega); omega
  have Hr := Lib.hid (And.intro hr2 hr3); clear hr2 hr3
  obtain ⟨m0, m1, m2, m3, m4⟩ := HM.out _ hx1
  go_wp2_with fail
  refine (l3Depth_lt _ x _ _ (Nat.lt_succ_self _) hsz (RX.out _ (((Ext.refl w).alloc _).trans hx1))).mono ?_
  rintro e w2 ⟨rfl, hx2⟩
  clear m0 m1 m2 m3 m4
  obtain ⟨m0, m1, m2, m3, m4⟩ := HM.out _ (hx1.trans hx2)
  go_wp2_with fail
  refine (l3Right_at (SizeOf.sizeOf x + 1) true x _ _ (Nat.lt_succ_self _) hb (RX.out _ ((((Ext.refl w).alloc _).trans hx1).trans hx2))).mono ?_
  rintro e w3 ⟨rfl, hx3⟩
  clear m0 m1 m2 m3 m4
  go_wp2_with fail
  go_ret
  refine ⟨ret_bool ?_, ((((Ext.refl w).alloc _).trans hx1).trans hx2).trans hx3⟩
  congr 1
  rw [eq_iff_iff]
  exact ⟨fun h => ⟨hq, hd, h⟩, fun h => h.2.2⟩

set_option maxHeartbeats 2000000 in
theorem impl_IsExpr_any (x : MExpr) (cx : List Value) (w : World) (rx : Rep w x.d cx) (hb : x.d.bulk ≤ 1048576) (hm : MaxOk w) :
    Calls Tryz.prog 27 #[.agg cx.toArray] w fun e w' => e = .returned (.bool (prB (ExprOk x))) ∧ Ext w w' := by
  have hsz := bulk_size hb
  have hdp : x.depth ≤ 1048577 := by have := MExpr.depth_le x; omega
  have RX : Hid (∀ W, Ext w W → Rep W x.d cx) := Lib.hid fun W h => Rep.ext h rx
  obtain ⟨an, cn, ak, ck, rfl⟩ := MExpr.shut_rep rx
  clear rx
  have HM : Hid (∀ W, Ext (w.alloc (.cells #[.int .i64 x.kind, .string x.text, .int .i64 x.number, .slice an x.names.length cn, .slice ak x.kids.length ck] 25)) W → W.cell? ⟨w.heap.size, 0, none⟩ = some (.int .i64 x.kind) ∧ W.cell? ⟨w.heap.size, 1, none⟩ = some (.string x.text) ∧ W.cell? ⟨w.heap.size, 2, none⟩ = some (.int .i64 x.number) ∧ W.cell? ⟨w.heap.size, 3, none⟩ = some (.slice an x.names.length cn) ∧ W.cell? ⟨w.heap.size, 4, none⟩ = some (.slice ak x.kids.length ck)) := Lib.hid fun W hW => ⟨Ext.cell hW (by simp), Ext.cell hW (by simp), Ext.cell hW (by simp), Ext.cell hW (by simp), Ext.cell hW (by simp)⟩
  by_cases hq : x.size ≤ 300
  rotate_left
  · have hq' : ¬ (x.size : Int) ≤ 300 := by omega
    go_enter Tryz.func27, Tryz.ntmps27
    go_wp2_with fail
    refine (impl_SizeOfExpr_any x _ _ (RX.out _ ((Ext.refl w).alloc _)) hsz).mono ?_
    rintro e w1 ⟨rfl, hx1⟩
    skip
    go_wp2_with fail
    go_ret
    exact ⟨ret_bool (Eq.symm (prB_ff fun h => hq h.1)), ((Ext.refl w).alloc _).trans hx1⟩
  have hq' : (x.size : Int) ≤ 300 := by omega
  by_cases hd : x.depth ≤ 25
  rotate_left
  · have hd' : ¬ (x.depth : Int) ≤ 25 := by omega
    go_enter Tryz.func27, Tryz.ntmps27
    go_wp2_with fail
    refine (impl_SizeOfExpr_any x _ _ (RX.out _ ((Ext.refl w).alloc _)) hsz).mono ?_
    rintro e w1 ⟨rfl, hx1⟩
    skip
    obtain ⟨m0, m1, m2, m3, m4⟩ := HM.out _ hx1
    go_wp2_with fail
    refine (impl_DepthOfExpr_any x _ _ (RX.out _ (((Ext.refl w).alloc _).trans hx1)) hsz).mono ?_
    rintro e w2 ⟨rfl, hx2⟩
    clear m0 m1 m2 m3 m4
    go_wp2_with fail
    go_ret
    exact ⟨ret_bool (Eq.symm (prB_ff fun h => hd h.2.1)), (((Ext.refl w).alloc _).trans hx1).trans hx2⟩
  have hd' : (x.depth : Int) ≤ 25 := by omega
  go_enter Tryz.func27, Tryz.ntmps27
  go_wp2_with fail
  refine (impl_SizeOfExpr_any x _ _ (RX.out _ ((Ext.refl w).alloc _)) hsz).mono ?_
  rintro e w1 ⟨rfl, hx1⟩
  skip
  obtain ⟨m0, m1, m2, m3, m4⟩ := HM.out _ hx1
  go_wp2_with fail
  refine (impl_DepthOfExpr_any x _ _ (RX.out _ (((Ext.refl w).alloc _).trans hx1)) hsz).mono ?_
  rintro e w2 ⟨rfl, hx2⟩
  clear m0 m1 m2 m3 m4
  obtain ⟨m0, m1, m2, m3, m4⟩ := HM.out _ (hx1.trans hx2)
  go_wp2_with fail
  refine (wellFormed_at (SizeOf.sizeOf x + 1) x _ _ (Nat.lt_succ_self _) hb (hm.ext ((((Ext.refl w).alloc _).trans hx1).trans hx2)) (RX.out _ ((((Ext.refl w).alloc _).trans hx1).trans hx2))).mono ?_
  rintro e w3 ⟨rfl, hx3⟩
  clear m0 m1 m2 m3 m4
  go_wp2_with fail
  go_ret
  refine ⟨ret_bool ?_, ((((Ext.refl w).alloc _).trans hx1).trans hx2).trans hx3⟩
  congr 1
  rw [eq_iff_iff]
  exact ⟨fun h => ⟨hq, hd, h⟩, fun h => h.2.2⟩

open Go.RowKit
set_option linter.unusedSimpArgs false
set_option linter.unusedVariables false

/-- The expression that a text is, if it is one. -/
def IsParsed (s : ByteArray) (x : MExpr) : Prop := ∃ ts, toksL s = some ts ∧ Ev (fun n => pExpr ts n 0) (some (x, ts.length)) ∧ ExprOk x
theorem IsParsed.uniq {s : ByteArray} {x y : MExpr} (h : IsParsed s x) (k : IsParsed s y) : x = y := by
  obtain ⟨ts, h1, h2, _⟩ := h
  obtain ⟨us, k1, k2, _⟩ := k
  rw [h1] at k1
  injection k1 with k1
  subst k1
  have := Ev.uniq h2 k2
  injection this with this
  injection this
theorem sum_mem : ∀ {ts : List MToken} {t : MToken}, t ∈ ts → t.text.size ≤ sumW ts
  | [], _, h => by cases h
  | y :: ys, t, h => by
    rw [sumW]
    rcases List.mem_cons.1 h with rfl | h
    · omega
    · have := sum_mem h; omega
/-- The tokens of a text in a parser's struct. -/
theorem Prs.make {ty : TypeId} {s : ByteArray} {w w' : World} {B : Nat} {ao : Option Addr} {n cap : Nat} {fp : List Nat} {bad : Bool} (hr : RepF w (MTokens ((toksL s).getD [])) [.slice ao n cap] fp) (hx : Ext w w') (hB : w.heap.size ≤ B) (hO : Own w' B ty #[.slice ao n cap, .int .i64 0, .bool bad]) :
    n = ((toksL s).getD []).length ∧ ∃ tb to_, Prs ty B tb to_ cap ao ((toksL s).getD []) w' 0 bad := by
  obtain ⟨ao', cap', b, o, h1, hl, hm, pa, ha⟩ := Rep.slmap hr.rep
  simp only [List.cons.injEq, and_true, Value.slice.injEq] at h1
  obtain ⟨rfl, rfl, rfl⟩ := h1
  have hq : (∀ t, t ∈ (toksL s).getD [] → TokQ t) ∧ sumW ((toksL s).getD []) ≤ 4000 + 84 * ((toksL s).getD []).length := by
    cases ht : toksL s with
    | none => exact ⟨(fun t h => nomatch h), by simp [sumW]⟩
    | some ts => exact toks_q ht
  have h8 := toks_len s
  have hcell : ∀ (i : Nat) (t : MToken), ((toksL s).getD [])[i]? = some t → w.cell? ⟨b, o + i * 3, none⟩ = some (.int .i64 t.kind) ∧ w.cell? ⟨b, o + i * 3 + 1, none⟩ = some (.string t.text) ∧ w.cell? ⟨b, o + i * 3 + 2, none⟩ = some (.int .i64 t.number) := fun i t hi => by
    obtain ⟨es, _, hc, hrt⟩ := ha i t hi
    obtain rfl := MToken.op_en hrt
    exact ⟨hc 0 (by omega), hc 1 (by omega), hc 2 (by omega)⟩
  refine ⟨rfl, b, o, hO, pa, fun i t hi => ?_, fun h0 => ?_, ⟨hl, by unfold maxLen at hm; omega⟩, h8, fun t ht => ?_, fun t ht => ?_, by omega, fun _ => Nat.zero_le _⟩
  · obtain ⟨c0, c1, c2⟩ := hcell i t hi
    exact ⟨hx.cell c0, hx.cell c1, hx.cell c2⟩
  · have hlt : b < w.heap.size := lt_of_cell (hcell 0 _ (List.getElem?_eq_getElem h0)).1
    omega
  · have := sum_mem ht
    omega
  · exact hq.1 t ht
theorem toks_sum {s : ByteArray} {ts : List MToken} (h : toksL s = some ts) : sumW ts ≤ 4000 + 84 * ts.length ∧ ts.length ≤ 800 := ⟨(toks_q h).2, by have := toks_len s; rw [h] at this; exact this⟩
open Go.RowKit
set_option linter.unusedSimpArgs false
set_option linter.unusedVariables false

/-- The slice v, gathered since block B0, holds ds. -/
def Acw (B0 : Nat) (w : World) (e : TypeId) (size : Nat) (v : Value) (ds : List D) : Prop :=
  ∃ xs fp, w.ownsRow B0 e size v ds.length xs ∧ RepR w size ds xs fp ∧ (∀ k, k ∈ fp → B0 ≤ k) ∧ ∀ k, v.ownBlock = some k → k ∉ fp
theorem Acw.touch {B0 : Nat} {w w' : World} {e : TypeId} {size : Nat} {v : Value} {ds : List D} {gp : List Nat} (h : Acw B0 w e size v ds) (ht : Touch w w' gp) (hg : ∀ k, k ∈ gp → k < B0) : Acw B0 w' e size v ds := by
  obtain ⟨xs, fp, ⟨k1, k2⟩, h2, h3, h4⟩ := h
  refine ⟨xs, fp, ⟨k1, ?_⟩, h2.keep _ _ fun k hk => ht.block k (h2.lt _ _ k hk) (fun hm => by have := hg k hm; have := h3 k hk; omega), h3, h4⟩
  rcases k2 with k2 | ⟨g, cap, cur, rfl, hg2, hh, r⟩
  · exact Or.inl k2
  · exact Or.inr ⟨g, cap, cur, rfl, hg2, (ht.block g (Array.getElem?_eq_some_iff.1 hh).1 (fun hm => by have := hg g hm; omega)).trans hh, r⟩
theorem Acw.ext {B0 : Nat} {w w' : World} {e : TypeId} {size : Nat} {v : Value} {ds : List D} (h : Acw B0 w e size v ds) (hx : Ext w w') : Acw B0 w' e size v ds := h.touch (Touch.of_ext hx []) (fun k hk => nomatch hk)
theorem Acw.nil (B0 : Nat) (w : World) (e : TypeId) (size : Nat) : Acw B0 w e size (.slice none 0 0) [] := ⟨[], [], World.ownsRow_nil _ _ _ _, by simp [RepR], (fun k hk => nomatch hk), (fun k hk => nomatch hk)⟩
theorem Acw.of {B0 : Nat} {w : World} {e : TypeId} {size : Nat} {v : Value} {ds : List D} {fp : List Nat} (h : Acc B0 w e size v ds fp) : Acw B0 w e size v ds := by
  obtain ⟨xs, h1, h2, h3, h4⟩ := h
  exact ⟨xs, fp, h1, h2, h3.ge, h4⟩
theorem Acw.ge {B0 : Nat} {w : World} {e : TypeId} {size : Nat} {v : Value} {ds : List D} (h : Acw B0 w e size v ds) {k : Nat} (hk : v.ownBlock = some k) : B0 ≤ k ∧ k < w.heap.size := by
  obtain ⟨xs, fp, ⟨_, h2⟩, _⟩ := h
  rcases h2 with ⟨rfl, _⟩ | ⟨g, cap, cur, rfl, hg, hh, _⟩
  · cases hk
  · simp [Value.ownBlock] at hk
    subst hk
    exact ⟨hg, (Array.getElem?_eq_some_iff.1 hh).1⟩
theorem Acw.base {B0 B1 : Nat} {w : World} {e : TypeId} {size : Nat} {v : Value} {ds : List D} (h : Acw B1 w e size v ds) (hB : B0 ≤ B1) : Acw B0 w e size v ds := by
  obtain ⟨xs, fp, ⟨k1, k2⟩, h2, h3, h4⟩ := h
  refine ⟨xs, fp, ⟨k1, ?_⟩, h2, fun k hk => Nat.le_trans hB (h3 k hk), h4⟩
  rcases k2 with k2 | ⟨g, cap, cur, hv, hg, r⟩
  · exact Or.inl k2
  · exact Or.inr ⟨g, cap, cur, hv, Nat.le_trans hB hg, r⟩
/-- The row is a slice that reads as its data. -/
theorem Acw.rep {B0 : Nat} {w : World} {e : TypeId} {size : Nat} {v : Value} {ds : List D} (h : Acw B0 w e size v ds) (hsz : 0 < size) : ∃ ao cap gp, v = .slice ao ds.length cap ∧ RepF w (.sl size ds) [.slice ao ds.length cap] gp ∧ ∀ k, k ∈ gp → B0 ≤ k := by
  obtain ⟨xs, fp, ⟨k1, k2⟩, h2, h3, h4⟩ := h
  rcases k2 with ⟨rfl, hn⟩ | ⟨g, cap, cur, rfl, hg, hh, hc, hm, hcs, htk⟩
  · have : ds = [] := List.length_eq_zero_iff.1 hn
    subst this
    exact ⟨none, 0, [], rfl, RepF.sl_iff.2 ⟨none, 0, rfl, by simp, by unfold maxLen; omega, by simp, Or.inl ⟨rfl, rfl⟩⟩, fun k hk => nomatch hk⟩
  · by_cases h0 : ds = []
    · subst h0
      exact ⟨_, cap, [], rfl, RepF.sl_iff.2 ⟨_, cap, rfl, hc, hm, by simp, Or.inl ⟨rfl, rfl⟩⟩, fun k hk => nomatch hk⟩
    · refine ⟨_, cap, g :: fp, rfl, RepF.sl_iff.2 ⟨_, cap, rfl, hc, hm, by simp, Or.inr ⟨g, 0, xs, fp, h0, rfl, rfl, (Array.getElem?_eq_some_iff.1 hh).1, fun j c hj => ?_, h2⟩⟩, fun k hk => ?_⟩
      · rw [Nat.zero_add, cell_of_row w g j cur e (0, 0) hh]
        rw [← htk] at hj
        have hjl := (List.getElem?_eq_some_iff.1 hj).1
        rw [List.getElem?_take_of_lt (by rw [List.length_take] at hjl; omega)] at hj
        simpa using hj
      · rcases List.mem_cons.1 hk with rfl | hk
        · exact hg
        · exact h3 k hk
theorem run_append_w {P : Program} {w : World} (t ty : TypeId) (B0 : Nat) (e : TypeId) (i : TypeInfo) (z : Value) (size bytes : Nat) (ht : P.underlying t = some (.slice e)) (hi : P.info? e = some i) (hz : i.zero = some z)
    (hsize : i.size = size) (hby : i.bytes = bytes) (hzs : z.cells.size = size) (hsz : 0 < size)
    (v : Value) (ds : List D) (hacc : Acw B0 w e size v ds) (ys : List D) (ao : Option Addr) (m c : Nat) (gp : List Nat) (hr : RepF w (.sl size ys) [.slice ao m c] gp)
    (hF : ∀ k, k ∈ gp.tail → B0 ≤ k) (hown : ∀ k, v.ownBlock = some k → k ∉ gp.tail)
    (h63 : ds.length + m ≤ maxLen) (hbytes : (ds.length + m) * bytes ≤ 140737488355328) (hbase : B0 ≤ w.heap.size) :
    ∃ ao' cap' w', (Builtin.append_ #[t, t] ty #[v, .slice ao m c]).run P w = .ok (.slice ao' (ds.length + m) cap') w' ∧ Acw B0 w' e size (.slice ao' (ds.length + m) cap') (ds ++ ys) ∧ w.grownBy w' v.ownBlock ∧ ((Value.slice ao' (ds.length + m) cap').ownBlock = v.ownBlock ∨ (Value.slice ao' (ds.length + m) cap').ownBlock = some w.heap.size) := by
  obtain ⟨xs, fp, h1, h2, h3, h4⟩ := hacc
  obtain ⟨hm, hml, news, hnr, hsrc⟩ := hr.source
  rcases hsrc with ⟨rfl, rfl, rfl, rfl⟩ | ⟨ad, rfl, hcells⟩
  · have hv : ∃ ao' cap', v = .slice ao' (ds.length + 0) cap' := by
      rcases h1.2 with ⟨rfl, hn⟩ | ⟨g, cap, cur, rfl, _⟩
      · exact ⟨none, 0, by rw [hn]⟩
      · exact ⟨_, cap, by rw [Nat.add_zero]⟩
    obtain ⟨ao', cap', hv⟩ := hv
    refine ⟨ao', cap', w, ?_, ⟨xs, fp, by rw [← hv]; simpa using h1, by simpa using h2, h3, by rw [← hv]; exact h4⟩, World.grownBy.refl _ _, Or.inl (by rw [← hv])⟩
    rw [← hv]
    exact run_append_owned_none (P := P) (w := w) B0 t ty e i size ht hi v ds.length xs h1
  · obtain ⟨v', w', hrun, hown', hgrow, hnil, hat⟩ := run_append_own_at (P := P) w B0 t ty e i z size bytes ht hi hz hsize hby hzs hsz v ds.length xs h1 ad m c news (by rw [hm]; exact hnr.length) hcells (fun u hu => RepR.one_cell hnr u hu) h63 hbytes hbase
    have hv : ∃ ao' cap', v' = .slice ao' (ds.length + m) cap' := by
      rcases hown'.2 with ⟨rfl, hn⟩ | ⟨g, cap, cur, rfl, _⟩
      · exact ⟨none, 0, by rw [hn]⟩
      · exact ⟨_, cap, rfl⟩
    have hlt : ∀ k, k ∈ fp ++ gp.tail → k < w.heap.size := fun k hk => by
      rcases List.mem_append.1 hk with hk | hk
      · exact h2.lt _ _ k hk
      · exact hnr.lt _ _ k hk
    have hkeep : ∀ k, k ∈ fp ++ gp.tail → w'.heap[k]? = w.heap[k]? := fun k hk => grown_keep hgrow (hlt k hk) (fun e => by
      rcases List.mem_append.1 hk with hk | hk
      · exact h4 k e hk
      · exact hown k e hk)
    obtain ⟨ao', cap', rfl⟩ := hv
    refine ⟨ao', cap', w', hrun, ⟨xs ++ news, fp ++ gp.tail, by rw [List.length_append, ← hm]; exact hown', (h2.keep size ds fun k hk => hkeep k (List.mem_append_left _ hk)).append (hnr.keep size ys fun k hk => hkeep k (List.mem_append_right _ hk)),
        fun k hk => (List.mem_append.1 hk).elim (h3 k) (hF k), fun k hk hkm => ?_⟩, hgrow, hat⟩
    rcases hat with hat | hat
    · rw [hat] at hk
      rcases List.mem_append.1 hkm with hkm | hkm
      · exact h4 k hk hkm
      · exact hown k hk hkm
    · have := hlt k hkm
      rw [hat] at hk; injection hk with hk; omega
theorem wp_append_w {P : Program} {w : World} {o : Oper} {a : Act} {K : Act → World → Prop} {Q : Exit → Act → World → Prop} (s x : Operand) (t : TypeId)
    (ho : o.op = .call { callee := .builtin .append, args := #[s, x], argTypes := #[t, t] })
    (B0 : Nat) (e : TypeId) (i : TypeInfo) (z : Value) (size bytes : Nat) (ht : P.underlying t = some (.slice e)) (hi : P.info? e = some i) (hz : i.zero = some z)
    (hsize : i.size = size) (hby : i.bytes = bytes) (hzs : z.cells.size = size) (hsz : 0 < size)
    (v : Value) (ds : List D) (hs : a.eval s = v) (hacc : Acw B0 w e size v ds)
    (ys : List D) (ao : Option Addr) (m c : Nat) (gp : List Nat) (hx : a.eval x = .slice ao m c) (hr : RepF w (.sl size ys) [.slice ao m c] gp)
    (hF : ∀ k, k ∈ gp.tail → B0 ≤ k) (hown : ∀ k, v.ownBlock = some k → k ∉ gp.tail)
    (h63 : ds.length + m ≤ maxLen) (hbytes : (ds.length + m) * bytes ≤ 140737488355328) (hbase : B0 ≤ w.heap.size)
    (h : ∀ ao' cap' w', Acw B0 w' e size (.slice ao' (ds.length + m) cap') (ds ++ ys) → w.grownBy w' v.ownBlock → ((Value.slice ao' (ds.length + m) cap').ownBlock = v.ownBlock ∨ (Value.slice ao' (ds.length + m) cap').ownBlock = some w.heap.size) → K (a.put o.dst (.slice ao' (ds.length + m) cap')) w') : o.wp P a w K Q := by
  obtain ⟨ao', cap', w', hrun, h2, h3, h4⟩ := run_append_w (P := P) t o.type B0 e i z size bytes ht hi hz hsize hby hzs hsz v ds hacc ys ao m c gp hr hF hown h63 hbytes hbase
  unfold Oper.wp execOp
  simp only [ho, resolve, invoke, builtin, Sem.run_bind, Sem.run_pure, Result.andThen_ok, List.map_toArray, List.map_cons, List.map_nil, hs, hx, hrun]
  exact h ao' cap' w' h2 h3 h4

theorem exprInfo : (Tryz.prog.info? 25).map (fun i => (i.zero, i.size, i.bytes)) = some (some (.agg #[.int .i64 0, .string ByteArray.empty, .int .i64 0, .slice none 0 0, .slice none 0 0]), 5, 80) := by kernel_rfl
/-- Trees that a call gathers. -/
def AccX (B0 : Nat) (w : World) (v : Value) (l : List MExpr) : Prop := Acw B0 w 25 5 v (l.map MExpr.d)
theorem AccX.rep {B0 : Nat} {w : World} {v : Value} {l : List MExpr} (h : AccX B0 w v l) : ∃ ao cap gp, v = .slice ao l.length cap ∧ RepF w (MExprs l) [.slice ao l.length cap] gp ∧ ∀ k, k ∈ gp → B0 ≤ k := by
  obtain ⟨ao, cap, gp, h1, h2, h3⟩ := Acw.rep h (by decide)
  simp only [List.length_map] at h1 h2
  exact ⟨ao, cap, gp, h1, h2, h3⟩
theorem wp_append_x {w : World} {o : Oper} {a : Act} {K : Act → World → Prop} {Q : Exit → Act → World → Prop} (s y : Operand)
    (ho : o.op = .call { callee := .builtin .append, args := #[s, y], argTypes := #[23, 23] })
    (B0 : Nat) (v : Value) (l : List MExpr) (hs : a.eval s = v) (hacc : AccX B0 w v l)
    (ys : List MExpr) (ao : Option Addr) (m c : Nat) (gp : List Nat) (hx : a.eval y = .slice ao m c) (hr : RepF w (MExprs ys) [.slice ao m c] gp)
    (hF : ∀ k, k ∈ gp.tail → B0 ≤ k) (hown : ∀ k, v.ownBlock = some k → k ∉ gp.tail) (hlen : l.length + ys.length ≤ 1073741824) (hbase : B0 ≤ w.heap.size)
    (h : ∀ ao' cap' w', AccX B0 w' (.slice ao' (l.length + ys.length) cap') (l ++ ys) → w.grownBy w' v.ownBlock → ((Value.slice ao' (l.length + ys.length) cap').ownBlock = v.ownBlock ∨ (Value.slice ao' (l.length + ys.length) cap').ownBlock = some w.heap.size) → K (a.put o.dst (.slice ao' (l.length + ys.length) cap')) w') : o.wp Tryz.prog a w K Q := by
  obtain ⟨i0, hi, hz0, hz1, hz2⟩ := info_parts exprInfo
  have hm : m = ys.length := by
    obtain ⟨_, _, h1, _⟩ := RepF.sl_iff.1 hr
    simp at h1; omega
  subst hm
  refine wp_append_w s y 23 ho B0 25 i0 _ 5 80 Tryz.underlying23 hi hz0 hz1 hz2 rfl (by decide) v (l.map MExpr.d) hs hacc (ys.map MExpr.d) ao ys.length c gp hx hr hF hown (by simp [maxLen]; omega) (by simp; omega) hbase ?_
  intro ao' cap' w' h2 h3 h4
  simp only [List.length_map, ← List.map_append] at h2 h4 ⊢
  exact h ao' cap' w' h2 h3 h4
theorem wpList_append_x {w : World} {ops : Array Oper} {rest : List Oper} {o : Oper} {a : Act} {Q : Exit → Act → World → Prop} (hgd : o.guard = none) (s y : Operand)
    (ho : o.op = .call { callee := .builtin .append, args := #[s, y], argTypes := #[23, 23] })
    (B0 : Nat) (v : Value) (l : List MExpr) (hs : a.eval s = v) (hacc : AccX B0 w v l)
    (ys : List MExpr) (ao : Option Addr) (m c : Nat) (gp : List Nat) (hx : a.eval y = .slice ao m c) (hr : RepF w (MExprs ys) [.slice ao m c] gp)
    (hF : ∀ k, k ∈ gp.tail → B0 ≤ k) (hown : ∀ k, v.ownBlock = some k → k ∉ gp.tail) (hlen : l.length + ys.length ≤ 1073741824) (hbase : B0 ≤ w.heap.size)
    (h : ∀ ao' cap' w', AccX B0 w' (.slice ao' (l.length + ys.length) cap') (l ++ ys) → w.grownBy w' v.ownBlock → ((Value.slice ao' (l.length + ys.length) cap').ownBlock = v.ownBlock ∨ (Value.slice ao' (l.length + ys.length) cap').ownBlock = some w.heap.size) → wpList Tryz.prog ops Q rest (a.put o.dst (.slice ao' (l.length + ys.length) cap')) w') : wpList Tryz.prog ops Q (o :: rest) a w :=
  wpList_plain hgd fun _ hK => wp_append_x s y ho B0 v l hs hacc ys ao m c gp hx hr hF hown hlen hbase fun ao' cap' w' h2 h3 h4 => hK _ _ (h ao' cap' w' h2 h3 h4)
/-- '[]Expr{x}': its row is in the one new block. -/
theorem one_expr {w : World} {x : MExpr} {cs : List Value} {fp : List Nat} {b : Nat} {e : TypeId} (h : RepF w x.d cs fp) (hO : Own w b e cs.toArray) : RepF w (MExprs [x]) [.slice (some ⟨b, 0, none⟩) 1 1] (b :: fp) := by
  have hl : cs.length = 5 := by
    obtain ⟨_, _, _, _, rfl, -, -⟩ := MExpr.op_en h.rep
    rfl
  refine RepF.sl_iff.2 ⟨_, 1, by simp, by simp, by unfold maxLen; omega, by simp, Or.inr ⟨b, 0, cs, fp, by simp, rfl, rfl, hO.lt, fun j c hj => ?_, ?_⟩⟩
  · rw [Nat.zero_add, hO.cell]; simpa using hj
  · exact RepR.one h hl

open Go.RowKit
set_option linter.unusedSimpArgs false
set_option linter.unusedVariables false

theorem Touch.trans' {a b c : World} {fp gp : List Nat} (h : Touch a b fp) (k : Touch b c gp) (hg : ∀ x, x ∈ gp → x ∈ fp ∨ a.heap.size ≤ x) : Touch a c fp :=
  ⟨k.os.trans h.os, k.tape.trans h.tape, k.output.trans h.output, Nat.le_trans h.size k.size, fun i hi hn => (k.block i (Nat.lt_of_lt_of_le hi h.size) (fun hm => (hg i hm).elim hn (fun h => by omega))).trans (h.block i hi hn)⟩
theorem Acc.touch {B0 : Nat} {w w' : World} {e : TypeId} {size : Nat} {v : Value} {ds : List D} {fp gp : List Nat} (h : Acc B0 w e size v ds gp) (ht : Touch w w' fp) (hv : ∀ k, v.ownBlock = some k → k ∉ fp) (hg : ∀ k, k ∈ gp → k ∉ fp) : Acc B0 w' e size v ds gp := by
  obtain ⟨xs, h1, h2, h3, h4⟩ := h
  refine ⟨xs, ?_, h2.keep _ _ fun k hk => ht.block k (h3.lt hk) (hg k hk), h3.touch ht hg, h4⟩
  obtain ⟨k1, k2⟩ := h1
  refine ⟨k1, ?_⟩
  rcases k2 with k2 | ⟨g, cap, cur, rfl, hg, hh, r⟩
  · exact Or.inl k2
  · exact Or.inr ⟨g, cap, cur, rfl, hg, (ht.block g (Array.getElem?_eq_some_iff.1 hh).1 (hv g rfl)).trans hh, r⟩
theorem Acc.ge {B0 : Nat} {w : World} {e : TypeId} {size : Nat} {v : Value} {ds : List D} {fp : List Nat} (h : Acc B0 w e size v ds fp) {k : Nat} (hk : v.ownBlock = some k) : B0 ≤ k ∧ k < w.heap.size := by
  obtain ⟨xs, ⟨_, h2⟩, _⟩ := h
  rcases h2 with ⟨rfl, _⟩ | ⟨g, cap, cur, rfl, hg, hh, _⟩
  · cases hk
  · simp [Value.ownBlock] at hk
    subst hk
    exact ⟨hg, (Array.getElem?_eq_some_iff.1 hh).1⟩

theorem wpList_append_strs_at {w : World} {ops : Array Oper} {rest : List Oper} {o : Oper} {a : Act} {Q : Exit → Act → World → Prop} (hgd : o.guard = none) (s x : Operand)
    (ho : o.op = .call { callee := .builtin .append, args := #[s, x], argTypes := #[22, 22] })
    (B0 : Nat) (v : Value) (l : List ByteArray) (hs : a.eval s = v) (hacc : AccT B0 w v l)
    (ys : List ByteArray) (ao : Option Addr) (m c : Nat) (hx : a.eval x = .slice ao m c) (hr : Rep w (strs ys) [.slice ao m c])
    (hlen : l.length + ys.length ≤ 1073741824) (hbase : B0 ≤ w.heap.size)
    (h : ∀ ao' cap' w', AccT B0 w' (.slice ao' (l.length + ys.length) cap') (l ++ ys) → w.grownBy w' v.ownBlock → ((Value.slice ao' (l.length + ys.length) cap').ownBlock = v.ownBlock ∨ (Value.slice ao' (l.length + ys.length) cap').ownBlock = some w.heap.size) → wpList Tryz.prog ops Q rest (a.put o.dst (.slice ao' (l.length + ys.length) cap')) w') : wpList Tryz.prog ops Q (o :: rest) a w := by
  obtain ⟨i0, hi, hz0, hz1, hz2⟩ := info_parts strInfo
  obtain ⟨gp, hr⟩ := hr
  have ht := hr.strs_tail
  have hm : m = ys.length := by
    obtain ⟨_, _, h1, _⟩ := RepF.sl_iff.1 hr
    simp at h1; omega
  subst hm
  refine wpList_append_at hgd s x 22 ho B0 9 i0 _ 1 16 Tryz.underlying22 hi hz0 hz1 hz2 rfl (by decide) v (l.map .str) [] hs hacc (ys.map .str) ao ys.length c gp hx hr (by rw [ht]; exact Fresh.nil _ _) (by rw [ht]; simp) (by simp [maxLen]; omega) (by simp; omega) hbase ?_
  intro ao' cap' w' h2 h3 h4
  rw [ht] at h2
  simp only [List.length_map, List.append_nil, ← List.map_append] at h2 h4 ⊢
  exact h ao' cap' w' h2 h3 h4


theorem AccT.base {B0 B1 : Nat} {w : World} {v : Value} {l : List ByteArray} (h : AccT B1 w v l) (hB : B0 ≤ B1) : AccT B0 w v l := by
  obtain ⟨xs, ⟨k1, k2⟩, h2, h3, h4⟩ := h
  refine ⟨xs, ⟨k1, ?_⟩, h2, h3.mono hB, h4⟩
  rcases k2 with k2 | ⟨g, cap, cur, hv, hg, r⟩
  · exact Or.inl k2
  · exact Or.inr ⟨g, cap, cur, hv, Nat.le_trans hB hg, r⟩
theorem AccT.low {B0 : Nat} {w w' : World} {v : Value} {l : List ByteArray} {fp : List Nat} (h : AccT B0 w v l) (T : Touch w w' fp) (hf : ∀ k, k ∈ fp → k < B0) : AccT B0 w' v l :=
  Acc.touch h T (fun k hk hm => by have := (Acc.ge h hk).1; have := hf k hm; omega) (fun k hk => nomatch hk)

open Go.RowKit

open Go.RowKit
set_option linter.unusedSimpArgs false
set_option linter.unusedVariables false

theorem tok_eq {ts : List MToken} {a : Nat} {k : Int} {s : ByteArray} (hk : k ≠ 0) : tkxB ts a k s = true ↔ tkK ts a = k ∧ tkT ts a = s := by
  rw [tkxB_eq hk, Bool.and_eq_true, eqB_iff, beq_iff_eq]
theorem kind_eq {ts : List MToken} {a : Nat} {k : Int} (hk : k ≠ 0) : tkB ts a k = true ↔ tkK ts a = k := by
  rw [tkB_eq hk, beq_iff_eq]
theorem tok_lt {ts : List MToken} {a : Nat} {k : Int} {s : ByteArray} (hk : k ≠ 0) (h : tkxB ts a k s = true) : a < ts.length := tkK_lt (by rw [((tok_eq hk).1 h).1]; exact hk)
theorem kind_lt {ts : List MToken} {a : Nat} {k : Int} (hk : k ≠ 0) (h : tkB ts a k = true) : a < ts.length := tkK_lt (by rw [(kind_eq hk).1 h]; exact hk)

set_option maxHeartbeats 2000000 in
set_option maxRecDepth 100000 in
theorem risk_any {B tb to_ cap : Nat} {ao : Option Addr} {ts : List MToken} {a : Nat} {b : Bool} (w : World) (h : Prs 48 B tb to_ cap ao ts w (a) b) (k : Int) (hk : k ≠ 0) : Calls Tryz.prog 56 #[.pointer (some ⟨B, 0, none⟩), .int .i64 k, .string ⟨#[]⟩] w fun e w' => e = .returned (.bool (tkB ts a k)) ∧ Ext w w' := by
  obtain ⟨c0, c1, c2⟩ := h.cells
  have zB := lt_of_cell c0
  obtain ⟨V, hV⟩ : ∃ V, tkB ts a k = V := ⟨_, rfl⟩
  rw [hV]
  rw [tkB_eq hk] at hV
  by_cases hl : a < ts.length
  · obtain ⟨rfl, t0, t1, t2⟩ := h.at hl
    have hl' : (a : Int) < ts.length := by omega
    have ha0 : (0 : Int) ≤ a := by omega
    have zt := lt_of_cell t0
    generalize tkK ts a = kd at *
    generalize tkT ts a = tx at *
    clear h t2 c2
    by_cases h1 : kd = k
    · have s1 := int_eq h1
      have HV : Hid (true = V) := Lib.hid (by rw [← hV]; simp [h1])
      clear hV h1
      go_enter Tryz.func56, Tryz.ntmps56
      go_wp2_with fail
      have gc0 := reg (Ext.refl _) c0
      have gc1 := reg (Ext.refl _) c1
      have gt0 := reg (Ext.refl _) t0
      have gt1 := reg (Ext.refl _) t1
      refine wp_region_quiet_below (by kernel_rfl) (by kernel_rfl) ?_
      repeat (go_big_quiet_step ((fail)))
      refine wpQuiet_nil ?_
      clear gc0 gc1 gt0 gt1
      intro _ hw'
      obtain ⟨pw, hw''⟩ := hw'
      subst hw''
      have xW2 := regx w pw
      generalize hWR : «Sort».grow (redrawn w pw.d) pw.os = W2 at *
      clear hWR
      replace c0 := xW2.cell c0
      replace c1 := xW2.cell c1
      replace t0 := xW2.cell t0
      replace t1 := xW2.cell t1
      go_wp2_with fail
      go_ret
      exact ⟨ret_bool HV.out, xW2⟩
    have s1 := int_ne h1
    have HV : Hid (false = V) := Lib.hid (by rw [← hV]; simp [s1])
    clear hV h1
    go_enter Tryz.func56, Tryz.ntmps56
    go_wp2_with fail
    have gc0 := reg (Ext.refl _) c0
    have gc1 := reg (Ext.refl _) c1
    have gt0 := reg (Ext.refl _) t0
    have gt1 := reg (Ext.refl _) t1
    refine wp_region_quiet_below (by kernel_rfl) (by kernel_rfl) ?_
    repeat (go_big_quiet_step ((fail)))
    refine wpQuiet_nil ?_
    clear gc0 gc1 gt0 gt1
    intro _ hw'
    obtain ⟨pw, hw''⟩ := hw'
    subst hw''
    have xW2 := regx w pw
    generalize hWR : «Sort».grow (redrawn w pw.d) pw.os = W2 at *
    clear hWR
    replace c0 := xW2.cell c0
    replace c1 := xW2.cell c1
    replace t0 := xW2.cell t0
    replace t1 := xW2.cell t1
    go_wp2_with fail
    go_ret
    exact ⟨ret_bool HV.out, xW2⟩
  have hge : ¬ (a : Int) < ts.length := by omega
  have hd : decide ((a : Int) < ts.length) = false := decide_eq_false hge
  obtain ⟨e1, e2, e3⟩ := tkK_none (ts := ts) (a := a) (by omega)
  have HV : Hid (false = V) := Lib.hid (by rw [← hV, e1]; have : ((0 : Int) == k) = false := by (simp; exact fun h => hk h.symm)
                                           simp [this])
  clear hV h e1 e2 e3 c2
  go_enter Tryz.func56, Tryz.ntmps56
  go_wp2_with fail
  have gc0 := reg (Ext.refl _) c0
  have gc1 := reg (Ext.refl _) c1
  refine wp_region_quiet_below (by kernel_rfl) (by kernel_rfl) ?_
  repeat (go_big_quiet_step ((fail)))
  refine wpQuiet_nil ?_
  clear gc0 gc1
  intro _ hw'
  obtain ⟨pw, hw''⟩ := hw'
  subst hw''
  have xW2 := regx w pw
  generalize hWR : «Sort».grow (redrawn w pw.d) pw.os = W2 at *
  clear hWR
  replace c0 := xW2.cell c0
  replace c1 := xW2.cell c1
  go_wp2_with fail
  go_ret
  exact ⟨ret_bool HV.out, xW2⟩

set_option maxHeartbeats 2000000 in
set_option maxRecDepth 100000 in
theorem risx_any {B tb to_ cap : Nat} {ao : Option Addr} {ts : List MToken} {a : Nat} {b : Bool} (w : World) (h : Prs 48 B tb to_ cap ao ts w (a) b) (k : Int) (s : ByteArray) (hk : k ≠ 0) (hs : (s.toList == []) = false) : Calls Tryz.prog 56 #[.pointer (some ⟨B, 0, none⟩), .int .i64 k, .string s] w fun e w' => e = .returned (.bool (tkxB ts a k s)) ∧ Ext w w' := by
  obtain ⟨c0, c1, c2⟩ := h.cells
  have zB := lt_of_cell c0
  obtain ⟨V, hV⟩ : ∃ V, tkxB ts a k s = V := ⟨_, rfl⟩
  rw [hV]
  rw [tkxB_eq hk] at hV
  by_cases hl : a < ts.length
  · obtain ⟨rfl, t0, t1, t2⟩ := h.at hl
    have hl' : (a : Int) < ts.length := by omega
    have ha0 : (0 : Int) ≤ a := by omega
    have zt := lt_of_cell t0
    generalize tkK ts a = kd at *
    generalize tkT ts a = tx at *
    clear h t2 c2
    by_cases h1 : kd = k
    · have s1 := int_eq h1
      by_cases h2 : tx = s
      · have s2 := str_eq h2
        have HV : Hid (true = V) := Lib.hid (by rw [← hV]; simp [h1, h2, eqB_tt])
        clear hV h1 h2
        go_enter Tryz.func56, Tryz.ntmps56
        go_wp2_with fail
        have gc0 := reg (Ext.refl _) c0
        have gc1 := reg (Ext.refl _) c1
        have gt0 := reg (Ext.refl _) t0
        have gt1 := reg (Ext.refl _) t1
        refine wp_region_quiet_below (by kernel_rfl) (by kernel_rfl) ?_
        repeat (go_big_quiet_step ((fail)))
        refine wpQuiet_nil ?_
        clear gc0 gc1 gt0 gt1
        intro _ hw'
        obtain ⟨pw, hw''⟩ := hw'
        subst hw''
        have xW2 := regx w pw
        generalize hWR : «Sort».grow (redrawn w pw.d) pw.os = W2 at *
        clear hWR
        replace c0 := xW2.cell c0
        replace c1 := xW2.cell c1
        replace t0 := xW2.cell t0
        replace t1 := xW2.cell t1
        go_wp2_with fail
        go_ret
        exact ⟨ret_bool HV.out, xW2⟩
      have s2 := str_ne h2
      have HV : Hid (false = V) := Lib.hid (by rw [← hV]; simp [h1, eqB_ff h2])
      clear hV h1 h2
      go_enter Tryz.func56, Tryz.ntmps56
      go_wp2_with fail
      have gc0 := reg (Ext.refl _) c0
      have gc1 := reg (Ext.refl _) c1
      have gt0 := reg (Ext.refl _) t0
      have gt1 := reg (Ext.refl _) t1
      refine wp_region_quiet_below (by kernel_rfl) (by kernel_rfl) ?_
      repeat (go_big_quiet_step ((fail)))
      refine wpQuiet_nil ?_
      clear gc0 gc1 gt0 gt1
      intro _ hw'
      obtain ⟨pw, hw''⟩ := hw'
      subst hw''
      have xW2 := regx w pw
      generalize hWR : «Sort».grow (redrawn w pw.d) pw.os = W2 at *
      clear hWR
      replace c0 := xW2.cell c0
      replace c1 := xW2.cell c1
      replace t0 := xW2.cell t0
      replace t1 := xW2.cell t1
      go_wp2_with fail
      go_ret
      exact ⟨ret_bool HV.out, xW2⟩
    have s1 := int_ne h1
    have HV : Hid (false = V) := Lib.hid (by rw [← hV]; simp [s1])
    clear hV h1
    go_enter Tryz.func56, Tryz.ntmps56
    go_wp2_with fail
    have gc0 := reg (Ext.refl _) c0
    have gc1 := reg (Ext.refl _) c1
    have gt0 := reg (Ext.refl _) t0
    have gt1 := reg (Ext.refl _) t1
    refine wp_region_quiet_below (by kernel_rfl) (by kernel_rfl) ?_
    repeat (go_big_quiet_step ((fail)))
    refine wpQuiet_nil ?_
    clear gc0 gc1 gt0 gt1
    intro _ hw'
    obtain ⟨pw, hw''⟩ := hw'
    subst hw''
    have xW2 := regx w pw
    generalize hWR : «Sort».grow (redrawn w pw.d) pw.os = W2 at *
    clear hWR
    replace c0 := xW2.cell c0
    replace c1 := xW2.cell c1
    replace t0 := xW2.cell t0
    replace t1 := xW2.cell t1
    go_wp2_with fail
    go_ret
    exact ⟨ret_bool HV.out, xW2⟩
  have hge : ¬ (a : Int) < ts.length := by omega
  have hd : decide ((a : Int) < ts.length) = false := decide_eq_false hge
  obtain ⟨e1, e2, e3⟩ := tkK_none (ts := ts) (a := a) (by omega)
  have HV : Hid (false = V) := Lib.hid (by rw [← hV, e1]; have : ((0 : Int) == k) = false := by (simp; exact fun h => hk h.symm)
                                           simp [this])
  clear hV h e1 e2 e3 c2
  go_enter Tryz.func56, Tryz.ntmps56
  go_wp2_with fail
  have gc0 := reg (Ext.refl _) c0
  have gc1 := reg (Ext.refl _) c1
  refine wp_region_quiet_below (by kernel_rfl) (by kernel_rfl) ?_
  repeat (go_big_quiet_step ((fail)))
  refine wpQuiet_nil ?_
  clear gc0 gc1
  intro _ hw'
  obtain ⟨pw, hw''⟩ := hw'
  subst hw''
  have xW2 := regx w pw
  generalize hWR : «Sort».grow (redrawn w pw.d) pw.os = W2 at *
  clear hWR
  replace c0 := xW2.cell c0
  replace c1 := xW2.cell c1
  go_wp2_with fail
  go_ret
  exact ⟨ret_bool HV.out, xW2⟩

end Go.Proofs.YtonmcoojgkgemaaGreatDoor
