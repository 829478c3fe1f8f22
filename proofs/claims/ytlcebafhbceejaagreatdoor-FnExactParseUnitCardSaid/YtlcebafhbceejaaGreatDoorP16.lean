/-
  SEVERAL TEXTS IN ONE: CONTRACTS: IsExpr, of the program and of the reference; PLAIN: what ParseExpr gives; the tokens of a text as a parser holds them; A SLICE THAT A CALL GATHERS, its elements' own rows anywhere since a block (they may be shared: nothing writes into them); APPENDS of texts, and where the row lies then; CONTRACTS: BuiltinClasses, of the program and of the reference; CONTRACTS: the small functions of the reference's parser; CONTRACTS: the small functions of the program's parser.
  Conditions: those that each lemma states.
-/
import Derived.Test.YtlcebafhbceejaaGreatDoorRows
import Derived.Lib.QuietBelow
import Derived.BigQuiet
import Derived.Deep.RegionHeld3
import Derived.Deep.QuietTactic
import Derived.Test.YtlcebafhbceejaaGreatDoorP15
import Derived.Test.YtlcebafhbceejaaGreatDoorP10
import Derived.Test.YtlcebafhbceejaaGreatDoorP13
import Derived.Test.YtlcebafhbceejaaGreatDoorP07
import Derived.Test.YtlcebafhbceejaaGreatDoorP02
import Derived.Test.YtlcebafhbceejaaGreatDoorP04
namespace Go.Proofs.YtlcebafhbceejaaGreatDoor
open Go.RowKit
set_option maxHeartbeats 8000000
set_option maxRecDepth 100000
set_option linter.unusedSimpArgs false
set_option linter.unusedVariables false
def ExprOk (x : MExpr) : Prop := x.size <= 300 /\ x.depth <= 25 /\ okR (SizeOf.sizeOf x + 1) true x
theorem spec_IsExpr_any (x : MExpr) (cx : List Value) (w : World) (rx : Rep w x.d cx) (hb : x.d.bulk <= 1048576) :
 Calls Tryz.prog 35 #[.agg cx.toArray] w fun e w' => e = .returned (.bool (prB (ExprOk x))) /\ Ext w w' := by
 have hsz := bulk_size hb
 have hdp : x.depth <= 1048577 := by have := MExpr.depth_le x; omega
 have RX : Hid (∀ W, Ext w W -> Rep W x.d cx) := LH fun W h => Rep.ext h rx
 obtain ⟨an, cn, ak, ck, rfl⟩ := MExpr.shut_rep rx
 clear rx
 have HM : Hid (∀ W, Ext (w.alloc (.cells #[.int .i64 x.kind, .string x.text, .int .i64 x.number, .slice an x.names.length cn, .slice ak x.kids.length ck] 70)) W -> W.cell? ⟨w.heap.size, 0, none⟩ = some (.int .i64 x.kind) /\ W.cell? ⟨w.heap.size, 1, none⟩ = some (.string x.text) /\ W.cell? ⟨w.heap.size, 2, none⟩ = some (.int .i64 x.number) /\ W.cell? ⟨w.heap.size, 3, none⟩ = some (.slice an x.names.length cn) /\ W.cell? ⟨w.heap.size, 4, none⟩ = some (.slice ak x.kids.length ck)) := LH fun W hW => ⟨Ext.cell hW (by simp), Ext.cell hW (by simp), Ext.cell hW (by simp), Ext.cell hW (by simp), Ext.cell hW (by simp)⟩
 by_cases hq : x.size <= 300
 rotate_left
 · have hq' : ¬ (x.size : Int) <= 300 := by omega
   go_enter Tryz.func35, Tryz.ntmps35
   go_wp2_with fail
   refine (l3Left_lt _ x 300 _ _ (Nat.lt_succ_self _) hsz (by omega) (by omega) (RX.out _ ((XR w).alloc _))).mono ?_
   rintro e w1 ⟨⟨r, rfl, hr0, hr1, hr2, hr3⟩, hx1⟩
   obtain rfl := hr3 (by omega)
   clear hr2 hr3
   go_wp2_with fail
   go_ret
   exact ⟨ret_bool (Eq.symm (prB_ff fun h => hq h.1)), ((XR w).alloc _).trans hx1⟩
 have hq' : (x.size : Int) <= 300 := by omega
 by_cases hd : x.depth <= 25
 rotate_left
 · have hd' : ¬ (x.depth : Int) <= 25 := by omega
   go_enter Tryz.func35, Tryz.ntmps35
   go_wp2_with fail
   refine (l3Left_lt _ x 300 _ _ (Nat.lt_succ_self _) hsz (by omega) (by omega) (RX.out _ ((XR w).alloc _))).mono ?_
   rintro e w1 ⟨⟨r, rfl, hr0, hr1, hr2, hr3⟩, hx1⟩
   have hr4 : (0 : Int) <= r := by have := hr2 (by omega); omega
   have Hr := LH (And.intro hr2 hr3); clear hr2 hr3
   obtain ⟨m0, m1, m2, m3, m4⟩ := HM.out _ hx1
   go_wp2_with fail
   refine (l3Depth_lt _ x _ _ (Nat.lt_succ_self _) hsz (RX.out _ (((XR w).alloc _).trans hx1))).mono ?_
   rintro e w2 ⟨rfl, hx2⟩
   clear m0 m1 m2 m3 m4
   go_wp2_with fail
   go_ret
   exact ⟨ret_bool (Eq.symm (prB_ff fun h => hd h.2.1)), (((XR w).alloc _).trans hx1).trans hx2⟩
 have hd' : (x.depth : Int) <= 25 := by omega
 go_enter Tryz.func35, Tryz.ntmps35
 go_wp2_with fail
 refine (l3Left_lt _ x 300 _ _ (Nat.lt_succ_self _) hsz (by omega) (by omega) (RX.out _ ((XR w).alloc _))).mono ?_
 rintro e w1 ⟨⟨r, rfl, hr0, hr1, hr2, hr3⟩, hx1⟩
 have hr4 : (0 : Int) <= r := by have := hr2 (by omega); omega
 have Hr := LH (And.intro hr2 hr3); clear hr2 hr3
 obtain ⟨m0, m1, m2, m3, m4⟩ := HM.out _ hx1
 go_wp2_with fail
 refine (l3Depth_lt _ x _ _ (Nat.lt_succ_self _) hsz (RX.out _ (((XR w).alloc _).trans hx1))).mono ?_
 rintro e w2 ⟨rfl, hx2⟩
 clear m0 m1 m2 m3 m4
 obtain ⟨m0, m1, m2, m3, m4⟩ := HM.out _ (hx1.trans hx2)
 go_wp2_with fail
 refine (l3Right_at (SizeOf.sizeOf x + 1) true x _ _ (Nat.lt_succ_self _) hb (RX.out _ ((((XR w).alloc _).trans hx1).trans hx2))).mono ?_
 rintro e w3 ⟨rfl, hx3⟩
 clear m0 m1 m2 m3 m4
 go_wp2_with fail
 go_ret
 refine ⟨ret_bool ?_, ((((XR w).alloc _).trans hx1).trans hx2).trans hx3⟩
 congr 1
 rw [eq_iff_iff]
 exact ⟨fun h => ⟨hq, hd, h⟩, fun h => h.2.2⟩
theorem impl_IsExpr_any (x : MExpr) (cx : List Value) (w : World) (rx : Rep w x.d cx) (hb : x.d.bulk <= 1048576) (hm : MaxOk w) :
 Calls Tryz.prog 101 #[.agg cx.toArray] w fun e w' => e = .returned (.bool (prB (ExprOk x))) /\ Ext w w' := by
 have hsz := bulk_size hb
 have hdp : x.depth <= 1048577 := by have := MExpr.depth_le x; omega
 have RX : Hid (∀ W, Ext w W -> Rep W x.d cx) := LH fun W h => Rep.ext h rx
 obtain ⟨an, cn, ak, ck, rfl⟩ := MExpr.shut_rep rx
 clear rx
 have HM : Hid (∀ W, Ext (w.alloc (.cells #[.int .i64 x.kind, .string x.text, .int .i64 x.number, .slice an x.names.length cn, .slice ak x.kids.length ck] 70)) W -> W.cell? ⟨w.heap.size, 0, none⟩ = some (.int .i64 x.kind) /\ W.cell? ⟨w.heap.size, 1, none⟩ = some (.string x.text) /\ W.cell? ⟨w.heap.size, 2, none⟩ = some (.int .i64 x.number) /\ W.cell? ⟨w.heap.size, 3, none⟩ = some (.slice an x.names.length cn) /\ W.cell? ⟨w.heap.size, 4, none⟩ = some (.slice ak x.kids.length ck)) := LH fun W hW => ⟨Ext.cell hW (by simp), Ext.cell hW (by simp), Ext.cell hW (by simp), Ext.cell hW (by simp), Ext.cell hW (by simp)⟩
 by_cases hq : x.size <= 300
 rotate_left
 · have hq' : ¬ (x.size : Int) <= 300 := by omega
   go_enter Tryz.func101, Tryz.ntmps101
   go_wp2_with fail
   refine (impl_SizeOfExpr_any x _ _ (RX.out _ ((XR w).alloc _)) hsz).mono ?_
   rintro e w1 ⟨rfl, hx1⟩
   skip
   go_wp2_with fail
   go_ret
   exact ⟨ret_bool (Eq.symm (prB_ff fun h => hq h.1)), ((XR w).alloc _).trans hx1⟩
 have hq' : (x.size : Int) <= 300 := by omega
 by_cases hd : x.depth <= 25
 rotate_left
 · have hd' : ¬ (x.depth : Int) <= 25 := by omega
   go_enter Tryz.func101, Tryz.ntmps101
   go_wp2_with fail
   refine (impl_SizeOfExpr_any x _ _ (RX.out _ ((XR w).alloc _)) hsz).mono ?_
   rintro e w1 ⟨rfl, hx1⟩
   skip
   obtain ⟨m0, m1, m2, m3, m4⟩ := HM.out _ hx1
   go_wp2_with fail
   refine (impl_DepthOfExpr_any x _ _ (RX.out _ (((XR w).alloc _).trans hx1)) hsz).mono ?_
   rintro e w2 ⟨rfl, hx2⟩
   clear m0 m1 m2 m3 m4
   go_wp2_with fail
   go_ret
   exact ⟨ret_bool (Eq.symm (prB_ff fun h => hd h.2.1)), (((XR w).alloc _).trans hx1).trans hx2⟩
 have hd' : (x.depth : Int) <= 25 := by omega
 go_enter Tryz.func101, Tryz.ntmps101
 go_wp2_with fail
 refine (impl_SizeOfExpr_any x _ _ (RX.out _ ((XR w).alloc _)) hsz).mono ?_
 rintro e w1 ⟨rfl, hx1⟩
 skip
 obtain ⟨m0, m1, m2, m3, m4⟩ := HM.out _ hx1
 go_wp2_with fail
 refine (impl_DepthOfExpr_any x _ _ (RX.out _ (((XR w).alloc _).trans hx1)) hsz).mono ?_
 rintro e w2 ⟨rfl, hx2⟩
 clear m0 m1 m2 m3 m4
 obtain ⟨m0, m1, m2, m3, m4⟩ := HM.out _ (hx1.trans hx2)
 go_wp2_with fail
 refine (wellFormed_at (SizeOf.sizeOf x + 1) x _ _ (Nat.lt_succ_self _) hb (hm.ext ((((XR w).alloc _).trans hx1).trans hx2)) (RX.out _ ((((XR w).alloc _).trans hx1).trans hx2))).mono ?_
 rintro e w3 ⟨rfl, hx3⟩
 clear m0 m1 m2 m3 m4
 go_wp2_with fail
 go_ret
 refine ⟨ret_bool ?_, ((((XR w).alloc _).trans hx1).trans hx2).trans hx3⟩
 congr 1
 rw [eq_iff_iff]
 exact ⟨fun h => ⟨hq, hd, h⟩, fun h => h.2.2⟩
theorem sum_mem : ∀ {ts : List MToken} {t : MToken}, t ∈ ts -> t.text.size <= sumW ts
 | [], _, h => by cases h
 | y :: ys, t, h => by
  rw [sumW]
  rcases List.mem_cons.1 h with rfl | h
  · omega
  · have := sum_mem h; omega
theorem Prs.make {ty : TypeId} {s : ByteArray} {w w' : World} {B : Nat} {ao : Option Addr} {n cap : Nat} {fp : List Nat} {bad : Bool} (hr : RepF w (MTokens ((toksL s).getD [])) [.slice ao n cap] fp) (hx : Ext w w') (hB : w.heap.size <= B) (hO : Own w' B ty #[.slice ao n cap, .int .i64 0, .bool bad]) :
 n = ((toksL s).getD []).length /\ ∃ tb to_, Prs ty B tb to_ cap ao ((toksL s).getD []) w' 0 bad := by
 obtain ⟨ao', cap', b, o, h1, hl, hm, pa, ha⟩ := Rep.slmap hr.rep
 simp only [List.cons.injEq, and_true, Value.slice.injEq] at h1
 obtain ⟨rfl, rfl, rfl⟩ := h1
 have hq : (∀ t, t ∈ (toksL s).getD [] -> TokQ t) /\ sumW ((toksL s).getD []) <= 4000 + 84 * ((toksL s).getD []).length := by
  cases ht : toksL s with
  | none => exact ⟨(fun t h => nomatch h), by simp [sumW]⟩
  | some ts => exact toks_q ht
 have h8 := toks_len s
 have hcell : ∀ (i : Nat) (t : MToken), ((toksL s).getD [])[i]? = some t -> w.cell? ⟨b, o + i * 3, none⟩ = some (.int .i64 t.kind) /\ w.cell? ⟨b, o + i * 3 + 1, none⟩ = some (.string t.text) /\ w.cell? ⟨b, o + i * 3 + 2, none⟩ = some (.int .i64 t.number) := fun i t hi => by
  obtain ⟨es, _, hc, hrt⟩ := ha i t hi
  obtain rfl := MToken.op_en hrt
  exact ⟨hc 0 (by omega), hc 1 (by omega), hc 2 (by omega)⟩
 refine ⟨rfl, b, o, hO, pa, fun i t hi => ?_, fun h0 => ?_, ⟨hl, by unfold maxLen at hm; omega⟩, h8, fun t ht => ?_, fun t ht => ?_, by omega, fun _ => Nat.zero_le _⟩
 · obtain ⟨c0, c1, c2⟩ := hcell i t hi
   exact ⟨hx.cell c0, hx.cell c1, hx.cell c2⟩
 · have hlt : b < w.heap.size := lt_of_cell (hcell 0 _ (List.getElem?_eq_getElem h0)).1
   omega
 · have := sum_mem ht
   omega
 · exact hq.1 t ht
theorem toks_sum {s : ByteArray} {ts : List MToken} (h : toksL s = some ts) : sumW ts <= 4000 + 84 * ts.length /\ ts.length <= 800 := ⟨(toks_q h).2, by have := toks_len s; rw [h] at this; exact this⟩
def Acw (B0 : Nat) (w : World) (e : TypeId) (size : Nat) (v : Value) (ds : List D) : Prop :=
 ∃ xs fp, w.ownsRow B0 e size v ds.length xs /\ RepR w size ds xs fp /\ (∀ k, k ∈ fp -> B0 <= k) /\ ∀ k, v.ownBlock = some k -> k ∉ fp
theorem Acw.touch {B0 : Nat} {w w' : World} {e : TypeId} {size : Nat} {v : Value} {ds : List D} {gp : List Nat} (h : Acw B0 w e size v ds) (ht : Touch w w' gp) (hg : ∀ k, k ∈ gp -> k < B0) : Acw B0 w' e size v ds := by
 obtain ⟨xs, fp, ⟨k1, k2⟩, h2, h3, h4⟩ := h
 refine ⟨xs, fp, ⟨k1, ?_⟩, h2.keep _ _ fun k hk => ht.block k (h2.lt _ _ k hk) (fun hm => by have := hg k hm; have := h3 k hk; omega), h3, h4⟩
 rcases k2 with k2 | ⟨g, cap, cur, rfl, hg2, hh, r⟩
 · exact Or.inl k2
 · exact Or.inr ⟨g, cap, cur, rfl, hg2, (ht.block g (Array.getElem?_eq_some_iff.1 hh).1 (fun hm => by have := hg g hm; omega)).trans hh, r⟩
theorem Acw.ext {B0 : Nat} {w w' : World} {e : TypeId} {size : Nat} {v : Value} {ds : List D} (h : Acw B0 w e size v ds) (hx : Ext w w') : Acw B0 w' e size v ds := h.touch (Touch.of_ext hx []) (fun k hk => nomatch hk)
theorem Acw.nil (B0 : Nat) (w : World) (e : TypeId) (size : Nat) : Acw B0 w e size (.slice none 0 0) [] := ⟨[], [], World.ownsRow_nil _ _ _ _, by simp [RepR], (fun k hk => nomatch hk), (fun k hk => nomatch hk)⟩
theorem Acw.of {B0 : Nat} {w : World} {e : TypeId} {size : Nat} {v : Value} {ds : List D} {fp : List Nat} (h : Acc B0 w e size v ds fp) : Acw B0 w e size v ds := by
 obtain ⟨xs, h1, h2, h3, h4⟩ := h
 exact ⟨xs, fp, h1, h2, h3.ge, h4⟩
theorem Acw.ge {B0 : Nat} {w : World} {e : TypeId} {size : Nat} {v : Value} {ds : List D} (h : Acw B0 w e size v ds) {k : Nat} (hk : v.ownBlock = some k) : B0 <= k /\ k < w.heap.size := by
 obtain ⟨xs, fp, ⟨_, h2⟩, _⟩ := h
 rcases h2 with ⟨rfl, _⟩ | ⟨g, cap, cur, rfl, hg, hh, _⟩
 · cases hk
 · simp [Value.ownBlock] at hk
   subst hk
   exact ⟨hg, (Array.getElem?_eq_some_iff.1 hh).1⟩
theorem Acw.base {B0 B1 : Nat} {w : World} {e : TypeId} {size : Nat} {v : Value} {ds : List D} (h : Acw B1 w e size v ds) (hB : B0 <= B1) : Acw B0 w e size v ds := by
 obtain ⟨xs, fp, ⟨k1, k2⟩, h2, h3, h4⟩ := h
 refine ⟨xs, fp, ⟨k1, ?_⟩, h2, fun k hk => Nat.le_trans hB (h3 k hk), h4⟩
 rcases k2 with k2 | ⟨g, cap, cur, hv, hg, r⟩
 · exact Or.inl k2
 · exact Or.inr ⟨g, cap, cur, hv, Nat.le_trans hB hg, r⟩
theorem Acw.rep {B0 : Nat} {w : World} {e : TypeId} {size : Nat} {v : Value} {ds : List D} (h : Acw B0 w e size v ds) (hsz : 0 < size) : ∃ ao cap gp, v = .slice ao ds.length cap /\ RepF w (.sl size ds) [.slice ao ds.length cap] gp /\ ∀ k, k ∈ gp -> B0 <= k := by
 obtain ⟨xs, fp, ⟨k1, k2⟩, h2, h3, h4⟩ := h
 rcases k2 with ⟨rfl, hn⟩ | ⟨g, cap, cur, rfl, hg, hh, hc, hm, hcs, htk⟩
 · have : ds = [] := List.length_eq_zero_iff.1 hn
   subst this
   exact ⟨none, 0, [], rfl, RepF.sl_iff.2 ⟨none, 0, rfl, by simp, by unfold maxLen; omega, by simp, Or.inl ⟨rfl, rfl⟩⟩, fun k hk => nomatch hk⟩
 · by_cases h0 : ds = []
   · subst h0
     exact ⟨_, cap, [], rfl, RepF.sl_iff.2 ⟨_, cap, rfl, hc, hm, by simp, Or.inl ⟨rfl, rfl⟩⟩, fun k hk => nomatch hk⟩
   · refine ⟨_, cap, g :: fp, rfl, RepF.sl_iff.2 ⟨_, cap, rfl, hc, hm, by simp, Or.inr ⟨g, 0, xs, fp, h0, rfl, rfl, (Array.getElem?_eq_some_iff.1 hh).1, fun j c hj => ?_, h2⟩⟩, fun k hk => ?_⟩
     · rw [Nat.zero_add, cell_of_row w g j cur e (0, 0) hh]
       rw [<- htk] at hj
       have hjl := (List.getElem?_eq_some_iff.1 hj).1
       rw [List.getElem?_take_of_lt (by rw [List.length_take] at hjl; omega)] at hj
       simpa using hj
     · rcases List.mem_cons.1 hk with rfl | hk
       · exact hg
       · exact h3 k hk
theorem run_append_w {P : Program} {w : World} (t ty : TypeId) (B0 : Nat) (e : TypeId) (i : TypeInfo) (z : Value) (size bytes : Nat) (ht : P.underlying t = some (.slice e)) (hi : P.info? e = some i) (hz : i.zero = some z)
 (hsize : i.size = size) (hby : i.bytes = bytes) (hzs : z.cells.size = size) (hsz : 0 < size)
 (v : Value) (ds : List D) (hacc : Acw B0 w e size v ds) (ys : List D) (ao : Option Addr) (m c : Nat) (gp : List Nat) (hr : RepF w (.sl size ys) [.slice ao m c] gp)
 (hF : ∀ k, k ∈ gp.tail -> B0 <= k) (hown : ∀ k, v.ownBlock = some k -> k ∉ gp.tail)
 (h63 : ds.length + m <= maxLen) (hbytes : (ds.length + m) * bytes <= 140737488355328) (hbase : B0 <= w.heap.size) :
 ∃ ao' cap' w', (Builtin.append_ #[t, t] ty #[v, .slice ao m c]).run P w = .ok (.slice ao' (ds.length + m) cap') w' /\ Acw B0 w' e size (.slice ao' (ds.length + m) cap') (ds ++ ys) /\ w.grownBy w' v.ownBlock /\ ((Value.slice ao' (ds.length + m) cap').ownBlock = v.ownBlock ∨ (Value.slice ao' (ds.length + m) cap').ownBlock = some w.heap.size) := by
 obtain ⟨xs, fp, h1, h2, h3, h4⟩ := hacc
 obtain ⟨hm, hml, news, hnr, hsrc⟩ := hr.source
 rcases hsrc with ⟨rfl, rfl, rfl, rfl⟩ | ⟨ad, rfl, hcells⟩
 · have hv : ∃ ao' cap', v = .slice ao' (ds.length + 0) cap' := by
    rcases h1.2 with ⟨rfl, hn⟩ | ⟨g, cap, cur, rfl, _⟩
    · exact ⟨none, 0, by rw [hn]⟩
    · exact ⟨_, cap, by rw [Nat.add_zero]⟩
   obtain ⟨ao', cap', hv⟩ := hv
   refine ⟨ao', cap', w, ?_, ⟨xs, fp, by rw [<- hv]; simpa using h1, by simpa using h2, h3, by rw [<- hv]; exact h4⟩, World.grownBy.refl _ _, Or.inl (by rw [<- hv])⟩
   rw [<- hv]
   exact run_append_owned_none (P := P) (w := w) B0 t ty e i size ht hi v ds.length xs h1
 · obtain ⟨v', w', hrun, hown', hgrow, hnil, hat⟩ := run_append_own_at (P := P) w B0 t ty e i z size bytes ht hi hz hsize hby hzs hsz v ds.length xs h1 ad m c news (by rw [hm]; exact hnr.length) hcells (fun u hu => RepR.one_cell hnr u hu) h63 hbytes hbase
   have hv : ∃ ao' cap', v' = .slice ao' (ds.length + m) cap' := by
    rcases hown'.2 with ⟨rfl, hn⟩ | ⟨g, cap, cur, rfl, _⟩
    · exact ⟨none, 0, by rw [hn]⟩
    · exact ⟨_, cap, rfl⟩
   have hlt : ∀ k, k ∈ fp ++ gp.tail -> k < w.heap.size := fun k hk => by
    rcases List.mem_append.1 hk with hk | hk
    · exact h2.lt _ _ k hk
    · exact hnr.lt _ _ k hk
   have hkeep : ∀ k, k ∈ fp ++ gp.tail -> w'.heap[k]? = w.heap[k]? := fun k hk => grown_keep hgrow (hlt k hk) (fun e => by
    rcases List.mem_append.1 hk with hk | hk
    · exact h4 k e hk
    · exact hown k e hk)
   obtain ⟨ao', cap', rfl⟩ := hv
   refine ⟨ao', cap', w', hrun, ⟨xs ++ news, fp ++ gp.tail, by rw [List.length_append, <- hm]; exact hown', (h2.keep size ds fun k hk => hkeep k (List.mem_append_left _ hk)).append (hnr.keep size ys fun k hk => hkeep k (List.mem_append_right _ hk)),
    fun k hk => (List.mem_append.1 hk).elim (h3 k) (hF k), fun k hk hkm => ?_⟩, hgrow, hat⟩
   rcases hat with hat | hat
   · rw [hat] at hk
     rcases List.mem_append.1 hkm with hkm | hkm
     · exact h4 k hk hkm
     · exact hown k hk hkm
   · have := hlt k hkm
     rw [hat] at hk; injection hk with hk; omega
theorem wp_append_w {P : Program} {w : World} {o : Oper} {a : Act} {K : Act -> World -> Prop} {Q : Exit -> Act -> World -> Prop} (s x : Operand) (t : TypeId)
 (ho : o.op = .call { callee := .builtin .append, args := #[s, x], argTypes := #[t, t] })
 (B0 : Nat) (e : TypeId) (i : TypeInfo) (z : Value) (size bytes : Nat) (ht : P.underlying t = some (.slice e)) (hi : P.info? e = some i) (hz : i.zero = some z)
 (hsize : i.size = size) (hby : i.bytes = bytes) (hzs : z.cells.size = size) (hsz : 0 < size)
 (v : Value) (ds : List D) (hs : a.eval s = v) (hacc : Acw B0 w e size v ds)
 (ys : List D) (ao : Option Addr) (m c : Nat) (gp : List Nat) (hx : a.eval x = .slice ao m c) (hr : RepF w (.sl size ys) [.slice ao m c] gp)
 (hF : ∀ k, k ∈ gp.tail -> B0 <= k) (hown : ∀ k, v.ownBlock = some k -> k ∉ gp.tail)
 (h63 : ds.length + m <= maxLen) (hbytes : (ds.length + m) * bytes <= 140737488355328) (hbase : B0 <= w.heap.size)
 (h : ∀ ao' cap' w', Acw B0 w' e size (.slice ao' (ds.length + m) cap') (ds ++ ys) -> w.grownBy w' v.ownBlock -> ((Value.slice ao' (ds.length + m) cap').ownBlock = v.ownBlock ∨ (Value.slice ao' (ds.length + m) cap').ownBlock = some w.heap.size) -> K (a.put o.dst (.slice ao' (ds.length + m) cap')) w') : o.wp P a w K Q := by
 obtain ⟨ao', cap', w', hrun, h2, h3, h4⟩ := run_append_w (P := P) t o.type B0 e i z size bytes ht hi hz hsize hby hzs hsz v ds hacc ys ao m c gp hr hF hown h63 hbytes hbase
 unfold Oper.wp execOp
 simp only [ho, resolve, invoke, builtin, Sem.run_bind, Sem.run_pure, Result.andThen_ok, List.map_toArray, List.map_cons, List.map_nil, hs, hx, hrun]
 exact h ao' cap' w' h2 h3 h4
theorem exprInfo : (Tryz.prog.info? 70).map (fun i => (i.zero, i.size, i.bytes)) = some (some (.agg #[.int .i64 0, .string ByteArray.empty, .int .i64 0, .slice none 0 0, .slice none 0 0]), 5, 80) := by kernel_rfl
def AccX (B0 : Nat) (w : World) (v : Value) (l : List MExpr) : Prop := Acw B0 w 70 5 v (l.map MExpr.d)
theorem AccX.rep {B0 : Nat} {w : World} {v : Value} {l : List MExpr} (h : AccX B0 w v l) : ∃ ao cap gp, v = .slice ao l.length cap /\ RepF w (MExprs l) [.slice ao l.length cap] gp /\ ∀ k, k ∈ gp -> B0 <= k := by
 obtain ⟨ao, cap, gp, h1, h2, h3⟩ := Acw.rep h (by decide)
 simp only [List.length_map] at h1 h2
 exact ⟨ao, cap, gp, h1, h2, h3⟩
theorem wp_append_x {w : World} {o : Oper} {a : Act} {K : Act -> World -> Prop} {Q : Exit -> Act -> World -> Prop} (s y : Operand)
 (ho : o.op = .call { callee := .builtin .append, args := #[s, y], argTypes := #[24, 24] })
 (B0 : Nat) (v : Value) (l : List MExpr) (hs : a.eval s = v) (hacc : AccX B0 w v l)
 (ys : List MExpr) (ao : Option Addr) (m c : Nat) (gp : List Nat) (hx : a.eval y = .slice ao m c) (hr : RepF w (MExprs ys) [.slice ao m c] gp)
 (hF : ∀ k, k ∈ gp.tail -> B0 <= k) (hown : ∀ k, v.ownBlock = some k -> k ∉ gp.tail) (hlen : l.length + ys.length <= 1073741824) (hbase : B0 <= w.heap.size)
 (h : ∀ ao' cap' w', AccX B0 w' (.slice ao' (l.length + ys.length) cap') (l ++ ys) -> w.grownBy w' v.ownBlock -> ((Value.slice ao' (l.length + ys.length) cap').ownBlock = v.ownBlock ∨ (Value.slice ao' (l.length + ys.length) cap').ownBlock = some w.heap.size) -> K (a.put o.dst (.slice ao' (l.length + ys.length) cap')) w') : o.wp Tryz.prog a w K Q := by
 obtain ⟨i0, hi, hz0, hz1, hz2⟩ := info_parts exprInfo
 have hm : m = ys.length := by
  obtain ⟨_, _, h1, _⟩ := RepF.sl_iff.1 hr
  simp at h1; omega
 subst hm
 refine wp_append_w s y 24 ho B0 70 i0 _ 5 80 Tryz.underlying24 hi hz0 hz1 hz2 rfl (by decide) v (l.map MExpr.d) hs hacc (ys.map MExpr.d) ao ys.length c gp hx hr hF hown (by simp [maxLen]; omega) (by simp; omega) hbase ?_
 intro ao' cap' w' h2 h3 h4
 simp only [List.length_map, <- List.map_append] at h2 h4 ⊢
 exact h ao' cap' w' h2 h3 h4
theorem wpList_append_x {w : World} {ops : Array Oper} {rest : List Oper} {o : Oper} {a : Act} {Q : Exit -> Act -> World -> Prop} (hgd : o.guard = none) (s y : Operand)
 (ho : o.op = .call { callee := .builtin .append, args := #[s, y], argTypes := #[24, 24] })
 (B0 : Nat) (v : Value) (l : List MExpr) (hs : a.eval s = v) (hacc : AccX B0 w v l)
 (ys : List MExpr) (ao : Option Addr) (m c : Nat) (gp : List Nat) (hx : a.eval y = .slice ao m c) (hr : RepF w (MExprs ys) [.slice ao m c] gp)
 (hF : ∀ k, k ∈ gp.tail -> B0 <= k) (hown : ∀ k, v.ownBlock = some k -> k ∉ gp.tail) (hlen : l.length + ys.length <= 1073741824) (hbase : B0 <= w.heap.size)
 (h : ∀ ao' cap' w', AccX B0 w' (.slice ao' (l.length + ys.length) cap') (l ++ ys) -> w.grownBy w' v.ownBlock -> ((Value.slice ao' (l.length + ys.length) cap').ownBlock = v.ownBlock ∨ (Value.slice ao' (l.length + ys.length) cap').ownBlock = some w.heap.size) -> wpList Tryz.prog ops Q rest (a.put o.dst (.slice ao' (l.length + ys.length) cap')) w') : wpList Tryz.prog ops Q (o :: rest) a w :=
 wpList_plain hgd fun _ hK => wp_append_x s y ho B0 v l hs hacc ys ao m c gp hx hr hF hown hlen hbase fun ao' cap' w' h2 h3 h4 => hK _ _ (h ao' cap' w' h2 h3 h4)
theorem one_expr {w : World} {x : MExpr} {cs : List Value} {fp : List Nat} {b : Nat} {e : TypeId} (h : RepF w x.d cs fp) (hO : Own w b e cs.toArray) : RepF w (MExprs [x]) [.slice (some ⟨b, 0, none⟩) 1 1] (b :: fp) := by
 have hl : cs.length = 5 := by
  obtain ⟨_, _, _, _, rfl, -, -⟩ := MExpr.op_en h.rep
  rfl
 refine RepF.sl_iff.2 ⟨_, 1, by simp, by simp, by unfold maxLen; omega, by simp, Or.inr ⟨b, 0, cs, fp, by simp, rfl, rfl, hO.lt, fun j c hj => ?_, ?_⟩⟩
 · rw [Nat.zero_add, hO.cell]; simpa using hj
 · exact RepR.one h hl
theorem Touch.trans' {a b c : World} {fp gp : List Nat} (h : Touch a b fp) (k : Touch b c gp) (hg : ∀ x, x ∈ gp -> x ∈ fp ∨ a.heap.size <= x) : Touch a c fp :=
 ⟨k.os.trans h.os, k.tape.trans h.tape, k.output.trans h.output, Nat.le_trans h.size k.size, fun i hi hn => (k.block i (Nat.lt_of_lt_of_le hi h.size) (fun hm => (hg i hm).elim hn (fun h => by omega))).trans (h.block i hi hn)⟩
theorem Acc.touch {B0 : Nat} {w w' : World} {e : TypeId} {size : Nat} {v : Value} {ds : List D} {fp gp : List Nat} (h : Acc B0 w e size v ds gp) (ht : Touch w w' fp) (hv : ∀ k, v.ownBlock = some k -> k ∉ fp) (hg : ∀ k, k ∈ gp -> k ∉ fp) : Acc B0 w' e size v ds gp := by
 obtain ⟨xs, h1, h2, h3, h4⟩ := h
 refine ⟨xs, ?_, h2.keep _ _ fun k hk => ht.block k (h3.lt hk) (hg k hk), h3.touch ht hg, h4⟩
 obtain ⟨k1, k2⟩ := h1
 refine ⟨k1, ?_⟩
 rcases k2 with k2 | ⟨g, cap, cur, rfl, hg, hh, r⟩
 · exact Or.inl k2
 · exact Or.inr ⟨g, cap, cur, rfl, hg, (ht.block g (Array.getElem?_eq_some_iff.1 hh).1 (hv g rfl)).trans hh, r⟩
theorem Acc.ge {B0 : Nat} {w : World} {e : TypeId} {size : Nat} {v : Value} {ds : List D} {fp : List Nat} (h : Acc B0 w e size v ds fp) {k : Nat} (hk : v.ownBlock = some k) : B0 <= k /\ k < w.heap.size := by
 obtain ⟨xs, ⟨_, h2⟩, _⟩ := h
 rcases h2 with ⟨rfl, _⟩ | ⟨g, cap, cur, rfl, hg, hh, _⟩
 · cases hk
 · simp [Value.ownBlock] at hk
   subst hk
   exact ⟨hg, (Array.getElem?_eq_some_iff.1 hh).1⟩
theorem wpList_append_strs_at {w : World} {ops : Array Oper} {rest : List Oper} {o : Oper} {a : Act} {Q : Exit -> Act -> World -> Prop} (hgd : o.guard = none) (s x : Operand)
 (ho : o.op = .call { callee := .builtin .append, args := #[s, x], argTypes := #[23, 23] })
 (B0 : Nat) (v : Value) (l : List ByteArray) (hs : a.eval s = v) (hacc : AccT B0 w v l)
 (ys : List ByteArray) (ao : Option Addr) (m c : Nat) (hx : a.eval x = .slice ao m c) (hr : Rep w (strs ys) [.slice ao m c])
 (hlen : l.length + ys.length <= 1073741824) (hbase : B0 <= w.heap.size)
 (h : ∀ ao' cap' w', AccT B0 w' (.slice ao' (l.length + ys.length) cap') (l ++ ys) -> w.grownBy w' v.ownBlock -> ((Value.slice ao' (l.length + ys.length) cap').ownBlock = v.ownBlock ∨ (Value.slice ao' (l.length + ys.length) cap').ownBlock = some w.heap.size) -> wpList Tryz.prog ops Q rest (a.put o.dst (.slice ao' (l.length + ys.length) cap')) w') : wpList Tryz.prog ops Q (o :: rest) a w := by
 obtain ⟨i0, hi, hz0, hz1, hz2⟩ := info_parts strInfo
 obtain ⟨gp, hr⟩ := hr
 have ht := hr.strs_tail
 have hm : m = ys.length := by
  obtain ⟨_, _, h1, _⟩ := RepF.sl_iff.1 hr
  simp at h1; omega
 subst hm
 refine wpList_append_at hgd s x 23 ho B0 9 i0 _ 1 16 Tryz.underlying23 hi hz0 hz1 hz2 rfl (by decide) v (l.map .str) [] hs hacc (ys.map .str) ao ys.length c gp hx hr (by rw [ht]; exact Fresh.nil _ _) (by rw [ht]; simp) (by simp [maxLen]; omega) (by simp; omega) hbase ?_
 intro ao' cap' w' h2 h3 h4
 rw [ht] at h2
 simp only [List.length_map, List.append_nil, <- List.map_append] at h2 h4 ⊢
 exact h ao' cap' w' h2 h3 h4
theorem AccT.base {B0 B1 : Nat} {w : World} {v : Value} {l : List ByteArray} (h : AccT B1 w v l) (hB : B0 <= B1) : AccT B0 w v l := by
 obtain ⟨xs, ⟨k1, k2⟩, h2, h3, h4⟩ := h
 refine ⟨xs, ⟨k1, ?_⟩, h2, h3.mono hB, h4⟩
 rcases k2 with k2 | ⟨g, cap, cur, hv, hg, r⟩
 · exact Or.inl k2
 · exact Or.inr ⟨g, cap, cur, hv, Nat.le_trans hB hg, r⟩
theorem AccT.low {B0 : Nat} {w w' : World} {v : Value} {l : List ByteArray} {fp : List Nat} (h : AccT B0 w v l) (T : Touch w w' fp) (hf : ∀ k, k ∈ fp -> k < B0) : AccT B0 w' v l :=
 Acc.touch h T (fun k hk hm => by have := (Acc.ge h hk).1; have := hf k hm; omega) (fun k hk => nomatch hk)

theorem tok_eq {ts : List MToken} {a : Nat} {k : Int} {s : ByteArray} (hk : k ≠ 0) : tkxB ts a k s = true ↔ tkK ts a = k /\ tkT ts a = s := by
 rw [tkxB_eq hk, Bool.and_eq_true, eqB_iff, beq_iff_eq]
theorem kind_eq {ts : List MToken} {a : Nat} {k : Int} (hk : k ≠ 0) : tkB ts a k = true ↔ tkK ts a = k := by
 rw [tkB_eq hk, beq_iff_eq]
theorem tok_lt {ts : List MToken} {a : Nat} {k : Int} {s : ByteArray} (hk : k ≠ 0) (h : tkxB ts a k s = true) : a < ts.length := tkK_lt (by rw [((tok_eq hk).1 h).1]; exact hk)
theorem kind_lt {ts : List MToken} {a : Nat} {k : Int} (hk : k ≠ 0) (h : tkB ts a k = true) : a < ts.length := tkK_lt (by rw [(kind_eq hk).1 h]; exact hk)
theorem risk_any {B tb to_ cap : Nat} {ao : Option Addr} {ts : List MToken} {a : Nat} {b : Bool} (w : World) (h : Prs 38 B tb to_ cap ao ts w (a) b) (k : Int) (hk : k ≠ 0) : Calls Tryz.prog 31 #[.pointer (some ⟨B, 0, none⟩), .int .i64 k, .string ⟨#[]⟩] w fun e w' => e = .returned (.bool (tkB ts a k)) /\ Ext w w' := by
 obtain ⟨c0, c1, c2⟩ := h.cells
 have zB := lt_of_cell c0
 obtain ⟨V, hV⟩ : ∃ V, tkB ts a k = V := ⟨_, rfl⟩
 rw [hV]
 rw [tkB_eq hk] at hV
 by_cases hl : a < ts.length
 · obtain ⟨rfl, t0, t1, t2⟩ := h.at hl
   have hl' : (a : Int) < ts.length := by omega
   have ha0 : (0 : Int) <= a := by omega
   have zt := lt_of_cell t0
   generalize tkK ts a = kd at *
   generalize tkT ts a = tx at *
   clear h t2 c2
   by_cases h1 : kd = k
   · have s1 := int_eq h1
     have HV : Hid (true = V) := LH (by rw [<- hV]; simp [h1])
     clear hV h1
     go_enter Tryz.func31, Tryz.ntmps31
     go_wp2_with fail
     have gc0 := reg (XR _) c0
     have gc1 := reg (XR _) c1
     have gt0 := reg (XR _) t0
     have gt1 := reg (XR _) t1
     refine wp_region_quiet_below (by kernel_rfl) (by kernel_rfl) ?_
     repeat (go_big_quiet_step ((fail)))
     refine wpQuiet_nil ?_
     clear gc0 gc1 gt0 gt1
     intro _ hw'
     obtain ⟨pw, hw''⟩ := hw'
     subst hw''
     have xW2 := regx w pw
     generalize hWR : «Sort».grow (redrawn w pw.d) pw.os = W2 at *
     clear hWR
     replace c0 := xW2.cell c0
     replace c1 := xW2.cell c1
     replace t0 := xW2.cell t0
     replace t1 := xW2.cell t1
     go_wp2_with fail
     go_ret
     exact ⟨ret_bool HV.out, xW2⟩
   have s1 := int_ne h1
   have HV : Hid (false = V) := LH (by rw [<- hV]; simp [s1])
   clear hV h1
   go_enter Tryz.func31, Tryz.ntmps31
   go_wp2_with fail
   have gc0 := reg (XR _) c0
   have gc1 := reg (XR _) c1
   have gt0 := reg (XR _) t0
   have gt1 := reg (XR _) t1
   refine wp_region_quiet_below (by kernel_rfl) (by kernel_rfl) ?_
   repeat (go_big_quiet_step ((fail)))
   refine wpQuiet_nil ?_
   clear gc0 gc1 gt0 gt1
   intro _ hw'
   obtain ⟨pw, hw''⟩ := hw'
   subst hw''
   have xW2 := regx w pw
   generalize hWR : «Sort».grow (redrawn w pw.d) pw.os = W2 at *
   clear hWR
   replace c0 := xW2.cell c0
   replace c1 := xW2.cell c1
   replace t0 := xW2.cell t0
   replace t1 := xW2.cell t1
   go_wp2_with fail
   go_ret
   exact ⟨ret_bool HV.out, xW2⟩
 have hge : ¬ (a : Int) < ts.length := by omega
 have hd : decide ((a : Int) < ts.length) = false := decide_eq_false hge
 obtain ⟨e1, e2, e3⟩ := tkK_none (ts := ts) (a := a) (by omega)
 have HV : Hid (false = V) := LH (by rw [<- hV, e1]; have : ((0 : Int) == k) = false := by (simp; exact fun h => hk h.symm)
                                     simp [this])
 clear hV h e1 e2 e3 c2
 go_enter Tryz.func31, Tryz.ntmps31
 go_wp2_with fail
 have gc0 := reg (XR _) c0
 have gc1 := reg (XR _) c1
 refine wp_region_quiet_below (by kernel_rfl) (by kernel_rfl) ?_
 repeat (go_big_quiet_step ((fail)))
 refine wpQuiet_nil ?_
 clear gc0 gc1
 intro _ hw'
 obtain ⟨pw, hw''⟩ := hw'
 subst hw''
 have xW2 := regx w pw
 generalize hWR : «Sort».grow (redrawn w pw.d) pw.os = W2 at *
 clear hWR
 replace c0 := xW2.cell c0
 replace c1 := xW2.cell c1
 go_wp2_with fail
 go_ret
 exact ⟨ret_bool HV.out, xW2⟩
theorem risx_any {B tb to_ cap : Nat} {ao : Option Addr} {ts : List MToken} {a : Nat} {b : Bool} (w : World) (h : Prs 38 B tb to_ cap ao ts w (a) b) (k : Int) (s : ByteArray) (hk : k ≠ 0) (hs : (s.toList == []) = false) : Calls Tryz.prog 31 #[.pointer (some ⟨B, 0, none⟩), .int .i64 k, .string s] w fun e w' => e = .returned (.bool (tkxB ts a k s)) /\ Ext w w' := by
 obtain ⟨c0, c1, c2⟩ := h.cells
 have zB := lt_of_cell c0
 obtain ⟨V, hV⟩ : ∃ V, tkxB ts a k s = V := ⟨_, rfl⟩
 rw [hV]
 rw [tkxB_eq hk] at hV
 by_cases hl : a < ts.length
 · obtain ⟨rfl, t0, t1, t2⟩ := h.at hl
   have hl' : (a : Int) < ts.length := by omega
   have ha0 : (0 : Int) <= a := by omega
   have zt := lt_of_cell t0
   generalize tkK ts a = kd at *
   generalize tkT ts a = tx at *
   clear h t2 c2
   by_cases h1 : kd = k
   · have s1 := int_eq h1
     by_cases h2 : tx = s
     · have s2 := str_eq h2
       have HV : Hid (true = V) := LH (by rw [<- hV]; simp [h1, h2, eqB_tt])
       clear hV h1 h2
       go_enter Tryz.func31, Tryz.ntmps31
       go_wp2_with fail
       have gc0 := reg (XR _) c0
       have gc1 := reg (XR _) c1
       have gt0 := reg (XR _) t0
       have gt1 := reg (XR _) t1
       refine wp_region_quiet_below (by kernel_rfl) (by kernel_rfl) ?_
       repeat (go_big_quiet_step ((fail)))
       refine wpQuiet_nil ?_
       clear gc0 gc1 gt0 gt1
       intro _ hw'
       obtain ⟨pw, hw''⟩ := hw'
       subst hw''
       have xW2 := regx w pw
       generalize hWR : «Sort».grow (redrawn w pw.d) pw.os = W2 at *
       clear hWR
       replace c0 := xW2.cell c0
       replace c1 := xW2.cell c1
       replace t0 := xW2.cell t0
       replace t1 := xW2.cell t1
       go_wp2_with fail
       go_ret
       exact ⟨ret_bool HV.out, xW2⟩
     have s2 := str_ne h2
     have HV : Hid (false = V) := LH (by rw [<- hV]; simp [h1, eqB_ff h2])
     clear hV h1 h2
     go_enter Tryz.func31, Tryz.ntmps31
     go_wp2_with fail
     have gc0 := reg (XR _) c0
     have gc1 := reg (XR _) c1
     have gt0 := reg (XR _) t0
     have gt1 := reg (XR _) t1
     refine wp_region_quiet_below (by kernel_rfl) (by kernel_rfl) ?_
     repeat (go_big_quiet_step ((fail)))
     refine wpQuiet_nil ?_
     clear gc0 gc1 gt0 gt1
     intro _ hw'
     obtain ⟨pw, hw''⟩ := hw'
     subst hw''
     have xW2 := regx w pw
     generalize hWR : «Sort».grow (redrawn w pw.d) pw.os = W2 at *
     clear hWR
     replace c0 := xW2.cell c0
     replace c1 := xW2.cell c1
     replace t0 := xW2.cell t0
     replace t1 := xW2.cell t1
     go_wp2_with fail
     go_ret
     exact ⟨ret_bool HV.out, xW2⟩
   have s1 := int_ne h1
   have HV : Hid (false = V) := LH (by rw [<- hV]; simp [s1])
   clear hV h1
   go_enter Tryz.func31, Tryz.ntmps31
   go_wp2_with fail
   have gc0 := reg (XR _) c0
   have gc1 := reg (XR _) c1
   have gt0 := reg (XR _) t0
   have gt1 := reg (XR _) t1
   refine wp_region_quiet_below (by kernel_rfl) (by kernel_rfl) ?_
   repeat (go_big_quiet_step ((fail)))
   refine wpQuiet_nil ?_
   clear gc0 gc1 gt0 gt1
   intro _ hw'
   obtain ⟨pw, hw''⟩ := hw'
   subst hw''
   have xW2 := regx w pw
   generalize hWR : «Sort».grow (redrawn w pw.d) pw.os = W2 at *
   clear hWR
   replace c0 := xW2.cell c0
   replace c1 := xW2.cell c1
   replace t0 := xW2.cell t0
   replace t1 := xW2.cell t1
   go_wp2_with fail
   go_ret
   exact ⟨ret_bool HV.out, xW2⟩
 have hge : ¬ (a : Int) < ts.length := by omega
 have hd : decide ((a : Int) < ts.length) = false := decide_eq_false hge
 obtain ⟨e1, e2, e3⟩ := tkK_none (ts := ts) (a := a) (by omega)
 have HV : Hid (false = V) := LH (by rw [<- hV, e1]; have : ((0 : Int) == k) = false := by (simp; exact fun h => hk h.symm)
                                     simp [this])
 clear hV h e1 e2 e3 c2
 go_enter Tryz.func31, Tryz.ntmps31
 go_wp2_with fail
 have gc0 := reg (XR _) c0
 have gc1 := reg (XR _) c1
 refine wp_region_quiet_below (by kernel_rfl) (by kernel_rfl) ?_
 repeat (go_big_quiet_step ((fail)))
 refine wpQuiet_nil ?_
 clear gc0 gc1
 intro _ hw'
 obtain ⟨pw, hw''⟩ := hw'
 subst hw''
 have xW2 := regx w pw
 generalize hWR : «Sort».grow (redrawn w pw.d) pw.os = W2 at *
 clear hWR
 replace c0 := xW2.cell c0
 replace c1 := xW2.cell c1
 go_wp2_with fail
 go_ret
 exact ⟨ret_bool HV.out, xW2⟩
theorem fld0 (k n : Int) (t : ByteArray) (w : World) : (Instr.field 64 (.agg #[.int .i64 k, .string t, .int .i64 n]) 0).run Tryz.prog w = .ok (.int .i64 k) w := by kernel_rfl
theorem peek_any {B tb to_ cap : Nat} {ao : Option Addr} {ts : List MToken} {a : Nat} {b : Bool} (w : World) (h : Prs 51 B tb to_ cap ao ts w (a) b)  : Calls Tryz.prog 97 #[.pointer (some ⟨B, 0, none⟩)] w fun e w' => e = .returned (.agg #[.int .i64 (tkK ts a), .string (tkT ts a), .int .i64 (tkN ts a)]) /\ Ext w w' := by
 have HP := LH h
 obtain ⟨c0, c1, c2⟩ := h.cells
 have zB := lt_of_cell c0
 have hcp1 := h.cp.1
 have hln := h.len
 have hle := h.le
 by_cases hl : a < ts.length
 · obtain ⟨rfl, t0, t1, t2⟩ := h.at hl
   have hl' : (a : Int) < ts.length := by omega
   have ha0 : (0 : Int) <= a := by omega
   clear h zB
   go_enter Tryz.func97, Tryz.ntmps97
   go_upto_region 1 with fail
   generalize hS : World.alloc w _ = W1
   have x1 : Ext w W1 := by rw [<- hS]; exact (XR _).alloc _
   have O1 : Own W1 w.heap.size 64 #[.int .i64 0, .string ⟨#[]⟩, .int .i64 0] := by rw [<- hS]; exact own_new w _ _
   clear hS
   replace c0 := x1.cell c0
   replace c1 := x1.cell c1
   replace t0 := x1.cell t0
   replace t1 := x1.cell t1
   replace t2 := x1.cell t2
   go_wp2_with fail
   have gc0 := reg (XR _) c0
   have gc1 := reg (XR _) c1
   refine wp_region_quiet_below (by kernel_rfl) (by kernel_rfl) ?_
   repeat (go_big_quiet_step ((fail)))
   refine wpQuiet_nil ?_
   clear gc0 gc1
   intro _ hw'
   obtain ⟨pw, hw''⟩ := hw'
   subst hw''
   have xW2 := regx W1 pw
   generalize hWR : «Sort».grow (redrawn W1 pw.d) pw.os = W2 at *
   clear hWR
   replace c0 := xW2.cell c0
   replace c1 := xW2.cell c1
   replace t0 := xW2.cell t0
   replace t1 := xW2.cell t1
   replace t2 := xW2.cell t2
   replace O1 := O1.ext xW2
   have o0 := O1.k0
   have o1 := O1.k1
   have o2 := O1.k2
   have f0 := O1.f0
   have f1 := O1.f1
   have f2 := O1.f2
   have zo := O1.lt
   have zB := lt_of_cell c0
   have zt := lt_of_cell t0
   go_wp2_with fail
   go_region
   have O2 := ((O1.set 0 (.int .i64 (tkK ts a))).set 1 (.string (tkT ts a))).set 2 (.int .i64 (tkN ts a))
   have x3 : Ext w ((((W2.setCell ⟨w.heap.size, 0, none⟩ (.int .i64 (tkK ts a))).setCell ⟨w.heap.size, 1, none⟩ (.string (tkT ts a))).setCell ⟨w.heap.size, 2, none⟩ (.int .i64 (tkN ts a))).drew) := Ext.drew (Ext.setCell (Ext.setCell (Ext.setCell (x1.trans xW2) (Nat.le_refl _) _) (Nat.le_refl _) _) (Nat.le_refl _) _)
   generalize hS : (((W2.setCell ⟨w.heap.size, 0, none⟩ (.int .i64 (tkK ts a))).setCell ⟨w.heap.size, 1, none⟩ (.string (tkT ts a))).setCell ⟨w.heap.size, 2, none⟩ (.int .i64 (tkN ts a))).drew = W3 at *
   have O3 : Own W3 w.heap.size 64 #[.int .i64 (tkK ts a), .string (tkT ts a), .int .i64 (tkN ts a)] := by first | exact O2 | (rw [<- hS]; exact O2)
   clear hS O1 O2 o0 o1 o2 f0 f1 f2
   have p0 := O3.k0
   have p1 := O3.k1
   have p2 := O3.k2
   have z3 := O3.lt
   go_wp2_with fail
   exact bodyPost_ret (v := .agg #[.int .i64 (tkK ts a), .string (tkT ts a), .int .i64 (tkN ts a)]) (by simp [results, Tryz.results97, go_sem, p0, p1, p2, z3]) rfl ⟨rfl, x3⟩
 have hge : ¬ (a : Int) < ts.length := by omega
 have hd : decide ((a : Int) < ts.length) = false := decide_eq_false hge
 obtain ⟨e1, e2, e3⟩ := tkK_none (ts := ts) (a := a) (by omega)
 rw [e1, e2, e3]
 clear h zB e1 e2 e3 hl
 go_enter Tryz.func97, Tryz.ntmps97
 go_upto_region 1 with fail
 generalize hS : World.alloc w _ = W1
 have x1 : Ext w W1 := by rw [<- hS]; exact (XR _).alloc _
 have O1 : Own W1 w.heap.size 64 #[.int .i64 0, .string ⟨#[]⟩, .int .i64 0] := by rw [<- hS]; exact own_new w _ _
 clear hS
 replace c0 := x1.cell c0
 replace c1 := x1.cell c1
 go_wp2_with fail
 have gc0 := reg (XR _) c0
 have gc1 := reg (XR _) c1
 refine wp_region_quiet_below (by kernel_rfl) (by kernel_rfl) ?_
 repeat (go_big_quiet_step ((fail)))
 refine wpQuiet_nil ?_
 clear gc0 gc1
 intro _ hw'
 obtain ⟨pw, hw''⟩ := hw'
 subst hw''
 have xW2 := regx W1 pw
 generalize hWR : «Sort».grow (redrawn W1 pw.d) pw.os = W2 at *
 clear hWR
 replace c0 := xW2.cell c0
 replace c1 := xW2.cell c1
 replace O1 := O1.ext xW2
 have o0 := O1.k0
 have o1 := O1.k1
 have o2 := O1.k2
 have f0 := O1.f0
 have f1 := O1.f1
 have f2 := O1.f2
 have zo := O1.lt
 have hd2 : decide (a < ts.length) = false := decide_eq_false (by omega)
 go_wp2_with fail
 have O2 := ((O1.set 0 (.int .i64 0)).set 1 (.string ⟨#[]⟩)).set 2 (.int .i64 0)
 have x3 : Ext w (((W2.setCell ⟨w.heap.size, 0, none⟩ (.int .i64 0)).setCell ⟨w.heap.size, 1, none⟩ (.string ⟨#[]⟩)).setCell ⟨w.heap.size, 2, none⟩ (.int .i64 0)) := Ext.setCell (Ext.setCell (Ext.setCell (x1.trans xW2) (Nat.le_refl _) _) (Nat.le_refl _) _) (Nat.le_refl _) _
 generalize hS : ((W2.setCell ⟨w.heap.size, 0, none⟩ (.int .i64 0)).setCell ⟨w.heap.size, 1, none⟩ (.string ⟨#[]⟩)).setCell ⟨w.heap.size, 2, none⟩ (.int .i64 0) = W3 at *
 have O3 : Own W3 w.heap.size 64 #[.int .i64 0, .string ⟨#[]⟩, .int .i64 0] := by first | exact O2 | (rw [<- hS]; exact O2)
 clear hS O1 O2 o0 o1 o2 f0 f1 f2
 have p0 := O3.k0
 have p1 := O3.k1
 have p2 := O3.k2
 have z3 := O3.lt
 exact bodyPost_ret (v := .agg #[.int .i64 0, .string ⟨#[]⟩, .int .i64 0]) (by simp [results, Tryz.results97, go_sem, p0, p1, p2, z3]) rfl ⟨rfl, x3⟩
theorem is_any {B tb to_ cap : Nat} {ao : Option Addr} {ts : List MToken} {a : Nat} {b : Bool} (w : World) (h : Prs 51 B tb to_ cap ao ts w (a) b) (k : Int) (s : ByteArray) : Calls Tryz.prog 41 #[.pointer (some ⟨B, 0, none⟩), .int .i64 k, .string s] w fun e w' => e = .returned (.bool (tkK ts a == k && eqB (tkT ts a) s)) /\ Ext w w' := by
 have HP := LH h
 clear h
 obtain ⟨V, hV⟩ : ∃ V, (tkK ts a == k && eqB (tkT ts a) s) = V := ⟨_, rfl⟩
 rw [hV]
 by_cases h1 : tkK ts a = k
 · have s1 := int_eq h1
   by_cases h2 : tkT ts a = s
   · have s2 := str_eq h2
     have HV : Hid (V = true) := LH (by rw [<- hV]; simp [h1, h2, eqB_tt])
     clear hV
     clear h1 h2
     go_enter Tryz.func41, Tryz.ntmps41
     go_wp2_with fail
     refine (peek_any _ HP.out).mono ?_
     rintro e w1 ⟨rfl, hx⟩
     generalize tkK ts a = kd at *
     generalize tkT ts a = tx at *
     generalize tkN ts a = nm at *
     go_wp2_with fail
     go_ret
     exact ⟨ret_bool HV.out.symm, hx.alloc _⟩
   have s2 := str_ne h2
   have HV : Hid (V = false) := LH (by rw [<- hV]; simp [h1, eqB_ff h2])
   clear hV
   clear h1 h2
   go_enter Tryz.func41, Tryz.ntmps41
   go_wp2_with fail
   refine (peek_any _ HP.out).mono ?_
   rintro e w1 ⟨rfl, hx⟩
   generalize tkK ts a = kd at *
   generalize tkT ts a = tx at *
   generalize tkN ts a = nm at *
   go_wp2_with fail
   go_ret
   exact ⟨ret_bool HV.out.symm, hx.alloc _⟩
 have s1 := int_ne h1
 have HV : Hid (V = false) := LH (by rw [<- hV]; simp [s1])
 clear hV
 clear h1
 go_enter Tryz.func41, Tryz.ntmps41
 go_wp2_with fail
 refine (peek_any _ HP.out).mono ?_
 rintro e w1 ⟨rfl, hx⟩
 generalize tkK ts a = kd at *
 generalize tkT ts a = tx at *
 generalize tkN ts a = nm at *
 go_wp2_with fail
 go_ret
 exact ⟨ret_bool HV.out.symm, hx.alloc _⟩
theorem eat_yes {B tb to_ cap : Nat} {ao : Option Addr} {ts : List MToken} {a : Nat} {b : Bool} (w : World) (h : Prs 51 B tb to_ cap ao ts w (a) b) (k : Int) (s : ByteArray) (hk : k ≠ 0) (hb : tkxB ts a k s = true) : Calls Tryz.prog 17 #[.pointer (some ⟨B, 0, none⟩), .int .i64 k, .string s] w fun e w' => e = .returned (.bool true) /\ Prs 51 B tb to_ cap ao ts w' (a + 1) b /\ Touch w w' [B] := by
 have hi := is_any w h k s
 rw [<- tkxB_eq hk, hb] at hi
 have HI := LH hi
 have HP := LH h
 have hlt := tok_lt hk hb
 clear h hi hb hk
 go_enter Tryz.func17, Tryz.ntmps17
 go_wp2_with fail
 refine HI.out.mono ?_
 rintro e w1 ⟨rfl, hx⟩
 have HP1 := LH (HP.out.ext hx)
 obtain ⟨c0, c1, c2⟩ := HP1.out.cells
 have zB := lt_of_cell c0
 have f1 := HP1.out.own.f1
 have f2 := HP1.out.own.f2
 have hln := HP1.out.len
 go_wp2_with fail
 go_ret
 obtain ⟨K2, T2⟩ := HP1.out.setAt (a + 1) (by omega) (fun _ => by omega)
 have e1 : ((a + 1 : Nat) : Int) = (a : Int) + 1 := by omega
 rw [e1] at K2 T2
 exact ⟨rfl, K2, (Touch.of_ext hx _).trans T2⟩
theorem eat_no {B tb to_ cap : Nat} {ao : Option Addr} {ts : List MToken} {a : Nat} {b : Bool} (w : World) (h : Prs 51 B tb to_ cap ao ts w (a) b) (k : Int) (s : ByteArray) (hk : k ≠ 0) (hb : tkxB ts a k s = false) : Calls Tryz.prog 17 #[.pointer (some ⟨B, 0, none⟩), .int .i64 k, .string s] w fun e w' => e = .returned (.bool false) /\ Prs 51 B tb to_ cap ao ts w' (a) b /\ Touch w w' [B] := by
 have hi := is_any w h k s
 rw [<- tkxB_eq hk, hb] at hi
 have HI := LH hi
 have HP := LH h
 clear h hi hb hk
 go_enter Tryz.func17, Tryz.ntmps17
 go_wp2_with fail
 refine HI.out.mono ?_
 rintro e w1 ⟨rfl, hx⟩
 go_wp2_with fail
 go_ret
 exact ⟨rfl, HP.out.ext hx, Touch.of_ext hx _⟩
theorem want_yes {B tb to_ cap : Nat} {ao : Option Addr} {ts : List MToken} {a : Nat} {b : Bool} (w : World) (h : Prs 51 B tb to_ cap ao ts w (a) b) (k : Int) (s : ByteArray) (hk : k ≠ 0) (hb : tkxB ts a k s = true) : Calls Tryz.prog 19 #[.pointer (some ⟨B, 0, none⟩), .int .i64 k, .string s] w fun e w' => e = .returned (.tuple #[]) /\ Prs 51 B tb to_ cap ao ts w' (a + 1) b /\ Touch w w' [B] := by
 have HI := LH (eat_yes w h k s hk hb)
 clear h hk hb
 go_enter Tryz.func19, Tryz.ntmps19
 go_wp2_with fail
 refine HI.out.mono ?_
 rintro e w1 ⟨rfl, K1, T1⟩
 go_wp2_with fail
 go_end0
 exact ⟨rfl, K1, T1⟩
theorem want_no {B tb to_ cap : Nat} {ao : Option Addr} {ts : List MToken} {a : Nat} {b : Bool} (w : World) (h : Prs 51 B tb to_ cap ao ts w (a) b) (k : Int) (s : ByteArray) (hk : k ≠ 0) (hb : tkxB ts a k s = false) : Calls Tryz.prog 19 #[.pointer (some ⟨B, 0, none⟩), .int .i64 k, .string s] w fun e w' => e = .returned (.tuple #[]) /\ Prs 51 B tb to_ cap ao ts w' (a) true /\ Touch w w' [B] := by
 have HI := LH (eat_no w h k s hk hb)
 clear h hk hb
 go_enter Tryz.func19, Tryz.ntmps19
 go_wp2_with fail
 refine HI.out.mono ?_
 rintro e w1 ⟨rfl, K1, T1⟩
 have HP1 := LH K1
 obtain ⟨c0, c1, c2⟩ := HP1.out.cells
 have zB := lt_of_cell c0
 have f1 := HP1.out.own.f1
 have f2 := HP1.out.own.f2
 have hln := HP1.out.len
 clear K1
 go_wp2_with fail
 go_end0
 obtain ⟨K2, T2⟩ := HP1.out.setBad
 exact ⟨rfl, K2, T1.trans T2⟩
theorem take_yes {B tb to_ cap : Nat} {ao : Option Addr} {ts : List MToken} {a : Nat} {b : Bool} (w : World) (h : Prs 51 B tb to_ cap ao ts w (a) b) (k : Int) (hk : k ≠ 0) (hb : tkB ts a k = true) : Calls Tryz.prog 42 #[.pointer (some ⟨B, 0, none⟩), .int .i64 k] w fun e w' => e = .returned (.string (tkT ts a)) /\ Prs 51 B tb to_ cap ao ts w' (a + 1) b /\ Touch w w' [B] := by
 have HP := LH h
 have hlt := kind_lt hk hb
 have e0 := (kind_eq hk).1 hb
 have HT : Hid ((tkK ts a != k) = false) := LH (by simp [e0])
 clear h hb hk e0
 go_enter Tryz.func42, Tryz.ntmps42
 go_wp2_with fail
 refine (peek_any _ HP.out).mono ?_
 rintro e w1 ⟨rfl, hx⟩
 have HP1 := LH (HP.out.ext hx)
 have HX := LH hx
 obtain ⟨tx, htx⟩ : ∃ x, tkT ts a = x := ⟨_, rfl⟩
 rw [htx]
 have HTX := LH htx
 have s1 := HT.out
 generalize tkK ts a = kd at *
 generalize tkN ts a = nm at *
 clear HT htx
 obtain ⟨c0, c1, c2⟩ := HP1.out.cells
 have zB := lt_of_cell c0
 have f1 := HP1.out.own.f1
 have f2 := HP1.out.own.f2
 have hln := HP1.out.len
 go_wp2_with fail
 go_ret
 obtain ⟨K2, T2⟩ := HP1.out.setAt (a + 1) (by omega) (fun _ => by omega)
 have e1 : ((a + 1 : Nat) : Int) = (a : Int) + 1 := by omega
 rw [e1] at K2 T2
 exact ⟨by rw [HTX.out]; rfl, K2.ext ((XR _).alloc _), ((Touch.of_ext hx _).trans T2).trans (Touch.of_ext ((XR _).alloc _) _)⟩
theorem take_no {B tb to_ cap : Nat} {ao : Option Addr} {ts : List MToken} {a : Nat} {b : Bool} (w : World) (h : Prs 51 B tb to_ cap ao ts w (a) b) (k : Int) (hk : k ≠ 0) (hb : tkB ts a k = false) : Calls Tryz.prog 42 #[.pointer (some ⟨B, 0, none⟩), .int .i64 k] w fun e w' => e = .returned (.string ⟨#[]⟩) /\ Prs 51 B tb to_ cap ao ts w' (a) true /\ Touch w w' [B] := by
 have HP := LH h
 have e0 : tkK ts a ≠ k := fun e => by rw [(kind_eq hk).2 e] at hb; cases hb
 have HT : Hid ((tkK ts a != k) = true) := LH (by simp [e0])
 clear h hb hk e0
 go_enter Tryz.func42, Tryz.ntmps42
 go_wp2_with fail
 refine (peek_any _ HP.out).mono ?_
 rintro e w1 ⟨rfl, hx⟩
 have HP1 := LH (HP.out.ext hx)
 have s1 := HT.out
 generalize tkK ts a = kd at *
 generalize tkT ts a = tx at *
 generalize tkN ts a = nm at *
 clear HT
 obtain ⟨c0, c1, c2⟩ := HP1.out.cells
 have zB := lt_of_cell c0
 have f1 := HP1.out.own.f1
 have f2 := HP1.out.own.f2
 have hln := HP1.out.len
 go_wp2_with fail
 go_ret
 obtain ⟨K2, T2⟩ := HP1.out.setBad
 exact ⟨rfl, K2.ext ((XR _).alloc _), ((Touch.of_ext hx _).trans T2).trans (Touch.of_ext ((XR _).alloc _) _)⟩
theorem names_any {B tb to_ cap : Nat} {ao : Option Addr} {ts : List MToken} {a : Nat} {b : Bool} (w : World) (h : Prs 51 B tb to_ cap ao ts w (a) b)  : Calls Tryz.prog 43 #[.pointer (some ⟨B, 0, none⟩)] w fun e w' => ∃ v l a', e = .returned v /\ AccT w.heap.size w' v l /\ Prs 51 B tb to_ cap ao ts w' (a') b /\ Hid (Ev (fun n => pNames ts n [] a) (some (l, a'))) /\ a <= a' /\ l.length <= a' - a /\ Touch w w' [B] := by
 have HP := LH h
 obtain ⟨c0, c1, c2⟩ := h.cells
 have zB := lt_of_cell c0
 have hcp1 := h.cp.1
 have hln := h.len
 have hle := h.le
 have hB0 := h.own.lt
 have H0 : Hid (∀ r, Ev (fun n => pNames ts n [] a) r -> Ev (fun n => pNames ts n [] a) r) := LH fun r h => h
 have hfd := fld0
 clear h c0 c1 c2 zB hcp1
 go_enter Tryz.func43, Tryz.ntmps43
 go_upto_region 2 with fail
 generalize hS : World.alloc w _ = W1
 have x1 : Ext w W1 := by rw [<- hS]; exact (XR _).alloc _
 have A1 : Hid (AccT w.heap.size W1 (.slice (some ⟨w.heap.size, 0, none⟩) 0 0) []) := LH (by rw [<- hS]; exact Acc.empty _ _ (Nat.le_refl _))
 have HP1 := LH (HP.out.ext x1)
 have hx1 := x1.size
 clear hS
 go_loopw [3] (fun v wr => ∃ (l : List ByteArray) (j : Nat), AccT w.heap.size wr v l /\ Prs 51 B tb to_ cap ao ts wr (j) b /\ Hid (∀ r, Ev (fun n => pNames ts n l j) r -> Ev (fun n => pNames ts n [] a) r) /\ a <= j /\ l.length + a <= j /\ Touch w wr [B]) (fun _ wr => ts.length + 1 - (match wr.cell? ⟨B, 1, none⟩ with | some v => (intOf v).toNat | none => 0))
 case atStart => exact ⟨[], a, A1.out, HP1.out, H0, Nat.le_refl _, by simp, Touch.of_ext x1 _⟩
 case round =>
  clear A1 HP1 H0
  obtain ⟨v, hv⟩ : ∃ x, x = u3 := ⟨_, rfl⟩
  subst hv
  obtain ⟨l, j, hA, hP, hR, haj, hlj, hT⟩ := hrel
  have HA := LH hA
  have HPj := LH hP
  have HT := LH hT
  have hjl := hP.le
  have hws := hT.size
  clear hA hP hT
  cases hb : tkB ts j 1
  · have s1 : (tkK ts j == 1) = false := by rw [<- tkB_eq (by decide)]; exact hb
    have HE : Hid (Ev (fun n => pNames ts n [] a) (some (l, j))) := LH (hR.out _ (Ev.step (g := fun _ => some (l, j)) (fun n => by rw [pNames, if_neg (by rw [hb]; decide)]) (Ev.const _)))
    clear hb hR
    go_wp2_with fail
    refine (peek_any _ HPj.out).mono ?_
    rintro e w1 ⟨rfl, hx⟩
    have hf := hfd (tkK ts j) (tkN ts j) (tkT ts j) w1
    generalize tkK ts j = kd at *
    generalize tkT ts j = tx at *
    generalize tkN ts j = nm at *
    clear hfd
    go_wp2_with fail
    go_ret
    exact ⟨v, l, j, rfl, AccT.ext HA.out hx, HPj.out.ext hx, HE, haj, by omega, HT.out.trans (Touch.of_ext hx _)⟩
  · have s1 : (tkK ts j == 1) = true := by rw [<- tkB_eq (by decide)]; exact hb
    have hjt := kind_lt (by decide) hb
    have HB := LH hb
    have HE : Hid (∀ r, Ev (fun n => pNames ts n (l ++ [tkT ts j]) (j + 1)) r -> Ev (fun n => pNames ts n [] a) r) := LH (fun r h => hR.out r (Ev.step (g := fun n => pNames ts n (l ++ [tkT ts j]) (j + 1)) (fun n => by rw [pNames, if_pos hb]) h))
    clear hb hR
    go_wp2_with fail
    refine (peek_any _ HPj.out).mono ?_
    rintro e w1 ⟨rfl, hx⟩
    have hf := hfd (tkK ts j) (tkN ts j) (tkT ts j) w1
    have HC := LH (take_yes w1 (HPj.out.ext hx) 1 (by decide) HB.out)
    have htz := HPj.out.txt j
    have A2 := AccT.ext HA.out hx
    have hxs := hx.size
    generalize tkK ts j = kd at *
    generalize tkT ts j = tx at *
    generalize tkN ts j = nm at *
    clear hfd
    have HX := LH hx
    clear hx
    go_wp2_with fail
    refine HC.out.mono ?_
    rintro e w2 ⟨rfl, K2, T2⟩
    have A3 : AccT w.heap.size w2 v l := Acc.touch A2 T2 (fun k hk hm => by have := (Acc.ge A2 hk).1; simp at hm; omega) (fun k hk => nomatch hk)
    have hs2 := T2.size
    have HK2 := LH K2
    have HT2 := LH ((HT.out.trans (Touch.of_ext HX.out _)).trans T2)
    have KD := AccT.ext A3 ((XR w2).alloc (.cells #[.string tx] 9))
    clear K2 T2 A2 A3 HC s1 hf
    go_wp2_with (at_builtin; refine wpList_append_strs_at rfl _ _ rfl w.heap.size v l rfl KD [tx] _ _ _ rfl (rep_one _ _) (by simp; omega) (by simp; omega) ?_)
    intro a1 k1 w3 ac1 g1 m1
    have HK3 := LH (HP.out.late (HK2.out.ext ((XR w2).alloc (.cells #[.string tx] 9))) (fp := v.ownBlock.toList) ((Touch.of_ext (XR _) _).grown g1 fun k hk => Or.inl (by simp [hk])) (fun k hk => (Acc.ge KD (k := k) (by simpa using hk)).1))
    have HT3 := LH ((HT2.out.trans (Touch.of_ext ((XR w2).alloc (.cells #[.string tx] 9)) [B])).grown g1 fun k hk => Or.inr (Acc.ge KD hk).1)
    have cm1 := HPj.out.own.cell 1
    have cm2 := HK3.out.own.cell 1
    clear KD g1 m1 HK2 HT2
    generalize hv1 : Value.slice a1 (l.length + [tx].length) k1 = v1 at *
    go_wp2_with fail
    go_roundw
    case rel => exact ⟨l ++ [tx], j + 1, ac1, HK3.out, HE, by omega, by simp; omega, HT3.out⟩
    case measure => rw [cm1, cm2]; simp [intOf]; omega
theorem vars_any {B tb to_ cap : Nat} {ao : Option Addr} {ts : List MToken} {a : Nat} {b : Bool} (w : World) (h : Prs 51 B tb to_ cap ao ts w (a) b)  : Calls Tryz.prog 45 #[.pointer (some ⟨B, 0, none⟩)] w fun e w' => ∃ v l a' b', e = .returned v /\ AccT w.heap.size w' v l /\ Prs 51 B tb to_ cap ao ts w' (a') b' /\ Got b (fun n => pVars ts n a) b' (l, a') /\ a <= a' /\ l.length <= a' - a /\ Touch w w' [B] := by
 have HP := LH h
 have hB0 := h.own.lt
 clear h
 cases hb : tkxB ts a 7 barM
 · have HG : Hid (Got b (fun n => pVars ts n a) b (([] : List ByteArray), a)) := LH (Got.ok ⟨0, fun n _ => by show pVars ts n a = _; rw [pVars, if_neg (by rw [hb]; decide)]⟩)
   have HC := LH (eat_no w HP.out 7 ⟨#[124]⟩ (by decide) hb)
   clear hb
   go_enter Tryz.func45, Tryz.ntmps45
   go_wp2_with fail
   refine HC.out.mono ?_
   rintro e w1 ⟨rfl, K1, T1⟩
   go_wp2_with fail
   go_ret
   exact ⟨_, [], a, b, rfl, Acc.nil _ _ _ _, K1, HG.out, Nat.le_refl _, by simp, T1⟩
 have HC := LH (eat_yes w HP.out 7 ⟨#[124]⟩ (by decide) hb)
 have HB := LH hb
 clear hb
 go_enter Tryz.func45, Tryz.ntmps45
 go_wp2_with fail
 refine HC.out.mono ?_
 rintro e w1 ⟨rfl, K1, T1⟩
 have HC1 := LH (names_any w1 K1)
 have hs1 := T1.size
 have HT1 := LH T1
 clear K1 T1
 go_wp2_with fail
 refine HC1.out.mono ?_
 rintro e w2 ⟨v, l, j, rfl, A2, K2, he, hj, hl, T2⟩
 have HA2 := LH (AccT.base A2 hs1)
 have HT2 := LH (HT1.out.trans T2)
 have HK2 := LH K2
 clear A2 K2 T2
 cases hb : tkxB ts j 7 barM
 · have HG : Hid (Got b (fun n => pVars ts n a) true (l, j)) := LH (Got.bad _ (by
    obtain ⟨n0, h0⟩ := he.out
    refine ⟨n0, fun n hn => ?_⟩
    have h1 : pNames ts n [] (a + 1) = some (l, j) := h0 n hn
    show pVars ts n a = none
    rw [pVars, if_pos HB.out, h1]
    show (if tkxB ts j 7 barM = true then some (l, j + 1) else none) = none
    rw [if_neg (by rw [hb]; decide)]))
   have HC2 := LH (want_no w2 HK2.out 7 ⟨#[124]⟩ (by decide) hb)
   clear hb
   go_wp2_with fail
   refine HC2.out.mono ?_
   rintro e w3 ⟨rfl, K3, T3⟩
   have A3 := AccT.low HA2.out T3 (fun k hk => by simp at hk; omega)
   go_wp2_with fail
   go_ret
   exact ⟨_, l, j, true, rfl, A3, K3, HG.out, by omega, by omega, HT2.out.trans T3⟩
 have HG : Hid (Got b (fun n => pVars ts n a) b (l, j + 1)) := LH (Got.ok (by
  obtain ⟨n0, h0⟩ := he.out
  refine ⟨n0, fun n hn => ?_⟩
  have h1 : pNames ts n [] (a + 1) = some (l, j) := h0 n hn
  show pVars ts n a = some (l, j + 1)
  rw [pVars, if_pos HB.out, h1]
  show (if tkxB ts j 7 barM = true then some (l, j + 1) else none) = some (l, j + 1)
  rw [if_pos hb]))
 have HC2 := LH (want_yes w2 HK2.out 7 ⟨#[124]⟩ (by decide) hb)
 clear hb
 go_wp2_with fail
 refine HC2.out.mono ?_
 rintro e w3 ⟨rfl, K3, T3⟩
 have A3 := AccT.low HA2.out T3 (fun k hk => by simp at hk; omega)
 go_wp2_with fail
 go_ret
 exact ⟨_, l, j + 1, b, rfl, A3, K3, HG.out, by omega, by omega, HT2.out.trans T3⟩
theorem begins_any {B tb to_ cap : Nat} {ao : Option Addr} {ts : List MToken} {a : Nat} {b : Bool} (w : World) (h : Prs 51 B tb to_ cap ao ts w (a) b)  : Calls Tryz.prog 99 #[.pointer (some ⟨B, 0, none⟩)] w fun e w' => e = .returned (.bool (beginsB ts a)) /\ Ext w w' := by
 have HP := LH h
 clear h
 obtain ⟨V, hV⟩ : ∃ V, beginsB ts a = V := ⟨_, rfl⟩
 rw [hV]
 unfold beginsB at hV
 rw [tkB_eq (by decide), tkB_eq (by decide), tkB_eq (by decide), tkB_eq (by decide)] at hV
 cases s1 : (tkK ts a == 1)
 rotate_left
 · have HV : Hid (true = V) := LH (by rw [<- hV]; simp [s1])
   clear hV
   go_enter Tryz.func99, Tryz.ntmps99
   go_wp2_with fail
   refine (peek_any _ HP.out).mono ?_
   rintro e w1 ⟨rfl, hx⟩
   have HX := LH hx
   generalize tkK ts a = kd at *
   generalize tkT ts a = tx at *
   generalize tkN ts a = nm at *
   clear hx
   go_wp2_with fail
   go_ret
   exact ⟨ret_bool HV.out, HX.out.alloc _⟩
 cases s3 : (tkK ts a == 3)
 rotate_left
 · have HV : Hid (true = V) := LH (by rw [<- hV]; simp [s1, s3])
   clear hV
   go_enter Tryz.func99, Tryz.ntmps99
   go_wp2_with fail
   refine (peek_any _ HP.out).mono ?_
   rintro e w1 ⟨rfl, hx⟩
   have HX := LH hx
   generalize tkK ts a = kd at *
   generalize tkT ts a = tx at *
   generalize tkN ts a = nm at *
   clear hx
   go_wp2_with fail
   go_ret
   exact ⟨ret_bool HV.out, HX.out.alloc _⟩
 cases s4 : (tkK ts a == 4)
 rotate_left
 · have HV : Hid (true = V) := LH (by rw [<- hV]; simp [s1, s3, s4])
   clear hV
   go_enter Tryz.func99, Tryz.ntmps99
   go_wp2_with fail
   refine (peek_any _ HP.out).mono ?_
   rintro e w1 ⟨rfl, hx⟩
   have HX := LH hx
   generalize tkK ts a = kd at *
   generalize tkT ts a = tx at *
   generalize tkN ts a = nm at *
   clear hx
   go_wp2_with fail
   go_ret
   exact ⟨ret_bool HV.out, HX.out.alloc _⟩
 cases s5 : (tkK ts a == 5)
 rotate_left
 · have HV : Hid (true = V) := LH (by rw [<- hV]; simp [s1, s3, s4, s5])
   clear hV
   go_enter Tryz.func99, Tryz.ntmps99
   go_wp2_with fail
   refine (peek_any _ HP.out).mono ?_
   rintro e w1 ⟨rfl, hx⟩
   have HX := LH hx
   generalize tkK ts a = kd at *
   generalize tkT ts a = tx at *
   generalize tkN ts a = nm at *
   clear hx
   go_wp2_with fail
   go_ret
   exact ⟨ret_bool HV.out, HX.out.alloc _⟩
 cases u0 : tkxB ts a 7 lparM
 rotate_left
 · have HV : Hid (true = V) := LH (by rw [<- hV]; simp [s1, s3, s4, s5, u0])
   have HI0 := LH (fun (W : World) (hW : Ext w W) => by
    have hi := is_any W (HP.out.ext hW) 7 ⟨#[40]⟩
    rw [<- tkxB_eq (by decide), show tkxB ts a 7 ⟨#[40]⟩ = _ from u0] at hi
    exact hi)
   clear hV u0
   go_enter Tryz.func99, Tryz.ntmps99
   go_wp2_with fail
   refine (peek_any _ HP.out).mono ?_
   rintro e w1 ⟨rfl, hx⟩
   have HX := LH hx
   generalize tkK ts a = kd at *
   generalize tkT ts a = tx at *
   generalize tkN ts a = nm at *
   clear hx
   go_wp2_with fail
   refine (HI0.out _ (HX.out.alloc _)).mono ?_
   rintro e w2 ⟨rfl, hx2⟩
   go_wp2_with fail
   go_ret
   exact ⟨ret_bool HV.out, (HX.out.alloc _).trans hx2⟩
 obtain ⟨u, u1⟩ : ∃ u, tkxB ts a 7 lbrM = u := ⟨_, rfl⟩
 have HV : Hid (u = V) := LH (by rw [<- hV, u0, u1]; simp [s1, s3, s4, s5])
 have HI0 := LH (fun (W : World) (hW : Ext w W) => by
  have hi := is_any W (HP.out.ext hW) 7 ⟨#[40]⟩
  rw [<- tkxB_eq (by decide), show tkxB ts a 7 ⟨#[40]⟩ = _ from u0] at hi
  exact hi)
 have HI1 := LH (fun (W : World) (hW : Ext w W) => by
  have hi := is_any W (HP.out.ext hW) 7 ⟨#[91]⟩
  rw [<- tkxB_eq (by decide), show tkxB ts a 7 ⟨#[91]⟩ = _ from u1] at hi
  exact hi)
 clear hV u0 u1
 go_enter Tryz.func99, Tryz.ntmps99
 go_wp2_with fail
 refine (peek_any _ HP.out).mono ?_
 rintro e w1 ⟨rfl, hx⟩
 have HX := LH hx
 generalize tkK ts a = kd at *
 generalize tkT ts a = tx at *
 generalize tkN ts a = nm at *
 clear hx
 go_wp2_with fail
 refine (HI0.out _ (HX.out.alloc _)).mono ?_
 rintro e w2 ⟨rfl, hx2⟩
 have HX2 := LH ((HX.out.alloc _).trans hx2)
 go_wp2_with fail
 refine (HI1.out _ HX2.out).mono ?_
 rintro e w3 ⟨rfl, hx3⟩
 go_wp2_with fail
 go_ret
 exact ⟨ret_bool HV.out, HX2.out.trans hx3⟩
end Go.Proofs.YtlcebafhbceejaaGreatDoor
