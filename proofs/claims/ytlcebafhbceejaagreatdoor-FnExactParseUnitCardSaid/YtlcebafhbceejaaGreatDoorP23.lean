/-
  SEVERAL TEXTS IN ONE: CONTRACTS: rows of methods and of classes; the program's class; CONTRACTS: the program's copyExpr; CONTRACTS: the program's copyExprs, copyMethod.
  Conditions: those that each lemma states.
-/
import Derived.Test.YtlcebafhbceejaaGreatDoorRows
import Derived.Deep.DeepCutAuto
import Derived.Deep.RegionHeldLaw
import Derived.Test.YtlcebafhbceejaaGreatDoorP22
import Derived.Test.YtlcebafhbceejaaGreatDoorP16
import Derived.Test.YtlcebafhbceejaaGreatDoorP17
import Derived.Test.YtlcebafhbceejaaGreatDoorP09
import Derived.Test.YtlcebafhbceejaaGreatDoorP21
namespace Go.Proofs.YtlcebafhbceejaaGreatDoor
open Go.RowKit
set_option maxHeartbeats 8000000
set_option maxRecDepth 100000
set_option linter.unusedSimpArgs false
set_option linter.unusedVariables false
theorem methInfo : (Tryz.prog.info? 26).map (fun i => (i.zero, i.size, i.bytes)) = some (some (.agg #[.string ByteArray.empty, .bool false, .slice none 0 0, .slice none 0 0, .slice none 0 0]), 5, 96) := by kernel_rfl
theorem clsInfo : (Tryz.prog.info? 43).map (fun i => (i.zero, i.size, i.bytes)) = some (some (.agg #[.string ByteArray.empty, .string ByteArray.empty, .slice none 0 0, .slice none 0 0]), 4, 80) := by kernel_rfl
theorem wp_append_m {w : World} {o : Oper} {a : Act} {K : Act -> World -> Prop} {Q : Exit -> Act -> World -> Prop} (s y : Operand)
 (ho : o.op = .call { callee := .builtin .append, args := #[s, y], argTypes := #[41, 41] })
 (B0 : Nat) (v : Value) (l : List MMethod) (hs : a.eval s = v) (hacc : AccM B0 w v l)
 (ys : List MMethod) (ao : Option Addr) (m c : Nat) (gp : List Nat) (hx : a.eval y = .slice ao m c) (hr : RepF w (MMethods ys) [.slice ao m c] gp)
 (hF : ∀ k, k ∈ gp.tail -> B0 <= k) (hown : ∀ k, v.ownBlock = some k -> k ∉ gp.tail) (hlen : l.length + ys.length <= 1073741824) (hbase : B0 <= w.heap.size)
 (h : ∀ ao' cap' w', AccM B0 w' (.slice ao' (l.length + ys.length) cap') (l ++ ys) -> w.grownBy w' v.ownBlock -> ((Value.slice ao' (l.length + ys.length) cap').ownBlock = v.ownBlock ∨ (Value.slice ao' (l.length + ys.length) cap').ownBlock = some w.heap.size) -> K (a.put o.dst (.slice ao' (l.length + ys.length) cap')) w') : o.wp Tryz.prog a w K Q := by
 obtain ⟨i0, hi, hz0, hz1, hz2⟩ := info_parts methInfo
 have hm : m = ys.length := by
  obtain ⟨_, _, h1, _⟩ := RepF.sl_iff.1 hr
  simp at h1; omega
 subst hm
 refine wp_append_w s y 41 ho B0 26 i0 _ 5 96 Tryz.underlying41 hi hz0 hz1 hz2 rfl (by decide) v (l.map MMethod.d) hs hacc (ys.map MMethod.d) ao ys.length c gp hx hr hF hown (by simp [maxLen]; omega) (by simp; omega) hbase ?_
 intro ao' cap' w' h2 h3 h4
 simp only [List.length_map, <- List.map_append] at h2 h4 ⊢
 exact h ao' cap' w' h2 h3 h4
theorem step_append_m {w : World} {ops : Array Oper} {o : Oper} {a : Act} {K : Act -> World -> Prop} {Q : Exit -> Act -> World -> Prop} {E : Prop} (hgd : o.guard = none) (s y : Operand)
 (ho : o.op = .call { callee := .builtin .append, args := #[s, y], argTypes := #[41, 41] })
 (B0 : Nat) (v : Value) (l : List MMethod) (hs : a.eval s = v) (hacc : AccM B0 w v l)
 (ys : List MMethod) (ao : Option Addr) (m c : Nat) (gp : List Nat) (hx : a.eval y = .slice ao m c) (hr : RepF w (MMethods ys) [.slice ao m c] gp)
 (hF : ∀ k, k ∈ gp.tail -> B0 <= k) (hown : ∀ k, v.ownBlock = some k -> k ∉ gp.tail) (hlen : l.length + ys.length <= 1073741824) (hbase : B0 <= w.heap.size)
 (h : ∀ ao' cap' w', AccM B0 w' (.slice ao' (l.length + ys.length) cap') (l ++ ys) -> w.grownBy w' v.ownBlock -> ((Value.slice ao' (l.length + ys.length) cap').ownBlock = v.ownBlock ∨ (Value.slice ao' (l.length + ys.length) cap').ownBlock = some w.heap.size) -> K (a.put o.dst (.slice ao' (l.length + ys.length) cap')) w') : if Region.wanted o (yielded ops a.tmps) = true then Oper.wp Tryz.prog o a w K Q else E := by
 have hw : Region.wanted o (yielded ops a.tmps) = true := by simp [Region.wanted, hgd]
 rw [if_pos hw]
 exact wp_append_m s y ho B0 v l hs hacc ys ao m c gp hx hr hF hown hlen hbase h
theorem wp_append_c {w : World} {o : Oper} {a : Act} {K : Act -> World -> Prop} {Q : Exit -> Act -> World -> Prop} (s y : Operand)
 (ho : o.op = .call { callee := .builtin .append, args := #[s, y], argTypes := #[22, 22] })
 (B0 : Nat) (v : Value) (l : List MClassDef) (hs : a.eval s = v) (hacc : AccC B0 w v l)
 (ys : List MClassDef) (ao : Option Addr) (m c : Nat) (gp : List Nat) (hx : a.eval y = .slice ao m c) (hr : RepF w (MClassDefs ys) [.slice ao m c] gp)
 (hF : ∀ k, k ∈ gp.tail -> B0 <= k) (hown : ∀ k, v.ownBlock = some k -> k ∉ gp.tail) (hlen : l.length + ys.length <= 1073741824) (hbase : B0 <= w.heap.size)
 (h : ∀ ao' cap' w', AccC B0 w' (.slice ao' (l.length + ys.length) cap') (l ++ ys) -> w.grownBy w' v.ownBlock -> ((Value.slice ao' (l.length + ys.length) cap').ownBlock = v.ownBlock ∨ (Value.slice ao' (l.length + ys.length) cap').ownBlock = some w.heap.size) -> K (a.put o.dst (.slice ao' (l.length + ys.length) cap')) w') : o.wp Tryz.prog a w K Q := by
 obtain ⟨i0, hi, hz0, hz1, hz2⟩ := info_parts clsInfo
 have hm : m = ys.length := by
  obtain ⟨_, _, h1, _⟩ := RepF.sl_iff.1 hr
  simp at h1; omega
 subst hm
 refine wp_append_w s y 22 ho B0 43 i0 _ 4 80 Tryz.underlying22 hi hz0 hz1 hz2 rfl (by decide) v (l.map MClassDef.d) hs hacc (ys.map MClassDef.d) ao ys.length c gp hx hr hF hown (by simp [maxLen]; omega) (by simp; omega) hbase ?_
 intro ao' cap' w' h2 h3 h4
 simp only [List.length_map, <- List.map_append] at h2 h4 ⊢
 exact h ao' cap' w' h2 h3 h4
theorem step_append_c {w : World} {ops : Array Oper} {o : Oper} {a : Act} {K : Act -> World -> Prop} {Q : Exit -> Act -> World -> Prop} {E : Prop} (hgd : o.guard = none) (s y : Operand)
 (ho : o.op = .call { callee := .builtin .append, args := #[s, y], argTypes := #[22, 22] })
 (B0 : Nat) (v : Value) (l : List MClassDef) (hs : a.eval s = v) (hacc : AccC B0 w v l)
 (ys : List MClassDef) (ao : Option Addr) (m c : Nat) (gp : List Nat) (hx : a.eval y = .slice ao m c) (hr : RepF w (MClassDefs ys) [.slice ao m c] gp)
 (hF : ∀ k, k ∈ gp.tail -> B0 <= k) (hown : ∀ k, v.ownBlock = some k -> k ∉ gp.tail) (hlen : l.length + ys.length <= 1073741824) (hbase : B0 <= w.heap.size)
 (h : ∀ ao' cap' w', AccC B0 w' (.slice ao' (l.length + ys.length) cap') (l ++ ys) -> w.grownBy w' v.ownBlock -> ((Value.slice ao' (l.length + ys.length) cap').ownBlock = v.ownBlock ∨ (Value.slice ao' (l.length + ys.length) cap').ownBlock = some w.heap.size) -> K (a.put o.dst (.slice ao' (l.length + ys.length) cap')) w') : if Region.wanted o (yielded ops a.tmps) = true then Oper.wp Tryz.prog o a w K Q else E := by
 have hw : Region.wanted o (yielded ops a.tmps) = true := by simp [Region.wanted, hgd]
 rw [if_pos hw]
 exact wp_append_c s y ho B0 v l hs hacc ys ao m c gp hx hr hF hown hlen hbase h
theorem own4c {w : World} {r : Nat} {c0 c1 c2 c3 : Value} (h : Own w r 43 #[c0, c1, c2, c3]) (v0 v1 v2 v3 : Value) : Own ((((w.setCell ⟨r, 0, none⟩ v0).setCell ⟨r, 1, none⟩ v1).setCell ⟨r, 2, none⟩ v2).setCell ⟨r, 3, none⟩ v3) r 43 #[v0, v1, v2, v3] /\ Touch w ((((w.setCell ⟨r, 0, none⟩ v0).setCell ⟨r, 1, none⟩ v1).setCell ⟨r, 2, none⟩ v2).setCell ⟨r, 3, none⟩ v3) [r] :=
 ⟨(((h.set 0 v0).set 1 v1).set 2 v2).set 3 v3, (((((Touch.of_ext (XR w) [r]).setCell (by simp) v0).setCell (by simp) v1).setCell (by simp) v2).setCell (by simp) v3)⟩
theorem fld5m {w : World} {x : MMethod} {cs : List Value} {fp : List Nat} (h : RepF w x.d cs fp) : ∃ a1 c1 a2 c2 a3 c3, cs = [.string x.selector, .bool x.cls, .slice a1 x.params.length c1, .slice a2 x.temps.length c2, .slice a3 x.body.length c3] := by
 obtain ⟨a1, c1, a2, c2, a3, c3, rfl, -, -, -⟩ := MMethod.op_en h.rep
 exact ⟨a1, c1, a2, c2, a3, c3, rfl⟩
def CGot (B tb to_ cap : Nat) (ao : Option Addr) (ts : List MToken) (w : World) (a : Nat) (b : Bool) (e : Ending) (w' : World) : Prop :=
 ∃ (c : MClassDef) (cs : List Value) (fp : List Nat) (a' : Nat) (b' : Bool), e = .returned (.agg (List.toArray cs)) /\ RepF w' c.d cs fp /\ (∀ k, k ∈ fp -> w.heap.size <= k) /\ Prs 51 B tb to_ cap ao ts w' (a') b' /\ Got b (fun n => pClass ts n a) b' (c, a') /\ a <= a' /\ Touch w w' [B]
noncomputable def kC (ts : List MToken) (t1 t2 : ByteArray) (lf : List ByteArray) (n : Nat) (l : List MMethod) (a : Nat) : Option (MClassDef × Nat) := (pMs ts n l a).bind fun m => some (⟨t1, t2, lf, m.1⟩, m.2)
theorem class_any {B tb to_ cap : Nat} {ao : Option Addr} {ts : List MToken} {a : Nat} {b : Bool} (w : World) (h : Prs 51 B tb to_ cap ao ts w (a) b) : Calls Tryz.prog 18 #[.pointer (some ⟨B, 0, none⟩)] w (CGot B tb to_ cap ao ts w a b) := by
 have HP := LH h
 have hln := h.len
 have hrb := h.own.lt
 obtain ⟨t1, j1, b1, HC1, HTD1, hj1⟩ : ∃ (t1 : ByteArray) (j1 : Nat) (b1 : Bool), Hid (∀ W, Prs 51 B tb to_ cap ao ts W (a) b -> Calls Tryz.prog 42 #[.pointer (some ⟨B, 0, none⟩), .int .i64 1] W (fun e w' => e = .returned (.string t1) /\ Prs 51 B tb to_ cap ao ts w' (j1) b1 /\ Touch W w' [B])) /\ Hid (Todo b (fun n => pClass ts n a) b1 (fun n => if tkxB ts j1 8 exW = true then (if tkB ts (j1 + 1) 1 = true then (pFM ts n (j1 + 2)).bind fun f => some (⟨t1, tkT ts (j1 + 1), f.1.1, f.1.2⟩, f.2) else none) else none)) /\ a <= j1 := by
  cases hb : tkB ts a 1
  · exact ⟨⟨#[]⟩, a, true, LH (fun W hW => take_no W hW 1 (by decide) hb), LH ((Todo.refl b _).badly0 (fun n => by unfold pClass; rw [if_neg (by rw [hb]; decide)])), Nat.le_refl _⟩
  · exact ⟨tkT ts a, a + 1, b, LH (fun W hW => take_yes W hW 1 (by decide) hb), LH ((Todo.refl b _).eq0 (fun n => by unfold pClass; exact if_pos hb)), by omega⟩
 obtain ⟨t0, j2, b2, HC2, HTD2, hj2⟩ : ∃ (t0 : Value) (j2 : Nat) (b2 : Bool), Hid (∀ W, Prs 51 B tb to_ cap ao ts W (j1) b1 -> Calls Tryz.prog 19 #[.pointer (some ⟨B, 0, none⟩), .int .i64 8, .string exW] W (fun e w' => e = .returned t0 /\ Prs 51 B tb to_ cap ao ts w' (j2) b2 /\ Touch W w' [B])) /\ Hid (Todo b (fun n => pClass ts n a) b2 (fun n => if tkB ts j2 1 = true then (pFM ts n (j2 + 1)).bind fun f => some (⟨t1, tkT ts j2, f.1.1, f.1.2⟩, f.2) else none)) /\ j1 <= j2 := by
  cases hb : tkxB ts j1 8 exW
  · exact ⟨.tuple #[], j1, true, LH (fun W hW => want_no W hW 8 exW (by decide) hb), LH (HTD1.out.badly0 (fun n => by rw [if_neg (by rw [hb]; decide)])), Nat.le_refl _⟩
  · exact ⟨.tuple #[], j1 + 1, b1, LH (fun W hW => want_yes W hW 8 exW (by decide) hb), LH (HTD1.out.eq0 (fun n => if_pos hb)), by omega⟩
 obtain ⟨t2, j3, b3, HC3, HTD3, hj3⟩ : ∃ (t2 : ByteArray) (j3 : Nat) (b3 : Bool), Hid (∀ W, Prs 51 B tb to_ cap ao ts W (j2) b2 -> Calls Tryz.prog 42 #[.pointer (some ⟨B, 0, none⟩), .int .i64 1] W (fun e w' => e = .returned (.string t2) /\ Prs 51 B tb to_ cap ao ts w' (j3) b3 /\ Touch W w' [B])) /\ Hid (Todo b (fun n => pClass ts n a) b3 (fun n => (pFields ts n j3).bind fun f => kC ts t1 t2 f.1 n [] f.2)) /\ j2 <= j3 := by
  cases hb : tkB ts j2 1
  · exact ⟨⟨#[]⟩, j2, true, LH (fun W hW => take_no W hW 1 (by decide) hb), LH (HTD2.out.badly0 (fun n => by rw [if_neg (by rw [hb]; decide)])), Nat.le_refl _⟩
  · exact ⟨tkT ts j2, j2 + 1, b2, LH (fun W hW => take_yes W hW 1 (by decide) hb), LH (HTD2.out.eq0 (fun n => by
     refine (if_pos hb).trans ?_
     unfold pFM kC
     cases pFields ts n (j2 + 1) with
     | none => rfl
     | some f =>
      show ((pMs ts n [] f.2).bind _).bind _ = (pMs ts n [] f.2).bind _
      cases pMs ts n [] f.2 <;> rfl)), by omega⟩
 clear HTD1 HTD2
 clear h
 go_enter Tryz.func18, Tryz.ntmps18
 go_upto_region 1 with fail
 generalize hS : World.alloc w _ = W1
 have x1 : Ext w W1 := by rw [<- hS]; exact (XR _).alloc _
 have OR : Own W1 w.heap.size 43 #[.string ⟨#[]⟩, .string ⟨#[]⟩, .slice none 0 0, .slice none 0 0] := by rw [<- hS]; exact own_new w _ _
 have hro := OR.lt
 have hs1 := x1.size
 clear hS
 go_wp2_with fail
 refine (HC1.out _ (HP.out.ext x1)).mono ?_
 rintro e w2 ⟨rfl, K2, T2⟩
 have OR2 := OR.touch' T2 (by simp; omega)
 have HP2 := LH K2
 have HT2 := LH ((Touch.of_ext x1 [B]).trans T2)
 have hs2 := T2.size
 clear K2 T2 OR x1
 go_upto_region 2 with fail
 generalize hS : World.alloc w2 _ = w3
 have x3 : Ext w2 w3 := by rw [<- hS]; exact (XR _).alloc _
 have OC3 : Own w3 w2.heap.size 43 #[.string t1, .string ⟨#[]⟩, .slice none 0 0, .slice none 0 0] := by rw [<- hS]; exact own_new w2 _ _
 have OR3 := OR2.ext x3
 have HP3 := LH (HP2.out.ext x3)
 have HT3 := LH (HT2.out.trans (Touch.of_ext x3 [B]))
 have hs3 := x3.size
 clear hS x3 OR2 HP2 HT2
 generalize hcb : w2.heap.size = cb at *
 clear hcb
 have hcz := OC3.lt
 go_wp2_with fail
 refine (HC2.out _ HP3.out).mono ?_
 rintro e w4 ⟨rfl, K4, T4⟩
 have OC4 := OC3.touch' T4 (by simp; omega)
 have OR4 := OR3.touch' T4 (by simp; omega)
 have HP4 := LH K4
 have HT4 := LH (HT3.out.trans T4)
 have hs4 := T4.size
 clear K4 T4 OC3 OR3 HP3 HT3
 go_wp2_with fail
 refine (HC3.out _ HP4.out).mono ?_
 rintro e w5 ⟨rfl, K5, T5⟩
 have OC5 := OC4.touch' T5 (by simp; omega)
 have OR5 := OR4.touch' T5 (by simp; omega)
 have HP5 := LH K5
 have HT5 := LH (HT4.out.trans T5)
 have hs5 := T5.size
 clear K5 T5 OC4 OR4 HP4 HT4
 have m0 := OC5.k0
 have mf0 := OC5.f0
 have m1 := OC5.k1
 have mf1 := OC5.f1
 have m2 := OC5.k2
 have mf2 := OC5.f2
 have m3 := OC5.k3
 have mf3 := OC5.f3
 have mz := OC5.lt
 go_upto_region 4 with fail
 generalize hS : World.setCell w5 _ _ = w6
 have T6 : Touch w5 w6 [cb] := by rw [<- hS]; exact (Touch.of_ext (XR _) _).setCell (by simp) _
 have OC6 : Own w6 cb 43 #[.string t1, .string t2, .slice none 0 0, .slice none 0 0] := by rw [<- hS]; exact OC5.set 1 _
 have OR6 := OR5.touch' T6 (by simp; omega)
 have HP6 := LH (HP.out.late HP5.out T6 (fun k hk => by simp at hk; omega))
 have HT6 := LH (HT5.out.late2 T6 (fun k hk => by simp at hk; omega))
 have hs6 := T6.size
 clear hS T6 OC5 OR5 HP5 HT5 m0 mf0 m1 mf1 m2 mf2 m3 mf3 mz HC1 HC2 HC3
 obtain ⟨c4, hc4⟩ : ∃ c, tkxB ts j3 8 fiW = c := ⟨_, rfl⟩
 have HC4 := LH hc4
 clear hc4
 go_cut [13] (fun v wx => v = .bool c4 /\ Prs 51 B tb to_ cap ao ts wx (bif c4 then j3 + 1 else j3) b3 /\ Own wx w.heap.size 43 #[.string ⟨#[]⟩, .string ⟨#[]⟩, .slice none 0 0, .slice none 0 0] /\ Own wx cb 43 #[.string t1, .string t2, .slice none 0 0, .slice none 0 0] /\ cb < wx.heap.size /\ Touch w wx [B])
 case first =>
  cases c4
  · have HE := LH (eat_no w6 HP6.out 8 fiW (by decide) HC4.out)
    go_wp2_with fail
    refine HE.out.mono ?_
    rintro e w7 ⟨rfl, K7, T7⟩
    have O7 := OR6.touch' T7 (by simp; omega)
    have O7c := OC6.touch' T7 (by simp; omega)
    have hs7 := T7.size
    go_wp2_with fail
    go_meet
    exact ⟨rfl, K7, O7, O7c, by omega, HT6.out.trans T7⟩
  · have HE := LH (eat_yes w6 HP6.out 8 fiW (by decide) HC4.out)
    go_wp2_with fail
    refine HE.out.mono ?_
    rintro e w7 ⟨rfl, K7, T7⟩
    have O7 := OR6.touch' T7 (by simp; omega)
    have O7c := OC6.touch' T7 (by simp; omega)
    have hs7 := T7.size
    go_wp2_with fail
    go_meet
    exact ⟨rfl, K7, O7, O7c, by omega, HT6.out.trans T7⟩
 case rest =>
  obtain ⟨rfl, K7, O7, O7c, hcw, T7⟩ := hcut
  have HK7 := LH K7
  have HT7 := LH T7
  clear K7 T7 OR6 OC6 HP6 HT6
  go_upto_if 13 with fail
  go_cut [] (fun wx => ∃ (lf : List ByteArray) (vf : Value) (jf : Nat), Own wx cb 43 #[.string t1, .string t2, vf, .slice none 0 0] /\ AccT (cb + 1) wx vf lf /\ Prs 51 B tb to_ cap ao ts wx (jf) b3 /\ Todo b (fun n => pClass ts n a) b3 (fun n => kC ts t1 t2 lf n [] jf) /\ a <= jf /\ Own wx w.heap.size 43 #[.string ⟨#[]⟩, .string ⟨#[]⟩, .slice none 0 0, .slice none 0 0] /\ Touch w wx [B])
  case first =>
   cases c4
   · have HK7 : Hid (Prs 51 B tb to_ cap ao ts wc (j3) b3) := HK7
     go_wp2_with fail
     go_meet
     exact ⟨[], .slice none 0 0, j3, O7c, Acc.nil _ _ _ _, HK7.out, HTD3.out.call0 (Got.ok ⟨0, fun n _ => by show pFields ts n j3 = _; unfold pFields; rw [if_neg (by rw [HC4.out]; decide)]⟩) (g := fun n (f : List ByteArray × Nat) => kC ts t1 t2 f.1 n [] f.2) (fun n => rfl), by omega, O7, HT7.out⟩
   · have HK7 : Hid (Prs 51 B tb to_ cap ao ts wc (j3 + 1) b3) := HK7
     go_wp2_with fail
     refine (names_any _ HK7.out).mono ?_
     rintro e w8 ⟨v, lf, j8, rfl, A8, K8, g8, h1, h2, T8⟩
     obtain ⟨va, vc, gv, rfl, -, -⟩ := AccT.rep A8
     have OC8 := O7c.touch' T8 (by simp; omega)
     have OR8 := O7.touch' T8 (by simp; omega)
     have hs8 := T8.size
     have m0 := OC8.k0
     have mf0 := OC8.f0
     have m1 := OC8.k1
     have mf1 := OC8.f1
     have m2 := OC8.k2
     have mf2 := OC8.f2
     have m3 := OC8.k3
     have mf3 := OC8.f3
     have mz := OC8.lt
     go_wp2_with fail
     generalize hS : World.setCell w8 _ _ = w9
     have T9 : Touch w8 w9 [cb] := by rw [<- hS]; exact (Touch.of_ext (XR _) _).setCell (by simp) _
     have OC9 : Own w9 cb 43 #[.string t1, .string t2, .slice va lf.length vc, .slice none 0 0] := by rw [<- hS]; exact OC8.set 2 _
     have OR9 := OR8.touch' T9 (by simp; omega)
     have A9 := AccT.base (B0 := cb + 1) (AccT.low A8 T9 (fun k hk => by simp at hk; omega)) (by omega)
     have P9 := HP.out.late K8 T9 (fun k hk => by simp at hk; omega)
     have T09 := (HT7.out.trans T8).late2 T9 (fun k hk => by simp at hk; omega)
     go_meet
     exact ⟨lf, _, j8, OC9, A9, P9, HTD3.out.call0 (Got.ok (by obtain ⟨m, hm⟩ := g8.out; exact ⟨m, fun n hn => by show pFields ts n j3 = _; unfold pFields; rw [if_pos HC4.out]; exact hm n hn⟩)) (g := fun n (f : List ByteArray × Nat) => kC ts t1 t2 f.1 n [] f.2) (fun n => rfl), by omega, OR9, T09⟩
  case rest =>
   obtain ⟨lf, vf, jf, OC10, A10, K10, HTD4, hjf, OR10, T10⟩ := hcut
   obtain ⟨va, vc, gf, rfl, rf, ff⟩ := AccT.rep A10
   have HA10 := LH rf
   have HFF : Hid (∀ k, k ∈ gf -> cb < k /\ k < wc.heap.size) := LH (fun k hk => ⟨ff.ge k hk, ff.lt hk⟩)
   have hcm := OC10.lt
   have hmw := Nat.le_refl wc.heap.size
   clear rf ff
   generalize hmb : wc.heap.size = mb at HFF hcm
   rw [hmb] at hmw
   have HK10 := LH K10
   have HTD := LH HTD4
   have HT10 := LH T10
   clear A10 K10 HTD4 T10 O7 O7c HK7 HT7 HTD3
   go_upto_block 0 with fail
   go_cut [] (fun wx => ∃ (l : List MMethod) (vm : Value) (j : Nat) (bj : Bool), Own wx cb 43 #[.string t1, .string t2, .slice va lf.length vc, vm] /\ RepF wx (strs lf) [.slice va lf.length vc] gf /\ AccM mb wx vm l /\ Prs 51 B tb to_ cap ao ts wx (j) bj /\ (Todo b (fun n => pClass ts n a) bj (fun n => kC ts t1 t2 lf n l j)) /\ a <= j /\ (bj = false -> tkxB ts j 8 meW = false /\ tkxB ts j 8 cmW = false) /\ Own wx w.heap.size 43 #[.string ⟨#[]⟩, .string ⟨#[]⟩, .slice none 0 0, .slice none 0 0] /\ Touch w wx [B] /\ mb <= wx.heap.size)
   case first =>
    go_wp2_with fail
    go_loopw [] (fun wr => ∃ (l : List MMethod) (vm : Value) (j : Nat) (bj : Bool), Own wr cb 43 #[.string t1, .string t2, .slice va lf.length vc, vm] /\ RepF wr (strs lf) [.slice va lf.length vc] gf /\ AccM mb wr vm l /\ Prs 51 B tb to_ cap ao ts wr (j) bj /\ Hid (Todo b (fun n => pClass ts n a) bj (fun n => kC ts t1 t2 lf n l j)) /\ (a <= j /\ l.length <= 802 /\ (bj = false -> l.length <= j)) /\ Own wr w.heap.size 43 #[.string ⟨#[]⟩, .string ⟨#[]⟩, .slice none 0 0, .slice none 0 0] /\ Touch w wr [B] /\ mb <= wr.heap.size) (fun wr => leftOf B ts.length wr)
    case atStart => exact ⟨[], .slice none 0 0, jf, b3, OC10, HA10.out, Acw.nil _ _ _ _, HK10.out, HTD, ⟨by omega, by simp, by simp⟩, OR10, HT10.out, by omega⟩
    case round =>
     clear OC10 HA10 HK10 HTD OR10 HT10
     obtain ⟨l, vm, j, bj, hC, hA, hM, hp, HTDj, ⟨haj, hl2, hlj⟩, hR, hT, hmr⟩ := hrel
     have HA := LH hA
     have HM := LH hM
     have HPj := LH hp
     have HPM := LH hp
     have HT := LH hT
     obtain ⟨d0, d1, d2⟩ := hp.cells
     have zB := lt_of_cell d0
     have hws := hT.size
     have hcwr := hC.lt
     clear hA hM hp hT
     cases bj
     rotate_left
     · go_wp2_with fail
       go_meet
       exact ⟨l, vm, j, true, hC, HA.out, HM.out, HPj.out, HTDj.out, haj, (fun h => nomatch h), hR, HT.out, hmr⟩
     have hjl := HPj.out.ok rfl
     have hlj := hlj rfl
     obtain ⟨i1, hi1⟩ : ∃ c, tkxB ts j 8 meW = c := ⟨_, rfl⟩
     obtain ⟨i2, hi2⟩ : ∃ c, tkxB ts j 8 cmW = c := ⟨_, rfl⟩
     have HI1 := LH (fun (W : World) (h : Prs 51 B tb to_ cap ao ts W (j) false) => by have := is_any W h 8 meW; rw [<- tkxB_eq (by decide), hi1] at this; exact this)
     have HI2 := LH (fun (W : World) (h : Prs 51 B tb to_ cap ao ts W (j) false) => by have := is_any W h 8 cmW; rw [<- tkxB_eq (by decide), hi2] at this; exact this)
     cases i1
     · cases i2
       · have HNE : Hid (tkxB ts j 8 meW = false /\ tkxB ts j 8 cmW = false) := LH ⟨hi1, hi2⟩
         clear hi1 hi2
         go_wp2_with fail
         refine (HI1.out _ HPj.out).mono ?_
         rintro e w1 ⟨rfl, x1⟩
         go_wp2_with fail
         refine (HI2.out _ (HPj.out.ext x1)).mono ?_
         rintro e w2 ⟨rfl, x2⟩
         have xx := x1.trans x2
         go_wp2_with fail
         go_meet
         exact ⟨l, vm, j, false, hC.ext xx, HA.out.ext xx, Acw.ext HM.out xx, HPj.out.ext xx, HTDj.out, haj, (fun _ => HNE.out), hR.ext xx, HT.out.trans (Touch.of_ext xx [B]), by have := xx.size; omega⟩
       · have hen : tkxB ts j 8 enW = false := tkx_ne (by decide) hi2 (by decide)
         clear hi1
         go_wp2_with fail
         refine (HI1.out _ HPj.out).mono ?_
         rintro e w0 ⟨rfl, x0⟩
         go_wp2_with fail
         refine (HI2.out _ (HPj.out.ext x0)).mono ?_
         rintro e w1 ⟨rfl, x2⟩
         have hx := x0.trans x2
         have HO1 := LH (hC.ext hx)
         have HR1 := LH (hR.ext hx)
         have HA1 := LH (HA.out.ext hx)
         have HM1 := LH (Acw.ext HM.out hx)
         have HP1 := LH (HPj.out.ext hx)
         have HT1 := LH (HT.out.trans (Touch.of_ext hx [B]))
         have hs1 := hx.size
         have HTD2 : Hid (Todo b (fun n => pClass ts n a) false (fun n => (pMeth ts n j).bind fun m => kC ts t1 t2 lf n (l ++ [m.1]) m.2)) := LH (HTDj.out.step (fun n => by
          unfold kC
          rw [pMs, if_neg (by rw [hen]; decide)]
          cases pMeth ts n j <;> rfl))
         clear hC hR HA HM HPj HT hx hen HTDj HI1 HI2 d0 d1 d2 zB
         go_wp2_with fail
         have b4 : w1.cell? ⟨cb, 3, none⟩ = some vm := HO1.out.cell 3
         have bz := HO1.out.lt
         have HC := LH (fun (W : World) (hW : Ext w1 W) => method_any W (HP1.out.ext hW))
         have HOX := LH (fun (W : World) (w2 : World) (hW : Ext w1 W) (T : Touch W w2 [B]) => (HO1.out.ext hW).touch' T (by simp; omega))
         have HMX := LH (fun (W : World) (w2 : World) (hW : Ext w1 W) (T : Touch W w2 [B]) => Acw.touch (Acw.ext HM1.out hW) T (fun k hk => by simp at hk; omega))
         have HSZ := LH (fun (W : World) (w2 : World) (hW : Ext w1 W) (T : Touch W w2 [B]) => Nat.le_trans hW.size T.size)
         have HFX : Hid (∀ W : World, Ext w1 W -> ∀ k, W.heap.size <= k -> mb <= k) := LH (fun W hW k hk => by have := hW.size; omega)
         have HOB : Hid (∀ k, vm.ownBlock = some k -> mb <= k /\ k < w1.heap.size) := LH (fun k hk => Acw.ge HM1.out hk)
         go_region_law ((first
          | (refine step_append_m rfl _ _ rfl mb vm l rfl (Acw.ext (HMX.out _ w2 (Ext.drew (XR _)) T2) ((XR _).alloc _)) [y] _ _ _ (w2.heap.size :: gp) rfl (one_of (R2.ext ((XR _).alloc _)) rfl (own_new w2 _ _) (by decide)) (fun k hk => HFX.out _ (Ext.drew (XR _)) k (F2 k hk)) (fun k hk hm => by have h1 := (HOB.out k hk).2; have h2 := F2 k hm; have h3 := (Ext.drew (XR w1)).size; omega) (by simp; omega) (by have h2 := HSZ.out _ w2 (Ext.drew (XR _)) T2; have h3 := (XR w2).alloc (Obj.cells #[.string y.selector, .bool y.cls, .slice z1 y.params.length z2, .slice z3 y.temps.length z4, .slice z5 y.body.length z6] 26); have h4 := h3.size; omega) ?_; intro ao2 cap2 w7 ac hg hloc; have TG : Touch _ w7 vm.ownBlock.toList := (Touch.of_ext (XR _) _).grown hg (fun k hk => Or.inl (by simp [hk])); have O7 := ((HOX.out _ w2 (Ext.drew (XR _)) T2).ext ((XR _).alloc _)).touch' TG (fun hm => by have := (HOB.out cb (by simpa using hm)).1; omega); have c7 := O7.cell 3; have f7 := O7.f3; have z7 := O7.lt)
          | (go_simp; go_wp2_with ((refine (HC.out _ (by first | exact Ext.drew (XR _) | exact XR _)).mono ?_; rintro e w2 ⟨y, ds, gp, j2, bj2, rfl, R2, F2, K2, g2, m2, T2⟩; obtain ⟨z1, z2, z3, z4, z5, z6, rfl⟩ := fld5m R2; have b42 : w2.cell? ⟨cb, 3, none⟩ = some vm := (HOX.out _ w2 (Ext.drew (XR _)) T2).cell 3; have bz2 := (HOX.out _ w2 (Ext.drew (XR _)) T2).lt)))))
         all_goals
          have hsz2 := HSZ.out _ w2 (Ext.drew (XR _)) T2
          have HTD3 := LH (HTD2.out.call0 g2 (g := fun n m => kC ts t1 t2 lf n (l ++ [m.1]) m.2) (fun n => rfl))
          have HG9 := LH g2
          have Ta : Touch w2 w7 vm.ownBlock.toList := (Touch.of_ext ((XR _).alloc _) _).trans TG
          generalize hv1 : Value.slice ao2 (l.length + [y].length) cap2 = v1 at *
          generalize hS : World.setCell w7 _ v1 = W9
          have Tb : Touch w7 W9 [cb] := by rw [<- hS]; exact (Touch.of_ext (XR _) _).setCell (by simp) _
          have O9 : Own W9 cb 43 #[.string t1, .string t2, .slice va lf.length vc, v1] := by rw [<- hS]; exact O7.set 3 v1
          have M9 : AccM mb W9 v1 (l ++ [y]) := Acw.touch ac Tb (fun k hk => by simp at hk; omega)
          have T7 : Touch w2 W9 (cb :: vm.ownBlock.toList) := (Ta.mono (fun k hk => List.mem_cons_of_mem _ hk)).trans (Tb.mono (fun k hk => by simp at hk; simp [hk]))
          have hF7 : ∀ k, k ∈ cb :: vm.ownBlock.toList -> cb <= k := fun k hk => by
           rcases List.mem_cons.1 hk with rfl | hk
           · exact Nat.le_refl _
           · have := (HOB.out k (by simpa using hk)).1; omega
          have P9 := HP.out.late K2 T7 (fun k hk => by have := hF7 k hk; omega)
          have OR9 := ((HR1.out.ext (Ext.drew (XR _))).touch' T2 (by simp; omega)).touch' T7 (fun hm => by have := hF7 _ hm; omega)
          have A9 : RepF W9 (strs lf) [.slice va lf.length vc] gf := ((HA1.out.ext (Ext.drew (XR _))).touch T2 (fun k hk hm => by have := HFF.out k hk; simp at hm; omega)).touch T7 (fun k hk hm => by
           have h1 := HFF.out k hk
           rcases List.mem_cons.1 hm with rfl | hm
           · omega
           · have := (HOB.out k (by simpa using hm)).1; omega)
          have hsz9 := T7.size
          have T9 : Touch w W9 [B] := ((HT1.out.trans (Touch.of_ext (Ext.drew (XR _)) [B])).trans T2).late2 T7 (fun k hk => by have := hF7 k hk; omega)
          have HP9 := LH P9
          have HOR9 := LH OR9
          have HA9 := LH A9
          have HM9 := LH M9
          have HT9 := LH T9
          have HO9 := LH O9
          clear hS Ta Tb O9 A9 M9 T7 hF7 P9 OR9 T9 ac hg hloc TG O7 c7 f7 z7 K2 T2 b42 bz2 b4 bz HC HMX HOX HSZ HFX HOB HO1 HR1 HA1 HM1 HT1 HP1 R2 F2 g2 HTD2 hv1
          go_wp2_with fail
          refine ⟨⟨l ++ [y], v1, j2, bj2, HO9.out, HA9.out, HM9.out, HP9.out, HTD3, ⟨by omega, by simp; omega, fun h => by subst h; have := Ev.up (HG9.out.yes rfl rfl); simp; omega⟩, HOR9.out, HT9.out, by omega⟩, ?_⟩
          rw [left_ok HPM.out]
          cases bj2
          · rw [left_ok HP9.out]; have := Ev.up (HG9.out.yes rfl rfl); have := HP9.out.le; omega
          · rw [left_bad HP9.out]; omega
     · have hen : tkxB ts j 8 enW = false := tkx_ne (by decide) hi1 (by decide)
       clear hi2
       go_wp2_with fail
       refine (HI1.out _ HPj.out).mono ?_
       rintro e w1 ⟨rfl, hx⟩
       have HO1 := LH (hC.ext hx)
       have HR1 := LH (hR.ext hx)
       have HA1 := LH (HA.out.ext hx)
       have HM1 := LH (Acw.ext HM.out hx)
       have HP1 := LH (HPj.out.ext hx)
       have HT1 := LH (HT.out.trans (Touch.of_ext hx [B]))
       have hs1 := hx.size
       have HTD2 : Hid (Todo b (fun n => pClass ts n a) false (fun n => (pMeth ts n j).bind fun m => kC ts t1 t2 lf n (l ++ [m.1]) m.2)) := LH (HTDj.out.step (fun n => by
        unfold kC
        rw [pMs, if_neg (by rw [hen]; decide)]
        cases pMeth ts n j <;> rfl))
       clear hC hR HA HM HPj HT hx hen HTDj HI1 HI2 d0 d1 d2 zB
       go_wp2_with fail
       have b4 : w1.cell? ⟨cb, 3, none⟩ = some vm := HO1.out.cell 3
       have bz := HO1.out.lt
       have HC := LH (fun (W : World) (hW : Ext w1 W) => method_any W (HP1.out.ext hW))
       have HOX := LH (fun (W : World) (w2 : World) (hW : Ext w1 W) (T : Touch W w2 [B]) => (HO1.out.ext hW).touch' T (by simp; omega))
       have HMX := LH (fun (W : World) (w2 : World) (hW : Ext w1 W) (T : Touch W w2 [B]) => Acw.touch (Acw.ext HM1.out hW) T (fun k hk => by simp at hk; omega))
       have HSZ := LH (fun (W : World) (w2 : World) (hW : Ext w1 W) (T : Touch W w2 [B]) => Nat.le_trans hW.size T.size)
       have HFX : Hid (∀ W : World, Ext w1 W -> ∀ k, W.heap.size <= k -> mb <= k) := LH (fun W hW k hk => by have := hW.size; omega)
       have HOB : Hid (∀ k, vm.ownBlock = some k -> mb <= k /\ k < w1.heap.size) := LH (fun k hk => Acw.ge HM1.out hk)
       go_region_law ((first
        | (refine step_append_m rfl _ _ rfl mb vm l rfl (Acw.ext (HMX.out _ w2 (Ext.drew (XR _)) T2) ((XR _).alloc _)) [y] _ _ _ (w2.heap.size :: gp) rfl (one_of (R2.ext ((XR _).alloc _)) rfl (own_new w2 _ _) (by decide)) (fun k hk => HFX.out _ (Ext.drew (XR _)) k (F2 k hk)) (fun k hk hm => by have h1 := (HOB.out k hk).2; have h2 := F2 k hm; have h3 := (Ext.drew (XR w1)).size; omega) (by simp; omega) (by have h2 := HSZ.out _ w2 (Ext.drew (XR _)) T2; have h3 := (XR w2).alloc (Obj.cells #[.string y.selector, .bool y.cls, .slice z1 y.params.length z2, .slice z3 y.temps.length z4, .slice z5 y.body.length z6] 26); have h4 := h3.size; omega) ?_; intro ao2 cap2 w7 ac hg hloc; have TG : Touch _ w7 vm.ownBlock.toList := (Touch.of_ext (XR _) _).grown hg (fun k hk => Or.inl (by simp [hk])); have O7 := ((HOX.out _ w2 (Ext.drew (XR _)) T2).ext ((XR _).alloc _)).touch' TG (fun hm => by have := (HOB.out cb (by simpa using hm)).1; omega); have c7 := O7.cell 3; have f7 := O7.f3; have z7 := O7.lt)
        | (go_simp; go_wp2_with ((refine (HC.out _ (by first | exact Ext.drew (XR _) | exact XR _)).mono ?_; rintro e w2 ⟨y, ds, gp, j2, bj2, rfl, R2, F2, K2, g2, m2, T2⟩; obtain ⟨z1, z2, z3, z4, z5, z6, rfl⟩ := fld5m R2; have b42 : w2.cell? ⟨cb, 3, none⟩ = some vm := (HOX.out _ w2 (Ext.drew (XR _)) T2).cell 3; have bz2 := (HOX.out _ w2 (Ext.drew (XR _)) T2).lt)))))
       all_goals
        have hsz2 := HSZ.out _ w2 (Ext.drew (XR _)) T2
        have HTD3 := LH (HTD2.out.call0 g2 (g := fun n m => kC ts t1 t2 lf n (l ++ [m.1]) m.2) (fun n => rfl))
        have HG9 := LH g2
        have Ta : Touch w2 w7 vm.ownBlock.toList := (Touch.of_ext ((XR _).alloc _) _).trans TG
        generalize hv1 : Value.slice ao2 (l.length + [y].length) cap2 = v1 at *
        generalize hS : World.setCell w7 _ v1 = W9
        have Tb : Touch w7 W9 [cb] := by rw [<- hS]; exact (Touch.of_ext (XR _) _).setCell (by simp) _
        have O9 : Own W9 cb 43 #[.string t1, .string t2, .slice va lf.length vc, v1] := by rw [<- hS]; exact O7.set 3 v1
        have M9 : AccM mb W9 v1 (l ++ [y]) := Acw.touch ac Tb (fun k hk => by simp at hk; omega)
        have T7 : Touch w2 W9 (cb :: vm.ownBlock.toList) := (Ta.mono (fun k hk => List.mem_cons_of_mem _ hk)).trans (Tb.mono (fun k hk => by simp at hk; simp [hk]))
        have hF7 : ∀ k, k ∈ cb :: vm.ownBlock.toList -> cb <= k := fun k hk => by
         rcases List.mem_cons.1 hk with rfl | hk
         · exact Nat.le_refl _
         · have := (HOB.out k (by simpa using hk)).1; omega
        have P9 := HP.out.late K2 T7 (fun k hk => by have := hF7 k hk; omega)
        have OR9 := ((HR1.out.ext (Ext.drew (XR _))).touch' T2 (by simp; omega)).touch' T7 (fun hm => by have := hF7 _ hm; omega)
        have A9 : RepF W9 (strs lf) [.slice va lf.length vc] gf := ((HA1.out.ext (Ext.drew (XR _))).touch T2 (fun k hk hm => by have := HFF.out k hk; simp at hm; omega)).touch T7 (fun k hk hm => by
         have h1 := HFF.out k hk
         rcases List.mem_cons.1 hm with rfl | hm
         · omega
         · have := (HOB.out k (by simpa using hm)).1; omega)
        have hsz9 := T7.size
        have T9 : Touch w W9 [B] := ((HT1.out.trans (Touch.of_ext (Ext.drew (XR _)) [B])).trans T2).late2 T7 (fun k hk => by have := hF7 k hk; omega)
        have HP9 := LH P9
        have HOR9 := LH OR9
        have HA9 := LH A9
        have HM9 := LH M9
        have HT9 := LH T9
        have HO9 := LH O9
        clear hS Ta Tb O9 A9 M9 T7 hF7 P9 OR9 T9 ac hg hloc TG O7 c7 f7 z7 K2 T2 b42 bz2 b4 bz HC HMX HOX HSZ HFX HOB HO1 HR1 HA1 HM1 HT1 HP1 R2 F2 g2 HTD2 hv1
        go_wp2_with fail
        refine ⟨⟨l ++ [y], v1, j2, bj2, HO9.out, HA9.out, HM9.out, HP9.out, HTD3, ⟨by omega, by simp; omega, fun h => by subst h; have := Ev.up (HG9.out.yes rfl rfl); simp; omega⟩, HOR9.out, HT9.out, by omega⟩, ?_⟩
        rw [left_ok HPM.out]
        cases bj2
        · rw [left_ok HP9.out]; have := Ev.up (HG9.out.yes rfl rfl); have := HP9.out.le; omega
        · rw [left_bad HP9.out]; omega
   case rest =>
    obtain ⟨l, vm, j, bj, OC, RF, M_, K_, HTDj, haj, hne, OR_, T_, hmr⟩ := hcut
    obtain ⟨vma, vmc, gm, rfl, rm, fm⟩ := AccM.rep M_
    obtain ⟨j9, b9, HC9, HG9, hj9⟩ : ∃ (j9 : Nat) (b9 : Bool), Hid (∀ W, Prs 51 B tb to_ cap ao ts W (j) bj -> Calls Tryz.prog 19 #[.pointer (some ⟨B, 0, none⟩), .int .i64 8, .string enW] W (fun e w' => e = .returned (.tuple #[]) /\ Prs 51 B tb to_ cap ao ts w' (j9) b9 /\ Touch W w' [B])) /\ Hid (Got b (fun n => pClass ts n a) b9 (⟨t1, t2, lf, l⟩, j9)) /\ j <= j9 := by
     cases he : tkxB ts j 8 enW
     · refine ⟨j, true, LH (fun W hW => want_no W hW 8 enW (by decide) he), ?_, Nat.le_refl _⟩
       cases bj
       · obtain ⟨n1, n2⟩ := hne rfl
         exact LH (HTDj.fail _ (fun n => by
          unfold kC
          rw [pMs, if_neg (by rw [he]; decide)]
          unfold pMeth
          rw [if_neg (by rw [n2]; decide), if_neg (by rw [n1]; decide)]
          rfl))
       · exact LH (HTDj.dead _)
     · exact ⟨j + 1, bj, LH (fun W hW => want_yes W hW 8 enW (by decide) he), LH (HTDj.done (fun n => by unfold kC; rw [pMs, if_pos he]; rfl)), by omega⟩
    have HRF := LH RF
    have HRM := LH rm
    have HFM := LH fm
    have HKK := LH K_
    have HTT := LH T_
    clear RF rm fm M_ K_ T_ HTDj hne OC10 OR10 HA10 HK10 HTD HT10
    go_wp2_with fail
    refine (HC9.out _ HKK.out).mono ?_
    rintro e w9 ⟨rfl, K9, T9⟩
    have OC9 := OC.touch' T9 (by simp; omega)
    have OR9 := OR_.touch' T9 (by simp; omega)
    have HRF9 := LH (HRF.out.touch T9 (fun k hk hm => by have := HFF.out k hk; simp at hm; omega))
    have HRM9 := LH (HRM.out.touch T9 (fun k hk hm => by have := HFM.out k hk; simp at hm; omega))
    have HP9 := LH K9
    have HT9 := LH (HTT.out.trans T9)
    have hs9 := T9.size
    clear K9 T9 OC OR_ HRF HRM HKK HTT HC9
    have m0 := OC9.k0
    have mf0 := OC9.f0
    have m1 := OC9.k1
    have mf1 := OC9.f1
    have m2 := OC9.k2
    have mf2 := OC9.f2
    have m3 := OC9.k3
    have mf3 := OC9.f3
    have mz := OC9.lt
    have r0 := OR9.k0
    have rf0 := OR9.f0
    have r1 := OR9.k1
    have rf1 := OR9.f1
    have r2 := OR9.k2
    have rf2 := OR9.f2
    have r3 := OR9.k3
    have rf3 := OR9.f3
    have rz := OR9.lt
    go_wp2_with fail
    generalize hS : World.setCell (World.setCell (World.setCell (World.setCell w9 _ _) _ _) _ _) _ _ = W9
    obtain ⟨O9, T9⟩ := own4c OR9 (.string t1) (.string t2) (.slice va lf.length vc) (.slice vma l.length vmc)
    rw [hS] at O9 T9
    clear hS
    have p0 := O9.k0
    have p1 := O9.k1
    have p2 := O9.k2
    have p3 := O9.k3
    have pz := O9.lt
    have RN := HRF9.out.touch T9 (fun k hk hm => by have := HFF.out k hk; simp at hm; omega)
    have RM := HRM9.out.touch T9 (fun k hk hm => by have := HFM.out k hk; simp at hm; omega)
    have R9 := MClassDef.shut (x := ⟨t1, t2, lf, l⟩) RN RM
    rw [List.append_nil] at R9
    have FIN : CGot B tb to_ cap ao ts w a b (.returned (.agg #[.string t1, .string t2, .slice va lf.length vc, .slice vma l.length vmc])) W9 := ⟨⟨t1, t2, lf, l⟩, _, gf ++ gm, j9, b9, rfl, R9, fun k hk => by
     rcases List.mem_append.1 hk with hk | hk
     · have := HFF.out k hk; omega
     · have := HFM.out k hk; omega, HP.out.late HP9.out T9 (fun k hk => by simp at hk; omega), HG9.out, by omega, HT9.out.late2 T9 (fun k hk => by simp at hk; omega)⟩
    exact bodyPost_ret (v := .agg #[.string t1, .string t2, .slice va lf.length vc, .slice vma l.length vmc]) (by simp [results, Tryz.results18, go_sem, p0, p1, p2, p3, pz]) rfl FIN
theorem strs_blk {w : World} {l : List ByteArray} {ao : Option Addr} {n cap : Nat} {gp : List Nat} (h : RepF w (strs l) [.slice ao n cap] gp) : ∀ k, k ∈ gp -> (Value.slice ao n cap).ownBlock = some k := by
 intro k hk
 have ht := h.strs_tail
 obtain ⟨ao', cap', e, _, _, _, h2⟩ := RepF.sl_iff.1 h
 rcases h2 with ⟨_, rfl⟩ | ⟨b, o, cs, fp', _, ha, rfl, _⟩
 · cases hk
 · simp at ht
   subst ht
   simp at hk
   subst hk
   simp at e
   rw [e.1, ha]
   rfl
theorem copy_of (n : Nat) (IH : Hid (∀ (z : MExpr) (cz : List Value) (w : World), SizeOf.sizeOf z < n -> Rep w z.d cz -> z.d.bulk <= 1048576 -> Calls Tryz.prog 126 #[.agg cz.toArray] w (GivesS w z.d)))
 (x : MExpr) (cx : List Value) (w : World) (hn : SizeOf.sizeOf x < n + 1) (rx : Rep w x.d cx) (hb : x.d.bulk <= 1048576) : Calls Tryz.prog 126 #[.agg cx.toArray] w (GivesS w x.d) := by
 have hk : Hid (∀ z, z ∈ x.kids -> SizeOf.sizeOf z < n) := LH fun z hz => by have := MExpr.kid_lt hz; omega
 obtain ⟨a1, c1, a2, c2, rfl, rn, rk⟩ := MExpr.op_en rx
 obtain ⟨ao, ca, ba, oa, e1, hla, hma, pa, hra⟩ := Rep.slmap rk
 simp only [List.cons.injEq, and_true, Value.slice.injEq, true_and] at e1
 obtain ⟨rfl, rfl⟩ := e1
 clear rx rk hn
 unfold maxLen at hma
 rw [MExpr.d_eq] at hb
 simp only [D.bulk, D.bulkL] at hb
 have hbk : Hid (x.kids.length + D.bulkL (x.kids.map MExpr.d) <= 1048576) := LH (by simp only [MExprs, D.bulk, List.length_map] at hb; omega)
 have hnl : x.names.length <= 1048576 := by simp only [strs, D.bulk, List.length_map] at hb; omega
 have hkl : x.kids.length <= 1048576 := by have := hbk.out; omega
 clear hb
 go_enter Tryz.func126, Tryz.ntmps126
 go_upto_region 1 with fail
 generalize hS : World.alloc (World.alloc w _) _ = W1
 have x1 : Ext w W1 := by rw [<- hS]; exact ((XR _).alloc _).alloc _
 have OX : Own W1 w.heap.size 70 #[.int .i64 x.kind, .string x.text, .int .i64 x.number, .slice a1 x.names.length c1, .slice a2 x.kids.length c2] := by rw [<- hS]; exact (own_new w _ _).ext ((XR _).alloc _)
 have OR : Own W1 (w.heap.size + 1) 70 #[.int .i64 0, .string ⟨#[]⟩, .int .i64 0, .slice none 0 0, .slice none 0 0] := by rw [<- hS]; exact own_new2 w _ _ _
 have hs1 : w.heap.size + 2 <= W1.heap.size := by rw [<- hS]; simp
 clear hS
 have HN := LH (Rep.ext x1 rn)
 clear rn
 have q0 := OX.k0
 have qf0 := OX.f0
 have q1 := OX.k1
 have qf1 := OX.f1
 have q2 := OX.k2
 have qf2 := OX.f2
 have q3 := OX.k3
 have qf3 := OX.f3
 have q4 := OX.k4
 have qf4 := OX.f4
 have qz := OX.lt
 have x2 : Ext W1 (W1.alloc (.cells #[] 9)) := (XR W1).alloc _
 have KD : AccT (w.heap.size + 2) (W1.alloc (.cells #[] 9)) (.slice (some ⟨W1.heap.size, 0, none⟩) 0 0) [] := Acc.empty _ _ hs1
 have HS1 := Rep.ext x2 HN.out
 have hl1 : ([] : List ByteArray).length + x.names.length <= 1073741824 := by simp; omega
 go_wp2_with (at_builtin; refine wpList_append_strs_at rfl _ _ rfl (w.heap.size + 2) _ [] rfl KD x.names _ _ _ rfl HS1 hl1 (by simp; omega) ?_)
 intro b1 k1 w2 ac1 g1 m1
 have TG : Touch (W1.alloc (.cells #[] 9)) w2 [W1.heap.size] := (Touch.of_ext (XR _) _).grown g1 fun k hk => Or.inl (by simp [Value.ownBlock] at hk; simp [hk])
 have X2 : Ext W1 w2 := Touch.ext x2 TG (fun k hk => by simp at hk; omega)
 have OX2 := OX.ext X2
 have OR2 := OR.ext X2
 have hs2 := X2.size
 have hx2 := x1.trans X2
 have AN := LH ac1
 clear KD HS1 hl1 g1 m1 TG x2 ac1 OX OR x1 X2 q0 qf0 q1 qf1 q2 qf2 q3 qf3 q4 qf4 qz HN
 have q0 := OX2.k0
 have qf0 := OX2.f0
 have q1 := OX2.k1
 have qf1 := OX2.f1
 have q2 := OX2.k2
 have qf2 := OX2.f2
 have q3 := OX2.k3
 have qf3 := OX2.f3
 have q4 := OX2.k4
 have qf4 := OX2.f4
 have qz := OX2.lt
 go_upto_region 2 with fail
 generalize hS : World.setCell w2 _ _ = W3
 have T3 : Touch w2 W3 [w.heap.size] := by rw [<- hS]; exact (Touch.of_ext (XR _) _).setCell (by simp) _
 have OX3 : Own W3 w.heap.size 70 #[.int .i64 x.kind, .string x.text, .int .i64 x.number, .slice b1 x.names.length k1, .slice a2 x.kids.length c2] := by rw [<- hS]; exact OX2.set 3 _
 have OR3 := OR2.touch' T3 (by simp)
 have AN3 := LH (AccT.low AN.out T3 (fun k hk => by simp at hk; omega))
 have hx3 : Ext w W3 := Touch.ext hx2 T3 (fun k hk => by simp at hk; omega)
 have hs3 := T3.size
 have HNB : Hid (∀ k, (Value.slice b1 x.names.length k1).ownBlock = some k -> w.heap.size + 2 <= k /\ k < W3.heap.size) := LH fun k hk => Acc.ge AN3.out hk
 clear hS T3 OX2 OR2 AN hx2 q0 qf0 q1 qf1 q2 qf2 q3 qf3 q4 qf4 qz
 go_upto_region 3 with fail
 generalize hS : World.alloc W3 _ = W4
 have x4 : Ext W3 W4 := by rw [<- hS]; exact (XR _).alloc _
 have OX4 := OX3.ext x4
 have OR4 := OR3.ext x4
 have AN4 := LH (AccT.ext AN3.out x4)
 have AK4 : Hid (Acc W3.heap.size W4 70 5 (.slice (some ⟨W3.heap.size, 0, none⟩) 0 0) ([] : List D) []) := LH (by rw [<- hS]; exact Acc.empty 70 5 (Nat.le_refl _))
 have hx4 := hx3.trans x4
 have hs4 := x4.size
 clear hS AN3 hx3 x4 OX3 OR3
 have q4 := OX4.k4
 have qz := OX4.lt
 go_wp2_with fail
 go_loopw [3, 15] (fun kv iv wr => ∃ (k : Nat) (fp : List Nat), k <= x.kids.length /\ iv = .int .i64 k /\ W3.heap.size <= wr.heap.size /\ Ext w wr /\ Own wr w.heap.size 70 #[.int .i64 x.kind, .string x.text, .int .i64 x.number, .slice b1 x.names.length k1, .slice a2 x.kids.length c2] /\ Own wr (w.heap.size + 1) 70 #[.int .i64 0, .string ⟨#[]⟩, .int .i64 0, .slice none 0 0, .slice none 0 0] /\ AccT (w.heap.size + 2) wr (.slice b1 x.names.length k1) x.names /\ Hid (Acc W3.heap.size wr 70 5 kv ((x.kids.take k).map MExpr.d) fp)) (fun _ iv _ => x.kids.length - (intOf iv).toNat)
 case atStart => exact ⟨0, [], Nat.zero_le _, rfl, hs4, hx4, OX4, OR4, AN4.out, AK4⟩
 case round =>
  clear OX4 OR4 AN4 AK4 q4 qz hx4
  obtain ⟨kv, hkv⟩ : ∃ x, x = u3 := ⟨_, rfl⟩
  subst hkv
  obtain ⟨k, fp, hk', rfl, hwr, hx, hX, hR, hA, hK⟩ := hrel
  have hRl := hR.lt
  by_cases hlt : k < x.kids.length
  · obtain rfl := pa (by omega)
    obtain ⟨ea, la, cl, ra⟩ := hra k x.kids[k] (by simp [hlt])
    obtain ⟨aa0, cc0, aa1, cc1, rfl, -, -⟩ := MExpr.op_en ra
    have t0 := hx.cell (show w.cell? ⟨ba, oa + k * 5, none⟩ = some _ from cl 0 (by omega))
    have t1 := hx.cell (show w.cell? ⟨ba, oa + k * 5 + 1, none⟩ = some _ from cl 1 (by omega))
    have t2 := hx.cell (show w.cell? ⟨ba, oa + k * 5 + 2, none⟩ = some _ from cl 2 (by omega))
    have t3 := hx.cell (show w.cell? ⟨ba, oa + k * 5 + 3, none⟩ = some _ from cl 3 (by omega))
    have t4 := hx.cell (show w.cell? ⟨ba, oa + k * 5 + 4, none⟩ = some _ from cl 4 (by omega))
    clear cl la hra pa
    have hbz : x.kids[k].d.bulk <= 1048576 := by have := D.bulkL_mem (List.mem_map.2 ⟨x.kids[k], List.getElem_mem hlt, rfl⟩ : x.kids[k].d ∈ x.kids.map MExpr.d); have := hbk.out; omega
    have HAT := LH hA
    have HX := LH hX
    have HR := LH hR
    clear hX hR hA
    go_upto_region 6 with fail
    generalize hS : World.alloc wr _ = W5
    have x5 : Ext wr W5 := by rw [<- hS]; exact (XR _).alloc _
    have OK : Own W5 wr.heap.size 70 #[.int .i64 x.kids[k].kind, .string x.kids[k].text, .int .i64 x.kids[k].number, .slice aa0 x.kids[k].names.length cc0, .slice aa1 x.kids[k].kids.length cc1] := by rw [<- hS]; exact own_new wr _ _
    have RA := LH (Rep.ext (hx.trans x5) ra)
    clear hS t0 t1 t2 t3 t4 ra
    have q0 := OK.k0
    have qf0 := OK.f0
    have q1 := OK.k1
    have qf1 := OK.f1
    have q2 := OK.k2
    have qf2 := OK.f2
    have q3 := OK.k3
    have qf3 := OK.f3
    have q4 := OK.k4
    have qf4 := OK.f4
    have qz := OK.lt
    go_wp2_with fail
    refine (IH.out x.kids[k] _ W5 (hk.out _ (List.getElem_mem hlt)) RA.out hbz).mono ?_
    rintro e w6 ⟨cs, gp, rfl, r6, f6, x6⟩
    obtain ⟨z1, z2, z3, z4, rfl⟩ := fld5 r6
    have HR6 := LH r6
    have HF6 := LH f6
    have hxx := x5.trans x6
    have hx6 := hx.trans hxx
    have K6 := LH (Acc.ext hK.out hxx)
    have HAT6 := LH (AccT.ext HAT.out hxx)
    have HX6 := LH (HX.out.ext hxx)
    have HRR6 := LH (HR.out.ext hxx)
    have hs5 := x5.size
    have hs6 := x6.size
    have HOB : Hid (∀ k, kv.ownBlock = some k -> W3.heap.size <= k /\ k < wr.heap.size) := LH fun k hk => Acc.ge hK.out hk
    have HFW : Hid (∀ k, k ∈ fp -> k < wr.heap.size) := LH fun k hk => by obtain ⟨_, _, _, h, _⟩ := hK.out; exact h.lt hk
    have HFR : Hid (Fresh wr W3.heap.size fp) := LH (by obtain ⟨_, _, _, h, _⟩ := hK.out; exact h)
    clear r6 f6 x5 x6 hK HAT HX HR OK q0 qf0 q1 qf1 q2 qf2 q3 qf3 q4 qf4 qz RA hx
    have x7 : Ext w6 (w6.alloc (.cells #[.int .i64 x.kids[k].kind, .string x.kids[k].text, .int .i64 x.kids[k].number, .slice z1 x.kids[k].names.length z2, .slice z3 x.kids[k].kids.length z4] 70)) := (XR w6).alloc _
    have KD := Acc.ext K6.out x7
    have HSL := one_expr (HR6.out.ext x7) (own_new w6 #[.int .i64 x.kids[k].kind, .string x.kids[k].text, .int .i64 x.kids[k].number, .slice z1 x.kids[k].names.length z2, .slice z3 x.kids[k].kids.length z4] 70)
    have hFF : Fresh (w6.alloc (.cells #[.int .i64 x.kids[k].kind, .string x.kids[k].text, .int .i64 x.kids[k].number, .slice z1 x.kids[k].names.length z2, .slice z3 x.kids[k].kids.length z4] 70)) W3.heap.size (fp ++ gp) := (HFR.out.append (hxx.trans x7) ((HF6.out.ext x7).mono hs5) (Nat.le_refl _) (by have := HRR6.out.lt; omega))
    obtain ⟨i0, hi, hz0, hz1, hz2⟩ := info_parts exprInfo
    have hlk : ((x.kids.take k).map MExpr.d).length = k := by simp; omega
    go_wp2_with (at_builtin; refine wpList_append_at rfl _ _ 24 rfl W3.heap.size 70 i0 _ 5 80 Tryz.underlying24 hi hz0 hz1 hz2 rfl (by decide) kv ((x.kids.take k).map MExpr.d) fp rfl KD [x.kids[k].d] _ 1 1 (w6.heap.size :: gp) rfl HSL hFF (fun k hk hm => by have h1 := (HOB.out k hk).2; have h2 := HF6.out.ge k hm; omega) (by rw [hlk]; unfold maxLen; omega) (by rw [hlk]; omega) (by have := x7.size; omega) ?_)
    intro a7 k7 w7 ac7 g7 m7
    have TG : Touch (w6.alloc (.cells #[.int .i64 x.kids[k].kind, .string x.kids[k].text, .int .i64 x.kids[k].number, .slice z1 x.kids[k].names.length z2, .slice z3 x.kids[k].kids.length z4] 70)) w7 kv.ownBlock.toList := (Touch.of_ext (XR _) _).grown g7 fun k hk => Or.inl (by simp [hk])
    have hge : ∀ k, k ∈ kv.ownBlock.toList -> W3.heap.size <= k := fun k hk => (HOB.out k (by simpa using hk)).1
    have hX7 := (HX6.out.ext x7).touch' TG (fun hm => by have := hge _ hm; omega)
    have hR7 := (HRR6.out.ext x7).touch' TG (fun hm => by have := hge _ hm; omega)
    have hA7 := Acc.touch (AccT.ext HAT6.out x7) TG (fun k hk hm => by have h1 := hge _ hm; have h2 := (HNB.out k hk).2; omega) (fun k hk => nomatch hk)
    have hsz7 : W3.heap.size <= w7.heap.size := by have h1 := x7.size; have h2 := TG.size; omega
    have hw7 : Ext w w7 := Touch.ext (hx6.trans x7) TG (fun k hk => by have := hge k hk; omega)
    have HK7 : Hid (Acc W3.heap.size w7 70 5 (.slice a7 (k + 1) k7) ((x.kids.take (k + 1)).map MExpr.d) (fp ++ gp)) := LH (by rw [List.take_succ_eq_append_getElem hlt, List.map_append, List.map_take]; exact ac7)
    clear KD HSL hFF g7 m7 TG ac7 hge HX6 HRR6 HAT6 x7 K6 HR6 HF6 hi hz0 hz1 hz2
    generalize hv7 : Value.slice a7 (k + 1) k7 = v7 at *
    go_wp2_with fail
    go_roundw
    case rel => exact ⟨k + 1, fp ++ gp, by omega, by go_num, hsz7, hw7, hX7, hR7, hA7, HK7⟩
    case measure => simp [intOf]; omega
  · obtain rfl : k = x.kids.length := by omega
    obtain ⟨ak, ck, gk, rfl, rk, fk⟩ := Acc.rep hK.out
    obtain ⟨an, cn, gn, hvn, rn, fn⟩ := AccT.rep hA
    injection hvn with hv1 _ hv2
    subst hv1
    subst hv2
    rw [List.take_length, List.length_map] at rk
    have HRK := LH rk
    have HFK := LH fk
    have HRN := LH rn
    have HFN := LH fn
    have HNB2 : Hid (∀ k, k ∈ gn -> w.heap.size + 2 <= k /\ k < W3.heap.size) := LH (fun k hk => HNB.out k (strs_blk HRN.out k hk))
    clear hA hK rk fk rn fn
    have q0 := hX.k0
    have qf0 := hX.f0
    have q1 := hX.k1
    have qf1 := hX.f1
    have q2 := hX.k2
    have qf2 := hX.f2
    have q3 := hX.k3
    have qf3 := hX.f3
    have q4 := hX.k4
    have qf4 := hX.f4
    have qz := hX.lt
    have r0 := hR.k0
    have rf0 := hR.f0
    have r1 := hR.k1
    have rf1 := hR.f1
    have r2 := hR.k2
    have rf2 := hR.f2
    have r3 := hR.k3
    have rf3 := hR.f3
    have r4 := hR.k4
    have rf4 := hR.f4
    have rz := hR.lt
    go_upto_region 9 with fail
    generalize hS : World.setCell wr _ _ = W8
    have T8 : Touch wr W8 [w.heap.size] := by rw [<- hS]; exact (Touch.of_ext (XR _) _).setCell (by simp) _
    have OX8 : Own W8 w.heap.size 70 #[.int .i64 x.kind, .string x.text, .int .i64 x.number, .slice b1 x.names.length k1, .slice ak x.kids.length ck] := by rw [<- hS]; exact hX.set 4 _
    have OR8 := hR.touch' T8 (by simp)
    clear hS q0 qf0 r0 rf0 q1 qf1 r1 rf1 q2 qf2 r2 rf2 q3 qf3 r3 rf3 q4 qf4 r4 rf4 qz rz hX hR
    have q0 := OX8.k0
    have qf0 := OX8.f0
    have q1 := OX8.k1
    have qf1 := OX8.f1
    have q2 := OX8.k2
    have qf2 := OX8.f2
    have q3 := OX8.k3
    have qf3 := OX8.f3
    have q4 := OX8.k4
    have qf4 := OX8.f4
    have qz := OX8.lt
    have r0 := OR8.k0
    have rf0 := OR8.f0
    have r1 := OR8.k1
    have rf1 := OR8.f1
    have r2 := OR8.k2
    have rf2 := OR8.f2
    have r3 := OR8.k3
    have rf3 := OR8.f3
    have r4 := OR8.k4
    have rf4 := OR8.f4
    have rz := OR8.lt
    go_wp2_with fail
    generalize hS : World.setCell (World.setCell (World.setCell (World.setCell (World.setCell W8 _ _) _ _) _ _) _ _) _ _ = W9
    obtain ⟨O9, T9⟩ := own5 OR8 (.int .i64 x.kind) (.string x.text) (.int .i64 x.number) (.slice b1 x.names.length k1) (.slice ak x.kids.length ck)
    rw [hS] at O9 T9
    clear hS
    have p0 := O9.k0
    have p1 := O9.k1
    have p2 := O9.k2
    have p3 := O9.k3
    have p4 := O9.k4
    have pz := O9.lt
    have T89 : Touch wr W9 [w.heap.size, w.heap.size + 1] := (T8.mono (by simp)).trans (T9.mono (by simp))
    have RN9 := HRN.out.touch T89 (fun k hk hm => by have := (HNB2.out k hk).1; simp at hm; omega)
    have RK9 := HRK.out.touch T89 (fun k hk hm => by have := HFK.out.ge k hk; simp at hm; omega)
    have R9 := MExpr.shut (x := x) RN9 RK9
    rw [List.append_nil] at R9
    have FN9 := HFN.out.touch T89 (fun k hk hm => by have := (HNB2.out k hk).1; simp at hm; omega)
    have FK9 := HFK.out.touch T89 (fun k hk hm => by have := HFK.out.ge k hk; simp at hm; omega)
    have F9 : Fresh W9 w.heap.size (gn ++ gk) := (FN9.mono (by omega)).join FK9 (fun k hk => (HNB2.out k hk).2) (by omega)
    have FIN : GivesS w x.d (.returned (.agg #[.int .i64 x.kind, .string x.text, .int .i64 x.number, .slice b1 x.names.length k1, .slice ak x.kids.length ck])) W9 := ⟨_, gn ++ gk, rfl, R9, F9, Touch.ext hx T89 (fun k hk => by simp at hk; omega)⟩
    exact bodyPost_ret (v := .agg #[.int .i64 x.kind, .string x.text, .int .i64 x.number, .slice b1 x.names.length k1, .slice ak x.kids.length ck]) (by simp [results, Tryz.results126, go_sem, p0, p1, p2, p3, p4, pz]) rfl FIN
theorem copy_lt : ∀ (n : Nat) (x : MExpr) (cx : List Value) (w : World), SizeOf.sizeOf x < n -> Rep w x.d cx -> x.d.bulk <= 1048576 -> Calls Tryz.prog 126 #[.agg cx.toArray] w (GivesS w x.d)
 | 0, x, cx, w, h, _, _ => absurd h (Nat.not_lt_zero _)
 | n + 1, x, cx, w, h, rx, hb => copy_of n (LH fun z cz w' hz rz hb' => copy_lt n z cz w' hz rz hb') x cx w h rx hb
theorem copyExpr_any (x : MExpr) (cx : List Value) (w : World) (rx : Rep w x.d cx) (hb : x.d.bulk <= 1048576) : Calls Tryz.prog 126 #[.agg cx.toArray] w (GivesS w x.d) := copy_lt _ x cx w (Nat.lt_succ_self _) rx hb
theorem copyExprs_any (l : List MExpr) (va : Value) (w : World) (rl : Rep w (MExprs l) [va]) (hb : (MExprs l).bulk <= 1048576) : Calls Tryz.prog 105 #[va] w (GivesV w (MExprs l)) := by
 obtain ⟨ao, ca, ba, oa, e1, hla, hma, pa, hra⟩ := Rep.slmap rl
 simp only [List.cons.injEq, and_true] at e1
 subst e1
 clear rl
 unfold maxLen at hma
 have hbk : Hid (l.length + D.bulkL (l.map MExpr.d) <= 1048576) := LH (by simpa only [MExprs, D.bulk, List.length_map] using hb)
 have hkl : l.length <= 1048576 := by have := hbk.out; omega
 clear hb
 go_enter Tryz.func105, Tryz.ntmps105
 go_upto_region 2 with fail
 generalize hS : World.alloc w _ = W4
 have hx4 : Ext w W4 := by rw [<- hS]; exact (XR _).alloc _
 have AK4 : Hid (Acc w.heap.size W4 70 5 (.slice (some ⟨w.heap.size, 0, none⟩) 0 0) ([] : List D) []) := LH (by rw [<- hS]; exact Acc.empty 70 5 (Nat.le_refl _))
 clear hS
 go_wp2_with fail
 go_loopw [3, 9] (fun kv iv wr => ∃ (k : Nat) (fp : List Nat), k <= l.length /\ iv = .int .i64 k /\ Ext w wr /\ Hid (Acc w.heap.size wr 70 5 kv ((l.take k).map MExpr.d) fp)) (fun _ iv _ => l.length - (intOf iv).toNat)
 case atStart => exact ⟨0, [], Nat.zero_le _, rfl, hx4, AK4⟩
 case round =>
  clear AK4 hx4
  obtain ⟨kv, hkv⟩ : ∃ x, x = u3 := ⟨_, rfl⟩
  subst hkv
  obtain ⟨k, fp, hk', rfl, hx, hK⟩ := hrel
  have hwr := hx.size
  by_cases hlt : k < l.length
  · obtain rfl := pa (by omega)
    obtain ⟨ea, la, cl, ra⟩ := hra k l[k] (by simp [hlt])
    obtain ⟨aa0, cc0, aa1, cc1, rfl, -, -⟩ := MExpr.op_en ra
    have t0 := hx.cell (show w.cell? ⟨ba, oa + k * 5, none⟩ = some _ from cl 0 (by omega))
    have t1 := hx.cell (show w.cell? ⟨ba, oa + k * 5 + 1, none⟩ = some _ from cl 1 (by omega))
    have t2 := hx.cell (show w.cell? ⟨ba, oa + k * 5 + 2, none⟩ = some _ from cl 2 (by omega))
    have t3 := hx.cell (show w.cell? ⟨ba, oa + k * 5 + 3, none⟩ = some _ from cl 3 (by omega))
    have t4 := hx.cell (show w.cell? ⟨ba, oa + k * 5 + 4, none⟩ = some _ from cl 4 (by omega))
    clear cl la hra pa
    have hbz : l[k].d.bulk <= 1048576 := by have := D.bulkL_mem (List.mem_map.2 ⟨l[k], List.getElem_mem hlt, rfl⟩ : l[k].d ∈ l.map MExpr.d); have := hbk.out; omega
    go_upto_region 5 with fail
    generalize hS : World.alloc wr _ = W5
    have x5 : Ext wr W5 := by rw [<- hS]; exact (XR _).alloc _
    have OK : Own W5 wr.heap.size 70 #[.int .i64 l[k].kind, .string l[k].text, .int .i64 l[k].number, .slice aa0 l[k].names.length cc0, .slice aa1 l[k].kids.length cc1] := by rw [<- hS]; exact own_new wr _ _
    have RA := LH (Rep.ext (hx.trans x5) ra)
    clear hS t0 t1 t2 t3 t4 ra
    have q0 := OK.k0
    have qf0 := OK.f0
    have q1 := OK.k1
    have qf1 := OK.f1
    have q2 := OK.k2
    have qf2 := OK.f2
    have q3 := OK.k3
    have qf3 := OK.f3
    have q4 := OK.k4
    have qf4 := OK.f4
    have qz := OK.lt
    go_wp2_with fail
    refine (copyExpr_any l[k] _ W5 RA.out hbz).mono ?_
    rintro e w6 ⟨cs, gp, rfl, r6, f6, x6⟩
    obtain ⟨z1, z2, z3, z4, rfl⟩ := fld5 r6
    have HR6 := LH r6
    have HF6 := LH f6
    have hxx := x5.trans x6
    have hx6 := hx.trans hxx
    have K6 := LH (Acc.ext hK.out hxx)
    have hs5 := x5.size
    have hs6 := x6.size
    have HOB : Hid (∀ k, kv.ownBlock = some k -> w.heap.size <= k /\ k < wr.heap.size) := LH fun k hk => Acc.ge hK.out hk
    have HFR : Hid (Fresh wr w.heap.size fp) := LH (by obtain ⟨_, _, _, h, _⟩ := hK.out; exact h)
    clear r6 f6 x5 x6 hK OK q0 qf0 q1 qf1 q2 qf2 q3 qf3 q4 qf4 qz RA hx
    have x7 : Ext w6 (w6.alloc (.cells #[.int .i64 l[k].kind, .string l[k].text, .int .i64 l[k].number, .slice z1 l[k].names.length z2, .slice z3 l[k].kids.length z4] 70)) := (XR w6).alloc _
    have KD := Acc.ext K6.out x7
    have HSL := one_expr (HR6.out.ext x7) (own_new w6 #[.int .i64 l[k].kind, .string l[k].text, .int .i64 l[k].number, .slice z1 l[k].names.length z2, .slice z3 l[k].kids.length z4] 70)
    have hFF : Fresh (w6.alloc (.cells #[.int .i64 l[k].kind, .string l[k].text, .int .i64 l[k].number, .slice z1 l[k].names.length z2, .slice z3 l[k].kids.length z4] 70)) w.heap.size (fp ++ gp) := (HFR.out.append (hxx.trans x7) ((HF6.out.ext x7).mono hs5) (Nat.le_refl _) (by omega))
    obtain ⟨i0, hi, hz0, hz1, hz2⟩ := info_parts exprInfo
    have hlk : ((l.take k).map MExpr.d).length = k := by simp; omega
    go_wp2_with (at_builtin; refine wpList_append_at rfl _ _ 24 rfl w.heap.size 70 i0 _ 5 80 Tryz.underlying24 hi hz0 hz1 hz2 rfl (by decide) kv ((l.take k).map MExpr.d) fp rfl KD [l[k].d] _ 1 1 (w6.heap.size :: gp) rfl HSL hFF (fun k hk hm => by have h1 := (HOB.out k hk).2; have h2 := HF6.out.ge k hm; omega) (by rw [hlk]; unfold maxLen; omega) (by rw [hlk]; omega) (by have := x7.size; omega) ?_)
    intro a7 k7 w7 ac7 g7 m7
    have TG : Touch (w6.alloc (.cells #[.int .i64 l[k].kind, .string l[k].text, .int .i64 l[k].number, .slice z1 l[k].names.length z2, .slice z3 l[k].kids.length z4] 70)) w7 kv.ownBlock.toList := (Touch.of_ext (XR _) _).grown g7 fun k hk => Or.inl (by simp [hk])
    have hw7 : Ext w w7 := Touch.ext (hx6.trans x7) TG (fun k hk => (HOB.out k (by simpa using hk)).1)
    have HK7 : Hid (Acc w.heap.size w7 70 5 (.slice a7 (k + 1) k7) ((l.take (k + 1)).map MExpr.d) (fp ++ gp)) := LH (by rw [List.take_succ_eq_append_getElem hlt, List.map_append, List.map_take]; exact ac7)
    clear KD HSL hFF g7 m7 TG ac7 x7 K6 HR6 HF6 hi hz0 hz1 hz2
    generalize hv7 : Value.slice a7 (k + 1) k7 = v7 at *
    go_wp2_with fail
    go_roundw
    case rel => exact ⟨k + 1, fp ++ gp, by omega, by go_num, hw7, HK7⟩
    case measure => simp [intOf]; omega
  · obtain rfl : k = l.length := by omega
    obtain ⟨ak, ck, gk, rfl, rk, fk⟩ := Acc.rep hK.out
    rw [List.take_length, List.length_map] at rk
    rw [List.take_length, List.length_map]
    have FIN : GivesV w (MExprs l) (.returned (.slice ak l.length ck)) wr := ⟨ak, _, ck, gk, rfl, rk, fk, hx⟩
    clear hK rk fk
    go_wp2_with fail
    go_ret
    exact FIN
theorem copyMethod_any (x : MMethod) (cx : List Value) (w : World) (rx : Rep w x.d cx) (hb : x.d.bulk <= 1048576) : Calls Tryz.prog 50 #[.agg cx.toArray] w (GivesS w x.d) := by
 obtain ⟨a1, c1, a2, c2, a3, c3, rfl, r1, r2, r3⟩ := MMethod.op_en rx
 clear rx
 have hbb : (MExprs x.body).bulk <= 1048576 := by
  rw [MMethod.d_eq] at hb
  simp only [D.bulk, D.bulkL] at hb ⊢
  omega
 have hnp : x.params.length <= 1048576 /\ x.temps.length <= 1048576 := by
  rw [MMethod.d_eq] at hb
  simp only [strs, D.bulk, D.bulkL, List.length_map] at hb
  omega
 obtain ⟨hnp, hnt⟩ := hnp
 have R1 := LH r1
 have R2 := LH r2
 have R3 := LH r3
 clear hb r1 r2 r3
 go_enter Tryz.func50, Tryz.ntmps50
 go_upto_region 1 with fail
 generalize hS : World.alloc (World.alloc w _) _ = W1
 have x1 : Ext w W1 := by rw [<- hS]; exact ((XR _).alloc _).alloc _
 have OX : Own W1 w.heap.size 26 #[.string x.selector, .bool x.cls, .slice a1 x.params.length c1, .slice a2 x.temps.length c2, .slice a3 x.body.length c3] := by rw [<- hS]; exact (own_new w _ _).ext ((XR _).alloc _)
 have OR : Own W1 (w.heap.size + 1) 26 #[.string ⟨#[]⟩, .bool false, .slice none 0 0, .slice none 0 0, .slice none 0 0] := by rw [<- hS]; exact own_new2 w _ _ _
 have hs1 : w.heap.size + 2 <= W1.heap.size := by rw [<- hS]; simp
 clear hS
 have q0 := OX.k0
 have qf0 := OX.f0
 have q1 := OX.k1
 have qf1 := OX.f1
 have q2 := OX.k2
 have qf2 := OX.f2
 have q3 := OX.k3
 have qf3 := OX.f3
 have q4 := OX.k4
 have qf4 := OX.f4
 have qz := OX.lt
 have x2 : Ext W1 (W1.alloc (.cells #[] 9)) := (XR W1).alloc _
 have KD : AccT W1.heap.size (W1.alloc (.cells #[] 9)) (.slice (some ⟨W1.heap.size, 0, none⟩) 0 0) [] := Acc.empty _ _ (Nat.le_refl _)
 have HS1 := Rep.ext (x1.trans x2) R1.out
 have hl1 : ([] : List ByteArray).length + x.params.length <= 1073741824 := by simp; omega
 go_wp2_with (at_builtin; refine wpList_append_strs_at rfl _ _ rfl W1.heap.size _ [] rfl KD x.params _ _ _ rfl HS1 hl1 (by simp) ?_)
 intro b1 k1 w11 ac1 g1 m1
 have TG : Touch (W1.alloc (.cells #[] 9)) w11 [W1.heap.size] := (Touch.of_ext (XR _) _).grown g1 fun k hk => Or.inl (by simp [Value.ownBlock] at hk; simp [hk])
 have X2 : Ext W1 w11 := Touch.ext x2 TG (fun k hk => by simp at hk; omega)
 have OX1 := OX.ext X2
 have OR1 := OR.ext X2
 have hs11 := X2.size
 have hx11 := x1.trans X2
 obtain ⟨_, _, g1_, hv_1, r1_, f1_⟩ := AccT.rep ac1
 injection hv_1 with hv1 _ hv2
 subst hv1
 subst hv2
 have HR1 := LH r1_
 have HF1 := LH f1_
 have hg1_ := fun k (hk : k ∈ g1_) => f1_.lt hk
 have Hext1 := LH X2
 have HG1 := LH hg1_
 clear KD HS1 hl1 g1 m1 TG x2 ac1 OX OR X2 q0 qf0 q1 qf1 q2 qf2 q3 qf3 q4 qf4 qz r1_ f1_ hg1_
 have q0 := OX1.k0
 have qf0 := OX1.f0
 have q1 := OX1.k1
 have qf1 := OX1.f1
 have q2 := OX1.k2
 have qf2 := OX1.f2
 have q3 := OX1.k3
 have qf3 := OX1.f3
 have q4 := OX1.k4
 have qf4 := OX1.f4
 have qz := OX1.lt
 go_upto_region 2 with fail
 generalize hS : World.setCell w11 _ _ = v11
 have TT1 : Touch w11 v11 [w.heap.size] := by rw [<- hS]; exact (Touch.of_ext (XR _) _).setCell (by simp) _
 have OY1 : Own v11 w.heap.size 26 #[.string x.selector, .bool x.cls, .slice b1 x.params.length k1, .slice a2 x.temps.length c2, .slice a3 x.body.length c3] := by rw [<- hS]; exact OX1.set 2 _
 have OQ1 := OR1.touch' TT1 (by simp)
 have HQ1 := LH (HR1.out.touch TT1 (fun k hk hm => by have := HF1.out.ge k hk; simp at hm; omega))
 have hy1 : Ext w v11 := Touch.ext hx11 TT1 (fun k hk => by simp at hk; omega)
 have hz1 := TT1.size
 have Tyy1 := LH ((Touch.of_ext Hext1.out [w.heap.size]).trans TT1)
 have Frv1 := LH (HF1.out.touch TT1 (fun k hk hm => by have := HF1.out.ge k hk; simp at hm; omega))
 clear hS OX1 OR1 hx11 q0 qf0 q1 qf1 q2 qf2 q3 qf3 q4 qf4 qz HR1
 have q0 := OY1.k0
 have qf0 := OY1.f0
 have q1 := OY1.k1
 have qf1 := OY1.f1
 have q2 := OY1.k2
 have qf2 := OY1.f2
 have q3 := OY1.k3
 have qf3 := OY1.f3
 have q4 := OY1.k4
 have qf4 := OY1.f4
 have qz := OY1.lt
 have x2 : Ext v11 (v11.alloc (.cells #[] 9)) := (XR v11).alloc _
 have KD : AccT v11.heap.size (v11.alloc (.cells #[] 9)) (.slice (some ⟨v11.heap.size, 0, none⟩) 0 0) [] := Acc.empty _ _ (Nat.le_refl _)
 have HS1 := Rep.ext (hy1.trans x2) R2.out
 have hl1 : ([] : List ByteArray).length + x.temps.length <= 1073741824 := by simp; omega
 go_wp2_with (at_builtin; refine wpList_append_strs_at rfl _ _ rfl v11.heap.size _ [] rfl KD x.temps _ _ _ rfl HS1 hl1 (by simp) ?_)
 intro b2 k2 w12 ac1 g1 m1
 have TG : Touch (v11.alloc (.cells #[] 9)) w12 [v11.heap.size] := (Touch.of_ext (XR _) _).grown g1 fun k hk => Or.inl (by simp [Value.ownBlock] at hk; simp [hk])
 have X2 : Ext v11 w12 := Touch.ext x2 TG (fun k hk => by simp at hk; omega)
 have OX2 := OY1.ext X2
 have OR2 := OQ1.ext X2
 have hs12 := X2.size
 have hx12 := hy1.trans X2
 obtain ⟨_, _, g2_, hv_2, r2_, f2_⟩ := AccT.rep ac1
 injection hv_2 with hv1 _ hv2
 subst hv1
 subst hv2
 have HR2 := LH r2_
 have HF2 := LH f2_
 have hg2_ := fun k (hk : k ∈ g2_) => f2_.lt hk
 have Hext2 := LH X2
 have HG2 := LH hg2_
 clear KD HS1 hl1 g1 m1 TG x2 ac1 OY1 OQ1 X2 q0 qf0 q1 qf1 q2 qf2 q3 qf3 q4 qf4 qz r2_ f2_ hg2_
 have q0 := OX2.k0
 have qf0 := OX2.f0
 have q1 := OX2.k1
 have qf1 := OX2.f1
 have q2 := OX2.k2
 have qf2 := OX2.f2
 have q3 := OX2.k3
 have qf3 := OX2.f3
 have q4 := OX2.k4
 have qf4 := OX2.f4
 have qz := OX2.lt
 go_upto_region 3 with fail
 generalize hS : World.setCell w12 _ _ = v12
 have TT2 : Touch w12 v12 [w.heap.size] := by rw [<- hS]; exact (Touch.of_ext (XR _) _).setCell (by simp) _
 have OY2 : Own v12 w.heap.size 26 #[.string x.selector, .bool x.cls, .slice b1 x.params.length k1, .slice b2 x.temps.length k2, .slice a3 x.body.length c3] := by rw [<- hS]; exact OX2.set 3 _
 have OQ2 := OR2.touch' TT2 (by simp)
 have HQ2 := LH (HR2.out.touch TT2 (fun k hk hm => by have := HF2.out.ge k hk; simp at hm; omega))
 have hy2 : Ext w v12 := Touch.ext hx12 TT2 (fun k hk => by simp at hk; omega)
 have hz2 := TT2.size
 have Tyy2 := LH ((Touch.of_ext Hext2.out [w.heap.size]).trans TT2)
 have Frv2 := LH (HF2.out.touch TT2 (fun k hk hm => by have := HF2.out.ge k hk; simp at hm; omega))
 clear hS OX2 OR2 hx12 q0 qf0 q1 qf1 q2 qf2 q3 qf3 q4 qf4 qz HR2
 have q0 := OY2.k0
 have qf0 := OY2.f0
 have q1 := OY2.k1
 have qf1 := OY2.f1
 have q2 := OY2.k2
 have qf2 := OY2.f2
 have q3 := OY2.k3
 have qf3 := OY2.f3
 have q4 := OY2.k4
 have qf4 := OY2.f4
 have qz := OY2.lt
 go_wp2_with fail
 refine (copyExprs_any x.body _ v12 (Rep.ext hy2 R3.out) hbb).mono ?_
 rintro e w13 ⟨b3, n3, k3, g3_, rfl, r3_, f3_, x13⟩
 obtain ⟨_, _, e3, _⟩ := RepF.sl_iff.1 r3_
 simp only [List.cons.injEq, and_true, Value.slice.injEq, List.length_map] at e3
 obtain ⟨rfl, rfl, rfl⟩ := e3
 have OX3 := OY2.ext x13
 have OR3 := OQ2.ext x13
 have HR3 := LH r3_
 have HF3 := LH f3_
 have m1 : ∀ k, k ∈ g1_ -> k ∉ [w.heap.size] := fun k hk hm => by have := Frv1.out.ge k hk; simp at hm; omega
 have HP3 := LH ((HQ1.out.touch Tyy2.out m1).ext x13)
 have FP3 := LH ((Frv1.out.touch Tyy2.out m1).ext x13)
 have FT3 := LH (Frv2.out.ext x13)
 have HT3 := LH (HQ2.out.ext x13)
 have hx13 := hy2.trans x13
 clear r3_ f3_ OY2 OQ2 q0 qf0 q1 qf1 q2 qf2 q3 qf3 q4 qf4 qz
 have q0 := OX3.k0
 have qf0 := OX3.f0
 have q1 := OX3.k1
 have qf1 := OX3.f1
 have q2 := OX3.k2
 have qf2 := OX3.f2
 have q3 := OX3.k3
 have qf3 := OX3.f3
 have q4 := OX3.k4
 have qf4 := OX3.f4
 have qz := OX3.lt
 go_upto_region 4 with fail
 generalize hS : World.setCell w13 _ _ = v13
 have TT3 : Touch w13 v13 [w.heap.size] := by rw [<- hS]; exact (Touch.of_ext (XR _) _).setCell (by simp) _
 have OX4 : Own v13 w.heap.size 26 #[.string x.selector, .bool x.cls, .slice b1 x.params.length k1, .slice b2 x.temps.length k2, .slice b3 x.body.length k3] := by rw [<- hS]; exact OX3.set 4 _
 have OR4 := OR3.touch' TT3 (by simp)
 clear hS OX3 OR3 q0 qf0 q1 qf1 q2 qf2 q3 qf3 q4 qf4 qz
 have q0 := OX4.k0
 have qf0 := OX4.f0
 have q1 := OX4.k1
 have qf1 := OX4.f1
 have q2 := OX4.k2
 have qf2 := OX4.f2
 have q3 := OX4.k3
 have qf3 := OX4.f3
 have q4 := OX4.k4
 have qf4 := OX4.f4
 have qz := OX4.lt
 have r0 := OR4.k0
 have rf0 := OR4.f0
 have r1 := OR4.k1
 have rf1 := OR4.f1
 have r2 := OR4.k2
 have rf2 := OR4.f2
 have r3 := OR4.k3
 have rf3 := OR4.f3
 have r4 := OR4.k4
 have rf4 := OR4.f4
 have rz := OR4.lt
 go_wp2_with fail
 generalize hS : World.setCell (World.setCell (World.setCell (World.setCell (World.setCell v13 _ _) _ _) _ _) _ _) _ _ = W9
 obtain ⟨O9, T9⟩ := own5m OR4 (.string x.selector) (.bool x.cls) (.slice b1 x.params.length k1) (.slice b2 x.temps.length k2) (.slice b3 x.body.length k3)
 rw [hS] at O9 T9
 clear hS
 have p0 := O9.k0
 have p1 := O9.k1
 have p2 := O9.k2
 have p3 := O9.k3
 have p4 := O9.k4
 have pz := O9.lt
 have T89 : Touch w13 W9 [w.heap.size, w.heap.size + 1] := (TT3.mono (by simp)).trans (T9.mono (by simp))
 have n1 : ∀ k, k ∈ g1_ -> k ∉ [w.heap.size, w.heap.size + 1] := fun k hk hm => by have := HF1.out.ge k hk; simp at hm; omega
 have n2 : ∀ k, k ∈ g2_ -> k ∉ [w.heap.size, w.heap.size + 1] := fun k hk hm => by have := HF2.out.ge k hk; simp at hm; omega
 have n3 : ∀ k, k ∈ g3_ -> k ∉ [w.heap.size, w.heap.size + 1] := fun k hk hm => by have := HF3.out.ge k hk; simp at hm; omega
 have RN := HP3.out.touch T89 n1
 have RT := HT3.out.touch T89 n2
 have RB := HR3.out.touch T89 n3
 have R9 := MMethod.shut (x := x) RN RT RB
 rw [List.append_nil] at R9
 have F1 := FP3.out.touch T89 n1
 have F2 := FT3.out.touch T89 n2
 have F3 := HF3.out.touch T89 n3
 have F : Fresh W9 w.heap.size (g1_ ++ (g2_ ++ g3_)) := (F1.mono (by omega)).join (F2.join F3 (fun k hk => by have := HG2.out k hk; omega) (by omega)) (fun k hk => by have := HG1.out k hk; omega) (by omega)
 have FIN : GivesS w x.d (.returned (.agg #[.string x.selector, .bool x.cls, .slice b1 x.params.length k1, .slice b2 x.temps.length k2, .slice b3 x.body.length k3])) W9 := ⟨_, g1_ ++ (g2_ ++ g3_), rfl, R9, F, Touch.ext hx13 T89 (fun k hk => by simp at hk; omega)⟩
 exact bodyPost_ret (v := .agg #[.string x.selector, .bool x.cls, .slice b1 x.params.length k1, .slice b2 x.temps.length k2, .slice b3 x.body.length k3]) (by simp [results, Tryz.results50, go_sem, p0, p1, p2, p3, p4, pz]) rfl FIN
end Go.Proofs.YtlcebafhbceejaaGreatDoor
