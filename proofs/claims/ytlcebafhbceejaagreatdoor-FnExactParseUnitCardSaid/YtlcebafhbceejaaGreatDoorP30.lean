/-
  CONTRACTS: ParseUnit, of the program and of the reference.
  Conditions: those that each lemma states.
-/
import Derived.Test.YtlcebafhbceejaaGreatDoorRows
import Derived.Test.YtlcebafhbceejaaGreatDoorP24
import Derived.Test.YtlcebafhbceejaaGreatDoorP28
import Derived.Test.YtlcebafhbceejaaGreatDoorP29
namespace Go.Proofs.YtlcebafhbceejaaGreatDoor
open Go.RowKit
set_option maxHeartbeats 8000000
set_option maxRecDepth 100000
set_option linter.unusedSimpArgs false
set_option linter.unusedVariables false
def GivesU (w : World) (s : ByteArray) (e : Ending) (w' : World) : Prop := ∃ cs fp, e = .returned (.tuple #[.agg (List.toArray cs), .bool (parseU s).isSome]) /\ RepF w' ((parseU s).getD zU).d cs fp /\ Fresh w' w.heap.size fp /\ Ext w w'
def GivesUs (w : World) (s : ByteArray) (e : Ending) (w' : World) : Prop := ∃ cs fp, e = .returned (.tuple #[.agg (List.toArray cs), .bool (parseU s).isSome]) /\ RepF w' ((parseU s).getD zU).d cs fp /\ (∀ k, k ∈ fp -> w.heap.size <= k) /\ Ext w w'
theorem gotU_no {s : ByteArray} {ts : List MToken} {ok b' : Bool} {x : MUnit} {a' : Nat} (hok : (toksL s).isSome = ok) (hts : (toksL s).getD [] = ts) (hg : Got (!ok) (fun n => pUnit ts n 0) b' (x, a')) (hn : ¬ (b' = false /\ a' = ts.length)) : parseU s = none := by
 cases ht : toksL s with
 | none => exact parseU_no1 ht
 | some us =>
  rw [ht] at hok hts
  subst hok
  have hts : us = ts := hts
  subst hts
  cases b' with
  | true => exact parseU_no2 ht (hg.no rfl rfl)
  | false => exact parseU_no3 ht (hg.yes rfl rfl) (Or.inl (fun h => hn ⟨rfl, h⟩))
theorem gotU_yes {s : ByteArray} {ts : List MToken} {ok b' : Bool} {x : MUnit} {a' : Nat} (hok : (toksL s).isSome = ok) (hts : (toksL s).getD [] = ts) (hg : Got (!ok) (fun n => pUnit ts n 0) b' (x, a')) (hb : b' = false) (ha : a' = ts.length) :
 ok = true /\ x.d.bulk <= 1048576 /\ (UnitOk x -> parseU s = some x) /\ (¬ UnitOk x -> parseU s = none) := by
 subst hb
 subst ha
 cases ht : toksL s with
 | none =>
  rw [ht] at hok
  subst hok
  have := hg.keep rfl
  cases this
 | some us =>
  rw [ht] at hok hts
  subst hok
  have hts : us = ts := hts
  subst hts
  have he := hg.yes rfl rfl
  obtain ⟨h1, h2⟩ := toks_sum ht
  exact ⟨rfl, evu_bulk h1 h2 he (by omega), fun h => parseU_yes ⟨us, ht, he, h⟩, fun h => parseU_no3 ht he (Or.inr h)⟩
theorem rep_nilC (w : World) : RepF w (MClassDefs []) [.slice none 0 0] [] := RepF.sl_iff.2 ⟨none, 0, rfl, by simp, by unfold maxLen; omega, by simp, Or.inl ⟨rfl, rfl⟩⟩
theorem zU_rep (w : World) : RepF w zU.d [.slice none 0 0, .string ⟨#[]⟩, .bool false, .slice none 0 0, .slice none 0 0, .slice none 0 0] [] := MUnit.shut (x := zU) (rep_nilC w) (MMethod.shut (x := ⟨⟨#[]⟩, false, [], [], []⟩) (rep_nilT w) (rep_nilT w) (rep_nilX w))
theorem impl_ParseUnit_any (s : ByteArray) (w : World) (hs : s.size <= 1048576) (hM : MaxOk w) : Calls Tryz.prog 5 #[.string s] w (GivesU w s) := by
 go_enter Tryz.func5, Tryz.ntmps5
 go_upto_region 1 with fail
 generalize hS : World.alloc w _ = W1
 have x1 : Ext w W1 := by rw [<- hS]; exact (XR _).alloc _
 have O1 : Own W1 w.heap.size 28 #[.slice none 0 0, .string ⟨#[]⟩, .bool false, .slice none 0 0, .slice none 0 0, .slice none 0 0] := by rw [<- hS]; exact own_new w _ _
 clear hS
 have HM := LH (hM.ext x1)
 go_wp2_with fail
 refine (impl_Tokens_any s W1 hs HM.out).mono ?_
 rintro e w2 ⟨ao, n, cap, fp, rfl, hr, hf, hx⟩
 have O2 := O1.ext hx
 have HX2 := LH (x1.trans hx)
 obtain ⟨ok, hok⟩ : ∃ b, (toksL s).isSome = b := ⟨_, rfl⟩
 obtain ⟨ts, hts⟩ : ∃ l, (toksL s).getD [] = l := ⟨_, rfl⟩
 rw [hok]
 have HOK := LH hok
 have HTS := LH hts
 have HR := LH hr
 have hro := O1.lt
 have hs1 := x1.size
 have hs2 := hx.size
 clear hok hts hr hf hx x1 O1
 go_upto_region 3 with fail
 generalize hS : World.alloc w2 _ = W3
 have x3 : Ext w2 W3 := by rw [<- hS]; exact (XR _).alloc _
 have OB : Own W3 w2.heap.size 51 #[.slice ao n cap, .int .i64 0, .bool (!ok)] := by rw [<- hS]; exact own_new w2 _ _
 have O3 := O2.ext x3
 have HX3 := LH (HX2.out.trans x3)
 have hs3 := x3.size
 obtain ⟨hn, tb, to_, HP⟩ := Prs.make (s := s) HR.out x3 (Nat.le_refl _) OB
 rw [HTS.out] at HP hn
 subst hn
 have hb3 := OB.lt
 clear hS O2 HR x3 OB
 generalize hB : w2.heap.size = B at *
 clear hB
 have HP3 := LH HP
 have HP := HP3
 go_upto_block 0 with fail
 generalize hS : World.alloc W3 _ = W4
 have x4 : Ext W3 W4 := by rw [<- hS]; exact (XR _).alloc _
 have OU4 : Own W4 W3.heap.size 28 #[.slice none 0 0, .string maW, .bool false, .slice none 0 0, .slice none 0 0, .slice none 0 0] := by rw [<- hS]; exact own_new W3 _ _
 have OR4 := O3.ext x4
 have HP4 := LH (HP3.out.ext x4)
 have HX4 := LH (HX3.out.trans x4)
 have hs4 := x4.size
 have hu4 := OU4.lt
 have hB3 := HP3.out.own.lt
 clear hS HP3 HX3 O3 x4
 generalize hub : W3.heap.size = ub at *
 generalize hmb : W4.heap.size = mb at *
 go_cut [] (fun wx => ∃ (l : List MClassDef) (vc : Value) (j : Nat) (bj : Bool), Own wx ub 28 #[vc, .string maW, .bool false, .slice none 0 0, .slice none 0 0, .slice none 0 0] /\ AccC mb wx vc l /\ Prs 51 B tb to_ cap ao ts wx (j) bj /\ Got (!ok) (fun n => pCs ts n [] 0) bj (l, j) /\ Own wx w.heap.size 28 #[.slice none 0 0, .string ⟨#[]⟩, .bool false, .slice none 0 0, .slice none 0 0, .slice none 0 0] /\ Ext w wx /\ mb <= wx.heap.size)
 case first =>
  go_wp2_with fail
  go_loopw [] (fun wr => ∃ (l : List MClassDef) (vc : Value) (j : Nat) (bj : Bool), Own wr ub 28 #[vc, .string maW, .bool false, .slice none 0 0, .slice none 0 0, .slice none 0 0] /\ AccC mb wr vc l /\ Prs 51 B tb to_ cap ao ts wr (j) bj /\ Hid (Todo (!ok) (fun n => pCs ts n [] 0) bj (fun n => pCs ts n l j)) /\ (l.length <= 802 /\ (bj = false -> l.length <= j)) /\ Own wr w.heap.size 28 #[.slice none 0 0, .string ⟨#[]⟩, .bool false, .slice none 0 0, .slice none 0 0, .slice none 0 0] /\ Ext w wr /\ mb <= wr.heap.size) (fun wr => leftOf B ts.length wr)
  case atStart => exact ⟨[], .slice none 0 0, 0, (!ok), OU4, Acw.nil _ _ _ _, HP4.out, LH (Todo.refl (!ok) (fun n => pCs ts n [] 0)), ⟨by simp, by simp⟩, OR4, HX4.out, by omega⟩
  case round =>
   clear OU4 OR4 HP4 HX4
   obtain ⟨l, vc, j, bj, hU, hA, hp, HTDj, ⟨hl2, hlj⟩, hR, hx, hmr⟩ := hrel
   have HA := LH hA
   have HPj := LH hp
   have HPM := LH hp
   have HX := LH hx
   obtain ⟨d0, d1, d2⟩ := hp.cells
   have zB := lt_of_cell d0
   have hws := hx.size
   have hcwr := hU.lt
   clear hA hp hx
   cases bj
   rotate_left
   · go_wp2_with fail
     go_meet
     exact ⟨l, vc, j, true, hU, HA.out, HPj.out, HTDj.out.dead _, hR, HX.out, hmr⟩
   have hjl := HPj.out.ok rfl
   have hln := HPj.out.len
   have hlj := hlj rfl
   cases hc : tkxB ts j 8 clW
   · have HI := LH (eat_no wr HPj.out 8 clW (by decide) hc)
     have HTD2 : Hid (Got (!ok) (fun n => pCs ts n [] 0) false (l, j)) := LH (HTDj.out.done (fun n => by rw [pCs, if_neg (by rw [hc]; decide)]))
     clear hc
     go_wp2_with fail
     refine HI.out.mono ?_
     rintro e w1 ⟨rfl, K1, T1⟩
     have UW := hU.touch' T1 (by simp; omega)
     have RW := hR.touch' T1 (by simp; omega)
     have AW := Acw.touch HA.out T1 (fun k hk => by simp at hk; omega)
     have PW := K1
     have XW := Touch.ext HX.out T1 (fun k hk => by simp at hk; omega)
     have hs1 := T1.size
     go_wp2_with fail
     go_meet
     exact ⟨l, vc, j, false, UW, AW, PW, HTD2.out, RW, XW, by omega⟩
   · have HI := LH (eat_yes wr HPj.out 8 clW (by decide) hc)
     have HTD2 : Hid (Todo (!ok) (fun n => pCs ts n [] 0) false (fun n => (pClass ts n (j + 1)).bind fun m => pCs ts n (l ++ [m.1]) m.2)) := LH (HTDj.out.step (fun n => by rw [pCs, if_pos hc]))
     clear hc
     go_wp2_with fail
     refine HI.out.mono ?_
     rintro e w1 ⟨rfl, K1, T1⟩
     have HO1 := LH (hU.touch' T1 (by simp; omega))
     have HR1 := LH (hR.touch' T1 (by simp; omega))
     have HA1 := LH (Acw.touch HA.out T1 (fun k hk => by simp at hk; omega))
     have HP1 := LH K1
     have HX1 : Hid (Ext w w1) := LH (Touch.ext HX.out T1 (fun k hk => by simp at hk; omega))
     have hs1 := T1.size
     clear hU hR HA HPj HX K1 T1 HTDj HI d0 d1 d2 zB
     go_wp2_with fail
     have b4 : w1.cell? ⟨ub, 0, none⟩ = some vc := HO1.out.cell 0
     have bz := HO1.out.lt
     have HC := LH (fun (W : World) (hW : Ext w1 W) => class_any W (HP1.out.ext hW))
     have HOX := LH (fun (W : World) (w2 : World) (hW : Ext w1 W) (T : Touch W w2 [B]) => (HO1.out.ext hW).touch' T (by simp; omega))
     have HMX := LH (fun (W : World) (w2 : World) (hW : Ext w1 W) (T : Touch W w2 [B]) => Acw.touch (Acw.ext HA1.out hW) T (fun k hk => by simp at hk; omega))
     have HSZ := LH (fun (W : World) (w2 : World) (hW : Ext w1 W) (T : Touch W w2 [B]) => Nat.le_trans hW.size T.size)
     have HFX : Hid (∀ W : World, Ext w1 W -> ∀ k, W.heap.size <= k -> mb <= k) := LH (fun W hW k hk => by have := hW.size; omega)
     have HOB : Hid (∀ k, vc.ownBlock = some k -> mb <= k /\ k < w1.heap.size) := LH (fun k hk => Acw.ge HA1.out hk)
     go_region_law ((first
      | (refine step_append_c rfl _ _ rfl mb vc l rfl (Acw.ext (HMX.out _ w2 (Ext.drew (XR _)) T2) ((XR _).alloc _)) [y] _ _ _ (w2.heap.size :: gp) rfl (one_of (R2.ext ((XR _).alloc _)) rfl (own_new w2 _ _) (by decide)) (fun k hk => HFX.out _ (Ext.drew (XR _)) k (F2 k hk)) (fun k hk hm => by have h1 := (HOB.out k hk).2; have h2 := F2 k hm; have h3 := (Ext.drew (XR w1)).size; omega) (by simp; omega) (by have h2 := HSZ.out _ w2 (Ext.drew (XR _)) T2; have h3 := (XR w2).alloc (Obj.cells #[.string y.name, .string y.parent, .slice z1 y.fields.length z2, .slice z3 y.methods.length z4] 43); have h4 := h3.size; omega) ?_; intro ao2 cap2 w7 ac hg hloc; have TG : Touch _ w7 vc.ownBlock.toList := (Touch.of_ext (XR _) _).grown hg (fun k hk => Or.inl (by simp [hk])); have O7 := ((HOX.out _ w2 (Ext.drew (XR _)) T2).ext ((XR _).alloc _)).touch' TG (fun hm => by have := (HOB.out ub (by simpa using hm)).1; omega); have c7 := O7.cell 0; have f7 := O7.f0; have z7 := O7.lt)
      | (go_simp; go_wp2_with ((refine (HC.out _ (by first | exact Ext.drew (XR _) | exact XR _)).mono ?_; rintro e w2 ⟨y, ds, gp, j2, bj2, rfl, R2, F2, K2, g2, m2, T2⟩; obtain ⟨z1, z2, z3, z4, rfl⟩ := MClassDef.op_e2 R2; have b42 : w2.cell? ⟨ub, 0, none⟩ = some vc := (HOX.out _ w2 (Ext.drew (XR _)) T2).cell 0; have bz2 := (HOX.out _ w2 (Ext.drew (XR _)) T2).lt)))))
     all_goals
      have hsz2 := HSZ.out _ w2 (Ext.drew (XR _)) T2
      have HTD3 := LH (HTD2.out.call0 g2 (g := fun n m => pCs ts n (l ++ [m.1]) m.2) (fun n => rfl))
      have Ta : Touch w2 w7 vc.ownBlock.toList := (Touch.of_ext ((XR _).alloc _) _).trans TG
      generalize hv1 : Value.slice ao2 (l.length + [y].length) cap2 = v1 at *
      generalize hS : World.setCell w7 _ v1 = W9
      have Tb : Touch w7 W9 [ub] := by rw [<- hS]; exact (Touch.of_ext (XR _) _).setCell (by simp) _
      have O9 : Own W9 ub 28 #[v1, .string maW, .bool false, .slice none 0 0, .slice none 0 0, .slice none 0 0] := by rw [<- hS]; exact O7.set 0 v1
      have M9 : AccC mb W9 v1 (l ++ [y]) := Acw.touch ac Tb (fun k hk => by simp at hk; omega)
      have T7 : Touch w2 W9 (ub :: vc.ownBlock.toList) := (Ta.mono (fun k hk => List.mem_cons_of_mem _ hk)).trans (Tb.mono (fun k hk => by simp at hk; simp [hk]))
      have hF7 : ∀ k, k ∈ ub :: vc.ownBlock.toList -> ub <= k := fun k hk => by
       rcases List.mem_cons.1 hk with rfl | hk
       · exact Nat.le_refl _
       · have := (HOB.out k (by simpa using hk)).1; omega
      have P9 := HP.out.late K2 T7 (fun k hk => by have := hF7 k hk; omega)
      have OR9 := ((HR1.out.ext (Ext.drew (XR _))).touch' T2 (by simp; omega)).touch' T7 (fun hm => by have := hF7 _ hm; omega)
      have hsz9 := T7.size
      have X9 : Ext w W9 := Touch.ext (Touch.ext (HX1.out.trans (Ext.drew (XR _))) T2 (fun k hk => by simp at hk; omega)) T7 (fun k hk => by have := hF7 k hk; omega)
      have HP9 := LH P9
      have HOR9 := LH OR9
      have HM9 := LH M9
      have HX9 := LH X9
      have HO9 := LH O9
      clear hS Ta Tb O9 M9 T7 hF7 P9 OR9 X9 ac hg hloc TG O7 c7 f7 z7 K2 T2 b42 bz2 b4 bz HC HMX HOX HSZ HFX HOB HO1 HR1 HA1 HX1 HP1 R2 F2 g2 HTD2 hv1
      go_wp2_with fail
      refine ⟨⟨l ++ [y], v1, j2, bj2, HO9.out, HM9.out, HP9.out, HTD3, ⟨by simp; omega, fun h => by simp; omega⟩, HOR9.out, HX9.out, by omega⟩, ?_⟩
      rw [left_ok HPM.out]
      cases bj2
      · rw [left_ok HP9.out]; have := HP9.out.le; omega
      · rw [left_bad HP9.out]; omega
 case rest =>
  obtain ⟨l, vc, j, bj, OU, A_, K_, hgc, OR, X_, hmr⟩ := hcut
  have HTDj := (Todo.refl (!ok) (fun n => pUnit ts n 0)).call0 hgc (g := fun n (c : List MClassDef × Nat) => pMn ts n c.1 c.2) (fun n => rfl)
  obtain ⟨t0, j1, b1, HC1, HTD1⟩ : ∃ (t0 : Value) (j1 : Nat) (b1 : Bool), Hid (∀ W, Prs 51 B tb to_ cap ao ts W (j) bj -> Calls Tryz.prog 19 #[.pointer (some ⟨B, 0, none⟩), .int .i64 8, .string maW] W (fun e w' => e = .returned t0 /\ Prs 51 B tb to_ cap ao ts w' (j1) b1 /\ Touch W w' [B])) /\ Hid (Todo (!ok) (fun n => pUnit ts n 0) b1 (fun n => (pVS ts n j1).bind fun v => some (⟨l, ⟨maW, false, [], v.1, v.2.1⟩⟩, v.2.2))) := by
   cases he : tkxB ts j 8 maW
   · exact ⟨.tuple #[], j, true, LH (fun W hW => want_no W hW 8 maW (by decide) he), LH (HTDj.badly0 (fun n => by unfold pMn; rw [if_neg (by rw [he]; decide)]))⟩
   · exact ⟨.tuple #[], j + 1, bj, LH (fun W hW => want_yes W hW 8 maW (by decide) he), LH (HTDj.eq0 (fun n => by unfold pMn; exact if_pos he))⟩
  have hws := X_.size
  have hcz := OU.lt
  have HA := LH A_
  have HPj := LH K_
  have HX := LH X_
  clear A_ K_ X_ HTDj hgc OU4 OR4 HP4 HX4
  go_wp2_with fail
  refine (HC1.out _ HPj.out).mono ?_
  rintro e w6 ⟨rfl, K6, T6⟩
  have OU6 := OU.touch' T6 (by simp; omega)
  have OR6 := OR.touch' T6 (by simp; omega)
  have HA6 := LH (Acw.touch HA.out T6 (fun k hk => by simp at hk; omega))
  have HP6 := LH K6
  have HX6 : Hid (Ext w w6) := LH (Touch.ext HX.out T6 (fun k hk => by simp at hk; omega))
  have hs6 := T6.size
  clear K6 T6 OU OR HA HPj HX HC1
  have HBO := LH (bodyU_any w6 HP6.out OU6 (by omega) (fun h0 => by have := HP.out.tl h0; omega))
  go_wp2_with fail
  refine HBO.out.mono ?_
  rintro e w7 ⟨lt, lb, vt, vb, j2, b2, rfl, OU7, AT, AB, K7, g7, hj2, hlt, T7⟩
  obtain ⟨vc1, vc2, gc, rfl, rC, fC⟩ := AccC.rep (Acw.touch HA6.out T7 (fun k hk => by simp at hk; omega))
  obtain ⟨vt1, vt2, gt, rfl, rT, fT⟩ := AccT.rep AT
  obtain ⟨vb1, vb2, gb, rfl, rB, fB⟩ := AccX.rep AB
  have OR7 := OR6.touch' T7 (by simp; omega)
  have HX7 : Hid (Ext w w7) := LH (Touch.ext HX6.out T7 (fun k hk => by simp at hk; omega))
  have HP7 := LH K7
  have HGX := LH ((HTD1.out.call0 g7 (g := fun n v => some ((⟨l, ⟨maW, false, [], v.1, v.2.1⟩⟩ : MUnit), v.2.2)) (fun n => rfl)).done0 (y := ((⟨l, ⟨maW, false, [], lt, lb⟩⟩ : MUnit), j2)) (fun n => rfl))
  have hs7 := T7.size
  obtain ⟨x, hxx⟩ : ∃ x : MUnit, x = ⟨l, ⟨maW, false, [], lt, lb⟩⟩ := ⟨_, rfl⟩
  obtain ⟨W5, hW5⟩ : ∃ W, W = w7 := ⟨_, rfl⟩
  subst hW5
  obtain ⟨y1, y2, y3, y4, y5, y6, y7, y8, fp, OE, hR5, hfp⟩ : ∃ y1 y2 y3 y4 y5 y6 y7 y8 fp, Own W5 ub 28 #[.slice y1 x.classes.length y2, .string x.main.selector, .bool x.main.cls, .slice y3 x.main.params.length y4, .slice y5 x.main.temps.length y6, .slice y7 x.main.body.length y8] /\ RepF W5 x.d [.slice y1 x.classes.length y2, .string x.main.selector, .bool x.main.cls, .slice y3 x.main.params.length y4, .slice y5 x.main.temps.length y6, .slice y7 x.main.body.length y8] fp /\ ∀ k, k ∈ fp -> mb <= k := by
   rw [hxx]
   exact ⟨vc1, vc2, none, 0, vt1, vt2, vb1, vb2, _, OU7, MUnit.shut (x := ⟨l, ⟨maW, false, [], lt, lb⟩⟩) rC (MMethod.shut (x := ⟨maW, false, [], lt, lb⟩) (rep_nilT _) rT rB), fun k hk => by simp only [List.mem_append, List.not_mem_nil, or_false, false_or] at hk; rcases hk with hk | hk | hk; exact fC k hk; (have := fT.ge k hk; omega); (have := fB k hk; omega)⟩
  have O5 : Own W5 w.heap.size 28 #[.slice none 0 0, .string ⟨#[]⟩, .bool false, .slice none 0 0, .slice none 0 0, .slice none 0 0] := OR7
  have HP5 := HP7
  have HX5 := HX7
  rw [<- hxx] at HGX
  have HG := HGX
  have HR5 := LH hR5
  have HF5 := LH hfp
  clear OU7 OR7 HP7 HX7 HGX rC rT rB fC fT fB T7 K7 g7 AT AB HA6 OU6 OR6 HP6 HX6 HBO HTD1 hxx hR5 hfp
  generalize hb' : b2 = b' at *
  generalize ha' : j2 = a' at *
  clear hb' ha'
  obtain ⟨eb, heb⟩ : ∃ n, n = ub := ⟨_, rfl⟩
  subst heb
  have HD := LH (done_any W5 HP5.out)
  by_cases hd : b' = false /\ a' = ts.length
  rotate_left
  · have HN := LH (gotU_no HOK.out HTS.out HG.out hd)
    have hv : (!b' && decide (a' = ts.length)) = false := by
     cases b' with
     | true => rfl
     | false => simpa using fun h => hd ⟨rfl, h⟩
    rw [hv] at HD
    clear hd hv
    go_wp2_with fail
    refine HD.out.mono ?_
    rintro e w6 ⟨rfl, hx6⟩
    have O6 := O5.ext hx6
    have HX6 := LH (HX5.out.trans hx6)
    clear hx6 O5
    have o0 := O6.k0
    have of0 := O6.f0
    have o1 := O6.k1
    have of1 := O6.f1
    have o2 := O6.k2
    have of2 := O6.f2
    have o3 := O6.k3
    have of3 := O6.f3
    have o4 := O6.k4
    have of4 := O6.f4
    have o5 := O6.k5
    have of5 := O6.f5
    have oz := O6.lt
    go_wp2_with fail
    generalize hS : World.setCell (World.setCell (World.setCell (World.setCell (World.setCell (World.setCell w6 _ _) _ _) _ _) _ _) _ _) _ _ = W9
    obtain ⟨O9, T9⟩ := own6u O6 (.slice none 0 0) (.string ⟨#[]⟩) (.bool false) (.slice none 0 0) (.slice none 0 0) (.slice none 0 0)
    rw [hS] at O9 T9
    clear hS
    have p0 := O9.k0
    have p1 := O9.k1
    have p2 := O9.k2
    have p3 := O9.k3
    have p4 := O9.k4
    have p5 := O9.k5
    have pz := O9.lt
    have FIN : GivesU w s (.returned (.tuple #[.agg #[.slice none 0 0, .string ⟨#[]⟩, .bool false, .slice none 0 0, .slice none 0 0, .slice none 0 0], .bool false])) W9 := ⟨_, [], by rw [HN.out]; rfl, by rw [HN.out]; exact zU_rep W9, Fresh.nil _ _, Touch.ext HX6.out T9 (fun k hk => by simp at hk; omega)⟩
    exact bodyPost_ret (v := .tuple #[.agg #[.slice none 0 0, .string ⟨#[]⟩, .bool false, .slice none 0 0, .slice none 0 0, .slice none 0 0], .bool false]) (by simp [results, Tryz.results5, go_sem, p0, p1, p2, p3, p4, p5, pz]) rfl FIN
  obtain ⟨-, hbk, hy, hn⟩ := gotU_yes HOK.out HTS.out HG.out hd.1 hd.2
  have hv : (!b' && decide (a' = ts.length)) = true := by rw [hd.1, decide_eq_true hd.2]; rfl
  rw [hv] at HD
  have HY := LH hy
  have HNO := LH hn
  clear hd hv hy hn HG
  have q0 := OE.k0
  have qf0 := OE.f0
  have q1 := OE.k1
  have qf1 := OE.f1
  have q2 := OE.k2
  have qf2 := OE.f2
  have q3 := OE.k3
  have qf3 := OE.f3
  have q4 := OE.k4
  have qf4 := OE.f4
  have q5 := OE.k5
  have qf5 := OE.f5
  have qz := OE.lt
  go_wp2_with fail
  refine HD.out.mono ?_
  rintro e w6 ⟨rfl, hx6⟩
  have O6 := O5.ext hx6
  have OE6 := OE.ext hx6
  have HX6 := LH (HX5.out.trans hx6)
  have HR6 := LH (HR5.out.ext hx6)
  have HM6 := LH (hM.ext HX6.out)
  have hs6 := hx6.size
  clear hx6 O5 OE HD q0 qf0 q1 qf1 q2 qf2 q3 qf3 q4 qf4 q5 qf5 qz
  have q0 := OE6.k0
  have qf0 := OE6.f0
  have q1 := OE6.k1
  have qf1 := OE6.f1
  have q2 := OE6.k2
  have qf2 := OE6.f2
  have q3 := OE6.k3
  have qf3 := OE6.f3
  have q4 := OE6.k4
  have qf4 := OE6.f4
  have q5 := OE6.k5
  have qf5 := OE6.f5
  have qz := OE6.lt
  have HI := LH (impl_IsUnit_any x _ w6 HR6.out.rep hbk HM6.out)
  by_cases hk : UnitOk x
  rotate_left
  · have HN := LH (HNO.out hk)
    rw [prB_ff hk] at HI
    clear hk
    go_wp2_with fail
    refine HI.out.mono ?_
    rintro e w7 ⟨rfl, hx7⟩
    have O7 := O6.ext hx7
    have HX7 := LH (HX6.out.trans hx7)
    clear hx7 O6 OE6 q0 qf0 q1 qf1 q2 qf2 q3 qf3 q4 qf4 q5 qf5 qz
    have o0 := O7.k0
    have of0 := O7.f0
    have o1 := O7.k1
    have of1 := O7.f1
    have o2 := O7.k2
    have of2 := O7.f2
    have o3 := O7.k3
    have of3 := O7.f3
    have o4 := O7.k4
    have of4 := O7.f4
    have o5 := O7.k5
    have of5 := O7.f5
    have oz := O7.lt
    go_wp2_with fail
    generalize hS : World.setCell (World.setCell (World.setCell (World.setCell (World.setCell (World.setCell w7 _ _) _ _) _ _) _ _) _ _) _ _ = W9
    obtain ⟨O9, T9⟩ := own6u O7 (.slice none 0 0) (.string ⟨#[]⟩) (.bool false) (.slice none 0 0) (.slice none 0 0) (.slice none 0 0)
    rw [hS] at O9 T9
    clear hS
    have p0 := O9.k0
    have p1 := O9.k1
    have p2 := O9.k2
    have p3 := O9.k3
    have p4 := O9.k4
    have p5 := O9.k5
    have pz := O9.lt
    have FIN : GivesU w s (.returned (.tuple #[.agg #[.slice none 0 0, .string ⟨#[]⟩, .bool false, .slice none 0 0, .slice none 0 0, .slice none 0 0], .bool false])) W9 := ⟨_, [], by rw [HN.out]; rfl, by rw [HN.out]; exact zU_rep W9, Fresh.nil _ _, Touch.ext HX7.out T9 (fun k hk => by simp at hk; omega)⟩
    exact bodyPost_ret (v := .tuple #[.agg #[.slice none 0 0, .string ⟨#[]⟩, .bool false, .slice none 0 0, .slice none 0 0, .slice none 0 0], .bool false]) (by simp [results, Tryz.results5, go_sem, p0, p1, p2, p3, p4, p5, pz]) rfl FIN
  have HN := LH (HY.out hk)
  rw [prB_tt hk] at HI
  clear hk
  go_wp2_with fail
  refine HI.out.mono ?_
  rintro e w7 ⟨rfl, hx7⟩
  have O7 := O6.ext hx7
  have OE7 := OE6.ext hx7
  have HX7 := LH (HX6.out.trans hx7)
  have HR7 := LH (HR6.out.ext hx7)
  have hs7 := hx7.size
  clear hx7 O6 OE6 HI q0 qf0 q1 qf1 q2 qf2 q3 qf3 q4 qf4 q5 qf5 qz
  have q0 := OE7.k0
  have qf0 := OE7.f0
  have q1 := OE7.k1
  have qf1 := OE7.f1
  have q2 := OE7.k2
  have qf2 := OE7.f2
  have q3 := OE7.k3
  have qf3 := OE7.f3
  have q4 := OE7.k4
  have qf4 := OE7.f4
  have q5 := OE7.k5
  have qf5 := OE7.f5
  have qz := OE7.lt
  go_wp2_with fail
  refine (copyUnit_any x _ w7 HR7.out.rep hbk).mono ?_
  rintro e w8 ⟨cs8, fp8, rfl, r8, f8, hx8⟩
  obtain ⟨u1, u2, u3, u4, u5, u6, u7, u8, rfl⟩ := MUnit.op_e2 r8
  have O8 := O7.ext hx8
  have HX8 := LH (HX7.out.trans hx8)
  have HR8 := LH r8
  have HF8 := LH f8
  have hs8 := hx8.size
  clear r8 f8 hx8 O7 OE7 q0 qf0 q1 qf1 q2 qf2 q3 qf3 q4 qf4 q5 qf5 qz
  have o0 := O8.k0
  have of0 := O8.f0
  have o1 := O8.k1
  have of1 := O8.f1
  have o2 := O8.k2
  have of2 := O8.f2
  have o3 := O8.k3
  have of3 := O8.f3
  have o4 := O8.k4
  have of4 := O8.f4
  have o5 := O8.k5
  have of5 := O8.f5
  have oz := O8.lt
  go_wp2_with fail
  generalize hS : World.setCell (World.setCell (World.setCell (World.setCell (World.setCell (World.setCell w8 _ _) _ _) _ _) _ _) _ _) _ _ = W9
  obtain ⟨O9, T9⟩ := own6u O8 (.slice u1 x.classes.length u2) (.string x.main.selector) (.bool x.main.cls) (.slice u3 x.main.params.length u4) (.slice u5 x.main.temps.length u6) (.slice u7 x.main.body.length u8)
  rw [hS] at O9 T9
  clear hS
  have p0 := O9.k0
  have p1 := O9.k1
  have p2 := O9.k2
  have p3 := O9.k3
  have p4 := O9.k4
  have p5 := O9.k5
  have pz := O9.lt
  have hge : ∀ k, k ∈ fp8 -> k ∉ [w.heap.size] := fun k hk hm => by have := HF8.out.ge k hk; simp at hm; omega
  have FIN : GivesU w s (.returned (.tuple #[.agg #[.slice u1 x.classes.length u2, .string x.main.selector, .bool x.main.cls, .slice u3 x.main.params.length u4, .slice u5 x.main.temps.length u6, .slice u7 x.main.body.length u8], .bool true])) W9 := ⟨_, fp8, by rw [HN.out]; rfl, by rw [HN.out]; exact HR8.out.touch T9 hge, (HF8.out.touch T9 hge).mono (by omega), Touch.ext HX8.out T9 (fun k hk => by simp at hk; omega)⟩
  exact bodyPost_ret (v := .tuple #[.agg #[.slice u1 x.classes.length u2, .string x.main.selector, .bool x.main.cls, .slice u3 x.main.params.length u4, .slice u5 x.main.temps.length u6, .slice u7 x.main.body.length u8], .bool true]) (by simp [results, Tryz.results5, go_sem, p0, p1, p2, p3, p4, p5, pz]) rfl FIN
theorem spec_ParseUnit_any (s : ByteArray) (w : World) (hs : s.size <= 1048576) : Calls Tryz.prog 4 #[.string s] w (GivesUs w s) := by
 go_enter Tryz.func4, Tryz.ntmps4
 go_upto_region 1 with fail
 generalize hS : World.alloc w _ = W1
 have x1 : Ext w W1 := by rw [<- hS]; exact (XR _).alloc _
 have O1 : Own W1 w.heap.size 28 #[.slice none 0 0, .string ⟨#[]⟩, .bool false, .slice none 0 0, .slice none 0 0, .slice none 0 0] := by rw [<- hS]; exact own_new w _ _
 clear hS
 go_wp2_with fail
 refine (spec_Tokens_any s W1 hs).mono ?_
 rintro e w2 ⟨ao, n, cap, fp, rfl, hr, hf, hx⟩
 have O2 := O1.ext hx
 have HX2 := LH (x1.trans hx)
 obtain ⟨ok, hok⟩ : ∃ b, (toksL s).isSome = b := ⟨_, rfl⟩
 obtain ⟨ts, hts⟩ : ∃ l, (toksL s).getD [] = l := ⟨_, rfl⟩
 rw [hok]
 have HOK := LH hok
 have HTS := LH hts
 have HR := LH hr
 have hro := O1.lt
 have hs1 := x1.size
 have hs2 := hx.size
 clear hok hts hr hf hx x1 O1
 go_upto_region 3 with fail
 generalize hS : World.alloc w2 _ = W3
 have x3 : Ext w2 W3 := by rw [<- hS]; exact (XR _).alloc _
 have OB : Own W3 w2.heap.size 38 #[.slice ao n cap, .int .i64 0, .bool false] := by rw [<- hS]; exact own_new w2 _ _
 have O3 := O2.ext x3
 have HX3 := LH (HX2.out.trans x3)
 have hs3 := x3.size
 obtain ⟨hn, tb, to_, hp⟩ := Prs.make (s := s) HR.out x3 (Nat.le_refl _) OB
 rw [HTS.out] at hp hn
 subst hn
 have hb3 := OB.lt
 clear hS O2 HR x3 OB
 generalize hB : w2.heap.size = B at *
 clear hB
 have HP3 := LH hp
 clear hp
 have HP := HP3
 go_upto_region 4 with fail
 generalize hS : World.alloc W3 _ = W4
 have x4 : Ext W3 W4 := by rw [<- hS]; exact (XR _).alloc _
 have OU4 : Own W4 W3.heap.size 28 #[.slice none 0 0, .string maW, .bool false, .slice none 0 0, .slice none 0 0, .slice none 0 0] := by rw [<- hS]; exact own_new W3 _ _
 have OR4 := O3.ext x4
 have HP4 := LH (HP3.out.ext x4)
 have HX4 := LH (HX3.out.trans x4)
 have hs4 := x4.size
 have hu4 := OU4.lt
 have hB3 := HP3.out.own.lt
 clear hS HP3 HX3 O3 x4
 generalize hub : W3.heap.size = ub at *
 generalize hmb : W4.heap.size = mb at *
 cases ok
 · have HN : Hid (parseU s = none) := LH (parseU_no1 (by have := HOK.out; cases h : toksL s with | none => rfl | some _ => rw [h] at this; cases this))
   clear HP4
   have o0 := OR4.k0
   have of0 := OR4.f0
   have o1 := OR4.k1
   have of1 := OR4.f1
   have o2 := OR4.k2
   have of2 := OR4.f2
   have o3 := OR4.k3
   have of3 := OR4.f3
   have o4 := OR4.k4
   have of4 := OR4.f4
   have o5 := OR4.k5
   have of5 := OR4.f5
   have oz := OR4.lt
   go_wp2_with fail
   generalize hS : World.setCell (World.setCell (World.setCell (World.setCell (World.setCell (World.setCell W4 _ _) _ _) _ _) _ _) _ _) _ _ = W9
   obtain ⟨O9, T9⟩ := own6u OR4 (.slice none 0 0) (.string ⟨#[]⟩) (.bool false) (.slice none 0 0) (.slice none 0 0) (.slice none 0 0)
   rw [hS] at O9 T9
   clear hS
   have p0 := O9.k0
   have p1 := O9.k1
   have p2 := O9.k2
   have p3 := O9.k3
   have p4 := O9.k4
   have p5 := O9.k5
   have pz := O9.lt
   have FIN : GivesUs w s (.returned (.tuple #[.agg #[.slice none 0 0, .string ⟨#[]⟩, .bool false, .slice none 0 0, .slice none 0 0, .slice none 0 0], .bool false])) W9 := ⟨_, [], by rw [HN.out]; rfl, by rw [HN.out]; exact zU_rep W9, (fun k hk => nomatch hk), Touch.ext HX4.out T9 (fun k hk => by simp at hk; omega)⟩
   exact bodyPost_ret (v := .tuple #[.agg #[.slice none 0 0, .string ⟨#[]⟩, .bool false, .slice none 0 0, .slice none 0 0, .slice none 0 0], .bool false]) (by simp [results, Tryz.results4, go_sem, p0, p1, p2, p3, p4, p5, pz]) rfl FIN
 go_upto_block 0 with fail
 go_cut [] (fun wx => ∃ (l : List MClassDef) (vc : Value) (j : Nat) (bj : Bool), Own wx ub 28 #[vc, .string maW, .bool false, .slice none 0 0, .slice none 0 0, .slice none 0 0] /\ AccC mb wx vc l /\ Prs 38 B tb to_ cap ao ts wx (j) bj /\ Got false (fun n => pCs ts n [] 0) bj (l, j) /\ Own wx w.heap.size 28 #[.slice none 0 0, .string ⟨#[]⟩, .bool false, .slice none 0 0, .slice none 0 0, .slice none 0 0] /\ Ext w wx /\ mb <= wx.heap.size)
 case first =>
  go_wp2_with fail
  go_loopw [] (fun wr => ∃ (l : List MClassDef) (vc : Value) (j : Nat) (bj : Bool), Own wr ub 28 #[vc, .string maW, .bool false, .slice none 0 0, .slice none 0 0, .slice none 0 0] /\ AccC mb wr vc l /\ Prs 38 B tb to_ cap ao ts wr (j) bj /\ Hid (Todo false (fun n => pCs ts n [] 0) bj (fun n => pCs ts n l j)) /\ (l.length <= 802 /\ (bj = false -> l.length <= j)) /\ Own wr w.heap.size 28 #[.slice none 0 0, .string ⟨#[]⟩, .bool false, .slice none 0 0, .slice none 0 0, .slice none 0 0] /\ Ext w wr /\ mb <= wr.heap.size) (fun wr => leftOf B ts.length wr)
  case atStart => exact ⟨[], .slice none 0 0, 0, false, OU4, Acw.nil _ _ _ _, HP4.out, LH (Todo.refl false (fun n => pCs ts n [] 0)), ⟨by simp, by simp⟩, OR4, HX4.out, by omega⟩
  case round =>
   clear OU4 OR4 HP4 HX4
   obtain ⟨l, vc, j, bj, hU, hA, hp, HTDj, ⟨hl2, hlj⟩, hR, hx, hmr⟩ := hrel
   have HA := LH hA
   have HPj := LH hp
   have HPM := LH hp
   have HX := LH hx
   obtain ⟨d0, d1, d2⟩ := hp.cells
   have zB := lt_of_cell d0
   have hws := hx.size
   have hcwr := hU.lt
   clear hA hp hx
   cases bj
   rotate_left
   · go_wp2_with fail
     go_meet
     exact ⟨l, vc, j, true, hU, HA.out, HPj.out, HTDj.out.dead _, hR, HX.out, hmr⟩
   have hjl := HPj.out.ok rfl
   have hln := HPj.out.len
   have hlj := hlj rfl
   cases hc : tkxB ts j 8 clW
   · have HI := LH (rtake_no wr HPj.out 8 clW (by decide) cl_ne hc)
     have HTD2 : Hid (Got false (fun n => pCs ts n [] 0) false (l, j)) := LH (HTDj.out.done (fun n => by rw [pCs, if_neg (by rw [hc]; decide)]))
     clear hc
     go_wp2_with fail
     refine HI.out.mono ?_
     rintro e w1 ⟨rfl, x1⟩
     have UW := hU.ext x1
     have RW := hR.ext x1
     have AW := Acw.ext HA.out x1
     have PW := HPj.out.ext x1
     have XW := HX.out.trans x1
     have hs1 := x1.size
     go_wp2_with fail
     go_meet
     exact ⟨l, vc, j, false, UW, AW, PW, HTD2.out, RW, XW, by omega⟩
   · have HI := LH (rtake_yes wr HPj.out 8 clW (by decide) cl_ne hc)
     have HTD2 : Hid (Todo false (fun n => pCs ts n [] 0) false (fun n => (pClass ts n (j + 1)).bind fun m => pCs ts n (l ++ [m.1]) m.2)) := LH (HTDj.out.step (fun n => by rw [pCs, if_pos hc]))
     clear hc
     go_wp2_with fail
     refine HI.out.mono ?_
     rintro e w1 ⟨rfl, K1, T1⟩
     have HO1 := LH (hU.touch' T1 (by simp; omega))
     have HR1 := LH (hR.touch' T1 (by simp; omega))
     have HA1 := LH (Acw.touch HA.out T1 (fun k hk => by simp at hk; omega))
     have HP1 := LH K1
     have HX1 : Hid (Ext w w1) := LH (Touch.ext HX.out T1 (fun k hk => by simp at hk; omega))
     have hs1 := T1.size
     clear hU hR HA HPj HX K1 T1 HTDj HI d0 d1 d2 zB
     go_wp2_with fail
     have b4 : w1.cell? ⟨ub, 0, none⟩ = some vc := HO1.out.cell 0
     have bz := HO1.out.lt
     have HC := LH (fun (W : World) (hW : Ext w1 W) => l5Class_any W (HP1.out.ext hW))
     have HOX := LH (fun (W : World) (w2 : World) (hW : Ext w1 W) (T : Touch W w2 [B]) => (HO1.out.ext hW).touch' T (by simp; omega))
     have HMX := LH (fun (W : World) (w2 : World) (hW : Ext w1 W) (T : Touch W w2 [B]) => Acw.touch (Acw.ext HA1.out hW) T (fun k hk => by simp at hk; omega))
     have HSZ := LH (fun (W : World) (w2 : World) (hW : Ext w1 W) (T : Touch W w2 [B]) => Nat.le_trans hW.size T.size)
     have HFX : Hid (∀ W : World, Ext w1 W -> ∀ k, W.heap.size <= k -> mb <= k) := LH (fun W hW k hk => by have := hW.size; omega)
     have HOB : Hid (∀ k, vc.ownBlock = some k -> mb <= k /\ k < w1.heap.size) := LH (fun k hk => Acw.ge HA1.out hk)
     go_region_law ((first
      | (refine step_append_c rfl _ _ rfl mb vc l rfl (Acw.ext (HMX.out _ w2 (Ext.drew (XR _)) T2) ((XR _).alloc _)) [y] _ _ _ (w2.heap.size :: gp) rfl (one_of (R2.ext ((XR _).alloc _)) rfl (own_new w2 _ _) (by decide)) (fun k hk => HFX.out _ (Ext.drew (XR _)) k (F2 k hk)) (fun k hk hm => by have h1 := (HOB.out k hk).2; have h2 := F2 k hm; have h3 := (Ext.drew (XR w1)).size; omega) (by simp; omega) (by have h2 := HSZ.out _ w2 (Ext.drew (XR _)) T2; have h3 := (XR w2).alloc (Obj.cells #[.string y.name, .string y.parent, .slice z1 y.fields.length z2, .slice z3 y.methods.length z4] 43); have h4 := h3.size; omega) ?_; intro ao2 cap2 w7 ac hg hloc; have TG : Touch _ w7 vc.ownBlock.toList := (Touch.of_ext (XR _) _).grown hg (fun k hk => Or.inl (by simp [hk])); have O7 := ((HOX.out _ w2 (Ext.drew (XR _)) T2).ext ((XR _).alloc _)).touch' TG (fun hm => by have := (HOB.out ub (by simpa using hm)).1; omega); have c7 := O7.cell 0; have f7 := O7.f0; have z7 := O7.lt)
      | (go_simp; go_wp2_with ((refine (HC.out _ (by first | exact Ext.drew (XR _) | exact XR _)).mono ?_; rintro e w2 ⟨y, ds, gp, j2, bj2, rfl, R2, F2, K2, g2, m2, T2⟩; obtain ⟨z1, z2, z3, z4, rfl⟩ := MClassDef.op_e2 R2; have b42 : w2.cell? ⟨ub, 0, none⟩ = some vc := (HOX.out _ w2 (Ext.drew (XR _)) T2).cell 0; have bz2 := (HOX.out _ w2 (Ext.drew (XR _)) T2).lt)))))
     all_goals
      have hsz2 := HSZ.out _ w2 (Ext.drew (XR _)) T2
      have HTD3 := LH (HTD2.out.call0 g2 (g := fun n m => pCs ts n (l ++ [m.1]) m.2) (fun n => rfl))
      have Ta : Touch w2 w7 vc.ownBlock.toList := (Touch.of_ext ((XR _).alloc _) _).trans TG
      generalize hv1 : Value.slice ao2 (l.length + [y].length) cap2 = v1 at *
      generalize hS : World.setCell w7 _ v1 = W9
      have Tb : Touch w7 W9 [ub] := by rw [<- hS]; exact (Touch.of_ext (XR _) _).setCell (by simp) _
      have O9 : Own W9 ub 28 #[v1, .string maW, .bool false, .slice none 0 0, .slice none 0 0, .slice none 0 0] := by rw [<- hS]; exact O7.set 0 v1
      have M9 : AccC mb W9 v1 (l ++ [y]) := Acw.touch ac Tb (fun k hk => by simp at hk; omega)
      have T7 : Touch w2 W9 (ub :: vc.ownBlock.toList) := (Ta.mono (fun k hk => List.mem_cons_of_mem _ hk)).trans (Tb.mono (fun k hk => by simp at hk; simp [hk]))
      have hF7 : ∀ k, k ∈ ub :: vc.ownBlock.toList -> ub <= k := fun k hk => by
       rcases List.mem_cons.1 hk with rfl | hk
       · exact Nat.le_refl _
       · have := (HOB.out k (by simpa using hk)).1; omega
      have P9 := HP.out.late K2 T7 (fun k hk => by have := hF7 k hk; omega)
      have OR9 := ((HR1.out.ext (Ext.drew (XR _))).touch' T2 (by simp; omega)).touch' T7 (fun hm => by have := hF7 _ hm; omega)
      have hsz9 := T7.size
      have X9 : Ext w W9 := Touch.ext (Touch.ext (HX1.out.trans (Ext.drew (XR _))) T2 (fun k hk => by simp at hk; omega)) T7 (fun k hk => by have := hF7 k hk; omega)
      have HP9 := LH P9
      have HOR9 := LH OR9
      have HM9 := LH M9
      have HX9 := LH X9
      have HO9 := LH O9
      clear hS Ta Tb O9 M9 T7 hF7 P9 OR9 X9 ac hg hloc TG O7 c7 f7 z7 K2 T2 b42 bz2 b4 bz HC HMX HOX HSZ HFX HOB HO1 HR1 HA1 HX1 HP1 R2 F2 g2 HTD2 hv1
      go_wp2_with fail
      refine ⟨⟨l ++ [y], v1, j2, bj2, HO9.out, HM9.out, HP9.out, HTD3, ⟨by simp; omega, fun h => by simp; omega⟩, HOR9.out, HX9.out, by omega⟩, ?_⟩
      rw [left_ok HPM.out]
      cases bj2
      · rw [left_ok HP9.out]; have := HP9.out.le; omega
      · rw [left_bad HP9.out]; omega
 case rest =>
  obtain ⟨l, vc, j, bj, OU, A_, K_, hgc, OR, X_, hmr⟩ := hcut
  have HTDj := (Todo.refl false (fun n => pUnit ts n 0)).call0 hgc (g := fun n (c : List MClassDef × Nat) => pMn ts n c.1 c.2) (fun n => rfl)
  obtain ⟨t0, j1, b1, HC1, HTD1⟩ : ∃ (t0 : Value) (j1 : Nat) (b1 : Bool), Hid (∀ W, Prs 38 B tb to_ cap ao ts W (j) bj -> Calls Tryz.prog 12 #[.pointer (some ⟨B, 0, none⟩), .int .i64 8, .string maW] W (fun e w' => e = .returned t0 /\ Prs 38 B tb to_ cap ao ts w' (j1) b1 /\ Touch W w' [B])) /\ Hid (Todo false (fun n => pUnit ts n 0) b1 (fun n => (pVS ts n j1).bind fun v => some (⟨l, ⟨maW, false, [], v.1, v.2.1⟩⟩, v.2.2))) := by
   cases he : tkxB ts j 8 maW
   · exact ⟨_, j, true, LH (fun W hW => rneedx_no W hW 8 maW (by decide) ma_ne he), LH (HTDj.badly0 (fun n => by unfold pMn; rw [if_neg (by rw [he]; decide)]))⟩
   · exact ⟨_, j + 1, bj, LH (fun W hW => rneedx_yes W hW 8 maW (by decide) ma_ne he), LH (HTDj.eq0 (fun n => by unfold pMn; exact if_pos he))⟩
  have hws := X_.size
  have hcz := OU.lt
  have HA := LH A_
  have HPj := LH K_
  have HX := LH X_
  clear A_ K_ X_ HTDj hgc OU4 OR4 HP4 HX4
  go_wp2_with fail
  refine (HC1.out _ HPj.out).mono ?_
  rintro e w6 ⟨rfl, K6, T6⟩
  have OU6 := OU.touch' T6 (by simp; omega)
  have OR6 := OR.touch' T6 (by simp; omega)
  have HA6 := LH (Acw.touch HA.out T6 (fun k hk => by simp at hk; omega))
  have HP6 := LH K6
  have HX6 : Hid (Ext w w6) := LH (Touch.ext HX.out T6 (fun k hk => by simp at hk; omega))
  have hs6 := T6.size
  clear K6 T6 OU OR HA HPj HX HC1
  go_wp2_with fail
  refine (rnames_any w6 HP6.out).mono ?_
  rintro e w7 ⟨vt, lt, j5, b5, rfl, A5_, K5, g5, hj5, hl5, T5⟩
  obtain ⟨vt1, vt2, gt, rfl, rT, fT⟩ := AccT.rep A5_
  have OU7 := OU6.touch' T5 (by simp; omega)
  have OR7 := OR6.touch' T5 (by simp; omega)
  have HA7 := LH (Acw.touch HA6.out T5 (fun k hk => by simp at hk; omega))
  have HX7 : Hid (Ext w w7) := LH (Touch.ext HX6.out T5 (fun k hk => by simp at hk; omega))
  have HP7 := LH K5
  have hs7 := T5.size
  have HRT := LH rT
  have HFT := LH fT
  have HG5 := LH g5
  clear A5_ K5 g5 T5 rT fT OU6 OR6 HA6 HP6 HX6
  have m0 := OU7.k0
  have mf0 := OU7.f0
  have m1 := OU7.k1
  have mf1 := OU7.f1
  have m2 := OU7.k2
  have mf2 := OU7.f2
  have m3 := OU7.k3
  have mf3 := OU7.f3
  have m4 := OU7.k4
  have mf4 := OU7.f4
  have m5 := OU7.k5
  have mf5 := OU7.f5
  have mz := OU7.lt
  go_upto_region 10 with fail
  generalize hS : World.setCell w7 _ _ = w8
  have T8 : Touch w7 w8 [ub] := by rw [<- hS]; exact (Touch.of_ext (XR _) _).setCell (by simp) _
  have OU8 : Own w8 ub 28 #[vc, .string maW, .bool false, .slice none 0 0, .slice vt1 lt.length vt2, .slice none 0 0] := by rw [<- hS]; exact OU7.set 4 _
  have OR8 := OR7.touch' T8 (by simp; omega)
  have HA8 := LH (Acw.touch HA7.out T8 (fun k hk => by simp at hk; omega))
  have HP8 := LH (HP.out.late HP7.out T8 (fun k hk => by simp at hk; omega))
  have HRT8 := LH (HRT.out.touch T8 (fun k hk hm => by have := HFT.out.ge k hk; simp at hm; omega))
  have HX8 : Hid (Ext w w8) := LH (Touch.ext HX7.out T8 (fun k hk => by simp at hk; omega))
  have hs8 := T8.size
  clear hS T8 OU7 OR7 HA7 HP7 HRT HX7 m0 mf0 m1 mf1 m2 mf2 m3 mf3 m4 mf4 m5 mf5 mz
  go_wp2_with fail
  refine (rstms_all j5 w8 b5 HP8.out).mono ?_
  rintro e w9 ⟨lb, vb, j7, b7, rfl, A7, K7, g7, hl7, hj7, T7⟩
  obtain ⟨vb1, vb2, gb, rfl, rB, fB⟩ := AccX.rep A7
  have OU9 := OU8.touch' T7 (by simp; omega)
  have OR9 := OR8.touch' T7 (by simp; omega)
  have HA9 := LH (Acw.touch HA8.out T7 (fun k hk => by simp at hk; omega))
  have HX9 : Hid (Ext w w9) := LH (Touch.ext HX8.out T7 (fun k hk => by simp at hk; omega))
  have HP9 := LH K7
  have HRT9 := LH (HRT8.out.touch T7 (fun k hk hm => by have := HFT.out.ge k hk; simp at hm; omega))
  have hs9 := T7.size
  have HRB := LH rB
  have HFB := LH fB
  have HGX := LH ((HTD1.out.call0 ((((Todo.refl b1 (fun n => pVS ts n j1)).call0 HG5.out (g := fun n v => (pStmts ts n [] v.2).bind fun b => some (v.1, b.1, b.2)) (fun n => rfl)).call0 g7 (g := fun n b => some (lt, b.1, b.2)) (fun n => rfl)).done0 (y := (lt, lb, j7)) (fun n => rfl)) (g := fun n v => some ((⟨l, ⟨maW, false, [], v.1, v.2.1⟩⟩ : MUnit), v.2.2)) (fun n => rfl)).done0 (y := ((⟨l, ⟨maW, false, [], lt, lb⟩⟩ : MUnit), j7)) (fun n => rfl))
  clear A7 K7 g7 T7 rB fB OU8 OR8 HA8 HP8 HRT8 HX8 HG5 HTD1
  have m0 := OU9.k0
  have mf0 := OU9.f0
  have m1 := OU9.k1
  have mf1 := OU9.f1
  have m2 := OU9.k2
  have mf2 := OU9.f2
  have m3 := OU9.k3
  have mf3 := OU9.f3
  have m4 := OU9.k4
  have mf4 := OU9.f4
  have m5 := OU9.k5
  have mf5 := OU9.f5
  have mz := OU9.lt
  go_upto_region 11 with fail
  generalize hS : World.setCell w9 _ _ = w10
  have T10 : Touch w9 w10 [ub] := by rw [<- hS]; exact (Touch.of_ext (XR _) _).setCell (by simp) _
  have OU10 : Own w10 ub 28 #[vc, .string maW, .bool false, .slice none 0 0, .slice vt1 lt.length vt2, .slice vb1 lb.length vb2] := by rw [<- hS]; exact OU9.set 5 _
  have OR10 := OR9.touch' T10 (by simp; omega)
  obtain ⟨vc1, vc2, gc, rfl, rC, fC⟩ := AccC.rep (Acw.touch HA9.out T10 (fun k hk => by simp at hk; omega))
  have HP10 := LH (HP.out.late HP9.out T10 (fun k hk => by simp at hk; omega))
  have rT10 := HRT9.out.touch T10 (fun k hk hm => by have := HFT.out.ge k hk; simp at hm; omega)
  have rB10 := HRB.out.touch T10 (fun k hk hm => by have := HFB.out k hk; simp at hm; omega)
  have HX10 : Hid (Ext w w10) := LH (Touch.ext HX9.out T10 (fun k hk => by simp at hk; omega))
  have hs10 := T10.size
  clear hS T10 OU9 OR9 HA9 HP9 HRT9 HRB HX9 m0 mf0 m1 mf1 m2 mf2 m3 mf3 m4 mf4 m5 mf5 mz
  obtain ⟨x, hxx⟩ : ∃ x : MUnit, x = ⟨l, ⟨maW, false, [], lt, lb⟩⟩ := ⟨_, rfl⟩
  obtain ⟨W5, hW5⟩ : ∃ W, W = w10 := ⟨_, rfl⟩
  subst hW5
  obtain ⟨y1, y2, y3, y4, y5, y6, y7, y8, fp, OE, hR5, hfp⟩ : ∃ y1 y2 y3 y4 y5 y6 y7 y8 fp, Own W5 ub 28 #[.slice y1 x.classes.length y2, .string x.main.selector, .bool x.main.cls, .slice y3 x.main.params.length y4, .slice y5 x.main.temps.length y6, .slice y7 x.main.body.length y8] /\ RepF W5 x.d [.slice y1 x.classes.length y2, .string x.main.selector, .bool x.main.cls, .slice y3 x.main.params.length y4, .slice y5 x.main.temps.length y6, .slice y7 x.main.body.length y8] fp /\ ∀ k, k ∈ fp -> mb <= k := by
   rw [hxx]
   exact ⟨vc1, vc2, none, 0, vt1, vt2, vb1, vb2, _, OU10, MUnit.shut (x := ⟨l, ⟨maW, false, [], lt, lb⟩⟩) rC (MMethod.shut (x := ⟨maW, false, [], lt, lb⟩) (rep_nilT _) rT10 rB10), fun k hk => by simp only [List.mem_append, List.not_mem_nil, or_false, false_or] at hk; rcases hk with hk | hk | hk; exact fC k hk; (have := HFT.out.ge k hk; omega); (have := HFB.out k hk; omega)⟩
  have O5 : Own W5 w.heap.size 28 #[.slice none 0 0, .string ⟨#[]⟩, .bool false, .slice none 0 0, .slice none 0 0, .slice none 0 0] := OR10
  have HP5 := HP10
  have HX5 := HX10
  rw [<- hxx] at HGX
  have HG := HGX
  have HR5 := LH hR5
  have HF5 := LH hfp
  clear OU10 OR10 HP10 HX10 HGX rC rT10 rB10 fC hxx hR5 hfp
  generalize hb' : b7 = b' at *
  generalize ha' : j7 = a' at *
  clear hb' ha'
  obtain ⟨eb, heb⟩ : ∃ n, n = ub := ⟨_, rfl⟩
  subst heb
  obtain ⟨c0, c1, c2⟩ := HP5.out.cells
  have zB := lt_of_cell c0
  cases b'
  rotate_left
  · have HN := LH (gotU_no (ok := true) HOK.out HTS.out HG.out (by simp))
    have o0 := O5.k0
    have of0 := O5.f0
    have o1 := O5.k1
    have of1 := O5.f1
    have o2 := O5.k2
    have of2 := O5.f2
    have o3 := O5.k3
    have of3 := O5.f3
    have o4 := O5.k4
    have of4 := O5.f4
    have o5 := O5.k5
    have of5 := O5.f5
    have oz := O5.lt
    go_wp2_with fail
    generalize hS : World.setCell (World.setCell (World.setCell (World.setCell (World.setCell (World.setCell W5 _ _) _ _) _ _) _ _) _ _) _ _ = W9
    obtain ⟨O9, T9⟩ := own6u O5 (.slice none 0 0) (.string ⟨#[]⟩) (.bool false) (.slice none 0 0) (.slice none 0 0) (.slice none 0 0)
    rw [hS] at O9 T9
    clear hS
    have p0 := O9.k0
    have p1 := O9.k1
    have p2 := O9.k2
    have p3 := O9.k3
    have p4 := O9.k4
    have p5 := O9.k5
    have pz := O9.lt
    have FIN : GivesUs w s (.returned (.tuple #[.agg #[.slice none 0 0, .string ⟨#[]⟩, .bool false, .slice none 0 0, .slice none 0 0, .slice none 0 0], .bool false])) W9 := ⟨_, [], by rw [HN.out]; rfl, by rw [HN.out]; exact zU_rep W9, (fun k hk => nomatch hk), Touch.ext HX5.out T9 (fun k hk => by simp at hk; omega)⟩
    exact bodyPost_ret (v := .tuple #[.agg #[.slice none 0 0, .string ⟨#[]⟩, .bool false, .slice none 0 0, .slice none 0 0, .slice none 0 0], .bool false]) (by simp [results, Tryz.results4, go_sem, p0, p1, p2, p3, p4, p5, pz]) rfl FIN
  by_cases ha : a' = ts.length
  rotate_left
  · have HN := LH (gotU_no (ok := true) HOK.out HTS.out HG.out (fun h => ha h.2))
    have hne : ((a' : Int) != (ts.length : Int)) = true := by simp; omega
    have hne2 : ((a' : Int) == (ts.length : Int)) = false := by simp; omega
    clear ha
    have o0 := O5.k0
    have of0 := O5.f0
    have o1 := O5.k1
    have of1 := O5.f1
    have o2 := O5.k2
    have of2 := O5.f2
    have o3 := O5.k3
    have of3 := O5.f3
    have o4 := O5.k4
    have of4 := O5.f4
    have o5 := O5.k5
    have of5 := O5.f5
    have oz := O5.lt
    go_wp2_with fail
    generalize hS : World.setCell (World.setCell (World.setCell (World.setCell (World.setCell (World.setCell W5 _ _) _ _) _ _) _ _) _ _) _ _ = W9
    obtain ⟨O9, T9⟩ := own6u O5 (.slice none 0 0) (.string ⟨#[]⟩) (.bool false) (.slice none 0 0) (.slice none 0 0) (.slice none 0 0)
    rw [hS] at O9 T9
    clear hS
    have p0 := O9.k0
    have p1 := O9.k1
    have p2 := O9.k2
    have p3 := O9.k3
    have p4 := O9.k4
    have p5 := O9.k5
    have pz := O9.lt
    have FIN : GivesUs w s (.returned (.tuple #[.agg #[.slice none 0 0, .string ⟨#[]⟩, .bool false, .slice none 0 0, .slice none 0 0, .slice none 0 0], .bool false])) W9 := ⟨_, [], by rw [HN.out]; rfl, by rw [HN.out]; exact zU_rep W9, (fun k hk => nomatch hk), Touch.ext HX5.out T9 (fun k hk => by simp at hk; omega)⟩
    exact bodyPost_ret (v := .tuple #[.agg #[.slice none 0 0, .string ⟨#[]⟩, .bool false, .slice none 0 0, .slice none 0 0, .slice none 0 0], .bool false]) (by simp [results, Tryz.results4, go_sem, p0, p1, p2, p3, p4, p5, pz]) rfl FIN
  obtain ⟨-, hbk, hy, hn⟩ := gotU_yes (ok := true) HOK.out HTS.out HG.out rfl ha
  subst ha
  have HY := LH hy
  have HNO := LH hn
  clear hy hn HG
  have q0 := OE.k0
  have qf0 := OE.f0
  have q1 := OE.k1
  have qf1 := OE.f1
  have q2 := OE.k2
  have qf2 := OE.f2
  have q3 := OE.k3
  have qf3 := OE.f3
  have q4 := OE.k4
  have qf4 := OE.f4
  have q5 := OE.k5
  have qf5 := OE.f5
  have qz := OE.lt
  have HI := LH (spec_IsUnit_any x _ W5 HR5.out.rep hbk)
  by_cases hk : UnitOk x
  rotate_left
  · have HN := LH (HNO.out hk)
    rw [prB_ff hk] at HI
    clear hk
    go_wp2_with fail
    refine HI.out.mono ?_
    rintro e w7 ⟨rfl, hx7⟩
    have O7 := O5.ext hx7
    have HX7 := LH (HX5.out.trans hx7)
    clear hx7 O5 OE q0 qf0 q1 qf1 q2 qf2 q3 qf3 q4 qf4 q5 qf5 qz c0 c1 c2 zB
    have o0 := O7.k0
    have of0 := O7.f0
    have o1 := O7.k1
    have of1 := O7.f1
    have o2 := O7.k2
    have of2 := O7.f2
    have o3 := O7.k3
    have of3 := O7.f3
    have o4 := O7.k4
    have of4 := O7.f4
    have o5 := O7.k5
    have of5 := O7.f5
    have oz := O7.lt
    go_wp2_with fail
    generalize hS : World.setCell (World.setCell (World.setCell (World.setCell (World.setCell (World.setCell w7 _ _) _ _) _ _) _ _) _ _) _ _ = W9
    obtain ⟨O9, T9⟩ := own6u O7 (.slice none 0 0) (.string ⟨#[]⟩) (.bool false) (.slice none 0 0) (.slice none 0 0) (.slice none 0 0)
    rw [hS] at O9 T9
    clear hS
    have p0 := O9.k0
    have p1 := O9.k1
    have p2 := O9.k2
    have p3 := O9.k3
    have p4 := O9.k4
    have p5 := O9.k5
    have pz := O9.lt
    have FIN : GivesUs w s (.returned (.tuple #[.agg #[.slice none 0 0, .string ⟨#[]⟩, .bool false, .slice none 0 0, .slice none 0 0, .slice none 0 0], .bool false])) W9 := ⟨_, [], by rw [HN.out]; rfl, by rw [HN.out]; exact zU_rep W9, (fun k hk => nomatch hk), Touch.ext HX7.out T9 (fun k hk => by simp at hk; omega)⟩
    exact bodyPost_ret (v := .tuple #[.agg #[.slice none 0 0, .string ⟨#[]⟩, .bool false, .slice none 0 0, .slice none 0 0, .slice none 0 0], .bool false]) (by simp [results, Tryz.results4, go_sem, p0, p1, p2, p3, p4, p5, pz]) rfl FIN
  have HN := LH (HY.out hk)
  rw [prB_tt hk] at HI
  clear hk
  go_wp2_with fail
  refine HI.out.mono ?_
  rintro e w7 ⟨rfl, hx7⟩
  have O7 := O5.ext hx7
  have OE7 := OE.ext hx7
  have HX7 := LH (HX5.out.trans hx7)
  have HR7 := LH (HR5.out.ext hx7)
  have hs7 := hx7.size
  clear hx7 O5 OE HI q0 qf0 q1 qf1 q2 qf2 q3 qf3 q4 qf4 q5 qf5 qz c0 c1 c2 zB
  have q0 := OE7.k0
  have qf0 := OE7.f0
  have q1 := OE7.k1
  have qf1 := OE7.f1
  have q2 := OE7.k2
  have qf2 := OE7.f2
  have q3 := OE7.k3
  have qf3 := OE7.f3
  have q4 := OE7.k4
  have qf4 := OE7.f4
  have q5 := OE7.k5
  have qf5 := OE7.f5
  have qz := OE7.lt
  have o0 := O7.k0
  have of0 := O7.f0
  have o1 := O7.k1
  have of1 := O7.f1
  have o2 := O7.k2
  have of2 := O7.f2
  have o3 := O7.k3
  have of3 := O7.f3
  have o4 := O7.k4
  have of4 := O7.f4
  have o5 := O7.k5
  have of5 := O7.f5
  have oz := O7.lt
  go_wp2_with fail
  generalize hS : World.setCell (World.setCell (World.setCell (World.setCell (World.setCell (World.setCell w7 _ _) _ _) _ _) _ _) _ _) _ _ = W9
  obtain ⟨O9, T9⟩ := own6u O7 (.slice y1 x.classes.length y2) (.string x.main.selector) (.bool x.main.cls) (.slice y3 x.main.params.length y4) (.slice y5 x.main.temps.length y6) (.slice y7 x.main.body.length y8)
  rw [hS] at O9 T9
  clear hS
  have p0 := O9.k0
  have p1 := O9.k1
  have p2 := O9.k2
  have p3 := O9.k3
  have p4 := O9.k4
  have p5 := O9.k5
  have pz := O9.lt
  have hge : ∀ k, k ∈ fp -> k ∉ [w.heap.size] := fun k hk hm => by have := HF5.out k hk; simp at hm; omega
  have FIN : GivesUs w s (.returned (.tuple #[.agg #[.slice y1 x.classes.length y2, .string x.main.selector, .bool x.main.cls, .slice y3 x.main.params.length y4, .slice y5 x.main.temps.length y6, .slice y7 x.main.body.length y8], .bool true])) W9 := ⟨_, fp, by rw [HN.out]; rfl, by rw [HN.out]; exact HR7.out.touch T9 hge, fun k hk => by have := HF5.out k hk; omega, Touch.ext HX7.out T9 (fun k hk => by simp at hk; omega)⟩
  exact bodyPost_ret (v := .tuple #[.agg #[.slice y1 x.classes.length y2, .string x.main.selector, .bool x.main.cls, .slice y3 x.main.params.length y4, .slice y5 x.main.temps.length y6, .slice y7 x.main.body.length y8], .bool true]) (by simp [results, Tryz.results4, go_sem, p0, p1, p2, p3, p4, p5, pz]) rfl FIN
end Go.Proofs.YtlcebafhbceejaaGreatDoor
