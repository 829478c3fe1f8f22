/-
  SEVERAL TEXTS IN ONE: CONTRACTS: the program's copyUnit; CONTRACTS: the program's parser: the body of a unit's main part; CONTRACTS: the small functions of the reference's parser, continued; CONTRACTS: the reference's parser: names, messages and blocks made.
  Conditions: those that each lemma states.
-/
import Derived.Test.YtlcebafhbceejaaGreatDoorRows
import Derived.Test.YtlcebafhbceejaaGreatDoorP23
import Derived.Test.YtlcebafhbceejaaGreatDoorP16
import Derived.Test.YtlcebafhbceejaaGreatDoorP11
import Derived.Test.YtlcebafhbceejaaGreatDoorP20
namespace Go.Proofs.YtlcebafhbceejaaGreatDoor
open Go.RowKit
set_option maxHeartbeats 8000000
set_option maxRecDepth 100000
set_option linter.unusedSimpArgs false
set_option linter.unusedVariables false
theorem own6u {w : World} {r : Nat} {c0 c1 c2 c3 c4 c5 : Value} (h : Own w r 28 #[c0, c1, c2, c3, c4, c5]) (v0 v1 v2 v3 v4 v5 : Value) : Own ((((((w.setCell ⟨r, 0, none⟩ v0).setCell ⟨r, 1, none⟩ v1).setCell ⟨r, 2, none⟩ v2).setCell ⟨r, 3, none⟩ v3).setCell ⟨r, 4, none⟩ v4).setCell ⟨r, 5, none⟩ v5) r 28 #[v0, v1, v2, v3, v4, v5] /\ Touch w ((((((w.setCell ⟨r, 0, none⟩ v0).setCell ⟨r, 1, none⟩ v1).setCell ⟨r, 2, none⟩ v2).setCell ⟨r, 3, none⟩ v3).setCell ⟨r, 4, none⟩ v4).setCell ⟨r, 5, none⟩ v5) [r] :=
 ⟨(((((h.set 0 v0).set 1 v1).set 2 v2).set 3 v3).set 4 v4).set 5 v5, (((((((Touch.of_ext (XR w) [r]).setCell (by simp) v0).setCell (by simp) v1).setCell (by simp) v2).setCell (by simp) v3).setCell (by simp) v4).setCell (by simp) v5)⟩
theorem Fresh.swap {w : World} {B : Nat} {f1 f2 : List Nat} (h : Fresh w B (f1 ++ f2)) : Fresh w B (f2 ++ f1) :=
 ⟨List.perm_append_comm.nodup h.nodup, fun b hb => h.ge b (List.perm_append_comm.mem_iff.1 hb), fun b hb => h.own b (List.perm_append_comm.mem_iff.1 hb)⟩
theorem AccT.repo {B0 : Nat} {w : World} {v : Value} {l : List ByteArray} (h : AccT B0 w v l) : ∃ ao cap gp, v = .slice ao l.length cap /\ RepF w (strs l) [.slice ao l.length cap] gp /\ Fresh w B0 gp /\ ∀ k, k ∈ gp -> v.ownBlock = some k := by
 obtain ⟨xs, ⟨h1, h2⟩, h3, h4, h5⟩ := h
 rcases h2 with ⟨rfl, hn⟩ | ⟨g, cap, cur, rfl, hg, hh, hnc, hcm, hcs, htk⟩
 · obtain rfl : l = [] := List.length_eq_zero_iff.1 (by simpa using hn)
   exact ⟨none, 0, [], rfl, rep_nilT w, Fresh.nil _ _, fun k hk => nomatch hk⟩
 · rw [List.length_map] at hnc ⊢
   by_cases hd : l = []
   · subst hd
     exact ⟨_, cap, [], rfl, RepF.sl_iff.2 ⟨_, _, rfl, by simp, hcm, by simp, Or.inl ⟨rfl, rfl⟩⟩, Fresh.nil _ _, fun k hk => nomatch hk⟩
   · have hO : Own w g 9 cur := hh
     refine ⟨_, cap, [g], rfl, RepF.sl_iff.2 ⟨some ⟨g, 0, none⟩, cap, by simp, by simpa using hnc, hcm, by simp, Or.inr ⟨g, 0, xs, [], by simpa using hd, rfl, rfl, hO.lt, fun j c hj => ?_, h3⟩⟩, ⟨by simp, fun b hb => ?_, fun b hb => ?_⟩, fun k hk => by obtain rfl := List.mem_singleton.1 hk; rfl⟩
     · rw [Nat.zero_add, hO.cell]
       rw [<- htk, List.getElem?_take] at hj
       split at hj
       · simpa using hj
       · cases hj
     · obtain rfl := List.mem_singleton.1 hb
       exact hg
     · obtain rfl := List.mem_singleton.1 hb
       exact ⟨_, _, hO⟩
theorem copyUnit_any (x : MUnit) (cx : List Value) (w : World) (rx : Rep w x.d cx) (hb : x.d.bulk <= 1048576) : Calls Tryz.prog 23 #[.agg cx.toArray] w (GivesS w x.d) := by
 obtain ⟨a0, c0, a1, c1, a2, c2, a3, c3, rfl, rc, r1, r2, r3, rm⟩ := MUnit.op_en rx
 obtain ⟨hbm, hcl, hbc⟩ := unit_bulks hb
 have HBC := LH hbc
 have RM := LH rm
 obtain ⟨ao, ca, ba, oa, e1, hla, hma, pa, hra⟩ := Rep.slmap rc
 simp only [List.cons.injEq, and_true, Value.slice.injEq, true_and] at e1
 obtain ⟨rfl, rfl⟩ := e1
 unfold maxLen at hma
 clear rx rc r1 r2 r3 rm hb hbc
 go_enter Tryz.func23, Tryz.ntmps23
 go_upto_region 1 with fail
 generalize hS : World.alloc (World.alloc w _) _ = W1
 have x1 : Ext w W1 := by rw [<- hS]; exact ((XR _).alloc _).alloc _
 have OX : Own W1 w.heap.size 28 #[.slice a0 x.classes.length c0, .string x.main.selector, .bool x.main.cls, .slice a1 x.main.params.length c1, .slice a2 x.main.temps.length c2, .slice a3 x.main.body.length c3] := by rw [<- hS]; exact (own_new w _ _).ext ((XR _).alloc _)
 have OR : Own W1 (w.heap.size + 1) 28 #[.slice none 0 0, .string ⟨#[]⟩, .bool false, .slice none 0 0, .slice none 0 0, .slice none 0 0] := by rw [<- hS]; exact own_new2 w _ _ _
 have hs1 : w.heap.size + 2 <= W1.heap.size := by rw [<- hS]; simp
 clear hS
 have q0 := OX.k0
 have qf0 := OX.f0
 have q1 := OX.k1
 have qf1 := OX.f1
 have q2 := OX.k2
 have qf2 := OX.f2
 have q3 := OX.k3
 have qf3 := OX.f3
 have q4 := OX.k4
 have qf4 := OX.f4
 have q5 := OX.k5
 have qf5 := OX.f5
 have qz := OX.lt
 go_wp2_with fail
 refine (copyMethod_any x.main _ W1 (Rep.ext x1 RM.out) hbm).mono ?_
 rintro e w2 ⟨cs, gm, rfl, r2, f2, x2⟩
 obtain ⟨b1, k1, b2, k2, b3, k3, rfl⟩ := fld5m r2
 have OX2 := OX.ext x2
 have OR2 := OR.ext x2
 have hx2 := x1.trans x2
 have HM2 := LH r2
 have FM2 := LH f2
 have hs2 := x2.size
 clear r2 f2 x1 x2 OX OR RM q0 qf0 q1 qf1 q2 qf2 q3 qf3 q4 qf4 q5 qf5 qz
 go_upto_region 2 with fail
 generalize hS : World.alloc w2 _ = W3
 have x3 : Ext w2 W3 := by rw [<- hS]; exact (XR _).alloc _
 have OO3 : Own W3 w2.heap.size 28 #[.slice none 0 0, .string x.main.selector, .bool x.main.cls, .slice b1 x.main.params.length k1, .slice b2 x.main.temps.length k2, .slice b3 x.main.body.length k3] := by rw [<- hS]; exact own_new w2 _ _
 have q0 : W3.cell? ⟨w.heap.size, 0, none⟩ = some (.slice a0 x.classes.length c0) := (OX2.ext x3).cell 0
 have qz := (OX2.ext x3).lt
 have OR3 := OR2.ext x3
 have hx3 := hx2.trans x3
 have HM3 := LH (HM2.out.ext x3)
 have FM3 := LH ((FM2.out.ext x3).mono (B' := w.heap.size) (by omega))
 have HGM : Hid (∀ k, k ∈ gm -> w.heap.size + 2 <= k /\ k < w2.heap.size) := LH (fun k hk => ⟨by have := FM2.out.ge k hk; omega, FM2.out.lt hk⟩)
 have hs3 := x3.size
 have hob3 := OO3.lt
 clear hS x3 OX2 OR2 hx2 HM2 FM2
 generalize hob : w2.heap.size = ob at *
 clear hob
 go_wp2_with fail
 obtain ⟨CB, hCB⟩ : ∃ n, W3.heap.size = n := ⟨_, rfl⟩
 go_loopw [16] (fun iv wr => ∃ (k : Nat) (vcl : Value) (fp : List Nat), k <= x.classes.length /\ iv = .int .i64 k /\ CB <= wr.heap.size /\ Ext w wr /\ Own wr ob 28 #[vcl, .string x.main.selector, .bool x.main.cls, .slice b1 x.main.params.length k1, .slice b2 x.main.temps.length k2, .slice b3 x.main.body.length k3] /\ Own wr (w.heap.size + 1) 28 #[.slice none 0 0, .string ⟨#[]⟩, .bool false, .slice none 0 0, .slice none 0 0, .slice none 0 0] /\ RepF wr x.main.d [.string x.main.selector, .bool x.main.cls, .slice b1 x.main.params.length k1, .slice b2 x.main.temps.length k2, .slice b3 x.main.body.length k3] gm /\ Fresh wr w.heap.size gm /\ Hid (Acc CB wr 43 4 vcl ((x.classes.take k).map MClassDef.d) fp)) (fun iv _ => x.classes.length - (intOf iv).toNat)
 case atStart => exact ⟨0, .slice none 0 0, [], Nat.zero_le _, rfl, by omega, hx3, OO3, OR3, HM3.out, FM3.out, LH (Acc.nil _ _ _ _)⟩
 case round =>
  clear OO3 OR3 HM3 FM3 q0 qz hx3
  obtain ⟨k, vcl, fp, hk', rfl, hwr, hx, hO, hR, hM, hF, hK⟩ := hrel
  by_cases hlt : k < x.classes.length
  · obtain rfl := pa (by omega)
    obtain ⟨d, hd⟩ : ∃ d, x.classes[k] = d := ⟨_, rfl⟩
    obtain ⟨ea, la, cl, ra⟩ := hra k d (by rw [<- hd]; simp [hlt])
    obtain ⟨af, cf, am, cm, rfl, rf, rmm⟩ := MClassDef.op_en ra
    have t0 := hx.cell (show w.cell? ⟨ba, oa + k * 4, none⟩ = some _ from cl 0 (by omega))
    have t1 := hx.cell (show w.cell? ⟨ba, oa + k * 4 + 1, none⟩ = some _ from cl 1 (by omega))
    have t2 := hx.cell (show w.cell? ⟨ba, oa + k * 4 + 2, none⟩ = some _ from cl 2 (by omega))
    have t3 := hx.cell (show w.cell? ⟨ba, oa + k * 4 + 3, none⟩ = some _ from cl 3 (by omega))
    obtain ⟨hn1, hn2, ⟨hn3, hn4⟩, hn5, hn6⟩ := class_bulks (HBC.out d (by rw [<- hd]; exact List.getElem_mem hlt))
    clear cl la hra pa ra hn5
    have HO := LH hO
    have HR := LH hR
    have HM := LH hM
    have HF := LH hF
    have HBM := LH hn6
    clear hO hR hM hF hn6
    go_upto_region 5 with fail
    generalize hS : World.alloc wr _ = W5
    have x5 : Ext wr W5 := by rw [<- hS]; exact (XR _).alloc _
    have OK : Own W5 wr.heap.size 43 #[.string d.name, .string d.parent, .slice af d.fields.length cf, .slice am d.methods.length cm] := by rw [<- hS]; exact own_new wr _ _
    have RF5 := LH (Rep.ext (hx.trans x5) rf)
    have RMM5 := LH (Rep.ext (hx.trans x5) rmm)
    have hs5 := x5.size
    clear hS t0 t1 t2 t3 rf rmm
    have q0 := OK.k0
    have qf0 := OK.f0
    have q1 := OK.k1
    have qf1 := OK.f1
    have q2 := OK.k2
    have qf2 := OK.f2
    have q3 := OK.k3
    have qf3 := OK.f3
    have qz := OK.lt
    go_cut [6] (fun v wx => ∃ (xb : Nat) (bf : Option Addr) (kf : Nat) (gf : List Nat), v = .pointer (some ⟨xb, 0, none⟩) /\ W5.heap.size <= xb /\ Own wx xb 43 #[.string d.name, .string d.parent, .slice bf d.fields.length kf, .slice none 0 0] /\ RepF wx (strs d.fields) [.slice bf d.fields.length kf] gf /\ Fresh wx W5.heap.size gf /\ xb ∉ gf /\ Ext W5 wx)
    case first =>
     have KS : Hid (∀ w'', Ext W5 w'' -> w''.cell? ⟨wr.heap.size, 0, none⟩ = some (.string d.name) /\ w''.cell? ⟨wr.heap.size, 1, none⟩ = some (.string d.parent) /\ w''.cell? ⟨wr.heap.size, 2, none⟩ = some (.slice af d.fields.length cf) /\ Ext W5 w'') := LH fun w'' h => ⟨h.cell q0, h.cell q1, h.cell q2, h⟩
     have XA1 : Hid (Ext W5 (W5.alloc (.cells #[] 9)).drew) := LH (Ext.drew ((XR _).alloc _))
     have XA2 : Hid (Ext W5 ((W5.alloc (.cells #[] 9)).alloc (.cells #[.string ⟨#[]⟩, .string ⟨#[]⟩, .slice none 0 0, .slice none 0 0] 43)).drew) := LH (Ext.drew (((XR _).alloc _).alloc _))
     have XA3 : Hid (Ext W5 ((W5.alloc (.cells #[.string ⟨#[]⟩, .string ⟨#[]⟩, .slice none 0 0, .slice none 0 0] 43)).alloc (.cells #[] 9)).drew) := LH (Ext.drew (((XR _).alloc _).alloc _))
     have E1 : Hid (AccT W5.heap.size (W5.alloc (.cells #[] 9)).drew (.slice (some ⟨W5.heap.size, 0, none⟩) 0 0) []) := LH (Acc.empty_at ((own_new W5 #[] _).ext (Ext.drew (XR _))) (by omega))
     have E2 : Hid (AccT W5.heap.size ((W5.alloc (.cells #[] 9)).alloc (.cells #[.string ⟨#[]⟩, .string ⟨#[]⟩, .slice none 0 0, .slice none 0 0] 43)).drew (.slice (some ⟨W5.heap.size, 0, none⟩) 0 0) []) := LH (Acc.empty_at (((own_new W5 #[] _).ext ((XR _).alloc _)).ext (Ext.drew (XR _))) (by omega))
     have E3 : Hid (AccT W5.heap.size ((W5.alloc (.cells #[.string ⟨#[]⟩, .string ⟨#[]⟩, .slice none 0 0, .slice none 0 0] 43)).alloc (.cells #[] 9)).drew (.slice (some ⟨W5.heap.size + 1, 0, none⟩) 0 0) []) := LH (Acc.empty_at ((own_new2 W5 _ #[] _).ext (Ext.drew (XR _))) (by omega))
     have Z2 : Hid (Own ((W5.alloc (.cells #[] 9)).alloc (.cells #[.string ⟨#[]⟩, .string ⟨#[]⟩, .slice none 0 0, .slice none 0 0] 43)).drew (W5.heap.size + 1) 43 #[.string ⟨#[]⟩, .string ⟨#[]⟩, .slice none 0 0, .slice none 0 0]) := LH ((own_new2 W5 _ _ _).ext (Ext.drew (XR _)))
     have Z3 : Hid (Own ((W5.alloc (.cells #[.string ⟨#[]⟩, .string ⟨#[]⟩, .slice none 0 0, .slice none 0 0] 43)).alloc (.cells #[] 9)).drew W5.heap.size 43 #[.string ⟨#[]⟩, .string ⟨#[]⟩, .slice none 0 0, .slice none 0 0]) := LH (((own_new W5 _ _).ext ((XR _).alloc _)).ext (Ext.drew (XR _)))
     have hfl : ([] : List ByteArray).length + d.fields.length <= 1073741824 := by simp; omega
     have hb1 : W5.heap.size <= ((W5.alloc (.cells #[] 9)).drew).heap.size := XA1.out.size
     have hb2 : W5.heap.size <= (((W5.alloc (.cells #[] 9)).alloc (.cells #[.string ⟨#[]⟩, .string ⟨#[]⟩, .slice none 0 0, .slice none 0 0] 43)).drew).heap.size := XA2.out.size
     have hb3 : W5.heap.size <= (((W5.alloc (.cells #[.string ⟨#[]⟩, .string ⟨#[]⟩, .slice none 0 0, .slice none 0 0] 43)).alloc (.cells #[] 9)).drew).heap.size := XA3.out.size
     have KS : Hid (∀ w'', Ext W5 w'' -> w''.cell? ⟨wr.heap.size, 0, none⟩ = some (.string d.name) /\ w''.cell? ⟨wr.heap.size, 1, none⟩ = some (.string d.parent) /\ w''.cell? ⟨wr.heap.size, 2, none⟩ = some (.slice af d.fields.length cf) /\ Ext W5 w'') := LH fun w'' h => ⟨h.cell q0, h.cell q1, h.cell q2, h⟩
     go_region_held_law (fun w'' => w''.cell? ⟨wr.heap.size, 0, none⟩ = some (.string d.name) /\ w''.cell? ⟨wr.heap.size, 1, none⟩ = some (.string d.parent) /\ w''.cell? ⟨wr.heap.size, 2, none⟩ = some (.slice af d.fields.length cf) /\ Ext W5 w'') ((refine KS.out _ ?_; first | exact hx7.alloc _ | exact hx7 | with_reducible exact Ext.drew (XR _) | with_reducible exact Ext.drew ((XR _).alloc _) | with_reducible exact Ext.drew (((XR _).alloc _).alloc _) | exact (Touch.ext hx7 (((((Touch.of_ext (XR w7) [W5.heap.size, W5.heap.size + 1]).setCell (by simp) _).setCell (by simp) _).setCell (by simp) _).setCell (by simp) _) (fun k hk => by simp at hk; omega)))) (first
      | (refine step_append_strs_at rfl _ _ rfl W5.heap.size (.slice (some ⟨W5.heap.size, 0, none⟩) 0 0) [] rfl E1.out d.fields _ _ _ rfl (Rep.ext XA1.out RF5.out) hfl hb1 ?_; intro bf kf w7 ac hg hloc; have TG : Touch _ w7 [W5.heap.size] := (Touch.of_ext (XR _) _).grown hg (fun k hk => Or.inl (by simp only [Value.ownBlock, Option.some.injEq] at hk; simp [<- hk])); have hx7 : Ext W5 w7 := Touch.ext XA1.out TG (fun k hk => by simp at hk; omega))
      | (refine step_append_strs_at rfl _ _ rfl W5.heap.size (.slice (some ⟨W5.heap.size, 0, none⟩) 0 0) [] rfl E2.out d.fields _ _ _ rfl (Rep.ext XA2.out RF5.out) hfl hb2 ?_; intro bf kf w7 ac hg hloc; have TG : Touch _ w7 [W5.heap.size] := (Touch.of_ext (XR _) _).grown hg (fun k hk => Or.inl (by simp only [Value.ownBlock, Option.some.injEq] at hk; simp [<- hk])); have hx7 : Ext W5 w7 := Touch.ext XA2.out TG (fun k hk => by simp at hk; omega); have OB7 := Z2.out.touch' TG (by simp); have u0 := OB7.cell 0; have v0 := OB7.f0; have u1 := OB7.cell 1; have v1 := OB7.f1; have u2 := OB7.cell 2; have v2 := OB7.f2; have u3 := OB7.cell 3; have v3 := OB7.f3; have vz := OB7.lt)
      | (refine step_append_strs_at rfl _ _ rfl W5.heap.size (.slice (some ⟨W5.heap.size + 1, 0, none⟩) 0 0) [] rfl E3.out d.fields _ _ _ rfl (Rep.ext XA3.out RF5.out) hfl hb3 ?_; intro bf kf w7 ac hg hloc; have TG : Touch _ w7 [W5.heap.size + 1] := (Touch.of_ext (XR _) _).grown hg (fun k hk => Or.inl (by simp only [Value.ownBlock, Option.some.injEq] at hk; simp [<- hk])); have hx7 : Ext W5 w7 := Touch.ext XA3.out TG (fun k hk => by simp at hk; omega); have OB7 := Z3.out.touch' TG (by simp); have u0 := OB7.cell 0; have v0 := OB7.f0; have u1 := OB7.cell 1; have v1 := OB7.f1; have u2 := OB7.cell 2; have v2 := OB7.f2; have u3 := OB7.cell 3; have v3 := OB7.f3; have vz := OB7.lt))
     · simp only [List.nil_append] at ac
       obtain ⟨_, _, gf, hv_, rf_, ff_, fo_⟩ := AccT.repo ac
       injection hv_ with hv1 _ hv2
       subst hv1
       subst hv2
       go_wp2_with fail
       go_meet
       exact ⟨w7.heap.size, _, _, gf, rfl, hx7.size, own_new w7 _ _, rf_.ext ((XR _).alloc _), ff_.ext ((XR _).alloc _), fun hm => Nat.lt_irrefl _ (ff_.lt hm), hx7.alloc _⟩
     · simp only [List.nil_append] at ac
       have hz : (((W5.alloc (.cells #[] 9)).alloc (.cells #[.string ⟨#[]⟩, .string ⟨#[]⟩, .slice none 0 0, .slice none 0 0] 43)).drew).heap.size = W5.heap.size + 1 + 1 := by show (World.alloc (World.alloc W5 _) _).heap.size = _; simp
       have hne : ∀ k, (Value.slice bf (([] : List ByteArray).length + d.fields.length) kf).ownBlock = some k -> k ≠ W5.heap.size + 1 := fun k hk => by
        rcases hloc with h | h
        · rw [h] at hk; simp only [Value.ownBlock, Option.some.injEq] at hk; omega
        · rw [h] at hk; rw [hz] at hk; simp only [Option.some.injEq] at hk; omega
       obtain ⟨O9, T9⟩ := own4c OB7 (.string d.name) (.string d.parent) (.slice bf d.fields.length kf) (.slice none 0 0)
       generalize hS : World.setCell (World.setCell (World.setCell (World.setCell w7 _ _) _ _) _ _) _ _ = W9 at *
       have AC9 := Acc.touch ac T9 (fun k hk hm => by simp only [List.mem_singleton] at hm; exact hne k hk hm) (fun k hk => nomatch hk)
       obtain ⟨_, _, gf, hv_, rf_, ff_, fo_⟩ := AccT.repo AC9
       injection hv_ with hv1 _ hv2
       subst hv1
       subst hv2
       go_wp2_with fail
       go_meet
       exact ⟨W5.heap.size + 1, _, _, gf, rfl, by omega, O9, rf_, ff_, fun hm => hne _ (fo_ _ hm) rfl, Touch.ext hx7 T9 (fun k hk => by simp at hk; omega)⟩
     · simp only [List.nil_append] at ac
       have hz : (((W5.alloc (.cells #[.string ⟨#[]⟩, .string ⟨#[]⟩, .slice none 0 0, .slice none 0 0] 43)).alloc (.cells #[] 9)).drew).heap.size = W5.heap.size + 1 + 1 := by show (World.alloc (World.alloc W5 _) _).heap.size = _; simp
       have hne : ∀ k, (Value.slice bf (([] : List ByteArray).length + d.fields.length) kf).ownBlock = some k -> k ≠ W5.heap.size := fun k hk => by
        rcases hloc with h | h
        · rw [h] at hk; simp only [Value.ownBlock, Option.some.injEq] at hk; omega
        · rw [h] at hk; rw [hz] at hk; simp only [Option.some.injEq] at hk; omega
       obtain ⟨O9, T9⟩ := own4c OB7 (.string d.name) (.string d.parent) (.slice bf d.fields.length kf) (.slice none 0 0)
       generalize hS : World.setCell (World.setCell (World.setCell (World.setCell w7 _ _) _ _) _ _) _ _ = W9 at *
       have AC9 := Acc.touch ac T9 (fun k hk hm => by simp only [List.mem_singleton] at hm; exact hne k hk hm) (fun k hk => nomatch hk)
       obtain ⟨_, _, gf, hv_, rf_, ff_, fo_⟩ := AccT.repo AC9
       injection hv_ with hv1 _ hv2
       subst hv1
       subst hv2
       go_wp2_with fail
       go_meet
       exact ⟨W5.heap.size, _, _, gf, rfl, by omega, O9, rf_, ff_, fun hm => hne _ (fo_ _ hm) rfl, Touch.ext hx7 T9 (fun k hk => by simp at hk; omega)⟩
    case rest =>
     obtain ⟨xb, bf, kf, gf, rfl, hxb, OXc, RFc, FFc, hxg, x6⟩ := hcut
     obtain ⟨W8, hW8⟩ : ∃ W, W = wc := ⟨_, rfl⟩
     subst hW8
     obtain ⟨wo, hwo⟩ : ∃ W, W = wr := ⟨_, rfl⟩
     subst hwo
     have xx := x5.trans x6
     have hx8 := hx.trans xx
     have hso := hx.size
     have hs8 := x6.size
     have hxz := OXc.lt
     have HO8 := LH (HO.out.ext xx)
     have HR8 := LH (HR.out.ext xx)
     have HM8 := LH (HM.out.ext xx)
     have HF8 := LH (HF.out.ext xx)
     have HK8 := LH (Acc.ext hK.out xx)
     have HOBC : Hid (∀ j, vcl.ownBlock = some j -> CB <= j /\ j < wo.heap.size) := LH fun j hj => Acc.ge hK.out hj
     have HFRC : Hid (Fresh wo CB fp) := LH (by obtain ⟨_, _, _, h, _⟩ := hK.out; exact h)
     have OC8 := OK.ext x6
     have HRF := LH RFc
     have HFF := LH FFc
     have HGF : Hid (∀ j, j ∈ gf -> W5.heap.size <= j /\ j < W8.heap.size) := LH fun j hj => ⟨FFc.ge j hj, FFc.lt hj⟩
     have HX6 := LH x6
     have HXX := LH xx
     have hwo5 : wo.heap.size < W5.heap.size := OK.lt
     obtain ⟨aom, cam, bam, oam, em, hlm, hmm, pam, hram⟩ := Rep.slmap RMM5.out
     simp only [List.cons.injEq, and_true, Value.slice.injEq, true_and] at em
     obtain ⟨rfl, rfl⟩ := em
     unfold maxLen at hmm
     clear RFc FFc x5 x6 xx HO HR HM HF hK RF5 RMM5 q0 qf0 q1 qf1 q2 qf2 q3 qf3 qz OK
     have q0 := OC8.k0
     have qf0 := OC8.f0
     have q1 := OC8.k1
     have qf1 := OC8.f1
     have q2 := OC8.k2
     have qf2 := OC8.f2
     have q3 := OC8.k3
     have qf3 := OC8.f3
     have qz := OC8.lt
     go_wp2_with fail
     clear q0 qf0 q1 qf1 q2 qf2 q3 qf3 qz OC8
     obtain ⟨MBB, hMBB⟩ : ∃ n, W8.heap.size = n := ⟨_, rfl⟩
     have hM1 : MBB <= W8.heap.size := by omega
     have hM2 : W8.heap.size <= MBB := by omega
     clear hMBB
     go_loopw [32] (fun jv w9 => ∃ (k2 : Nat) (vm : Value) (hp : List Nat), k2 <= d.methods.length /\ jv = .int .i64 k2 /\ MBB <= w9.heap.size /\ Touch W8 w9 [xb] /\ Own w9 xb 43 #[.string d.name, .string d.parent, .slice bf d.fields.length kf, vm] /\ Hid (Acc MBB w9 26 5 vm ((d.methods.take k2).map MMethod.d) hp)) (fun jv _ => d.methods.length - (intOf jv).toNat)
     case atStart => exact ⟨0, .slice none 0 0, [], Nat.zero_le _, rfl, hM1, Touch.of_ext (XR _) _, OXc, LH (Acc.nil _ _ _ _)⟩
     case round =>
      clear OXc
      obtain ⟨k2, vm, hp, hk2, rfl, hwz, hT, hOX, hKM⟩ := hrel
      have hx59 : Ext W5 wr := Touch.ext HX6.out hT (fun j hj => by simp at hj; omega)
      by_cases hl2 : k2 < d.methods.length
      · obtain rfl := pam (by omega)
        obtain ⟨m, hm⟩ : ∃ m, d.methods[k2] = m := ⟨_, rfl⟩
        obtain ⟨eam, lam, clm, ram⟩ := hram k2 m (by rw [<- hm]; simp [hl2])
        obtain ⟨e1, g1, e2, g2, e3, g3, rfl, -, -, -⟩ := MMethod.op_en ram
        have hbm : m.d.bulk <= 1048576 := HBM.out m (by rw [<- hm]; exact List.getElem_mem hl2)
        have t0 := hx59.cell (show W5.cell? ⟨bam, oam + k2 * 5, none⟩ = some _ from clm 0 (by omega))
        have t1 := hx59.cell (show W5.cell? ⟨bam, oam + k2 * 5 + 1, none⟩ = some _ from clm 1 (by omega))
        have t2 := hx59.cell (show W5.cell? ⟨bam, oam + k2 * 5 + 2, none⟩ = some _ from clm 2 (by omega))
        have t3 := hx59.cell (show W5.cell? ⟨bam, oam + k2 * 5 + 3, none⟩ = some _ from clm 3 (by omega))
        have t4 := hx59.cell (show W5.cell? ⟨bam, oam + k2 * 5 + 4, none⟩ = some _ from clm 4 (by omega))
        have RMm := LH (Rep.ext hx59 ram)
        have HDS : Hid ((d.methods.take (k2 + 1)).map MMethod.d = (d.methods.take k2).map MMethod.d ++ [m.d]) := LH (by rw [List.take_succ_eq_append_getElem hl2, List.map_append, hm]; rfl)
        have HDL : Hid (((d.methods.take k2).map MMethod.d).length = k2) := LH (by simp; omega)
        generalize (d.methods.take k2).map MMethod.d = DS at *
        clear clm lam hram pam ram hm
        go_upto_region 9 with fail
        generalize hS : World.alloc wr _ = W10
        have x10 : Ext wr W10 := by rw [<- hS]; exact (XR _).alloc _
        have OM10 : Own W10 wr.heap.size 26 #[.string m.selector, .bool m.cls, .slice e1 m.params.length g1, .slice e2 m.temps.length g2, .slice e3 m.body.length g3] := by rw [<- hS]; exact own_new wr _ _
        have hs10 := x10.size
        clear hS t0 t1 t2 t3 t4
        have q0 := OM10.k0
        have qf0 := OM10.f0
        have q1 := OM10.k1
        have qf1 := OM10.f1
        have q2 := OM10.k2
        have qf2 := OM10.f2
        have q3 := OM10.k3
        have qf3 := OM10.f3
        have q4 := OM10.k4
        have qf4 := OM10.f4
        have qz := OM10.lt
        have b3_ : W10.cell? ⟨xb, 3, none⟩ = some vm := (hOX.ext x10).cell 3
        have bz := (hOX.ext x10).lt
        have HC := LH (fun (W : World) (hW : Ext W10 W) => copyMethod_any m _ W (Rep.ext (x10.trans hW) RMm.out) hbm)
        have HOX := LH (fun (W : World) (hW : Ext W10 W) => hOX.ext (x10.trans hW))
        have HKX := LH (fun (W : World) (hW : Ext W10 W) => Acc.ext hKM.out (x10.trans hW))
        have HOB : Hid (∀ j, vm.ownBlock = some j -> MBB <= j /\ j < wr.heap.size) := LH fun j hj => Acc.ge hKM.out hj
        have HFR : Hid (Fresh wr MBB hp) := LH (by obtain ⟨_, _, _, h, _⟩ := hKM.out; exact h)
        have HFA : Hid (∀ (W w2 : World) (gp : List Nat) (o : Obj), Ext W10 W -> Ext W w2 -> Fresh w2 W.heap.size gp -> Fresh (w2.alloc o) MBB (hp ++ gp)) := LH fun W w2 gp o h1 h2 h3 => HFR.out.append (((x10.trans h1).trans h2).alloc _) (h3.ext ((XR _).alloc _)) (by have := (x10.trans h1).size; omega) (by have := (x10.trans h1).size; omega)
        have HTX := LH (hT.trans (Touch.of_ext x10 [xb]))
        obtain ⟨i0, hi, hz0, hz1, hz2⟩ := info_parts methInfo
        go_region_law ((first
         | (refine step_append_at rfl _ _ 41 rfl MBB 26 i0 _ 5 96 Tryz.underlying41 hi hz0 hz1 hz2 rfl (by decide) vm DS hp rfl (HKX.out _ (((Ext.drew (XR _)).trans x2).alloc _)) [m.d] _ 1 1 (w2.heap.size :: gp) rfl (one_of (R2.ext ((XR _).alloc _)) rfl (own_new w2 _ _) (by decide)) (HFA.out _ w2 gp _ (Ext.drew (XR _)) x2 F2) (fun j hj hm => by have h1 := (HOB.out j hj).2; have h2 := F2.ge j hm; have h3 := (Ext.drew (XR W10)).size; omega) (by have := HDL.out; unfold maxLen; omega) (by have := HDL.out; omega) (by have h1 := x2.size; have h3 := (Ext.drew (XR W10)).size; have h4 := ((XR w2).alloc (Obj.cells #[.string m.selector, .bool m.cls, .slice z1 m.params.length z2, .slice z3 m.temps.length z4, .slice z5 m.body.length z6] 26)).size; omega) ?_; intro a7 k7 w7 ac hg hloc; have TG : Touch _ w7 vm.ownBlock.toList := (Touch.of_ext (XR _) _).grown hg (fun j hj => Or.inl (by simp [hj])); have O7 := (HOX.out _ (((Ext.drew (XR _)).trans x2).alloc _)).touch' TG (fun hm => by have := (HOB.out xb (by simpa using hm)).1; omega); have c7 := O7.cell 3; have f7 := O7.f3; have z7 := O7.lt)
         | (go_simp; go_wp2_with ((refine (HC.out _ (by first | exact Ext.drew (XR _) | exact XR _)).mono ?_; rintro e w2 ⟨ds, gp, rfl, R2, F2, x2⟩; obtain ⟨z1, z2, z3, z4, z5, z6, rfl⟩ := fld5m R2; have b42 : w2.cell? ⟨xb, 3, none⟩ = some vm := (HOX.out _ ((Ext.drew (XR _)).trans x2)).cell 3; have bz2 := (HOX.out _ ((Ext.drew (XR _)).trans x2)).lt)))))
        all_goals
         have hsd := (Ext.drew (XR W10)).size
         have hsz2 := x2.size
         have Ta : Touch w2 w7 vm.ownBlock.toList := (Touch.of_ext ((XR _).alloc _) _).trans TG
         generalize hv1 : Value.slice a7 (DS.length + 1) k7 = v1 at *
         generalize hS : World.setCell w7 _ v1 = W12
         have Tb : Touch w7 W12 [xb] := by rw [<- hS]; exact (Touch.of_ext (XR _) _).setCell (by simp) _
         have O12 : Own W12 xb 43 #[.string d.name, .string d.parent, .slice bf d.fields.length kf, v1] := by rw [<- hS]; exact O7.set 3 v1
         have K12 : Acc MBB W12 26 5 v1 (DS ++ [m.d]) (hp ++ gp) := Acc.touch ac Tb (fun j hj hm => by have := (Acc.ge ac hj).1; simp at hm; omega) (fun j hj hm => by have := (HFA.out _ w2 gp (Obj.cells #[] 26) (Ext.drew (XR _)) x2 F2).ge j hj; simp at hm; omega)
         have T12 : Touch W8 W12 [xb] := (((HTX.out.trans (Touch.of_ext (Ext.drew (XR _)) _)).trans (Touch.of_ext x2 _)).late2 Ta (fun j hj => by have := (HOB.out j (by simpa using hj)).1; omega)).trans Tb
         rw [<- HDS.out] at K12
         have HK12 := LH K12
         have HO12 := LH O12
         have HT12 := LH T12
         have hs12 := Ta.size
         have hs13 := Tb.size
         clear hS Ta Tb O12 K12 T12 ac hg hloc TG O7 c7 f7 z7 b42 bz2 b3_ bz HC HOX HKX HOB HFR HFA HTX R2 F2 x2 hv1 hT hOX hKM HDS HDL q0 qf0 q1 qf1 q2 qf2 q3 qf3 q4 qf4 qz OM10 x10 hx59 RMm hi hz0 hz1 hz2
         go_wp2_with fail
         go_roundw
         case rel => exact ⟨k2 + 1, v1, hp ++ gp, by omega, by go_num, by omega, HT12.out, HO12.out, HK12⟩
         case measure => simp [intOf]; omega
      · obtain rfl : k2 = d.methods.length := by omega
        have K9 := hKM.out
        rw [List.take_length] at K9
        obtain ⟨am2, cm2, gm2, hvm, rm2, fm2⟩ := Acc.rep K9
        rw [List.length_map] at hvm rm2
        subst hvm
        have hx9 : Ext w wr := Touch.ext hx8 hT (fun j hj => by simp at hj; omega)
        have hxo9 : Ext wo wr := Touch.ext HXX.out hT (fun j hj => by simp at hj; omega)
        have RC := MClassDef.shut (x := d) (HRF.out.touch hT (fun j hj hm => hxg (by simp at hm; rw [<- hm]; exact hj))) rm2
        rw [List.append_nil] at RC
        have FC : Fresh wr W5.heap.size (gf ++ gm2) := (HFF.out.touch hT (fun j hj hm => hxg (by simp at hm; rw [<- hm]; exact hj))).join fm2 (fun j hj => by have := (HGF.out j hj).2; omega) (by omega)
        have OB9 := HO8.out.touch' hT (by simp; omega)
        have HDC : Hid ((x.classes.take (k + 1)).map MClassDef.d = (x.classes.take k).map MClassDef.d ++ [d.d]) := LH (by rw [List.take_succ_eq_append_getElem hlt, List.map_append, hd]; rfl)
        have HDCL : Hid (((x.classes.take k).map MClassDef.d).length = k) := LH (by simp; omega)
        have KC9 := LH (Acc.touch HK8.out hT (fun j hj hm => by have := (HOBC.out j hj).2; simp at hm; omega) (fun j hj hm => by have := HFRC.out.lt hj; simp at hm; omega))
        generalize (x.classes.take k).map MClassDef.d = DC at *
        have HRC := LH RC
        have HFC := LH FC
        have HTT := LH hT
        have HX9 := LH hx9
        have x10 : Ext wr (wr.alloc (.cells #[.string d.name, .string d.parent, .slice bf d.fields.length kf, .slice am2 d.methods.length cm2] 43)) := (XR wr).alloc _
        have KD := Acc.ext KC9.out x10
        have HFFc : Fresh (wr.alloc (.cells #[.string d.name, .string d.parent, .slice bf d.fields.length kf, .slice am2 d.methods.length cm2] 43)) CB (fp ++ (gf ++ gm2)) := HFRC.out.append (hxo9.trans x10) (FC.ext x10) (by omega) (by omega)
        have HONE := one_of (RC.ext x10) rfl (own_new wr #[.string d.name, .string d.parent, .slice bf d.fields.length kf, .slice am2 d.methods.length cm2] 43) (by simp)
        obtain ⟨i0, hi, hz0, hz1, hz2⟩ := info_parts clsInfo
        have hgt : Hid (∀ j, j ∈ gf ++ gm2 -> W5.heap.size <= j) := LH FC.ge
        have OXq := hOX
        clear RC FC K9 rm2 fm2 hT hx9 hram pam hd hKM hx59
        have m0 := OB9.k0
        have mf0 := OB9.f0
        have m1 := OB9.k1
        have mf1 := OB9.f1
        have m2 := OB9.k2
        have mf2 := OB9.f2
        have m3 := OB9.k3
        have mf3 := OB9.f3
        have m4 := OB9.k4
        have mf4 := OB9.f4
        have m5 := OB9.k5
        have mf5 := OB9.f5
        have mz := OB9.lt
        have q0 := OXq.k0
        have qf0 := OXq.f0
        have q1 := OXq.k1
        have qf1 := OXq.f1
        have q2 := OXq.k2
        have qf2 := OXq.f2
        have q3 := OXq.k3
        have qf3 := OXq.f3
        have qz := OXq.lt
        go_wp2_with (at_builtin; refine wpList_append_at rfl _ _ 22 rfl CB 43 i0 _ 4 80 Tryz.underlying22 hi hz0 hz1 hz2 rfl (by decide) vcl DC fp rfl KD [d.d] _ 1 1 (wr.heap.size :: (gf ++ gm2)) rfl HONE HFFc (fun j hj hm => by have h1 := (HOBC.out j hj).2; have h2 := hgt.out j hm; omega) (by have := HDCL.out; unfold maxLen; omega) (by have := HDCL.out; omega) (by have := x10.size; omega) ?_)
        intro a7 k7 w7 ac7 g7 m7
        have TG : Touch (wr.alloc (.cells #[.string d.name, .string d.parent, .slice bf d.fields.length kf, .slice am2 d.methods.length cm2] 43)) w7 vcl.ownBlock.toList := (Touch.of_ext (XR _) _).grown g7 fun j hj => Or.inl (by simp [hj])
        have O7 := (OB9.ext x10).touch' TG (fun hm => by have := (HOBC.out ob (by simpa using hm)).1; omega)
        have c7 := O7.k0
        have f7 : w7.frozen? ⟨ob, 0, none⟩ = false := O7.f0
        have z7 := O7.lt
        have Ta : Touch wr w7 vcl.ownBlock.toList := (Touch.of_ext x10 _).trans TG
        have hs7 := Ta.size
        have HA7 := LH ac7
        have hge7 : Hid (∀ j, j ∈ fp ++ (gf ++ gm2) -> CB <= j) := LH HFFc.ge
        clear KD HONE HFFc g7 m7 ac7 hi hz0 hz1 hz2 m0 mf0 m1 mf1 m2 mf2 m3 mf3 m4 mf4 m5 mf5 mz q0 qf0 q1 qf1 q2 qf2 q3 qf3 qz TG
        go_upto_region 12 with fail
        generalize hv7 : Value.slice a7 (DC.length + 1) k7 = v7 at *
        generalize hS : World.setCell w7 _ v7 = W12
        have Tb : Touch w7 W12 [ob] := by rw [<- hS]; exact (Touch.of_ext (XR _) _).setCell (by simp) _
        have O12 : Own W12 ob 28 #[v7, .string x.main.selector, .bool x.main.cls, .slice b1 x.main.params.length k1, .slice b2 x.main.temps.length k2, .slice b3 x.main.body.length k3] := by rw [<- hS]; exact O7.set 0 v7
        have K12 : Acc CB W12 43 4 v7 (DC ++ [d.d]) (fp ++ (gf ++ gm2)) := Acc.touch HA7.out Tb (fun j hj hm => by have := (Acc.ge HA7.out hj).1; simp at hm; omega) (fun j hj hm => by have := hge7.out j hj; simp at hm; omega)
        rw [<- HDC.out] at K12
        have TT : Touch W8 W12 (xb :: ob :: vcl.ownBlock.toList) := ((HTT.out.mono (fun j hj => by simp at hj; simp [hj])).trans (Ta.mono (fun j hj => by simp [hj]))).trans (Tb.mono (fun j hj => by simp at hj; simp [hj]))
        have hcase : ∀ j, j ∈ xb :: ob :: vcl.ownBlock.toList -> ob <= j := fun j hj => by
         rcases List.mem_cons.1 hj with rfl | hj
         · omega
         · rcases List.mem_cons.1 hj with rfl | hj
           · exact Nat.le_refl _
           · have := (HOBC.out j (by simpa using hj)).1; omega
        have R12 := HR8.out.touch' TT (fun hm => by have := hcase _ hm; omega)
        have M12 := HM8.out.touch TT (fun j hj hm => by have h1 := HGM.out j hj; have h2 := hcase j hm; omega)
        have F12 := HF8.out.touch TT (fun j hj hm => by have h1 := HGM.out j hj; have h2 := hcase j hm; omega)
        have X12 : Ext w W12 := Touch.ext hx8 TT (fun j hj => by have := hcase j hj; omega)
        have hs12 := Tb.size
        have HK12 := LH K12
        clear hS O7 c7 f7 z7 OB9 K12
        go_wp2_with fail
        go_roundw
        case rel => exact ⟨k + 1, v7, fp ++ (gf ++ gm2), by omega, by go_num, by omega, X12, O12, R12, M12, F12, HK12⟩
        case measure => simp [intOf]; omega
  · skip
    obtain rfl : k = x.classes.length := by omega
    have KK := hK.out
    rw [List.take_length] at KK
    obtain ⟨ac_, cc_, gc, hvc, rc_, fc_⟩ := Acc.rep KK
    rw [List.length_map] at hvc rc_
    subst hvc
    have m0 := hO.k0
    have mf0 := hO.f0
    have m1 := hO.k1
    have mf1 := hO.f1
    have m2 := hO.k2
    have mf2 := hO.f2
    have m3 := hO.k3
    have mf3 := hO.f3
    have m4 := hO.k4
    have mf4 := hO.f4
    have m5 := hO.k5
    have mf5 := hO.f5
    have mz := hO.lt
    have r0 := hR.k0
    have rf0 := hR.f0
    have r1 := hR.k1
    have rf1 := hR.f1
    have r2 := hR.k2
    have rf2 := hR.f2
    have r3 := hR.k3
    have rf3 := hR.f3
    have r4 := hR.k4
    have rf4 := hR.f4
    have r5 := hR.k5
    have rf5 := hR.f5
    have rz := hR.lt
    go_wp2_with fail
    generalize hS : World.setCell (World.setCell (World.setCell (World.setCell (World.setCell (World.setCell wr _ _) _ _) _ _) _ _) _ _) _ _ = W9
    obtain ⟨O9, T9⟩ := own6u hR (.slice ac_ x.classes.length cc_) (.string x.main.selector) (.bool x.main.cls) (.slice b1 x.main.params.length k1) (.slice b2 x.main.temps.length k2) (.slice b3 x.main.body.length k3)
    rw [hS] at O9 T9
    clear hS
    have p0 := O9.k0
    have p1 := O9.k1
    have p2 := O9.k2
    have p3 := O9.k3
    have p4 := O9.k4
    have p5 := O9.k5
    have pz := O9.lt
    have RU := MUnit.shut (x := x) (rc_.touch T9 (fun j hj hm => by have := fc_.ge j hj; simp at hm; omega)) (hM.touch T9 (fun j hj hm => by have := HGM.out j hj; simp at hm; omega))
    simp only [List.append_nil] at RU
    have F : Fresh W9 w.heap.size (gc ++ gm) := Fresh.swap ((hF.touch T9 (fun j hj hm => by have := HGM.out j hj; simp at hm; omega)).join (fc_.touch T9 (fun j hj hm => by have := fc_.ge j hj; simp at hm; omega)) (fun j hj => by have := HGM.out j hj; omega) (by omega))
    have FIN : GivesS w x.d (.returned (.agg #[.slice ac_ x.classes.length cc_, .string x.main.selector, .bool x.main.cls, .slice b1 x.main.params.length k1, .slice b2 x.main.temps.length k2, .slice b3 x.main.body.length k3])) W9 := ⟨_, gc ++ gm, rfl, RU, F, Touch.ext hx T9 (fun j hj => by simp at hj; omega)⟩
    exact bodyPost_ret (v := .agg #[.slice ac_ x.classes.length cc_, .string x.main.selector, .bool x.main.cls, .slice b1 x.main.params.length k1, .slice b2 x.main.temps.length k2, .slice b3 x.main.body.length k3]) (by simp [results, Tryz.results23, go_sem, p0, p1, p2, p3, p4, p5, pz]) rfl FIN
def UBGot (B tb to_ cap : Nat) (ao : Option Addr) (ts : List MToken) (mb : Nat) (v0 c0 c1 c2 : Value) (w : World) (a : Nat) (b : Bool) (e : Ending) (w' : World) : Prop :=
 ∃ (lt : List ByteArray) (lb : List MExpr) (vt vb : Value) (a' : Nat) (b' : Bool), e = .returned (.tuple #[]) /\ Own w' mb 28 #[v0, c0, c1, c2, vt, vb] /\ AccT w.heap.size w' vt lt /\ AccX w.heap.size w' vb lb /\ Prs 51 B tb to_ cap ao ts w' (a') b' /\ Got b (fun n => pVS ts n a) b' (lt, lb, a') /\ a <= a' /\ lt.length + a <= a' /\ Touch w w' [B, mb]
theorem bodyU_any {B tb to_ cap : Nat} {ao : Option Addr} {ts : List MToken} {mb a : Nat} {b : Bool} {v0 c0 c1 c2 c3 c4 : Value} (w : World) (h : Prs 51 B tb to_ cap ao ts w (a) b) (OM : Own w mb 28 #[v0, c0, c1, c2, c3, c4]) (hmB : mb ≠ B) (hmt : 0 < ts.length -> tb ≠ mb) :
 Calls Tryz.prog 20 #[.pointer (some ⟨B, 0, none⟩), .pointer (some ⟨mb, 1, none⟩)] w (UBGot B tb to_ cap ao ts mb v0 c0 c1 c2 w a b) := by
 have HP := LH h
 have hrb := h.own.lt
 have hmz := OM.lt
 have HV := LH (vars_any w h)
 clear h
 go_enter Tryz.func20, Tryz.ntmps20
 go_wp2_with fail
 refine HV.out.mono ?_
 rintro e w1 ⟨v1, l1, j1, b1, rfl, A1, K1, g1, hj1, hl1, T1⟩
 obtain ⟨va, vc, gv, rfl, -, -⟩ := AccT.rep A1
 have OM1 := OM.touch' T1 (by simpa using hmB)
 have m3 := OM1.k4
 have mf := OM1.f4
 have mz := OM1.lt
 have HA1 := LH A1
 have HP1 := LH K1
 have HT1 := LH T1
 have hs1 := T1.size
 have HG1 := LH g1
 clear A1 K1 g1 T1 HV OM
 go_upto_region 1 with fail
 generalize hS : World.setCell w1 _ _ = w2
 have T2 : Touch w1 w2 [mb] := by rw [<- hS]; exact (Touch.of_ext (XR _) _).setCell (by simp) _
 have OM2 : Own w2 mb 28 #[v0, c0, c1, c2, .slice va l1.length vc, c4] := by rw [<- hS]; exact OM1.set 4 _
 have HA2 := LH (AccT.low HA1.out T2 (fun k hk => by simp at hk; omega))
 have HP2 := LH (HP1.out.touch T2 (by simpa using hmB.symm) (fun h0 => by simpa using hmt h0))
 have HT2 := LH ((HT1.out.mono (gp := [B, mb]) (fun k hk => by simp at hk; simp [hk])).trans (T2.mono (gp := [B, mb]) (fun k hk => by simp at hk; simp [hk])))
 have hs2 := T2.size
 clear hS T2 OM1 HA1 HP1 HT1 m3 mf mz
 go_wp2_with fail
 refine (stms_all j1 w2 b1 HP2.out).mono ?_
 rintro e w3 ⟨l3, v3, j3, b3, rfl, A3, K3, g3, hl3, T3⟩
 obtain ⟨vx, vy, gx, rfl, -, -⟩ := AccX.rep A3
 have OM3 := OM2.touch' T3 (by simpa using hmB)
 have m4 := OM3.k5
 have mf := OM3.f5
 have mz := OM3.lt
 have HA3 := LH (AccT.low HA2.out T3 (fun k hk => by simp at hk; omega))
 have HB3 := LH (Acw.base (B0 := w.heap.size) A3 (by omega))
 have HP3 := LH K3
 have HT3 := LH (HT2.out.trans (T3.mono (gp := [B, mb]) (fun k hk => by simp at hk; simp [hk])))
 have HG3 := LH ((((Todo.refl b (fun n => pVS ts n a)).call0 HG1.out (g := fun n v => (pStmts ts n [] v.2).bind fun b => some (v.1, b.1, b.2)) (fun n => rfl)).call0 g3 (g := fun n b => some (l1, b.1, b.2)) (fun n => rfl)).done0 (y := (l1, l3, j3)) (fun n => rfl))
 clear A3 K3 g3 T3 OM2 HA2 HP2 HT2 HG1
 go_wp2_with fail
 generalize hS : World.setCell w3 _ _ = w4
 have T4 : Touch w3 w4 [mb] := by rw [<- hS]; exact (Touch.of_ext (XR _) _).setCell (by simp) _
 have OM4 : Own w4 mb 28 #[v0, c0, c1, c2, .slice va l1.length vc, .slice vx l3.length vy] := by rw [<- hS]; exact OM3.set 5 _
 have FIN : UBGot B tb to_ cap ao ts mb v0 c0 c1 c2 w a b (.returned (.tuple #[])) w4 := ⟨l1, l3, _, _, j3, b3, rfl, OM4, AccT.low HA3.out T4 (fun k hk => by simp at hk; omega), Acw.touch HB3.out T4 (fun k hk => by simp at hk; omega), HP3.out.touch T4 (by simpa using hmB.symm) (fun h0 => by simpa using hmt h0), HG3.out, by omega, by omega, HT3.out.trans (T4.mono (gp := [B, mb]) (fun k hk => by simp at hk; simp [hk]))⟩
 go_end0
 exact FIN
theorem rtake_yes {B tb to_ cap : Nat} {ao : Option Addr} {ts : List MToken} {a : Nat} {b : Bool} (w : World) (h : Prs 38 B tb to_ cap ao ts w (a) b) (k : Int) (s : ByteArray) (hk : k ≠ 0) (hs : (s.toList == []) = false) (hb : tkxB ts a k s = true) : Calls Tryz.prog 10 #[.pointer (some ⟨B, 0, none⟩), .int .i64 k, .string s] w fun e w' => e = .returned (.bool true) /\ Prs 38 B tb to_ cap ao ts w' (a + 1) b /\ Touch w w' [B] := by
 have hi := risx_any w h k s hk hs
 rw [hb] at hi
 have HI := LH hi
 have HP := LH h
 have hlt := tok_lt hk hb
 clear h hi hb hk hs
 go_enter Tryz.func10, Tryz.ntmps10
 go_wp2_with fail
 refine HI.out.mono ?_
 rintro e w1 ⟨rfl, hx⟩
 have HP1 := LH (HP.out.ext hx)
 obtain ⟨c0, c1, c2⟩ := HP1.out.cells
 have zB := lt_of_cell c0
 have f1 := HP1.out.own.f1
 have f2 := HP1.out.own.f2
 have hln := HP1.out.len
 go_wp2_with fail
 go_ret
 obtain ⟨K2, T2⟩ := HP1.out.setAt (a + 1) (by omega) (fun _ => by omega)
 have e1 : ((a + 1 : Nat) : Int) = (a : Int) + 1 := by omega
 rw [e1] at K2 T2
 exact ⟨rfl, K2, (Touch.of_ext hx _).trans T2⟩
theorem rtake_no {B tb to_ cap : Nat} {ao : Option Addr} {ts : List MToken} {a : Nat} {b : Bool} (w : World) (h : Prs 38 B tb to_ cap ao ts w (a) b) (k : Int) (s : ByteArray) (hk : k ≠ 0) (hs : (s.toList == []) = false) (hb : tkxB ts a k s = false) : Calls Tryz.prog 10 #[.pointer (some ⟨B, 0, none⟩), .int .i64 k, .string s] w fun e w' => e = .returned (.bool false) /\ Ext w w' := by
 have hi := risx_any w h k s hk hs
 rw [hb] at hi
 have HI := LH hi
 clear h hi hb hk hs
 go_enter Tryz.func10, Tryz.ntmps10
 go_wp2_with fail
 refine HI.out.mono ?_
 rintro e w1 ⟨rfl, hx⟩
 go_wp2_with fail
 go_ret
 exact ⟨rfl, hx⟩
theorem rneedk_yes {B tb to_ cap : Nat} {ao : Option Addr} {ts : List MToken} {a : Nat} {b : Bool} (w : World) (h : Prs 38 B tb to_ cap ao ts w (a) b) (k : Int) (hk : k ≠ 0) (hb : tkB ts a k = true) : Calls Tryz.prog 12 #[.pointer (some ⟨B, 0, none⟩), .int .i64 k, .string ⟨#[]⟩] w fun e w' => e = .returned (.string (tkT ts a)) /\ Prs 38 B tb to_ cap ao ts w' (a + 1) b /\ Touch w w' [B] := by
 have hi := risk_any w h k hk
 rw [hb] at hi
 have HI := LH hi
 have HP := LH h
 have hlt := kind_lt hk hb
 clear h hi hb hk
 go_enter Tryz.func12, Tryz.ntmps12
 go_wp2_with fail
 refine HI.out.mono ?_
 rintro e w1 ⟨rfl, hx⟩
 have HP1 := LH (HP.out.ext hx)
 obtain ⟨c0, c1, c2⟩ := HP1.out.cells
 have zB := lt_of_cell c0
 have f1 := HP1.out.own.f1
 have f2 := HP1.out.own.f2
 have hln := HP1.out.len
 go_upto_region 5 with fail
 generalize hS : World.setCell w1 _ _ = W2
 obtain ⟨K2, T2⟩ := HP1.out.setAt (a + 1) (by omega) (fun _ => by omega)
 have e1 : ((a + 1 : Nat) : Int) = (a : Int) + 1 := by omega
 rw [e1] at K2 T2
 rw [hS] at K2 T2
 obtain ⟨d0, d1, d2⟩ := K2.cells
 obtain ⟨-, t0, t1, t2⟩ := K2.at hlt
 obtain rfl := (K2.at hlt).1
 have zt := lt_of_cell t1
 have zB2 := lt_of_cell d0
 have HK := LH K2
 have HT := LH ((Touch.of_ext hx _).trans T2)
 have hl2 : (a : Int) < ts.length := by omega
 have ha0 : (0 : Int) <= a := by omega
 obtain ⟨tx, htx⟩ : ∃ x, tkT ts a = x := ⟨_, rfl⟩
 rw [htx] at t1
 have HTX := LH htx
 clear htx
 rw [e1] at d1
 clear hS c0 c1 c2 f1 f2 K2 T2 t0 t2 d2 zB
 go_region
 go_wp2_with fail
 go_ret
 exact ⟨by rw [HTX.out]; rfl, HK.out.ext (Ext.drew (XR _)), HT.out.trans (Touch.of_ext (Ext.drew (XR _)) _)⟩
theorem rneedk_no {B tb to_ cap : Nat} {ao : Option Addr} {ts : List MToken} {a : Nat} {b : Bool} (w : World) (h : Prs 38 B tb to_ cap ao ts w (a) b) (k : Int) (hk : k ≠ 0) (hb : tkB ts a k = false) : Calls Tryz.prog 12 #[.pointer (some ⟨B, 0, none⟩), .int .i64 k, .string ⟨#[]⟩] w fun e w' => e = .returned (.string ⟨#[]⟩) /\ Prs 38 B tb to_ cap ao ts w' (a) true /\ Touch w w' [B] := by
 have hi := risk_any w h k hk
 rw [hb] at hi
 have HI := LH hi
 have HP := LH h
 clear h hi hb hk
 go_enter Tryz.func12, Tryz.ntmps12
 go_wp2_with fail
 refine HI.out.mono ?_
 rintro e w1 ⟨rfl, hx⟩
 have HP1 := LH (HP.out.ext hx)
 obtain ⟨c0, c1, c2⟩ := HP1.out.cells
 have zB := lt_of_cell c0
 have f1 := HP1.out.own.f1
 have f2 := HP1.out.own.f2
 have hln := HP1.out.len
 go_wp2_with fail
 go_ret
 obtain ⟨K2, T2⟩ := HP1.out.setBad
 exact ⟨rfl, K2, (Touch.of_ext hx _).trans T2⟩
theorem rneedx_yes {B tb to_ cap : Nat} {ao : Option Addr} {ts : List MToken} {a : Nat} {b : Bool} (w : World) (h : Prs 38 B tb to_ cap ao ts w (a) b) (k : Int) (s : ByteArray) (hk : k ≠ 0) (hs : (s.toList == []) = false) (hb : tkxB ts a k s = true) : Calls Tryz.prog 12 #[.pointer (some ⟨B, 0, none⟩), .int .i64 k, .string s] w fun e w' => e = .returned (.string (tkT ts a)) /\ Prs 38 B tb to_ cap ao ts w' (a + 1) b /\ Touch w w' [B] := by
 have hi := risx_any w h k s hk hs
 rw [hb] at hi
 have HI := LH hi
 have HP := LH h
 have hlt := tok_lt hk hb
 clear h hi hb hk hs
 go_enter Tryz.func12, Tryz.ntmps12
 go_wp2_with fail
 refine HI.out.mono ?_
 rintro e w1 ⟨rfl, hx⟩
 have HP1 := LH (HP.out.ext hx)
 obtain ⟨c0, c1, c2⟩ := HP1.out.cells
 have zB := lt_of_cell c0
 have f1 := HP1.out.own.f1
 have f2 := HP1.out.own.f2
 have hln := HP1.out.len
 go_upto_region 5 with fail
 generalize hS : World.setCell w1 _ _ = W2
 obtain ⟨K2, T2⟩ := HP1.out.setAt (a + 1) (by omega) (fun _ => by omega)
 have e1 : ((a + 1 : Nat) : Int) = (a : Int) + 1 := by omega
 rw [e1] at K2 T2
 rw [hS] at K2 T2
 obtain ⟨d0, d1, d2⟩ := K2.cells
 obtain ⟨-, t0, t1, t2⟩ := K2.at hlt
 obtain rfl := (K2.at hlt).1
 have zt := lt_of_cell t1
 have zB2 := lt_of_cell d0
 have HK := LH K2
 have HT := LH ((Touch.of_ext hx _).trans T2)
 have hl2 : (a : Int) < ts.length := by omega
 have ha0 : (0 : Int) <= a := by omega
 obtain ⟨tx, htx⟩ : ∃ x, tkT ts a = x := ⟨_, rfl⟩
 rw [htx] at t1
 have HTX := LH htx
 clear htx
 rw [e1] at d1
 clear hS c0 c1 c2 f1 f2 K2 T2 t0 t2 d2 zB
 go_region
 go_wp2_with fail
 go_ret
 exact ⟨by rw [HTX.out]; rfl, HK.out.ext (Ext.drew (XR _)), HT.out.trans (Touch.of_ext (Ext.drew (XR _)) _)⟩
theorem rneedx_no {B tb to_ cap : Nat} {ao : Option Addr} {ts : List MToken} {a : Nat} {b : Bool} (w : World) (h : Prs 38 B tb to_ cap ao ts w (a) b) (k : Int) (s : ByteArray) (hk : k ≠ 0) (hs : (s.toList == []) = false) (hb : tkxB ts a k s = false) : Calls Tryz.prog 12 #[.pointer (some ⟨B, 0, none⟩), .int .i64 k, .string s] w fun e w' => e = .returned (.string ⟨#[]⟩) /\ Prs 38 B tb to_ cap ao ts w' (a) true /\ Touch w w' [B] := by
 have hi := risx_any w h k s hk hs
 rw [hb] at hi
 have HI := LH hi
 have HP := LH h
 clear h hi hb hk hs
 go_enter Tryz.func12, Tryz.ntmps12
 go_wp2_with fail
 refine HI.out.mono ?_
 rintro e w1 ⟨rfl, hx⟩
 have HP1 := LH (HP.out.ext hx)
 obtain ⟨c0, c1, c2⟩ := HP1.out.cells
 have zB := lt_of_cell c0
 have f1 := HP1.out.own.f1
 have f2 := HP1.out.own.f2
 have hln := HP1.out.len
 go_wp2_with fail
 go_ret
 obtain ⟨K2, T2⟩ := HP1.out.setBad
 exact ⟨rfl, K2, (Touch.of_ext hx _).trans T2⟩
theorem rbeg_eq (ts : List MToken) (a : Nat) : (beginsB ts a || tkxB ts a 7 retM) = (decide (1 <= tkK ts a /\ tkK ts a <= 5) && !(tkK ts a == 2) || tkK ts a == 7 && (eqB (tkT ts a) lparM || eqB (tkT ts a) lbrM || eqB (tkT ts a) retM)) := by
 unfold beginsB
 rw [tkB_eq (by decide), tkB_eq (by decide), tkB_eq (by decide), tkB_eq (by decide), tkxB_eq (by decide), tkxB_eq (by decide), tkxB_eq (by decide)]
 generalize tkK ts a = kd
 by_cases h1 : kd = 1
 · subst h1; simp
 by_cases h2 : kd = 2
 · subst h2; simp
 by_cases h3 : kd = 3
 · subst h3; simp
 by_cases h4 : kd = 4
 · subst h4; simp
 by_cases h5 : kd = 5
 · subst h5; simp
 by_cases h7 : kd = 7
 · subst h7; simp [Bool.or_assoc]
 have e1 : (kd == 1) = false := by simp [h1]
 have e3 : (kd == 3) = false := by simp [h3]
 have e4 : (kd == 4) = false := by simp [h4]
 have e5 : (kd == 5) = false := by simp [h5]
 have e7 : (kd == 7) = false := by simp [h7]
 have hn : decide (1 <= kd /\ kd <= 5) = false := decide_eq_false (by omega)
 rw [e1, e3, e4, e5, e7, hn]
 rfl
theorem rbegins_any {B tb to_ cap : Nat} {ao : Option Addr} {ts : List MToken} {a : Nat} {b : Bool} (w : World) (h : Prs 38 B tb to_ cap ao ts w (a) b)  : Calls Tryz.prog 33 #[.pointer (some ⟨B, 0, none⟩)] w fun e w' => e = .returned (.bool (beginsB ts a || tkxB ts a 7 retM)) /\ Ext w w' := by
 obtain ⟨c0, c1, c2⟩ := h.cells
 have zB := lt_of_cell c0
 obtain ⟨V, hV⟩ : ∃ V, (beginsB ts a || tkxB ts a 7 retM) = V := ⟨_, rfl⟩
 rw [hV]
 rw [rbeg_eq] at hV
 by_cases hl : a < ts.length
 · obtain ⟨rfl, t0, t1, t2⟩ := h.at hl
   have hl' : (a : Int) < ts.length := by omega
   have hng : ¬ (ts.length : Int) <= a := by omega
   have hd : decide ((ts.length : Int) <= a) = false := decide_eq_false hng
   have ha0 : (0 : Int) <= a := by omega
   have hd2 : decide (ts.length <= a) = false := decide_eq_false (by omega)
   have zt := lt_of_cell t0
   generalize tkK ts a = kd at *
   generalize tkT ts a = tx at *
   generalize tkN ts a = nm at *
   clear h c2
   by_cases hin : 1 <= kd /\ kd <= 5
   · have D1 := decide_eq_true hin
     by_cases h2 : kd = 2
     · have s2 : (kd != 2) = false := by simp [h2]
       have s7 : (kd == 7) = false := int_ne (by omega)
       have HV : Hid (false = V) := LH (by rw [<- hV]; simp [h2])
       clear hV h2 hin
       go_enter Tryz.func33, Tryz.ntmps33
       go_wp2_with fail
       go_region
       go_wp2_with fail
       go_region
       go_wp2_with fail
       refine (l1In_any _ _ _ _).mono ?_
       rintro e wq ⟨rfl, hq⟩
       subst wq
       go_wp2_with fail
       go_ret
       exact ⟨ret_bool HV.out, by first | exact ((XR _).drew.drew).alloc _ | exact ((XR _).drew.alloc _).drew⟩
     have s2 : (kd != 2) = true := by simp [h2]
     have HV : Hid (true = V) := LH (by rw [<- hV]; simp [hin, h2])
     clear hV h2 hin
     go_enter Tryz.func33, Tryz.ntmps33
     go_wp2_with fail
     go_region
     go_wp2_with fail
     go_region
     go_wp2_with fail
     refine (l1In_any _ _ _ _).mono ?_
     rintro e wq ⟨rfl, hq⟩
     subst wq
     go_wp2_with fail
     go_ret
     exact ⟨ret_bool HV.out, by first | exact ((XR _).drew.drew).alloc _ | exact ((XR _).drew.alloc _).drew⟩
   have D1 := decide_eq_false hin
   by_cases h7 : kd = 7
   · have s7 := int_eq h7
     by_cases u0 : tx = lparM
     · have v0 : (tx.toList == [40]) = true := str_eq' u0
       have HV : Hid (true = V) := LH (by rw [<- hV]; simp [h7, u0, eqB_tt])
       clear hV h7 hin u0
       go_enter Tryz.func33, Tryz.ntmps33
       go_wp2_with fail
       go_region
       go_wp2_with fail
       go_region
       go_wp2_with fail
       refine (l1In_any _ _ _ _).mono ?_
       rintro e wq ⟨rfl, hq⟩
       subst wq
       go_wp2_with fail
       go_ret
       exact ⟨ret_bool HV.out, by first | exact ((XR _).drew.drew).alloc _ | exact ((XR _).drew.alloc _).drew⟩
     have v0 : (tx.toList == [40]) = false := str_ne' u0
     by_cases u1 : tx = lbrM
     · have v1 : (tx.toList == [91]) = true := str_eq' u1
       have HV : Hid (true = V) := LH (by rw [<- hV]; simp [h7, u1, eqB_tt])
       clear hV h7 hin u0 u1
       go_enter Tryz.func33, Tryz.ntmps33
       go_wp2_with fail
       go_region
       go_wp2_with fail
       go_region
       go_wp2_with fail
       refine (l1In_any _ _ _ _).mono ?_
       rintro e wq ⟨rfl, hq⟩
       subst wq
       go_wp2_with fail
       go_ret
       exact ⟨ret_bool HV.out, by first | exact ((XR _).drew.drew).alloc _ | exact ((XR _).drew.alloc _).drew⟩
     have v1 : (tx.toList == [91]) = false := str_ne' u1
     by_cases u2 : tx = retM
     · have v2 : (tx.toList == [94]) = true := str_eq' u2
       have HV : Hid (true = V) := LH (by rw [<- hV]; simp [h7, u2, eqB_tt])
       clear hV h7 hin u0 u1 u2
       go_enter Tryz.func33, Tryz.ntmps33
       go_wp2_with fail
       go_region
       go_wp2_with fail
       go_region
       go_wp2_with fail
       refine (l1In_any _ _ _ _).mono ?_
       rintro e wq ⟨rfl, hq⟩
       subst wq
       go_wp2_with fail
       go_ret
       exact ⟨ret_bool HV.out, by first | exact ((XR _).drew.drew).alloc _ | exact ((XR _).drew.alloc _).drew⟩
     have v2 : (tx.toList == [94]) = false := str_ne' u2
     have HV : Hid (false = V) := LH (by rw [<- hV]; simp [h7, eqB_ff u0, eqB_ff u1, eqB_ff u2])
     clear hV h7 hin u0 u1 u2
     go_enter Tryz.func33, Tryz.ntmps33
     go_wp2_with fail
     go_region
     go_wp2_with fail
     go_region
     go_wp2_with fail
     refine (l1In_any _ _ _ _).mono ?_
     rintro e wq ⟨rfl, hq⟩
     subst wq
     go_wp2_with fail
     go_ret
     exact ⟨ret_bool HV.out, by first | exact ((XR _).drew.drew).alloc _ | exact ((XR _).drew.alloc _).drew⟩
   have s7 := int_ne h7
   have HV : Hid (false = V) := LH (by rw [<- hV]; simp [hin, s7, h7])
   clear hV h7 hin
   go_enter Tryz.func33, Tryz.ntmps33
   go_wp2_with fail
   go_region
   go_wp2_with fail
   go_region
   go_wp2_with fail
   refine (l1In_any _ _ _ _).mono ?_
   rintro e wq ⟨rfl, hq⟩
   subst wq
   go_wp2_with fail
   go_ret
   exact ⟨ret_bool HV.out, by first | exact ((XR _).drew.drew).alloc _ | exact ((XR _).drew.alloc _).drew⟩
 have hge : (ts.length : Int) <= a := by omega
 have hd : decide ((ts.length : Int) <= a) = true := decide_eq_true hge
 obtain ⟨e1, e2, e3⟩ := tkK_none (ts := ts) (a := a) (by omega)
 have HV : Hid (false = V) := LH (by rw [<- hV, e1]; rfl)
 clear hV h e1 e2 e3 c2
 have hd2 : decide (ts.length <= a) = true := decide_eq_true (by omega)
 go_enter Tryz.func33, Tryz.ntmps33
 go_wp2_with fail
 go_region
 go_wp2_with fail
 trace_state
 go_ret
 exact ⟨ret_bool HV.out, Ext.drew (XR _)⟩
theorem ne1 (c : UInt8) : ((⟨#[c]⟩ : ByteArray).toList == []) = false := str_ne' (l := []) (fun h => by injection h with h; cases h)
def SendP (w : World) (t : MExpr) (fp gp : List Nat) (e : Ending) (w' : World) : Prop := ∃ cs' fp', e = .returned (.agg (List.toArray cs')) /\ RepF w' t.d cs' fp' /\ (∀ k, k ∈ fp' -> k ∈ fp ∨ k ∈ gp ∨ w.heap.size <= k) /\ Ext w w'
theorem l3Send_any {w : World} {x : MExpr} {cs : List Value} {fp : List Nat} (s : ByteArray) {l : List MExpr} {ao : Option Addr} {cap : Nat} {gp : List Nat} (hr : RepF w x.d cs fp) (ha : RepF w (MExprs l) [.slice ao l.length cap] gp) (hl : l.length <= 100000) :
 Calls Tryz.prog 74 #[.agg cs.toArray, .string s, .slice ao l.length cap] w (SendP w (eMsg s (x :: l)) fp gp) := by
 obtain ⟨y1, y2, y3, y4, rfl⟩ := fld5 hr
 go_enter Tryz.func74, Tryz.ntmps74
 go_upto_region 1 with fail
 generalize hS : World.alloc (World.alloc w _) _ = W1
 have x1 : Ext w W1 := by rw [<- hS]; exact ((XR _).alloc _).alloc _
 have OX : Own W1 w.heap.size 70 #[.int .i64 x.kind, .string x.text, .int .i64 x.number, .slice y1 x.names.length y2, .slice y3 x.kids.length y4] := by rw [<- hS]; exact (own_new w _ _).ext ((XR _).alloc _)
 have OR : Own W1 (w.heap.size + 1) 70 #[.int .i64 0, .string ⟨#[]⟩, .int .i64 0, .slice none 0 0, .slice none 0 0] := by rw [<- hS]; exact own_new2 w _ _ _
 have hs1 : w.heap.size + 1 + 1 <= W1.heap.size := by rw [<- hS]; simp
 clear hS
 have HR1 := LH (hr.ext x1)
 have HA1 := LH (ha.ext x1)
 have hfl := hr.lt
 have hgl := ha.lt
 have HF : Hid (∀ k, k ∈ fp -> k < w.heap.size) := LH hfl
 have HG : Hid (∀ k, k ∈ gp -> k < w.heap.size) := LH hgl
 clear hr ha hfl hgl
 have q0 := OX.k0
 have qf0 := OX.f0
 have q1 := OX.k1
 have qf1 := OX.f1
 have q2 := OX.k2
 have qf2 := OX.f2
 have q3 := OX.k3
 have qf3 := OX.f3
 have q4 := OX.k4
 have qf4 := OX.f4
 have qz := OX.lt
 have x2 : Ext W1 (W1.alloc (.cells #[.int .i64 x.kind, .string x.text, .int .i64 x.number, .slice y1 x.names.length y2, .slice y3 x.kids.length y4] 70)) := (XR W1).alloc _
 have KD : AccXS (fun k => k ∈ fp ∨ k ∈ gp) (w.heap.size + 1 + 1) (W1.alloc (.cells #[.int .i64 x.kind, .string x.text, .int .i64 x.number, .slice y1 x.names.length y2, .slice y3 x.kids.length y4] 70)) (.slice (some ⟨W1.heap.size, 0, none⟩) 1 1) [x] := AccXS.one (HR1.out.ext x2) (own_new W1 #[.int .i64 x.kind, .string x.text, .int .i64 x.number, .slice y1 x.names.length y2, .slice y3 x.kids.length y4] 70) (by omega) (fun k hk => ⟨Or.inl hk, by have := HF.out k hk; omega⟩)
 have HSL := HA1.out.ext x2
 have F1 : ∀ k, k ∈ gp.tail -> k ∈ fp ∨ k ∈ gp := fun k hk => Or.inr (List.mem_of_mem_tail hk)
 have F2 : ∀ k, (Value.slice (some ⟨W1.heap.size, 0, none⟩) 1 1).ownBlock = some k -> k ∉ gp.tail := fun k hk hm => by
  have := HG.out k (List.mem_of_mem_tail hm)
  simp [Value.ownBlock] at hk
  omega
 have hl1 : ([x] : List MExpr).length + l.length <= 1073741824 := by simp; omega
 go_wp2_with (at_builtin; refine wpList_append_xs rfl _ _ rfl (w.heap.size + 1 + 1) _ [x] rfl KD l _ _ _ gp rfl HSL F1 F2 hl1 (by simp; omega) ?_)
 intro a1 k1 w7 ac1 g1 m1
 have TG : Touch (W1.alloc (.cells #[.int .i64 x.kind, .string x.text, .int .i64 x.number, .slice y1 x.names.length y2, .slice y3 x.kids.length y4] 70)) w7 [W1.heap.size] := (Touch.of_ext (XR _) _).grown g1 fun k hk => Or.inl (by simp [Value.ownBlock] at hk; simp [hk])
 have OR7 := (OR.ext x2).touch' TG (by simp; omega)
 have X7 : Ext w w7 := Touch.ext (x1.trans x2) TG (fun k hk => by simp at hk; omega)
 obtain ⟨va, vc, gq, hv7, hr7, hge7⟩ := AccXS.rep ac1
 have e7 : (x :: l).length = 1 + l.length := by rw [List.length_cons, Nat.add_comm]
 rw [e7] at hv7 hr7
 injection hv7 with hv7 _ hv8
 subst hv7
 subst hv8
 have HR7 := LH hr7
 have HF7 : Hid (∀ k, k ∈ gq -> k ∈ fp ∨ k ∈ gp ∨ w.heap.size + 2 <= k) := LH fun k hk => by
  rcases hge7 k hk with h | h
  · rcases h with h | h
    · exact Or.inl h
    · exact Or.inr (Or.inl h)
  · have := (AcwS.ge ac1 h).1; exact Or.inr (Or.inr (by omega))
 have HX7 := LH X7
 clear KD HSL F1 F2 hl1 g1 m1 TG ac1 OX OR HR1 HA1 hr7 hge7 e7 x1 x2 X7 q0 qf0 q1 qf1 q2 qf2 q3 qf3 q4 qf4 qz
 have r0 := OR7.k0
 have rf0 := OR7.f0
 have r1 := OR7.k1
 have rf1 := OR7.f1
 have r2 := OR7.k2
 have rf2 := OR7.f2
 have r3 := OR7.k3
 have rf3 := OR7.f3
 have r4 := OR7.k4
 have rf4 := OR7.f4
 have rz := OR7.lt
 go_wp2_with fail
 generalize hS : World.setCell (World.setCell (World.setCell (World.setCell (World.setCell w7 _ _) _ _) _ _) _ _) _ _ = W8
 obtain ⟨O8, T8⟩ := own5 OR7 (.int .i64 6) (.string s) (.int .i64 0) (.slice none 0 0) (.slice a1 (1 + l.length) k1)
 rw [hS] at O8 T8
 clear hS
 have p0 := O8.k0
 have p1 := O8.k1
 have p2 := O8.k2
 have p3 := O8.k3
 have p4 := O8.k4
 have pz := O8.lt
 have R8 := MExpr.shut (x := eMsg s (x :: l)) (rep_nilT W8) (HR7.out.touch T8 (fun k hk hm => by
  have := HF7.out k hk
  simp at hm
  rcases this with h | h | h
  · have := HF.out k h; omega
  · have := HG.out k h; omega
  · omega))
 simp only [List.append_nil, List.nil_append] at R8
 have FIN : SendP w (eMsg s (x :: l)) fp gp (.returned (.agg #[.int .i64 6, .string s, .int .i64 0, .slice none 0 0, .slice a1 (1 + l.length) k1])) W8 := ⟨_, gq, rfl, R8, fun k hk => by
  rcases HF7.out k hk with h | h | h
  · exact Or.inl h
  · exact Or.inr (Or.inl h)
  · exact Or.inr (Or.inr (by omega)), Touch.ext HX7.out T8 (fun k hk => by simp at hk; omega)⟩
 exact bodyPost_ret (v := .agg #[.int .i64 6, .string s, .int .i64 0, .slice none 0 0, .slice a1 (1 + l.length) k1]) (by simp [results, Tryz.results74, go_sem, p0, p1, p2, p3, p4, pz]) rfl FIN
theorem rnames_any {B tb to_ cap : Nat} {ao : Option Addr} {ts : List MToken} {a : Nat} {b : Bool} (w : World) (h : Prs 38 B tb to_ cap ao ts w (a) b)  : Calls Tryz.prog 13 #[.pointer (some ⟨B, 0, none⟩)] w fun e w' => ∃ v l a' b', e = .returned v /\ AccT w.heap.size w' v l /\ Prs 38 B tb to_ cap ao ts w' (a') b' /\ Got b (fun n => pVars ts n a) b' (l, a') /\ a <= a' /\ l.length <= a' - a /\ Touch w w' [B] := by
 have HP := LH h
 have hB0 := h.own.lt
 have hln := h.len
 clear h
 go_enter Tryz.func13, Tryz.ntmps13
 go_upto_region 2 with fail
 generalize hS : World.alloc w _ = W1
 have x1 : Ext w W1 := by rw [<- hS]; exact (XR _).alloc _
 have A1 : Hid (AccT w.heap.size W1 (.slice (some ⟨w.heap.size, 0, none⟩) 0 0) []) := LH (by rw [<- hS]; exact Acc.empty _ _ (Nat.le_refl _))
 have HP1 := LH (HP.out.ext x1)
 have hx1 := x1.size
 have X1 := LH x1
 clear hS x1
 cases hb : tkxB ts a 7 barM
 · have HG : Hid (Got b (fun n => pVars ts n a) b (([] : List ByteArray), a)) := LH (Got.ok ⟨0, fun n _ => by show pVars ts n a = _; rw [pVars, if_neg (by rw [hb]; decide)]⟩)
   have HC := LH (rtake_no W1 HP1.out 7 ⟨#[124]⟩ (by decide) (ne1 _) hb)
   clear hb
   go_wp2_with fail
   refine HC.out.mono ?_
   rintro e w1 ⟨rfl, hx⟩
   go_wp2_with fail
   go_ret
   exact ⟨_, [], a, b, rfl, AccT.ext A1.out hx, HP1.out.ext hx, HG.out, Nat.le_refl _, by simp, Touch.of_ext (X1.out.trans hx) _⟩
 have HC := LH (rtake_yes W1 HP1.out 7 ⟨#[124]⟩ (by decide) (ne1 _) hb)
 have HB := LH hb
 have H0 : Hid (∀ r, Ev (fun n => pNames ts n [] (a + 1)) r -> Ev (fun n => pNames ts n [] (a + 1)) r) := LH fun r h => h
 clear hb
 go_wp2_with fail
 refine HC.out.mono ?_
 rintro e w0 ⟨rfl, K1, T1⟩
 have A2 := LH (AccT.low A1.out T1 (fun k hk => by simp at hk; omega))
 have HP2 := LH K1
 have HT2 := LH ((Touch.of_ext X1.out [B]).trans T1)
 clear K1 T1 A1 HP1 X1 HC
 go_wp2_with fail
 go_loopw [3] (fun v wr => ∃ (l : List ByteArray) (j : Nat), AccT w.heap.size wr v l /\ Prs 38 B tb to_ cap ao ts wr (j) b /\ Hid (∀ r, Ev (fun n => pNames ts n l j) r -> Ev (fun n => pNames ts n [] (a + 1)) r) /\ a + 1 <= j /\ l.length + a + 1 <= j /\ Touch w wr [B]) (fun _ wr => ts.length + 1 - placeOf B wr)
 case atStart => exact ⟨[], a + 1, A2.out, HP2.out, H0, Nat.le_refl _, by simp, HT2.out⟩
 case round =>
  clear A2 HP2 H0 HT2
  obtain ⟨v, hv⟩ : ∃ x, x = u3 := ⟨_, rfl⟩
  subst hv
  obtain ⟨l, j, hA, hP, hR, haj, hlj, hT⟩ := hrel
  have HA := LH hA
  have HPj := LH hP
  have HT := LH hT
  have hjl := hP.le
  have hws := hT.size
  clear hA hP hT
  cases hb1 : tkB ts j 1
  · have he : Hid (Ev (fun n => pNames ts n [] (a + 1)) (some (l, j))) := LH (hR.out _ (Ev.step (g := fun _ => some (l, j)) (fun n => by rw [pNames, if_neg (by rw [hb1]; decide)]) (Ev.const _)))
    have HI := LH (risk_any wr HPj.out 1 (by decide))
    rw [hb1] at HI
    clear hb1 hR
    go_wp2_with fail
    refine HI.out.mono ?_
    rintro e w2 ⟨rfl, hx⟩
    have HA2 := LH (AccT.ext HA.out hx)
    have HT2 := LH (HT.out.trans (Touch.of_ext hx [B]))
    have HK2 := LH (HPj.out.ext hx)
    have hs2 := hx.size
    clear HA HT HPj hx HI
    cases hb : tkxB ts j 7 barM
    · have HG : Hid (Got b (fun n => pVars ts n a) true (l, j)) := LH (Got.bad _ (by
       obtain ⟨n0, h0⟩ := he.out
       refine ⟨n0, fun n hn => ?_⟩
       have h1 : pNames ts n [] (a + 1) = some (l, j) := h0 n hn
       show pVars ts n a = none
       rw [pVars, if_pos HB.out, h1]
       show (if tkxB ts j 7 barM = true then some (l, j + 1) else none) = none
       rw [if_neg (by rw [hb]; decide)]))
      have HC2 := LH (rneedx_no w2 HK2.out 7 ⟨#[124]⟩ (by decide) (ne1 _) hb)
      clear hb
      go_wp2_with fail
      refine HC2.out.mono ?_
      rintro e w3 ⟨rfl, K3, T3⟩
      have A3 := AccT.low HA2.out T3 (fun k hk => by simp at hk; omega)
      go_wp2_with fail
      go_ret
      exact ⟨_, l, j, true, rfl, A3, K3, HG.out, by omega, by omega, HT2.out.trans T3⟩
    have HG : Hid (Got b (fun n => pVars ts n a) b (l, j + 1)) := LH (Got.ok (by
     obtain ⟨n0, h0⟩ := he.out
     refine ⟨n0, fun n hn => ?_⟩
     have h1 : pNames ts n [] (a + 1) = some (l, j) := h0 n hn
     show pVars ts n a = some (l, j + 1)
     rw [pVars, if_pos HB.out, h1]
     show (if tkxB ts j 7 barM = true then some (l, j + 1) else none) = some (l, j + 1)
     rw [if_pos hb]))
    have HC2 := LH (rneedx_yes w2 HK2.out 7 ⟨#[124]⟩ (by decide) (ne1 _) hb)
    clear hb
    go_wp2_with fail
    refine HC2.out.mono ?_
    rintro e w3 ⟨rfl, K3, T3⟩
    have A3 := AccT.low HA2.out T3 (fun k hk => by simp at hk; omega)
    go_wp2_with fail
    go_ret
    exact ⟨_, l, j + 1, b, rfl, A3, K3, HG.out, by omega, by omega, HT2.out.trans T3⟩
  have hjt := kind_lt (by decide) hb1
  have HE : Hid (∀ r, Ev (fun n => pNames ts n (l ++ [tkT ts j]) (j + 1)) r -> Ev (fun n => pNames ts n [] (a + 1)) r) := LH (fun r h => hR.out r (Ev.step (g := fun n => pNames ts n (l ++ [tkT ts j]) (j + 1)) (fun n => by rw [pNames, if_pos hb1]) h))
  have HI := LH (risk_any wr HPj.out 1 (by decide))
  rw [hb1] at HI
  have HB1 := LH hb1
  clear hb1 hR
  go_wp2_with fail
  refine HI.out.mono ?_
  rintro e w2 ⟨rfl, hx⟩
  have HC2 := LH (rneedk_yes w2 (HPj.out.ext hx) 1 (by decide) HB1.out)
  have htz := HPj.out.txt j
  have HA2 := LH (AccT.ext HA.out hx)
  have HT2 := LH (HT.out.trans (Touch.of_ext hx [B]))
  have hs2 := hx.size
  generalize tkT ts j = tx at *
  clear HA HT hx HI HB1
  go_wp2_with fail
  refine HC2.out.mono ?_
  rintro e w3 ⟨rfl, K3, T3⟩
  have A3 : AccT w.heap.size w3 v l := AccT.low HA2.out T3 (fun k hk => by simp at hk; omega)
  have hs3 := T3.size
  have HK3 := LH K3
  have HT3 := LH (HT2.out.trans T3)
  have KD := AccT.ext A3 ((XR w3).alloc (.cells #[.string tx] 9))
  clear K3 T3 A3 HA2 HT2 HC2
  go_wp2_with (at_builtin; refine wpList_append_strs_at rfl _ _ rfl w.heap.size v l rfl KD [tx] _ _ _ rfl (rep_one _ _) (by simp; omega) (by simp; omega) ?_)
  intro a1 k1 w4 ac1 g1 m1
  have TG : Touch (w3.alloc (.cells #[.string tx] 9)) w4 v.ownBlock.toList := (Touch.of_ext (XR _) _).grown g1 fun k hk => Or.inl (by simp [hk])
  have HK4 := LH (HP.out.late (HK3.out.ext ((XR w3).alloc (.cells #[.string tx] 9))) TG (fun k hk => (Acc.ge KD (k := k) (by simpa using hk)).1))
  have HT4 := LH ((HT3.out.trans (Touch.of_ext ((XR w3).alloc (.cells #[.string tx] 9)) [B])).late2 TG (fun k hk => (Acc.ge KD (k := k) (by simpa using hk)).1))
  have HAC := LH ac1
  clear KD g1 m1 HK3 HT3 TG ac1
  generalize hv1 : Value.slice a1 (l.length + [tx].length) k1 = v1 at *
  go_wp2_with fail
  refine ⟨⟨l ++ [tx], j + 1, HAC.out, HK4.out, HE, by omega, by simp; omega, HT4.out⟩, ?_⟩
  rw [placeOf_eq HPj.out, placeOf_eq HK4.out]; omega
end Go.Proofs.YtlcebafhbceejaaGreatDoor
