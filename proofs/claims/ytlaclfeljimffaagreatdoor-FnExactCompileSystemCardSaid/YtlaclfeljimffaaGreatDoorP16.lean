/-
  SEVERAL TEXTS IN ONE: CONTRACTS: the program's compiler: code; CONTRACTS: BuiltinClasses, of the program and of the reference; CONTRACTS: none: what the classes of a system are, as plain data; CONTRACTS: the built-in classes as they stand in a system, of the program and of the reference; CONTRACTS: slices.Equal, EqualOutcomes, EqualCodes, of the program and of the reference.
  Conditions: those that each lemma states.
-/
import Derived.Test.YtlaclfeljimffaaGreatDoorRows
import Derived.Deep.RegionHeld3
import Derived.Deep.DeepCutAuto
import Derived.Test.YtlaclfeljimffaaGreatDoorP15
import Derived.Test.YtlaclfeljimffaaGreatDoorP02
import Derived.Test.YtlaclfeljimffaaGreatDoorP03
import Derived.Test.YtlaclfeljimffaaGreatDoorP11
import Derived.Test.YtlaclfeljimffaaGreatDoorP14
namespace Go.Proofs.YtlaclfeljimffaaGreatDoor
open Go.RowKit
set_option maxHeartbeats 8000000
set_option maxRecDepth 100000
set_option linter.unusedSimpArgs false
set_option linter.unusedVariables false
theorem RepF.code_row {w : World} {b : Nat} {x : MCode} {v : Value} {gp : List Nat} (h : RepF w (MInstrs x.instrs) [v] gp) (hO : Own w b 88 #[.bool x.block, .int .i64 x.params, .int .i64 x.slots, v]) :
 RepF w (.sl 4 [x.d]) [.slice (some ⟨b, 0, none⟩) 1 1] (b :: gp) := by
 have h1 := MCode.shut (x := x) h
 rw [List.append_nil] at h1
 refine RepF.sl_iff.2 ⟨_, 1, by simp, by simp, by unfold maxLen; omega, by simp, Or.inr ⟨b, 0, _, gp, by simp, rfl, rfl, hO.lt, fun j c hj => ?_, RepR.one h1 rfl⟩⟩
 rw [Nat.zero_add, hO.cell]
 simpa using hj
theorem RowsC.inner {B0 : Nat} {L : List Nat} {m : Rw} {w W : World} {s : CS} {wb cb : Nat} (R : RowsC B0 L m w s) (hcb : cb ∈ L) (hx : Ext w W) (hw : w.heap.size <= wb) (hz : wb < W.heap.size) : RowsC B0 [wb, cb] ⟨.slice none 0 0, m.vc, m.fp⟩ W (s.1, []) := by
 have hb := R.base cb hcb
 have hs := hx.size
 have hnn : ∀ k, k ∈ (⟨.slice none 0 0, m.vc, m.fp⟩ : Rw).own -> m.vc.ownBlock = some k := fun k hk => by
  rcases Rw.mem_own.1 hk with e | e
  · exact nomatch e
  · exact e
 refine ⟨Acc.nil _ _ _ _, Acc.ext R.lc hx, fun k hk => (nomatch hk), fun k hk => ?_, fun k hk => ?_⟩
 · rcases List.mem_cons.1 hk with rfl | hk
   · exact ⟨fun e => by have := (Acc.ge R.lc (hnn _ e)).2; omega, fun e => by have := R.fresh.lt e; omega⟩
   · obtain rfl := List.mem_singleton.1 hk
     exact ⟨fun e => (R.box k hcb).1 (Rw.mem_own.2 (Or.inr (hnn _ e))), (R.box k hcb).2⟩
 · rcases List.mem_cons.1 hk with rfl | hk
   · omega
   · obtain rfl := List.mem_singleton.1 hk
     omega
theorem RowsC.coded {B0 : Nat} {L : List Nat} {m m6 : Rw} {w W2 w6 wA w7 : World} {s t : CS} {wb cb : Nat} {v1 : Value} {codes : List MCode} {gp : List Nat} (R : RowsC B0 L m w s) (hcb : cb ∈ L) (x2 : Ext w W2) (hw : w.heap.size <= wb) (h6 : StI B0 wb cb m6 w6 t)
 (M6 : Mv [wb, cb] ⟨.slice none 0 0, m.vc, m.fp⟩ W2 m6 w6) (xA : Ext w6 wA) (TG : Touch wA w7 m6.vc.ownBlock.toList) (O7 : Own w7 cb 101 #[m6.vc]) (ac : AccK B0 w7 v1 codes (m6.fp ++ gp)) (hloc : v1.ownBlock = m6.vc.ownBlock ∨ v1.ownBlock = some wA.heap.size) (hgp : ∀ k, k ∈ gp -> m6.vl.ownBlock = some k) :
 Own (w7.setCell ⟨cb, 0, none⟩ v1) cb 101 #[v1] /\ RowsC B0 L ⟨m.vl, v1, m6.fp ++ gp⟩ (w7.setCell ⟨cb, 0, none⟩ v1) (codes, s.2) /\ Mv L m w ⟨m.vl, v1, m6.fp ++ gp⟩ (w7.setCell ⟨cb, 0, none⟩ v1) /\ Touch w (w7.setCell ⟨cb, 0, none⟩ v1) (cb :: m.vc.ownBlock.toList) := by
 have hs2 := x2.size
 have hsA := xA.size
 have hs6 := M6.t.size
 have T9 : Touch w7 (w7.setCell ⟨cb, 0, none⟩ v1) [cb] := (Touch.of_ext (XR _) _).setCell (by simp) _
 have hvc : ∀ k, m6.vc.ownBlock = some k -> m.vc.ownBlock = some k ∨ w.heap.size <= k := fun k hk => by
  rcases M6.c k hk with e | e
  · exact Or.inl e
  · exact Or.inr (by omega)
 have TA : Touch w wA (cb :: m.vc.ownBlock.toList) := ((Touch.of_ext x2 _).trans' M6.t fun k hk => by
  rcases List.mem_append.1 hk with hk | hk
  · rcases List.mem_cons.1 hk with rfl | hk
    · exact Or.inr hw
    · obtain rfl := List.mem_singleton.1 hk
      exact Or.inl (by simp)
  · rcases Rw.mem_own.1 hk with e | e
    · exact nomatch e
    · have e2 : m.vc.ownBlock = some k := e
      exact Or.inl (by simp [e2])).trans (Touch.of_ext xA _)
 have T7 : Touch w w7 (cb :: m.vc.ownBlock.toList) := TA.trans' TG fun k hk => by
  rcases hvc k (by simpa using hk) with e | e
  · exact Or.inl (by simp [e])
  · exact Or.inr e
 have TT : Touch w (w7.setCell ⟨cb, 0, none⟩ v1) (cb :: m.vc.ownBlock.toList) := T7.trans (T9.mono (by simp))
 have hbx := h6.2.2.1.box cb (by simp)
 have hb6 := h6.2.2.1.base cb (by simp)
 have hcv : v1.ownBlock ≠ some cb := fun e => by
  rcases hloc with e2 | e2
  · exact hbx.1 (Rw.mem_own.2 (Or.inr (e2.symm.trans e)))
  · rw [e2] at e
    injection e with e
    omega
 have ac9 : AccK B0 (w7.setCell ⟨cb, 0, none⟩ v1) v1 codes (m6.fp ++ gp) := Acc.touch ac T9 (fun k hk hm => by obtain rfl := List.mem_singleton.1 hm; exact hcv hk) (fun k hk hm => by
  obtain rfl := List.mem_singleton.1 hm
  rcases List.mem_append.1 hk with hk | hk
  · exact hbx.2 hk
  · exact hbx.1 (Rw.mem_own.2 (Or.inl (hgp _ hk))))
 obtain ⟨g1, g2⟩ := R.codes TT (fun k hk => by
  rcases List.mem_cons.1 hk with rfl | hk
  · exact Or.inl hcb
  · exact Or.inr (Or.inl (by simpa using hk))) ac9 (fun k hk => by
  rcases hloc with e | e
  · exact hvc k (by rw [<- e]; exact hk)
  · rw [e] at hk
    injection hk with hk
    have := TA.size
    exact Or.inr (by omega)) (fun k hk => by
  rcases List.mem_append.1 hk with hk | hk
  · rcases M6.f k hk with e | e
    · exact Or.inl e
    · exact Or.inr (by omega)
  · rcases M6.l k (hgp k hk) with e | e
    · exact nomatch e
    · exact Or.inr (by omega))
 exact ⟨O7.set 0 v1, g1, g2, TT⟩
theorem StI.freshK {B0 wb cb : Nat} {m : Rw} {w wA : World} {t : CS} {gp : List Nat} (h : StI B0 wb cb m w t) (hF : Fresh w B0 gp) (hgp : ∀ k, k ∈ gp -> m.vl.ownBlock = some k) (hx : Ext w wA) : Fresh wA B0 (m.fp ++ gp) /\ ∀ k, m.vc.ownBlock = some k -> k ∉ gp := by
 have hR := h.2.2.1
 have h1 := hR.fresh
 refine ⟨Fresh.ext ⟨List.nodup_append.2 ⟨h1.nodup, hF.nodup, fun x hx y hy e => ?_⟩, fun b hm => ?_, fun b hm => ?_⟩ hx, fun k hk hm => (hR.sep k (hgp k hm)).1 hk⟩
 · subst e
   exact (hR.sep x (hgp x hy)).2 hx
 · rcases List.mem_append.1 hm with hm | hm
   · exact h1.ge b hm
   · exact hF.ge b hm
 · rcases List.mem_append.1 hm with hm | hm
   · exact h1.own b hm
   · exact hF.own b hm
theorem code_at {f : CF} (hf : Few f) {c : MCore} (HN0 : NodeI f c) (bl : Bool) (p sl : Int) {cs : List Value} {w0 : World} (w : World) {B0 cb : Nat} {L : List Nat} {m : Rw} {s : CS} (rc : Rep w0 c.d cs) (hx : Ext w0 w) (hB : w0.heap.size <= B0) (OP : Own w cb 101 #[m.vc]) (R : RowsC B0 L m w s) (hcb : cb ∈ L) (hr : Room (s.1, []) (c.nodes + 1)) :
 Calls Tryz.prog 54 #[.pointer (some ⟨cb, 0, none⟩), .bool bl, .int .i64 p, .int .i64 sl, .agg cs.toArray] w (fun e w' => ∃ m', e = .returned (.int .i64 ((codeF f bl p sl c s.1).length - 1 : Nat)) /\ m'.vl = m.vl /\ Own w' cb 101 #[m'.vc] /\ RowsC B0 L m' w' (codeF f bl p sl c s.1, s.2) /\ Mv L m w m' w' /\ Touch w w' (cb :: m.vc.ownBlock.toList)) := by
 obtain ⟨aa0, cc0, rfl, -⟩ := MCore.op_en rc
 have HN := LH HN0
 have HR := LH R
 have HRM := LH hr
 have HF := LH hf
 have hcz := (R.base cb hcb).2
 have hBw : B0 <= w.heap.size := by have := (R.base cb hcb).1; omega
 clear HN0 R hr hf
 have HCD : Hid (codeF f bl p sl c s.1 = (pt (f c (s.1, [])) (iO 19)).1 ++ [⟨bl, p, sl, (pt (f c (s.1, [])) (iO 19)).2⟩]) := LH rfl
 generalize codeF f bl p sl c s.1 = CD at HCD ⊢
 go_enter Tryz.func54, Tryz.ntmps54
 go_upto_region 1 with fail
 generalize hS : World.alloc w _ = W1
 have x1 : Ext w W1 := by rw [<- hS]; exact (XR _).alloc _
 have OK : Own W1 w.heap.size 42 #[.int .i64 c.kind, .string c.text, .int .i64 c.number, .int .i64 c.depth, .slice aa0 c.kids.length cc0] := by rw [<- hS]; exact own_new w _ _
 have hs1 := x1.size
 have zK := OK.lt
 clear hS
 go_upto_region 2 with fail
 generalize hS : World.alloc W1 _ = W2
 have x2 : Ext W1 W2 := by rw [<- hS]; exact (XR _).alloc _
 have OW : Own W2 W1.heap.size 140 #[.pointer (some ⟨cb, 0, none⟩), .slice none 0 0] := by rw [<- hS]; exact own_new W1 _ _
 have zW := OW.lt
 clear hS
 have hx2 : Ext w W2 := x1.trans x2
 have hx02 := hx.trans hx2
 have HI : Hid (StI B0 W1.heap.size cb ⟨.slice none 0 0, m.vc, m.fp⟩ W2 (s.1, [])) := LH ⟨OW, OP.ext hx2, HR.out.inner hcb hx2 hs1 zW, by omega⟩
 have OK2 := OK.ext x2
 generalize W1.heap.size = wb at *
 clear x1 x2 OK OP OW hx
 have q0 := OK2.k0
 have qf0 := OK2.f0
 have q1 := OK2.k1
 have qf1 := OK2.f1
 have q2 := OK2.k2
 have qf2 := OK2.f2
 have q3 := OK2.k3
 have qf3 := OK2.f3
 have q4 := OK2.k4
 have qf4 := OK2.f4
 have qz := OK2.lt
 have hq2 := hx2.size
 go_wp2_with fail
 refine (HN.out _ w0 W2 B0 wb cb ⟨.slice none 0 0, m.vc, m.fp⟩ _ rc hx02 hB HI.out (HRM.out.mono (by omega))).mono ?_
 rintro e w5 ⟨m5, rfl, h5, k5⟩
 have HS5 := LH h5
 have HM5 := LH k5
 clear h5 k5 HI OK2 q0 qf0 q1 qf1 q2 qf2 q3 qf3 q4 qf4 qz
 go_wp2_with fail
 refine (op_any 19 w5 HS5.out (by have := (HRM.out.adds (n := c.nodes) ((HF.out c (s.1, [])).adds)).1; omega)).mono ?_
 rintro e w6 ⟨m6, rfl, h6, k6⟩
 have hrt : (pt (f c (s.1, [])) (iO 19)).1.length <= 1000000 := by have := ((HRM.out.adds (n := c.nodes) ((HF.out c (s.1, [])).adds)).mono (Nat.zero_le _)).2; simpa [pt] using this
 generalize pt (f c (s.1, [])) (iO 19) = t at *
 have HS6 := LH h6
 have HM6 := LH (HM5.out.trans k6)
 clear h6 k6 HS5 HM5
 have O6 := HS6.out.1
 have P6 := HS6.out.2.1
 have c0 := P6.k0
 have z0 := P6.lt
 have z1 := O6.lt
 obtain ⟨ao, cap, gp, hvl, hrp, hfr, hgp⟩ := AccI.rep HS6.out.2.2.1.li
 have c1 : w6.cell? ⟨wb, 1, none⟩ = some (.slice ao t.2.length cap) := by rw [<- hvl]; exact O6.cell 1
 have XA : Hid (Ext w6 (w6.alloc (.cells #[.bool bl, .int .i64 p, .int .i64 sl, .slice ao t.2.length cap] 88)).drew) := LH (Ext.drew ((XR _).alloc _))
 have HFK := LH (HS6.out.freshK hfr hgp XA.out)
 have HGP := LH hgp
 have HDL : Hid ((t.1.map MCode.d).length = t.1.length) := LH (by simp)
 have E1 : Hid (Acc B0 (w6.alloc (.cells #[.bool bl, .int .i64 p, .int .i64 sl, .slice ao t.2.length cap] 88)).drew 88 4 m6.vc (t.1.map MCode.d) m6.fp) := LH (Acc.ext HS6.out.2.2.1.lc XA.out)
 have HDS : Hid ((t.1 ++ [(⟨bl, p, sl, t.2⟩ : MCode)]).map MCode.d = t.1.map MCode.d ++ [(⟨bl, p, sl, t.2⟩ : MCode).d]) := LH (by simp)
 generalize t.1.map MCode.d = DS at *
 have E2 : Hid (RepF (w6.alloc (.cells #[.bool bl, .int .i64 p, .int .i64 sl, .slice ao t.2.length cap] 88)).drew (.sl 4 [(⟨bl, p, sl, t.2⟩ : MCode).d]) [.slice (some ⟨w6.heap.size, 0, none⟩) 1 1] (w6.heap.size :: gp)) := LH (RepF.code_row (x := ⟨bl, p, sl, t.2⟩) (hrp.ext XA.out) ((own_new w6 #[.bool bl, .int .i64 p, .int .i64 sl, .slice ao t.2.length cap] 88).ext (Ext.drew (XR _))))
 have hb1 : B0 <= (w6.alloc (.cells #[.bool bl, .int .i64 p, .int .i64 sl, .slice ao t.2.length cap] 88)).drew.heap.size := by have := XA.out.size; have := HM6.out.t.size; omega
 have OPA : Hid (Own (w6.alloc (.cells #[.bool bl, .int .i64 p, .int .i64 sl, .slice ao t.2.length cap] 88)).drew cb 101 #[m6.vc]) := LH (P6.ext XA.out)
 have HOB : Hid (∀ k, m6.vc.ownBlock = some k -> k ≠ cb) := LH fun k hk e => (HS6.out.2.2.1.box cb (by simp)).1 (by rw [<- e]; exact Rw.mem_own.2 (Or.inr hk))
 clear hrp hfr hgp O6 P6 hvl
 obtain ⟨i0, hi, hz0, hz1, hz2⟩ := info_parts codeInfo
 go_upto_region 4 with fail
 go_region_law ((refine step_append_at rfl _ _ 33 rfl B0 88 i0 _ 4 48 Tryz.underlying33 hi hz0 hz1 hz2 rfl (by decide) m6.vc DS m6.fp rfl E1.out [(⟨bl, p, sl, t.2⟩ : MCode).d] _ 1 1 (w6.heap.size :: gp) rfl E2.out HFK.out.1 HFK.out.2 (by have := HDL.out; unfold maxLen; omega) (by have := HDL.out; omega) hb1 ?_; intro a7 k7 w7 ac hg hloc; have TG : Touch _ w7 m6.vc.ownBlock.toList := (Touch.of_ext (XR _) _).grown hg (fun j hj => Or.inl (by simp [hj])); have O7 := OPA.out.touch' TG (fun hm => HOB.out cb (by simpa using hm) rfl); have c7 := O7.cell 0; have f7 := O7.f0; have z7 := O7.lt))
 all_goals
  have hl := HDL.out
  generalize hv1 : Value.slice a7 (DS.length + 1) k7 = v1 at *
  have HV1 := LH hv1
  have hcl : CD.length - 1 = t.1.length := by rw [HCD.out]; simp
  have HA : AccK B0 w7 v1 (t.1 ++ [⟨bl, p, sl, t.2⟩]) (m6.fp ++ gp) := by unfold AccK; rw [HDS.out]; exact ac
  obtain ⟨O9, R9, M9, T9⟩ := HR.out.coded hcb hx2 (by omega) HS6.out HM6.out XA.out TG O7 HA hloc HGP.out
  rw [<- HCD.out] at R9
  generalize hS : World.setCell w7 _ v1 = W9 at *
  have FIN := LH (And.intro O9 (And.intro R9 (And.intro M9 T9)))
  have n1 : W9.cell? ⟨cb, 0, none⟩ = some (.slice a7 (DS.length + 1) k7) := by rw [HV1.out]; exact O9.cell 0
  clear hS R9 M9 T9 O9 O7 c7 f7 z7 TG HA ac hg hloc c0 c1 hi hz0 hz1 hz2 hv1 HV1
  go_wp2_with fail
  go_ret
  exact ⟨⟨m.vl, v1, m6.fp ++ gp⟩, by rw [hcl]; first | rfl | (simp [hl]; done) | (simp [hl]; omega) | skip, rfl, FIN.out⟩
def builtinsL : List ByteArray := [⟨#[79, 98, 106, 101, 99, 116]⟩, ⟨#[69, 120, 99, 101, 112, 116, 105, 111, 110]⟩, ⟨#[69, 114, 114, 111, 114]⟩, ⟨#[77, 101, 115, 115, 97, 103, 101, 78, 111, 116, 85, 110, 100, 101, 114, 115, 116, 111, 111, 100]⟩, ⟨#[90, 101, 114, 111, 68, 105, 118, 105, 100, 101]⟩, ⟨#[73, 110, 116, 101, 103, 101, 114]⟩, ⟨#[66, 111, 111, 108, 101, 97, 110]⟩, ⟨#[78, 105, 108]⟩, ⟨#[83, 116, 114, 105, 110, 103]⟩, ⟨#[83, 121, 109, 98, 111, 108]⟩, ⟨#[65, 114, 114, 97, 121]⟩, ⟨#[66, 108, 111, 99, 107]⟩, ⟨#[83, 101, 109, 97, 112, 104, 111, 114, 101]⟩, ⟨#[80, 114, 111, 99, 101, 115, 115]⟩, ⟨#[84, 114, 97, 110, 115, 99, 114, 105, 112, 116]⟩, ⟨#[67, 108, 97, 115, 115]⟩]
theorem spec_BuiltinClasses_any (w : World) : Calls Tryz.prog 95 #[] w (GivesV w (strs builtinsL)) := by
 go_enter Tryz.func95, Tryz.ntmps95
 go_wp2
 go_ret
 exact gives_strs w builtinsL 9 (by simp [builtinsL, maxLen]) (by simp [builtinsL])
theorem impl_BuiltinClasses_any (w : World) : Calls Tryz.prog 110 #[] w (GivesV w (strs builtinsL)) := by
 go_enter Tryz.func110, Tryz.ntmps110
 go_wp2
 go_ret
 exact gives_strs w builtinsL 9 (by simp [builtinsL, maxLen]) (by simp [builtinsL])
def parentsL : List Int := [-1, 0, 1, 2, 2, 0, 0, 0, 0, 0, 0, 0, 0, 0, 0, 0]
def fieldsAt (i : Nat) : List ByteArray := if 1 <= i /\ i <= 4 then [⟨#[116, 101, 120, 116]⟩] else []
def infoAt (i : Nat) : MClassInfo := ⟨builtinsL.getD i ⟨#[]⟩, parentsL.getD i 0, fieldsAt i⟩
def infosL : List MClassInfo := (List.range 16).map infoAt
theorem infosL_length : infosL.length = 16 := by simp [infosL]
theorem infosL_get {i : Nat} (h : i < 16) : infosL[i]? = some (infoAt i) := by
 rw [infosL, List.getElem?_map, List.getElem?_range h]; rfl
theorem infosL_take (i : Nat) (h : i < 16) : infosL.take (i + 1) = infosL.take i ++ [infoAt i] := by
 rw [List.take_add_one, infosL_get h]; rfl
def ClsAt (l : List MClassInfo) (i : Nat) (c : MClassInfo) : Prop :=
 (i < 16 -> c = infoAt i) /\ (16 <= i -> nameB c.name = true /\ (0 <= c.parent /\ c.parent <= (i : Int) - 1) /\ ¬ (5 <= c.parent /\ c.parent <= 15) /\ c.fields.length <= 8 /\ (∀ k e, k < i -> l[k]? = some e -> e.name ≠ c.name) /\
  (∀ p, l[c.parent.toNat]? = some p -> p.fields.length <= c.fields.length /\ c.fields.take p.fields.length = p.fields) /\ (∀ k f, c.fields[k]? = some f -> nameB f = true /\ f ∉ c.fields.take k))
def ClsOk (l : List MClassInfo) : Prop := (16 <= l.length /\ l.length <= 24) /\ ∀ i c, l[i]? = some c -> ClsAt l i c
noncomputable def clsB (l : List MClassInfo) : Bool := eqB (ClsOk l) True
theorem clsB_tt {l : List MClassInfo} (h : ClsOk l) : clsB l = true := eqB_tt (by simp [h])
theorem clsB_ff {l : List MClassInfo} (h : ¬ ClsOk l) : clsB l = false := eqB_ff (by simp [h])
theorem clsB_iff {l : List MClassInfo} : clsB l = true ↔ ClsOk l := by simp [clsB, eqB_iff]
inductive Isa (l : List MClassInfo) : Int -> Prop
 | here : Isa l 1
 | up {k : Int} {c : MClassInfo} (h0 : 0 <= k) (hc : l[k.toNat]? = some c) (h : Isa l c.parent) : Isa l k
theorem RepF.row1 {w : World} {b : Nat} {d : D} {cs : List Value} {f : List Nat} {sz : Nat} (hb : b < w.heap.size) (hl : cs.length = sz) (hc : ∀ j c, cs[j]? = some c -> w.cell? ⟨b, j, none⟩ = some c) (h : RepF w d cs f) : RepF w (.sl sz [d]) [.slice (some ⟨b, 0, none⟩) 1 1] (b :: f) :=
 RepF.sl_iff.2 ⟨_, 1, by simp, by simp, by unfold maxLen; omega, by simp, Or.inr ⟨b, 0, cs, f, by simp, rfl, rfl, hb, fun j c hj => by rw [Nat.zero_add]; exact hc j c hj, RepR.one h hl⟩⟩
theorem Acc.add_facts {B0 : Nat} {w W : World} {e : TypeId} {sz : Nat} {v : Value} {ds : List D} {fp f : List Nat} (h : Acc B0 w e sz v ds fp) (hx : Ext w W) (hf : Fresh W w.heap.size f) (hB : B0 <= w.heap.size) : Fresh W B0 (fp ++ f) /\ ∀ k, v.ownBlock = some k -> k ∉ f := by
 obtain ⟨xs, h1, h2, h3, h4⟩ := h
 refine ⟨h3.append hx hf (Nat.le_refl _) hB, fun k hk hm => ?_⟩
 have hge := hf.ge k hm
 rcases h1.2 with ⟨rfl, _⟩ | ⟨g, cap, cur, rfl, hg, hh, _⟩
 · cases hk
 · simp [Value.ownBlock] at hk
   subst hk
   have := (Array.getElem?_eq_some_iff.1 hh).1
   omega
theorem ciInfo : (Tryz.prog.info? 96).map (fun i => (i.zero, i.size, i.bytes)) = some (some (.agg #[.string ByteArray.empty, .int .i64 0, .slice none 0 0]), 3, 48) := by kernel_rfl
theorem row3 {w : World} {b : Nat} {x0 x1 x2 : Value} (h0 : w.cell? ⟨b, 0, none⟩ = some x0) (h1 : w.cell? ⟨b, 1, none⟩ = some x1) (h2 : w.cell? ⟨b, 2, none⟩ = some x2) : ∀ j c, [x0, x1, x2][j]? = some c -> w.cell? ⟨b, j, none⟩ = some c := fun j c h => by
 match j with
 | 0 => simp at h; rw [h0, h]
 | 1 => simp at h; rw [h1, h]
 | 2 => simp at h; rw [h2, h]
 | j + 3 => simp at h
theorem par_high {j : Nat} (h : 5 <= j) (h2 : j < 16) : parentsL.getD j 0 = 0 := by
 have : ∀ j, j < 16 -> 5 <= j -> parentsL.getD j 0 = 0 := by decide
 exact this j h2 h
theorem nil_strs (w : World) : RepF w (strs []) [.slice none 0 0] [] := RepF.sl_iff.2 ⟨_, _, rfl, by simp, by simp, by simp, Or.inl ⟨rfl, rfl⟩⟩
theorem one_str {w : World} {b : Nat} {s : ByteArray} (hb : b < w.heap.size) (h : w.cell? ⟨b, 0, none⟩ = some (.string s)) : RepF w (strs [s]) [.slice (some ⟨b, 0, none⟩) 1 1] [b] := by
 refine RepF.strs_mk (l := [s]) (by simp) (by unfold maxLen; omega) (by simp) hb fun i x hx => ?_
 match i with
 | 0 => simp at hx; rw [Nat.add_zero, h, hx]
 | i + 1 => simp at hx
theorem builtinInfos_any (w : World) : Calls Tryz.prog 82 #[] w (GivesV w (MClassInfos infosL)) := by
 obtain ⟨i0, hi, hz0, hz1, hz2⟩ := info_parts ciInfo
 have HA : Hid (Acc w.heap.size (w.alloc (.cells #[] 96)) 96 3 (.slice (some ⟨w.heap.size, 0, none⟩) 0 0) [] []) := LH (Acc.empty _ _ (Nat.le_refl _))
 go_enter Tryz.func82, Tryz.ntmps82
 go_wp2_with fail
 refine (impl_BuiltinClasses_any _).mono ?_
 rintro e w1 ⟨ao, n, cap, fpn, rfl, hr, hf, hx1⟩
 obtain ⟨ao', ca, h1, hla, hma, hh⟩ := hr.strs_own hf.own
 simp only [Value.slice.injEq] at h1
 obtain ⟨rfl, rfl, rfl⟩ := h1
 rcases hh with ⟨h, -⟩ | ⟨ba, oa, C, te, -, rfl, rfl, hO, -⟩
 · cases h
 have hbn : ba ≠ w.heap.size := by have := hf.ge ba (by simp); simp at this; omega
 obtain ⟨ao', ca, ba', oa', h1, -, hma, pa, ha⟩ := hr.rep.strs
 simp only [List.cons.injEq, and_true, Value.slice.injEq, Option.some.injEq] at h1
 obtain ⟨rfl, -, rfl⟩ := h1
 have e0 := pa (by decide)
 simp only [Option.some.injEq, Addr.mk.injEq, and_true] at e0
 obtain ⟨rfl, rfl⟩ := e0
 have hlen : builtinsL.length = 16 := rfl
 have HC : Hid (∀ i, i < 16 -> w1.cell? ⟨ba, oa + i, none⟩ = some (.string (builtinsL.getD i ⟨#[]⟩))) := LH fun i h => ha i _ (by rw [List.getD_eq_getElem?_getD, List.getElem?_eq_getElem (by rw [hlen]; exact h)]; rfl)
 have e1 : Ext w w1 := ((XR w).alloc _).trans hx1
 have HA1 := LH (HA.out.ext hx1)
 have hz1w : w.heap.size < w1.heap.size := by have := hx1.size; simp at this; omega
 clear hr hf ha pa hx1 HA hO
 rw [hlen] at *
 unfold maxLen at hma
 go_wp2_with fail
 go_loopw [1, 8] (fun ov iv wr => ∃ (k : Nat) (fp : List Nat), k <= 16 /\ iv = .int .i64 k /\ Acc w.heap.size wr 96 3 ov ((infosL.take k).map MClassInfo.d) fp /\ Touch w1 wr [w.heap.size] /\ (∀ g, ov.ownBlock = some g -> g ∈ [w.heap.size] ∨ w1.heap.size <= g)) (fun _ iv _ => 16 - (intOf iv).toNat)
 case atStart => exact ⟨0, [], Nat.zero_le _, rfl, by simpa using HA1.out, Touch.of_ext (XR _) _, fun g hg => Or.inl (by simp [Value.ownBlock] at hg; simp [hg])⟩
 case round =>
  clear HA1
  obtain ⟨k, fp, hk, rfl, hacc, hT, hown⟩ := hrel
  by_cases hlt : k < 16
  rotate_left
  · obtain rfl : k = 16 := by omega
    obtain ⟨ao2, cap2, gp, rfl, h4, hf4⟩ := hacc.rep
    have e : infosL.take 16 = infosL := List.take_of_length_le (by rw [infosL_length]; omega)
    rw [e] at h4
    simp only [e]
    go_wp2_with fail
    go_ret
    exact ⟨ao2, _, cap2, gp, rfl, by simpa [MClassInfos] using h4, hf4, hT.ext e1 (by simp)⟩
  have a0 := hT.cellAt (by simpa using hbn) (HC.out k hlt)
  have HT : Hid ((infosL.take (k + 1)).map MClassInfo.d = (infosL.take k).map MClassInfo.d ++ [(infoAt k).d]) := LH (by rw [infosL_take k hlt, List.map_append]; rfl)
  have hds : ((infosL.take k).map MClassInfo.d).length <= 16 := by simp; omega
  obtain ⟨nm, hnm⟩ : ∃ nm, builtinsL.getD k ⟨#[]⟩ = nm := ⟨_, rfl⟩
  rw [hnm] at a0
  have HN : Hid ((infoAt k).name = nm) := LH hnm
  clear hnm
  have hwz : w.heap.size <= wr.heap.size := Nat.le_trans (Nat.le_of_lt hz1w) hT.size
  obtain ⟨ds, hdsq⟩ : ∃ ds, (infosL.take k).map MClassInfo.d = ds := ⟨_, rfl⟩
  rw [hdsq] at hacc hds HT
  clear hdsq
  have key : ∀ (W : World) (cs : List Value) (par : Int) (fv : Value) (f : List Nat), cs = [.string nm, .int .i64 par, fv] -> RepF W (strs (fieldsAt k)) [fv] f -> parentsL.getD k 0 = par -> RepF W (infoAt k).d cs f := by
   rintro W cs par fv f rfl h1 h2
   have := MClassInfo.shut (x := infoAt k) (v_fields := fv) (f_fields := f) h1
   rw [HN.out, show (infoAt k).parent = par from h2] at this
   simpa using this
  have KEY := LH key; clear key
  obtain ⟨ao3, cap3, gp3, hov, -, -⟩ := hacc.rep
  subst hov
  by_cases hk0 : k = 0
  · skip
    have HF : Hid (fieldsAt k = []) := LH (by rw [hk0]; rfl)
    have HP : Hid (parentsL.getD k 0 = -1) := LH (by rw [hk0]; rfl)
    have hd : decide ((1 : Int) <= k /\ (k : Int) <= 4) = false := decide_eq_false (by omega)
    have t0 : ((k : Int) == 0) = true := int_eq (by omega)
    have t2 : ((k : Int) == 2) = false := int_ne (by omega)
    have t3 : ((k : Int) == 3) = false := int_ne (by omega)
    have t4 : ((k : Int) == 4) = false := int_ne (by omega)
    clear hk0
    have EX : Hid (Ext wr ((wr.alloc (.cells #[.string nm, .int .i64 (-1), .slice none 0 0] 96)).alloc (.cells #[.string nm, .int .i64 (-1), .slice none 0 0] 96))) := LH (((XR wr).alloc _).alloc _)
    have HR : Hid (RepF ((wr.alloc (.cells #[.string nm, .int .i64 (-1), .slice none 0 0] 96)).alloc (.cells #[.string nm, .int .i64 (-1), .slice none 0 0] 96)) (.sl 3 [(infoAt k).d]) [.slice (some ⟨wr.heap.size + 1, 0, none⟩) 1 1] ((wr.heap.size + 1) :: [])) := LH (RepF.row1 (cs := [.string nm, .int .i64 (-1), .slice none 0 0]) (own_new2 wr _ _ _).lt rfl (row3 (by rw [(own_new2 wr _ _ _).cell]; rfl) (by rw [(own_new2 wr _ _ _).cell]; rfl) (by rw [(own_new2 wr _ _ _).cell]; rfl)) (KEY.out _ _ (-1) _ _ rfl (by rw [HF.out]; exact nil_strs _) HP.out))
    have HF1 := LH (hacc.add_facts EX.out (f := []) (Fresh.nil _ _) hwz)
    have HM : Hid (ds.length + 1 <= maxLen) := LH (by unfold maxLen; omega)
    have HY : Hid ((ds.length + 1) * 48 <= 140737488355328) := LH (by omega)
    have HB : Hid (w.heap.size <= ((wr.alloc (.cells #[.string nm, .int .i64 (-1), .slice none 0 0] 96)).alloc (.cells #[.string nm, .int .i64 (-1), .slice none 0 0] 96)).heap.size ) := LH (Nat.le_trans hwz EX.out.size)
    go_wp2_with fail
    refine (within_any _ _ _ _).mono ?_
    rw [show decide ((1 : Int) <= k /\ (k : Int) <= 4) = false from hd]
    rintro e w2 ⟨rfl, hw2⟩
    subst w2
    go_wp2_with (at_builtin; (refine wpList_append_at rfl _ _ 32 rfl w.heap.size 96 i0 _ 3 48 Tryz.underlying32 hi hz0 hz1 hz2 rfl (by decide) _ ds fp rfl (hacc.ext EX.out) [(infoAt k).d] _ 1 1 ((wr.heap.size + 1) :: []) rfl HR.out HF1.out.1 HF1.out.2 HM.out HY.out HB.out ?_))
    intro ao' cap' w' hacc2 hg hown2
    have hT2 : Touch w1 w' [w.heap.size] := (hT.trans (Touch.of_ext (((XR wr).alloc _).alloc _) _)).grown hg hown
    have hown' : ∀ g, (Value.slice ao' (ds.length + 1) cap').ownBlock = some g -> g ∈ [w.heap.size] ∨ w1.heap.size <= g := fun g hg2 => by
     rcases hown2 with h | h
     · exact hown g (h ▸ hg2)
     · rw [h] at hg2; injection hg2 with hg2; right; have h5 := hT.size; have h6 := EX.out.size; first | omega | (simp at h6 hg2; omega) | (simp at hg2; omega)
    clear hown2 hg hacc
    go_wp2_with fail
    go_roundw
    case rel => exact ⟨k + 1, _, by omega, by go_num, by rw [HT.out]; exact hacc2, hT2, hown'⟩
    case measure => simp [intOf]; omega
  by_cases hk1 : k = 1
  · skip
    have HF : Hid (fieldsAt k = [⟨#[116, 101, 120, 116]⟩]) := LH (by rw [hk1]; rfl)
    have HP : Hid (parentsL.getD k 0 = 0) := LH (by rw [hk1]; rfl)
    have hd : decide ((1 : Int) <= k /\ (k : Int) <= 4) = true := decide_eq_true (by omega)
    have t0 : ((k : Int) == 0) = false := int_ne (by omega)
    have t2 : ((k : Int) == 2) = false := int_ne (by omega)
    have t3 : ((k : Int) == 3) = false := int_ne (by omega)
    have t4 : ((k : Int) == 4) = false := int_ne (by omega)
    clear hk1
    have EX : Hid (Ext wr (((wr.alloc (.cells #[.string nm, .int .i64 (0), .slice (some ⟨wr.heap.size + 1, 0, none⟩) 1 1] 96)).alloc (.cells #[.string ⟨#[116, 101, 120, 116]⟩] 9)).alloc (.cells #[.string nm, .int .i64 (0), .slice (some ⟨wr.heap.size + 1, 0, none⟩) 1 1] 96))) := LH ((((XR wr).alloc _).alloc _).alloc _)
    have HR : Hid (RepF (((wr.alloc (.cells #[.string nm, .int .i64 (0), .slice (some ⟨wr.heap.size + 1, 0, none⟩) 1 1] 96)).alloc (.cells #[.string ⟨#[116, 101, 120, 116]⟩] 9)).alloc (.cells #[.string nm, .int .i64 (0), .slice (some ⟨wr.heap.size + 1, 0, none⟩) 1 1] 96)) (.sl 3 [(infoAt k).d]) [.slice (some ⟨wr.heap.size + 1 + 1, 0, none⟩) 1 1] ((wr.heap.size + 1 + 1) :: [wr.heap.size + 1])) := LH (RepF.row1 (cs := [.string nm, .int .i64 (0), .slice (some ⟨wr.heap.size + 1, 0, none⟩) 1 1]) (own_new3 wr _ _ _ _).lt rfl (row3 (by rw [(own_new3 wr _ _ _ _).cell]; rfl) (by rw [(own_new3 wr _ _ _ _).cell]; rfl) (by rw [(own_new3 wr _ _ _ _).cell]; rfl)) (KEY.out _ _ (0) _ _ rfl (by rw [HF.out]; exact one_str ((own_new2 wr _ _ _).ext ((XR _).alloc _)).lt (by rw [((own_new2 wr _ _ _).ext ((XR _).alloc _)).cell]; rfl)) HP.out))
    have HF1 := LH (hacc.add_facts EX.out (f := [wr.heap.size + 1]) (⟨by simp, by simp, fun b hb => by simp at hb; subst hb; exact ⟨_, _, ((own_new2 wr _ _ _).ext ((XR _).alloc _))⟩⟩) hwz)
    have HM : Hid (ds.length + 1 <= maxLen) := LH (by unfold maxLen; omega)
    have HY : Hid ((ds.length + 1) * 48 <= 140737488355328) := LH (by omega)
    have HB : Hid (w.heap.size <= (((wr.alloc (.cells #[.string nm, .int .i64 (0), .slice (some ⟨wr.heap.size + 1, 0, none⟩) 1 1] 96)).alloc (.cells #[.string ⟨#[116, 101, 120, 116]⟩] 9)).alloc (.cells #[.string nm, .int .i64 (0), .slice (some ⟨wr.heap.size + 1, 0, none⟩) 1 1] 96)).heap.size ) := LH (Nat.le_trans hwz EX.out.size)
    go_wp2_with fail
    refine (within_any _ _ _ _).mono ?_
    rw [show decide ((1 : Int) <= k /\ (k : Int) <= 4) = true from hd]
    rintro e w2 ⟨rfl, hw2⟩
    subst w2
    go_wp2_with (at_builtin; (refine wpList_append_at rfl _ _ 32 rfl w.heap.size 96 i0 _ 3 48 Tryz.underlying32 hi hz0 hz1 hz2 rfl (by decide) _ ds fp rfl (hacc.ext EX.out) [(infoAt k).d] _ 1 1 ((wr.heap.size + 1 + 1) :: [wr.heap.size + 1]) rfl HR.out HF1.out.1 HF1.out.2 HM.out HY.out HB.out ?_))
    intro ao' cap' w' hacc2 hg hown2
    have hT2 : Touch w1 w' [w.heap.size] := (hT.trans (Touch.of_ext ((((XR wr).alloc _).alloc _).alloc _) _)).grown hg hown
    have hown' : ∀ g, (Value.slice ao' (ds.length + 1) cap').ownBlock = some g -> g ∈ [w.heap.size] ∨ w1.heap.size <= g := fun g hg2 => by
     rcases hown2 with h | h
     · exact hown g (h ▸ hg2)
     · rw [h] at hg2; injection hg2 with hg2; right; have h5 := hT.size; have h6 := EX.out.size; first | omega | (simp at h6 hg2; omega) | (simp at hg2; omega)
    clear hown2 hg hacc
    go_wp2_with fail
    go_roundw
    case rel => exact ⟨k + 1, _, by omega, by go_num, by rw [HT.out]; exact hacc2, hT2, hown'⟩
    case measure => simp [intOf]; omega
  by_cases hk2 : k = 2
  · skip
    have HF : Hid (fieldsAt k = [⟨#[116, 101, 120, 116]⟩]) := LH (by rw [hk2]; rfl)
    have HP : Hid (parentsL.getD k 0 = 1) := LH (by rw [hk2]; rfl)
    have hd : decide ((1 : Int) <= k /\ (k : Int) <= 4) = true := decide_eq_true (by omega)
    have t0 : ((k : Int) == 0) = false := int_ne (by omega)
    have t2 : ((k : Int) == 2) = true := int_eq (by omega)
    have t3 : ((k : Int) == 3) = false := int_ne (by omega)
    have t4 : ((k : Int) == 4) = false := int_ne (by omega)
    clear hk2
    have EX : Hid (Ext wr (((wr.alloc (.cells #[.string nm, .int .i64 (1), .slice (some ⟨wr.heap.size + 1, 0, none⟩) 1 1] 96)).alloc (.cells #[.string ⟨#[116, 101, 120, 116]⟩] 9)).alloc (.cells #[.string nm, .int .i64 (1), .slice (some ⟨wr.heap.size + 1, 0, none⟩) 1 1] 96))) := LH ((((XR wr).alloc _).alloc _).alloc _)
    have HR : Hid (RepF (((wr.alloc (.cells #[.string nm, .int .i64 (1), .slice (some ⟨wr.heap.size + 1, 0, none⟩) 1 1] 96)).alloc (.cells #[.string ⟨#[116, 101, 120, 116]⟩] 9)).alloc (.cells #[.string nm, .int .i64 (1), .slice (some ⟨wr.heap.size + 1, 0, none⟩) 1 1] 96)) (.sl 3 [(infoAt k).d]) [.slice (some ⟨wr.heap.size + 1 + 1, 0, none⟩) 1 1] ((wr.heap.size + 1 + 1) :: [wr.heap.size + 1])) := LH (RepF.row1 (cs := [.string nm, .int .i64 (1), .slice (some ⟨wr.heap.size + 1, 0, none⟩) 1 1]) (own_new3 wr _ _ _ _).lt rfl (row3 (by rw [(own_new3 wr _ _ _ _).cell]; rfl) (by rw [(own_new3 wr _ _ _ _).cell]; rfl) (by rw [(own_new3 wr _ _ _ _).cell]; rfl)) (KEY.out _ _ (1) _ _ rfl (by rw [HF.out]; exact one_str ((own_new2 wr _ _ _).ext ((XR _).alloc _)).lt (by rw [((own_new2 wr _ _ _).ext ((XR _).alloc _)).cell]; rfl)) HP.out))
    have HF1 := LH (hacc.add_facts EX.out (f := [wr.heap.size + 1]) (⟨by simp, by simp, fun b hb => by simp at hb; subst hb; exact ⟨_, _, ((own_new2 wr _ _ _).ext ((XR _).alloc _))⟩⟩) hwz)
    have HM : Hid (ds.length + 1 <= maxLen) := LH (by unfold maxLen; omega)
    have HY : Hid ((ds.length + 1) * 48 <= 140737488355328) := LH (by omega)
    have HB : Hid (w.heap.size <= (((wr.alloc (.cells #[.string nm, .int .i64 (1), .slice (some ⟨wr.heap.size + 1, 0, none⟩) 1 1] 96)).alloc (.cells #[.string ⟨#[116, 101, 120, 116]⟩] 9)).alloc (.cells #[.string nm, .int .i64 (1), .slice (some ⟨wr.heap.size + 1, 0, none⟩) 1 1] 96)).heap.size ) := LH (Nat.le_trans hwz EX.out.size)
    go_wp2_with fail
    refine (within_any _ _ _ _).mono ?_
    rw [show decide ((1 : Int) <= k /\ (k : Int) <= 4) = true from hd]
    rintro e w2 ⟨rfl, hw2⟩
    subst w2
    go_wp2_with (at_builtin; (refine wpList_append_at rfl _ _ 32 rfl w.heap.size 96 i0 _ 3 48 Tryz.underlying32 hi hz0 hz1 hz2 rfl (by decide) _ ds fp rfl (hacc.ext EX.out) [(infoAt k).d] _ 1 1 ((wr.heap.size + 1 + 1) :: [wr.heap.size + 1]) rfl HR.out HF1.out.1 HF1.out.2 HM.out HY.out HB.out ?_))
    intro ao' cap' w' hacc2 hg hown2
    have hT2 : Touch w1 w' [w.heap.size] := (hT.trans (Touch.of_ext ((((XR wr).alloc _).alloc _).alloc _) _)).grown hg hown
    have hown' : ∀ g, (Value.slice ao' (ds.length + 1) cap').ownBlock = some g -> g ∈ [w.heap.size] ∨ w1.heap.size <= g := fun g hg2 => by
     rcases hown2 with h | h
     · exact hown g (h ▸ hg2)
     · rw [h] at hg2; injection hg2 with hg2; right; have h5 := hT.size; have h6 := EX.out.size; first | omega | (simp at h6 hg2; omega) | (simp at hg2; omega)
    clear hown2 hg hacc
    go_wp2_with fail
    go_roundw
    case rel => exact ⟨k + 1, _, by omega, by go_num, by rw [HT.out]; exact hacc2, hT2, hown'⟩
    case measure => simp [intOf]; omega
  by_cases hk3 : k = 3
  · skip
    have HF : Hid (fieldsAt k = [⟨#[116, 101, 120, 116]⟩]) := LH (by rw [hk3]; rfl)
    have HP : Hid (parentsL.getD k 0 = 2) := LH (by rw [hk3]; rfl)
    have hd : decide ((1 : Int) <= k /\ (k : Int) <= 4) = true := decide_eq_true (by omega)
    have t0 : ((k : Int) == 0) = false := int_ne (by omega)
    have t2 : ((k : Int) == 2) = false := int_ne (by omega)
    have t3 : ((k : Int) == 3) = true := int_eq (by omega)
    have t4 : ((k : Int) == 4) = false := int_ne (by omega)
    clear hk3
    have EX : Hid (Ext wr (((wr.alloc (.cells #[.string nm, .int .i64 (2), .slice (some ⟨wr.heap.size + 1, 0, none⟩) 1 1] 96)).alloc (.cells #[.string ⟨#[116, 101, 120, 116]⟩] 9)).alloc (.cells #[.string nm, .int .i64 (2), .slice (some ⟨wr.heap.size + 1, 0, none⟩) 1 1] 96))) := LH ((((XR wr).alloc _).alloc _).alloc _)
    have HR : Hid (RepF (((wr.alloc (.cells #[.string nm, .int .i64 (2), .slice (some ⟨wr.heap.size + 1, 0, none⟩) 1 1] 96)).alloc (.cells #[.string ⟨#[116, 101, 120, 116]⟩] 9)).alloc (.cells #[.string nm, .int .i64 (2), .slice (some ⟨wr.heap.size + 1, 0, none⟩) 1 1] 96)) (.sl 3 [(infoAt k).d]) [.slice (some ⟨wr.heap.size + 1 + 1, 0, none⟩) 1 1] ((wr.heap.size + 1 + 1) :: [wr.heap.size + 1])) := LH (RepF.row1 (cs := [.string nm, .int .i64 (2), .slice (some ⟨wr.heap.size + 1, 0, none⟩) 1 1]) (own_new3 wr _ _ _ _).lt rfl (row3 (by rw [(own_new3 wr _ _ _ _).cell]; rfl) (by rw [(own_new3 wr _ _ _ _).cell]; rfl) (by rw [(own_new3 wr _ _ _ _).cell]; rfl)) (KEY.out _ _ (2) _ _ rfl (by rw [HF.out]; exact one_str ((own_new2 wr _ _ _).ext ((XR _).alloc _)).lt (by rw [((own_new2 wr _ _ _).ext ((XR _).alloc _)).cell]; rfl)) HP.out))
    have HF1 := LH (hacc.add_facts EX.out (f := [wr.heap.size + 1]) (⟨by simp, by simp, fun b hb => by simp at hb; subst hb; exact ⟨_, _, ((own_new2 wr _ _ _).ext ((XR _).alloc _))⟩⟩) hwz)
    have HM : Hid (ds.length + 1 <= maxLen) := LH (by unfold maxLen; omega)
    have HY : Hid ((ds.length + 1) * 48 <= 140737488355328) := LH (by omega)
    have HB : Hid (w.heap.size <= (((wr.alloc (.cells #[.string nm, .int .i64 (2), .slice (some ⟨wr.heap.size + 1, 0, none⟩) 1 1] 96)).alloc (.cells #[.string ⟨#[116, 101, 120, 116]⟩] 9)).alloc (.cells #[.string nm, .int .i64 (2), .slice (some ⟨wr.heap.size + 1, 0, none⟩) 1 1] 96)).heap.size ) := LH (Nat.le_trans hwz EX.out.size)
    go_wp2_with fail
    refine (within_any _ _ _ _).mono ?_
    rw [show decide ((1 : Int) <= k /\ (k : Int) <= 4) = true from hd]
    rintro e w2 ⟨rfl, hw2⟩
    subst w2
    go_wp2_with (at_builtin; (refine wpList_append_at rfl _ _ 32 rfl w.heap.size 96 i0 _ 3 48 Tryz.underlying32 hi hz0 hz1 hz2 rfl (by decide) _ ds fp rfl (hacc.ext EX.out) [(infoAt k).d] _ 1 1 ((wr.heap.size + 1 + 1) :: [wr.heap.size + 1]) rfl HR.out HF1.out.1 HF1.out.2 HM.out HY.out HB.out ?_))
    intro ao' cap' w' hacc2 hg hown2
    have hT2 : Touch w1 w' [w.heap.size] := (hT.trans (Touch.of_ext ((((XR wr).alloc _).alloc _).alloc _) _)).grown hg hown
    have hown' : ∀ g, (Value.slice ao' (ds.length + 1) cap').ownBlock = some g -> g ∈ [w.heap.size] ∨ w1.heap.size <= g := fun g hg2 => by
     rcases hown2 with h | h
     · exact hown g (h ▸ hg2)
     · rw [h] at hg2; injection hg2 with hg2; right; have h5 := hT.size; have h6 := EX.out.size; first | omega | (simp at h6 hg2; omega) | (simp at hg2; omega)
    clear hown2 hg hacc
    go_wp2_with fail
    go_roundw
    case rel => exact ⟨k + 1, _, by omega, by go_num, by rw [HT.out]; exact hacc2, hT2, hown'⟩
    case measure => simp [intOf]; omega
  by_cases hk4 : k = 4
  · skip
    have HF : Hid (fieldsAt k = [⟨#[116, 101, 120, 116]⟩]) := LH (by rw [hk4]; rfl)
    have HP : Hid (parentsL.getD k 0 = 2) := LH (by rw [hk4]; rfl)
    have hd : decide ((1 : Int) <= k /\ (k : Int) <= 4) = true := decide_eq_true (by omega)
    have t0 : ((k : Int) == 0) = false := int_ne (by omega)
    have t2 : ((k : Int) == 2) = false := int_ne (by omega)
    have t3 : ((k : Int) == 3) = false := int_ne (by omega)
    have t4 : ((k : Int) == 4) = true := int_eq (by omega)
    clear hk4
    have EX : Hid (Ext wr (((wr.alloc (.cells #[.string nm, .int .i64 (2), .slice (some ⟨wr.heap.size + 1, 0, none⟩) 1 1] 96)).alloc (.cells #[.string ⟨#[116, 101, 120, 116]⟩] 9)).alloc (.cells #[.string nm, .int .i64 (2), .slice (some ⟨wr.heap.size + 1, 0, none⟩) 1 1] 96))) := LH ((((XR wr).alloc _).alloc _).alloc _)
    have HR : Hid (RepF (((wr.alloc (.cells #[.string nm, .int .i64 (2), .slice (some ⟨wr.heap.size + 1, 0, none⟩) 1 1] 96)).alloc (.cells #[.string ⟨#[116, 101, 120, 116]⟩] 9)).alloc (.cells #[.string nm, .int .i64 (2), .slice (some ⟨wr.heap.size + 1, 0, none⟩) 1 1] 96)) (.sl 3 [(infoAt k).d]) [.slice (some ⟨wr.heap.size + 1 + 1, 0, none⟩) 1 1] ((wr.heap.size + 1 + 1) :: [wr.heap.size + 1])) := LH (RepF.row1 (cs := [.string nm, .int .i64 (2), .slice (some ⟨wr.heap.size + 1, 0, none⟩) 1 1]) (own_new3 wr _ _ _ _).lt rfl (row3 (by rw [(own_new3 wr _ _ _ _).cell]; rfl) (by rw [(own_new3 wr _ _ _ _).cell]; rfl) (by rw [(own_new3 wr _ _ _ _).cell]; rfl)) (KEY.out _ _ (2) _ _ rfl (by rw [HF.out]; exact one_str ((own_new2 wr _ _ _).ext ((XR _).alloc _)).lt (by rw [((own_new2 wr _ _ _).ext ((XR _).alloc _)).cell]; rfl)) HP.out))
    have HF1 := LH (hacc.add_facts EX.out (f := [wr.heap.size + 1]) (⟨by simp, by simp, fun b hb => by simp at hb; subst hb; exact ⟨_, _, ((own_new2 wr _ _ _).ext ((XR _).alloc _))⟩⟩) hwz)
    have HM : Hid (ds.length + 1 <= maxLen) := LH (by unfold maxLen; omega)
    have HY : Hid ((ds.length + 1) * 48 <= 140737488355328) := LH (by omega)
    have HB : Hid (w.heap.size <= (((wr.alloc (.cells #[.string nm, .int .i64 (2), .slice (some ⟨wr.heap.size + 1, 0, none⟩) 1 1] 96)).alloc (.cells #[.string ⟨#[116, 101, 120, 116]⟩] 9)).alloc (.cells #[.string nm, .int .i64 (2), .slice (some ⟨wr.heap.size + 1, 0, none⟩) 1 1] 96)).heap.size ) := LH (Nat.le_trans hwz EX.out.size)
    go_wp2_with fail
    refine (within_any _ _ _ _).mono ?_
    rw [show decide ((1 : Int) <= k /\ (k : Int) <= 4) = true from hd]
    rintro e w2 ⟨rfl, hw2⟩
    subst w2
    go_wp2_with (at_builtin; (refine wpList_append_at rfl _ _ 32 rfl w.heap.size 96 i0 _ 3 48 Tryz.underlying32 hi hz0 hz1 hz2 rfl (by decide) _ ds fp rfl (hacc.ext EX.out) [(infoAt k).d] _ 1 1 ((wr.heap.size + 1 + 1) :: [wr.heap.size + 1]) rfl HR.out HF1.out.1 HF1.out.2 HM.out HY.out HB.out ?_))
    intro ao' cap' w' hacc2 hg hown2
    have hT2 : Touch w1 w' [w.heap.size] := (hT.trans (Touch.of_ext ((((XR wr).alloc _).alloc _).alloc _) _)).grown hg hown
    have hown' : ∀ g, (Value.slice ao' (ds.length + 1) cap').ownBlock = some g -> g ∈ [w.heap.size] ∨ w1.heap.size <= g := fun g hg2 => by
     rcases hown2 with h | h
     · exact hown g (h ▸ hg2)
     · rw [h] at hg2; injection hg2 with hg2; right; have h5 := hT.size; have h6 := EX.out.size; first | omega | (simp at h6 hg2; omega) | (simp at hg2; omega)
    clear hown2 hg hacc
    go_wp2_with fail
    go_roundw
    case rel => exact ⟨k + 1, _, by omega, by go_num, by rw [HT.out]; exact hacc2, hT2, hown'⟩
    case measure => simp [intOf]; omega
  have HF : Hid (fieldsAt k = []) := LH (by unfold fieldsAt; rw [if_neg (by omega)])
  have HP : Hid (parentsL.getD k 0 = 0) := LH (par_high (by omega) hlt)
  have t0 : ((k : Int) == 0) = false := int_ne (by omega)
  have t2 : ((k : Int) == 2) = false := int_ne (by omega)
  have t3 : ((k : Int) == 3) = false := int_ne (by omega)
  have t4 : ((k : Int) == 4) = false := int_ne (by omega)
  have EX : Hid (Ext wr ((wr.alloc (.cells #[.string nm, .int .i64 (0), .slice none 0 0] 96)).alloc (.cells #[.string nm, .int .i64 (0), .slice none 0 0] 96))) := LH (((XR wr).alloc _).alloc _)
  have HR : Hid (RepF ((wr.alloc (.cells #[.string nm, .int .i64 (0), .slice none 0 0] 96)).alloc (.cells #[.string nm, .int .i64 (0), .slice none 0 0] 96)) (.sl 3 [(infoAt k).d]) [.slice (some ⟨wr.heap.size + 1, 0, none⟩) 1 1] ((wr.heap.size + 1) :: [])) := LH (RepF.row1 (cs := [.string nm, .int .i64 (0), .slice none 0 0]) (own_new2 wr _ _ _).lt rfl (row3 (by rw [(own_new2 wr _ _ _).cell]; rfl) (by rw [(own_new2 wr _ _ _).cell]; rfl) (by rw [(own_new2 wr _ _ _).cell]; rfl)) (KEY.out _ _ (0) _ _ rfl (by rw [HF.out]; exact nil_strs _) HP.out))
  have HF1 := LH (hacc.add_facts EX.out (f := []) (Fresh.nil _ _) hwz)
  have HM : Hid (ds.length + 1 <= maxLen) := LH (by unfold maxLen; omega)
  have HY : Hid ((ds.length + 1) * 48 <= 140737488355328) := LH (by omega)
  have HB : Hid (w.heap.size <= ((wr.alloc (.cells #[.string nm, .int .i64 (0), .slice none 0 0] 96)).alloc (.cells #[.string nm, .int .i64 (0), .slice none 0 0] 96)).heap.size ) := LH (Nat.le_trans hwz EX.out.size)
  go_wp2_with fail
  refine (within_any _ _ _ _).mono ?_
  rw [show decide ((1 : Int) <= k /\ (k : Int) <= 4) = false from decide_eq_false (by omega)]
  rintro e w2 ⟨rfl, hw2⟩
  subst w2
  go_wp2_with (at_builtin; (refine wpList_append_at rfl _ _ 32 rfl w.heap.size 96 i0 _ 3 48 Tryz.underlying32 hi hz0 hz1 hz2 rfl (by decide) _ ds fp rfl (hacc.ext EX.out) [(infoAt k).d] _ 1 1 ((wr.heap.size + 1) :: []) rfl HR.out HF1.out.1 HF1.out.2 HM.out HY.out HB.out ?_))
  intro ao' cap' w' hacc2 hg hown2
  have hT2 : Touch w1 w' [w.heap.size] := (hT.trans (Touch.of_ext (((XR wr).alloc _).alloc _) _)).grown hg hown
  have hown' : ∀ g, (Value.slice ao' (ds.length + 1) cap').ownBlock = some g -> g ∈ [w.heap.size] ∨ w1.heap.size <= g := fun g hg2 => by
   rcases hown2 with h | h
   · exact hown g (h ▸ hg2)
   · rw [h] at hg2; injection hg2 with hg2; right; have h5 := hT.size; have h6 := EX.out.size; first | omega | (simp at h6 hg2; omega) | (simp at hg2; omega)
  clear hown2 hg hacc
  go_wp2_with fail
  go_roundw
  case rel => exact ⟨k + 1, _, by omega, by go_num, by rw [HT.out]; exact hacc2, hT2, hown'⟩
  case measure => simp [intOf]; omega
theorem l7Fields_low (u : Value) (k : Nat) (w : World) (hk : k < 16) : Calls Tryz.prog 96 #[u, .int .i64 k] w (GivesV w (strs (fieldsAt k))) := by
 by_cases h : 1 <= k /\ k <= 4
 · have HF : Hid (fieldsAt k = [⟨#[116, 101, 120, 116]⟩]) := LH (by unfold fieldsAt; rw [if_pos h])
   have fin : ∀ W, GivesV W (strs (fieldsAt k)) (.returned (.slice (some ⟨W.heap.size, 0, none⟩) 1 1)) (W.alloc (.cells #[.string ⟨#[116, 101, 120, 116]⟩] 9)) := fun W => by
    rw [HF.out]; exact gives_strs W [⟨#[116, 101, 120, 116]⟩] 9 (by unfold maxLen; simp) (by simp)
   have FIN := LH fin; clear fin
   rcases (show k = 1 ∨ k = 2 ∨ k = 3 ∨ k = 4 by omega) with hk1 | hk1 | hk1 | hk1
   · have t1 : ((k : Int) == 1) = true := int_eq (by omega)
     have t2 : ((k : Int) == 2) = false := int_ne (by omega)
     have t3 : ((k : Int) == 3) = false := int_ne (by omega)
     have t4 : ((k : Int) == 4) = false := int_ne (by omega)
     clear hk1 h hk
     go_enter Tryz.func96, Tryz.ntmps96
     go_wp2_with fail
     go_ret
     exact FIN.out _
   · have t1 : ((k : Int) == 1) = false := int_ne (by omega)
     have t2 : ((k : Int) == 2) = true := int_eq (by omega)
     have t3 : ((k : Int) == 3) = false := int_ne (by omega)
     have t4 : ((k : Int) == 4) = false := int_ne (by omega)
     clear hk1 h hk
     go_enter Tryz.func96, Tryz.ntmps96
     go_wp2_with fail
     go_ret
     exact FIN.out _
   · have t1 : ((k : Int) == 1) = false := int_ne (by omega)
     have t2 : ((k : Int) == 2) = false := int_ne (by omega)
     have t3 : ((k : Int) == 3) = true := int_eq (by omega)
     have t4 : ((k : Int) == 4) = false := int_ne (by omega)
     clear hk1 h hk
     go_enter Tryz.func96, Tryz.ntmps96
     go_wp2_with fail
     go_ret
     exact FIN.out _
   · have t1 : ((k : Int) == 1) = false := int_ne (by omega)
     have t2 : ((k : Int) == 2) = false := int_ne (by omega)
     have t3 : ((k : Int) == 3) = false := int_ne (by omega)
     have t4 : ((k : Int) == 4) = true := int_eq (by omega)
     clear hk1 h hk
     go_enter Tryz.func96, Tryz.ntmps96
     go_wp2_with fail
     go_ret
     exact FIN.out _
 · have HF : Hid (fieldsAt k = []) := LH (by unfold fieldsAt; rw [if_neg h])
   have t1 : ((k : Int) == 1) = false := int_ne (by omega)
   have t2 : ((k : Int) == 2) = false := int_ne (by omega)
   have t3 : ((k : Int) == 3) = false := int_ne (by omega)
   have t4 : ((k : Int) == 4) = false := int_ne (by omega)
   have t5 : (k : Int) < 16 := by omega
   clear h
   go_enter Tryz.func96, Tryz.ntmps96
   go_wp2_with fail
   go_ret
   rw [HF.out]
   obtain ⟨ao, cap, gp, h1, h2, h3⟩ := Acc.rep (Acc.empty (B0 := w.heap.size) (w := w) 9 1 (Nat.le_refl _))
   simp only [List.length_nil, Value.slice.injEq] at h1
   obtain ⟨rfl, -, rfl⟩ := h1
   exact ⟨_, _, _, gp, rfl, h2, h3, (XR w).alloc _⟩
def parsV : List Value := [.int .i64 (-1), .int .i64 0, .int .i64 1, .int .i64 2, .int .i64 2, .int .i64 0, .int .i64 0, .int .i64 0, .int .i64 0, .int .i64 0, .int .i64 0, .int .i64 0, .int .i64 0, .int .i64 0, .int .i64 0, .int .i64 0]
theorem parsV_get {k : Nat} (h : k < 16) : parsV[k]? = some (.int .i64 (parentsL.getD k 0)) := by
 have e : parsV = parentsL.map (Value.int .i64) := rfl
 have hl : parentsL.length = 16 := rfl
 rw [e, List.getElem?_map, List.getElem?_eq_getElem (by omega), List.getD_eq_getElem?_getD, List.getElem?_eq_getElem (by omega)]; rfl
theorem l8Infos_any (ub : Nat) (w : World) (hu : w.cell? ⟨ub, 0, none⟩ = some (.slice none 0 0)) : Calls Tryz.prog 68 #[.pointer (some ⟨ub, 0, none⟩)] w (GivesV w (MClassInfos infosL)) := by
 obtain ⟨i0, hi, hz0, hz1, hz2⟩ := info_parts ciInfo
 have HA : Hid (Acc w.heap.size (w.alloc (.cells #[] 96)) 96 3 (.slice (some ⟨w.heap.size, 0, none⟩) 0 0) [] []) := LH (Acc.empty _ _ (Nat.le_refl _))
 have hub := lt_of_cell hu
 go_enter Tryz.func68, Tryz.ntmps68
 go_wp2_with fail
 refine (spec_BuiltinClasses_any _).mono ?_
 rintro e w0 ⟨ao, n, cap, fpn, rfl, hr, hf, hx1⟩
 obtain ⟨ao', ca, h1, hla, hma, hh⟩ := hr.strs_own hf.own
 simp only [Value.slice.injEq] at h1
 obtain ⟨rfl, rfl, rfl⟩ := h1
 rcases hh with ⟨h, -⟩ | ⟨ba, oa, C, te, -, rfl, rfl, hO, -⟩
 · cases h
 have hbn : ba ≠ w.heap.size := by have := hf.ge ba (by simp); simp at this; omega
 obtain ⟨ao', ca, ba', oa', h1, -, hma, pa, ha⟩ := hr.rep.strs
 simp only [List.cons.injEq, and_true, Value.slice.injEq, Option.some.injEq] at h1
 obtain ⟨rfl, -, rfl⟩ := h1
 have e0 := pa (by decide)
 simp only [Option.some.injEq, Addr.mk.injEq, and_true] at e0
 obtain ⟨rfl, rfl⟩ := e0
 have hlen : builtinsL.length = 16 := rfl
 have HC0 : Hid (∀ i, i < 16 -> w0.cell? ⟨ba, oa + i, none⟩ = some (.string (builtinsL.getD i ⟨#[]⟩))) := LH fun i h => ha i _ (by rw [List.getD_eq_getElem?_getD, List.getElem?_eq_getElem (by rw [hlen]; exact h)]; rfl)
 have e1 : Ext w w0 := ((XR w).alloc _).trans hx1
 have HA0 := LH (HA.out.ext hx1)
 have hz1w : w.heap.size < w0.heap.size := by have := hx1.size; simp at this; omega
 clear hr hf ha pa hx1 HA hO
 rw [hlen] at *
 unfold maxLen at hma
 obtain ⟨w1, hw1⟩ : ∃ w1, w1 = w0.alloc (.cells parsV.toArray 3) := ⟨_, rfl⟩
 have E01 : Ext w0 w1 := by rw [hw1]; exact (XR _).alloc _
 have HC : Hid (∀ i, i < 16 -> w1.cell? ⟨ba, oa + i, none⟩ = some (.string (builtinsL.getD i ⟨#[]⟩))) := LH fun i h => E01.cell (HC0.out i h)
 have HPC : Hid (∀ i, i < 16 -> w1.cell? ⟨w0.heap.size, i, none⟩ = some (.int .i64 (parentsL.getD i 0))) := LH fun i h => by rw [hw1, (own_new w0 _ _).cell]; have := parsV_get h; simpa using this
 have HA1 := LH (HA0.out.ext E01)
 have hu1 := (e1.trans E01).cell hu
 have hpn : w0.heap.size ≠ w.heap.size := by omega
 have hub1 : ub ≠ w.heap.size := by omega
 replace hz1w : w.heap.size < w1.heap.size := Nat.lt_of_lt_of_le hz1w E01.size
 replace e1 := e1.trans E01
 clear HC0 HA0 E01 hu
 go_upto_region 5 with fail
 generalize hW : World.alloc w0 _ = w1'
 have hq : w1' = w1 := by rw [<- hW]; exact hw1.symm
 clear hW
 subst w1'
 clear hw1
 go_loopw [3, 6] (fun ov iv wr => ∃ (k : Nat) (fp : List Nat), k <= 16 /\ iv = .int .i64 k /\ Acc w.heap.size wr 96 3 ov ((infosL.take k).map MClassInfo.d) fp /\ Touch w1 wr [w.heap.size] /\ (∀ g, ov.ownBlock = some g -> g ∈ [w.heap.size] ∨ w1.heap.size <= g)) (fun _ iv _ => 16 - (intOf iv).toNat)
 case atStart => exact ⟨0, [], Nat.zero_le _, rfl, by simpa using HA1.out, Touch.of_ext (XR _) _, fun g hg => Or.inl (by simp [Value.ownBlock] at hg; simp [hg])⟩
 case round =>
  clear HA1
  obtain ⟨k, fp, hk, rfl, hacc, hT, hown⟩ := hrel
  have mu := hT.cellAt (by simpa using hub1) hu1
  by_cases hlt : k < 16
  rotate_left
  · obtain rfl : k = 16 := by omega
    obtain ⟨ao2, cap2, gp, rfl, h4, hf4⟩ := hacc.rep
    have e : infosL.take 16 = infosL := List.take_of_length_le (by rw [infosL_length]; omega)
    rw [e] at h4
    simp only [e]
    go_wp2_with fail
    refine wp_loop_rounds 1 ?_
    rw [rounds_succ]
    go_wp2_with fail
    go_ret
    exact ⟨ao2, _, cap2, gp, rfl, by simpa [MClassInfos] using h4, hf4, hT.ext e1 (by simp)⟩
  have b0 := HC.out k hlt
  have b1 := HPC.out k hlt
  have HT : Hid ((infosL.take (k + 1)).map MClassInfo.d = (infosL.take k).map MClassInfo.d ++ [(infoAt k).d]) := LH (by rw [infosL_take k hlt, List.map_append]; rfl)
  have hds : ((infosL.take k).map MClassInfo.d).length <= 16 := by simp; omega
  obtain ⟨nm, hnm⟩ : ∃ nm, builtinsL.getD k ⟨#[]⟩ = nm := ⟨_, rfl⟩
  rw [hnm] at b0
  have HN : Hid ((infoAt k).name = nm) := LH hnm
  obtain ⟨par, hpar⟩ : ∃ p, parentsL.getD k 0 = p := ⟨_, rfl⟩
  rw [hpar] at b1
  have HPN : Hid ((infoAt k).parent = par) := LH hpar
  clear hnm hpar
  have hwz : w.heap.size <= wr.heap.size := Nat.le_trans (Nat.le_of_lt hz1w) hT.size
  obtain ⟨ds, hdsq⟩ : ∃ ds, (infosL.take k).map MClassInfo.d = ds := ⟨_, rfl⟩
  rw [hdsq] at hacc hds HT
  clear hdsq
  have KEY : Hid (∀ (W : World) (fv : Value) (f : List Nat), RepF W (strs (fieldsAt k)) [fv] f -> RepF W (infoAt k).d [.string nm, .int .i64 par, fv] f) := LH fun W fv f h1 => by
   have := MClassInfo.shut (x := infoAt k) (v_fields := fv) (f_fields := f) h1
   rw [HN.out, HPN.out] at this
   simpa using this
  obtain ⟨ao3, cap3, gp3, hov, -, -⟩ := hacc.rep
  subst hov
  have h16 : (k : Int) < 16 := by omega
  have a0 := hT.cellAt (by simpa using hbn) b0
  have a1 := hT.cellAt (by simpa using hpn) b1
  have KS : Hid (∀ w'', Touch w1 w'' [w.heap.size] -> w''.cell? ⟨ba, oa + k, none⟩ = some (.string nm) /\ w''.cell? ⟨w0.heap.size, k, none⟩ = some (.int .i64 par) /\ Touch w1 w'' [w.heap.size]) := LH fun w'' h => ⟨h.cellAt (by simpa using hbn) b0, h.cellAt (by simpa using hpn) b1, h⟩
  have HM : Hid (ds.length + 1 <= maxLen) := LH (by unfold maxLen; omega)
  have HY : Hid ((ds.length + 1) * 48 <= 140737488355328) := LH (by omega)
  have NX : Hid (∀ (w5 : World) (af : Option Addr) (nf cf : Nat) (ff : List Nat), RepF w5 (strs (fieldsAt k)) [.slice af nf cf] ff -> Fresh w5 wr.heap.size ff -> Ext wr w5 ->
   Acc w.heap.size (w5.alloc (.cells #[.string nm, .int .i64 par, .slice af nf cf] 96)) 96 3 (.slice ao3 ds.length cap3) ds fp /\
   RepF (w5.alloc (.cells #[.string nm, .int .i64 par, .slice af nf cf] 96)) (.sl 3 [(infoAt k).d]) [.slice (some ⟨w5.heap.size, 0, none⟩) 1 1] (w5.heap.size :: ff) /\
   Fresh (w5.alloc (.cells #[.string nm, .int .i64 par, .slice af nf cf] 96)) w.heap.size (fp ++ ff) /\ (∀ g, (Value.slice ao3 ds.length cap3).ownBlock = some g -> g ∉ ff) /\ w.heap.size <= (w5.alloc (.cells #[.string nm, .int .i64 par, .slice af nf cf] 96)).heap.size) := LH fun w5 af nf cf ff h1 h2 h3 => by
   have ee : Ext w5 (w5.alloc (.cells #[.string nm, .int .i64 par, .slice af nf cf] 96)) := (XR _).alloc _
   have hh := hacc.add_facts (h3.trans ee) (h2.ext ee) hwz
   exact ⟨hacc.ext (h3.trans ee), RepF.row1 (cs := [.string nm, .int .i64 par, .slice af nf cf]) (own_new w5 _ _).lt rfl (row3 (by rw [(own_new w5 _ _).cell]; rfl) (by rw [(own_new w5 _ _).cell]; rfl) (by rw [(own_new w5 _ _).cell]; rfl)) (KEY.out _ _ _ (h1.ext ee)), hh.1, hh.2, Nat.le_trans hwz (h3.trans ee).size⟩
  go_wp2_with fail
  go_region_held3 (fun w'' => w''.cell? ⟨ba, oa + k, none⟩ = some (.string nm) /\ w''.cell? ⟨w0.heap.size, k, none⟩ = some (.int .i64 par) /\ Touch w1 w'' [w.heap.size])
   (first | exact KS.out _ hT2 | exact KS.out _ (hT.trans (Touch.of_ext ((Ext.trans (Ext.drew (XR _)) hxf).alloc _) _)) | exact KS.out _ (hT.trans (Touch.of_ext (Ext.trans (Ext.drew (XR _)) hxf) _)) | exact KS.out _ (hT.trans (Touch.of_ext (Ext.drew (XR _)) _)))
   (first
    | (go_at_call 96; refine (l7Fields_low _ k _ hlt).mono ?_; rintro e w5 ⟨af, nf, cf, ff, rfl, hrf, hff, hxf⟩; have hnx := NX.out w5 af nf cf ff hrf hff (Ext.trans (Ext.drew (XR _)) hxf))
    | (refine step_append_at rfl _ _ 32 rfl w.heap.size 96 i0 _ 3 48 Tryz.underlying32 hi hz0 hz1 hz2 rfl (by decide) _ ds fp rfl hnx.1 [(infoAt k).d] _ 1 1 (w5.heap.size :: ff) rfl hnx.2.1 hnx.2.2.1 hnx.2.2.2.1 HM.out HY.out hnx.2.2.2.2 ?_; intro ao' cap' w' hacc2 hg hown2; have hT2 : Touch w1 w' [w.heap.size] := (hT.trans (Touch.of_ext ((Ext.trans (Ext.drew (XR _)) hxf).alloc _) _)).grown hg hown))
  have hown' : ∀ g, (Value.slice ao' (ds.length + 1) cap').ownBlock = some g -> g ∈ [w.heap.size] ∨ w1.heap.size <= g := fun g hg2 => by
   rcases hown2 with h | h
   · exact hown g (h ▸ hg2)
   · rw [h] at hg2; injection hg2 with hg2; right; have h5 := hT.size; have h6 := (Ext.trans (Ext.drew (XR wr)) hxf).size; first | omega | (simp at hg2; omega)
  clear hown2 hg hacc KS NX
  go_wp2_with fail
  go_roundw
  case rel => exact ⟨k + 1, _, by omega, by go_num, by rw [HT.out]; exact hacc2, hT2, hown'⟩
  case measure => simp [intOf]; omega
theorem l3Texts_any (a b : List ByteArray) (va vb : Value) (w : World) (ra : Rep w (strs a) [va]) (rb : Rep w (strs b) [vb]) :
 Calls Tryz.prog 69 #[va, vb] w fun e w' => e = .returned (.bool (eqB a b)) /\ Ext w w' := by
 obtain ⟨ao, ca, ba, oa, h1, hla, hma, pa, ha⟩ := Rep.strs ra
 obtain ⟨bo, cb, bb, ob, h2, hlb, hmb, pb, hb⟩ := Rep.strs rb
 simp only [List.cons.injEq, and_true] at h1 h2
 subst h1 h2
 clear ra rb
 unfold maxLen at hma hmb
 go_enter Tryz.func69, Tryz.ntmps69
 by_cases hlen : a.length = b.length
 · have hne : ((a.length : Int) != (b.length : Int)) = false := by simp [hlen]
   have HL := LH hlen; clear hlen
   go_wp2
   go_loopw [5] (fun i wr => ∃ k : Nat, k <= a.length /\ i = .int .i64 k /\ Ext w wr /\ Hid (∀ j, j < k -> a[j]? = b[j]?)) (fun i _ => a.length - (intOf i).toNat)
   case atStart => exact ⟨0, Nat.zero_le _, rfl, XR _, fun j hj => by omega⟩
   case round =>
    obtain ⟨k, hk, rfl, hx, heq⟩ := hrel
    by_cases hlt : k < a.length
    · have hltb : k < b.length := by have := HL.out; omega
      obtain rfl := pa (by omega)
      obtain rfl := pb (by omega)
      have a0 := reg hx (ha k a[k] (by simp [hlt]))
      have b0 := reg hx (hb k b[k] (by simp [hltb]))
      clear ha hb pa pb
      by_cases hs : a[k] = b[k]
      · have ht := str_eqn hs
        have HS := LH hs; clear hs
        go_wp2_with fail
        refine wp_region_quiet_below (by kernel_rfl) (by kernel_rfl) ?_
        repeat (quiet_step (fail))
        refine wpQuiet_nil ?_
        clear a0 b0
        intro _ hw'
        obtain ⟨pw, hw''⟩ := hw'
        subst hw''
        go_wp2
        go_roundw
        case rel => exact ⟨k + 1, by omega, by go_num, hx.trans (regx _ _), fun j hj => by
         by_cases h : j < k
         · exact heq.out j h
         · obtain rfl : j = k := by omega
           simp [hlt, hltb, HS.out]⟩
        case measure => simp [intOf]; omega
      · have ht := str_nen hs
        have HS := LH hs; clear hs
        go_wp2_with fail
        refine wp_region_quiet_below (by kernel_rfl) (by kernel_rfl) ?_
        repeat (quiet_step (fail))
        refine wpQuiet_nil ?_
        clear a0 b0
        intro _ hw'
        obtain ⟨pw, hw''⟩ := hw'
        subst hw''
        go_wp2
        go_ret
        exact ⟨ret_ff fun h => HS.out (by subst h; rfl), hx.trans (regx _ _)⟩
    · go_wp2
      go_ret
      have hl := HL.out
      obtain rfl : k = a.length := by omega
      refine ⟨ret_tt ?_, hx⟩
      exact List.ext_getElem? fun j => by
       by_cases hj : j < a.length
       · exact heq.out j hj
       · simp [List.getElem?_eq_none_iff.2 (show a.length <= j by omega), List.getElem?_eq_none_iff.2 (show b.length <= j by omega)]
 · have hne : ((a.length : Int) != (b.length : Int)) = true := by simp; omega
   have HL := LH hlen; clear hlen
   go_wp2
   go_ret
   exact ⟨ret_ff fun h => HL.out (by rw [h]), XR _⟩
theorem slEqStr_any (a b : List ByteArray) (va vb : Value) (w : World) (ra : Rep w (strs a) [va]) (rb : Rep w (strs b) [vb]) :
 Calls Tryz.prog 83 #[va, vb] w fun e w' => e = .returned (.bool (eqB a b)) /\ Ext w w' := by
 obtain ⟨ao, ca, ba, oa, h1, hla, hma, pa, ha⟩ := Rep.strs ra
 obtain ⟨bo, cb, bb, ob, h2, hlb, hmb, pb, hb⟩ := Rep.strs rb
 simp only [List.cons.injEq, and_true] at h1 h2
 subst h1 h2
 clear ra rb
 unfold maxLen at hma hmb
 go_enter Tryz.func83, Tryz.ntmps83
 by_cases hlen : a.length = b.length
 · have hne : ((a.length : Int) != (b.length : Int)) = false := by simp [hlen]
   have HL := LH hlen; clear hlen
   go_wp2
   go_loopw [13] (fun i wr => ∃ k : Nat, k <= a.length /\ i = .int .i64 k /\ Ext w wr /\ Hid (∀ j, j < k -> a[j]? = b[j]?)) (fun i _ => a.length - (intOf i).toNat)
   case atStart => exact ⟨0, Nat.zero_le _, rfl, XR _, fun j hj => by omega⟩
   case round =>
    obtain ⟨k, hk, rfl, hx, heq⟩ := hrel
    by_cases hlt : k < a.length
    · have hltb : k < b.length := by have := HL.out; omega
      obtain rfl := pa (by omega)
      obtain rfl := pb (by omega)
      have a0 := reg hx (ha k a[k] (by simp [hlt]))
      have b0 := reg hx (hb k b[k] (by simp [hltb]))
      clear ha hb pa pb
      by_cases hs : a[k] = b[k]
      · have ht := str_eqn hs
        have HS := LH hs; clear hs
        go_wp2_with fail
        refine wp_region_quiet_below (by kernel_rfl) (by kernel_rfl) ?_
        repeat (quiet_step (fail))
        refine wpQuiet_nil ?_
        clear a0 b0
        intro _ hw'
        obtain ⟨pw, hw''⟩ := hw'
        subst hw''
        go_wp2
        go_roundw
        case rel => exact ⟨k + 1, by omega, by go_num, hx.trans (regx _ _), fun j hj => by
         by_cases h : j < k
         · exact heq.out j h
         · obtain rfl : j = k := by omega
           simp [hlt, hltb, HS.out]⟩
        case measure => simp [intOf]; omega
      · have ht := str_nen hs
        have HS := LH hs; clear hs
        go_wp2_with fail
        refine wp_region_quiet_below (by kernel_rfl) (by kernel_rfl) ?_
        repeat (quiet_step (fail))
        refine wpQuiet_nil ?_
        clear a0 b0
        intro _ hw'
        obtain ⟨pw, hw''⟩ := hw'
        subst hw''
        go_wp2
        go_ret
        exact ⟨ret_ff fun h => HS.out (by subst h; rfl), hx.trans (regx _ _)⟩
    · go_wp2
      go_ret
      have hl := HL.out
      obtain rfl : k = a.length := by omega
      refine ⟨ret_tt ?_, hx⟩
      exact List.ext_getElem? fun j => by
       by_cases hj : j < a.length
       · exact heq.out j hj
       · simp [List.getElem?_eq_none_iff.2 (show a.length <= j by omega), List.getElem?_eq_none_iff.2 (show b.length <= j by omega)]
 · have hne : ((a.length : Int) != (b.length : Int)) = true := by simp; omega
   have HL := LH hlen; clear hlen
   go_wp2
   go_ret
   exact ⟨ret_ff fun h => HL.out (by rw [h]), XR _⟩
end Go.Proofs.YtlaclfeljimffaaGreatDoor
