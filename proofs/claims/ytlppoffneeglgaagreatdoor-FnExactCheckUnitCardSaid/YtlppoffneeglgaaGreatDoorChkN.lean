/-
  CONTRACTS: names and declarations, of the reference.
  Conditions: those that each lemma states.
-/
import Derived.Test.YtlppoffneeglgaaGreatDoorRows
import Derived.Test.YtlppoffneeglgaaGreatDoorChkR
import Derived.Test.YtlppoffneeglgaaGreatDoorFnBlocks
namespace Go.Proofs.YtlppoffneeglgaaGreatDoor
open Go.RowKit
set_option linter.unusedSimpArgs false
set_option linter.unusedVariables false

/-- The scope's two lists of the reference. -/
def SRel (D : Scope) (Vs Fs : List ByteArray) : Prop := (∀ n, n ∈ Vs ↔ (n, false) ∈ D) ∧ (∀ n, n ∈ Fs ↔ (n, true) ∈ D) ∧ (D.map Prod.fst).Nodup
theorem SRel.nil : SRel [] [] [] := ⟨fun n => by simp, fun n => by simp, by simp⟩
theorem SRel.has {D : Scope} {Vs Fs : List ByteArray} (h : SRel D Vs Fs) (n : ByteArray) : hasB (D.map Prod.fst) n = (hasB Vs n || hasB Fs n) := by
  rw [Bool.eq_iff_iff, Bool.or_eq_true, hasB_iff, hasB_iff, hasB_iff, h.1, h.2.1, List.mem_map]
  constructor
  · rintro ⟨⟨m, b⟩, hm, rfl⟩
    cases b
    · exact Or.inl hm
    · exact Or.inr hm
  · rintro (hm | hm)
    · exact ⟨_, hm, rfl⟩
    · exact ⟨_, hm, rfl⟩
theorem SRel.var {D : Scope} {Vs Fs : List ByteArray} (h : SRel D Vs Fs) (n : ByteArray) : varB D n = hasB Vs n := by
  have e : varB D n = true ↔ n ∈ Vs := by
    rw [h.1]
    unfold varB
    rw [eqB_iff]
    simp only [eq_iff_iff, iff_true]
    constructor
    · rintro ⟨k, hk, -⟩; exact List.mem_of_getElem? hk
    · intro hm
      obtain ⟨k, hlt, hk⟩ := List.mem_iff_getElem.1 hm
      refine ⟨k, by rw [List.getElem?_eq_getElem hlt, hk], fun j hj b hb => ?_⟩
      obtain ⟨hjl, hjb⟩ := List.getElem?_eq_some_iff.1 hb
      have := (List.pairwise_iff_getElem.1 h.2.2) j k (by simpa using hjl) (by simpa using hlt) hj
      simp [hk, hjb] at this
  rw [Bool.eq_iff_iff, e, hasB_iff]
theorem SRel.add {D : Scope} {Vs Fs : List ByteArray} (h : SRel D Vs Fs) {n : ByteArray} (hn : hasB (D.map Prod.fst) n = false) : SRel (D ++ [(n, false)]) (Vs ++ [n]) Fs ∧ SRel (D ++ [(n, true)]) Vs (Fs ++ [n]) := by
  have hn' : n ∉ D.map Prod.fst := fun hm => by
    have := (hasB_iff (l := D.map Prod.fst) (s := n)).2 hm
    rw [hn] at this; cases this
  have nd : ∀ b : Bool, ((D ++ [(n, b)]).map Prod.fst).Nodup := fun b => by
    rw [List.map_append, List.nodup_append]
    exact ⟨h.2.2, by simp, fun a ha c hc => by
      simp at hc; subst hc; exact fun e => hn' (e ▸ ha)⟩
  refine ⟨⟨fun m => ?_, fun m => ?_, nd _⟩, ⟨fun m => ?_, fun m => ?_, nd _⟩⟩
  · rw [List.mem_append, h.1, List.mem_append]; simp
  · rw [h.2.1, List.mem_append]; simp
  · rw [h.1, List.mem_append]; simp
  · rw [List.mem_append, h.2.1, List.mem_append]; simp
abbrev strX : ByteArray → D := D.str
/-- What lies off block S. -/
def RepX (w : World) (S : Nat) (d : D) (v : Value) : Prop := ∃ fp, RepF w d [v] fp ∧ S ∉ fp
theorem RepX.rep {w : World} {S : Nat} {d : D} {v : Value} (h : RepX w S d v) : Rep w d [v] := let ⟨fp, h, _⟩ := h; ⟨fp, h⟩
theorem RepX.ext {w w' : World} {S : Nat} {d : D} {v : Value} (h : RepX w S d v) (hx : Ext w w') : RepX w' S d v := let ⟨fp, h, k⟩ := h; ⟨fp, h.ext hx, k⟩
theorem RepX.touch {w w' : World} {S : Nat} {d : D} {v : Value} (h : RepX w S d v) (ht : Touch w w' [S]) : RepX w' S d v := by
  obtain ⟨fp, h, k⟩ := h
  exact ⟨fp, h.touch ht fun b hb hm => by simp at hm; subst hm; exact k hb, k⟩
theorem RepX.of {w w' : World} {S : Nat} {d : D} {v : Value} (h : Rep w d [v]) (hx : Ext w w') (hS : w.heap.size ≤ S) : RepX w' S d v := by
  obtain ⟨fp, h⟩ := h
  exact ⟨fp, h.ext hx, fun hm => by have := h.lt _ _ hm; omega⟩
theorem rep_lits (w : World) (l : List ByteArray) (hl : l.length ≤ maxLen) (h0 : l ≠ []) : Rep (w.alloc (.cells (l.map Value.string).toArray 9)) (strs l) [.slice (some ⟨w.heap.size, 0, none⟩) l.length l.length] :=
  ⟨_, RepF.strs_mk (Nat.le_refl _) hl h0 (by simp) (fun i s hi => by
    rw [Nat.zero_add, (own_new w (l.map Value.string).toArray 9).cell i]; simp [hi])⟩

set_option maxHeartbeats 2000000 in
set_option maxRecDepth 100000 in
theorem l7Name_any (l : List MClassDef) (hl : l.length ≤ 8) {D : Scope} {Vs Fs V : List ByteArray} (hS : SRel D Vs Fs) (n : ByteArray) (hn : n.size ≤ 1048576) (S B : Nat) (a : Option Addr) (c : Nat) (vv vf vV : Value) (w : World) (s0 : w.cell? ⟨S, 0, none⟩ = some (.pointer (some ⟨B, 0, none⟩))) (s1 : w.cell? ⟨S, 1, none⟩ = some vv) (s2 : w.cell? ⟨S, 2, none⟩ = some vf) (s3 : w.cell? ⟨S, 3, none⟩ = some vV)
    (b0 : w.cell? ⟨B, 0, none⟩ = some (.slice a l.length c)) (rl : Rep w (MClassDefs l) [.slice a l.length c]) (rv : Rep w (strs Vs) [vv]) (rf : Rep w (strs Fs) [vf]) (rV : Rep w (strs V) [vV]) :
    Calls Tryz.prog 61 #[.pointer (some ⟨S, 0, none⟩), .string n] w fun e w' => e = .returned (.string (nameP (builtinsL ++ namesC l) V D n)) ∧ Ext w w' := by
  have RVV := Lib.hid rv; have RVF := Lib.hid rf; have RVX := Lib.hid rV
  have RES : Hid (∀ W : World, Rep (W.alloc (.cells (res4.map Value.string).toArray 9)) (strs res4) [.slice (some ⟨W.heap.size, 0, none⟩) res4.length res4.length]) := Lib.hid fun W => rep_lits W res4 (by unfold maxLen; simp [res4]) (by simp [res4])
  obtain ⟨kx, hkx⟩ : ∃ kx, clsIx l n = kx := ⟨_, rfl⟩
  have hkh : hasB (builtinsL ++ namesC l) n = decide (0 ≤ kx) := by rw [← clsIx_has, hkx]
  have CLC : Hid (∀ W, Ext w W → Calls Tryz.prog 30 #[.pointer (some ⟨B, 0, none⟩), .string n] W fun e w' => e = .returned (.int .i64 kx) ∧ Ext W w') := Lib.hid fun W hW => by
    rw [← hkx]; exact l7Class_any l hl n B a c W (hW.cell b0) (Rep.ext hW rl)
  have zS := lt_of_cell s0
  have HD := Lib.hid (hS.has n)
  clear rl rv rf rV hS hkx
  cases u0 : hasB Vs n
  rotate_left
  · have HV : Hid (nameP (builtinsL ++ namesC l) V D n = ⟨#[]⟩) := Lib.hid (by unfold nameP; rw [HD.out, hkh]; simp [u0])
    clear hkh
    go_enter Tryz.func61, Tryz.ntmps61
    go_wp2_with fail
    refine (l1Has_any Vs n vv _ RVV.out).mono ?_
    rw [u0]
    rintro e wq ⟨rfl, hq⟩
    subst wq
    go_wp2_with fail
    go_ret
    exact ⟨by rw [HV.out]; rfl, by first | exact Ext.refl _ | exact (Ext.refl _).alloc _⟩
  cases u1 : hasB Fs n
  rotate_left
  · have HV : Hid (nameP (builtinsL ++ namesC l) V D n = ⟨#[]⟩) := Lib.hid (by unfold nameP; rw [HD.out, hkh]; simp [u0, u1])
    clear hkh
    go_enter Tryz.func61, Tryz.ntmps61
    go_wp2_with fail
    refine (l1Has_any Vs n vv _ RVV.out).mono ?_
    rw [u0]
    rintro e wq ⟨rfl, hq⟩
    subst wq
    go_wp2_with fail
    refine (l1Has_any Fs n vf _ RVF.out).mono ?_
    rw [u1]
    rintro e wq ⟨rfl, hq⟩
    subst wq
    go_wp2_with fail
    go_ret
    exact ⟨by rw [HV.out]; rfl, by first | exact Ext.refl _ | exact (Ext.refl _).alloc _⟩
  cases u2 : hasB V n
  rotate_left
  · have HV : Hid (nameP (builtinsL ++ namesC l) V D n = ⟨#[]⟩) := Lib.hid (by unfold nameP; rw [HD.out, hkh]; simp [u0, u1, u2])
    clear hkh
    go_enter Tryz.func61, Tryz.ntmps61
    go_wp2_with fail
    refine (l1Has_any Vs n vv _ RVV.out).mono ?_
    rw [u0]
    rintro e wq ⟨rfl, hq⟩
    subst wq
    go_wp2_with fail
    refine (l1Has_any Fs n vf _ RVF.out).mono ?_
    rw [u1]
    rintro e wq ⟨rfl, hq⟩
    subst wq
    go_wp2_with fail
    refine (l1Has_any V n vV _ RVX.out).mono ?_
    rw [u2]
    rintro e wq ⟨rfl, hq⟩
    subst wq
    go_wp2_with fail
    go_ret
    exact ⟨by rw [HV.out]; rfl, by first | exact Ext.refl _ | exact (Ext.refl _).alloc _⟩
  by_cases u3 : 0 ≤ kx
  · have HV : Hid (nameP (builtinsL ++ namesC l) V D n = ⟨#[]⟩) := Lib.hid (by unfold nameP; rw [HD.out, hkh]; simp [u0, u1, u2, u3])
    clear hkh
    go_enter Tryz.func61, Tryz.ntmps61
    go_wp2_with fail
    refine (l1Has_any Vs n vv _ RVV.out).mono ?_
    rw [u0]
    rintro e wq ⟨rfl, hq⟩
    subst wq
    go_wp2_with fail
    refine (l1Has_any Fs n vf _ RVF.out).mono ?_
    rw [u1]
    rintro e wq ⟨rfl, hq⟩
    subst wq
    go_wp2_with fail
    refine (l1Has_any V n vV _ RVX.out).mono ?_
    rw [u2]
    rintro e wq ⟨rfl, hq⟩
    subst wq
    go_wp2_with fail
    refine (CLC.out _ (Ext.refl _)).mono ?_
    rintro e w2 ⟨rfl, hx2⟩
    go_wp2_with fail
    go_ret
    exact ⟨by rw [HV.out]; rfl, by first | exact hx2 | exact hx2.trans ((Ext.refl _).alloc _)⟩
  cases u4 : hasB res4 n
  rotate_left
  · have HV : Hid (nameP (builtinsL ++ namesC l) V D n = ⟨#[]⟩) := Lib.hid (by unfold nameP; rw [HD.out, hkh]; simp [u0, u1, u2, u4, u3])
    clear hkh
    go_enter Tryz.func61, Tryz.ntmps61
    go_wp2_with fail
    refine (l1Has_any Vs n vv _ RVV.out).mono ?_
    rw [u0]
    rintro e wq ⟨rfl, hq⟩
    subst wq
    go_wp2_with fail
    refine (l1Has_any Fs n vf _ RVF.out).mono ?_
    rw [u1]
    rintro e wq ⟨rfl, hq⟩
    subst wq
    go_wp2_with fail
    refine (l1Has_any V n vV _ RVX.out).mono ?_
    rw [u2]
    rintro e wq ⟨rfl, hq⟩
    subst wq
    go_wp2_with fail
    refine (CLC.out _ (Ext.refl _)).mono ?_
    rintro e w2 ⟨rfl, hx2⟩
    go_wp2_with fail
    refine (l1Has_any res4 n _ _ (RES.out _)).mono ?_
    rw [u4]
    rintro e wq ⟨rfl, hq⟩
    subst wq
    go_wp2_with fail
    go_ret
    exact ⟨by rw [HV.out]; rfl, by first | exact hx2 | exact hx2.trans ((Ext.refl _).alloc _)⟩
  have HV : Hid (nameP (builtinsL ++ namesC l) V D n = tUnknown n) := Lib.hid (by unfold nameP; rw [HD.out, hkh]; simp [u0, u1, u2, u4, u3])
  clear hkh
  go_enter Tryz.func61, Tryz.ntmps61
  go_wp2_with fail
  refine (l1Has_any Vs n vv _ RVV.out).mono ?_
  rw [u0]
  rintro e wq ⟨rfl, hq⟩
  subst wq
  go_wp2_with fail
  refine (l1Has_any Fs n vf _ RVF.out).mono ?_
  rw [u1]
  rintro e wq ⟨rfl, hq⟩
  subst wq
  go_wp2_with fail
  refine (l1Has_any V n vV _ RVX.out).mono ?_
  rw [u2]
  rintro e wq ⟨rfl, hq⟩
  subst wq
  go_wp2_with fail
  refine (CLC.out _ (Ext.refl _)).mono ?_
  rintro e w2 ⟨rfl, hx2⟩
  go_wp2_with fail
  refine (l1Has_any res4 n _ _ (RES.out _)).mono ?_
  rw [u4]
  rintro e wq ⟨rfl, hq⟩
  subst wq
  go_wp2_with fail
  go_ret
  exact ⟨by rw [HV.out]; rfl, by first | exact hx2 | exact hx2.trans ((Ext.refl _).alloc _)⟩

set_option maxHeartbeats 8000000 in
set_option maxRecDepth 100000 in
theorem l7Declare_any (l : List MClassDef) (hl : l.length ≤ 8) {D : Scope} {Vs Fs V : List ByteArray} (hS : SRel D Vs Fs) (names : List ByteArray) (k : Int) (hn : ∀ n, n ∈ names → n.size ≤ 1048576) (S B : Nat) (a : Option Addr) (c : Nat) (av af : Option Addr) (cv cf : Nat) (vV vn : Value) (own : Bool) (w : World) (hO : Own w S 78 #[.pointer (some ⟨B, 0, none⟩), .slice av Vs.length cv, .slice af Fs.length cf, vV, .bool own])
    (hBS : B ≠ S) (b0 : w.cell? ⟨B, 0, none⟩ = some (.slice a l.length c)) (rl : RepX w S (MClassDefs l) (.slice a l.length c)) (rv : RepX w S (strs Vs) (.slice av Vs.length cv)) (rf : RepX w S (strs Fs) (.slice af Fs.length cf)) (rV : RepX w S (strs V) vV) (rn : RepX w S (strs names) vn) (hD : Vs.length + Fs.length + names.length ≤ 4194304) :
    Calls Tryz.prog 62 #[.pointer (some ⟨S, 0, none⟩), vn, .int .i64 k] w fun e w' => e = .returned (.string (declP (builtinsL ++ namesC l) V k 0 D names)) ∧ Touch w w' [S] ∧ ((declP (builtinsL ++ namesC l) V k 0 D names).size = 0 → ∃ (av af : Option Addr) (cv cf : Nat) (Vs' Fs' : List ByteArray), Own w' S 78 #[.pointer (some ⟨B, 0, none⟩), .slice av Vs'.length cv, .slice af Fs'.length cf, vV, .bool own] ∧ RepX w' S (strs Vs') (.slice av Vs'.length cv) ∧ RepX w' S (strs Fs') (.slice af Fs'.length cf) ∧ SRel (D ++ flagsF k 0 names) Vs' Fs' ∧ Vs'.length + Fs'.length ≤ Vs.length + Fs.length + names.length) := by
  obtain ⟨an, cn, bn, on, h1, hln, hmn, pn, hnn⟩ := Rep.strs rn.rep
  obtain ⟨fn, rn1, rn2⟩ := rn
  obtain ⟨an', cn', bn', on', h1', hln', hmn', pn', hnn'⟩ := RepF.slmap (f := strX) rn1
  simp only [List.cons.injEq, and_true] at h1'
  subst h1'
  unfold maxLen at hmn'
  have HNN : Hid (∀ (i : Nat) (s : ByteArray), names[i]? = some s → w.cell? ⟨bn', on' + i, none⟩ = some (.string s) ∧ bn' ≠ S) := Lib.hid fun i s hs => by
    obtain ⟨es, gp, h1, h2, h3, h4, h5⟩ := hnn' i s hs
    simp only [RepF] at h3
    have := h2 0 (by omega)
    rw [h3.1] at this
    refine ⟨by simpa using this, fun e => rn2 (e ▸ h5)⟩
  have HN := Lib.hid hn
  have RL := Lib.hid rl; have RV9 := Lib.hid rV
  have HO := Lib.hid hO
  have RV0 := Lib.hid rv; have RF0 := Lib.hid rf
  have zS := hO.lt
  have HS := Lib.hid hS
  clear rl rV rv rf hnn hnn' h1 hln hmn pn hn hO rn1 hS
  go_enter Tryz.func62, Tryz.ntmps62
  go_wp2_with fail
  go_loopw [7] (fun iv wr => ∃ (i : Nat) (av2 af2 : Option Addr) (cv2 cf2 : Nat) (Vs2 Fs2 : List ByteArray), i ≤ names.length ∧ iv = .int .i64 i ∧ Own wr S 78 #[.pointer (some ⟨B, 0, none⟩), .slice av2 Vs2.length cv2, .slice af2 Fs2.length cf2, vV, .bool own] ∧ RepX wr S (strs Vs2) (.slice av2 Vs2.length cv2) ∧ RepX wr S (strs Fs2) (.slice af2 Fs2.length cf2) ∧ Hid (SRel (D ++ flagsF k 0 (names.take i)) Vs2 Fs2) ∧ Touch w wr [S] ∧ Hid (declP (builtinsL ++ namesC l) V k i (D ++ flagsF k 0 (names.take i)) (names.drop i) = declP (builtinsL ++ namesC l) V k 0 D names) ∧ Vs2.length + Fs2.length ≤ Vs.length + Fs.length + i) (fun iv _ => names.length - (intOf iv).toNat)
  case atStart => exact ⟨0, av, af, cv, cf, Vs, Fs, Nat.zero_le _, rfl, HO.out, RV0.out, RF0.out, Lib.hid (by simpa [flagsF] using HS.out), Touch.of_ext (Ext.refl _) _, Lib.hid (by simp [flagsF]), by omega⟩
  case round =>
    obtain ⟨i, av2, af2, cv2, cf2, Vs2, Fs2, hi, rfl, O2, rv2, rf2, hS2, T2, hQ, hb2⟩ := hrel
    by_cases hlt : i < names.length
    rotate_left
    · obtain rfl : i = names.length := by omega
      have HE : Hid (declP (builtinsL ++ namesC l) V k 0 D names = ⟨#[]⟩) := Lib.hid (by
        have := hQ.out
        rwa [List.drop_length, declP, eq_comm] at this)
      rw [List.take_length] at hS2
      go_wp2_with fail
      go_ret
      exact ⟨by rw [HE.out]; rfl, T2, fun _ => ⟨av2, af2, cv2, cf2, Vs2, Fs2, O2, rv2, rf2, hS2.out, hb2⟩⟩
    obtain ⟨n, hnm⟩ : ∃ s, names[i]? = some s := ⟨_, List.getElem?_eq_getElem hlt⟩
    obtain ⟨hc0, hbS⟩ := HNN.out i n hnm
    have q0 := Touch.cellAt T2 (by simpa using hbS) hc0
    have hnz := HN.out n (List.mem_of_getElem? hnm)
    obtain rfl := pn' (by omega)
    have HNM := Lib.hid hnm
    have hil : (i : Int) < names.length := by omega
    have s0 : wr.cell? ⟨S, 0, none⟩ = some (.pointer (some ⟨B, 0, none⟩)) := by rw [O2.cell]; rfl
    have s1 : wr.cell? ⟨S, 1, none⟩ = some (.slice av2 Vs2.length cv2) := by rw [O2.cell]; rfl
    have s2 : wr.cell? ⟨S, 2, none⟩ = some (.slice af2 Fs2.length cf2) := by rw [O2.cell]; rfl
    have s3 : wr.cell? ⟨S, 3, none⟩ = some vV := by rw [O2.cell]; rfl
    have f1 := O2.frozen 1
    have f2 := O2.frozen 2
    have zSr := lt_of_cell s0
    have hTs := T2.size
    obtain ⟨Di, hDi⟩ : ∃ Di, D ++ flagsF k 0 (names.take i) = Di := ⟨_, rfl⟩
    have HDI := Lib.hid hDi
    rw [hDi] at hS2 hQ
    have rv := rv2.rep
    have rf := rf2.rep
    have rV := (RV9.out.touch T2).rep
    have RVV := Lib.hid rv; have RVF := Lib.hid rf; have RVX := Lib.hid rV
    have RES : Hid (∀ W : World, Rep (W.alloc (.cells (resB.map Value.string).toArray 9)) (strs resB) [.slice (some ⟨W.heap.size, 0, none⟩) resB.length resB.length]) := Lib.hid fun W => rep_lits W resB (by unfold maxLen; simp [resB]) (by simp [resB])
    obtain ⟨kx, hkx⟩ : ∃ kx, clsIx l n = kx := ⟨_, rfl⟩
    have hkh : hasB (builtinsL ++ namesC l) n = decide (0 ≤ kx) := by rw [← clsIx_has, hkx]
    have CLC : Hid (∀ W, Ext wr W → Calls Tryz.prog 30 #[.pointer (some ⟨B, 0, none⟩), .string n] W fun e w' => e = .returned (.int .i64 kx) ∧ Ext W w') := Lib.hid fun W hW => by
      rw [← hkx]; exact l7Class_any l hl n B a c W (hW.cell (Touch.cellAt T2 (by simpa using hBS) b0)) (Rep.ext hW (RL.out.touch T2).rep)
    have HD := Lib.hid (hS2.out.has n)
    have HUSE : Hid (usedB (builtinsL ++ namesC l) V Di n = (hasB Vs2 n || hasB Fs2 n || hasB V n || decide (0 ≤ kx) || hasB resB n)) := Lib.hid (by unfold usedB; rw [HD.out, hkh])
    have HQ2 : Hid (declP (builtinsL ++ namesC l) V k 0 D names = orT (useP (builtinsL ++ namesC l) V Di n) (declP (builtinsL ++ namesC l) V k (i + 1) (Di ++ [(n, decide ((i : Int) < k))]) (names.drop (i + 1)))) := Lib.hid (by
      rw [← hQ.out, drop_cons hnm, declP])
    have RV2 := Lib.hid rv2
    have RF2 := Lib.hid rf2
    clear hkx hkh rv rf rV hnm hc0 rv2 rf2 hDi
    cases u0 : hasB Vs2 n
    rotate_left
    · have HV : Hid (declP (builtinsL ++ namesC l) V k 0 D names = tUse n) := Lib.hid (by
        rw [HQ2.out]
        have : useP (builtinsL ++ namesC l) V Di n = tUse n := if_pos (by rw [HUSE.out]; simp [u0])
        rw [this]; exact orT_ne (t_pos _ _ _ (by decide)) _)
      go_wp2_with fail
      refine (l1Has_any Vs2 n _ _ RVV.out).mono ?_
      rw [u0]
      rintro e wq ⟨rfl, hq⟩
      subst wq
      go_wp2_with fail
      go_ret
      exact ⟨by rw [HV.out]; rfl, T2.trans (Touch.of_ext (by first | exact Ext.refl _ | exact (Ext.refl _).alloc _) _), fun h => absurd h (by rw [HV.out]; exact t_pos _ _ _ (by decide))⟩
    cases u1 : hasB Fs2 n
    rotate_left
    · have HV : Hid (declP (builtinsL ++ namesC l) V k 0 D names = tUse n) := Lib.hid (by
        rw [HQ2.out]
        have : useP (builtinsL ++ namesC l) V Di n = tUse n := if_pos (by rw [HUSE.out]; simp [u0, u1])
        rw [this]; exact orT_ne (t_pos _ _ _ (by decide)) _)
      go_wp2_with fail
      refine (l1Has_any Vs2 n _ _ RVV.out).mono ?_
      rw [u0]
      rintro e wq ⟨rfl, hq⟩
      subst wq
      go_wp2_with fail
      refine (l1Has_any Fs2 n _ _ RVF.out).mono ?_
      rw [u1]
      rintro e wq ⟨rfl, hq⟩
      subst wq
      go_wp2_with fail
      go_ret
      exact ⟨by rw [HV.out]; rfl, T2.trans (Touch.of_ext (by first | exact Ext.refl _ | exact (Ext.refl _).alloc _) _), fun h => absurd h (by rw [HV.out]; exact t_pos _ _ _ (by decide))⟩
    cases u2 : hasB V n
    rotate_left
    · have HV : Hid (declP (builtinsL ++ namesC l) V k 0 D names = tUse n) := Lib.hid (by
        rw [HQ2.out]
        have : useP (builtinsL ++ namesC l) V Di n = tUse n := if_pos (by rw [HUSE.out]; simp [u0, u1, u2])
        rw [this]; exact orT_ne (t_pos _ _ _ (by decide)) _)
      go_wp2_with fail
      refine (l1Has_any Vs2 n _ _ RVV.out).mono ?_
      rw [u0]
      rintro e wq ⟨rfl, hq⟩
      subst wq
      go_wp2_with fail
      refine (l1Has_any Fs2 n _ _ RVF.out).mono ?_
      rw [u1]
      rintro e wq ⟨rfl, hq⟩
      subst wq
      go_wp2_with fail
      refine (l1Has_any V n vV _ RVX.out).mono ?_
      rw [u2]
      rintro e wq ⟨rfl, hq⟩
      subst wq
      go_wp2_with fail
      go_ret
      exact ⟨by rw [HV.out]; rfl, T2.trans (Touch.of_ext (by first | exact Ext.refl _ | exact (Ext.refl _).alloc _) _), fun h => absurd h (by rw [HV.out]; exact t_pos _ _ _ (by decide))⟩
    by_cases u3 : 0 ≤ kx
    · have HV : Hid (declP (builtinsL ++ namesC l) V k 0 D names = tUse n) := Lib.hid (by
        rw [HQ2.out]
        have : useP (builtinsL ++ namesC l) V Di n = tUse n := if_pos (by rw [HUSE.out]; simp [u0, u1, u2, u3])
        rw [this]; exact orT_ne (t_pos _ _ _ (by decide)) _)
      go_wp2_with fail
      refine (l1Has_any Vs2 n _ _ RVV.out).mono ?_
      rw [u0]
      rintro e wq ⟨rfl, hq⟩
      subst wq
      go_wp2_with fail
      refine (l1Has_any Fs2 n _ _ RVF.out).mono ?_
      rw [u1]
      rintro e wq ⟨rfl, hq⟩
      subst wq
      go_wp2_with fail
      refine (l1Has_any V n vV _ RVX.out).mono ?_
      rw [u2]
      rintro e wq ⟨rfl, hq⟩
      subst wq
      go_wp2_with fail
      refine (CLC.out _ (Ext.refl _)).mono ?_
      rintro e w2 ⟨rfl, hx2⟩
      go_wp2_with fail
      go_ret
      exact ⟨by rw [HV.out]; rfl, T2.trans (Touch.of_ext (by first | exact hx2 | exact hx2.trans ((Ext.refl _).alloc _)) _), fun h => absurd h (by rw [HV.out]; exact t_pos _ _ _ (by decide))⟩
    cases u4 : hasB resB n
    rotate_left
    · have HV : Hid (declP (builtinsL ++ namesC l) V k 0 D names = tUse n) := Lib.hid (by
        rw [HQ2.out]
        have : useP (builtinsL ++ namesC l) V Di n = tUse n := if_pos (by rw [HUSE.out]; simp [u0, u1, u2, u3, u4])
        rw [this]; exact orT_ne (t_pos _ _ _ (by decide)) _)
      go_wp2_with fail
      refine (l1Has_any Vs2 n _ _ RVV.out).mono ?_
      rw [u0]
      rintro e wq ⟨rfl, hq⟩
      subst wq
      go_wp2_with fail
      refine (l1Has_any Fs2 n _ _ RVF.out).mono ?_
      rw [u1]
      rintro e wq ⟨rfl, hq⟩
      subst wq
      go_wp2_with fail
      refine (l1Has_any V n vV _ RVX.out).mono ?_
      rw [u2]
      rintro e wq ⟨rfl, hq⟩
      subst wq
      go_wp2_with fail
      refine (CLC.out _ (Ext.refl _)).mono ?_
      rintro e w2 ⟨rfl, hx2⟩
      go_wp2_with fail
      refine (l1Has_any resB n _ _ (RES.out _)).mono ?_
      rw [u4]
      rintro e wq ⟨rfl, hq⟩
      subst wq
      go_wp2_with fail
      go_ret
      exact ⟨by rw [HV.out]; rfl, T2.trans (Touch.of_ext (by first | exact hx2 | exact hx2.trans ((Ext.refl _).alloc _)) _), fun h => absurd h (by rw [HV.out]; exact t_pos _ _ _ (by decide))⟩
    have hU : useP (builtinsL ++ namesC l) V Di n = ⟨#[]⟩ := if_neg (by rw [HUSE.out]; simp [u0, u1, u2, u3, u4])
    have HV : Hid (declP (builtinsL ++ namesC l) V k (i + 1) (Di ++ [(n, decide ((i : Int) < k))]) (names.drop (i + 1)) = declP (builtinsL ++ namesC l) V k 0 D names) := Lib.hid (by rw [HQ2.out, hU, orT_l])
    have HA := Lib.hid (hS2.out.add (n := n) (by rw [HD.out]; simp [u0, u1]))
    clear hU
    by_cases hik : (i : Int) < k
    · have HVV : Hid (D ++ flagsF k 0 (names.take (i + 1)) = Di ++ [(n, true)]) := Lib.hid (by rw [flagsF_take HNM.out, ← List.append_assoc, HDI.out, decide_eq_true hik])
      have HV2 : Hid (declP (builtinsL ++ namesC l) V k (i + 1) (D ++ flagsF k 0 (names.take (i + 1))) (names.drop (i + 1)) = declP (builtinsL ++ namesC l) V k 0 D names) := Lib.hid (by rw [← HV.out, HVV.out, decide_eq_true hik])
      go_wp2_with fail
      refine (l1Has_any Vs2 n _ _ RVV.out).mono ?_
      rw [u0]
      rintro e wq ⟨rfl, hq⟩
      subst wq
      go_wp2_with fail
      refine (l1Has_any Fs2 n _ _ RVF.out).mono ?_
      rw [u1]
      rintro e wq ⟨rfl, hq⟩
      subst wq
      go_wp2_with fail
      refine (l1Has_any V n vV _ RVX.out).mono ?_
      rw [u2]
      rintro e wq ⟨rfl, hq⟩
      subst wq
      go_wp2_with fail
      refine (CLC.out _ (Ext.refl _)).mono ?_
      rintro e w2 ⟨rfl, hx2⟩
      go_wp2_with fail
      refine (l1Has_any resB n _ _ (RES.out _)).mono ?_
      rw [u4]
      rintro e wq ⟨rfl, hq⟩
      subst wq
      generalize hW5 : World.alloc w2 _ = w5
      have hx5 : Ext wr w5 := by rw [← hW5]; exact hx2.trans ((Ext.refl _).alloc _)
      clear hW5
      replace s0 := hx5.cell s0
      replace s1 := hx5.cell s1
      replace s2 := hx5.cell s2
      replace s3 := hx5.cell s3
      have O5 := O2.ext hx5
      have f1 := O5.frozen 1
      have f2 := O5.frozen 2
      have z5 := lt_of_cell s0
      have hA0 : AccT w5.heap.size (w5.alloc (.cells #[] 9)) (.slice (some ⟨w5.heap.size, 0, none⟩) 0 0) [] := Acc.empty _ _ (Nat.le_refl _)
      go_wp2_with (at_builtin; refine wpList_append_strs rfl _ _ rfl w5.heap.size (.slice (some ⟨w5.heap.size, 0, none⟩) 0 0) [] rfl hA0 Fs2 _ _ _ rfl (Rep.ext (hx5.trans ((Ext.refl _).alloc _)) RF2.out.rep) (by simp; omega) (by simp) ?_)
      intro a6 c6 w6 ac6 hg6
      try simp only [List.length_nil, Nat.zero_add, List.nil_append] at ac6
      try simp only [List.length_nil, Nat.zero_add, List.nil_append]
      have hx6 : Ext w5 w6 := AccT.below hA0 ((Ext.refl _).alloc _) hg6 (by simp)
      have hz6 := hx6.size
      have hA6 := ac6.ext ((Ext.refl w6).alloc (.cells #[.string n] 9))
      replace s0 := hx6.cell s0
      replace s1 := hx6.cell s1
      replace s2 := hx6.cell s2
      replace s3 := hx6.cell s3
      go_wp2_with (at_builtin; refine wpList_append_strs rfl _ _ rfl w5.heap.size _ Fs2 rfl hA6 [n] _ _ _ rfl (rep_one _ _) (by simp; omega) (by simp; omega) ?_)
      intro a7 c7 w7 ac7 hg7
      have hx7 : Ext w5 w7 := AccT.below hA6 (hx6.alloc _) hg7 (by simp; omega)
      have O7 := O5.ext hx7
      have f1 := O7.frozen 1
      have f2 := O7.frozen 2
      have y2 : w7.cell? ⟨S, 2, none⟩ = some (.slice af2 Fs2.length cf2) := by rw [O7.cell]; rfl
      have z7 := lt_of_cell y2
      clear hA0 hA6 hg6 hg7
      have hel : (Fs2 ++ [n]).length = Fs2.length + 1 := List.length_append
      try simp only [List.length_cons, List.length_nil, Nat.zero_add] at ac7
      try simp only [List.length_cons, List.length_nil, Nat.zero_add]
      go_wp2_with fail
      go_roundw
      case rel =>
        have T7 : Touch w7 (w7.setCell ⟨S, 2, none⟩ (.slice a7 (Fs2.length + 1) c7)) [S] := (Touch.of_ext (Ext.refl w7) [S]).setCell (by simp) _
        have X7 := hx5.trans hx7
        obtain ⟨a8, c8, gp8, h81, h82, h83⟩ := ac7.rep
        rw [hel] at h81 h82
        simp only [Value.slice.injEq] at h81
        obtain ⟨rfl, -, rfl⟩ := h81
        have hnew : RepX w7 S (strs (Fs2 ++ [n])) (.slice a7 (Fs2.length + 1) c7) := ⟨gp8, h82, fun hm => by have := h83.ge _ hm; omega⟩
        exact ⟨i + 1, av2, a7, cv2, c7, Vs2, Fs2 ++ [n], by omega, by go_num, by rw [hel]; exact O7.set 2 _, (RV2.out.ext X7).touch T7, by rw [hel]; exact hnew.touch T7, by rw [HVV.out]; exact Lib.hid HA.out.2, (T2.trans (Touch.of_ext X7 _)).trans T7, HV2, by rw [hel]; omega⟩
      case measure => simp [intOf]; omega
    · have HVV : Hid (D ++ flagsF k 0 (names.take (i + 1)) = Di ++ [(n, false)]) := Lib.hid (by rw [flagsF_take HNM.out, ← List.append_assoc, HDI.out, decide_eq_false hik])
      have HV2 : Hid (declP (builtinsL ++ namesC l) V k (i + 1) (D ++ flagsF k 0 (names.take (i + 1))) (names.drop (i + 1)) = declP (builtinsL ++ namesC l) V k 0 D names) := Lib.hid (by rw [← HV.out, HVV.out, decide_eq_false hik])
      go_wp2_with fail
      refine (l1Has_any Vs2 n _ _ RVV.out).mono ?_
      rw [u0]
      rintro e wq ⟨rfl, hq⟩
      subst wq
      go_wp2_with fail
      refine (l1Has_any Fs2 n _ _ RVF.out).mono ?_
      rw [u1]
      rintro e wq ⟨rfl, hq⟩
      subst wq
      go_wp2_with fail
      refine (l1Has_any V n vV _ RVX.out).mono ?_
      rw [u2]
      rintro e wq ⟨rfl, hq⟩
      subst wq
      go_wp2_with fail
      refine (CLC.out _ (Ext.refl _)).mono ?_
      rintro e w2 ⟨rfl, hx2⟩
      go_wp2_with fail
      refine (l1Has_any resB n _ _ (RES.out _)).mono ?_
      rw [u4]
      rintro e wq ⟨rfl, hq⟩
      subst wq
      generalize hW5 : World.alloc w2 _ = w5
      have hx5 : Ext wr w5 := by rw [← hW5]; exact hx2.trans ((Ext.refl _).alloc _)
      clear hW5
      replace s0 := hx5.cell s0
      replace s1 := hx5.cell s1
      replace s2 := hx5.cell s2
      replace s3 := hx5.cell s3
      have O5 := O2.ext hx5
      have f1 := O5.frozen 1
      have f2 := O5.frozen 2
      have z5 := lt_of_cell s0
      have hA0 : AccT w5.heap.size (w5.alloc (.cells #[] 9)) (.slice (some ⟨w5.heap.size, 0, none⟩) 0 0) [] := Acc.empty _ _ (Nat.le_refl _)
      go_wp2_with (at_builtin; refine wpList_append_strs rfl _ _ rfl w5.heap.size (.slice (some ⟨w5.heap.size, 0, none⟩) 0 0) [] rfl hA0 Vs2 _ _ _ rfl (Rep.ext (hx5.trans ((Ext.refl _).alloc _)) RV2.out.rep) (by simp; omega) (by simp) ?_)
      intro a6 c6 w6 ac6 hg6
      try simp only [List.length_nil, Nat.zero_add, List.nil_append] at ac6
      try simp only [List.length_nil, Nat.zero_add, List.nil_append]
      have hx6 : Ext w5 w6 := AccT.below hA0 ((Ext.refl _).alloc _) hg6 (by simp)
      have hz6 := hx6.size
      have hA6 := ac6.ext ((Ext.refl w6).alloc (.cells #[.string n] 9))
      replace s0 := hx6.cell s0
      replace s1 := hx6.cell s1
      replace s2 := hx6.cell s2
      replace s3 := hx6.cell s3
      go_wp2_with (at_builtin; refine wpList_append_strs rfl _ _ rfl w5.heap.size _ Vs2 rfl hA6 [n] _ _ _ rfl (rep_one _ _) (by simp; omega) (by simp; omega) ?_)
      intro a7 c7 w7 ac7 hg7
      have hx7 : Ext w5 w7 := AccT.below hA6 (hx6.alloc _) hg7 (by simp; omega)
      have O7 := O5.ext hx7
      have f1 := O7.frozen 1
      have f2 := O7.frozen 2
      have y1 : w7.cell? ⟨S, 1, none⟩ = some (.slice av2 Vs2.length cv2) := by rw [O7.cell]; rfl
      have z7 := lt_of_cell y1
      clear hA0 hA6 hg6 hg7
      have hel : (Vs2 ++ [n]).length = Vs2.length + 1 := List.length_append
      try simp only [List.length_cons, List.length_nil, Nat.zero_add] at ac7
      try simp only [List.length_cons, List.length_nil, Nat.zero_add]
      go_wp2_with fail
      go_roundw
      case rel =>
        have T7 : Touch w7 (w7.setCell ⟨S, 1, none⟩ (.slice a7 (Vs2.length + 1) c7)) [S] := (Touch.of_ext (Ext.refl w7) [S]).setCell (by simp) _
        have X7 := hx5.trans hx7
        obtain ⟨a8, c8, gp8, h81, h82, h83⟩ := ac7.rep
        rw [hel] at h81 h82
        simp only [Value.slice.injEq] at h81
        obtain ⟨rfl, -, rfl⟩ := h81
        have hnew : RepX w7 S (strs (Vs2 ++ [n])) (.slice a7 (Vs2.length + 1) c7) := ⟨gp8, h82, fun hm => by have := h83.ge _ hm; omega⟩
        exact ⟨i + 1, a7, af2, c7, cf2, Vs2 ++ [n], Fs2, by omega, by go_num, by rw [hel]; exact O7.set 1 _, by rw [hel]; exact hnew.touch T7, (RF2.out.ext X7).touch T7, by rw [HVV.out]; exact Lib.hid HA.out.1, (T2.trans (Touch.of_ext X7 _)).trans T7, HV2, by rw [hel]; omega⟩
      case measure => simp [intOf]; omega

end Go.Proofs.YtlppoffneeglgaaGreatDoor
