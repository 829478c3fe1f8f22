/-
  CONTRACTS: a class of a unit, of the reference.
  Conditions: those that each lemma states.
-/
import Derived.Test.YtlppoffneeglgaaGreatDoorRows
import Derived.Test.YtlppoffneeglgaaGreatDoorChkN
import Derived.Deep.RegionHeld3
namespace Go.Proofs.YtlppoffneeglgaaGreatDoor
open Go.RowKit
set_option linter.unusedSimpArgs false
set_option linter.unusedVariables false

/-- A parent that can be extended, by its index. -/
theorem parent_ok {l : List MClassDef} (h : Clean l) (s : ByteArray) : (clsIx l s < 0 ∨ (4 < clsIx l s ∧ clsIx l s < 16)) ↔ ¬ (s ∈ extB ∨ s ∈ namesC l) := by
  constructor
  · intro hx hs
    obtain ⟨-, h1, h2⟩ := flds_parent h hs
    omega
  · intro hn
    rw [not_or] at hn
    by_cases hb : s ∈ builtinsL
    · right
      have h0 := (Lib.idxOfS_nonneg_iff builtinsL s).2 hb
      have e : clsIx l s = Lib.idxOfS builtinsL s := if_pos h0
      rw [e]
      obtain ⟨k, hk, hg, hlt, -⟩ := idx_lt h0
      have e16 : builtinsL.length = 16 := rfl
      rw [hk]
      refine ⟨?_, by omega⟩
      have key : ∀ j : Nat, j < 5 → ∀ t, builtinsL[j]? = some t → t ∈ extB := by
        intro j hj t ht
        rcases (show j = 0 ∨ j = 1 ∨ j = 2 ∨ j = 3 ∨ j = 4 by omega) with rfl | rfl | rfl | rfl | rfl <;> (simp [builtinsL] at ht; subst ht; simp [extB])
      apply Decidable.byContradiction
      intro hc
      exact hn.1 (key k (by omega) s hg)
    · left
      have h0 := idx_neg hb
      have h1 := idx_neg hn.2
      unfold clsIx
      rw [if_neg (by omega), if_neg (by omega)]
      omega
theorem known_drop (l : List MClassDef) : (builtinsL ++ namesC l).drop 16 = namesC l := by
  rw [List.drop_append_of_le_length (by decide)]
  rfl
theorem sameM_iff {a b : MMethod} : sameM a b = true ↔ a.selector = b.selector ∧ a.cls = b.cls := by
  unfold sameM
  rw [Bool.and_eq_true, eqB_iff, beq_iff_eq]

set_option maxHeartbeats 16000000 in
set_option maxRecDepth 100000 in
theorem l7ClassProblem_any (l : List MClassDef) (hl : l.length ≤ 8) (i : Nat) (d : MClassDef) (hd : l[i]? = some d) (hc : Clean (l.take i)) (hz : ∀ d, d ∈ l → d.fields.length ≤ 4) (hsz : d.name.size ≤ 1048576 ∧ d.parent.size ≤ 1048576 ∧ (∀ s, s ∈ d.fields → s.size ≤ 1048576) ∧ d.methods.length ≤ 1048576 ∧ ∀ m, m ∈ d.methods → m.selector.size ≤ 1048576) (B : Nat) (a : Option Addr) (c : Nat) (w : World) (b0 : w.cell? ⟨B, 0, none⟩ = some (.slice a l.length c)) (rl : Rep w (MClassDefs l) [.slice a l.length c]) :
    Calls Tryz.prog 12 #[.pointer (some ⟨B, 0, none⟩), .int .i64 i] w fun e w' => e = .returned (.string (clsP (builtinsL ++ namesC l) (builtinsL ++ namesC (l.take i)) (fmAll (l.take i)) d)) ∧ Ext w w' := by
  have RL := Lib.hid rl
  have HB0 := Lib.hid b0
  obtain ⟨ao, ca, ba, oa, h1, hla, hma, pa, ha⟩ := Rep.slmap rl
  simp only [List.cons.injEq, and_true, Value.slice.injEq] at h1
  obtain ⟨rfl, -, rfl⟩ := h1
  unfold maxLen at hma
  have hi := (List.getElem?_eq_some_iff.1 hd).1
  obtain rfl := pa (by omega)
  obtain ⟨es, les, ces, res⟩ := ha i d hd
  obtain ⟨af, cf, am, cm, rfl, rf, rm⟩ := MClassDef.op_en res
  have q0 : w.cell? ⟨ba, oa + i * 4, none⟩ = some (.string d.name) := ces 0 (by omega)
  have q1 : w.cell? ⟨ba, oa + i * 4 + 1, none⟩ = some (.string d.parent) := ces 1 (by omega)
  have q2 : w.cell? ⟨ba, oa + i * 4 + 2, none⟩ = some (.slice af d.fields.length cf) := ces 2 (by omega)
  have q3 : w.cell? ⟨ba, oa + i * 4 + 3, none⟩ = some (.slice am d.methods.length cm) := ces 3 (by omega)
  have RF := Lib.hid rf
  have RM := Lib.hid rm
  have hfz : d.fields.length ≤ 4 := hz d (List.mem_of_getElem? hd)
  have hmz := hsz.2.2.2.1
  have HSZ := Lib.hid hsz
  have hnz := hsz.1
  have hpz := hsz.2.1
  have RT : Hid (Rep w (MClassDefs (l.take i)) [.slice (some ⟨ba, oa, none⟩) i c]) := Lib.hid (by
    have := Rep.sl_take rl (Nat.le_of_lt hi)
    simpa only [MClassDefs, List.map_take] using this)
  have hti : (l.take i).length = i := by rw [List.length_take]; omega
  have HTL : Hid ((l.take i).length ≤ 8) := Lib.hid (by rw [hti]; omega)
  have HCL := Lib.hid hc
  have HZT : Hid (∀ d, d ∈ l.take i → d.fields.length ≤ 4) := Lib.hid fun e he => hz e (List.mem_of_mem_take he)
  -- what is asked of the classes before
  have CB : Hid (∀ (n : ByteArray) (g : Nat) (W : World), Ext w W → W.cell? ⟨g, 0, none⟩ = some (.slice (some ⟨ba, oa, none⟩) i c) → Calls Tryz.prog 30 #[.pointer (some ⟨g, 0, none⟩), .string n] W fun e w' => e = .returned (.int .i64 (clsIx (l.take i) n)) ∧ Ext W w') := Lib.hid fun n g W hW hg => by
    have := l7Class_any (l.take i) HTL.out n g (some ⟨ba, oa, none⟩) c W (by rw [hti]; exact hg) (by rw [hti]; exact Rep.ext hW RT.out)
    exact this
  have CU : Hid (∀ (n : ByteArray) (W : World), Ext w W → Calls Tryz.prog 30 #[.pointer (some ⟨B, 0, none⟩), .string n] W fun e w' => e = .returned (.int .i64 (clsIx l n)) ∧ Ext W w') := Lib.hid fun n W hW => l7Class_any l hl n B _ _ W (hW.cell HB0.out) (Rep.ext hW RL.out)
  have CF : Hid (∀ (k : Int) (g : Nat) (W : World), 0 ≤ k → k < 16 + (i : Int) → Ext w W → W.cell? ⟨g, 0, none⟩ = some (.slice (some ⟨ba, oa, none⟩) i c) → Calls Tryz.prog 32 #[.pointer (some ⟨g, 0, none⟩), .int .i64 k] W fun e w' => ∃ v, e = .returned v ∧ AccT W.heap.size w' v (flds (l.take i) k) ∧ Ext W w') := Lib.hid fun k g W h0 h1 hW hg =>
    l7Fields_at (l.take i) HCL.out HZT.out HTL.out g (some ⟨ba, oa, none⟩) c i k W (by omega) h0 (by omega) (by rw [hti]; exact hg) (by rw [hti]; exact Rep.ext hW RT.out)
  have RES : Hid (∀ W : World, Rep (W.alloc (.cells (resB.map Value.string).toArray 9)) (strs resB) [.slice (some ⟨W.heap.size, 0, none⟩) resB.length resB.length]) := Lib.hid fun W => rep_lits W resB (by unfold maxLen; simp [resB]) (by simp [resB])
  -- the answer, in parts
  obtain ⟨K, hK⟩ : ∃ K, builtinsL ++ namesC (l.take i) = K := ⟨_, rfl⟩
  obtain ⟨EV, hEV⟩ : ∃ EV, clsP (builtinsL ++ namesC l) K (fmAll (l.take i)) d = EV := ⟨_, rfl⟩
  have HEV : Hid (clsP (builtinsL ++ namesC l) (builtinsL ++ namesC (l.take i)) (fmAll (l.take i)) d = EV) := Lib.hid (by rw [hK, hEV])
  have H0 : Hid (EV = orT (if (hasB K d.name || hasB resB d.name) = true then tThere d.name else ⟨#[]⟩) (orT (if (hasB extB d.parent || hasB (K.drop 16) d.parent) = true then ⟨#[]⟩ else tExtend d.parent) (orT (fldP (builtinsL ++ namesC l) (fmAll (l.take i) d.parent) d.fields) (orT (if 8 < (fmAll (l.take i) d.parent).length + d.fields.length then tMany d.name else ⟨#[]⟩) (mthsP [] d.methods))))) := Lib.hid (by rw [← hEV]; rfl)
  have HK1 : Hid (hasB K d.name = decide (0 ≤ clsIx (l.take i) d.name)) := Lib.hid (by rw [← hK, clsIx_has])
  have HPK : Hid ((clsIx (l.take i) d.parent < 0 ∨ (4 < clsIx (l.take i) d.parent ∧ clsIx (l.take i) d.parent < 16)) ↔ (hasB extB d.parent || hasB (K.drop 16) d.parent) = false) := Lib.hid (by
    rw [parent_ok HCL.out, ← hK, known_drop, ← Bool.not_eq_true, Bool.or_eq_true, hasB_iff, hasB_iff])
  have HPF : Hid ((hasB extB d.parent || hasB (K.drop 16) d.parent) = true → flds (l.take i) (clsIx (l.take i) d.parent) = fmAll (l.take i) d.parent ∧ 0 ≤ clsIx (l.take i) d.parent) := Lib.hid fun h => by
    rw [← hK, known_drop, Bool.or_eq_true, hasB_iff, hasB_iff] at h
    obtain ⟨h1, h2, -⟩ := flds_parent HCL.out h
    exact ⟨h1, h2⟩
  have hpl := (clsIx_lt (l := l.take i) (n := d.parent)).2
  rw [hti] at hpl
  obtain ⟨kn, hkn⟩ : ∃ k, clsIx (l.take i) d.name = k := ⟨_, rfl⟩
  obtain ⟨kp, hkp⟩ : ∃ k, clsIx (l.take i) d.parent = k := ⟨_, rfl⟩
  have HCN : Hid (∀ (g : Nat) (W : World), Ext w W → W.cell? ⟨g, 0, none⟩ = some (.slice (some ⟨ba, oa, none⟩) i c) → Calls Tryz.prog 30 #[.pointer (some ⟨g, 0, none⟩), .string d.name] W fun e w' => e = .returned (.int .i64 kn) ∧ Ext W w') := Lib.hid fun g W hW hg => by rw [← hkn]; exact CB.out _ g W hW hg
  have HCP : Hid (∀ (g : Nat) (W : World), Ext w W → W.cell? ⟨g, 0, none⟩ = some (.slice (some ⟨ba, oa, none⟩) i c) → Calls Tryz.prog 30 #[.pointer (some ⟨g, 0, none⟩), .string d.parent] W fun e w' => e = .returned (.int .i64 kp) ∧ Ext W w') := Lib.hid fun g W hW hg => by rw [← hkp]; exact CB.out _ g W hW hg
  rw [hkn] at HK1
  rw [hkp] at HPK HPF hpl
  generalize hFM : fmAll (l.take i) d.parent = FM at *
  have HFL : Hid (FM.length ≤ 33) := Lib.hid (by rw [← hFM]; exact fmAll_len HZT.out HTL.out _)
  have hil : (i : Int) < l.length := by omega
  have hic : i ≤ c := by omega
  have zB := lt_of_cell b0
  clear ha les ces res rf rm hsz hd rl hK hEV hkn hkp hti hc hz hFM pa
  go_enter Tryz.func12, Tryz.ntmps12
  go_upto_region 3 with fail
  generalize hW : World.alloc (World.alloc w _) _ = W1
  have x1 : Ext w W1 := by rw [← hW]; exact ((Ext.refl _).alloc _).alloc _
  have n0 : W1.cell? ⟨w.heap.size, 0, none⟩ = some (.string d.name) := by rw [← hW]; simp
  have n1 : W1.cell? ⟨w.heap.size, 1, none⟩ = some (.string d.parent) := by rw [← hW]; simp
  have n2 : W1.cell? ⟨w.heap.size, 2, none⟩ = some (.slice af d.fields.length cf) := by rw [← hW]; simp
  have n3 : W1.cell? ⟨w.heap.size, 3, none⟩ = some (.slice am d.methods.length cm) := by rw [← hW]; simp
  have g0 : W1.cell? ⟨w.heap.size + 1, 0, none⟩ = some (.slice (some ⟨ba, oa, none⟩) i c) := by rw [← hW]; simp
  clear hW q0 q1 q2 q3
  have zn := lt_of_cell n0
  have zg := lt_of_cell g0
  go_wp2_with fail
  refine (HCN.out _ W1 x1 g0).mono ?_
  rintro e w2 ⟨rfl, hx2⟩
  replace n0 := hx2.cell n0
  replace n1 := hx2.cell n1
  replace n2 := hx2.cell n2
  replace n3 := hx2.cell n3
  replace g0 := hx2.cell g0
  have zn2 := lt_of_cell n0
  by_cases hk0 : 0 ≤ kn
  · have HE : Hid (EV = tThere d.name) := Lib.hid (by
      rw [H0.out, if_pos (by rw [HK1.out]; simp [hk0])]; exact orT_ne (t_pos _ _ _ (by decide)) _)
    go_wp2_with fail
    go_ret
    refine ⟨?_, ?_⟩
    · rw [HEV.out, HE.out]; rfl
    · first | exact x1.trans hx2 | exact (x1.trans hx2).alloc _
  cases u0 : hasB resB d.name
  rotate_left
  · have HE : Hid (EV = tThere d.name) := Lib.hid (by
      rw [H0.out, if_pos (by rw [u0]; simp)]; exact orT_ne (t_pos _ _ _ (by decide)) _)
    go_wp2_with fail
    refine (l1Has_any resB d.name _ _ (RES.out _)).mono ?_
    rw [u0]
    rintro e wq ⟨rfl, hq⟩
    subst wq
    go_wp2_with fail
    go_ret
    refine ⟨?_, ?_⟩
    · rw [HEV.out, HE.out]; rfl
    · exact (x1.trans hx2).alloc _
  have H1 : Hid (EV = orT (if (hasB extB d.parent || hasB (K.drop 16) d.parent) = true then ⟨#[]⟩ else tExtend d.parent) (orT (fldP (builtinsL ++ namesC l) FM d.fields) (orT (if 8 < FM.length + d.fields.length then tMany d.name else ⟨#[]⟩) (mthsP [] d.methods)))) := Lib.hid (by
    rw [H0.out, if_neg (by rw [HK1.out, u0]; simp [hk0]), orT_l])
  go_wp2_with fail
  refine (l1Has_any resB d.name _ _ (RES.out _)).mono ?_
  rw [u0]
  rintro e wq ⟨rfl, hq⟩
  subst wq
  generalize hW5 : World.alloc w2 _ = w5
  have hx5 : Ext w2 w5 := by rw [← hW5]; exact (Ext.refl _).alloc _
  clear hW5
  replace n0 := hx5.cell n0
  replace n1 := hx5.cell n1
  replace n2 := hx5.cell n2
  replace n3 := hx5.cell n3
  replace g0 := hx5.cell g0
  have x5 := (x1.trans hx2).trans hx5
  clear hx2 hx5 zn2
  have zn5 := lt_of_cell n0
  go_wp2_with fail
  refine (HCP.out _ w5 x5 g0).mono ?_
  rintro e w6 ⟨rfl, hx6⟩
  clear u0 hk0
  replace n0 := hx6.cell n0
  replace n1 := hx6.cell n1
  replace n2 := hx6.cell n2
  replace n3 := hx6.cell n3
  replace g0 := hx6.cell g0
  have x6 := x5.trans hx6
  clear x5 hx6 zn5
  have zn6 := lt_of_cell n0
  by_cases hneg : kp < 0
  · have HE : Hid (EV = tExtend d.parent) := Lib.hid (by
      rw [H1.out, if_neg (by rw [HPK.out.1 (Or.inl hneg)]; simp)]; exact orT_ne (t_pos _ _ _ (by decide)) _)
    go_wp2_with fail
    go_ret
    refine ⟨?_, ?_⟩
    · rw [HEV.out, HE.out]; rfl
    · exact x6
  by_cases hmid : 4 < kp
  · have hgt : kp > 4 := hmid
    by_cases h16 : kp < 16
    · have HE : Hid (EV = tExtend d.parent) := Lib.hid (by
        rw [H1.out, if_neg (by rw [HPK.out.1 (Or.inr ⟨hmid, h16⟩)]; simp)]; exact orT_ne (t_pos _ _ _ (by decide)) _)
      go_wp2_with fail
      go_ret
      refine ⟨?_, ?_⟩
      · rw [HEV.out, HE.out]; rfl
      · exact x6
    have hpt : (hasB extB d.parent || hasB (K.drop 16) d.parent) = true := by
      cases h : (hasB extB d.parent || hasB (K.drop 16) d.parent)
      · have := HPK.out.2 h; omega
      · rfl
    obtain ⟨hfe, hk0⟩ := HPF.out hpt
    have HFE := Lib.hid hfe
    have H2 : Hid (EV = orT (fldP (builtinsL ++ namesC l) FM d.fields) (orT (if 8 < FM.length + d.fields.length then tMany d.name else ⟨#[]⟩) (mthsP [] d.methods))) := Lib.hid (by rw [H1.out, if_pos hpt, orT_l])
    clear hpt hfe
    go_wp2_with fail
    refine (CF.out kp _ w6 hk0 hpl x6 g0).mono ?_
    rintro e w7 ⟨v7, rfl, ac7, hx7⟩
    rw [HFE.out] at ac7
    replace n0 := hx7.cell n0
    replace n1 := hx7.cell n1
    replace n2 := hx7.cell n2
    replace n3 := hx7.cell n3
    replace g0 := hx7.cell g0
    have x7 := x6.trans hx7
    obtain ⟨ao7, cap7, gp7, rfl, h7, -⟩ := ac7.rep
    have R7 := Lib.hid h7.rep
    clear ac7 h7 hx7 x6 zn6
    have zn7 := lt_of_cell n0
    obtain ⟨TL, hTL⟩ : ∃ TL, orT (if 8 < FM.length + d.fields.length then tMany d.name else ⟨#[]⟩) (mthsP [] d.methods) = TL := ⟨_, rfl⟩
    have HTLS := Lib.hid hTL
    rw [hTL] at H2
    clear hTL
    obtain ⟨aff, cff, bf, off, h1, hlf, hmf, pf, hff⟩ := Rep.strs RF.out
    simp only [List.cons.injEq, and_true, Value.slice.injEq] at h1
    obtain ⟨rfl, -, rfl⟩ := h1
    unfold maxLen at hmf
    have HFF := Lib.hid hff; clear hff
    go_wp2_with fail
    go_loopw [8, 9] (fun av kv wr => ∃ (k : Nat) (A : List ByteArray) (aa : Option Addr) (cc : Nat), k ≤ d.fields.length ∧ kv = .int .i64 k ∧ av = .slice aa A.length cc ∧ Rep wr (strs A) [.slice aa A.length cc] ∧ Ext w7 wr ∧ Hid (A.length = FM.length + k) ∧ Hid (EV = orT (fldP (builtinsL ++ namesC l) A (d.fields.drop k)) TL)) (fun _ kv _ => d.fields.length - (intOf kv).toNat)
    case atStart => exact ⟨0, FM, ao7, cap7, Nat.zero_le _, rfl, rfl, R7.out, Ext.refl _, Lib.hid rfl, H2⟩
    case round =>
      obtain ⟨k, A, aa, cc, hk, rfl, rfl, rA, hx, hA, hQ⟩ := hrel
      replace n0 := hx.cell n0
      replace n1 := hx.cell n1
      replace n2 := hx.cell n2
      replace n3 := hx.cell n3
      replace g0 := hx.cell g0
      have xr := x7.trans hx
      have znr := lt_of_cell n0
      have RA := Lib.hid rA
      clear rA
      by_cases hlt : k < d.fields.length
      rotate_left
      · obtain rfl : k = d.fields.length := by omega
        have H3 : Hid (EV = TL) := Lib.hid (by
          have := hQ.out
          rwa [List.drop_length, fldP, orT_l] at this)
        by_cases h8 : 8 < A.length
        · have h8' : (8 : Int) < A.length := by omega
          have h8g : (A.length : Int) > 8 := h8'
          have HE : Hid (EV = tMany d.name) := Lib.hid (by
            rw [H3.out, ← HTLS.out, if_pos (by have := hA.out; omega)]; exact orT_ne (t_pos _ _ _ (by decide)) _)
          go_wp2_with fail
          go_ret
          refine ⟨?_, ?_⟩
          · rw [HEV.out, HE.out]; rfl
          · exact xr
        have h8' : ¬ (8 : Int) < A.length := by omega
        have h8g : ¬ (A.length : Int) > 8 := h8'
        have H4 : Hid (EV = mthsP [] d.methods) := Lib.hid (by rw [H3.out, ← HTLS.out, if_neg (by have := hA.out; omega), orT_l])
        obtain ⟨amm, cmm, bm, om, h1, hlm, hmm, pm, hmm2⟩ := Rep.slmap RM.out
        simp only [List.cons.injEq, and_true, Value.slice.injEq] at h1
        obtain ⟨rfl, -, rfl⟩ := h1
        unfold maxLen at hmm
        have HMM := Lib.hid hmm2; clear hmm2 HFF H2 hQ RA
        go_wp2_with fail
        go_loopw [11] (fun kv w8 => ∃ k : Nat, k ≤ d.methods.length ∧ kv = .int .i64 k ∧ Ext w w8 ∧ w8.cell? ⟨w.heap.size, 3, none⟩ = some (.slice am d.methods.length cm) ∧ Hid (EV = mthsP (d.methods.take k) (d.methods.drop k))) (fun kv _ => d.methods.length - (intOf kv).toNat)
        case atStart => exact ⟨0, Nat.zero_le _, rfl, xr, n3, H4⟩
        case round =>
          clear n0 n1 n2 n3 g0 hx znr zn7
          obtain ⟨k, hk8, rfl, hx8, n3, hQ8⟩ := hrel
          have zn8 := lt_of_cell n3
          by_cases hlt8 : k < d.methods.length
          rotate_left
          · have HE : Hid (EV = ⟨#[]⟩) := Lib.hid (by
              obtain rfl : k = d.methods.length := by omega
              have := hQ8.out
              rwa [List.drop_length, mthsP] at this)
            go_wp2_with fail
            go_ret
            refine ⟨?_, ?_⟩
            · rw [HEV.out, HE.out]; rfl
            · exact hx8
          obtain rfl := pm (by omega)
          obtain ⟨m, hm⟩ : ∃ m, d.methods[k]? = some m := ⟨_, List.getElem?_eq_getElem hlt8⟩
          obtain ⟨es, les, ces, res⟩ := HMM.out k m hm
          obtain ⟨y1, z1, y2, z2, y3, z3, rfl, -, -, -⟩ := MMethod.op_en res
          have r0 : w.cell? ⟨bm, om + k * 5, none⟩ = some (.string m.selector) := ces 0 (by omega)
          have r1 : w.cell? ⟨bm, om + k * 5 + 1, none⟩ = some (.bool m.cls) := ces 1 (by omega)
          have hmsz := HSZ.out.2.2.2.2 m (List.mem_of_getElem? hm)
          have HM9 := Lib.hid hm
          obtain ⟨REST, hRE⟩ : ∃ R, mthsP (d.methods.take (k + 1)) (d.methods.drop (k + 1)) = R := ⟨_, rfl⟩
          have HRE := Lib.hid hRE
          have HQ9 : Hid (EV = orT (mthP m ((d.methods.take k).drop 0)) REST) := Lib.hid (by
            rw [hQ8.out, drop_cons hm, mthsP, List.drop_zero, ← hRE, List.take_add_one, hm]; rfl)
          have hkl8 : (k : Int) < d.methods.length := by omega
          have hk0 : (0 : Int) ≤ k := by omega
          clear les ces res hm hRE
          go_wp2_with fail
          go_loopw [12] (fun jv w9 => ∃ j : Nat, j ≤ k ∧ jv = .int .i64 j ∧ Ext w w9 ∧ w9.cell? ⟨w.heap.size, 3, none⟩ = some (.slice (some ⟨bm, om, none⟩) d.methods.length cm) ∧ Hid (EV = orT (mthP m ((d.methods.take k).drop j)) REST)) (fun jv _ => k - (intOf jv).toNat)
          case atStart => exact ⟨0, Nat.zero_le _, rfl, hx8, n3, HQ9⟩
          case round =>
            clear n3 zn8 hx8
            obtain ⟨j, hj, rfl, hx9, n3, hQ⟩ := hrel
            have zn9 := lt_of_cell n3
            by_cases hjk : j < k
            rotate_left
            · have HN : Hid (EV = mthsP (d.methods.take (k + 1)) (d.methods.drop (k + 1))) := Lib.hid (by
                obtain rfl : j = k := by omega
                have e : (d.methods.take j).drop j = [] := List.drop_eq_nil_of_le (by rw [List.length_take]; omega)
                have := hQ.out
                rwa [e, mthP, orT_l, ← HRE.out] at this)
              have hjk' : ¬ (j : Int) < k := by omega
              go_wp2_with fail
              go_roundw
              case rel => exact ⟨k + 1, by omega, by go_num, hx9, n3, HN⟩
              case measure => simp [intOf]; omega
            obtain ⟨e, he⟩ : ∃ e, d.methods[j]? = some e := ⟨_, List.getElem?_eq_getElem (by omega)⟩
            obtain ⟨es, les, ces, res⟩ := HMM.out j e he
            obtain ⟨b1, c1, b2, c2, b3, c3, rfl, -, -, -⟩ := MMethod.op_en res
            have p0 := hx9.cell (show w.cell? ⟨bm, om + j * 5, none⟩ = some (.string e.selector) from ces 0 (by omega))
            have p1 := hx9.cell (show w.cell? ⟨bm, om + j * 5 + 1, none⟩ = some (.bool e.cls) from ces 1 (by omega))
            have s0 := hx9.cell r0
            have s1 := hx9.cell r1
            have HQ3 : Hid (EV = orT (if sameM e m = true then tMeth m.selector else ⟨#[]⟩) (orT (mthP m ((d.methods.take k).drop (j + 1))) REST)) := Lib.hid (by
              have h1 : (d.methods.take k)[j]? = some e := by rw [List.getElem?_take_of_lt hjk]; exact he
              rw [hQ.out, drop_cons h1, mthP, orT_assoc])
            have hjl : (j : Int) < d.methods.length := by omega
            have hjki : (j : Int) < k := by omega
            have hj0 : (0 : Int) ≤ j := by omega
            clear les ces res he
            by_cases hs : e.selector = m.selector
            rotate_left
            · have ts := str_ne hs
              have HN : Hid (EV = orT (mthP m ((d.methods.take k).drop (j + 1))) REST) := Lib.hid (by rw [HQ3.out, if_neg (fun h => hs (sameM_iff.1 h).1), orT_l])
              clear hs
              go_wp2_with fail
              have gn3 := reg (Ext.refl _) n3
              have gp0 := reg (Ext.refl _) p0
              have gp1 := reg (Ext.refl _) p1
              have gs0 := reg (Ext.refl _) s0
              have gs1 := reg (Ext.refl _) s1
              refine wp_region_quiet_below (by kernel_rfl) (by kernel_rfl) ?_
              repeat (go_big_quiet_step (fail))
              refine wpQuiet_nil ?_
              clear gn3 gp0 gp1 gs0 gs1
              intro _ hw'
              obtain ⟨pw, hw''⟩ := hw'
              subst hw''
              have xq := regx wr pw
              generalize hWR : «Sort».grow (redrawn wr pw.d) pw.os = w9 at *
              clear hWR
              replace n3 := xq.cell n3
              have zq := lt_of_cell n3
              go_wp2_with fail
              go_roundw
              case rel => exact ⟨j + 1, by omega, by go_num, hx9.trans xq, n3, HN⟩
              case measure => simp [intOf]; omega
            have ts := str_eq hs
            by_cases hcl : e.cls = m.cls
            rotate_left
            · have tb := bool_ne hcl
              have HN : Hid (EV = orT (mthP m ((d.methods.take k).drop (j + 1))) REST) := Lib.hid (by rw [HQ3.out, if_neg (fun h => hcl (sameM_iff.1 h).2), orT_l])
              clear hs hcl
              go_wp2_with fail
              have gn3 := reg (Ext.refl _) n3
              have gp0 := reg (Ext.refl _) p0
              have gp1 := reg (Ext.refl _) p1
              have gs0 := reg (Ext.refl _) s0
              have gs1 := reg (Ext.refl _) s1
              refine wp_region_quiet_below (by kernel_rfl) (by kernel_rfl) ?_
              repeat (go_big_quiet_step (fail))
              refine wpQuiet_nil ?_
              clear gn3 gp0 gp1 gs0 gs1
              intro _ hw'
              obtain ⟨pw, hw''⟩ := hw'
              subst hw''
              have xq := regx wr pw
              generalize hWR : «Sort».grow (redrawn wr pw.d) pw.os = w9 at *
              clear hWR
              replace n3 := xq.cell n3
              have zq := lt_of_cell n3
              go_wp2_with fail
              go_roundw
              case rel => exact ⟨j + 1, by omega, by go_num, hx9.trans xq, n3, HN⟩
              case measure => simp [intOf]; omega
            have tb := bool_eq hcl
            have HE : Hid (EV = tMeth m.selector) := Lib.hid (by rw [HQ3.out, if_pos (sameM_iff.2 ⟨hs, hcl⟩)]; exact orT_ne (t_pos _ _ _ (by decide)) _)
            clear hs hcl
            go_wp2_with fail
            have gn3 := reg (Ext.refl _) n3
            have gp0 := reg (Ext.refl _) p0
            have gp1 := reg (Ext.refl _) p1
            have gs0 := reg (Ext.refl _) s0
            have gs1 := reg (Ext.refl _) s1
            refine wp_region_quiet_below (by kernel_rfl) (by kernel_rfl) ?_
            repeat (go_big_quiet_step (fail))
            refine wpQuiet_nil ?_
            clear gn3 gp0 gp1 gs0 gs1
            intro _ hw'
            obtain ⟨pw, hw''⟩ := hw'
            subst hw''
            have xq := regx wr pw
            generalize hWR : «Sort».grow (redrawn wr pw.d) pw.os = w9 at *
            clear hWR
            replace n3 := xq.cell n3
            have zq := lt_of_cell n3
            replace s0 := xq.cell s0
            go_wp2_with fail
            go_ret
            refine ⟨?_, ?_⟩
            · rw [HEV.out, HE.out]; rfl
            · exact hx9.trans xq
      obtain rfl := pf (by omega)
      obtain ⟨s, hs⟩ : ∃ s, d.fields[k]? = some s := ⟨_, List.getElem?_eq_getElem hlt⟩
      have q0 := xr.cell (HFF.out k s hs)
      have hss := HSZ.out.2.2.1 s (List.mem_of_getElem? hs)
      have HFS := Lib.hid hs
      obtain ⟨ks, hks⟩ : ∃ ks, clsIx l s = ks := ⟨_, rfl⟩
      have HCS : Hid (∀ W, Ext w W → Calls Tryz.prog 30 #[.pointer (some ⟨B, 0, none⟩), .string s] W fun e w' => e = .returned (.int .i64 ks) ∧ Ext W w') := Lib.hid fun W hW => by rw [← hks]; exact CU.out s W hW
      have HH : Hid (hasB (builtinsL ++ namesC l) s = decide (0 ≤ ks)) := Lib.hid (by rw [← hks, clsIx_has])
      have HQ2 : Hid (EV = orT (if (hasB A s || hasB resB s || hasB (builtinsL ++ namesC l) s) = true then tField s else ⟨#[]⟩) (orT (fldP (builtinsL ++ namesC l) (A ++ [s]) (d.fields.drop (k + 1))) TL)) := Lib.hid (by rw [hQ.out, drop_cons hs, fldP, orT_assoc])
      have hkl : (k : Int) < d.fields.length := by omega
      clear hs hks hQ
      cases v0 : hasB A s
      rotate_left
      · have HE : Hid (EV = tField s) := Lib.hid (by
          rw [HQ2.out, if_pos (by simp [v0])]; exact orT_ne (t_pos _ _ _ (by decide)) _)
        go_wp2_with fail
        refine (l1Has_any A s _ _ RA.out).mono ?_
        rw [v0]
        rintro e wq ⟨rfl, hq⟩
        subst wq
        go_wp2_with fail
        go_ret
        refine ⟨?_, ?_⟩
        · rw [HEV.out, HE.out]; rfl
        · exact xr
      cases v1 : hasB resB s
      rotate_left
      · have HE : Hid (EV = tField s) := Lib.hid (by
          rw [HQ2.out, if_pos (by simp [v1])]; exact orT_ne (t_pos _ _ _ (by decide)) _)
        go_wp2_with fail
        refine (l1Has_any A s _ _ RA.out).mono ?_
        rw [v0]
        rintro e wq ⟨rfl, hq⟩
        subst wq
        go_wp2_with fail
        refine (l1Has_any resB s _ _ (RES.out _)).mono ?_
        rw [v1]
        rintro e wq ⟨rfl, hq⟩
        subst wq
        go_wp2_with fail
        go_ret
        refine ⟨?_, ?_⟩
        · rw [HEV.out, HE.out]; rfl
        · exact xr.alloc _
      by_cases hks0 : 0 ≤ ks
      · have HE : Hid (EV = tField s) := Lib.hid (by
          rw [HQ2.out, if_pos (by rw [HH.out]; simp [hks0])]; exact orT_ne (t_pos _ _ _ (by decide)) _)
        go_wp2_with fail
        refine (l1Has_any A s _ _ RA.out).mono ?_
        rw [v0]
        rintro e wq ⟨rfl, hq⟩
        subst wq
        go_wp2_with fail
        refine (l1Has_any resB s _ _ (RES.out _)).mono ?_
        rw [v1]
        rintro e wq ⟨rfl, hq⟩
        subst wq
        go_wp2_with fail
        refine (HCS.out _ (xr.alloc _)).mono ?_
        rintro e w9 ⟨rfl, hx9⟩
        go_wp2_with fail
        go_ret
        refine ⟨?_, ?_⟩
        · rw [HEV.out, HE.out]; rfl
        · exact (xr.alloc _).trans hx9
      have HN : Hid (EV = orT (fldP (builtinsL ++ namesC l) (A ++ [s]) (d.fields.drop (k + 1))) TL) := Lib.hid (by rw [HQ2.out, HH.out, if_neg (by simp [v0, v1, hks0]), orT_l])
      go_wp2_with fail
      refine (l1Has_any A s _ _ RA.out).mono ?_
      rw [v0]
      rintro e wq ⟨rfl, hq⟩
      subst wq
      go_wp2_with fail
      refine (l1Has_any resB s _ _ (RES.out _)).mono ?_
      rw [v1]
      rintro e wq ⟨rfl, hq⟩
      subst wq
      go_wp2_with fail
      refine (HCS.out _ (xr.alloc _)).mono ?_
      rintro e w9 ⟨rfl, hx9⟩
      have x9 : Ext wr w9 := ((Ext.refl wr).alloc _).trans hx9
      clear hx9
      have RA9 := Lib.hid (Rep.ext x9 RA.out)
      have hA0 : AccT w9.heap.size (w9.alloc (.cells #[] 9)) (.slice (some ⟨w9.heap.size, 0, none⟩) 0 0) [] := Acc.empty _ _ (Nat.le_refl _)
      have hfl := HFL.out
      have hAl : A.length ≤ 4194304 := by have := hA.out; omega
      go_wp2_with (at_builtin; refine wpList_append_strs rfl _ _ rfl w9.heap.size (.slice (some ⟨w9.heap.size, 0, none⟩) 0 0) [] rfl hA0 A _ _ _ rfl (Rep.ext ((Ext.refl _).alloc _) RA9.out) (by simp; omega) (by simp) ?_)
      intro a6 c6 w10 ac6 hg6
      try simp only [List.length_nil, Nat.zero_add, List.nil_append] at ac6
      try simp only [List.length_nil, Nat.zero_add, List.nil_append]
      have hx6 : Ext w9 w10 := AccT.below hA0 ((Ext.refl _).alloc _) hg6 (by simp)
      have hz6 := hx6.size
      have hA6 := ac6.ext ((Ext.refl w10).alloc (.cells #[.string s] 9))
      go_wp2_with (at_builtin; refine wpList_append_strs rfl _ _ rfl w9.heap.size _ A rfl hA6 [s] _ _ _ rfl (rep_one _ _) (by simp; omega) (by simp; omega) ?_)
      intro a7 c7 w11 ac7 hg7
      have hx7 : Ext w9 w11 := AccT.below hA6 (hx6.alloc _) hg7 (by simp; omega)
      clear hA0 hA6 hg6 hg7
      obtain ⟨a8, c8, gp8, h81, h82, -⟩ := ac7.rep
      go_wp2_with fail
      go_roundw
      case rel =>
        have hel : (A ++ [s]).length = A.length + 1 := List.length_append
        rw [hel] at h81 h82
        simp only [Value.slice.injEq] at h81
        obtain ⟨rfl, -, rfl⟩ := h81
        exact ⟨k + 1, A ++ [s], a7, c7, by omega, by go_num, by rw [hel], by rw [hel]; exact h82.rep, hx.trans (x9.trans hx7), Lib.hid (by rw [List.length_append, hA.out]; rfl), HN⟩
      case measure => simp [intOf]; omega
  have hgt : ¬ kp > 4 := by omega
  have hpt : (hasB extB d.parent || hasB (K.drop 16) d.parent) = true := by
    cases h : (hasB extB d.parent || hasB (K.drop 16) d.parent)
    · have := HPK.out.2 h; omega
    · rfl
  obtain ⟨hfe, hk0⟩ := HPF.out hpt
  have HFE := Lib.hid hfe
  have H2 : Hid (EV = orT (fldP (builtinsL ++ namesC l) FM d.fields) (orT (if 8 < FM.length + d.fields.length then tMany d.name else ⟨#[]⟩) (mthsP [] d.methods))) := Lib.hid (by rw [H1.out, if_pos hpt, orT_l])
  clear hpt hfe
  go_wp2_with fail
  refine (CF.out kp _ w6 hk0 hpl x6 g0).mono ?_
  rintro e w7 ⟨v7, rfl, ac7, hx7⟩
  rw [HFE.out] at ac7
  replace n0 := hx7.cell n0
  replace n1 := hx7.cell n1
  replace n2 := hx7.cell n2
  replace n3 := hx7.cell n3
  replace g0 := hx7.cell g0
  have x7 := x6.trans hx7
  obtain ⟨ao7, cap7, gp7, rfl, h7, -⟩ := ac7.rep
  have R7 := Lib.hid h7.rep
  clear ac7 h7 hx7 x6 zn6
  have zn7 := lt_of_cell n0
  obtain ⟨TL, hTL⟩ : ∃ TL, orT (if 8 < FM.length + d.fields.length then tMany d.name else ⟨#[]⟩) (mthsP [] d.methods) = TL := ⟨_, rfl⟩
  have HTLS := Lib.hid hTL
  rw [hTL] at H2
  clear hTL
  obtain ⟨aff, cff, bf, off, h1, hlf, hmf, pf, hff⟩ := Rep.strs RF.out
  simp only [List.cons.injEq, and_true, Value.slice.injEq] at h1
  obtain ⟨rfl, -, rfl⟩ := h1
  unfold maxLen at hmf
  have HFF := Lib.hid hff; clear hff
  go_wp2_with fail
  go_loopw [8, 9] (fun av kv wr => ∃ (k : Nat) (A : List ByteArray) (aa : Option Addr) (cc : Nat), k ≤ d.fields.length ∧ kv = .int .i64 k ∧ av = .slice aa A.length cc ∧ Rep wr (strs A) [.slice aa A.length cc] ∧ Ext w7 wr ∧ Hid (A.length = FM.length + k) ∧ Hid (EV = orT (fldP (builtinsL ++ namesC l) A (d.fields.drop k)) TL)) (fun _ kv _ => d.fields.length - (intOf kv).toNat)
  case atStart => exact ⟨0, FM, ao7, cap7, Nat.zero_le _, rfl, rfl, R7.out, Ext.refl _, Lib.hid rfl, H2⟩
  case round =>
    obtain ⟨k, A, aa, cc, hk, rfl, rfl, rA, hx, hA, hQ⟩ := hrel
    replace n0 := hx.cell n0
    replace n1 := hx.cell n1
    replace n2 := hx.cell n2
    replace n3 := hx.cell n3
    replace g0 := hx.cell g0
    have xr := x7.trans hx
    have znr := lt_of_cell n0
    have RA := Lib.hid rA
    clear rA
    by_cases hlt : k < d.fields.length
    rotate_left
    · obtain rfl : k = d.fields.length := by omega
      have H3 : Hid (EV = TL) := Lib.hid (by
        have := hQ.out
        rwa [List.drop_length, fldP, orT_l] at this)
      by_cases h8 : 8 < A.length
      · have h8' : (8 : Int) < A.length := by omega
        have h8g : (A.length : Int) > 8 := h8'
        have HE : Hid (EV = tMany d.name) := Lib.hid (by
          rw [H3.out, ← HTLS.out, if_pos (by have := hA.out; omega)]; exact orT_ne (t_pos _ _ _ (by decide)) _)
        go_wp2_with fail
        go_ret
        refine ⟨?_, ?_⟩
        · rw [HEV.out, HE.out]; rfl
        · exact xr
      have h8' : ¬ (8 : Int) < A.length := by omega
      have h8g : ¬ (A.length : Int) > 8 := h8'
      have H4 : Hid (EV = mthsP [] d.methods) := Lib.hid (by rw [H3.out, ← HTLS.out, if_neg (by have := hA.out; omega), orT_l])
      obtain ⟨amm, cmm, bm, om, h1, hlm, hmm, pm, hmm2⟩ := Rep.slmap RM.out
      simp only [List.cons.injEq, and_true, Value.slice.injEq] at h1
      obtain ⟨rfl, -, rfl⟩ := h1
      unfold maxLen at hmm
      have HMM := Lib.hid hmm2; clear hmm2 HFF H2 hQ RA
      go_wp2_with fail
      go_loopw [11] (fun kv w8 => ∃ k : Nat, k ≤ d.methods.length ∧ kv = .int .i64 k ∧ Ext w w8 ∧ w8.cell? ⟨w.heap.size, 3, none⟩ = some (.slice am d.methods.length cm) ∧ Hid (EV = mthsP (d.methods.take k) (d.methods.drop k))) (fun kv _ => d.methods.length - (intOf kv).toNat)
      case atStart => exact ⟨0, Nat.zero_le _, rfl, xr, n3, H4⟩
      case round =>
        clear n0 n1 n2 n3 g0 hx znr zn7
        obtain ⟨k, hk8, rfl, hx8, n3, hQ8⟩ := hrel
        have zn8 := lt_of_cell n3
        by_cases hlt8 : k < d.methods.length
        rotate_left
        · have HE : Hid (EV = ⟨#[]⟩) := Lib.hid (by
            obtain rfl : k = d.methods.length := by omega
            have := hQ8.out
            rwa [List.drop_length, mthsP] at this)
          go_wp2_with fail
          go_ret
          refine ⟨?_, ?_⟩
          · rw [HEV.out, HE.out]; rfl
          · exact hx8
        obtain rfl := pm (by omega)
        obtain ⟨m, hm⟩ : ∃ m, d.methods[k]? = some m := ⟨_, List.getElem?_eq_getElem hlt8⟩
        obtain ⟨es, les, ces, res⟩ := HMM.out k m hm
        obtain ⟨y1, z1, y2, z2, y3, z3, rfl, -, -, -⟩ := MMethod.op_en res
        have r0 : w.cell? ⟨bm, om + k * 5, none⟩ = some (.string m.selector) := ces 0 (by omega)
        have r1 : w.cell? ⟨bm, om + k * 5 + 1, none⟩ = some (.bool m.cls) := ces 1 (by omega)
        have hmsz := HSZ.out.2.2.2.2 m (List.mem_of_getElem? hm)
        have HM9 := Lib.hid hm
        obtain ⟨REST, hRE⟩ : ∃ R, mthsP (d.methods.take (k + 1)) (d.methods.drop (k + 1)) = R := ⟨_, rfl⟩
        have HRE := Lib.hid hRE
        have HQ9 : Hid (EV = orT (mthP m ((d.methods.take k).drop 0)) REST) := Lib.hid (by
          rw [hQ8.out, drop_cons hm, mthsP, List.drop_zero, ← hRE, List.take_add_one, hm]; rfl)
        have hkl8 : (k : Int) < d.methods.length := by omega
        have hk0 : (0 : Int) ≤ k := by omega
        clear les ces res hm hRE
        go_wp2_with fail
        go_loopw [12] (fun jv w9 => ∃ j : Nat, j ≤ k ∧ jv = .int .i64 j ∧ Ext w w9 ∧ w9.cell? ⟨w.heap.size, 3, none⟩ = some (.slice (some ⟨bm, om, none⟩) d.methods.length cm) ∧ Hid (EV = orT (mthP m ((d.methods.take k).drop j)) REST)) (fun jv _ => k - (intOf jv).toNat)
        case atStart => exact ⟨0, Nat.zero_le _, rfl, hx8, n3, HQ9⟩
        case round =>
          clear n3 zn8 hx8
          obtain ⟨j, hj, rfl, hx9, n3, hQ⟩ := hrel
          have zn9 := lt_of_cell n3
          by_cases hjk : j < k
          rotate_left
          · have HN : Hid (EV = mthsP (d.methods.take (k + 1)) (d.methods.drop (k + 1))) := Lib.hid (by
              obtain rfl : j = k := by omega
              have e : (d.methods.take j).drop j = [] := List.drop_eq_nil_of_le (by rw [List.length_take]; omega)
              have := hQ.out
              rwa [e, mthP, orT_l, ← HRE.out] at this)
            have hjk' : ¬ (j : Int) < k := by omega
            go_wp2_with fail
            go_roundw
            case rel => exact ⟨k + 1, by omega, by go_num, hx9, n3, HN⟩
            case measure => simp [intOf]; omega
          obtain ⟨e, he⟩ : ∃ e, d.methods[j]? = some e := ⟨_, List.getElem?_eq_getElem (by omega)⟩
          obtain ⟨es, les, ces, res⟩ := HMM.out j e he
          obtain ⟨b1, c1, b2, c2, b3, c3, rfl, -, -, -⟩ := MMethod.op_en res
          have p0 := hx9.cell (show w.cell? ⟨bm, om + j * 5, none⟩ = some (.string e.selector) from ces 0 (by omega))
          have p1 := hx9.cell (show w.cell? ⟨bm, om + j * 5 + 1, none⟩ = some (.bool e.cls) from ces 1 (by omega))
          have s0 := hx9.cell r0
          have s1 := hx9.cell r1
          have HQ3 : Hid (EV = orT (if sameM e m = true then tMeth m.selector else ⟨#[]⟩) (orT (mthP m ((d.methods.take k).drop (j + 1))) REST)) := Lib.hid (by
            have h1 : (d.methods.take k)[j]? = some e := by rw [List.getElem?_take_of_lt hjk]; exact he
            rw [hQ.out, drop_cons h1, mthP, orT_assoc])
          have hjl : (j : Int) < d.methods.length := by omega
          have hjki : (j : Int) < k := by omega
          have hj0 : (0 : Int) ≤ j := by omega
          clear les ces res he
          by_cases hs : e.selector = m.selector
          rotate_left
          · have ts := str_ne hs
            have HN : Hid (EV = orT (mthP m ((d.methods.take k).drop (j + 1))) REST) := Lib.hid (by rw [HQ3.out, if_neg (fun h => hs (sameM_iff.1 h).1), orT_l])
            clear hs
            go_wp2_with fail
            have gn3 := reg (Ext.refl _) n3
            have gp0 := reg (Ext.refl _) p0
            have gp1 := reg (Ext.refl _) p1
            have gs0 := reg (Ext.refl _) s0
            have gs1 := reg (Ext.refl _) s1
            refine wp_region_quiet_below (by kernel_rfl) (by kernel_rfl) ?_
            repeat (go_big_quiet_step (fail))
            refine wpQuiet_nil ?_
            clear gn3 gp0 gp1 gs0 gs1
            intro _ hw'
            obtain ⟨pw, hw''⟩ := hw'
            subst hw''
            have xq := regx wr pw
            generalize hWR : «Sort».grow (redrawn wr pw.d) pw.os = w9 at *
            clear hWR
            replace n3 := xq.cell n3
            have zq := lt_of_cell n3
            go_wp2_with fail
            go_roundw
            case rel => exact ⟨j + 1, by omega, by go_num, hx9.trans xq, n3, HN⟩
            case measure => simp [intOf]; omega
          have ts := str_eq hs
          by_cases hcl : e.cls = m.cls
          rotate_left
          · have tb := bool_ne hcl
            have HN : Hid (EV = orT (mthP m ((d.methods.take k).drop (j + 1))) REST) := Lib.hid (by rw [HQ3.out, if_neg (fun h => hcl (sameM_iff.1 h).2), orT_l])
            clear hs hcl
            go_wp2_with fail
            have gn3 := reg (Ext.refl _) n3
            have gp0 := reg (Ext.refl _) p0
            have gp1 := reg (Ext.refl _) p1
            have gs0 := reg (Ext.refl _) s0
            have gs1 := reg (Ext.refl _) s1
            refine wp_region_quiet_below (by kernel_rfl) (by kernel_rfl) ?_
            repeat (go_big_quiet_step (fail))
            refine wpQuiet_nil ?_
            clear gn3 gp0 gp1 gs0 gs1
            intro _ hw'
            obtain ⟨pw, hw''⟩ := hw'
            subst hw''
            have xq := regx wr pw
            generalize hWR : «Sort».grow (redrawn wr pw.d) pw.os = w9 at *
            clear hWR
            replace n3 := xq.cell n3
            have zq := lt_of_cell n3
            go_wp2_with fail
            go_roundw
            case rel => exact ⟨j + 1, by omega, by go_num, hx9.trans xq, n3, HN⟩
            case measure => simp [intOf]; omega
          have tb := bool_eq hcl
          have HE : Hid (EV = tMeth m.selector) := Lib.hid (by rw [HQ3.out, if_pos (sameM_iff.2 ⟨hs, hcl⟩)]; exact orT_ne (t_pos _ _ _ (by decide)) _)
          clear hs hcl
          go_wp2_with fail
          have gn3 := reg (Ext.refl _) n3
          have gp0 := reg (Ext.refl _) p0
          have gp1 := reg (Ext.refl _) p1
          have gs0 := reg (Ext.refl _) s0
          have gs1 := reg (Ext.refl _) s1
          refine wp_region_quiet_below (by kernel_rfl) (by kernel_rfl) ?_
          repeat (go_big_quiet_step (fail))
          refine wpQuiet_nil ?_
          clear gn3 gp0 gp1 gs0 gs1
          intro _ hw'
          obtain ⟨pw, hw''⟩ := hw'
          subst hw''
          have xq := regx wr pw
          generalize hWR : «Sort».grow (redrawn wr pw.d) pw.os = w9 at *
          clear hWR
          replace n3 := xq.cell n3
          have zq := lt_of_cell n3
          replace s0 := xq.cell s0
          go_wp2_with fail
          go_ret
          refine ⟨?_, ?_⟩
          · rw [HEV.out, HE.out]; rfl
          · exact hx9.trans xq
    obtain rfl := pf (by omega)
    obtain ⟨s, hs⟩ : ∃ s, d.fields[k]? = some s := ⟨_, List.getElem?_eq_getElem hlt⟩
    have q0 := xr.cell (HFF.out k s hs)
    have hss := HSZ.out.2.2.1 s (List.mem_of_getElem? hs)
    have HFS := Lib.hid hs
    obtain ⟨ks, hks⟩ : ∃ ks, clsIx l s = ks := ⟨_, rfl⟩
    have HCS : Hid (∀ W, Ext w W → Calls Tryz.prog 30 #[.pointer (some ⟨B, 0, none⟩), .string s] W fun e w' => e = .returned (.int .i64 ks) ∧ Ext W w') := Lib.hid fun W hW => by rw [← hks]; exact CU.out s W hW
    have HH : Hid (hasB (builtinsL ++ namesC l) s = decide (0 ≤ ks)) := Lib.hid (by rw [← hks, clsIx_has])
    have HQ2 : Hid (EV = orT (if (hasB A s || hasB resB s || hasB (builtinsL ++ namesC l) s) = true then tField s else ⟨#[]⟩) (orT (fldP (builtinsL ++ namesC l) (A ++ [s]) (d.fields.drop (k + 1))) TL)) := Lib.hid (by rw [hQ.out, drop_cons hs, fldP, orT_assoc])
    have hkl : (k : Int) < d.fields.length := by omega
    clear hs hks hQ
    cases v0 : hasB A s
    rotate_left
    · have HE : Hid (EV = tField s) := Lib.hid (by
        rw [HQ2.out, if_pos (by simp [v0])]; exact orT_ne (t_pos _ _ _ (by decide)) _)
      go_wp2_with fail
      refine (l1Has_any A s _ _ RA.out).mono ?_
      rw [v0]
      rintro e wq ⟨rfl, hq⟩
      subst wq
      go_wp2_with fail
      go_ret
      refine ⟨?_, ?_⟩
      · rw [HEV.out, HE.out]; rfl
      · exact xr
    cases v1 : hasB resB s
    rotate_left
    · have HE : Hid (EV = tField s) := Lib.hid (by
        rw [HQ2.out, if_pos (by simp [v1])]; exact orT_ne (t_pos _ _ _ (by decide)) _)
      go_wp2_with fail
      refine (l1Has_any A s _ _ RA.out).mono ?_
      rw [v0]
      rintro e wq ⟨rfl, hq⟩
      subst wq
      go_wp2_with fail
      refine (l1Has_any resB s _ _ (RES.out _)).mono ?_
      rw [v1]
      rintro e wq ⟨rfl, hq⟩
      subst wq
      go_wp2_with fail
      go_ret
      refine ⟨?_, ?_⟩
      · rw [HEV.out, HE.out]; rfl
      · exact xr.alloc _
    by_cases hks0 : 0 ≤ ks
    · have HE : Hid (EV = tField s) := Lib.hid (by
        rw [HQ2.out, if_pos (by rw [HH.out]; simp [hks0])]; exact orT_ne (t_pos _ _ _ (by decide)) _)
      go_wp2_with fail
      refine (l1Has_any A s _ _ RA.out).mono ?_
      rw [v0]
      rintro e wq ⟨rfl, hq⟩
      subst wq
      go_wp2_with fail
      refine (l1Has_any resB s _ _ (RES.out _)).mono ?_
      rw [v1]
      rintro e wq ⟨rfl, hq⟩
      subst wq
      go_wp2_with fail
      refine (HCS.out _ (xr.alloc _)).mono ?_
      rintro e w9 ⟨rfl, hx9⟩
      go_wp2_with fail
      go_ret
      refine ⟨?_, ?_⟩
      · rw [HEV.out, HE.out]; rfl
      · exact (xr.alloc _).trans hx9
    have HN : Hid (EV = orT (fldP (builtinsL ++ namesC l) (A ++ [s]) (d.fields.drop (k + 1))) TL) := Lib.hid (by rw [HQ2.out, HH.out, if_neg (by simp [v0, v1, hks0]), orT_l])
    go_wp2_with fail
    refine (l1Has_any A s _ _ RA.out).mono ?_
    rw [v0]
    rintro e wq ⟨rfl, hq⟩
    subst wq
    go_wp2_with fail
    refine (l1Has_any resB s _ _ (RES.out _)).mono ?_
    rw [v1]
    rintro e wq ⟨rfl, hq⟩
    subst wq
    go_wp2_with fail
    refine (HCS.out _ (xr.alloc _)).mono ?_
    rintro e w9 ⟨rfl, hx9⟩
    have x9 : Ext wr w9 := ((Ext.refl wr).alloc _).trans hx9
    clear hx9
    have RA9 := Lib.hid (Rep.ext x9 RA.out)
    have hA0 : AccT w9.heap.size (w9.alloc (.cells #[] 9)) (.slice (some ⟨w9.heap.size, 0, none⟩) 0 0) [] := Acc.empty _ _ (Nat.le_refl _)
    have hfl := HFL.out
    have hAl : A.length ≤ 4194304 := by have := hA.out; omega
    go_wp2_with (at_builtin; refine wpList_append_strs rfl _ _ rfl w9.heap.size (.slice (some ⟨w9.heap.size, 0, none⟩) 0 0) [] rfl hA0 A _ _ _ rfl (Rep.ext ((Ext.refl _).alloc _) RA9.out) (by simp; omega) (by simp) ?_)
    intro a6 c6 w10 ac6 hg6
    try simp only [List.length_nil, Nat.zero_add, List.nil_append] at ac6
    try simp only [List.length_nil, Nat.zero_add, List.nil_append]
    have hx6 : Ext w9 w10 := AccT.below hA0 ((Ext.refl _).alloc _) hg6 (by simp)
    have hz6 := hx6.size
    have hA6 := ac6.ext ((Ext.refl w10).alloc (.cells #[.string s] 9))
    go_wp2_with (at_builtin; refine wpList_append_strs rfl _ _ rfl w9.heap.size _ A rfl hA6 [s] _ _ _ rfl (rep_one _ _) (by simp; omega) (by simp; omega) ?_)
    intro a7 c7 w11 ac7 hg7
    have hx7 : Ext w9 w11 := AccT.below hA6 (hx6.alloc _) hg7 (by simp; omega)
    clear hA0 hA6 hg6 hg7
    obtain ⟨a8, c8, gp8, h81, h82, -⟩ := ac7.rep
    go_wp2_with fail
    go_roundw
    case rel =>
      have hel : (A ++ [s]).length = A.length + 1 := List.length_append
      rw [hel] at h81 h82
      simp only [Value.slice.injEq] at h81
      obtain ⟨rfl, -, rfl⟩ := h81
      exact ⟨k + 1, A ++ [s], a7, c7, by omega, by go_num, by rw [hel], by rw [hel]; exact h82.rep, hx.trans (x9.trans hx7), Lib.hid (by rw [List.length_append, hA.out]; rfl), HN⟩
    case measure => simp [intOf]; omega

end Go.Proofs.YtlppoffneeglgaaGreatDoor
