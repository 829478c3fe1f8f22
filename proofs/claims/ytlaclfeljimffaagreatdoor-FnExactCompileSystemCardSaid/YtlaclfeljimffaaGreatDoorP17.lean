/-
  CONTRACTS: what the classes of a system are, of the program.
  Conditions: those that each lemma states.
-/
import Derived.Test.YtlaclfeljimffaaGreatDoorRows
import Derived.Lib.SlicesS
import Derived.Test.YtlaclfeljimffaaGreatDoorP16
import Derived.Test.YtlaclfeljimffaaGreatDoorShelf
namespace Go.Proofs.YtlaclfeljimffaaGreatDoor
open Go.RowKit
set_option maxHeartbeats 8000000
set_option maxRecDepth 100000
set_option linter.unusedSimpArgs false
set_option linter.unusedVariables false
theorem RepF.take_strs {w : World} {l : List ByteArray} {ao : Option Addr} {cap : Nat} (h : Rep w (strs l) [.slice ao l.length cap]) (k : Nat) (hk : k <= l.length) : Rep w (strs (l.take k)) [.slice ao k cap] := by
 obtain ⟨fp, h⟩ := h
 obtain ⟨ao', cap', h1, h2, h3, h4, h5⟩ := RepF.sl_iff.1 h
 simp only [List.cons.injEq, and_true, Value.slice.injEq, List.length_map] at h1 h2
 obtain ⟨rfl, -, rfl⟩ := h1
 have hl : (l.take k).length = k := by rw [List.length_take]; omega
 by_cases hk0 : k = 0
 · subst hk0
   exact ⟨[], RepF.sl_iff.2 ⟨_, _, by simp, by simp, h3, h4, Or.inl ⟨by simp, rfl⟩⟩⟩
 · rcases h5 with ⟨h5, -⟩ | ⟨b, o, cells, fp', g1, g2, g3, g4, g5, g6⟩
   · have : l = [] := by simpa using h5
     subst this; simp at hk; omega
   · obtain ⟨rfl, rfl⟩ := repR_strs_inv g6
     have := RepF.strs_mk (w := w) (l := l.take k) (b := b) (o := o) (cap := cap) (by omega) h3 (by intro e; rw [e] at hl; simp at hl; omega) g4 (fun i s hs => g5 i _ (by
      rw [List.getElem?_map]
      have h6 : l[i]? = some s := by
       rw [List.getElem?_take] at hs
       split at hs
       · exact hs
       · cases hs
      rw [h6]; rfl))
     rw [hl] at this
     subst g2
     exact this.rep
theorem sl_contains (l : List ByteArray) (k : Nat) (x : ByteArray) (b o c cap : Nat) (w : World) (ra : Rep w (strs l) [.slice (some ⟨b, o, none⟩) l.length cap]) (hk : k <= l.length) (hl : 0 < l.length) :
 Calls Tryz.prog 85 #[.slice (some ⟨b, o, none⟩) k c, .string x] w fun e w' => e = .returned (.bool (hasB (l.take k) x)) /\ w' = w := by
 obtain ⟨ao, ca, ba, oa, h1, hla, hma, pa, ha⟩ := ra.strs
 simp only [List.cons.injEq, and_true, Value.slice.injEq] at h1
 obtain ⟨rfl, -, rfl⟩ := h1
 have e := pa hl
 simp only [Option.some.injEq, Addr.mk.injEq, and_true] at e
 obtain ⟨rfl, rfl⟩ := e
 have h := Tryz.slices_Contains_string b o k c l x w hk (by unfold maxLen at hma; omega) (fun j hj => ha j _ (by rw [List.getD_eq_getElem?_getD, List.getElem?_eq_getElem hj]; rfl))
 have e2 : Lib.containsS (l.take k) x = hasB (l.take k) x := by rw [Bool.eq_iff_iff, Lib.containsS_iff, hasB_iff]
 rwa [e2] at h
theorem classesOk_any (l : List MClassInfo) (va : Value) (w : World) (ra : Rep w (MClassInfos l) [va]) (hz : ∀ c, c ∈ l -> c.name.size <= 1048576 /\ ∀ s, s ∈ c.fields -> s.size <= 1048576) :
 Calls Tryz.prog 49 #[va] w fun e w' => e = .returned (.bool (clsB l)) /\ Ext w w' := by
 obtain ⟨ao, ca, bl, ol, h1, hla, hma, pa, ha⟩ := Rep.slmap ra
 simp only [List.cons.injEq, and_true] at h1
 subst h1
 clear ra
 unfold maxLen at hma
 have HZ := LH hz; clear hz
 by_cases hlen : 16 <= l.length /\ l.length <= 24
 rotate_left
 · have hN : Hid (clsB l = false) := LH (clsB_ff fun h => hlen h.1)
   have hd : decide ((16 : Int) <= l.length /\ (l.length : Int) <= 24) = false := decide_eq_false (by omega)
   clear hlen
   go_enter Tryz.func49, Tryz.ntmps49
   go_wp2_with fail
   refine (within_any _ _ _ _).mono ?_
   rw [hd]
   rintro e w2 ⟨rfl, hw2⟩
   subst w2
   go_wp2_with fail
   go_ret
   exact ⟨ret_bool hN.out.symm, XR _⟩
 have hd : decide ((16 : Int) <= l.length /\ (l.length : Int) <= 24) = true := decide_eq_true (by omega)
 have HL := LH hlen
 obtain ⟨hl0, hl1⟩ := hlen
 obtain rfl := pa (by omega)
 go_enter Tryz.func49, Tryz.ntmps49
 go_wp2_with fail
 refine (within_any _ _ _ _).mono ?_
 rw [hd]
 rintro e w2 ⟨rfl, hw2⟩
 subst w2
 clear hd
 go_wp2_with fail
 go_loopw [17] (fun iv wr => ∃ k : Nat, k <= l.length /\ iv = .int .i64 k /\ Ext w wr /\ Hid (∀ i c, i < k -> l[i]? = some c -> ClsAt l i c)) (fun iv _ => l.length - (intOf iv).toNat)
 case atStart => exact ⟨0, Nat.zero_le _, rfl, XR _, LH fun i c hi => by omega⟩
 case round =>
  obtain ⟨k, hk, rfl, hx, hR⟩ := hrel
  obtain ⟨wo, hwo⟩ : ∃ x, x = wr := ⟨_, rfl⟩
  subst hwo
  by_cases hlt : k < l.length
  rotate_left
  · have hY : Hid (clsB l = true) := LH (clsB_tt ⟨HL.out, fun i c hc => hR.out i c (by have := (List.getElem?_eq_some_iff.1 hc).1; omega) hc⟩)
    go_wp2_with fail
    go_ret
    exact ⟨ret_bool hY.out.symm, hx⟩
  obtain ⟨c, hc⟩ : ∃ c, c = l[k] := ⟨_, rfl⟩
  have hck : l[k]? = some c := by rw [hc]; simp [hlt]
  have hcz := HZ.out c (by rw [hc]; exact List.getElem_mem _)
  clear hc
  obtain ⟨es, les, ces, res⟩ := ha k c hck
  obtain ⟨af, cf, rfl, rf⟩ := MClassInfo.op_en res
  have q0 := hx.cell (show w.cell? ⟨bl, ol + k * 3, none⟩ = some _ from ces 0 (by omega))
  have q1 := hx.cell (show w.cell? ⟨bl, ol + k * 3 + 1, none⟩ = some _ from ces 1 (by omega))
  have q2 := hx.cell (show w.cell? ⟨bl, ol + k * 3 + 2, none⟩ = some _ from ces 2 (by omega))
  have RF := LH rf
  have NO : Hid (¬ ClsAt l k c -> clsB l = false) := LH fun h => clsB_ff fun hh => h (hh.2 k c hck)
  have HCK := LH hck
  have HCZ := LH hcz
  clear hck hcz les ces res rf
  obtain ⟨nm, par, fs⟩ := c
  simp only at q0 q1 q2 NO HCK HCZ RF
  have REL : Hid (ClsAt l k ⟨nm, par, fs⟩ -> ∀ i c, i < k + 1 -> l[i]? = some c -> ClsAt l i c) := LH fun h i c hi hc => by
   by_cases h2 : i < k
   · exact hR.out i c h2 hc
   · obtain rfl : i = k := by omega
     have := HCK.out
     rw [this] at hc; injection hc with hc; subst hc; exact h
  by_cases h16 : k < 16
  · have g16 : (k : Int) < 16 := by omega
    go_wp2_with fail
    generalize hS : World.alloc wo _ = W1
    have x1 : Ext wo W1 := by rw [<- hS]; exact (XR _).alloc _
    have M0 : W1.cell? ⟨wo.heap.size, 0, none⟩ = some (.string nm) := by rw [<- hS]; simp
    have M1 : W1.cell? ⟨wo.heap.size, 1, none⟩ = some (.int .i64 par) := by rw [<- hS]; simp
    have M2 : W1.cell? ⟨wo.heap.size, 2, none⟩ = some (.slice af fs.length cf) := by rw [<- hS]; simp
    clear hS q0 q1 q2
    refine (builtinInfos_any _).mono ?_
    rintro e w2 ⟨ai, ni, ci, fi, rfl, hri, hfi, hxi⟩
    obtain ⟨ai', ci', bi, oi, h1, -, -, pi, hi⟩ := Rep.slmap hri.rep
    simp only [List.cons.injEq, and_true, Value.slice.injEq, infosL_length] at h1
    obtain ⟨rfl, rfl, rfl⟩ := h1
    obtain rfl := pi (by decide)
    obtain ⟨ei, lei, cei, rei⟩ := hi k _ (infosL_get h16)
    obtain ⟨ag, cg, rfl, rg⟩ := MClassInfo.op_en rei
    have s0 : w2.cell? ⟨bi, oi + k * 3, none⟩ = some _ := cei 0 (by omega)
    have s1 : w2.cell? ⟨bi, oi + k * 3 + 1, none⟩ = some _ := cei 1 (by omega)
    have s2 : w2.cell? ⟨bi, oi + k * 3 + 2, none⟩ = some _ := cei 2 (by omega)
    obtain ⟨ia, hia⟩ : ∃ ia, infoAt k = ia := ⟨_, rfl⟩
    rw [hia] at s0 s1 s2 rg
    have HI : Hid (⟨nm, par, fs⟩ = infoAt k ↔ nm = ia.name /\ par = ia.parent /\ fs = ia.fields) := LH (by
     rw [hia]
     obtain ⟨a, b, c⟩ := ia
     simp)
    obtain ⟨inm, ipar, ifs⟩ := ia
    simp only at s0 s1 s2 rg
    have RG := LH rg
    clear hia
    replace M0 := Ext.cell hxi M0
    replace M1 := Ext.cell hxi M1
    replace M2 := Ext.cell hxi M2
    have zM : wo.heap.size < w2.heap.size := lt_of_cell M0
    have hxa := x1.trans hxi
    clear hri hfi pi hi lei cei rei rg hxi x1
    have hsum : (k : Int) < 16 := by omega
    by_cases e1 : nm = inm
    rotate_left
    · have t1 := str_nen e1
      have E1 := LH e1; clear e1
      go_wp2_with fail
      go_ret
      exact ⟨ret_bool (NO.out (fun h => E1.out (HI.out.1 (h.1 h16)).1)).symm, (hx.trans hxa).alloc _⟩
    have t1 := str_eqn e1
    by_cases e2 : par = ipar
    rotate_left
    · have t2 := int_nen e2
      have E2 := LH e2; clear e2
      go_wp2_with fail
      go_ret
      exact ⟨ret_bool (NO.out (fun h => E2.out (HI.out.1 (h.1 h16)).2.1)).symm, (hx.trans hxa).alloc _⟩
    have t2 := int_eqn e2
    have E1 := LH e1; have E2 := LH e2
    clear e1 e2
    go_wp2_with fail
    refine (slEqStr_any fs ifs _ _ _ (Rep.ext ((hx.trans hxa).alloc _) RF.out) (Rep.ext ((XR _).alloc _) RG.out)).mono ?_
    by_cases e3 : fs = ifs
    · have t3 : eqB fs ifs = true := eqB_tt e3
      have E3 := LH e3; clear e3
      rw [t3]
      rintro e w3 ⟨rfl, hx3⟩
      go_wp2_with fail
      go_roundw
      case rel => exact ⟨k + 1, by omega, by go_num, ((hx.trans hxa).alloc _).trans hx3, LH (REL.out ⟨fun _ => HI.out.2 ⟨E1.out, E2.out, E3.out⟩, fun h => by omega⟩)⟩
      case measure => simp [intOf]; omega
    · have t3 : eqB fs ifs = false := eqB_ff e3
      have E3 := LH e3; clear e3
      rw [t3]
      rintro e w3 ⟨rfl, hx3⟩
      go_wp2_with fail
      go_ret
      exact ⟨ret_bool (NO.out (fun h => E3.out (HI.out.1 (h.1 h16)).2.2)).symm, ((hx.trans hxa).alloc _).trans hx3⟩
  have g16 : ¬ (k : Int) < 16 := by omega
  have k16 : 16 <= k := by omega
  have NO : Hid (¬ (nameB nm = true /\ (0 <= par /\ par <= (k : Int) - 1) /\ ¬ (5 <= par /\ par <= 15) /\ fs.length <= 8 /\ (∀ j e, j < k -> l[j]? = some e -> e.name ≠ nm) /\ (∀ p, l[par.toNat]? = some p -> p.fields.length <= fs.length /\ fs.take p.fields.length = p.fields) /\ (∀ j s, fs[j]? = some s -> nameB s = true /\ s ∉ fs.take j)) -> clsB l = false) := LH fun h => NO.out fun hh => h (hh.2 k16)
  have REL : Hid ((nameB nm = true /\ (0 <= par /\ par <= (k : Int) - 1) /\ ¬ (5 <= par /\ par <= 15) /\ fs.length <= 8 /\ (∀ j e, j < k -> l[j]? = some e -> e.name ≠ nm) /\ (∀ p, l[par.toNat]? = some p -> p.fields.length <= fs.length /\ fs.take p.fields.length = p.fields) /\ (∀ j s, fs[j]? = some s -> nameB s = true /\ s ∉ fs.take j)) -> ∀ i c, i < k + 1 -> l[i]? = some c -> ClsAt l i c) := LH fun h => REL.out ⟨fun h6 => by omega, fun _ => h⟩
  have hnz : nm.size <= 9223372036854775806 := by have := HCZ.out.1; omega
  go_wp2_with fail
  generalize hS : World.alloc wo _ = W1
  have x1 : Ext w W1 := by rw [<- hS]; exact hx.alloc _
  have M0 : W1.cell? ⟨wo.heap.size, 0, none⟩ = some (.string nm) := by rw [<- hS]; simp
  have M1 : W1.cell? ⟨wo.heap.size, 1, none⟩ = some (.int .i64 par) := by rw [<- hS]; simp
  have M2 : W1.cell? ⟨wo.heap.size, 2, none⟩ = some (.slice af fs.length cf) := by rw [<- hS]; simp
  clear hS q0 q1 q2
  refine (impl_IsName_any nm _ hnz).mono ?_
  cases hn : nameB nm
  · have HN := LH hn; clear hn
    rintro e w2 ⟨rfl, hx2⟩
    go_wp2_with fail
    go_ret
    exact ⟨ret_bool (NO.out (fun h => by rw [HN.out] at h; cases h.1)).symm, x1.trans hx2⟩
  have HN := LH hn; clear hn
  rintro e w2 ⟨rfl, hx2⟩
  replace M0 := Ext.cell hx2 M0
  replace M1 := Ext.cell hx2 M1
  replace M2 := Ext.cell hx2 M2
  replace x1 := x1.trans hx2
  clear hx2
  go_wp2_with fail
  refine (within_any _ _ _ _).mono ?_
  by_cases hp : 0 <= par /\ par <= (k : Int) - 1
  rotate_left
  · have hpd : decide ((0 : Int) <= par /\ par <= (k : Int) - 1) = false := decide_eq_false hp
    have HP := LH hp; clear hp
    rw [hpd]
    rintro e w3 ⟨rfl, hw3⟩
    subst w3
    go_wp2_with fail
    go_ret
    exact ⟨ret_bool (NO.out (fun h => HP.out h.2.1)).symm, x1⟩
  have hpd : decide ((0 : Int) <= par /\ par <= (k : Int) - 1) = true := decide_eq_true hp
  rw [hpd]
  rintro e w3 ⟨rfl, hw3⟩
  subst w3
  go_wp2_with fail
  refine (within_any _ _ _ _).mono ?_
  by_cases hp5 : 5 <= par /\ par <= 15
  · have hpd5 : decide ((5 : Int) <= par /\ par <= 15) = true := decide_eq_true hp5
    have HP5 := LH hp5; clear hp5
    rw [hpd5]
    rintro e w3 ⟨rfl, hw3⟩
    subst w3
    go_wp2_with fail
    go_ret
    exact ⟨ret_bool (NO.out (fun h => h.2.2.1 HP5.out)).symm, x1⟩
  have hpd5 : decide ((5 : Int) <= par /\ par <= 15) = false := decide_eq_false hp5
  have HP5 := LH hp5; clear hp5
  rw [hpd5]
  rintro e w3 ⟨rfl, hw3⟩
  subst w3
  by_cases h8 : fs.length <= 8
  rotate_left
  · have g8 : (8 : Int) < fs.length := by omega
    go_wp2_with fail
    go_ret
    exact ⟨ret_bool (NO.out (fun h => h8 h.2.2.2.1)).symm, x1⟩
  have g8 : ¬ (8 : Int) < fs.length := by omega
  clear hpd hpd5
  obtain ⟨pn, rfl⟩ : ∃ q : Nat, par = q := ⟨par.toNat, by omega⟩
  have hpn : pn < k := by omega
  have hpl : pn < l.length := by omega
  have HP := LH hp; have H8 := LH h8
  clear hp h8
  go_wp2_with fail
  go_loopw [75] (fun jv wr => ∃ j : Nat, j <= k /\ jv = .int .i64 j /\ Ext w2 wr /\ Hid (∀ i e, i < j -> l[i]? = some e -> e.name ≠ nm)) (fun jv _ => k - (intOf jv).toNat)
  case atStart => exact ⟨0, Nat.zero_le _, rfl, XR _, LH fun i e hi => by omega⟩
  case round =>
   obtain ⟨j, hj, rfl, hxj, hJ⟩ := hrel
   have N0 := Ext.cell hxj M0
   have zj : wo.heap.size < wr.heap.size := lt_of_cell N0
   have xj := x1.trans hxj
   by_cases hjk : j < k
   · obtain ⟨e, he⟩ : ∃ e, e = l[j] := ⟨_, rfl⟩
     have hej : l[j]? = some e := by rw [he]; simp [show j < l.length by omega]
     clear he
     obtain ⟨es, les, ces, res⟩ := ha j e hej
     obtain ⟨ae, ce, rfl, -⟩ := MClassInfo.op_en res
     have q0 := xj.cell (show w.cell? ⟨bl, ol + j * 3, none⟩ = some _ from ces 0 (by omega))
     have q1 := xj.cell (show w.cell? ⟨bl, ol + j * 3 + 1, none⟩ = some _ from ces 1 (by omega))
     have q2 := xj.cell (show w.cell? ⟨bl, ol + j * 3 + 2, none⟩ = some _ from ces 2 (by omega))
     have HEJ := LH hej
     clear les ces res hej
     have jl : (j : Int) < l.length := by omega
     by_cases hq : e.name = nm
     · have tq := str_eq hq
       have HQ := LH hq; clear hq
       go_wp2_with fail
       go_ret
       exact ⟨ret_bool (NO.out (fun h => h.2.2.2.2.1 j e hjk HEJ.out HQ.out)).symm, xj.alloc _⟩
     · have tq := str_ne hq
       have HQ := LH hq; clear hq
       go_wp2_with fail
       go_roundw
       case rel => exact ⟨j + 1, by omega, by go_num, hxj.alloc _, LH fun i e2 hi he2 => by
        by_cases h2 : i < j
        · exact hJ.out i e2 h2 he2
        · obtain rfl : i = j := by omega
          rw [HEJ.out] at he2; injection he2 with he2; subst he2; exact HQ.out⟩
       case measure => simp [intOf]; omega
   obtain rfl : j = k := by omega
   have N1 := Ext.cell hxj M1
   have N2 := Ext.cell hxj M2
   obtain ⟨e, he⟩ : ∃ e, e = l[pn] := ⟨_, rfl⟩
   have hej : l[pn]? = some e := by rw [he]; simp [hpl]
   clear he
   obtain ⟨es, les, ces, res⟩ := ha pn e hej
   obtain ⟨ae, ce, rfl, re⟩ := MClassInfo.op_en res
   have q2 := xj.cell (show w.cell? ⟨bl, ol + pn * 3 + 2, none⟩ = some _ from ces 2 (by omega))
   have RE := LH re
   have HPE : Hid (∀ (P : List ByteArray -> Prop), P e.fields -> ∀ p, l[(pn : Int).toNat]? = some p -> P p.fields) := LH fun P hP p hp => by
    rw [Int.toNat_natCast, hej] at hp; injection hp with hp; subst hp; exact hP
   have HEP : Hid (l[(pn : Int).toNat]? = some e) := LH (by rw [Int.toNat_natCast]; exact hej)
   clear les ces res hej re
   obtain ⟨enm, epar, pfs⟩ := e
   simp only at q2 RE HPE
   by_cases hlp : pfs.length <= fs.length
   rotate_left
   · have tl : (fs.length : Int) < pfs.length := by omega
     go_wp2_with fail
     go_ret
     exact ⟨ret_bool (NO.out (fun h => hlp (h.2.2.2.2.2.1 _ HEP.out).1)).symm, xj⟩
   have tl : ¬ (fs.length : Int) < pfs.length := by omega
   have tl2 : (pfs.length : Int) <= fs.length := by omega
   have RT : Hid (Rep wr (strs (fs.take pfs.length)) [.slice af pfs.length cf]) := LH (RepF.take_strs (Rep.ext xj RF.out) _ hlp)
   have RE2 := LH (Rep.ext xj RE.out)
   have hcf : fs.length <= cf /\ cf <= maxLen /\ (af = none -> cf = 0) := by
    obtain ⟨fp, h⟩ := RF.out
    obtain ⟨_, _, h1, h2, h3, h4, -⟩ := RepF.sl_iff.1 h
    simp only [List.cons.injEq, and_true, Value.slice.injEq, List.length_map] at h1 h2
    obtain ⟨rfl, -, rfl⟩ := h1
    exact ⟨h2, h3, h4⟩
   obtain ⟨hcf1, hcf2, hcf3⟩ := hcf
   have RTN : Hid (af = none -> pfs.length = 0 /\ cf = 0) := LH fun h => ⟨by have := hcf3 h; omega, hcf3 h⟩
   have tl3 : (pfs.length : Int) <= cf := by omega
   clear hcf2 hcf3
   have EQ : Hid (∀ va, Rep wr (strs (fs.take pfs.length)) [va] -> Calls Tryz.prog 83 #[va, .slice ae pfs.length ce] wr fun e w' => e = .returned (.bool (eqB (fs.take pfs.length) pfs)) /\ Ext wr w') := LH fun va h => slEqStr_any _ _ _ _ _ h RE2.out
   have HQF : Hid (eqB (fs.take pfs.length) pfs = false -> clsB l = false) := LH fun hq => NO.out fun h => by
    have := eqB_tt (h.2.2.2.2.2.1 _ HEP.out).2
    rw [hq] at this; cases this
   have HQT : Hid (eqB (fs.take pfs.length) pfs = true -> (∀ p, l[(pn : Int).toNat]? = some p -> p.fields.length <= fs.length /\ fs.take p.fields.length = p.fields)) := LH fun hq p hp => HPE.out (fun L => L.length <= fs.length /\ fs.take L.length = L) ⟨hlp, eqB_iff.1 hq⟩ p hp
   have HALL := hJ
   have zj2 := zj
   clear HPE
   rcases af with _ | a
   · obtain ⟨hp0, hcf0⟩ := RTN.out rfl
     have hf0 : fs.length = 0 := by omega
     have RT0 : Hid (Rep wr (strs (fs.take pfs.length)) [.slice none 0 0]) := LH (by rw [hp0]; exact (nil_strs wr).rep)
     have RE0 : Hid (Rep wr (strs pfs) [.slice ae 0 ce]) := LH (by have h := RE2.out; rwa [hp0] at h)
     have HQE : Hid (∀ i s, fs[i]? = some s -> nameB s = true /\ s ∉ fs.take i) := LH fun i s h => by
      have := (List.getElem?_eq_some_iff.1 h).1; omega
     go_wp2_with fail
     refine (slEqStr_any _ _ _ _ _ RT0.out RE0.out).mono ?_
     cases hq : eqB (fs.take pfs.length) pfs
     · have HQ := LH (HQF.out hq); clear hq
       rintro e w5 ⟨rfl, hx5⟩
       go_wp2_with fail
       go_ret
       exact ⟨ret_bool HQ.out.symm, xj.trans hx5⟩
     · have HQ := LH (HQT.out hq); clear hq
       rintro e w5 ⟨rfl, hx5⟩
       have N2' := Ext.cell hx5 N2
       go_wp2_with fail
       refine wp_loop_rounds 1 ?_
       rw [rounds_succ]
       go_wp2_with fail
       go_roundw
       case rel => exact ⟨_ + 1, by omega, by go_num, xj.trans hx5, LH (REL.out ⟨HN.out, HP.out, HP5.out, H8.out, fun i e hi he => HALL.out i e hi he, HQ.out, HQE.out⟩)⟩
       case measure => simp [intOf]; omega
   · go_wp2_with fail
     refine (slEqStr_any _ _ _ _ _ RT.out RE2.out).mono ?_
     cases hq : eqB (fs.take pfs.length) pfs
     · have HQ := LH (HQF.out hq); clear hq
       rintro e w5 ⟨rfl, hx5⟩
       go_wp2_with fail
       go_ret
       exact ⟨ret_bool HQ.out.symm, xj.trans hx5⟩
     have HQ := LH (HQT.out hq); clear hq
     rintro e w5 ⟨rfl, hx5⟩
     have N2' := Ext.cell hx5 N2
     have x5 := xj.trans hx5
     obtain ⟨ao', ca', bf, of', h1, hlf, hmf, pf, hf⟩ := RF.out.strs
     simp only [List.cons.injEq, and_true, Value.slice.injEq] at h1
     obtain ⟨rfl, -, rfl⟩ := h1
     unfold maxLen at hmf
     go_wp2_with fail
     go_loopw [110] (fun qv wr => ∃ q : Nat, q <= fs.length /\ qv = .int .i64 q /\ Ext w5 wr /\ Hid (∀ i s, i < q -> fs[i]? = some s -> nameB s = true /\ s ∉ fs.take i)) (fun qv _ => fs.length - (intOf qv).toNat)
     case atStart => exact ⟨0, Nat.zero_le _, rfl, XR _, LH fun i s hi => by omega⟩
     case round =>
      obtain ⟨q, hq, rfl, hxq, hQ⟩ := hrel
      have xq := x5.trans hxq
      by_cases hqk : q < fs.length
      rotate_left
      · have HQE : Hid (∀ i s, fs[i]? = some s -> nameB s = true /\ s ∉ fs.take i) := LH fun i s h => hQ.out i s (by have := (List.getElem?_eq_some_iff.1 h).1; omega) h
        go_wp2_with fail
        go_roundw
        case rel => exact ⟨_ + 1, by omega, by go_num, xq, LH (REL.out ⟨HN.out, HP.out, HP5.out, H8.out, fun i e hi he => HALL.out i e hi he, HQ.out, HQE.out⟩)⟩
        case measure => simp [intOf]; omega
      have e := pf (by omega)
      simp only [Option.some.injEq] at e
      subst e
      obtain ⟨s, hs⟩ : ∃ s, s = fs[q] := ⟨_, rfl⟩
      have hsq : fs[q]? = some s := by rw [hs]; simp [hqk]
      have hsz : s.size <= 9223372036854775806 := by have := HCZ.out.2 s (by rw [hs]; exact List.getElem_mem _); omega
      clear hs
      have b0 := xq.cell (hf q s hsq)
      have HSQ := LH hsq; clear hsq
      have N3 := Ext.cell hxq N2'
      have tq : (q : Int) <= cf := by omega
      go_wp2_with fail
      refine (impl_IsName_any s _ hsz).mono ?_
      cases hn : nameB s
      · have HS := LH hn; clear hn
        rintro e w7 ⟨rfl, hx7⟩
        go_wp2_with fail
        go_ret
        exact ⟨ret_bool (NO.out (fun h => by have h9 := (h.2.2.2.2.2.2 q s HSQ.out).1; rw [HS.out] at h9; cases h9)).symm, xq.trans hx7⟩
      have HS := LH hn; clear hn
      rintro e w7 ⟨rfl, hx7⟩
      replace N3 := Ext.cell hx7 N3
      go_wp2_with fail
      refine (sl_contains fs q s _ _ _ _ _ (Rep.ext (xq.trans hx7) RF.out) (Nat.le_of_lt hqk) (by omega)).mono ?_
      cases hh : hasB (fs.take q) s
      rotate_left
      · have HH := LH hh; clear hh
        rintro e w8 ⟨rfl, hw8⟩
        subst w8
        go_wp2_with fail
        go_ret
        exact ⟨ret_bool (NO.out (fun h => (h.2.2.2.2.2.2 q s HSQ.out).2 (hasB_iff.1 HH.out))).symm, xq.trans hx7⟩
      · have HH := LH hh; clear hh
        rintro e w8 ⟨rfl, hw8⟩
        subst w8
        go_wp2_with fail
        go_roundw
        case rel => exact ⟨q + 1, by omega, by go_num, hxq.trans hx7, LH fun i s2 hi hs2 => by
         by_cases h2 : i < q
         · exact hQ.out i s2 h2 hs2
         · obtain rfl : i = q := by omega
           rw [HSQ.out] at hs2; injection hs2 with hs2; subst hs2
           exact ⟨HS.out, fun hm => by have := hasB_iff.2 hm; rw [HH.out] at this; cases this⟩⟩
        case measure => simp [intOf]; omega
end Go.Proofs.YtlaclfeljimffaaGreatDoor
