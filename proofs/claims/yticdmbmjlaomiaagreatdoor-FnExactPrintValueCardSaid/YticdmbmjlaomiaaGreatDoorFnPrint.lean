/-
  CONTRACTS: PrintValue, of the program and of the reference.
  Conditions: those that each lemma states.
-/
import Derived.Test.YticdmbmjlaomiaaGreatDoorRows
import Derived.Test.YticdmbmjlaomiaaGreatDoorPrintP
import Derived.BigQuiet
namespace Go.Proofs.YticdmbmjlaomiaaGreatDoor
open Go.RowKit
set_option linter.unusedSimpArgs false
set_option linter.unusedVariables false

set_option maxHeartbeats 4000000 in
set_option maxRecDepth 100000 in
theorem cut200_any (s : ByteArray) (w : World) (hs : s.size ≤ 4194304) : Calls Tryz.prog 144 #[.string s] w fun e w' => e = .returned (.string (cutT s)) ∧ w' = w := by
  by_cases h : 200 < s.size
  · have HV : Hid (cutT s = s.extract 0 200) := Lib.hid (by unfold cutT; rw [if_pos h])
    have h1 : min (s.size : Int) 200 = 200 := by omega
    have h2 : (200 : Int) ≤ s.size := by omega
    go_enter Tryz.func144, Tryz.ntmps144
    go_wp2_with fail
    go_ret
    exact ⟨by rw [HV.out]; rfl, rfl⟩
  · have HV : Hid (cutT s = s) := Lib.hid (by unfold cutT; rw [if_neg h])
    have h1 : min (s.size : Int) 200 = s.size := by omega
    have h3 : s.extract 0 s.size = s := by simp
    go_enter Tryz.func144, Tryz.ntmps144
    go_wp2_with fail
    go_ret
    exact ⟨by rw [HV.out]; first | rfl | simp, rfl⟩

set_option maxHeartbeats 4000000 in
set_option maxRecDepth 100000 in
theorem l9Cut_any (s : ByteArray) (w : World) (hs : s.size ≤ 4194304) : Calls Tryz.prog 132 #[.string s] w fun e w' => e = .returned (.string (cutT s)) ∧ w' = w := by
  by_cases h : 200 < s.size
  · have HV : Hid (cutT s = s.extract 0 200) := Lib.hid (by unfold cutT; rw [if_pos h])
    have h2 : (200 : Int) < s.size := by omega
    have h3 : (200 : Int) ≤ s.size := by omega
    go_enter Tryz.func132, Tryz.ntmps132
    go_wp2_with fail
    go_ret
    exact ⟨by rw [HV.out]; rfl, rfl⟩
  · have HV : Hid (cutT s = s) := Lib.hid (by unfold cutT; rw [if_neg h])
    have h2 : (s.size : Int) ≤ 200 := by omega
    go_enter Tryz.func132, Tryz.ntmps132
    go_wp2_with fail
    go_ret
    exact ⟨by rw [HV.out]; rfl, rfl⟩

theorem vowel_iff {s : ByteArray} (h : 1 ≤ s.size) : hasB vowelsL (s.extract 0 1) = true ↔ (s[0] = 65 ∨ s[0] = 69 ∨ s[0] = 73 ∨ s[0] = 79 ∨ s[0] = 85) := by
  have e : s.extract 0 1 = ⟨#[s[0]]⟩ := by
    apply ByteArray.ext
    apply Array.ext
    · simp; omega
    · intro i h1 h2
      simp at h2
      subst h2
      simp [ByteArray.getElem_eq_getElem_data] 
  rw [e, hasB_iff]
  simp [vowelsL]
set_option maxHeartbeats 4000000 in
set_option maxRecDepth 100000 in
theorem l9Article_any (s : ByteArray) (w : World) (h : 1 ≤ s.size) (hs : s.size ≤ 1048576) : Calls Tryz.prog 134 #[.string s] w fun e w' => e = .returned (.string (artB s)) ∧ Ext w w' := by
  have h1 : (1 : Int) ≤ s.size := by omega
  have x1 : Ext w (w.alloc (.cells (vowelsL.map Value.string).toArray 9)) := (Ext.refl w).alloc _
  have RV : Rep (w.alloc (.cells (vowelsL.map Value.string).toArray 9)) (strs vowelsL) [.slice (some ⟨w.heap.size, 0, none⟩) 5 5] := ⟨_, RepF.strs_mk (by decide) (by decide) (by decide) (by simp) (fun i s hi => by
    rw [Nat.zero_add]
    have := (own_new w (vowelsL.map Value.string).toArray 9).cell i
    rw [this]; simp [hi])⟩
  have HR := Lib.hid RV; clear RV
  cases hv : hasB vowelsL (s.extract 0 1)
  · have HV : Hid (artB s = ⟨#[97, 32]⟩ ++ s) := Lib.hid (by unfold artB; rw [hv]; rfl)
    go_enter Tryz.func134, Tryz.ntmps134
    go_wp2_with fail
    refine (l1Has_any vowelsL _ _ _ HR.out).mono ?_
    rw [hv]
    rintro e w2 ⟨rfl, rfl⟩
    go_wp2_with fail
    go_ret
    exact ⟨by rw [HV.out]; rfl, x1⟩
  · have HV : Hid (artB s = ⟨#[97, 110, 32]⟩ ++ s) := Lib.hid (by unfold artB; rw [hv]; rfl)
    go_enter Tryz.func134, Tryz.ntmps134
    go_wp2_with fail
    refine (l1Has_any vowelsL _ _ _ HR.out).mono ?_
    rw [hv]
    rintro e w2 ⟨rfl, rfl⟩
    go_wp2_with fail
    go_ret
    exact ⟨by rw [HV.out]; rfl, x1⟩

theorem vowel_index (b : UInt8) : decide (0 ≤ Lib.indexByte [65, 69, 73, 79, 85] b) = decide (b = 65 ∨ b = 69 ∨ b = 73 ∨ b = 79 ∨ b = 85) := by
  by_cases h1 : b = 65
  · subst h1; decide
  · by_cases h2 : b = 69
    · subst h2; decide
    · by_cases h3 : b = 73
      · subst h3; decide
      · by_cases h4 : b = 79
        · subst h4; decide
        · by_cases h5 : b = 85
          · subst h5; decide
          · simp [Lib.indexByte, Ne.symm h1, Ne.symm h2, Ne.symm h3, Ne.symm h4, Ne.symm h5, h1, h2, h3, h4, h5]
/-- The class of a right object. -/
theorem obj_cls {l : List MClassInfo} {no : Nat} {o : MObject} (hl : ClsOk l) (h : ObjOk l no 1000 o) : ∃ (m : Nat) (c : MClassInfo), o.cls = m ∧ m < l.length ∧ l[m]? = some c ∧ (l.getD o.cls.toNat dCls) = c := by
  have h16 := hl.1.1
  have hb : 0 ≤ o.cls ∧ o.cls < l.length := by rcases h.2 with h | h | h <;> omega
  refine ⟨o.cls.toNat, l[o.cls.toNat]'(by omega), by omega, by omega, List.getElem?_eq_getElem _, ?_⟩
  rw [List.getD, List.getElem?_eq_getElem (by omega)]; rfl

theorem join_len (l : List (List UInt8)) (s : List UInt8) : (Lib.join l s).length ≤ Lib.lens l + s.length * l.length := by
  cases l with
  | nil => simp [Lib.join_nil]
  | cons x r =>
    rw [Lib.join_cons, List.length_append, Lib.joinTail_length]
    simp only [Lib.lens, List.map_cons, List.sum_cons, List.length_cons, Nat.mul_succ]
    omega
theorem joinB_size (l : List ByteArray) (s : ByteArray) : (joinB l s).size ≤ 1048576 := by
  unfold joinB
  split
  · rename_i h; simpa [ByteArray.size] using h
  · exact Nat.zero_le _
set_option maxHeartbeats 1000000 in
set_option maxRecDepth 100000 in
theorem strJoin_any (l : List ByteArray) (s : ByteArray) (va : Value) (w : World) (ra : Rep w (strs l) [va]) (hs : s.size ≤ 1048576) (hl : l.length ≤ 1048576) (hm : Lib.lens (l.map (·.data.toList)) ≤ 1048576) (hj : (jpart l s l.length).length ≤ 1048576) :
    Calls Tryz.prog 146 #[va, .string s] w fun e w' => e = .returned (.string (joinB l s)) ∧ Ext w w' := by
  have hb := jpart_bound hl hs hm
  obtain ⟨gp, ra⟩ := ra
  obtain ⟨ao, cap, hv, hc, hcm, -, h⟩ := RepF.sl_iff.1 ra
  simp only [List.cons.injEq, and_true, List.length_map] at hv hc
  subst hv
  have HV : joinB l s = ⟨(jpart l s l.length).toArray⟩ := by unfold joinB; rw [if_pos hj]
  rw [HV]
  rcases h with ⟨h1, -⟩ | ⟨b, o, cells, fp', h1, rfl, rfl, h3, h4, h5⟩
  · have : l = [] := by simpa using h1
    subst this
    refine (Tryz.strings_Join_none ao cap s w).mono ?_
    rintro e w' ⟨rfl, rfl⟩
    exact ⟨rfl, Ext.refl _⟩
  · refine (Tryz.strings_Join b o cap l s w (fun j x hx => ?_) h3 (by omega) hc (by rw [← jpart_all]; exact hb)).mono ?_
    · have := Rep.strs ⟨_, ra⟩
      obtain ⟨ao', ca, ba, oa, g1, -, -, pa, ha⟩ := this
      simp only [List.cons.injEq, and_true, Value.slice.injEq, true_and] at g1
      obtain ⟨rfl, rfl⟩ := g1
      have := pa (by have := (List.getElem?_eq_some_iff.1 hx).1; omega)
      simp only [Option.some.injEq, Addr.mk.injEq, and_true] at this
      obtain ⟨rfl, rfl⟩ := this
      exact ha j x hx
    · rintro e w' ⟨rfl, hx⟩
      exact ⟨by rw [jpart_all], hx⟩
theorem head_bd {s : ByteArray} (h : headLtr' s = true) : ∃ hl : 0 < s.size, s[0].toNat < 128 := by
  unfold headLtr' at h
  have e : s.data.toList.length = s.size := by simp
  cases hd : s.data.toList with
  | nil => rw [hd] at h; cases h
  | cons b t =>
    rw [hd] at h e
    simp at e
    have hl : 0 < s.size := by omega
    refine ⟨hl, ?_⟩
    have h0 : s.data.toList[0]? = some s[0] := by rw [List.getElem?_eq_getElem (by simpa using hl)]; rfl
    rw [hd] at h0
    simp at h0
    rw [← h0]
    have := of_decide_eq_true h
    omega

set_option maxHeartbeats 4000000 in
set_option maxRecDepth 100000 in
theorem printed_step (x : MStore) (hs : StoreOk 1000 x) (d : Nat) (hd : d ≤ 3) (IH : Hid (∀ d', d = d' + 1 → ∀ (v : MValue) (ac : Option Addr) (cc : Nat) (ab : Option Addr) (cb : Nat) (au : Option Addr) (cu : Nat) (w : World), Rep w x.d [.slice ac x.classes.length cc, .slice ab x.objects.length cb, .slice au x.output.length cu, .int .i64 x.ticks, .int .i64 x.budget, .int .i64 x.made] → FitP x.classes.length x.objects.length 1000 v → v.text.size ≤ 1048576 → (∀ o, o ∈ x.objects → ∀ u, u ∈ o.fields → u.text.size ≤ 1048576) → MaxOk w → TabOk w → Calls Tryz.prog 55 #[.agg #[.slice ac x.classes.length cc, .slice ab x.objects.length cb, .slice au x.output.length cu, .int .i64 x.ticks, .int .i64 x.budget, .int .i64 x.made], .agg #[.int .i64 v.kind, .int .i64 v.number, .string v.text], .int .i64 (3 - (d' : Nat))] w fun e w' => e = .returned (.string (prT x d' v)) ∧ Ext w w')) : ∀ (v : MValue) (ac : Option Addr) (cc : Nat) (ab : Option Addr) (cb : Nat) (au : Option Addr) (cu : Nat) (w : World), Rep w x.d [.slice ac x.classes.length cc, .slice ab x.objects.length cb, .slice au x.output.length cu, .int .i64 x.ticks, .int .i64 x.budget, .int .i64 x.made] → FitP x.classes.length x.objects.length 1000 v → v.text.size ≤ 1048576 → (∀ o, o ∈ x.objects → ∀ u, u ∈ o.fields → u.text.size ≤ 1048576) → MaxOk w → TabOk w → Calls Tryz.prog 55 #[.agg #[.slice ac x.classes.length cc, .slice ab x.objects.length cb, .slice au x.output.length cu, .int .i64 x.ticks, .int .i64 x.budget, .int .i64 x.made], .agg #[.int .i64 v.kind, .int .i64 v.number, .string v.text], .int .i64 (3 - (d : Nat))] w fun e w' => e = .returned (.string (prT x d v)) ∧ Ext w w' := by
  intro v ac cc ab cb au cu w rx hf hvz hoz hM hT
  have RX := Lib.hid rx
  have HF := Lib.hid hf
  have HS := Lib.hid hs
  have HOZ := Lib.hid hoz
  obtain ⟨_, _, _, _, _, _, h1, rc, rb, -⟩ := MStore.op_en rx
  simp only [List.cons.injEq, Value.slice.injEq, and_true] at h1
  obtain ⟨⟨rfl, -, rfl⟩, ⟨rfl, -, rfl⟩, ⟨rfl, -, rfl⟩⟩ := h1
  have RC := Lib.hid rc
  have RB := Lib.hid rb
  obtain ⟨aco, cco, bc, oc, h1, hlc, hmc, pc, hac⟩ := Rep.slmap rc
  simp only [List.cons.injEq, and_true, Value.slice.injEq] at h1
  obtain ⟨rfl, -, rfl⟩ := h1
  obtain ⟨abo, cbo, bb, ob, h1, hlb, hmb, pb, hab⟩ := Rep.slmap rb
  simp only [List.cons.injEq, and_true, Value.slice.injEq] at h1
  obtain ⟨rfl, -, rfl⟩ := h1
  unfold maxLen at hmc hmb
  have HAC := Lib.hid hac
  have HAB := Lib.hid hab
  clear rx rc rb hac hab hs hoz
  obtain ⟨K, n, t⟩ := v
  simp only at *
  have hk := kinds_fit hf
  simp only at hk
  have hv := hf.1
  rcases hk with rfl | rfl | rfl | rfl | rfl | rfl | rfl | rfl
  · have HV : Hid (prT x d ⟨0, n, t⟩ = ⟨#[110, 105, 108]⟩) := Lib.hid (by cases d <;> simp [prT, prHead])
    clear hv hf
    go_enter Tryz.func55, Tryz.ntmps55
    go_wp2_with fail
    go_ret
    exact ⟨by rw [HV.out]; rfl, ((Ext.refl w).alloc _).alloc _⟩
  · have hn : n = 0 ∨ n = 1 := by rcases hv with h | h | h | h | h | h <;> simp at h <;> omega
    clear hv
    rcases hn with rfl | rfl
    · have HV : Hid (prT x d ⟨1, 0, t⟩ = ⟨#[102, 97, 108, 115, 101]⟩) := Lib.hid (by cases d <;> simp [prT, prHead])
      clear hf
      go_enter Tryz.func55, Tryz.ntmps55
      go_wp2_with fail
      go_ret
      exact ⟨by rw [HV.out]; rfl, (((Ext.refl w).alloc _).alloc _).alloc _⟩
    · have HV : Hid (prT x d ⟨1, 1, t⟩ = ⟨#[116, 114, 117, 101]⟩) := Lib.hid (by cases d <;> simp [prT, prHead])
      clear hf
      go_enter Tryz.func55, Tryz.ntmps55
      go_wp2_with fail
      go_ret
      exact ⟨by rw [HV.out]; rfl, (((Ext.refl w).alloc _).alloc _).alloc _⟩
  · have hn : -999999999 ≤ n ∧ n ≤ 999999999 := by rcases hv with h | h | h | h | h | h <;> simp at h <;> omega
    have HV : Hid (prT x d ⟨2, n, t⟩ = itoaB n) := Lib.hid (by cases d <;> simp [prT, prHead])
    clear hv hf
    go_enter Tryz.func55, Tryz.ntmps55
    go_wp2_with fail
    refine (impl_FormatInt_any n _ (by omega) (by omega) (hT.ext (((Ext.refl w).alloc _).alloc _))).mono ?_
    rintro e w2 ⟨rfl, hx2⟩
    go_wp2_with fail
    go_ret
    exact ⟨by rw [HV.out]; rfl, (((Ext.refl w).alloc _).alloc _).trans hx2⟩
  · have HV : Hid (prT x d ⟨3, n, t⟩ = cutT (quoteB t)) := Lib.hid (by cases d <;> simp [prT, prHead])
    have HT : Hid (tokB ⟨4, t, 0⟩ = quoteB t) := Lib.hid (by simp [tokB])
    have hqz : (quoteB t).size ≤ 4194304 := by
      have := subL_len 39 t.data.toList
      have e1 : t.data.toList.length = t.size := by simp
      have e2 : (quoteB t).size = (subL 39 [39, 39] t.data.toList).length + 2 := by simp [quoteB, ByteArray.size]
      omega
    clear hv hf
    go_enter Tryz.func55, Tryz.ntmps55
    go_wp2_with fail
    refine (impl_FormatToken_any ⟨4, t, 0⟩ [.int .i64 4, .string t, .int .i64 0] _ (MToken.shut (x := ⟨4, t, 0⟩)).rep (by rw [MToken.d_eq]; simp only [D.bulk, D.bulkL]; omega) (by rw [MToken.d_eq]; simp only [D.ok, D.okL]; exact ⟨⟨by omega, by omega⟩, by omega, ⟨by omega, by omega⟩, trivial⟩) (hT.ext (((Ext.refl w).alloc _).alloc _)) (hM.ext (((Ext.refl w).alloc _).alloc _))).mono ?_
    rw [HT.out]
    rintro e w2 ⟨rfl, hx2⟩
    go_wp2_with fail
    refine (cut200_any (quoteB t) _ hqz).mono ?_
    rintro e w3 ⟨rfl, rfl⟩
    go_wp2_with fail
    go_ret
    exact ⟨by rw [HV.out]; rfl, (((Ext.refl w).alloc _).alloc _).trans hx2⟩
  · have HV : Hid (prT x d ⟨4, n, t⟩ = ⟨#[35]⟩ ++ t) := Lib.hid (by cases d <;> simp [prT, prHead])
    clear hv hf
    go_enter Tryz.func55, Tryz.ntmps55
    go_wp2_with fail
    go_ret
    exact ⟨by rw [HV.out]; rfl, ((Ext.refl w).alloc _).alloc _⟩
  · have hn := hf.2.1 rfl
    simp only at hn
    have hn0 : 0 ≤ n := by rcases hv with h | h | h | h | h | h <;> simp at h <;> omega
    obtain ⟨m, rfl⟩ : ∃ m : Nat, n = m := ⟨n.toNat, by omega⟩
    have hm : m < x.classes.length := by omega
    obtain ⟨c, hc⟩ : ∃ c, x.classes[m]? = some c := ⟨_, List.getElem?_eq_getElem hm⟩
    have HV : Hid (prT x d ⟨5, m, t⟩ = c.name) := Lib.hid (by cases d <;> simp [prT, prHead, List.getD, hc])
    obtain rfl := pc (by omega)
    obtain ⟨es, les, ces, res⟩ := HAC.out m c hc
    obtain ⟨af, cf, rfl, -⟩ := MClassInfo.op_en res
    have q0 : w.cell? ⟨bc, oc + m * 3, none⟩ = some (.string c.name) := ces 0 (by omega)
    have zq := lt_of_cell q0
    clear les ces res hc hv hf
    go_enter Tryz.func55, Tryz.ntmps55
    go_wp2_with fail
    go_ret
    exact ⟨by rw [HV.out]; rfl, ((Ext.refl w).alloc _).alloc _⟩
  · obtain ⟨m, ob2, hm, hlt, hom, hat, hok⟩ := obj_of HS.out HF.out rfl
    simp only at hm
    subst hm
    have hmem := List.mem_of_getElem? hom
    obtain ⟨cm, c, hcm, hcl, hcc, hcd⟩ := obj_cls HS.out.1 hok
    obtain rfl := pb (by omega)
    obtain rfl := pc (by omega)
    obtain ⟨es, les, ces, res⟩ := HAB.out m ob2 hom
    obtain ⟨af, cf, an, cn, rfl, rf, -⟩ := MObject.op_en res
    obtain ⟨es2, les2, ces2, res2⟩ := HAC.out cm c hcc
    obtain ⟨ag, cg, rfl, -⟩ := MClassInfo.op_en res2
    have q0 : w.cell? ⟨bb, ob + m * 4, none⟩ = some (.int .i64 ob2.kind) := ces 0 (by omega)
    have q1 : w.cell? ⟨bb, ob + m * 4 + 1, none⟩ = some (.int .i64 ob2.cls) := ces 1 (by omega)
    have q2 : w.cell? ⟨bb, ob + m * 4 + 2, none⟩ = some (.slice af ob2.fields.length cf) := ces 2 (by omega)
    have q3 : w.cell? ⟨bb, ob + m * 4 + 3, none⟩ = some (.slice an ob2.numbers.length cn) := ces 3 (by omega)
    have p0 : w.cell? ⟨bc, oc + cm * 3, none⟩ = some (.string c.name) := ces2 0 (by omega)
    have zq := lt_of_cell q0
    have zp := lt_of_cell p0
    have hnm := cls_name HS.out.1 hcc
    have RF := Lib.hid rf
    have hmi : (m : Int) < x.objects.length := by omega
    rw [hcm] at q1
    have HCM := Lib.hid hcm
    have hci : (cm : Int) < x.classes.length := by omega
    clear les ces res les2 ces2 res2 rf hv hf hcc hom hcm
    by_cases hk2 : ob2.kind = 2
    rotate_left
    · have HV : Hid (prT x d ⟨6, m, t⟩ = artB c.name) := Lib.hid (by
        have e : ∀ arr, prHead x ⟨6, m, t⟩ arr = artB c.name := fun arr => by
          unfold prHead
          rw [if_neg (by simp), if_neg (by simp), if_neg (by simp), if_neg (by simp), if_neg (by simp), if_neg (by simp), if_neg (by simp), hat, if_neg hk2, hcd]
        cases d
        · exact e _
        · exact e _)
      have t2 := int_ne hk2
      have hz1 : 1 ≤ c.name.size := hnm.1
      have hz2 : (1 : Int) ≤ c.name.size := by omega
      have hz20 : c.name.size ≤ 20 := hnm.2.1
      obtain ⟨h0l, hb0⟩ := head_bd hnm.2.2
      have hvi := vowel_iff hz1
      have hvx := vowel_index c.name[0]
      obtain ⟨bq, hbq⟩ : ∃ bq : Bool, decide (c.name[0] = 65 ∨ c.name[0] = 69 ∨ c.name[0] = 73 ∨ c.name[0] = 79 ∨ c.name[0] = 85) = bq := ⟨_, rfl⟩
      rw [hbq] at hvx
      have HAV : Hid (artB c.name = if bq = true then ⟨#[97, 110, 32]⟩ ++ c.name else ⟨#[97, 32]⟩ ++ c.name) := Lib.hid (by
        unfold artB
        have : hasB vowelsL (c.name.extract 0 1) = bq := by rw [Bool.eq_iff_iff, hvi, ← hbq, decide_eq_true_eq]
        rw [this])
      have HCR : Hid (∀ W, Calls Tryz.prog 147 #[.string ⟨#[65, 69, 73, 79, 85]⟩, .int .i32 (c.name[0].toNat : Int)] W fun e w' => e = .returned (.bool bq) ∧ w' = W) := Lib.hid fun W => by
        have := Tryz.strings_ContainsRune_ascii ⟨#[65, 69, 73, 79, 85]⟩ (c.name[0].toNat : Int) W (by omega) (by omega)
        refine this.mono ?_
        rintro e w' ⟨rfl, rfl⟩
        refine ⟨?_, rfl⟩
        rw [← hvx]
        simp
      clear hnm hvi hvx hbq hk2
      go_enter Tryz.func55, Tryz.ntmps55
      go_upto_region 17 with fail
      generalize hS : World.alloc (World.alloc (World.alloc w _) _) _ = W1
      have x1 : Ext w W1 := by rw [← hS]; exact (((Ext.refl _).alloc _).alloc _).alloc _
      have O1 : Own W1 w.heap.size 35 #[.slice (some ⟨bc, oc, none⟩) x.classes.length cc, .slice (some ⟨bb, ob, none⟩) x.objects.length cb, .slice au x.output.length cu, .int .i64 x.ticks, .int .i64 x.budget, .int .i64 x.made] := by rw [← hS]; exact (own_new w _ _).ext (((Ext.refl _).alloc _).alloc _)
      have O3 : Own W1 (w.heap.size + 1 + 1) 206 #[.int .i64 ob2.kind, .int .i64 cm, .slice af ob2.fields.length cf, .slice an ob2.numbers.length cn] := by rw [← hS]; exact own_new3 w _ _ _ _
      have b0 : W1.cell? ⟨w.heap.size, 0, none⟩ = some (.slice (some ⟨bc, oc, none⟩) x.classes.length cc) := by rw [O1.cell]; rfl
      have b1 : W1.cell? ⟨w.heap.size, 1, none⟩ = some (.slice (some ⟨bb, ob, none⟩) x.objects.length cb) := by rw [O1.cell]; rfl
      have b2 : W1.cell? ⟨w.heap.size, 2, none⟩ = some (.slice au x.output.length cu) := by rw [O1.cell]; rfl
      have b3 : W1.cell? ⟨w.heap.size, 3, none⟩ = some (.int .i64 x.ticks) := by rw [O1.cell]; rfl
      have b4 : W1.cell? ⟨w.heap.size, 4, none⟩ = some (.int .i64 x.budget) := by rw [O1.cell]; rfl
      have b5 : W1.cell? ⟨w.heap.size, 5, none⟩ = some (.int .i64 x.made) := by rw [O1.cell]; rfl
      have d0 : W1.cell? ⟨w.heap.size + 1 + 1, 0, none⟩ = some (.int .i64 ob2.kind) := by rw [O3.cell]; rfl
      have d1 : W1.cell? ⟨w.heap.size + 1 + 1, 1, none⟩ = some (.int .i64 cm) := by rw [O3.cell]; rfl
      have d2 : W1.cell? ⟨w.heap.size + 1 + 1, 2, none⟩ = some (.slice af ob2.fields.length cf) := by rw [O3.cell]; rfl
      have d3 : W1.cell? ⟨w.heap.size + 1 + 1, 3, none⟩ = some (.slice an ob2.numbers.length cn) := by rw [O3.cell]; rfl
      replace p0 := x1.cell p0
      clear hS O1 O3 q0 q1 q2 q3
      go_wp2_with fail
      refine (HCR.out _).mono ?_
      rintro e w2 ⟨rfl, rfl⟩
      cases bq
      · go_wp2_with fail
        go_ret
        exact ⟨by rw [HV.out, HAV.out]; rfl, x1⟩
      · go_wp2_with fail
        go_ret
        exact ⟨by rw [HV.out, HAV.out]; rfl, x1⟩
    have HK2 := Lib.hid hk2
    have t2 := int_eq hk2
    clear hk2 hnm p0 zp HCM hci hcd
    cases d with
    | zero =>
      have HV : Hid (prT x 0 ⟨6, m, t⟩ = ⟨#[46, 46, 46]⟩) := Lib.hid (by
        show prHead x ⟨6, m, t⟩ _ = _
        unfold prHead
        rw [if_neg (by simp), if_neg (by simp), if_neg (by simp), if_neg (by simp), if_neg (by simp), if_neg (by simp), if_neg (by simp), hat, if_pos HK2.out])
      have td : ((3 - ((0 : Nat) : Int)) == 3) = true := by decide
      go_enter Tryz.func55, Tryz.ntmps55
      go_upto_region 17 with fail
      generalize hS : World.alloc (World.alloc (World.alloc w _) _) _ = W1
      have x1 : Ext w W1 := by rw [← hS]; exact (((Ext.refl _).alloc _).alloc _).alloc _
      have O1 : Own W1 w.heap.size 35 #[.slice (some ⟨bc, oc, none⟩) x.classes.length cc, .slice (some ⟨bb, ob, none⟩) x.objects.length cb, .slice au x.output.length cu, .int .i64 x.ticks, .int .i64 x.budget, .int .i64 x.made] := by rw [← hS]; exact (own_new w _ _).ext (((Ext.refl _).alloc _).alloc _)
      have O3 : Own W1 (w.heap.size + 1 + 1) 206 #[.int .i64 ob2.kind, .int .i64 cm, .slice af ob2.fields.length cf, .slice an ob2.numbers.length cn] := by rw [← hS]; exact own_new3 w _ _ _ _
      have b0 : W1.cell? ⟨w.heap.size, 0, none⟩ = some (.slice (some ⟨bc, oc, none⟩) x.classes.length cc) := by rw [O1.cell]; rfl
      have b1 : W1.cell? ⟨w.heap.size, 1, none⟩ = some (.slice (some ⟨bb, ob, none⟩) x.objects.length cb) := by rw [O1.cell]; rfl
      have b2 : W1.cell? ⟨w.heap.size, 2, none⟩ = some (.slice au x.output.length cu) := by rw [O1.cell]; rfl
      have b3 : W1.cell? ⟨w.heap.size, 3, none⟩ = some (.int .i64 x.ticks) := by rw [O1.cell]; rfl
      have b4 : W1.cell? ⟨w.heap.size, 4, none⟩ = some (.int .i64 x.budget) := by rw [O1.cell]; rfl
      have b5 : W1.cell? ⟨w.heap.size, 5, none⟩ = some (.int .i64 x.made) := by rw [O1.cell]; rfl
      have d0 : W1.cell? ⟨w.heap.size + 1 + 1, 0, none⟩ = some (.int .i64 ob2.kind) := by rw [O3.cell]; rfl
      have d1 : W1.cell? ⟨w.heap.size + 1 + 1, 1, none⟩ = some (.int .i64 cm) := by rw [O3.cell]; rfl
      have d2 : W1.cell? ⟨w.heap.size + 1 + 1, 2, none⟩ = some (.slice af ob2.fields.length cf) := by rw [O3.cell]; rfl
      have d3 : W1.cell? ⟨w.heap.size + 1 + 1, 3, none⟩ = some (.slice an ob2.numbers.length cn) := by rw [O3.cell]; rfl
      clear hS O1 O3 q0 q1 q2 q3
      go_wp2_with fail
      go_ret
      exact ⟨by rw [HV.out]; rfl, x1⟩
    | succ d =>
      have HV : Hid (prT x (d + 1) ⟨6, m, t⟩ = cutT (⟨#[40]⟩ ++ joinB (ob2.fields.map (prT x d)) ⟨#[32]⟩ ++ ⟨#[41]⟩)) := Lib.hid (by
        show prHead x ⟨6, m, t⟩ _ = _
        unfold prHead
        rw [if_neg (by simp), if_neg (by simp), if_neg (by simp), if_neg (by simp), if_neg (by simp), if_neg (by simp), if_neg (by simp), hat, if_pos HK2.out])
      have hfl : ob2.fields.length ≤ 50 := by rcases hok.2 with h | h | h <;> (have := HK2.out; omega)
      have HOK := Lib.hid hok
      have HOM : Hid (ob2 ∈ x.objects) := Lib.hid hmem
      obtain ⟨D0, hD0⟩ : ∃ D0 : Int, 3 - ((d + 1 : Nat) : Int) = D0 := ⟨_, rfl⟩
      rw [hD0]
      have hq : 3 - ((d : Nat) : Int) = D0 + 1 := by omega
      have hDb : 0 ≤ D0 ∧ D0 ≤ 2 := by omega
      have td : (D0 == 3) = false := int_ne (by omega)
      have CP : Hid (∀ (u : MValue) (W : World), Ext w W → u ∈ ob2.fields → Calls Tryz.prog 55 #[.agg #[.slice (some ⟨bc, oc, none⟩) x.classes.length cc, .slice (some ⟨bb, ob, none⟩) x.objects.length cb, .slice au x.output.length cu, .int .i64 x.ticks, .int .i64 x.budget, .int .i64 x.made], .agg #[.int .i64 u.kind, .int .i64 u.number, .string u.text], .int .i64 (D0 + 1)] W fun e w' => e = .returned (.string (prT x d u)) ∧ Ext W w') := Lib.hid fun u W hW hu => by
        have := IH.out d rfl u _ _ _ _ _ _ W (Rep.ext hW RX.out) (HOK.out.1 u hu) (HOZ.out ob2 HOM.out u hu) HOZ.out (hM.ext hW) (hT.ext hW)
        rw [hq] at this
        exact this
      obtain ⟨afo, cfo, fb, fo, h1, hlf, hmf, pf, haf⟩ := Rep.slmap RF.out
      simp only [List.cons.injEq, and_true, Value.slice.injEq] at h1
      obtain ⟨rfl, -, rfl⟩ := h1
      unfold maxLen at hmf
      have HAF := Lib.hid haf
      have HPS : Hid (∀ u, u ∈ ob2.fields → (prT x d u).size ≤ 200) := Lib.hid fun u hu => prT_size HS.out d (HOK.out.1 u hu).1
      clear hD0 hq haf hok hat hmem
      go_enter Tryz.func55, Tryz.ntmps55
      go_upto_region 17 with fail
      generalize hS : World.alloc (World.alloc (World.alloc w _) _) _ = W1
      have x1 : Ext w W1 := by rw [← hS]; exact (((Ext.refl _).alloc _).alloc _).alloc _
      have O1 : Own W1 w.heap.size 35 #[.slice (some ⟨bc, oc, none⟩) x.classes.length cc, .slice (some ⟨bb, ob, none⟩) x.objects.length cb, .slice au x.output.length cu, .int .i64 x.ticks, .int .i64 x.budget, .int .i64 x.made] := by rw [← hS]; exact (own_new w _ _).ext (((Ext.refl _).alloc _).alloc _)
      have O3 : Own W1 (w.heap.size + 1 + 1) 206 #[.int .i64 ob2.kind, .int .i64 cm, .slice af ob2.fields.length cf, .slice an ob2.numbers.length cn] := by rw [← hS]; exact own_new3 w _ _ _ _
      have b0 : W1.cell? ⟨w.heap.size, 0, none⟩ = some (.slice (some ⟨bc, oc, none⟩) x.classes.length cc) := by rw [O1.cell]; rfl
      have b1 : W1.cell? ⟨w.heap.size, 1, none⟩ = some (.slice (some ⟨bb, ob, none⟩) x.objects.length cb) := by rw [O1.cell]; rfl
      have b2 : W1.cell? ⟨w.heap.size, 2, none⟩ = some (.slice au x.output.length cu) := by rw [O1.cell]; rfl
      have b3 : W1.cell? ⟨w.heap.size, 3, none⟩ = some (.int .i64 x.ticks) := by rw [O1.cell]; rfl
      have b4 : W1.cell? ⟨w.heap.size, 4, none⟩ = some (.int .i64 x.budget) := by rw [O1.cell]; rfl
      have b5 : W1.cell? ⟨w.heap.size, 5, none⟩ = some (.int .i64 x.made) := by rw [O1.cell]; rfl
      have d0 : W1.cell? ⟨w.heap.size + 1 + 1, 0, none⟩ = some (.int .i64 ob2.kind) := by rw [O3.cell]; rfl
      have d1 : W1.cell? ⟨w.heap.size + 1 + 1, 1, none⟩ = some (.int .i64 cm) := by rw [O3.cell]; rfl
      have d2 : W1.cell? ⟨w.heap.size + 1 + 1, 2, none⟩ = some (.slice af ob2.fields.length cf) := by rw [O3.cell]; rfl
      have d3 : W1.cell? ⟨w.heap.size + 1 + 1, 3, none⟩ = some (.slice an ob2.numbers.length cn) := by rw [O3.cell]; rfl
      clear hS O1 O3 q0 q1 q2 q3
      have hA : AccT W1.heap.size (W1.alloc (.cells #[] 9)) (.slice (some ⟨W1.heap.size, 0, none⟩) 0 0) ((ob2.fields.take 0).map (prT x d)) := Acc.empty _ _ (Nat.le_refl _)
      have hy : Ext W1 (W1.alloc (.cells #[] 9)) := (Ext.refl W1).alloc _
      have zd := lt_of_cell d2
      go_wp2_with fail
      go_loopw [8, 66] (fun pv iv wr => ∃ i : Nat, i ≤ ob2.fields.length ∧ iv = .int .i64 i ∧ AccT W1.heap.size wr pv ((ob2.fields.take i).map (prT x d)) ∧ Ext W1 wr) (fun _ iv _ => ob2.fields.length - (intOf iv).toNat)
      case atStart => exact ⟨0, Nat.zero_le _, rfl, hA, hy⟩
      case round =>
        obtain ⟨i, hi, rfl, hacc, hx⟩ := hrel
        clear hA hy
        replace b0 := hx.cell b0
        replace b1 := hx.cell b1
        replace b2 := hx.cell b2
        replace b3 := hx.cell b3
        replace b4 := hx.cell b4
        replace b5 := hx.cell b5
        have zb := lt_of_cell b0
        by_cases hlt2 : i < ob2.fields.length
        · obtain rfl := pf (by omega)
          obtain ⟨u, hu⟩ : ∃ u, ob2.fields[i]? = some u := ⟨_, List.getElem?_eq_getElem hlt2⟩
          obtain ⟨es, les, ces, res⟩ := HAF.out i u hu
          have hcu := MValue.op_en res
          subst hcu
          have X := x1.trans hx
          have p0 : wr.cell? ⟨fb, fo + i * 3, none⟩ = some (.int .i64 u.kind) := X.cell (ces 0 (by omega))
          have p1 : wr.cell? ⟨fb, fo + i * 3 + 1, none⟩ = some (.int .i64 u.number) := X.cell (ces 1 (by omega))
          have p2 : wr.cell? ⟨fb, fo + i * 3 + 2, none⟩ = some (.string u.text) := X.cell (ces 2 (by omega))
          have HST : Hid ((ob2.fields.take i).map (prT x d) ++ [prT x d u] = (ob2.fields.take (i + 1)).map (prT x d)) := Lib.hid (by rw [List.take_add_one, hu]; simp)
          have hlen : ((ob2.fields.take i).map (prT x d)).length = i := by simp; omega
          have hum := List.mem_of_getElem? hu
          have hil : (i : Int) < ob2.fields.length := by omega
          clear les ces res hu
          generalize (ob2.fields.take i).map (prT x d) = P at *
          go_wp2_with fail
          refine (CP.out u _ (X.alloc _) hum).mono ?_
          rintro e w5 ⟨rfl, hx5⟩
          have hac5 := (hacc.ext ((Ext.refl _).alloc (.cells #[.int .i64 u.kind, .int .i64 u.number, .string u.text] 37))).ext hx5
          have hx45 := (hx.alloc (.cells #[.int .i64 u.kind, .int .i64 u.number, .string u.text] 37)).trans hx5
          have hz5 := hx45.size
          go_wp2_with (at_builtin; refine wpList_append_strs rfl _ _ rfl W1.heap.size _ P rfl (hac5.ext ((Ext.refl _).alloc _)) [prT x d u] _ _ _ rfl (rep_one _ _) (by first | omega | (simp; omega)) (by first | omega | (simp; omega)) ?_)
          intro ao3 cap3 w6 ac hg
          have hx6 : Ext W1 w6 := AccT.below (hac5.ext ((Ext.refl _).alloc (.cells #[.string (prT x d u)] 9))) (hx45.alloc _) hg (by simp; omega)
          go_wp2_with fail
          go_roundw
          case rel => exact ⟨i + 1, by omega, by go_num, by rw [← HST.out]; exact ac, hx6⟩
          case measure => simp [intOf]; omega
        · obtain rfl : i = ob2.fields.length := by omega
          rw [List.take_length] at hacc
          obtain ⟨ao5, cap5, gp5, rfl, h5, -⟩ := hacc.rep
          rw [List.length_map] at h5 ⊢
          have H5 := Lib.hid h5.rep
          clear h5
          have hml : (ob2.fields.map (prT x d)).length ≤ 1048576 := by simp; omega
          have HLN : Hid (Lib.lens ((ob2.fields.map (prT x d)).map (·.data.toList)) ≤ 1048576) := Lib.hid (by
            have := lens_le (ob2.fields.map (prT x d)) fun y hy => by
              obtain ⟨u, hu, rfl⟩ := List.mem_map.1 hy
              exact HPS.out u hu
            rw [List.length_map] at this
            omega)
          have HJP : Hid ((jpart (ob2.fields.map (prT x d)) ⟨#[32]⟩ (ob2.fields.map (prT x d)).length).length ≤ 1048576) := Lib.hid (by
            rw [jpart_all]
            have h1 := join_len ((ob2.fields.map (prT x d)).map (·.data.toList)) (⟨#[32]⟩ : ByteArray).data.toList
            have h2 := lens_le (ob2.fields.map (prT x d)) fun y hy => by
              obtain ⟨u, hu, rfl⟩ := List.mem_map.1 hy
              exact HPS.out u hu
            rw [List.length_map] at h2
            have e1 : (⟨#[32]⟩ : ByteArray).data.toList.length = 1 := rfl
            rw [e1, List.length_map, List.length_map, Nat.one_mul] at h1
            omega)
          have hjz := joinB_size (ob2.fields.map (prT x d)) ⟨#[32]⟩
          go_wp2_with fail
          refine (strJoin_any (ob2.fields.map (prT x d)) ⟨#[32]⟩ _ _ H5.out (by decide) hml HLN.out HJP.out).mono ?_
          rintro e w7 ⟨rfl, hx7⟩
          have HV2 : Hid (∀ J, joinB (ob2.fields.map (prT x d)) ⟨#[32]⟩ = J → prT x (d + 1) ⟨6, m, t⟩ = cutT (⟨#[40]⟩ ++ J ++ ⟨#[41]⟩)) := Lib.hid fun J h => by rw [HV.out, h]
          obtain ⟨J, hJ⟩ : ∃ J, joinB (ob2.fields.map (prT x d)) ⟨#[32]⟩ = J := ⟨_, rfl⟩
          have HV3 := Lib.hid (HV2.out J hJ)
          rw [hJ] at hjz ⊢
          have hcz : (⟨#[40]⟩ ++ J ++ ⟨#[41]⟩ : ByteArray).size ≤ 4194304 := by
            rw [ByteArray.size_append, ByteArray.size_append]
            have e1 : (⟨#[40]⟩ : ByteArray).size = 1 := rfl
            have e2 : (⟨#[41]⟩ : ByteArray).size = 1 := rfl
            omega
          clear hJ HV2
          go_wp2_with fail
          refine (cut200_any _ _ hcz).mono ?_
          rintro e w8 ⟨rfl, rfl⟩
          go_wp2_with fail
          go_ret
          exact ⟨by rw [HV3.out]; rfl, (x1.trans hx).trans hx7⟩
  · have HV : Hid (prT x d ⟨7, n, t⟩ = ⟨#[97, 32, 66, 108, 111, 99, 107]⟩) := Lib.hid (by cases d <;> simp [prT, prHead])
    clear hv hf
    go_enter Tryz.func55, Tryz.ntmps55
    go_wp2_with fail
    go_ret
    exact ⟨by rw [HV.out]; rfl, ((Ext.refl w).alloc _).alloc _⟩

end Go.Proofs.YticdmbmjlaomiaaGreatDoor
