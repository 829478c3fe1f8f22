/-
  CONTRACTS: FormatCode, of the program and of the reference.
  Conditions: those that each lemma states.
-/
import Derived.Test.YtpajlbmjlhafoaaDoorRows
import Derived.Test.YtpajlbmjlhafoaaDoorFnInstr
import Derived.Test.YtpajlbmjlhafoaaDoorFnSplit
import Derived.Lib.QuietBelow
import Derived.BigQuiet
import Derived.Deep.RegionHeld3
import Derived.Deep.DeepCutAuto
namespace Go.Proofs.YtpajlbmjlhafoaaDoor
open Go.RowKit Go.Joins
set_option linter.unusedSimpArgs false
set_option linter.unusedVariables false

def codeW (b : Bool) : ByteArray := if b then ⟨#[98, 108, 111, 99, 107, 99, 111, 100, 101]⟩ else ⟨#[99, 111, 100, 101]⟩
def headB (x : MCode) : ByteArray := codeW x.block ++ (spB ++ (itoaB x.params ++ (spB ++ itoaB x.slots)))
def codeL (x : MCode) : List ByteArray := headB x :: x.instrs.map instrB
theorem code_ok {x : MCode} (h : x.d.ok) : ((-9223372036854775808 ≤ x.params ∧ x.params ≤ 9223372036854775807) ∧ (-9223372036854775808 ≤ x.slots ∧ x.slots ≤ 9223372036854775807)) ∧ ∀ i, i ∈ x.instrs → i.d.ok := by
  rw [MCode.d_eq] at h
  simp only [D.ok, D.okL, MInstrs] at h
  exact ⟨⟨h.2.1, h.2.2.1⟩, fun i hi => D.okL_mem h.2.2.2.1 _ (List.mem_map_of_mem hi)⟩
theorem bulkL_mem' : ∀ {xs : List D} {x : D}, x ∈ xs → x.bulk ≤ D.bulkL xs
  | y :: ys, x, h => by
    simp only [D.bulkL]
    rcases List.mem_cons.1 h with rfl | h
    · omega
    · have := bulkL_mem' h; omega
theorem code_bulk {x : MCode} (h : x.d.bulk ≤ 1048576) : x.instrs.length ≤ 1048576 ∧ ∀ i, i ∈ x.instrs → i.d.bulk ≤ 1048576 := by
  rw [MCode.d_eq] at h
  simp only [D.bulk, D.bulkL, MInstrs, List.length_map] at h
  refine ⟨by omega, fun i hi => ?_⟩
  have := bulkL_mem' (List.mem_map_of_mem (f := MInstr.d) hi)
  omega
theorem AccT.one {B0 : Nat} {w : World} (s : ByteArray) (hB : B0 ≤ w.heap.size) : AccT B0 (w.alloc (.cells #[.string s] 9)) (.slice (some ⟨w.heap.size, 0, none⟩) 1 1) [s] :=
  ⟨[.string s], ⟨by simp, Or.inr ⟨w.heap.size, 1, #[.string s], rfl, hB, heap_alloc_new w _, Nat.le_refl _, by unfold maxLen; omega, rfl, rfl⟩⟩, RepR.one (by simp [RepF]) rfl, Fresh.nil _ _, by simp⟩

set_option maxHeartbeats 2000000 in
theorem headOf_any (x : MCode) (cx : List Value) (w : World) (rx : Rep w x.d cx) (ox : x.d.ok) (hm : TabOk w) :
    Calls Tryd.prog 34 #[.agg cx.toArray] w fun e w' => e = .returned (.string (headB x)) ∧ Ext w w' := by
  obtain ⟨ai, ci, rfl, -⟩ := MCode.op_en rx
  clear rx
  obtain ⟨⟨⟨p0, p1⟩, q0, q1⟩, -⟩ := code_ok ox
  clear ox
  have sa := itoaB_size p0 p1
  have sb := itoaB_size q0 q1
  obtain ⟨blk, tp, ts, ins⟩ := x
  simp only at *
  cases blk
  all_goals
    go_enter Tryd.func34, Tryd.ntmps34
    go_wp2_with fail
    generalize hW : World.alloc w _ = W1
    have c1 : W1.cell? ⟨w.heap.size, 1, none⟩ = some (.int .i64 tp) := by rw [← hW]; simp
    have c2 : W1.cell? ⟨w.heap.size, 2, none⟩ = some (.int .i64 ts) := by rw [← hW]; simp
    have E1 : Ext w W1 := by rw [← hW]; exact (Ext.refl w).alloc _
    clear hW
    have C1 : Hid (∀ n W, -9223372036854775808 ≤ n → n ≤ 9223372036854775807 → Ext W1 W → Calls Tryd.prog 65 #[.int .i64 n] W fun e w' => e = .returned (.string (itoaB n)) ∧ Ext W w') := Lib.hid fun n W h0 h1 h => impl_FormatInt_any n W h0 h1 (hm.ext (E1.trans h))
    have gc1 := reg (Ext.refl _) c1
    have gc2 := reg (Ext.refl _) c2
    refine wp_region_quiet_below (by kernel_rfl) (by kernel_rfl) ?_
    repeat (go_big_quiet_step ((go_at_call 65; exact Calls.regrown_of (C1.out _ _ (by assumption) (by assumption) (below_regrown _ _ _)))))
    refine wpQuiet_nil ?_
    clear gc1 gc2
    intro _ hw'
    obtain ⟨pw, hw''⟩ := hw'
    subst hw''
    have X1 := regx W1 pw
    generalize hW2 : «Sort».grow (redrawn W1 pw.d) pw.os = W2 at *
    clear hW2
    go_wp2_with fail
    go_ret
    exact ⟨ret_str (by simp only [headB, codeW, spB]; apply ByteArray.ext; simp [Array.append_assoc]), E1.trans X1⟩

set_option maxHeartbeats 4000000 in
set_option maxRecDepth 100000 in
theorem spec_FormatCode_any (x : MCode) (cx : List Value) (w : World) (rx : Rep w x.d cx) (hb : x.d.bulk ≤ 1048576) (ox : x.d.ok) :
    Calls Tryd.prog 30 #[.agg cx.toArray] w (GivesV w (strs (codeL x))) := by
  have RX := Lib.hid rx
  have OX := Lib.hid ox
  obtain ⟨ai, ci, rfl, ri⟩ := MCode.op_en rx
  clear rx
  obtain ⟨⟨⟨p0, p1⟩, q0, q1⟩, hok⟩ := code_ok ox
  obtain ⟨hil, hbi⟩ := code_bulk hb
  have HOK := Lib.hid hok; have HBI := Lib.hid hbi
  clear ox hb hok hbi
  have sa := itoaB_size p0 p1
  have sb := itoaB_size q0 q1
  obtain ⟨ao, ca, ba, oa, e1, hla, hma, pa, ha⟩ := Rep.slmap ri
  simp only [List.cons.injEq, and_true, Value.slice.injEq] at e1
  obtain ⟨rfl, -, rfl⟩ := e1
  unfold maxLen at hma
  clear ri
  obtain ⟨blk, tp, ts, ins⟩ := x
  simp only at *
  cases blk
  · skip
    have hH : ∃ hd, hd = headB ⟨false, tp, ts, ins⟩ := ⟨_, rfl⟩
    obtain ⟨hd, hhd⟩ := hH
    have HHD := Lib.hid hhd; clear hhd
    have hCL : Hid (codeL ⟨false, tp, ts, ins⟩ = hd :: ins.map instrB) := Lib.hid (by rw [HHD.out]; rfl)
    have HV : Hid ((⟨#[99, 111, 100, 101]⟩ : ByteArray) ++ ⟨#[32]⟩ ++ itoaB tp ++ ⟨#[32]⟩ ++ itoaB ts = hd) := Lib.hid (by rw [HHD.out]; simp only [headB, codeW, spB]; apply ByteArray.ext; simp [Array.append_assoc])
    clear RX OX
    go_enter Tryd.func30, Tryd.ntmps30
    go_wp2_with fail
    generalize hW : World.alloc w _ = W1
    have c1 : W1.cell? ⟨w.heap.size, 1, none⟩ = some (.int .i64 tp) := by rw [← hW]; simp
    have c2 : W1.cell? ⟨w.heap.size, 2, none⟩ = some (.int .i64 ts) := by rw [← hW]; simp
    have c3 : W1.cell? ⟨w.heap.size, 3, none⟩ = some (.slice ai ins.length ci) := by rw [← hW]; simp
    have E1 : Ext w W1 := by rw [← hW]; exact (Ext.refl w).alloc _
    have hz1 : w.heap.size ≤ W1.heap.size := E1.size
    clear hW
    have KS : Hid (∀ w'', Ext W1 w'' → w''.cell? ⟨w.heap.size, 1, none⟩ = some (.int .i64 tp) ∧ w''.cell? ⟨w.heap.size, 2, none⟩ = some (.int .i64 ts) ∧ Ext W1 w'') := Lib.hid fun w'' h => ⟨Ext.cell h c1, Ext.cell h c2, h⟩
    have D1 := Ext.drew (Ext.refl W1)
    have C1 := Lib.hid c1
    have C2 := Lib.hid c2
    go_cut [4] (fun v wx => ∃ b, v = .slice (some ⟨b, 0, none⟩) 1 1 ∧ AccT W1.heap.size wx (.slice (some ⟨b, 0, none⟩) 1 1) [hd] ∧ Ext W1 wx)
    case first =>
      go_region_with (go_at_call 61; refine (spec_FormatInt_any _ _ (by assumption) (by assumption)).mono ?_; rintro e w2 ⟨rfl, hx2⟩; replace D1 := D1.trans hx2; have c1 := Ext.cell D1 C1.out; have c2 := Ext.cell D1 C2.out)
      all_goals
        go_wp2_with fail
        go_meet
        refine ⟨_, rfl, ?_, Ext.alloc (by assumption) _⟩
        rw [HV.out]
        exact AccT.one (B0 := W1.heap.size) hd (Below.size (by assumption))
    case rest =>
    obtain ⟨b, rfl, hacc0, hx0⟩ := hcut
    have HN : Hid (ins.length ≤ 1048576) := Lib.hid hil
    go_wp2_with fail
    go_loopw [4, 5] (fun ov iv wr => ∃ k : Nat, k ≤ ins.length ∧ iv = .int .i64 k ∧ AccT W1.heap.size wr ov (hd :: (ins.take k).map instrB) ∧ Ext W1 wr) (fun _ iv _ => ins.length - (intOf iv).toNat)
    case atStart => exact ⟨0, Nat.zero_le _, rfl, by simpa using hacc0, hx0⟩
    case round =>
      clear hacc0 hx0 c1 c2
      obtain ⟨k, hk, rfl, hacc, hx⟩ := hrel
      have m3 := hx.cell c3
      by_cases hlt : k < ins.length
      rotate_left
      · obtain ⟨ao2, cap2, gp, rfl, h4, hf4⟩ := hacc.rep
        go_wp2_with fail
        go_ret
        refine ⟨ao2, _, cap2, gp, rfl, ?_, hf4.mono hz1, E1.trans hx⟩
        have hk2 : k = ins.length := by omega
        rw [hk2, List.take_length] at h4
        rw [hCL.out, hk2]
        simpa using h4
      obtain rfl := pa (by omega)
      obtain ⟨ea, la, cc, ra⟩ := ha k ins[k] (by simp [hlt])
      obtain rfl := MInstr.op_en ra
      have hw := E1.trans hx
      have a0 := hw.cell (show w.cell? ⟨ba, oa + k * 4, none⟩ = some _ from cc 0 (by omega))
      have a1 := hw.cell (show w.cell? ⟨ba, oa + k * 4 + 1, none⟩ = some _ from cc 1 (by omega))
      have a2 := hw.cell (show w.cell? ⟨ba, oa + k * 4 + 2, none⟩ = some _ from cc 2 (by omega))
      have a3 := hw.cell (show w.cell? ⟨ba, oa + k * 4 + 3, none⟩ = some _ from cc 3 (by omega))
      have hmem : ins[k] ∈ ins := List.getElem_mem hlt
      have hb2 := HBI.out _ hmem
      have ho2 := Lib.hid (HOK.out _ hmem)
      have hL : ∃ L, L = hd :: (ins.take k).map instrB := ⟨_, rfl⟩
      obtain ⟨L, hL⟩ := hL
      rw [← hL] at hacc
      have hLl : L.length = k + 1 := by rw [hL]; simp; omega
      have hLn : L.length ≤ 1048577 := by have := HN.out; omega
      have HLL := Lib.hid hLl
      have HL2 : Hid (L ++ [instrB ins[k]] = hd :: (ins.take (k + 1)).map instrB) := Lib.hid (by rw [hL, List.take_succ_eq_append_getElem hlt, List.map_append]; rfl)
      clear hL hLl cc la ha pa hmem
      generalize hM0 : ins[k] = M at *
      clear hM0
      go_wp2_with fail
      refine (spec_FormatInstr_any M _ _ (Rep.ext hw ra) hb2 ho2.out).mono ?_
      clear a0 a1 a2 a3
      rintro e w2 ⟨rfl, hx2⟩
      have hy := hx.trans hx2
      have hacc2 := hacc.ext hx2
      have hzz := hy.size
      go_wp2_with (at_builtin; refine wpList_append_strs rfl _ _ rfl W1.heap.size _ L rfl (hacc2.ext ((Ext.refl _).alloc _)) [instrB M] _ _ _ rfl (rep_one w2 _) (by first | omega | (simp; omega)) (by first | omega | (simp; omega)) ?_)
      intro ao3 cap3 w' ac hg
      have hx' : Ext W1 w' := AccT.below (hacc2.ext ((Ext.refl _).alloc (.cells #[.string (instrB M)] 9))) (hy.alloc _) hg (by simp; omega)
      go_wp2_with fail
      go_roundw
      case rel => exact ⟨k + 1, by omega, by go_num, by rw [HL2.out] at ac; exact ac, hx'⟩
      case measure => simp [intOf]; omega
  · skip
    have hH : ∃ hd, hd = headB ⟨true, tp, ts, ins⟩ := ⟨_, rfl⟩
    obtain ⟨hd, hhd⟩ := hH
    have HHD := Lib.hid hhd; clear hhd
    have hCL : Hid (codeL ⟨true, tp, ts, ins⟩ = hd :: ins.map instrB) := Lib.hid (by rw [HHD.out]; rfl)
    have HV : Hid ((⟨#[98, 108, 111, 99, 107, 99, 111, 100, 101]⟩ : ByteArray) ++ ⟨#[32]⟩ ++ itoaB tp ++ ⟨#[32]⟩ ++ itoaB ts = hd) := Lib.hid (by rw [HHD.out]; simp only [headB, codeW, spB]; apply ByteArray.ext; simp [Array.append_assoc])
    clear RX OX
    go_enter Tryd.func30, Tryd.ntmps30
    go_wp2_with fail
    generalize hW : World.alloc w _ = W1
    have c1 : W1.cell? ⟨w.heap.size, 1, none⟩ = some (.int .i64 tp) := by rw [← hW]; simp
    have c2 : W1.cell? ⟨w.heap.size, 2, none⟩ = some (.int .i64 ts) := by rw [← hW]; simp
    have c3 : W1.cell? ⟨w.heap.size, 3, none⟩ = some (.slice ai ins.length ci) := by rw [← hW]; simp
    have E1 : Ext w W1 := by rw [← hW]; exact (Ext.refl w).alloc _
    have hz1 : w.heap.size ≤ W1.heap.size := E1.size
    clear hW
    have KS : Hid (∀ w'', Ext W1 w'' → w''.cell? ⟨w.heap.size, 1, none⟩ = some (.int .i64 tp) ∧ w''.cell? ⟨w.heap.size, 2, none⟩ = some (.int .i64 ts) ∧ Ext W1 w'') := Lib.hid fun w'' h => ⟨Ext.cell h c1, Ext.cell h c2, h⟩
    have D1 := Ext.drew (Ext.refl W1)
    have C1 := Lib.hid c1
    have C2 := Lib.hid c2
    go_cut [4] (fun v wx => ∃ b, v = .slice (some ⟨b, 0, none⟩) 1 1 ∧ AccT W1.heap.size wx (.slice (some ⟨b, 0, none⟩) 1 1) [hd] ∧ Ext W1 wx)
    case first =>
      go_region_with (go_at_call 61; refine (spec_FormatInt_any _ _ (by assumption) (by assumption)).mono ?_; rintro e w2 ⟨rfl, hx2⟩; replace D1 := D1.trans hx2; have c1 := Ext.cell D1 C1.out; have c2 := Ext.cell D1 C2.out)
      all_goals
        go_wp2_with fail
        go_meet
        refine ⟨_, rfl, ?_, Ext.alloc (by assumption) _⟩
        rw [HV.out]
        exact AccT.one (B0 := W1.heap.size) hd (Below.size (by assumption))
    case rest =>
    obtain ⟨b, rfl, hacc0, hx0⟩ := hcut
    have HN : Hid (ins.length ≤ 1048576) := Lib.hid hil
    go_wp2_with fail
    go_loopw [4, 5] (fun ov iv wr => ∃ k : Nat, k ≤ ins.length ∧ iv = .int .i64 k ∧ AccT W1.heap.size wr ov (hd :: (ins.take k).map instrB) ∧ Ext W1 wr) (fun _ iv _ => ins.length - (intOf iv).toNat)
    case atStart => exact ⟨0, Nat.zero_le _, rfl, by simpa using hacc0, hx0⟩
    case round =>
      clear hacc0 hx0 c1 c2
      obtain ⟨k, hk, rfl, hacc, hx⟩ := hrel
      have m3 := hx.cell c3
      by_cases hlt : k < ins.length
      rotate_left
      · obtain ⟨ao2, cap2, gp, rfl, h4, hf4⟩ := hacc.rep
        go_wp2_with fail
        go_ret
        refine ⟨ao2, _, cap2, gp, rfl, ?_, hf4.mono hz1, E1.trans hx⟩
        have hk2 : k = ins.length := by omega
        rw [hk2, List.take_length] at h4
        rw [hCL.out, hk2]
        simpa using h4
      obtain rfl := pa (by omega)
      obtain ⟨ea, la, cc, ra⟩ := ha k ins[k] (by simp [hlt])
      obtain rfl := MInstr.op_en ra
      have hw := E1.trans hx
      have a0 := hw.cell (show w.cell? ⟨ba, oa + k * 4, none⟩ = some _ from cc 0 (by omega))
      have a1 := hw.cell (show w.cell? ⟨ba, oa + k * 4 + 1, none⟩ = some _ from cc 1 (by omega))
      have a2 := hw.cell (show w.cell? ⟨ba, oa + k * 4 + 2, none⟩ = some _ from cc 2 (by omega))
      have a3 := hw.cell (show w.cell? ⟨ba, oa + k * 4 + 3, none⟩ = some _ from cc 3 (by omega))
      have hmem : ins[k] ∈ ins := List.getElem_mem hlt
      have hb2 := HBI.out _ hmem
      have ho2 := Lib.hid (HOK.out _ hmem)
      have hL : ∃ L, L = hd :: (ins.take k).map instrB := ⟨_, rfl⟩
      obtain ⟨L, hL⟩ := hL
      rw [← hL] at hacc
      have hLl : L.length = k + 1 := by rw [hL]; simp; omega
      have hLn : L.length ≤ 1048577 := by have := HN.out; omega
      have HLL := Lib.hid hLl
      have HL2 : Hid (L ++ [instrB ins[k]] = hd :: (ins.take (k + 1)).map instrB) := Lib.hid (by rw [hL, List.take_succ_eq_append_getElem hlt, List.map_append]; rfl)
      clear hL hLl cc la ha pa hmem
      generalize hM0 : ins[k] = M at *
      clear hM0
      go_wp2_with fail
      refine (spec_FormatInstr_any M _ _ (Rep.ext hw ra) hb2 ho2.out).mono ?_
      clear a0 a1 a2 a3
      rintro e w2 ⟨rfl, hx2⟩
      have hy := hx.trans hx2
      have hacc2 := hacc.ext hx2
      have hzz := hy.size
      go_wp2_with (at_builtin; refine wpList_append_strs rfl _ _ rfl W1.heap.size _ L rfl (hacc2.ext ((Ext.refl _).alloc _)) [instrB M] _ _ _ rfl (rep_one w2 _) (by first | omega | (simp; omega)) (by first | omega | (simp; omega)) ?_)
      intro ao3 cap3 w' ac hg
      have hx' : Ext W1 w' := AccT.below (hacc2.ext ((Ext.refl _).alloc (.cells #[.string (instrB M)] 9))) (hy.alloc _) hg (by simp; omega)
      go_wp2_with fail
      go_roundw
      case rel => exact ⟨k + 1, by omega, by go_num, by rw [HL2.out] at ac; exact ac, hx'⟩
      case measure => simp [intOf]; omega

end Go.Proofs.YtpajlbmjlhafoaaDoor
