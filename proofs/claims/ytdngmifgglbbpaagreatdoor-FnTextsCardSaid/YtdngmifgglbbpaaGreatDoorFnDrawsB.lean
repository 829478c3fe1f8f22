/-
  CONTRACTS: draws of values.
  Conditions: those that each lemma states.
-/
import Derived.Test.YtdngmifgglbbpaaGreatDoorRows
import Derived.Test.YtdngmifgglbbpaaGreatDoorFnBasicI
import Derived.Test.YtdngmifgglbbpaaGreatDoorFnDrawsD
import Derived.Test.YtdngmifgglbbpaaGreatDoorAccAt
namespace Go.Proofs.YtdngmifgglbbpaaGreatDoor
open Go.RowKit
set_option linter.unusedSimpArgs false
set_option linter.unusedVariables false

/-- A value that is drawn. -/
def DrawnV (x : MValue) : Prop := (x.kind = 2 → x = intV x.number ∧ -999999999 ≤ x.number ∧ x.number ≤ 999999999) ∧ (x.kind = 3 → x = textV x.text ∧ textB 200 x.text = true) ∧ x.text.size ≤ 10
def drInts : List Int := [0, 1, 2, 3, -1, 7, 999999999, -999999999, 50]
def drTexts : List ByteArray := [⟨#[]⟩, ⟨#[97, 98, 99]⟩, ⟨#[105, 116, 39, 115]⟩, ⟨#[49, 50]⟩, ⟨#[45, 53]⟩, ⟨#[97, 116, 58, 112, 117, 116, 58]⟩]
def drSyms : List ByteArray := [⟨#[115, 105, 122, 101]⟩, ⟨#[43]⟩, ⟨#[97, 116, 58, 112, 117, 116, 58]⟩]
theorem Touch.fresh {a w : World} {fp : List Nat} (h : Touch a w fp) {b o : Nat} (hb : a.heap.size ≤ b) (v : Value) : Touch a (w.setCell ⟨b, o, none⟩ v) fp :=
  ⟨h.os, h.tape, h.output, by have := h.size; simpa [World.setCell] using this, fun k hk hn => (heap_setCell_other w ⟨b, o, none⟩ k v (show k ≠ b by omega)).trans (h.block k hk hn)⟩
theorem Own.touch {w w' : World} {B : Nat} {e : TypeId} {C : Array Value} {fp : List Nat} (h : Own w B e C) (ht : Touch w w' fp) (hB : B ∉ fp) : Own w' B e C := (ht.block B h.lt hB).trans h
theorem Cur.set {w : World} {B : Nat} {v : Value} (h : Cur w B v) {b o : Nat} (hb : B ≠ b) (x : Value) : Cur (w.setCell ⟨b, o, none⟩ x) B v := let ⟨i, q, hi, hO⟩ := h; ⟨i, q, hi, hO.other ⟨b, o, none⟩ hb x⟩
theorem drawn_int {n : Int} (h0 : -999999999 ≤ n) (h1 : n ≤ 999999999) : DrawnV (intV n) := ⟨fun _ => ⟨rfl, h0, h1⟩, fun h => by simp [intV] at h, (by show (⟨#[]⟩ : ByteArray).size ≤ 10; decide)⟩
theorem drawn_low {k n : Int} {s : ByteArray} (h2 : k ≠ 2) (h3 : k ≠ 3) (hs : s.size ≤ 10) : DrawnV ⟨k, n, s⟩ := ⟨fun h => absurd h h2, fun h => absurd h h3, hs⟩
theorem drawn_text {s : ByteArray} (h : s ∈ drTexts) : DrawnV (textV s) := by
  refine ⟨fun h => by simp [textV] at h, fun _ => ⟨rfl, textB_tt ?_⟩, ?_⟩
  · simp only [drTexts, List.mem_cons, List.not_mem_nil, or_false] at h
    rcases h with rfl | rfl | rfl | rfl | rfl | rfl <;> exact ⟨by decide, by decide⟩
  · simp only [drTexts, List.mem_cons, List.not_mem_nil, or_false] at h
    rcases h with rfl | rfl | rfl | rfl | rfl | rfl <;> decide
set_option maxHeartbeats 1000000 in
theorem l1Once_cur (B : Nat) (v : Value) (n : Nat) (w : World) (hC : Cur w B v) (hc : Bytes w v) (hB : Off v B) (h0 : 0 < n) (h1 : n ≤ 4294967296) :
    Calls Tryz.prog 74 #[.pointer (some ⟨B, 0, none⟩), .int .i64 n] w fun e w' => (∃ b : Bool, e = .returned (.bool b)) ∧ Touch w w' [B] ∧ Cur w' B v := by
  go_enter Tryz.func74, Tryz.ntmps74
  go_wp2_with fail
  refine (l1Below_cur B v n w hC hc hB h0 h1).mono ?_
  rintro e w1 ⟨⟨m, rfl, hm⟩, hT, hC1⟩
  go_wp2_with fail
  go_ret
  exact ⟨⟨_, rfl⟩, hT, hC1⟩

set_option maxHeartbeats 8000000 in
set_option maxRecDepth 100000 in
theorem l9SomeValue_cur (B : Nat) (v : Value) (SB : Nat) (ac : Option Addr) (cc : Nat) (ao : Option Addr) (co : Nat) (w : World) (hC : Cur w B v) (hc : Bytes w v) (hB : Off v B) (s0 : w.cell? ⟨SB, 0, none⟩ = some (.slice ac 16 cc)) (s1 : w.cell? ⟨SB, 1, none⟩ = some (.slice ao 0 co)) (hSB : SB ≠ B) :
    Calls Tryz.prog 72 #[.pointer (some ⟨B, 0, none⟩), .pointer (some ⟨SB, 0, none⟩)] w fun e w' => (∃ x : MValue, e = .returned (.agg #[.int .i64 (x).kind, .int .i64 (x).number, .string (x).text]) ∧ DrawnV x) ∧ Touch w w' [B] ∧ Cur w' B v := by
  have hne : w.heap.size ≠ B := by have := hC.lt; omega
  have zS := lt_of_cell s0
  have hx0 : Ext w (w.alloc (.cells #[.int .i64 0, .int .i64 0, .string ByteArray.empty] 60)) := (Ext.refl w).alloc _
  have hO : Own (w.alloc (.cells #[.int .i64 0, .int .i64 0, .string ByteArray.empty] 60)) w.heap.size 60 #[.int .i64 0, .int .i64 0, .string ByteArray.empty] := own_new w _ _
  go_enter Tryz.func72, Tryz.ntmps72
  go_wp2_with fail
  refine (l1Below_cur B v 9 _ (hC.ext hx0) (hc.ext hx0) hB (by omega) (by omega)).mono ?_
  rintro e w1 ⟨⟨m, rfl, hm⟩, hT1, hC1⟩
  replace hO := hO.touch hT1 (by simpa using hne)
  replace hc := (hc.ext hx0).touch hT1 hB
  have hT := (Touch.of_ext hx0 [B]).trans hT1
  clear hC hx0
  have hC := hC1
  clear hC1 hT1
  replace s0 := hT.cell (by simpa using hSB) s0
  replace s1 := hT.cell (by simpa using hSB) s1
  rcases (show m = 0 ∨ m = 1 ∨ (m = 2 ∨ m = 3) ∨ m = 4 ∨ m = 5 ∨ m = 6 ∨ m = 7 ∨ m = 8 by omega) with rfl | rfl | (rfl | rfl) | rfl | rfl | rfl | rfl | rfl
  · have R0 := hO.cell 0
    have R1 := hO.cell 1
    have R2 := hO.cell 2
    simp at R0 R1 R2
    have F0 := hO.frozen 0
    have F1 := hO.frozen 1
    have F2 := hO.frozen 2
    have R5 := hO.lt
    go_wp2_with fail
    refine bodyPost_ret (v := .agg #[.int .i64 0, .int .i64 0, .string ⟨#[]⟩]) (by simp [results, Tryz.results72, go_sem, R0, R1, R2]) rfl ⟨⟨⟨0, 0, ⟨#[]⟩⟩, rfl, drawn_low (by decide) (by decide) (by decide)⟩, ?_, ?_⟩
    · (repeat refine Touch.fresh ?_ (by simp) _)
      exact hT
    · (repeat refine Cur.set ?_ (by omega) _)
      exact hC
  · go_wp2_with fail
    refine (l1Once_cur B v 2 w1 hC hc hB (by omega) (by omega)).mono ?_
    rintro e w2 ⟨⟨c, rfl⟩, hTn, hCn⟩
    have hOn := hO.touch hTn (by simpa using hne)
    clear hO
    have hO := hOn
    clear hOn
    have hcn := hc.touch hTn hB
    clear hc
    have hc := hcn
    clear hcn
    have hT' := hT.trans hTn
    clear hT hC hTn
    have hT := hT'
    have hC := hCn
    clear hT' hCn
    go_wp2_with fail
    refine (l9Bool_any c _).mono ?_
    rintro e w3 ⟨rfl, hxn⟩
    replace hO := hO.ext hxn
    replace hc := hc.ext hxn
    replace hT := hT.trans (Touch.of_ext hxn _)
    replace hC := hC.ext hxn
    clear hxn
    have R0 := hO.cell 0
    have R1 := hO.cell 1
    have R2 := hO.cell 2
    simp at R0 R1 R2
    have F0 := hO.frozen 0
    have F1 := hO.frozen 1
    have F2 := hO.frozen 2
    have R5 := hO.lt
    go_wp2_with fail
    refine bodyPost_ret (v := .agg #[.int .i64 (boolV c).kind, .int .i64 (boolV c).number, .string (boolV c).text]) (by simp [results, Tryz.results72, go_sem, R0, R1, R2]) rfl ⟨⟨boolV c, rfl, (show DrawnV ⟨1, if c then 1 else 0, ⟨#[]⟩⟩ from drawn_low (by decide) (by decide) (by decide))⟩, ?_, ?_⟩
    · (repeat refine Touch.fresh ?_ (by simp) _)
      exact hT
    · (repeat refine Cur.set ?_ (by omega) _)
      exact hC
  · have hx2 : Ext w1 (w1.alloc (.cells (drInts.map (Value.int .i64)).toArray 3)) := (Ext.refl w1).alloc _
    replace hO := hO.ext hx2
    replace hc := hc.ext hx2
    replace hT := hT.trans (Touch.of_ext hx2 _)
    have hlt := hC.lt
    replace hC := hC.ext hx2
    clear hx2
    go_wp2_with fail
    refine (l1PickInt_cur B v drInts w1.heap.size 9 _ hC hc hB (by decide) (by decide) (by omega) (lit_ints w1 drInts _)).mono ?_
    rintro e w2 ⟨⟨z, rfl, hz⟩, hTn, hCn⟩
    have hOn := hO.touch hTn (by simpa using hne)
    clear hO
    have hO := hOn
    clear hOn
    have hcn := hc.touch hTn hB
    clear hc
    have hc := hcn
    clear hcn
    have hT' := hT.trans hTn
    clear hT hC hTn
    have hT := hT'
    have hC := hCn
    clear hT' hCn
    have hbd : -999999999 ≤ z ∧ z ≤ 999999999 := by
      have : ∀ z ∈ drInts, -999999999 ≤ z ∧ z ≤ 999999999 := by decide
      exact this z hz
    clear hz
    go_wp2_with fail
    refine (l9Int_any z _).mono ?_
    rintro e w3 ⟨rfl, hxn⟩
    replace hO := hO.ext hxn
    replace hc := hc.ext hxn
    replace hT := hT.trans (Touch.of_ext hxn _)
    replace hC := hC.ext hxn
    clear hxn
    have R0 := hO.cell 0
    have R1 := hO.cell 1
    have R2 := hO.cell 2
    simp at R0 R1 R2
    have F0 := hO.frozen 0
    have F1 := hO.frozen 1
    have F2 := hO.frozen 2
    have R5 := hO.lt
    go_wp2_with fail
    refine bodyPost_ret (v := .agg #[.int .i64 (intV z).kind, .int .i64 (intV z).number, .string (intV z).text]) (by simp [results, Tryz.results72, go_sem, R0, R1, R2]) rfl ⟨⟨intV z, rfl, drawn_int hbd.1 hbd.2⟩, ?_, ?_⟩
    · (repeat refine Touch.fresh ?_ (by simp) _)
      exact hT
    · (repeat refine Cur.set ?_ (by omega) _)
      exact hC
  · have hx2 : Ext w1 (w1.alloc (.cells (drInts.map (Value.int .i64)).toArray 3)) := (Ext.refl w1).alloc _
    replace hO := hO.ext hx2
    replace hc := hc.ext hx2
    replace hT := hT.trans (Touch.of_ext hx2 _)
    have hlt := hC.lt
    replace hC := hC.ext hx2
    clear hx2
    go_wp2_with fail
    refine (l1PickInt_cur B v drInts w1.heap.size 9 _ hC hc hB (by decide) (by decide) (by omega) (lit_ints w1 drInts _)).mono ?_
    rintro e w2 ⟨⟨z, rfl, hz⟩, hTn, hCn⟩
    have hOn := hO.touch hTn (by simpa using hne)
    clear hO
    have hO := hOn
    clear hOn
    have hcn := hc.touch hTn hB
    clear hc
    have hc := hcn
    clear hcn
    have hT' := hT.trans hTn
    clear hT hC hTn
    have hT := hT'
    have hC := hCn
    clear hT' hCn
    have hbd : -999999999 ≤ z ∧ z ≤ 999999999 := by
      have : ∀ z ∈ drInts, -999999999 ≤ z ∧ z ≤ 999999999 := by decide
      exact this z hz
    clear hz
    go_wp2_with fail
    refine (l9Int_any z _).mono ?_
    rintro e w3 ⟨rfl, hxn⟩
    replace hO := hO.ext hxn
    replace hc := hc.ext hxn
    replace hT := hT.trans (Touch.of_ext hxn _)
    replace hC := hC.ext hxn
    clear hxn
    have R0 := hO.cell 0
    have R1 := hO.cell 1
    have R2 := hO.cell 2
    simp at R0 R1 R2
    have F0 := hO.frozen 0
    have F1 := hO.frozen 1
    have F2 := hO.frozen 2
    have R5 := hO.lt
    go_wp2_with fail
    refine bodyPost_ret (v := .agg #[.int .i64 (intV z).kind, .int .i64 (intV z).number, .string (intV z).text]) (by simp [results, Tryz.results72, go_sem, R0, R1, R2]) rfl ⟨⟨intV z, rfl, drawn_int hbd.1 hbd.2⟩, ?_, ?_⟩
    · (repeat refine Touch.fresh ?_ (by simp) _)
      exact hT
    · (repeat refine Cur.set ?_ (by omega) _)
      exact hC
  · have hx2 : Ext w1 (w1.alloc (.cells (drTexts.map Value.string).toArray 9)) := (Ext.refl w1).alloc _
    replace hO := hO.ext hx2
    replace hc := hc.ext hx2
    replace hT := hT.trans (Touch.of_ext hx2 _)
    have hlt := hC.lt
    replace hC := hC.ext hx2
    clear hx2
    go_wp2_with fail
    refine (l1Pick_cur B v drTexts w1.heap.size 6 _ hC hc hB (by decide) (by decide) (by omega) (lit_strs w1 drTexts _)).mono ?_
    rintro e w2 ⟨⟨s, rfl, hz⟩, hTn, hCn⟩
    have hOn := hO.touch hTn (by simpa using hne)
    clear hO
    have hO := hOn
    clear hOn
    have hcn := hc.touch hTn hB
    clear hc
    have hc := hcn
    clear hcn
    have hT' := hT.trans hTn
    clear hT hC hTn
    have hT := hT'
    have hC := hCn
    clear hT' hCn
    have HD := Lib.hid (drawn_text hz)
    clear hz
    go_wp2_with fail
    refine (l9Text_any s _).mono ?_
    rintro e w3 ⟨rfl, hxn⟩
    replace hO := hO.ext hxn
    replace hc := hc.ext hxn
    replace hT := hT.trans (Touch.of_ext hxn _)
    replace hC := hC.ext hxn
    clear hxn
    have R0 := hO.cell 0
    have R1 := hO.cell 1
    have R2 := hO.cell 2
    simp at R0 R1 R2
    have F0 := hO.frozen 0
    have F1 := hO.frozen 1
    have F2 := hO.frozen 2
    have R5 := hO.lt
    go_wp2_with fail
    refine bodyPost_ret (v := .agg #[.int .i64 (textV s).kind, .int .i64 (textV s).number, .string (textV s).text]) (by simp [results, Tryz.results72, go_sem, R0, R1, R2]) rfl ⟨⟨textV s, rfl, HD.out⟩, ?_, ?_⟩
    · (repeat refine Touch.fresh ?_ (by simp) _)
      exact hT
    · (repeat refine Cur.set ?_ (by omega) _)
      exact hC
  · have hx2 : Ext w1 (w1.alloc (.cells (drSyms.map Value.string).toArray 9)) := (Ext.refl w1).alloc _
    replace hO := hO.ext hx2
    replace hc := hc.ext hx2
    replace hT := hT.trans (Touch.of_ext hx2 _)
    have hlt := hC.lt
    replace hC := hC.ext hx2
    clear hx2
    go_wp2_with fail
    refine (l1Pick_cur B v drSyms w1.heap.size 3 _ hC hc hB (by decide) (by decide) (by omega) (lit_strs w1 drSyms _)).mono ?_
    rintro e w2 ⟨⟨s, rfl, hz⟩, hTn, hCn⟩
    have hOn := hO.touch hTn (by simpa using hne)
    clear hO
    have hO := hOn
    clear hOn
    have hcn := hc.touch hTn hB
    clear hc
    have hc := hcn
    clear hcn
    have hT' := hT.trans hTn
    clear hT hC hTn
    have hT := hT'
    have hC := hCn
    clear hT' hCn
    have hss : Hid (s.size ≤ 10) := Lib.hid (by
      simp only [drSyms, List.mem_cons, List.not_mem_nil, or_false] at hz
      rcases hz with rfl | rfl | rfl <;> decide)
    clear hz
    have R0 := hO.cell 0
    have R1 := hO.cell 1
    have R2 := hO.cell 2
    simp at R0 R1 R2
    have F0 := hO.frozen 0
    have F1 := hO.frozen 1
    have F2 := hO.frozen 2
    have R5 := hO.lt
    go_wp2_with fail
    refine bodyPost_ret (v := .agg #[.int .i64 4, .int .i64 0, .string s]) (by simp [results, Tryz.results72, go_sem, R0, R1, R2]) rfl ⟨⟨⟨4, 0, s⟩, rfl, drawn_low (by decide) (by decide) hss.out⟩, ?_, ?_⟩
    · (repeat refine Touch.fresh ?_ (by simp) _)
      exact hT
    · (repeat refine Cur.set ?_ (by omega) _)
      exact hC
  · go_wp2_with fail
    refine (l1Below_cur B v 16 w1 hC hc hB (by omega) (by omega)).mono ?_
    rintro e w2 ⟨⟨j, rfl, hj⟩, hTn, hCn⟩
    have hOn := hO.touch hTn (by simpa using hne)
    clear hO
    have hO := hOn
    clear hOn
    have hcn := hc.touch hTn hB
    clear hc
    have hc := hcn
    clear hcn
    have hT' := hT.trans hTn
    clear hT hC hTn
    have hT := hT'
    have hC := hCn
    clear hT' hCn
    have R0 := hO.cell 0
    have R1 := hO.cell 1
    have R2 := hO.cell 2
    simp at R0 R1 R2
    have F0 := hO.frozen 0
    have F1 := hO.frozen 1
    have F2 := hO.frozen 2
    have R5 := hO.lt
    go_wp2_with fail
    refine bodyPost_ret (v := .agg #[.int .i64 5, .int .i64 (j : Int), .string ⟨#[]⟩]) (by simp [results, Tryz.results72, go_sem, R0, R1, R2]) rfl ⟨⟨⟨5, (j : Int), ⟨#[]⟩⟩, rfl, drawn_low (by decide) (by decide) (by decide)⟩, ?_, ?_⟩
    · (repeat refine Touch.fresh ?_ (by simp) _)
      exact hT
    · (repeat refine Cur.set ?_ (by omega) _)
      exact hC
  · go_wp2_with fail
    refine (l1Once_cur B v 3 w1 hC hc hB (by omega) (by omega)).mono ?_
    rintro e w2 ⟨⟨c, rfl⟩, hTn, hCn⟩
    have s1' := hTn.cell (by simpa using hSB) s1
    have hOn := hO.touch hTn (by simpa using hne)
    clear hO
    have hO := hOn
    clear hOn
    have hcn := hc.touch hTn hB
    clear hc
    have hc := hcn
    clear hcn
    have hT' := hT.trans hTn
    clear hT hC hTn
    have hT := hT'
    have hC := hCn
    clear hT' hCn
    cases c
    · go_wp2_with fail
      refine (l9Int_any 4 _).mono ?_
      rintro e w3 ⟨rfl, hxn⟩
      replace hO := hO.ext hxn
      replace hc := hc.ext hxn
      replace hT := hT.trans (Touch.of_ext hxn _)
      replace hC := hC.ext hxn
      clear hxn
      have R0 := hO.cell 0
      have R1 := hO.cell 1
      have R2 := hO.cell 2
      simp at R0 R1 R2
      have F0 := hO.frozen 0
      have F1 := hO.frozen 1
      have F2 := hO.frozen 2
      have R5 := hO.lt
      go_wp2_with fail
      refine bodyPost_ret (v := .agg #[.int .i64 (intV 4).kind, .int .i64 (intV 4).number, .string (intV 4).text]) (by simp [results, Tryz.results72, go_sem, R0, R1, R2]) rfl ⟨⟨intV 4, rfl, drawn_int (by decide) (by decide)⟩, ?_, ?_⟩
      · (repeat refine Touch.fresh ?_ (by simp) _)
        exact hT
      · (repeat refine Cur.set ?_ (by omega) _)
        exact hC
    · go_wp2_with fail
      refine (l1Below_cur B v 3 w2 hC hc hB (by omega) (by omega)).mono ?_
      rintro e w3 ⟨⟨j, rfl, hj⟩, hTn, hCn⟩
      have hOn := hO.touch hTn (by simpa using hne)
      clear hO
      have hO := hOn
      clear hOn
      have hcn := hc.touch hTn hB
      clear hc
      have hc := hcn
      clear hcn
      have hT' := hT.trans hTn
      clear hT hC hTn
      have hT := hT'
      have hC := hCn
      clear hT' hCn
      have R0 := hO.cell 0
      have R1 := hO.cell 1
      have R2 := hO.cell 2
      simp at R0 R1 R2
      have F0 := hO.frozen 0
      have F1 := hO.frozen 1
      have F2 := hO.frozen 2
      have R5 := hO.lt
      go_wp2_with fail
      refine bodyPost_ret (v := .agg #[.int .i64 7, .int .i64 (j : Int), .string ⟨#[]⟩]) (by simp [results, Tryz.results72, go_sem, R0, R1, R2]) rfl ⟨⟨⟨7, (j : Int), ⟨#[]⟩⟩, rfl, drawn_low (by decide) (by decide) (by decide)⟩, ?_, ?_⟩
      · (repeat refine Touch.fresh ?_ (by simp) _)
        exact hT
      · (repeat refine Cur.set ?_ (by omega) _)
        exact hC
  · go_wp2_with fail
    refine (l9Int_any 4 _).mono ?_
    rintro e w2 ⟨rfl, hxn⟩
    replace hO := hO.ext hxn
    replace hc := hc.ext hxn
    replace hT := hT.trans (Touch.of_ext hxn _)
    replace hC := hC.ext hxn
    clear hxn
    have R0 := hO.cell 0
    have R1 := hO.cell 1
    have R2 := hO.cell 2
    simp at R0 R1 R2
    have F0 := hO.frozen 0
    have F1 := hO.frozen 1
    have F2 := hO.frozen 2
    have R5 := hO.lt
    go_wp2_with fail
    refine bodyPost_ret (v := .agg #[.int .i64 (intV 4).kind, .int .i64 (intV 4).number, .string (intV 4).text]) (by simp [results, Tryz.results72, go_sem, R0, R1, R2]) rfl ⟨⟨intV 4, rfl, drawn_int (by decide) (by decide)⟩, ?_, ?_⟩
    · (repeat refine Touch.fresh ?_ (by simp) _)
      exact hT
    · (repeat refine Cur.set ?_ (by omega) _)
      exact hC

end Go.Proofs.YtdngmifgglbbpaaGreatDoor
