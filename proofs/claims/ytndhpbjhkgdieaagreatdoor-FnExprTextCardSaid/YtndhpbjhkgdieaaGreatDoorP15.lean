/-
  RIGHT EXPRESSIONS: plain laws; parts of a slice.
  Conditions: those that each lemma states.
-/
import Derived.Test.YtndhpbjhkgdieaaGreatDoorP10
import Derived.Test.YtndhpbjhkgdieaaGreatDoorP14
namespace Go.Proofs.YtndhpbjhkgdieaaGreatDoor
open Go.RowKit
set_option maxHeartbeats 8000000
set_option maxRecDepth 100000
set_option linter.unusedSimpArgs false
set_option linter.unusedVariables false
def headOk (x : MExpr) : Prop :=
 (x.kind = 8 ∨ x.names = []) /\ (x.kind = 1 ∨ x.kind = 8 ∨ x.number = 0) /\ (1 <= x.kind /\ x.kind <= 9) /\
 (x.kind = 1 -> x.text = ⟨#[]⟩ /\ (0 <= x.number /\ x.number <= 999999999) /\ x.kids = []) /\
 (x.kind = 2 -> textB 40 x.text = true /\ x.kids = []) /\
 (x.kind = 3 -> selB x.text = true /\ x.kids = []) /\
 (x.kind = 4 -> nameB x.text = true /\ x.kids = []) /\
 (x.kind = 5 -> nameB x.text = true /\ x.kids.length = 1) /\
 (x.kind = 6 -> (x.kids.length : Int) = argsB x.text + 1 /\ 0 < x.kids.length) /\
 (x.kind = 7 -> x.text = ⟨#[]⟩ /\ 3 <= x.kids.length) /\
 (x.kind = 8 -> (∀ s, s ∈ x.names -> nameB s = true) /\ x.text = ⟨#[]⟩ /\ 0 <= x.number /\ x.number <= (x.names.length : Int)) /\
 (x.kind = 9 -> x.text = ⟨#[]⟩ /\ x.kids.length = 1)
def msgHead (m : MExpr) : Prop := m.kind = 6 /\ m.number = 0 /\ m.names = [] /\ 0 <= argsB m.text /\ (m.kids.length : Int) = argsB m.text
def lastN (x : MExpr) : Nat := if x.kind = 7 then 1 else x.kids.length
def okR : Nat -> Bool -> MExpr -> Prop
 | 0, _, _ => False
 | n + 1, st, x => (headOk x /\ (x.kind = 7 -> ∀ m, m ∈ x.kids.tail -> msgHead m /\ ∀ z, z ∈ m.kids -> okR n false z)) /\ (x.kind = 9 -> st = true) /\
  ∀ i, i < lastN x -> ∀ hk : i < x.kids.length, okR n (decide (x.kind = 8)) x.kids[i] /\ ¬ (x.kind = 8 /\ x.kids[i].kind = 9 /\ i + 1 < lastN x)
def msgsOk (n : Nat) (l : List MExpr) : Prop := ∀ m, m ∈ l -> msgHead m /\ ∀ z, z ∈ m.kids -> okR n false z
def nodeOk (n : Nat) (x : MExpr) : Prop := headOk x /\ (x.kind = 7 -> msgsOk n x.kids.tail)
theorem okR_succ {n : Nat} {st : Bool} {x : MExpr} : okR (n + 1) st x ↔ nodeOk n x /\ (x.kind = 9 -> st = true) /\
 ∀ i, i < lastN x -> ∀ hk : i < x.kids.length, okR n (decide (x.kind = 8)) x.kids[i] /\ ¬ (x.kind = 8 /\ x.kids[i].kind = 9 /\ i + 1 < lastN x) := Iff.rfl
noncomputable def prB (p : Prop) : Bool := eqB p True
theorem prB_tt {p : Prop} (h : p) : prB p = true := eqB_tt (by simp [h])
theorem prB_ff {p : Prop} (h : ¬ p) : prB p = false := eqB_ff (by simp [h])
theorem prB_iff {p : Prop} : prB p = true ↔ p := by simp [prB, eqB_iff]
theorem okR_false {n : Nat} {x : MExpr} : okR n false x ↔ x.kind ≠ 9 /\ okR n true x := by
 match n with
 | 0 => simp [okR]
 | n + 1 =>
  have a := @okR_succ n false x
  have b := @okR_succ n true x
  constructor
  · intro h
    obtain ⟨h1, h2, h3⟩ := a.1 h
    exact ⟨fun e => Bool.false_ne_true (h2 e), b.2 ⟨h1, fun _ => rfl, h3⟩⟩
  · intro h
    obtain ⟨h1, h2, h3⟩ := b.1 h.2
    exact a.2 ⟨h1, fun e => absurd e h.1, h3⟩
theorem argsB_bd (s : ByteArray) : -1 <= argsB s /\ argsB s <= 4 := by
 unfold argsB
 split
 · omega
 · split
   · omega
   · split
     · rename_i h
       simp only [kwB, Bool.and_eq_true, decide_eq_true_eq] at h
       omega
     · omega
theorem okR_plain {n : Nat} {x : MExpr} (h7 : x.kind ≠ 7) (h8 : x.kind ≠ 8) : okR (n + 1) true x ↔ headOk x /\ ∀ z, z ∈ x.kids -> okR n false z := by
 rw [okR_succ]
 have hl : lastN x = x.kids.length := by simp [lastN, h7]
 rw [hl]
 constructor
 · rintro ⟨⟨h1, -⟩, -, h3⟩
   refine ⟨h1, fun z hz => ?_⟩
   obtain ⟨i, hi, rfl⟩ := List.mem_iff_getElem.1 hz
   have := (h3 i hi hi).1
   simpa [h8] using this
 · rintro ⟨h1, h2⟩
   exact ⟨⟨h1, fun e => absurd e h7⟩, by simp, fun i hi hk => ⟨by simpa [h8] using h2 _ (List.getElem_mem hk), fun e => h8 e.1⟩⟩
theorem okR_casc {n : Nat} {x : MExpr} (h7 : x.kind = 7) : okR (n + 1) true x ↔ headOk x /\ msgsOk n x.kids.tail /\ ∀ z, z ∈ x.kids.take 1 -> okR n false z := by
 rw [okR_succ]
 have hl : lastN x = 1 := by simp [lastN, h7]
 rw [hl]
 constructor
 · rintro ⟨⟨h1, h2⟩, -, h3⟩
   refine ⟨h1, h2 h7, fun z hz => ?_⟩
   obtain ⟨i, hi, rfl⟩ := List.mem_iff_getElem.1 hz
   rw [List.length_take] at hi
   have := (h3 i (by omega) (by omega)).1
   simpa [h7] using this
 · rintro ⟨h1, h2, h3⟩
   refine ⟨⟨h1, fun _ => h2⟩, by simp, fun i hi hk => ⟨?_, fun e => by omega⟩⟩
   have := h3 x.kids[i] (List.mem_iff_getElem.2 ⟨i, by rw [List.length_take]; omega, by simp⟩)
   simpa [h7] using this
theorem okR_block {n : Nat} {x : MExpr} (h8 : x.kind = 8) : okR (n + 1) true x ↔ headOk x /\ ((∀ z, z ∈ x.kids.take (x.kids.length - 1) -> okR n false z) /\ ∀ h : 0 < x.kids.length, okR n true x.kids[x.kids.length - 1]) := by
 rw [okR_succ]
 have hl : lastN x = x.kids.length := by simp [lastN, h8]
 rw [hl]
 constructor
 · rintro ⟨⟨h1, -⟩, -, h3⟩
   refine ⟨h1, fun z hz => ?_, fun h => ?_⟩
   · obtain ⟨i, hi, rfl⟩ := List.mem_iff_getElem.1 hz
     rw [List.length_take] at hi
     have := h3 i (by omega) (by omega)
     rw [List.getElem_take]
     refine okR_false.2 ⟨fun e => this.2 ⟨h8, e, by omega⟩, ?_⟩
     simpa [h8] using this.1
   · have := (h3 (x.kids.length - 1) (by omega) (by omega)).1
     simpa [h8] using this
 · rintro ⟨h1, h2, h3⟩
   refine ⟨⟨h1, fun e => by omega⟩, by simp, fun i hi hk => ?_⟩
   by_cases he : i + 1 < x.kids.length
   · have := okR_false.1 (h2 x.kids[i] (List.mem_iff_getElem.2 ⟨i, by rw [List.length_take]; omega, by simp⟩))
     exact ⟨by simpa [h8] using this.2, fun e => this.1 e.2.1⟩
   · obtain rfl : i = x.kids.length - 1 := by omega
     exact ⟨by simpa [h8] using h3 (by omega), fun e => he e.2.2⟩
theorem bulkL_mem : ∀ {xs : List D} {x : D}, x ∈ xs -> x.bulk <= D.bulkL xs
 | y :: ys, x, h => by
  simp only [D.bulkL]
  rcases List.mem_cons.1 h with rfl | h
  · omega
  · have := bulkL_mem h; omega
theorem MExpr.bulk_eq (x : MExpr) : x.d.bulk = x.text.size + (x.names.length + D.bulkL (x.names.map .str)) + (x.kids.length + D.bulkL (x.kids.map MExpr.d)) := by
 rw [MExpr.d_eq]
 simp only [D.bulk, D.bulkL, strs, MExprs, List.length_map]
 omega
theorem MExpr.bulk_kid {x z : MExpr} (h : z ∈ x.kids) : z.d.bulk <= x.d.bulk := by
 rw [MExpr.bulk_eq x]
 have := bulkL_mem (List.mem_map_of_mem (f := MExpr.d) h)
 omega
theorem MExpr.bulk_text (x : MExpr) : x.text.size <= x.d.bulk := by rw [MExpr.bulk_eq x]; omega
theorem MExpr.bulk_name {x : MExpr} {s : ByteArray} (h : s ∈ x.names) : s.size <= x.d.bulk := by
 rw [MExpr.bulk_eq x]
 have := bulkL_mem (List.mem_map_of_mem (f := D.str) h)
 simp only [D.bulk] at this
 omega
theorem MExpr.bulk_kids (x : MExpr) : x.kids.length <= x.d.bulk := by rw [MExpr.bulk_eq x]; omega
theorem MExpr.bulk_names (x : MExpr) : x.names.length <= x.d.bulk := by rw [MExpr.bulk_eq x]; omega
theorem Rep.sl_take {w : World} {sz : Nat} {xs : List D} {ao : Option Addr} {n cap k : Nat} (h : Rep w (.sl sz xs) [.slice ao n cap]) (hk : k <= n) : Rep w (.sl sz (xs.take k)) [.slice ao k cap] := by
 obtain ⟨fp, h⟩ := h
 obtain ⟨ao', cap', hv, hl, hm, hn, hh⟩ := RepF.sl_iff.1 h
 simp only [List.cons.injEq, and_true, Value.slice.injEq] at hv
 obtain ⟨rfl, rfl, rfl⟩ := hv
 have hlen : (xs.take k).length = k := by rw [List.length_take]; omega
 rcases hh with ⟨rfl, -⟩ | ⟨b, o, cells, fp', h1, rfl, rfl, hb, h4, h5⟩
 · refine ⟨[], RepF.sl_iff.2 ⟨ao, cap, by simp at hk ⊢; exact hk, by simp, hm, hn, Or.inl ⟨by simp, rfl⟩⟩⟩
 · by_cases h0 : k = 0
   · subst h0
     exact ⟨[], RepF.sl_iff.2 ⟨some ⟨b, o, none⟩, cap, by simp, by simp, hm, by simp, Or.inl ⟨by simp, rfl⟩⟩⟩
   · obtain ⟨g1, g2, hg, r1⟩ : ∃ g1 g2, fp' = g1 ++ g2 /\ RepR w sz (xs.take k) (cells.take (k * sz)) g1 := by
      clear h h1 hm hl hn hk hlen hb h4 h0
      induction xs generalizing k cells fp' with
      | nil =>
       simp only [RepR] at h5
       obtain ⟨rfl, rfl⟩ := h5
       exact ⟨[], [], rfl, by simp [RepR]⟩
      | cons d ds ih =>
       simp only [RepR] at h5
       obtain ⟨c1, c2, f1, f2, rfl, rfl, hc, q1, q2⟩ := h5
       cases k with
       | zero => exact ⟨[], f1 ++ f2, rfl, by simp [RepR]⟩
       | succ k =>
        obtain ⟨g1, g2, rfl, r⟩ := ih (k := k) c2 f2 q2
        refine ⟨f1 ++ g1, g2, by simp, ?_⟩
        simp only [List.take_succ_cons, RepR]
        refine ⟨c1, c2.take (k * sz), f1, g1, ?_, rfl, hc, q1, r⟩
        rw [Nat.succ_mul, Nat.add_comm, List.take_append, List.take_of_length_le (by omega), show sz + k * sz - c1.length = k * sz from by omega]
     refine ⟨b :: g1, RepF.sl_iff.2 ⟨some ⟨b, o, none⟩, cap, by rw [hlen], by rw [hlen]; omega, hm, by simp, Or.inr ⟨b, o, cells.take (k * sz), g1, fun e => h0 (by rw [e] at hlen; simpa using hlen.symm), rfl, rfl, hb, fun j c hj => ?_, r1⟩⟩⟩
     rw [List.getElem?_take] at hj
     split at hj
     · exact h4 j c hj
     · cases hj
theorem Rep.sl_tail {w : World} {sz : Nat} {x : D} {xs : List D} {b o n cap : Nat} (h : Rep w (.sl sz (x :: xs)) [.slice (some ⟨b, o, none⟩) n cap]) : Rep w (.sl sz xs) [.slice (some ⟨b, o + sz, none⟩) (n - 1) (cap - 1)] := by
 obtain ⟨fp, h⟩ := h
 obtain ⟨ao', cap', hv, hl, hm, hn, hh⟩ := RepF.sl_iff.1 h
 simp only [List.cons.injEq, and_true, Value.slice.injEq] at hv
 obtain ⟨rfl, rfl, rfl⟩ := hv
 rcases hh with ⟨h0, -⟩ | ⟨b', o', cells, fp', h1, h2, rfl, hb, h4, h5⟩
 · cases h0
 · simp only [Option.some.injEq, Addr.mk.injEq, and_true] at h2
   obtain ⟨rfl, rfl⟩ := h2
   simp only [RepR] at h5
   obtain ⟨c1, c2, f1, f2, rfl, rfl, hc, q1, q2⟩ := h5
   simp only [List.length_cons] at hl
   by_cases h0 : xs = []
   · subst h0
     exact ⟨[], RepF.sl_iff.2 ⟨some ⟨b, o + sz, none⟩, cap - 1, by simp, by simp, by omega, by simp, Or.inl ⟨rfl, rfl⟩⟩⟩
   · refine ⟨b :: f2, RepF.sl_iff.2 ⟨some ⟨b, o + sz, none⟩, cap - 1, by simp, by omega, by omega, by simp, Or.inr ⟨b, o + sz, c2, f2, h0, rfl, rfl, hb, fun j c hj => ?_, q2⟩⟩⟩
     have := h4 (sz + j) c (by rw [List.getElem?_append_right (by omega), show sz + j - c1.length = j from by omega]; exact hj)
     rwa [<- Nat.add_assoc] at this
theorem l3Left_lt : ∀ (n : Nat) (x : MExpr) (l : Int) (cx : List Value) (w : World), SizeOf.sizeOf x < n -> x.size <= 1048577 -> 0 <= l -> l <= 300 -> Rep w x.d cx ->
 Calls Tryz.prog 18 #[.agg cx.toArray, .int .i64 l] w fun e w' => (∃ r : Int, e = .returned (.int .i64 r) /\ -1 <= r /\ r <= 300 /\ ((x.size : Int) <= l -> r = l - x.size) /\ (l < x.size -> r = -1)) /\ Ext w w' := by
 intro n
 induction n with
 | zero => intro x l cx w h; omega
 | succ n ih =>
  intro x l cx w hn hsz hl0 hl1 rx
  obtain ⟨an, cn, ak, ck, rfl, -, sx⟩ := MExpr.op_en rx
  have hk : Hid (∀ z, z ∈ x.kids -> SizeOf.sizeOf z < n) := LH fun z hz => by have := MExpr.kid_lt hz; omega
  clear rx hn
  have IH := LH ih; clear ih
  obtain ⟨ao, ca, ba, oa, h1, hla, hma, pa, ha⟩ := Rep.slmap sx
  simp only [List.cons.injEq, and_true, Value.slice.injEq] at h1
  obtain ⟨rfl, -, rfl⟩ := h1
  clear sx
  unfold maxLen at hma
  rw [MExpr.size_eq] at hsz ⊢
  have Hsz := LH hsz; clear hsz
  go_enter Tryz.func18, Tryz.ntmps18
  go_wp2_with fail
  go_loopw [1, 5] (fun v i wr => ∃ (k : Nat) (q : Int), k <= x.kids.length /\ i = .int .i64 k /\ v = .int .i64 q /\ -1 <= q /\ q <= 300 /\ Ext w wr /\ wr.cell? ⟨w.heap.size, 4, none⟩ = some (.slice ak x.kids.length ck) /\ Hid ((((1 + MExpr.sizeL (x.kids.take k) : Nat) : Int) <= l -> q = l - (1 + MExpr.sizeL (x.kids.take k) : Nat)) /\ (l < (1 + MExpr.sizeL (x.kids.take k) : Nat) -> q = -1))) (fun _ i _ => x.kids.length - (intOf i).toNat)
  case atStart => exact ⟨0, l - 1, Nat.zero_le _, rfl, rfl, by omega, by omega, (XR w).alloc _, by simp, LH (by simp [MExpr.sizeL]; omega)⟩
  case round =>
   obtain ⟨k, q, hk', rfl, rfl, hq0, hq1, hx, m0, hq'⟩ := hrel
   by_cases hlt : k < x.kids.length
   · by_cases hq2 : 0 <= q
     · obtain rfl := pa (by omega)
       obtain ⟨ea, la, c1, ra⟩ := ha k x.kids[k] (by simp [hlt])
       obtain ⟨aa0, cc0, aa1, cc1, rfl, -, -⟩ := MExpr.op_en ra
       have a0 := hx.cell (show w.cell? ⟨ba, oa + k * 5, none⟩ = some _ from c1 0 (by omega))
       have a1 := hx.cell (show w.cell? ⟨ba, oa + k * 5 + 1, none⟩ = some _ from c1 1 (by omega))
       have a2 := hx.cell (show w.cell? ⟨ba, oa + k * 5 + 2, none⟩ = some _ from c1 2 (by omega))
       have a3 := hx.cell (show w.cell? ⟨ba, oa + k * 5 + 3, none⟩ = some _ from c1 3 (by omega))
       have a4 := hx.cell (show w.cell? ⟨ba, oa + k * 5 + 4, none⟩ = some _ from c1 4 (by omega))
       clear c1 la ha pa
       have hs3 : x.kids[k].size <= 1048577 := by have := MExpr.size_mem (List.getElem_mem hlt); have := Hsz.out; omega
       have HS := LH (MExpr.sizeL_succ hlt)
       go_wp2_with fail
       refine (IH.out x.kids[k] q _ wr (hk.out _ (List.getElem_mem hlt)) hs3 hq2 hq1 (Rep.ext hx ra)).mono ?_
       clear a0 a1 a2 a3 a4
       rintro e w2 ⟨⟨r, rfl, hr0, hr1, hr2, hr3⟩, hx2⟩
       have HR := LH (And.intro hr2 hr3); clear hr2 hr3
       go_wp2_with fail
       go_roundw
       case rel => exact ⟨k + 1, r, by omega, by go_num, rfl, hr0, hr1, hx.trans hx2, Ext.cell hx2 m0, LH (by
        have h1 := HS.out; have h2 := HR.out; have h3 := hq'.out
        rw [h1]
        generalize MExpr.sizeL (x.kids.take k) = A at *
        generalize x.kids[k].size = B at *
        constructor
        · intro h
          have := h3.1 (by omega); have := h2.1 (by omega); omega
        · intro h
          by_cases h5 : ((1 + A : Nat) : Int) <= l
          · have := h3.1 h5; exact h2.2 (by omega)
          · have := h3.2 (by omega); omega)⟩
       case measure => simp [intOf]; omega
     · have f0 : q < 0 := by omega
       go_wp2_with fail
       go_ret
       have hsz2 := MExpr.sizeL_take x.kids k
       have h3 := hq'.out
       exact ⟨⟨q, rfl, hq0, hq1, fun h => by have := h3.1 (by omega); omega, fun h => by omega⟩, hx⟩
   · go_wp2_with fail
     go_ret
     obtain rfl : k = x.kids.length := by omega
     have h3 := hq'.out
     rw [List.take_length] at h3
     exact ⟨⟨q, rfl, hq0, hq1, h3.1, h3.2⟩, hx⟩
end Go.Proofs.YtndhpbjhkgdieaaGreatDoor
