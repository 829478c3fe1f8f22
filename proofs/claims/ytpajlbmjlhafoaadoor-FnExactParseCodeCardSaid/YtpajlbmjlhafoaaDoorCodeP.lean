/-
  CONTRACTS: none: plain facts of ParseCode.
  Conditions: those that each lemma states.
-/
import Derived.Test.YtpajlbmjlhafoaaDoorRows
import Derived.Test.YtpajlbmjlhafoaaDoorInst
import Derived.Test.YtpajlbmjlhafoaaDoorFnCodeText
namespace Go.Proofs.YtpajlbmjlhafoaaDoor
open Go.RowKit
set_option linter.unusedSimpArgs false
set_option linter.unusedVariables false

/-- A head line as it is read. -/
def HeadOk (h : ByteArray) (b : Bool) (p s : Int) : Prop := headB ⟨b, p, s, []⟩ = h ∧ (-999999999999 ≤ p ∧ p ≤ 999999999999) ∧ (-999999999999 ≤ s ∧ s ≤ 999999999999)
/-- Lines as they are read. -/
def OkIs (t : List ByteArray) (r : List MInstr) : Prop := t.length = r.length ∧ ∀ (i : Nat) s x, t[i]? = some s → r[i]? = some x → OkI s x
def OkC (L : List ByteArray) (x : MCode) : Prop := ∃ h t, L = h :: t ∧ HeadOk h x.block x.params x.slots ∧ OkIs t x.instrs
theorem okIs_nil : OkIs [] [] := ⟨rfl, fun i s x h => by simp at h⟩
theorem okIs_snoc {t : List ByteArray} {r : List MInstr} {s : ByteArray} {y : MInstr} (h : OkIs t r) (hy : OkI s y) : OkIs (t ++ [s]) (r ++ [y]) := by
  obtain ⟨h1, h2⟩ := h
  refine ⟨by simp [h1], fun i s' x hs hx => ?_⟩
  by_cases hi : i < t.length
  · rw [List.getElem?_append_left hi] at hs
    rw [List.getElem?_append_left (by omega)] at hx
    exact h2 i s' x hs hx
  · rw [List.getElem?_append_right (by omega)] at hs hx
    obtain ⟨k, hk⟩ : ∃ k, k = i - t.length := ⟨_, rfl⟩
    rw [← hk] at hs
    rw [← h1, ← hk] at hx
    match k with
    | 0 => simp at hs hx; subst hs hx; exact hy
    | k + 1 => simp at hs
theorem okIs_step {t : List ByteArray} {r : List MInstr} {k : Nat} {y : MInstr} (h : OkIs (t.take k) r) (hk : k < t.length) (hy : OkI t[k] y) : OkIs (t.take (k + 1)) (r ++ [y]) := by
  rw [List.take_succ_eq_append_getElem hk]
  exact okIs_snoc h hy
theorem okIs_uniq {t : List ByteArray} {r q : List MInstr} (h : OkIs t r) (k : OkIs t q) : r = q := by
  refine List.ext_getElem? fun i => ?_
  by_cases hi : i < t.length
  · have hr : i < r.length := by have := h.1; omega
    have hq : i < q.length := by have := k.1; omega
    rw [List.getElem?_eq_getElem hr, List.getElem?_eq_getElem hq]
    congr 1
    exact ok_uniq (h.2 i t[i] _ (List.getElem?_eq_getElem hi) (List.getElem?_eq_getElem hr)) (k.2 i t[i] _ (List.getElem?_eq_getElem hi) (List.getElem?_eq_getElem hq))
  · rw [List.getElem?_eq_none_iff.2 (by have := h.1; omega), List.getElem?_eq_none_iff.2 (by have := k.1; omega)]
theorem okC_line {h : ByteArray} {t : List ByteArray} {x : MCode} (hx : OkC (h :: t) x) {k : Nat} (hk : k < t.length) : ∃ y, OkI t[k] y := by
  obtain ⟨h', t', e, -, h1, h2⟩ := hx
  injection e with e1 e2
  subst e1 e2
  have hr : k < x.instrs.length := by omega
  exact ⟨x.instrs[k], h2 k _ _ (List.getElem?_eq_getElem hk) (List.getElem?_eq_getElem hr)⟩
theorem okC_head {h : ByteArray} {t : List ByteArray} {x : MCode} (hx : OkC (h :: t) x) : HeadOk h x.block x.params x.slots := by
  obtain ⟨h', t', e, h1, -⟩ := hx
  injection e with e1 e2
  subst e1 e2
  exact h1
theorem okC_nil {x : MCode} (hx : OkC [] x) : False := by
  obtain ⟨h', t', e, -⟩ := hx
  cases e
theorem code_no32 (b : Bool) : (32 : UInt8) ∉ (codeW b).data.toList := by cases b <;> decide
theorem head_list (b : Bool) (p s : Int) : (headB ⟨b, p, s, []⟩).data.toList = (codeW b).data.toList ++ glue [Lib.itoa p, Lib.itoa s] := by
  simp only [headB, glue, spB, List.append_nil]
  rw [← itoaB_data p, ← itoaB_data s]
  simp [List.append_assoc]
theorem head_parts {h : ByteArray} {b : Bool} {p s : Int} (hh : HeadOk h b p s) : cutB 32 h = [codeW b, itoaB p, itoaB s] := by
  rw [cutB, ← hh.1, head_list, parts_cons (code_no32 b), partsF, parts_cons (itoa_no32 p), partsF]
  have e := parts_cons (fs := []) (itoa_no32 s)
  rw [glue] at e
  rw [glue, e, partsF]
  simp only [List.map_cons, List.map_nil]
  congr 1
theorem num_itoa {n : Int} (h : -999999999999 ≤ n ∧ n ≤ 999999999999) : PB (itoaB n) = true ∧ PV (itoaB n) = n := num_yes (by omega) (by omega) ⟨h.1, h.2, rfl⟩
theorem codeW_inj {a b : Bool} (h : codeW a = codeW b) : a = b := by
  cases a <;> cases b
  · rfl
  · have := congrArg ByteArray.size h; cases this
  · have := congrArg ByteArray.size h; cases this
  · rfl
theorem head_uniq {h : ByteArray} {b c : Bool} {p s q t : Int} (h1 : HeadOk h b p s) (h2 : HeadOk h c q t) : b = c ∧ p = q ∧ s = t := by
  have e := (head_parts h1).symm.trans (head_parts h2)
  simp only [List.cons.injEq, and_true] at e
  obtain ⟨e1, e2, e3⟩ := e
  exact ⟨codeW_inj e1, (num_itoa h1.2.1).2.symm.trans (by rw [e2]; exact (num_itoa h2.2.1).2), (num_itoa h1.2.2).2.symm.trans (by rw [e3]; exact (num_itoa h2.2.2).2)⟩
theorem okC_uniq {L : List ByteArray} {x y : MCode} (hx : OkC L x) (hy : OkC L y) : x = y := by
  obtain ⟨h, t, e, h1, h2⟩ := hx
  obtain ⟨h', t', e', k1, k2⟩ := hy
  rw [e] at e'
  injection e' with e1 e2
  subst e1 e2
  obtain ⟨b1, b2, b3⟩ := head_uniq h1 k1
  have b4 := okIs_uniq h2 k2
  cases x; cases y
  simp only at b1 b2 b3 b4
  subst b1 b2 b3 b4
  rfl
def bcodeW : ByteArray := ⟨#[98, 108, 111, 99, 107, 99, 111, 100, 101]⟩
theorem codeW_tt {b : Bool} : codeW b = bcodeW ↔ b = true := by
  cases b
  · constructor
    · intro h; have := congrArg ByteArray.size h; cases this
    · intro h; cases h
  · exact ⟨fun _ => rfl, fun _ => rfl⟩
def pfxL : List UInt8 := [98, 108, 111, 99, 107, 99, 111, 100, 101, 32]
def pfxC (h : ByteArray) : Bool := Lib.hasPrefix h.data.toList pfxL
theorem head_pfx {h : ByteArray} {b : Bool} {p s : Int} (hh : HeadOk h b p s) : pfxC h = b := by
  rw [pfxC, ← hh.1, head_list]
  cases b
  · simp [codeW, glue, pfxL, Lib.hasPrefix]
    rfl
  · simp [codeW, glue, pfxL, Lib.hasPrefix]
/-- What the reference reads out of a head of three parts. -/
theorem spec_head {h : ByteArray} {b : Bool} {p s : Int} (hh : HeadOk h b p s) : (cutB 32 h).length = 3 ∧ eqB ((cutB 32 h).getD 0 ⟨#[]⟩) bcodeW = b ∧ PV ((cutB 32 h).getD 1 ⟨#[]⟩) = p ∧ PV ((cutB 32 h).getD 2 ⟨#[]⟩) = s ∧ PB ((cutB 32 h).getD 1 ⟨#[]⟩) = true ∧ PB ((cutB 32 h).getD 2 ⟨#[]⟩) = true := by
  rw [head_parts hh]
  refine ⟨rfl, ?_, (num_itoa hh.2.1).2, (num_itoa hh.2.2).2, (num_itoa hh.2.1).1, (num_itoa hh.2.2).1⟩
  show eqB (codeW b) bcodeW = b
  rw [Bool.eq_iff_iff, eqB_iff]
  exact codeW_tt
theorem pv_bd (s : ByteArray) : -999999999999 ≤ PV s ∧ PV s ≤ 999999999999 := by
  by_cases hx : ∃ n, IsNum (-999999999999) 999999999999 s n
  · obtain ⟨n, hn⟩ := hx
    have e : PV s = n := (num_yes (by omega) (by omega) hn).2
    have := hn.1; have := hn.2.1
    omega
  · have e : PV s = 0 := (num_no hx).2
    omega
theorem okI_bulk {s : ByteArray} {x : MInstr} (h : OkI s x) : x.text.size ≤ s.size := by
  obtain ⟨hop, hs, ha, hb, ht⟩ := h
  cases hu : uT x.op
  · rw [ht hu]; exact Nat.zero_le _
  · have hl : s.data.toList = wordL x.op ++ glue (fldA x ++ (fldB x ++ fldT x)) := by rw [← hs]; exact instr_list hop
    have := congrArg List.length hl
    rw [show s.data.toList.length = s.size from by simp, glue_append, glue_append] at this
    simp only [List.length_append, fldT, hu, if_true, glue, List.length_cons] at this
    rw [show x.text.data.toList.length = x.text.size from by simp] at this
    omega
theorem okI_bd {s : ByteArray} {x : MInstr} (h : OkI s x) (hs : s.size ≤ 1048576) : x.d.ok := by
  have hb := okI_bulk h
  obtain ⟨hop, -, h2, h3, -⟩ := h
  rw [MInstr.d_eq]
  simp only [D.ok, D.okL, and_true]
  refine ⟨by omega, ?_, ?_, by omega⟩
  · revert h2; split <;> intro h2 <;> omega
  · revert h3; split <;> intro h3 <;> omega
theorem okIs_bulk : ∀ {t : List ByteArray} {r : List MInstr}, OkIs t r → D.bulkL (r.map MInstr.d) ≤ D.bulkL (t.map .str)
  | [], [], _ => by simp
  | [], y :: r, h => by have := h.1; simp at this
  | s :: t, [], h => by have := h.1; simp at this
  | s :: t, y :: r, h => by
    have h1 := okI_bulk (h.2 0 s y (by simp) (by simp))
    have h2 := okIs_bulk (t := t) (r := r) ⟨by have := h.1; simpa using this, fun i s x hs hx => h.2 (i + 1) s x (by simpa using hs) (by simpa using hx)⟩
    simp only [List.map_cons, D.bulkL, D.bulk]
    rw [MInstr.d_eq y]
    simp only [D.bulk, D.bulkL]
    omega
theorem okIs_ok {t : List ByteArray} {r : List MInstr} (h : OkIs t r) (hs : ∀ s, s ∈ t → s.size ≤ 1048576) : D.okL (r.map MInstr.d) := by
  have key : ∀ l : List D, (∀ d, d ∈ l → d.ok) → D.okL l := by
    intro l
    induction l with
    | nil => intro _; simp [D.okL]
    | cons d ds ih =>
      intro h
      simp only [D.okL]
      exact ⟨h d (by simp), ih fun x hx => h x (by simp [hx])⟩
  refine key _ fun d hd => ?_
  obtain ⟨x, hx, rfl⟩ := List.mem_map.1 hd
  obtain ⟨i, hi, rfl⟩ := List.mem_iff_getElem.1 hx
  have ht : i < t.length := by have := h.1; omega
  exact okI_bd (h.2 i t[i] _ (List.getElem?_eq_getElem ht) (List.getElem?_eq_getElem hi)) (hs _ (List.getElem_mem ht))
theorem okIs_code {t : List ByteArray} {r : List MInstr} {h : ByteArray} {b : Bool} {p s : Int} (hr : OkIs t r) (hb : (strs (h :: t)).bulk ≤ 1048576) (hp : -999999999999 ≤ p ∧ p ≤ 999999999999) (hs : -999999999999 ≤ s ∧ s ≤ 999999999999) :
    (MCode.mk b p s r).d.bulk ≤ 1048576 ∧ (MCode.mk b p s r).d.ok := by
  have h1 := okIs_bulk hr
  have h2 := hr.1
  simp only [strs, D.bulk, List.map_cons, List.length_cons, List.length_map, D.bulkL] at hb
  have hz : ∀ s, s ∈ t → s.size ≤ 1048576 := fun s hs => by
    have := D.bulkL_mem (List.mem_map_of_mem (f := D.str) hs)
    simp only [D.bulk] at this
    omega
  rw [MCode.d_eq]
  simp only [D.bulk, D.bulkL, MInstrs, D.ok, D.okL, and_true, List.length_map, true_and]
  exact ⟨by omega, by omega, by omega, okIs_ok hr hz⟩
def zeroC : MCode := ⟨false, 0, 0, []⟩
/-- A code, and whether it is one. -/
def GivesC (w : World) (L : List ByteArray) (e : Ending) (w' : World) : Prop :=
  ∃ (x : MCode) (b : Bool) (ao : Option Addr) (cap : Nat) (fp : List Nat), e = .returned (.tuple #[.agg #[.bool x.block, .int .i64 x.params, .int .i64 x.slots, .slice ao x.instrs.length cap], .bool b]) ∧
    RepF w' (MInstrs x.instrs) [.slice ao x.instrs.length cap] fp ∧ Fresh w' w.heap.size fp ∧ (b = true → OkC L x) ∧ (b = false → x = zeroC ∧ ¬ ∃ y, OkC L y) ∧ Ext w w'
theorem code_one {L : List ByteArray} {x y : MCode} {a b : Bool} (h1 : a = true → OkC L x) (h2 : a = false → x = zeroC ∧ ¬ ∃ y, OkC L y) (k1 : b = true → OkC L y) (k2 : b = false → y = zeroC ∧ ¬ ∃ y, OkC L y) : x = y ∧ a = b := by
  cases a <;> cases b
  · exact ⟨(h2 rfl).1.trans (k2 rfl).1.symm, rfl⟩
  · exact absurd ⟨_, k1 rfl⟩ (h2 rfl).2
  · exact absurd ⟨_, h1 rfl⟩ (k2 rfl).2
  · exact ⟨okC_uniq (h1 rfl) (k1 rfl), rfl⟩

end Go.Proofs.YtpajlbmjlhafoaaDoor
