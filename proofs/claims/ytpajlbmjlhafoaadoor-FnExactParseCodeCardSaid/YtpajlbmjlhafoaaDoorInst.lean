/-
  CONTRACTS: none: plain facts of ParseInstr.
  Conditions: those that each lemma states.
-/
import Derived.Test.YtpajlbmjlhafoaaDoorRows
import Derived.Test.YtpajlbmjlhafoaaDoorFnInstr
import Derived.Test.YtpajlbmjlhafoaaDoorFnNums
import Derived.Test.YtpajlbmjlhafoaaDoorFnSplit
import Derived.Test.YtpajlbmjlhafoaaDoorFnJoin
import Derived.Test.YtpajlbmjlhafoaaDoorTokP
import Derived.Lib.SlicesS
import Derived.Lib.IndexMore
namespace Go.Proofs.YtpajlbmjlhafoaaDoor
open Go.RowKit
set_option linter.unusedSimpArgs false
set_option linter.unusedVariables false

theorem cutGo_sizeI (c : UInt8) : ∀ (l cur : List UInt8) (x : List UInt8), x ∈ cutGo c cur l → x.length ≤ cur.length + l.length
  | [], cur, x, h => by simp [cutGo] at h; subst h; simp
  | b :: t, cur, x, h => by
    by_cases hb : b = c
    · simp only [cutGo, hb, if_true, List.mem_cons] at h
      rcases h with rfl | h
      · simp
      · have := cutGo_sizeI c t [] x h; simp at this ⊢; omega
    · simp only [cutGo, hb, if_false] at h
      have := cutGo_sizeI c t _ x h
      simp at this ⊢; omega
theorem cutB_size {c : UInt8} {s x : ByteArray} (h : x ∈ cutB c s) : x.size ≤ s.size := by
  obtain ⟨l, hl, rfl⟩ := List.mem_map.1 h
  have := cutGo_sizeI c _ _ _ hl
  rw [mkB_size]
  simpa using this
/-- An instruction as it is read: no field without a use, numbers within ParseInt's bounds. -/
def OkI (s : ByteArray) (x : MInstr) : Prop :=
  (1 ≤ x.op ∧ x.op ≤ 26) ∧ instrB x = s ∧ (if uA x.op = true then -999999999999 ≤ x.a ∧ x.a ≤ 999999999999 else x.a = 0) ∧ (if uB x.op = true then -999999999999 ≤ x.b ∧ x.b ≤ 999999999999 else x.b = 0) ∧ (uT x.op = false → x.text = ⟨#[]⟩)
def glue : List (List UInt8) → List UInt8
  | [] => []
  | f :: r => 32 :: (f ++ glue r)
def fldA (x : MInstr) : List (List UInt8) := if uA x.op = true then [Lib.itoa x.a] else []
def fldB (x : MInstr) : List (List UInt8) := if uB x.op = true then [Lib.itoa x.b] else []
def fldT (x : MInstr) : List (List UInt8) := if uT x.op = true then [x.text.data.toList] else []
def wordL (op : Int) : List UInt8 := (wordsI.getD op.toNat ⟨#[]⟩).data.toList
theorem glue_append : ∀ a b : List (List UInt8), glue (a ++ b) = glue a ++ glue b
  | [], b => rfl
  | f :: r, b => by rw [List.cons_append, glue, glue, glue_append r b]; simp [List.append_assoc]
theorem instr_list {x : MInstr} (h : 1 ≤ x.op ∧ x.op ≤ 26) : (instrB x).data.toList = wordL x.op ++ glue (fldA x ++ (fldB x ++ fldT x)) := by
  rw [glue_append, glue_append]
  unfold instrB fldA fldB fldT wordL
  rw [if_pos h]
  have e : ∀ (b : Bool) (t : ByteArray), (if b = true then spB ++ t else ⟨#[]⟩ : ByteArray).data.toList = glue (if b = true then [t.data.toList] else []) := by
    intro b t
    cases b
    · rfl
    · simp [glue, spB]
  have e1 := e (uA x.op) (itoaB x.a)
  have e2 := e (uB x.op) (itoaB x.b)
  have e3 := e (uT x.op) x.text
  rw [itoaB_data] at e1 e2
  rw [← e1, ← e2, ← e3]
  simp [List.append_assoc]
theorem index_no {w : List UInt8} {c : UInt8} (h : c ∉ w) : Lib.index w [c] = -1 := by
  induction w with
  | nil => simp [Lib.index]
  | cons b t ih =>
    have hb : ¬ c = b := fun e => h (by rw [e]; simp)
    have hp : ([c] : List UInt8).isPrefixOf (b :: t) = false := by simp [List.isPrefixOf, hb]
    rw [Lib.index, hp, ih fun hm => h (List.mem_cons_of_mem _ hm)]
    simp
theorem index_at {w : List UInt8} {c : UInt8} (h : c ∉ w) (t : List UInt8) : Lib.index (w ++ c :: t) [c] = (w.length : Nat) := by
  induction w with
  | nil => rw [List.nil_append, Lib.index]; simp [List.isPrefixOf]
  | cons b r ih =>
    have hb : ¬ c = b := fun e => h (by rw [e]; simp)
    have hp : ([c] : List UInt8).isPrefixOf (b :: (r ++ c :: t)) = false := by simp [List.isPrefixOf, hb]
    have ih := ih fun hm => h (List.mem_cons_of_mem _ hm)
    have h1 : (((r.length : Nat) : Int) == -1) = false := int_ne (by omega)
    rw [List.cons_append, Lib.index, hp, ih, h1]
    simp
def cutH (s : ByteArray) : ByteArray := ⟨(Lib.cut s.data.toList [32]).1.toArray⟩
def cutT (s : ByteArray) : ByteArray := ⟨(Lib.cut s.data.toList [32]).2.1.toArray⟩
def cutF (s : ByteArray) : Bool := (Lib.cut s.data.toList [32]).2.2
theorem cut_glue {s : ByteArray} {w : List UInt8} {fs : List (List UInt8)} (hw : (32 : UInt8) ∉ w) (hs : s.data.toList = w ++ glue fs) : cutH s = mkB w ∧ (cutT s).data.toList = (glue fs).drop 1 := by
  unfold cutH cutT
  rw [hs]
  cases fs with
  | nil => simp [glue, Lib.cut, index_no hw, mkB]
  | cons f r =>
    simp only [glue]
    have h0 : (0 : Int) ≤ Lib.index (w ++ 32 :: (f ++ glue r)) [32] := by rw [index_at hw]; omega
    rw [Lib.cut, if_pos h0, index_at hw]
    simp [mkB, List.drop_append]
theorem itoa_no32 (n : Int) : (32 : UInt8) ∉ Lib.itoa n := by
  intro h
  unfold Lib.itoa at h
  have key : ∀ u : Nat, (32 : UInt8) ∉ Lib.decDigits u := fun u hm => by
    have := (dec_val u u (Nat.le_refl _)).1 _ hm
    have e : (32 : UInt8).toNat = 32 := rfl
    omega
  split at h
  · rcases List.mem_cons.1 h with h | h
    · cases h
    · exact key _ h
  · exact key _ h
theorem word_no32 {op : Int} (h : 1 ≤ op ∧ op ≤ 26) : (32 : UInt8) ∉ wordL op := by
  obtain ⟨k, rfl⟩ : ∃ k : Nat, op = k := ⟨op.toNat, by omega⟩
  have : ∀ k, k < 27 → (32 : UInt8) ∉ wordL (k : Nat) := by decide
  exact this k (by omega)
theorem word_idx {op : Int} (h : 1 ≤ op ∧ op ≤ 26) : Lib.idxOfS wordsI (mkB (wordL op)) = op := by
  obtain ⟨k, rfl⟩ : ∃ k : Nat, op = k := ⟨op.toNat, by omega⟩
  have : ∀ k, k < 27 → Lib.idxOfS wordsI (mkB (wordL (k : Nat))) = (k : Nat) := by decide
  exact this k (by omega)

-- The program's reading.
noncomputable abbrev PB (s : ByteArray) : Bool := numB (-999999999999) 999999999999 s
noncomputable abbrev PV (s : ByteArray) : Int := numV (-999999999999) 999999999999 s
def opI (s : ByteArray) : Int := Lib.idxOfS wordsI (cutH s)
noncomputable def okNI (b : Bool) (r : ByteArray) : Bool := if b = true then PB (cutH r) else true
noncomputable def vNI (b : Bool) (r : ByteArray) : Int := if b = true then PV (cutH r) else 0
def rNI (b : Bool) (r : ByteArray) : ByteArray := if b = true then cutT r else r
noncomputable def xI (s : ByteArray) : MInstr :=
  ⟨opI s, vNI (uA (opI s)) (cutT s), vNI (uB (opI s)) (rNI (uA (opI s)) (cutT s)), if uT (opI s) = true then rNI (uB (opI s)) (rNI (uA (opI s)) (cutT s)) else ⟨#[]⟩⟩
theorem num_ok {n : Int} (h : -999999999999 ≤ n ∧ n ≤ 999999999999) : PB (mkB (Lib.itoa n)) = true ∧ PV (mkB (Lib.itoa n)) = n :=
  num_yes (by omega) (by omega) ⟨h.1, h.2, rfl⟩
theorem num_bd {s : ByteArray} (h : PB s = true) : -999999999999 ≤ PV s ∧ PV s ≤ 999999999999 := by
  by_cases hx : ∃ n, IsNum (-999999999999) 999999999999 s n
  · obtain ⟨n, hn⟩ := hx
    have := (num_yes (by omega) (by omega) hn).2
    rw [show PV s = n from this]; exact ⟨hn.1, hn.2.1⟩
  · exact absurd ((num_no hx).1.symm.trans h) (by simp)
/-- A number of a field is read where it stands. -/
theorem num_step {b : Bool} {n : Int} {r : ByteArray} {gs : List (List UInt8)} (hb : if b = true then -999999999999 ≤ n ∧ n ≤ 999999999999 else n = 0) (hr : r.data.toList = (glue ((if b = true then [Lib.itoa n] else []) ++ gs)).drop 1) :
    okNI b r = true ∧ vNI b r = n ∧ (rNI b r).data.toList = (glue gs).drop 1 := by
  cases b
  · simp only [Bool.false_eq_true, if_false] at hb hr
    exact ⟨rfl, hb.symm, by simpa [rNI] using hr⟩
  · simp only [if_true] at hb hr
    have hr : r.data.toList = Lib.itoa n ++ glue gs := by simpa [glue] using hr
    obtain ⟨h1, h2⟩ := cut_glue (itoa_no32 n) hr
    have := num_ok hb
    simp only [okNI, vNI, rNI, if_true, h1]
    exact ⟨this.1, this.2, h2⟩
theorem impl_reads {s : ByteArray} {y : MInstr} (h : OkI s y) : opI s = y.op ∧ okNI (uA y.op) (cutT s) = true ∧ okNI (uB y.op) (rNI (uA y.op) (cutT s)) = true ∧ xI s = y := by
  obtain ⟨hop, hs, ha, hb, ht⟩ := h
  have hl : s.data.toList = wordL y.op ++ glue (fldA y ++ (fldB y ++ fldT y)) := by rw [← hs]; exact instr_list hop
  obtain ⟨h1, h2⟩ := cut_glue (word_no32 hop) hl
  have h0 : opI s = y.op := by unfold opI; rw [h1]; exact word_idx hop
  obtain ⟨a1, a2, a3⟩ := num_step (b := uA y.op) (n := y.a) (gs := fldB y ++ fldT y) ha h2
  obtain ⟨b1, b2, b3⟩ := num_step (b := uB y.op) (n := y.b) (gs := fldT y) hb a3
  refine ⟨h0, a1, b1, ?_⟩
  unfold xI
  rw [h0, a2, b2]
  obtain ⟨o, a, b, t⟩ := y
  simp only at *
  congr 1
  cases hu : uT o
  · rw [if_neg Bool.false_ne_true]; exact (ht hu).symm
  · rw [if_pos rfl]
    rw [fldT] at b3
    simp only [hu, if_true, glue, List.append_nil, List.drop_succ_cons, List.drop_zero] at b3
    rw [← mkB_data t, ← b3, mkB_data]
theorem impl_right {s : ByteArray} (h0 : 1 ≤ opI s ∧ opI s ≤ 26) (ha : okNI (uA (opI s)) (cutT s) = true) (hb : okNI (uB (opI s)) (rNI (uA (opI s)) (cutT s)) = true) (h : instrB (xI s) = s) : OkI s (xI s) := by
  have key : ∀ (b : Bool) (r : ByteArray), okNI b r = true → (if b = true then -999999999999 ≤ vNI b r ∧ vNI b r ≤ 999999999999 else vNI b r = 0) := by
    intro b r h
    cases b
    · simp [vNI]
    · simp only [if_true]
      simp only [okNI, if_true] at h
      simpa [vNI] using num_bd h
  refine ⟨h0, h, key _ _ ha, key _ _ hb, fun hu => ?_⟩
  show (if uT (opI s) = true then _ else _) = _
  rw [if_neg (by rw [show uT (opI s) = false from hu]; exact Bool.false_ne_true)]
theorem ok_uniq {s : ByteArray} {x y : MInstr} (hx : OkI s x) (hy : OkI s y) : x = y := (impl_reads hx).2.2.2.symm.trans (impl_reads hy).2.2.2

-- The reference's reading.
theorem cutGo_w {c : UInt8} : ∀ (w cur t : List UInt8), c ∉ w → cutGo c cur (w ++ c :: t) = (cur ++ w) :: cutGo c [] t
  | [], cur, t, _ => by simp [cutGo]
  | b :: r, cur, t, h => by
    have hb : ¬ b = c := fun e => h (by rw [e]; simp)
    rw [List.cons_append, cutGo, if_neg hb, cutGo_w r _ t fun hm => h (List.mem_cons_of_mem _ hm)]
    simp
theorem cutGo_end {c : UInt8} : ∀ (w cur : List UInt8), c ∉ w → cutGo c cur w = [cur ++ w]
  | [], cur, _ => by simp [cutGo]
  | b :: r, cur, h => by
    have hb : ¬ b = c := fun e => h (by rw [e]; simp)
    rw [cutGo, if_neg hb, cutGo_end r _ fun hm => h (List.mem_cons_of_mem _ hm)]
    simp
theorem join_cutGo {c : UInt8} : ∀ (t cur : List UInt8), Lib.join (cutGo c cur t) [c] = cur ++ t
  | [], cur => by simp [cutGo, Lib.join_one]
  | b :: t, cur => by
    by_cases hb : b = c
    · subst hb
      have ih := join_cutGo (c := b) t []
      obtain ⟨m, xs, e⟩ := cutGo_head b t []
      rw [cutGo, if_pos rfl]
      rw [e] at ih ⊢
      rw [Lib.join_cons] at ih
      rw [List.nil_append] at ih
      rw [List.nil_append, Lib.join_cons, show Lib.joinTail [b] (m :: xs) = b :: (m ++ Lib.joinTail [b] xs) from by simp [Lib.joinTail], ih]
      rfl
    · rw [cutGo, if_neg hb, join_cutGo t]; simp
/-- The parts of a text of fields. -/
def partsF : List (List UInt8) → List (List UInt8)
  | [] => []
  | f :: r => cutGo 32 [] (f ++ glue r)
theorem parts_cons {w : List UInt8} {fs : List (List UInt8)} (hw : (32 : UInt8) ∉ w) : cutGo 32 [] (w ++ glue fs) = w :: partsF fs := by
  cases fs with
  | nil => simp [glue, partsF, cutGo_end w [] hw]
  | cons f r => simp [glue, partsF, cutGo_w w [] _ hw]
noncomputable def okNS (b : Bool) (at' : Nat) (P : List ByteArray) : Bool := if b = true ∧ at' < P.length then PB (P.getD at' ⟨#[]⟩) else true
noncomputable def vNS (b : Bool) (at' : Nat) (P : List ByteArray) : Int := if b = true ∧ at' < P.length then PV (P.getD at' ⟨#[]⟩) else 0
def atNS (b : Bool) (at' : Nat) (P : List ByteArray) : Nat := if b = true ∧ at' < P.length then at' + 1 else at'
def tNS (b : Bool) (at' : Nat) (P : List ByteArray) : ByteArray := if b = true ∧ at' < P.length then joinB (P.drop at') ⟨#[32]⟩ else ⟨#[]⟩
theorem num_stepS {b : Bool} {n : Int} {P : List ByteArray} {k : Nat} {gs : List (List UInt8)} (hb : if b = true then -999999999999 ≤ n ∧ n ≤ 999999999999 else n = 0) (hP : P.drop k = (partsF ((if b = true then [Lib.itoa n] else []) ++ gs)).map mkB) :
    okNS b k P = true ∧ vNS b k P = n ∧ P.drop (atNS b k P) = (partsF gs).map mkB := by
  cases b
  · simp only [Bool.false_eq_true, if_false] at hb hP
    exact ⟨by simp [okNS], by simp [vNS, hb], by simpa [atNS] using hP⟩
  · simp only [if_true] at hb hP
    have hP : P.drop k = mkB (Lib.itoa n) :: (partsF gs).map mkB := by
      rw [hP, List.singleton_append, partsF, parts_cons (itoa_no32 n)]; rfl
    have hk : k < P.length := by
      have := congrArg List.length hP
      rw [List.length_drop, List.length_cons] at this; omega
    have hg : P.getD k ⟨#[]⟩ = mkB (Lib.itoa n) := by
      have h1 : (P.drop k).head? = some (mkB (Lib.itoa n)) := by rw [hP]; rfl
      rw [List.head?_drop] at h1
      rw [List.getD_eq_getElem?_getD, h1]; rfl
    have := num_ok hb
    refine ⟨by rw [okNS, if_pos ⟨rfl, hk⟩, hg]; exact this.1, by rw [vNS, if_pos ⟨rfl, hk⟩, hg]; exact this.2, ?_⟩
    rw [atNS, if_pos ⟨rfl, hk⟩, ← List.tail_drop, hP]; rfl
theorem spec_reads {s : ByteArray} {y : MInstr} (hsz : s.size ≤ 1048576) (h : OkI s y) : Lib.idxOfS wordsI ((cutB 32 s).getD 0 ⟨#[]⟩) = y.op ∧ okNS (uA y.op) 1 (cutB 32 s) = true ∧ okNS (uB y.op) (atNS (uA y.op) 1 (cutB 32 s)) (cutB 32 s) = true ∧
    vNS (uA y.op) 1 (cutB 32 s) = y.a ∧ vNS (uB y.op) (atNS (uA y.op) 1 (cutB 32 s)) (cutB 32 s) = y.b ∧ tNS (uT y.op) (atNS (uB y.op) (atNS (uA y.op) 1 (cutB 32 s)) (cutB 32 s)) (cutB 32 s) = y.text := by
  obtain ⟨hop, hs, ha, hb, ht⟩ := h
  have hl : s.data.toList = wordL y.op ++ glue (fldA y ++ (fldB y ++ fldT y)) := by rw [← hs]; exact instr_list hop
  have hP : cutB 32 s = mkB (wordL y.op) :: (partsF (fldA y ++ (fldB y ++ fldT y))).map mkB := by
    rw [cutB, hl, parts_cons (word_no32 hop)]; rfl
  have hts : uT y.op = true → y.text.size ≤ 1048576 := fun hu => by
    have := congrArg List.length hl
    rw [show s.data.toList.length = s.size from by simp, glue_append, glue_append] at this
    simp only [List.length_append, fldT, hu, if_true, glue, List.length_cons] at this
    rw [show y.text.data.toList.length = y.text.size from by simp] at this
    omega
  have h1 : (cutB 32 s).drop 1 = (partsF (fldA y ++ (fldB y ++ fldT y))).map mkB := by rw [hP]; rfl
  obtain ⟨a1, a2, a3⟩ := num_stepS (b := uA y.op) (n := y.a) (gs := fldB y ++ fldT y) ha h1
  obtain ⟨b1, b2, b3⟩ := num_stepS (b := uB y.op) (n := y.b) (gs := fldT y) hb a3
  refine ⟨by rw [hP]; exact word_idx hop, a1, b1, a2, b2, ?_⟩
  cases hu : uT y.op
  · rw [tNS, if_neg (by simp)]; exact (ht hu).symm
  · simp only [fldT, hu, if_true, partsF, glue, List.append_nil] at b3
    have hlt : atNS (uB y.op) (atNS (uA y.op) 1 (cutB 32 s)) (cutB 32 s) < (cutB 32 s).length := by
      obtain ⟨m, xs, e⟩ := cutGo_head 32 y.text.data.toList []
      rw [e] at b3
      have := congrArg List.length b3
      rw [List.length_drop] at this
      simp at this; omega
    rw [tNS, if_pos ⟨rfl, hlt⟩, b3]
    have hj : jpart ((cutGo 32 [] y.text.data.toList).map mkB) ⟨#[32]⟩ ((cutGo 32 [] y.text.data.toList).map mkB).length = y.text.data.toList := by
      rw [jpart_all, List.map_map]
      have e : ((fun x : ByteArray => x.data.toList) ∘ mkB) = id := funext fun l => by simp [mkB]
      rw [e, List.map_id]
      exact join_cutGo y.text.data.toList []
    rw [joinB, hj, if_pos (by have := hts hu; simpa using this)]
noncomputable def xS (s : ByteArray) (op : Int) : MInstr :=
  ⟨op, vNS (uA op) 1 (cutB 32 s), vNS (uB op) (atNS (uA op) 1 (cutB 32 s)) (cutB 32 s), tNS (uT op) (atNS (uB op) (atNS (uA op) 1 (cutB 32 s)) (cutB 32 s)) (cutB 32 s)⟩
theorem spec_right {s : ByteArray} {op : Int} (h0 : 1 ≤ op ∧ op ≤ 26) (ha : okNS (uA op) 1 (cutB 32 s) = true) (hb : okNS (uB op) (atNS (uA op) 1 (cutB 32 s)) (cutB 32 s) = true) (h : instrB (xS s op) = s) : OkI s (xS s op) := by
  have key : ∀ (b : Bool) (k : Nat) (P : List ByteArray), okNS b k P = true → (if b = true then -999999999999 ≤ vNS b k P ∧ vNS b k P ≤ 999999999999 else vNS b k P = 0) := by
    intro b k P h
    cases b
    · simp [vNS]
    · simp only [if_true]
      unfold okNS at h
      unfold vNS
      by_cases hk : k < P.length
      · rw [if_pos ⟨rfl, hk⟩] at h ⊢
        exact num_bd h
      · rw [if_neg fun h => hk h.2]; omega
  refine ⟨h0, h, key _ _ _ ha, key _ _ _ hb, fun hu => ?_⟩
  show tNS (uT op) _ _ = _
  rw [tNS, if_neg (by rw [show uT op = false from hu]; simp)]

end Go.Proofs.YtpajlbmjlhafoaaDoor
