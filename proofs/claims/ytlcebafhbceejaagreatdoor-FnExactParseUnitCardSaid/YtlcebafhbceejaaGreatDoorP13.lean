/-
  SEVERAL TEXTS IN ONE: CONTRACTS: none: plain facts of Tokens: the token at the head, and all of them; PLAIN: how much a parsed tree holds: no more than its tokens; PLAIN: what the parsers need of the tokens: only numbers bear a number, keywords are not empty, and how long the texts are; RIGHT EXPRESSIONS: plain laws; parts of a slice.
  Conditions: those that each lemma states.
-/
import Derived.Test.YtlcebafhbceejaaGreatDoorRows
import Derived.Test.YtlcebafhbceejaaGreatDoorP11
import Derived.Test.YtlcebafhbceejaaGreatDoorP12
import Derived.Test.YtlcebafhbceejaaGreatDoorP09
namespace Go.Proofs.YtlcebafhbceejaaGreatDoor
open Go.RowKit
set_option maxHeartbeats 8000000
set_option maxRecDepth 100000
set_option linter.unusedSimpArgs false
set_option linter.unusedVariables false
noncomputable def symT (l : List UInt8) : MToken × Nat := if (selT l).2 = 0 then noTok else ((selT l).1, (selT l).2 + 1)
noncomputable def opT (l : List UInt8) : MToken × Nat :=
 if firstP opsL (mkB l) = ⟨#[]⟩ then (if firstP marksL (mkB l) = ⟨#[]⟩ then noTok else (⟨7, firstP marksL (mkB l), 0⟩, (firstP marksL (mkB l)).size)) else (⟨6, firstP opsL (mkB l), 0⟩, (firstP opsL (mkB l)).size)
noncomputable def tokC (b : UInt8) (l : List UInt8) : MToken × Nat :=
 if ltrB (b.toNat : Int) = true then nameT l else if dgtB (b.toNat : Int) = true then numT l else if b = 39 then quoT l else if b = 35 then symT (l.drop 1) else opT l
noncomputable def tokL (l : List UInt8) : MToken × Nat := tokC (l.headD 0) l
def quN : List UInt8 -> Nat
 | [] => 0
 | b :: t => if b = 34 then 0 else quN t + 1
theorem quN_le : ∀ l : List UInt8, quN l <= l.length
 | [] => Nat.le_refl _
 | b :: t => by
  rw [quN, List.length_cons]
  have := quN_le t
  split <;> omega
theorem indexByte_quN : ∀ l : List UInt8, Lib.indexByte l 34 = if quN l < l.length then ((quN l : Nat) : Int) else -1
 | [] => by simp [Lib.indexByte, quN]
 | b :: t => by
  have ih := indexByte_quN t
  by_cases hb : b = 34
  · subst hb; simp [Lib.indexByte, quN]
  · have hb' : (b == 34) = false := by simpa using hb
    have hq : quN (b :: t) = quN t + 1 := by rw [quN, if_neg hb]
    by_cases hl : quN t < t.length
    · rw [if_pos hl] at ih
      have h1 : (((quN t : Nat) : Int) == -1) = false := int_ne (by omega)
      rw [hq, if_pos (by rw [List.length_cons]; omega)]
      simp [Lib.indexByte, hb', ih, h1]
    · rw [if_neg hl] at ih
      rw [hq, if_neg (by rw [List.length_cons]; omega)]
      simp [Lib.indexByte, hb', ih]
noncomputable def scanL : List UInt8 -> List MToken -> Option (List MToken)
 | [], acc => some acc
 | b :: t, acc =>
  if b = 32 ∨ b = 10 ∨ b = 9 then scanL t acc
  else if b = 34 then (if quN t < t.length then scanL (t.drop (quN t + 1)) acc else none)
  else if h : (tokL (b :: t)).2 = 0 ∨ 800 <= acc.length then none
  else scanL ((b :: t).drop (tokL (b :: t)).2) (acc ++ [(tokL (b :: t)).1])
termination_by l => l.length
decreasing_by
 · simp
 · simp; omega
 · simp; omega
theorem scan_nil (acc : List MToken) : scanL [] acc = some acc := by rw [scanL]
theorem scan_blank {b : UInt8} {t : List UInt8} {acc : List MToken} (h : b = 32 ∨ b = 10 ∨ b = 9) : scanL (b :: t) acc = scanL t acc := by rw [scanL, if_pos h]
theorem blank_ne {b : UInt8} (h : b = 34) : ¬ (b = 32 ∨ b = 10 ∨ b = 9) := by subst h; decide
theorem scan_note {t : List UInt8} {acc : List MToken} (h : quN t < t.length) : scanL (34 :: t) acc = scanL (t.drop (quN t + 1)) acc := by rw [scanL, if_neg (blank_ne rfl), if_pos rfl, if_pos h]
theorem scan_open {t : List UInt8} {acc : List MToken} (h : ¬ quN t < t.length) : scanL (34 :: t) acc = none := by rw [scanL, if_neg (blank_ne rfl), if_pos rfl, if_neg h]
theorem scan_bad {b : UInt8} {t : List UInt8} {acc : List MToken} (h1 : ¬ (b = 32 ∨ b = 10 ∨ b = 9)) (h2 : ¬ b = 34) (h : (tokL (b :: t)).2 = 0 ∨ 800 <= acc.length) : scanL (b :: t) acc = none := by rw [scanL, if_neg h1, if_neg h2, dif_pos h]
theorem scan_tok {b : UInt8} {t : List UInt8} {acc : List MToken} (h1 : ¬ (b = 32 ∨ b = 10 ∨ b = 9)) (h2 : ¬ b = 34) (h : ¬ ((tokL (b :: t)).2 = 0 ∨ 800 <= acc.length)) : scanL (b :: t) acc = scanL ((b :: t).drop (tokL (b :: t)).2) (acc ++ [(tokL (b :: t)).1]) := by rw [scanL, if_neg h1, if_neg h2, dif_neg h]
theorem firstP_le : ∀ (l : List ByteArray) (s : ByteArray), (firstP l s).size <= s.size
 | [], s => Nat.zero_le _
 | a :: r, s => by
  cases hp : Lib.hasPrefix s.data.toList a.data.toList
  · have : firstP (a :: r) s = firstP r s := by simp [firstP, hp]
    rw [this]; exact firstP_le r s
  · have : firstP (a :: r) s = a := by simp [firstP, hp]
    rw [this]
    have h := (List.isPrefixOf_iff_prefix.1 (show a.data.toList.isPrefixOf s.data.toList = true from hp)).length_le
    simpa using h
theorem size_zero {s : ByteArray} (h : s.size = 0) : s = ⟨#[]⟩ := ByteArray.ext (by apply Array.eq_empty_of_size_eq_zero; exact h)
theorem dig_le : ∀ l : List UInt8, digN l <= l.length
 | [] => Nat.le_refl _
 | c :: r => by
  have := dig_le r
  rw [digN, List.length_cons]
  split <;> omega
theorem quo_le : ∀ (m : Nat) (l acc : List UInt8) (n : Nat), l.length <= m -> (quoL acc n l).2 <= n + l.length
 | 0, l, acc, n, h => by
  have : l = [] := List.length_eq_zero_iff.1 (by omega)
  subst this
  simp [quoL]
 | m + 1, [], acc, n, h => by simp [quoL]
 | m + 1, [b], acc, n, h => by
  by_cases hb : b = 39 <;> simp [quoL, hb]
 | m + 1, b :: c :: t, acc, n, h => by
  by_cases hb : b = 39
  · subst hb
    by_cases hc : c = 39
    · subst hc
      rw [quo_qq]
      have := quo_le m t (acc ++ [39]) (n + 2) (by simp at h; omega)
      simp only [List.length_cons]; omega
    · rw [quo_q _ _ _ _ hc]; simp only [List.length_cons]; omega
  · rw [quo_o _ _ _ _ hb]
    have := quo_le m (c :: t) (acc ++ [b]) (n + 1) (by simp at h ⊢; omega)
    simp only [List.length_cons] at this ⊢; omega
theorem symB_le (l : List UInt8) : (symB l).size <= l.length := by
 unfold symB
 split
 · rw [mkB_size, List.length_take]; omega
 · have := firstP_le opsL (mkB l)
   rwa [mkB_size] at this
theorem selT_le (l : List UInt8) : (selT l).2 <= l.length := by
 rw [sel_sym]
 split
 · exact symB_le l
 · simp [noTok]
theorem name_le (l : List UInt8) : (nameT l).2 <= l.length := by
 unfold nameT
 split
 · rename_i h
   have h1 := colL_pos h
   rw [List.length_drop] at h1
   split
   · simp only; omega
   · simp [noTok]
 · have := runL_le l
   split
   · exact this
   · split
     · exact this
     · simp [noTok]
theorem tok_le (l : List UInt8) : (tokL l).2 <= l.length := by
 unfold tokL tokC
 split
 · exact name_le l
 · split
   · unfold numT
     split
     · simp [noTok]
     · split
       · simp [noTok]
       · exact dig_le l
   · split
     · rename_i h
       have hl : 1 <= l.length := by
        cases l with
        | nil => simp at h
        | cons _ _ => simp
       unfold quoT
       split
       · simp [noTok]
       · split
         · have := quo_le _ (l.drop 1) [] 1 (Nat.le_refl _)
           rw [List.length_drop] at this
           simp only; omega
         · simp [noTok]
     · split
       · rename_i h
         have hl : 1 <= l.length := by
          cases l with
          | nil => simp at h
          | cons _ _ => simp
         unfold symT
         split
         · simp [noTok]
         · have := selT_le (l.drop 1)
           rw [List.length_drop] at this
           simp only; omega
       · unfold opT
         have h1 := firstP_le opsL (mkB l)
         have h2 := firstP_le marksL (mkB l)
         rw [mkB_size] at h1 h2
         split
         · split
           · simp [noTok]
           · exact h2
         · exact h1
def TokK (x : MToken × Nat) : Prop := (x.2 = 0 -> x.1 = noTok.1) /\ (x.2 ≠ 0 -> x.1.kind ≠ 0)
theorem TokK.none : TokK noTok := ⟨fun _ => rfl, fun h => absurd rfl h⟩
theorem sel_k (l : List UInt8) : TokK (selT l) := by
 unfold selT
 split
 · split
   · split
     · rename_i h2 h3
       refine ⟨fun h => ?_, fun _ => by simp⟩
       have h0 : symN l = 0 := h
       have hr := run_ltr h2
       unfold symN at h0
       rw [if_neg hr] at h0
       split at h0
       · rename_i h4
         rw [kw_yes hr h4] at h0; omega
       · exact absurd h0 hr
     · exact TokK.none
   · exact TokK.none
 · rename_i h
   exact ⟨fun h0 => absurd (size_zero h0) h, fun _ => by simp⟩
theorem name_k {l : List UInt8} (h : headLtr l = true) : TokK (nameT l) := by
 have hr := run_ltr h
 unfold nameT
 split
 · split
   · exact ⟨fun h => by simp at h, fun _ => by simp⟩
   · exact TokK.none
 · split
   · exact ⟨fun h => absurd h hr, fun _ => by simp⟩
   · split
     · exact ⟨fun h => absurd h hr, fun _ => by simp⟩
     · exact TokK.none
theorem num_k {l : List UInt8} (h : digN l ≠ 0) : TokK (numT l) := by
 unfold numT
 split
 · exact TokK.none
 · split
   · exact TokK.none
   · exact ⟨fun h0 => absurd h0 h, fun _ => by simp⟩
theorem quo_k (l : List UInt8) : TokK (quoT l) := by
 unfold quoT
 split
 · exact TokK.none
 · rename_i h
   split
   · exact ⟨fun h0 => absurd h0 h, fun _ => by simp⟩
   · exact TokK.none
theorem sym_k (l : List UInt8) : TokK (symT l) := by
 unfold symT
 split
 · exact TokK.none
 · rename_i h
   exact ⟨fun h0 => by simp at h0, fun _ => (sel_k l).2 h⟩
theorem op_k (l : List UInt8) : TokK (opT l) := by
 unfold opT
 split
 · split
   · exact TokK.none
   · rename_i h
     exact ⟨fun h0 => absurd (size_zero h0) h, fun _ => by simp⟩
 · rename_i h
   exact ⟨fun h0 => absurd (size_zero h0) h, fun _ => by simp⟩
theorem tok_k (b : UInt8) (t : List UInt8) : TokK (tokL (b :: t)) := by
 unfold tokL tokC
 rw [List.headD_cons]
 split
 · rename_i h; exact name_k h
 · split
   · rename_i h
     exact num_k (by rw [digN, if_pos h]; omega)
   · split
     · exact quo_k _
     · split
       · exact sym_k _
       · exact op_k _
theorem scan_len : ∀ (m : Nat) (l : List UInt8) (acc r : List MToken), l.length <= m -> acc.length <= 800 -> scanL l acc = some r -> r.length <= 800
 | 0, l, acc, r, h, ha, e => by
  have : l = [] := List.length_eq_zero_iff.1 (by omega)
  subst this
  rw [scan_nil] at e; injection e with e; subst e; exact ha
 | m + 1, [], acc, r, h, ha, e => by rw [scan_nil] at e; injection e with e; subst e; exact ha
 | m + 1, b :: t, acc, r, h, ha, e => by
  rw [List.length_cons] at h
  by_cases h1 : b = 32 ∨ b = 10 ∨ b = 9
  · rw [scan_blank h1] at e
    exact scan_len m t acc r (by omega) ha e
  · by_cases h2 : b = 34
    · subst h2
      by_cases h3 : quN t < t.length
      · rw [scan_note h3] at e
        exact scan_len m _ acc r (by rw [List.length_drop]; omega) ha e
      · rw [scan_open h3] at e; cases e
    · by_cases h3 : (tokL (b :: t)).2 = 0 ∨ 800 <= acc.length
      · rw [scan_bad h1 h2 h3] at e; cases e
      · rw [scan_tok h1 h2 h3] at e
        exact scan_len m _ _ r (by rw [List.length_drop, List.length_cons]; omega) (by rw [List.length_append, List.length_singleton]; omega) e
noncomputable def toksL (s : ByteArray) : Option (List MToken) := if 4000 < s.size then none else scanL s.data.toList []
theorem toks_len (s : ByteArray) : ((toksL s).getD []).length <= 800 := by
 unfold toksL
 split
 · simp
 · cases h : scanL s.data.toList []
   · simp
   · exact scan_len _ _ [] _ (Nat.le_refl _) (by simp) h
def PS (ts : List MToken) : Nat -> Nat
 | 0 => 0
 | a + 1 => PS ts a + ((tkT ts a).size + 8)
theorem PS_succ (ts : List MToken) (a : Nat) : PS ts (a + 1) = PS ts a + ((tkT ts a).size + 8) := rfl
def lbE : List MExpr -> Nat
 | [] => 0
 | k :: l => k.d.bulk + 1 + lbE l
def lbT : List ByteArray -> Nat
 | [] => 0
 | k :: l => k.size + 1 + lbT l
theorem lbE_append : ∀ a b : List MExpr, lbE (a ++ b) = lbE a + lbE b
 | [], b => by simp [lbE]
 | k :: a, b => by rw [List.cons_append, lbE, lbE, lbE_append a b]; omega
theorem lbT_append : ∀ a b : List ByteArray, lbT (a ++ b) = lbT a + lbT b
 | [], b => by simp [lbT]
 | k :: a, b => by rw [List.cons_append, lbT, lbT, lbT_append a b]; omega
theorem bulkE_lb (l : List MExpr) : l.length + D.bulkL (l.map MExpr.d) = lbE l := by
 induction l with
 | nil => simp [D.bulkL, lbE]
 | cons k l ih => simp only [List.map_cons, D.bulkL, List.length_cons, lbE]; omega
theorem bulkT_lb (l : List ByteArray) : l.length + D.bulkL (l.map D.str) = lbT l := by
 induction l with
 | nil => simp [D.bulkL, lbT]
 | cons k l ih => simp only [List.map_cons, D.bulkL, D.bulk, List.length_cons, lbT]; omega
theorem bulk_lb (x : MExpr) : x.d.bulk = x.text.size + lbT x.names + lbE x.kids := by
 rw [MExpr.d_eq, <- bulkE_lb, <- bulkT_lb]
 simp only [D.bulk, D.bulkL, strs, MExprs, List.length_map]
 omega
theorem bulk_msg (s : ByteArray) (l : List MExpr) : (eMsg s l).d.bulk = s.size + lbE l := by rw [bulk_lb]; simp [eMsg, lbT]
theorem lb_casc (e : MExpr) : lbE (e.kids.take 1 ++ [eMsg e.text (e.kids.drop 1)]) <= e.d.bulk + 1 := by
 rw [lbE_append, bulk_lb e]
 have h := lbE_append (e.kids.take 1) (e.kids.drop 1)
 rw [List.take_append_drop] at h
 simp only [lbE, bulk_msg]
 omega
theorem names_lb (ts : List MToken) : ∀ (n : Nat) (l : List ByteArray) (a : Nat) (r : List ByteArray × Nat), pNames ts n l a = some r -> ∀ c, lbT l + c <= PS ts a -> lbT r.1 + c <= PS ts r.2
 | 0, l, a, r, h, c, hc => by simp [pNames] at h
 | n + 1, l, a, r, h, c, hc => by
  rw [pNames] at h
  split at h
  · refine names_lb ts n _ _ r h c ?_
    rw [lbT_append, PS_succ]
    simp only [lbT]
    omega
  · injection h with h; subst h; exact hc
theorem pars_lb (ts : List MToken) : ∀ (n : Nat) (l : List ByteArray) (a : Nat) (r : List ByteArray × Nat), pPars ts n l a = some r -> ∀ c, lbT l + c <= PS ts a -> lbT r.1 + c <= PS ts r.2
 | 0, l, a, r, h, c, hc => by simp [pPars] at h
 | n + 1, l, a, r, h, c, hc => by
  rw [pPars] at h
  split at h
  · split at h
    · refine pars_lb ts n _ _ r h c ?_
      rw [lbT_append, PS_succ, PS_succ]
      simp only [lbT]
      omega
    · cases h
  · injection h with h; subst h; exact hc
theorem vars_lb (ts : List MToken) (n a : Nat) (r : List ByteArray × Nat) (h : pVars ts n a = some r) : lbT r.1 + PS ts a <= PS ts r.2 := by
 unfold pVars at h
 split at h
 · rw [Option.bind_eq_some_iff] at h
   obtain ⟨y, h1, h2⟩ := h
   have := names_lb ts n _ _ y h1 (PS ts a) (by rw [PS_succ]; simp only [lbT]; omega)
   split at h2
   · injection h2 with h2; subst h2
     show lbT y.1 + _ <= PS ts (y.2 + 1)
     rw [PS_succ]; omega
   · cases h2
 · injection h with h; subst h; simp [lbT]
structure Bnd (ts : List MToken) (n : Nat) : Prop where
 ex : ∀ a r, pExpr ts n a = some r -> r.1.d.bulk + 2 + PS ts a <= PS ts r.2
 wd : ∀ e s a r, pWord ts n e s a = some r -> ∀ c, e.d.bulk + 4 + c <= PS ts a -> r.1.d.bulk + 2 + c <= PS ts r.2
 se : ∀ e s a r, pSemi ts n e s a = some r -> ∀ c, e.d.bulk + 3 + c <= PS ts a -> r.1.d.bulk + 2 + c <= PS ts r.2
 ca : ∀ l a r, pCasc ts n l a = some r -> ∀ c, lbE l + 2 + c <= PS ts a -> r.1.d.bulk + 2 + c <= PS ts r.2
 ms : ∀ a r, pMsg ts n a = some r -> r.1.d.bulk + PS ts a <= PS ts r.2
 ke : ∀ s l a r, pKeys ts n s l a = some r -> ∀ c, s.size + lbE l + c <= PS ts a -> r.1.size + lbE r.2.1 + c <= PS ts r.2.2
 bi : ∀ a r, pBinary ts n a = some r -> r.1.d.bulk + 4 + PS ts a <= PS ts r.2.2
 bl : ∀ e s a r, pBin ts n e s a = some r -> ∀ c, e.d.bulk + 4 + c <= PS ts a -> r.1.d.bulk + 4 + c <= PS ts r.2.2
 un : ∀ a r, pUnary ts n a = some r -> r.1.d.bulk + 4 + PS ts a <= PS ts r.2.2
 ul : ∀ e s a r, pUn ts n e s a = some r -> ∀ c, e.d.bulk + 4 + c <= PS ts a -> r.1.d.bulk + 4 + c <= PS ts r.2.2
 pr : ∀ a r, pPrim ts n a = some r -> r.1.d.bulk + 4 + PS ts a <= PS ts r.2
 bk : ∀ a r, pBlock ts n a = some r -> r.1.d.bulk + PS ts a <= PS ts r.2
 bo : ∀ a r, pBody ts n a = some r -> r.1.d.bulk + PS ts a <= PS ts r.2
 st : ∀ l a r, pStmts ts n l a = some r -> ∀ c, lbE l + c <= PS ts a -> lbE r.1 + c <= PS ts r.2
theorem bnd_zero (ts : List MToken) : Bnd ts 0 where
 ex a r h := by simp [pExpr] at h
 wd e s a r h := by simp [pWord] at h
 se e s a r h := by simp [pSemi] at h
 ca l a r h := by simp [pCasc] at h
 ms a r h := by simp [pMsg] at h
 ke s l a r h := by simp [pKeys] at h
 bi a r h := by simp [pBinary] at h
 bl e s a r h := by simp [pBin] at h
 un a r h := by simp [pUnary] at h
 ul e s a r h := by simp [pUn] at h
 pr a r h := by simp [pPrim] at h
 bk a r h := by simp [pBlock] at h
 bo a r h := by simp [pBody] at h
 st l a r h := by simp [pStmts] at h
theorem nil_sz : (⟨#[]⟩ : ByteArray).size = 0 := rfl
theorem bnd_succ (ts : List MToken) (n : Nat) (h : Bnd ts n) : Bnd ts (n + 1) where
 ex a r hr := by
  rw [pExpr] at hr
  split at hr
  · rw [Option.bind_eq_some_iff] at hr
    obtain ⟨y, h1, h2⟩ := hr
    injection h2 with h2; subst h2
    have := h.ex _ _ h1
    rw [PS_succ, PS_succ] at this
    show (eAsg _ _).d.bulk + 2 + _ <= _
    rw [bulk_lb]
    simp only [eAsg, lbT, lbE]
    omega
  · rw [Option.bind_eq_some_iff] at hr
    obtain ⟨y, h1, h2⟩ := hr
    exact h.wd _ _ _ _ h2 _ (h.bi _ _ h1)
 wd e s a r hr c hc := by
  rw [pWord] at hr
  split at hr
  · rw [Option.bind_eq_some_iff] at hr
    obtain ⟨y, h1, h2⟩ := hr
    have := h.ke _ _ _ _ h1 (PS ts a) (by rw [nil_sz]; simp only [lbE]; omega)
    refine h.se _ _ _ _ h2 c ?_
    rw [bulk_msg]
    simp only [lbE]
    omega
  · exact h.se _ _ _ _ hr c (by omega)
 se e s a r hr c hc := by
  rw [pSemi] at hr
  split at hr
  · split at hr
    · have := lb_casc e
      exact h.ca _ _ _ hr c (by omega)
    · cases hr
  · injection hr with hr; subst hr; show e.d.bulk + 2 + c <= PS ts a; omega
 ca l a r hr c hc := by
  rw [pCasc] at hr
  split at hr
  · rw [Option.bind_eq_some_iff] at hr
    obtain ⟨y, h1, h2⟩ := hr
    have := h.ms _ _ h1
    rw [PS_succ] at this
    refine h.ca _ _ _ h2 c ?_
    rw [lbE_append]
    simp only [lbE]
    omega
  · injection hr with hr; subst hr
    show (eCasc l).d.bulk + 2 + c <= _
    rw [bulk_lb]
    have e0 : (eCasc l).text.size = 0 := rfl
    have e1 : (eCasc l).kids = l := rfl
    have e2 : (eCasc l).names = [] := rfl
    rw [e0, e1, e2]
    simp only [lbT]
    omega
 ms a r hr := by
  rw [pMsg] at hr
  split at hr
  · injection hr with hr; subst hr
    show (eMsg _ _).d.bulk + _ <= PS ts (a + 1)
    rw [bulk_msg, PS_succ]; simp only [lbE]; omega
  · split at hr
    · rw [Option.bind_eq_some_iff] at hr
      obtain ⟨y, h1, h2⟩ := hr
      injection h2 with h2; subst h2
      have := h.un _ _ h1
      rw [PS_succ] at this
      show (eMsg _ _).d.bulk + _ <= _
      rw [bulk_msg]; simp only [lbE]; omega
    · split at hr
      · rw [Option.bind_eq_some_iff] at hr
        obtain ⟨y, h1, h2⟩ := hr
        injection h2 with h2; subst h2
        have := h.ke _ _ _ _ h1 (PS ts a) (by rw [nil_sz]; simp only [lbE]; omega)
        show (eMsg _ _).d.bulk + _ <= _
        rw [bulk_msg]; omega
      · cases hr
 ke s l a r hr c hc := by
  rw [pKeys] at hr
  split at hr
  · rw [Option.bind_eq_some_iff] at hr
    obtain ⟨y, h1, h2⟩ := hr
    have := h.bi _ _ h1
    rw [PS_succ] at this
    refine h.ke _ _ _ _ h2 c ?_
    rw [lbE_append, ByteArray.size_append]
    simp only [lbE]
    omega
  · injection hr with hr; subst hr; exact hc
 bi a r hr := by
  rw [pBinary, Option.bind_eq_some_iff] at hr
  obtain ⟨y, h1, h2⟩ := hr
  exact h.bl _ _ _ _ h2 _ (h.un _ _ h1)
 bl e s a r hr c hc := by
  rw [pBin] at hr
  split at hr
  · rw [Option.bind_eq_some_iff] at hr
    obtain ⟨y, h1, h2⟩ := hr
    have := h.un _ _ h1
    rw [PS_succ] at this
    refine h.bl _ _ _ _ h2 c ?_
    rw [bulk_msg]
    simp only [lbE]
    omega
  · injection hr with hr; subst hr; exact hc
 un a r hr := by
  rw [pUnary, Option.bind_eq_some_iff] at hr
  obtain ⟨y, h1, h2⟩ := hr
  exact h.ul _ _ _ _ h2 _ (h.pr _ _ h1)
 ul e s a r hr c hc := by
  rw [pUn] at hr
  split at hr
  · refine h.ul _ _ _ _ hr c ?_
    rw [bulk_msg, PS_succ]
    simp only [lbE]
    omega
  · injection hr with hr; subst hr; exact hc
 pr a r hr := by
  rw [pPrim] at hr
  split at hr
  · injection hr with hr; subst hr
    show (eName _).d.bulk + 4 + _ <= PS ts (a + 1)
    rw [bulk_lb, PS_succ]; simp only [eName, lbT, lbE]; omega
  split at hr
  · injection hr with hr; subst hr
    show (eInt _).d.bulk + 4 + _ <= PS ts (a + 1)
    rw [bulk_lb, PS_succ]
    have e0 : (eInt (tkN ts a)).text.size = 0 := rfl
    rw [e0]; simp only [eInt, lbT, lbE]; omega
  split at hr
  · injection hr with hr; subst hr
    show (eText _).d.bulk + 4 + _ <= PS ts (a + 1)
    rw [bulk_lb, PS_succ]; simp only [eText, lbT, lbE]; omega
  split at hr
  · injection hr with hr; subst hr
    show (eSym _).d.bulk + 4 + _ <= PS ts (a + 1)
    rw [bulk_lb, PS_succ]; simp only [eSym, lbT, lbE]; omega
  split at hr
  · rw [Option.bind_eq_some_iff] at hr
    obtain ⟨y, h1, h2⟩ := hr
    have := h.ex _ _ h1
    rw [PS_succ] at this
    split at h2
    · injection h2 with h2; subst h2
      show y.1.d.bulk + 4 + _ <= PS ts (y.2 + 1)
      rw [PS_succ]; omega
    · cases h2
  split at hr
  · have := h.bk _ _ hr
    rw [PS_succ] at this
    omega
  · cases hr
 bk a r hr := by
  rw [pBlock, Option.bind_eq_some_iff] at hr
  obtain ⟨y, h1, h2⟩ := hr
  have := h.bo _ _ h1
  split at h2
  · injection h2 with h2; subst h2
    show y.1.d.bulk + _ <= PS ts (y.2 + 1)
    rw [PS_succ]; omega
  · cases h2
 bo a r hr := by
  rw [pBody, Option.bind_eq_some_iff] at hr
  obtain ⟨p, h1, h2⟩ := hr
  have hp := pars_lb ts n _ _ p h1 (PS ts a) (by simp [lbT])
  split at h2
  · cases h2
  rw [Option.bind_eq_some_iff] at h2
  obtain ⟨v, h3, h4⟩ := h2
  have hv := vars_lb ts n _ v h3
  rw [Option.bind_eq_some_iff] at h4
  obtain ⟨b, h5, h6⟩ := h4
  have hb := h.st _ _ _ h5 (PS ts v.2) (by simp [lbE])
  have hq : PS ts p.2 <= PS ts (if p.1.length ≠ 0 then p.2 + 1 else p.2) := by
   split
   · rw [PS_succ]; omega
   · exact Nat.le_refl _
  injection h6 with h6; subst h6
  show (blockM _ _ _).d.bulk + _ <= PS ts b.2
  rw [bulk_lb]
  have e0 : (blockM p.1 v.1 b.1).text.size = 0 := rfl
  have e1 : (blockM p.1 v.1 b.1).kids = b.1 := rfl
  have e2 : (blockM p.1 v.1 b.1).names = p.1 ++ v.1 := rfl
  rw [e0, e1, e2, lbT_append]
  omega
 st l a r hr c hc := by
  rw [pStmts] at hr
  split at hr
  · rw [Option.bind_eq_some_iff] at hr
    obtain ⟨y, h1, h2⟩ := hr
    injection h2 with h2; subst h2
    have := h.ex _ _ h1
    rw [PS_succ] at this
    have hr : (eRet y.1).d.bulk = y.1.d.bulk + 1 := by
     rw [bulk_lb]
     have e0 : (eRet y.1).text.size = 0 := rfl
     rw [e0]; simp only [eRet, lbT, lbE]; omega
    have hq : PS ts y.2 <= PS ts (if tkxB ts y.2 7 dotM = true then y.2 + 1 else y.2) := by
     split
     · rw [PS_succ]; omega
     · exact Nat.le_refl _
    show lbE (l ++ [eRet y.1]) + c <= PS ts (if tkxB ts y.2 7 dotM = true then y.2 + 1 else y.2)
    rw [lbE_append]
    simp only [lbE]
    omega
  · split at hr
    · rw [Option.bind_eq_some_iff] at hr
      obtain ⟨y, h1, h2⟩ := hr
      have := h.ex _ _ h1
      split at h2
      · refine h.st _ _ _ h2 c ?_
        rw [lbE_append, PS_succ]
        simp only [lbE]
        omega
      · injection h2 with h2; subst h2
        show lbE (l ++ [y.1]) + c <= PS ts y.2
        rw [lbE_append]
        simp only [lbE]
        omega
    · injection hr with hr; subst hr; exact hc
theorem bnd_all (ts : List MToken) : ∀ n, Bnd ts n
 | 0 => bnd_zero ts
 | n + 1 => bnd_succ ts n (bnd_all ts n)
def TokQ (t : MToken) : Prop := (t.kind ≠ 3 -> t.number = 0) /\ ((t.kind = 1 ∨ t.kind = 2 ∨ t.kind = 6) -> t.text.size ≠ 0)
def TokR (L : Nat) (x : MToken × Nat) : Prop := TokQ x.1 /\ x.1.text.size <= x.2 + 84 /\ x.1.text.size <= L + 84
theorem TokR.mk0 {L : Nat} {k : Int} {t : ByteArray} {n : Nat} (h : t.size <= n + 84) (h3 : t.size <= L + 84) (h2 : (k = 1 ∨ k = 2 ∨ k = 6) -> t.size ≠ 0) : TokR L (⟨k, t, 0⟩, n) := ⟨⟨fun _ => rfl, h2⟩, h, h3⟩
theorem TokR.none (L : Nat) : TokR L noTok := ⟨⟨fun _ => rfl, (fun h => (by rcases h with h | h | h <;> cases h))⟩, Nat.zero_le _, Nat.zero_le _⟩
theorem name_q (l : List UInt8) (h0 : runL l ≠ 0) : TokR l.length (nameT l) := by
 have hrl := runL_le l
 have h1 : (runB l).size <= runL l /\ (runB l).size <= l.length /\ (runB l).size ≠ 0 := by unfold runB; rw [mkB_size, List.length_take]; omega
 have h2 : (runB l ++ (⟨#[58]⟩ : ByteArray)).size = (runB l).size + 1 := by rw [ByteArray.size_append]; rfl
 unfold nameT
 split
 · split
   · exact TokR.mk0 (by omega) (by omega) (fun _ => by omega)
   · exact TokR.none _
 · split
   · exact TokR.mk0 (by omega) (by omega) (fun h => (by rcases h with h | h | h <;> cases h))
   · split
     · exact TokR.mk0 (by omega) (by omega) (fun _ => by omega)
     · exact TokR.none _
theorem num_q (l : List UInt8) : TokR l.length (numT l) := by
 unfold numT
 split
 · exact TokR.none _
 · split
   · exact TokR.none _
   · exact ⟨⟨fun h => absurd rfl h, (fun h => (by rcases h with h | h | h <;> cases h))⟩, Nat.zero_le _, Nat.zero_le _⟩
theorem quot_q (l : List UInt8) : TokR l.length (quoT l) := by
 unfold quoT
 split
 · exact TokR.none _
 · split
   · rename_i h
     have := (textB_iff.1 h).2
     exact TokR.mk0 (by omega) (by omega) (fun h => (by rcases h with h | h | h <;> cases h))
   · exact TokR.none _
theorem sel_q (l : List UInt8) : TokR l.length (selT l) := by
 have h1 := firstP_le opsL (mkB l)
 rw [mkB_size] at h1
 unfold selT
 split
 · split
   · split
     · exact TokR.mk0 (by rw [mkB_size, List.length_take]; omega) (by rw [mkB_size, List.length_take]; omega) (fun h => (by rcases h with h | h | h <;> cases h))
     · exact TokR.none _
   · exact TokR.none _
 · exact TokR.mk0 (by omega) (by omega) (fun h => (by rcases h with h | h | h <;> cases h))
theorem sym_q (l : List UInt8) : TokR l.length (symT l) := by
 unfold symT
 split
 · exact TokR.none _
 · have := sel_q l
   exact ⟨this.1, by have := this.2.1; show (selT l).1.text.size <= (selT l).2 + 1 + 84; omega, this.2.2⟩
theorem ne_size {s : ByteArray} (h : ¬ s = ⟨#[]⟩) : s.size ≠ 0 := fun hz => h (by
 cases s with
 | mk d =>
  have : d.size = 0 := hz
  rw [Array.size_eq_zero_iff.1 this])
theorem op_q (l : List UInt8) : TokR l.length (opT l) := by
 have h1 := firstP_le opsL (mkB l)
 have h2 := firstP_le marksL (mkB l)
 rw [mkB_size] at h1 h2
 unfold opT
 split
 · split
   · exact TokR.none _
   · exact TokR.mk0 (by omega) (by omega) (fun h => (by rcases h with h | h | h <;> cases h))
 · rename_i hn
   exact TokR.mk0 (by omega) (by omega) (fun _ => ne_size hn)
theorem tok_q (l : List UInt8) : TokR l.length (tokL l) := by
 unfold tokL tokC
 split
 · rename_i h
   refine name_q l ?_
   cases l with
   | nil => exact absurd h (by decide)
   | cons c r => exact run_ltr h
 · split
   · exact num_q l
   · split
     · exact quot_q l
     · split
       · have := sym_q (l.drop 1)
         exact ⟨this.1, this.2.1, by have := this.2.2; rw [List.length_drop] at this; omega⟩
       · exact op_q l
def sumW : List MToken -> Nat
 | [] => 0
 | t :: l => t.text.size + sumW l
theorem sumW_append : ∀ a b : List MToken, sumW (a ++ b) = sumW a + sumW b
 | [], b => by simp [sumW]
 | t :: a, b => by rw [List.cons_append, sumW, sumW, sumW_append a b]; omega
theorem scan_q : ∀ (m : Nat) (l : List UInt8) (acc r : List MToken), l.length <= m -> (∀ t, t ∈ acc -> TokQ t) -> acc.length <= 800 -> scanL l acc = some r -> (∀ t, t ∈ r -> TokQ t) /\ sumW r + 84 * acc.length <= sumW acc + l.length + 84 * r.length
 | 0, l, acc, r, h, ha, h8, e => by
  have : l = [] := List.length_eq_zero_iff.1 (by omega)
  subst this
  rw [scan_nil] at e; injection e with e; subst e; exact ⟨ha, by omega⟩
 | m + 1, [], acc, r, h, ha, h8, e => by rw [scan_nil] at e; injection e with e; subst e; exact ⟨ha, by omega⟩
 | m + 1, b :: t, acc, r, h, ha, h8, e => by
  have h0 := h
  rw [List.length_cons] at h
  by_cases h1 : b = 32 ∨ b = 10 ∨ b = 9
  · rw [scan_blank h1] at e
    obtain ⟨k1, k2⟩ := scan_q m t acc r (by omega) ha h8 e
    exact ⟨k1, by rw [List.length_cons]; omega⟩
  · by_cases h2 : b = 34
    · subst h2
      by_cases h3 : quN t < t.length
      · rw [scan_note h3] at e
        obtain ⟨k1, k2⟩ := scan_q m _ acc r (by rw [List.length_drop]; omega) ha h8 e
        rw [List.length_drop] at k2
        exact ⟨k1, by rw [List.length_cons]; omega⟩
      · rw [scan_open h3] at e; cases e
    · by_cases h3 : (tokL (b :: t)).2 = 0 ∨ 800 <= acc.length
      · rw [scan_bad h1 h2 h3] at e; cases e
      · rw [scan_tok h1 h2 h3] at e
        have hq := tok_q (b :: t)
        obtain ⟨k1, k2⟩ := scan_q m _ _ r (by rw [List.length_drop, List.length_cons]; omega) (fun x hx => by
         rcases List.mem_append.1 hx with hx | hx
         · exact ha x hx
         · rw [List.mem_singleton.1 hx]; exact hq.1) (by rw [List.length_append, List.length_singleton]; omega) e
        refine ⟨k1, ?_⟩
        rw [sumW_append, List.length_append, List.length_singleton, List.length_drop] at k2
        simp only [sumW] at k2
        have h4 := hq.2.1
        have h5 : (tokL (b :: t)).2 <= (b :: t).length ∨ (b :: t).length < (tokL (b :: t)).2 := by omega
        rcases h5 with h5 | h5
        · omega
        · have h6 := hq.2.2
          omega
theorem toks_q {s : ByteArray} {ts : List MToken} (h : toksL s = some ts) : (∀ t, t ∈ ts -> TokQ t) /\ sumW ts <= 4000 + 84 * ts.length := by
 unfold toksL at h
 split at h
 · cases h
 · rename_i hs
   obtain ⟨k1, k2⟩ := scan_q _ s.data.toList [] ts (Nat.le_refl _) (by simp) (by simp) h
   refine ⟨k1, ?_⟩
   have e : s.data.toList.length = s.size := by simp
   rw [e] at k2
   simp only [sumW, List.length_nil] at k2
   omega
theorem sumW_take (ts : List MToken) (a : Nat) : sumW (ts.take a) <= sumW ts := by
 have h := sumW_append (ts.take a) (ts.drop a)
 rw [List.take_append_drop] at h
 omega
theorem PS_sum (ts : List MToken) : ∀ a, PS ts a <= sumW (ts.take a) + 8 * a
 | 0 => by simp [PS]
 | a + 1 => by
  have := PS_sum ts a
  rw [PS_succ, List.take_add_one, sumW_append]
  unfold tkT
  cases ts[a]? with
  | none => simp only [Option.toList_none, sumW, nil_sz]; omega
  | some t => simp only [Option.toList_some, sumW]; omega
def headOk (x : MExpr) : Prop :=
 (x.kind = 8 ∨ x.names = []) /\ (x.kind = 1 ∨ x.kind = 8 ∨ x.number = 0) /\ (1 <= x.kind /\ x.kind <= 9) /\
 (x.kind = 1 -> x.text = ⟨#[]⟩ /\ (0 <= x.number /\ x.number <= 999999999) /\ x.kids = []) /\
 (x.kind = 2 -> textB 40 x.text = true /\ x.kids = []) /\
 (x.kind = 3 -> selB x.text = true /\ x.kids = []) /\
 (x.kind = 4 -> nameB x.text = true /\ x.kids = []) /\
 (x.kind = 5 -> nameB x.text = true /\ x.kids.length = 1) /\
 (x.kind = 6 -> (x.kids.length : Int) = argsB x.text + 1 /\ 0 < x.kids.length) /\
 (x.kind = 7 -> x.text = ⟨#[]⟩ /\ 3 <= x.kids.length) /\
 (x.kind = 8 -> (∀ s, s ∈ x.names -> nameB s = true) /\ x.text = ⟨#[]⟩ /\ 0 <= x.number /\ x.number <= (x.names.length : Int)) /\
 (x.kind = 9 -> x.text = ⟨#[]⟩ /\ x.kids.length = 1)
def msgHead (m : MExpr) : Prop := m.kind = 6 /\ m.number = 0 /\ m.names = [] /\ 0 <= argsB m.text /\ (m.kids.length : Int) = argsB m.text
def lastN (x : MExpr) : Nat := if x.kind = 7 then 1 else x.kids.length
def okR : Nat -> Bool -> MExpr -> Prop
 | 0, _, _ => False
 | n + 1, st, x => (headOk x /\ (x.kind = 7 -> ∀ m, m ∈ x.kids.tail -> msgHead m /\ ∀ z, z ∈ m.kids -> okR n false z)) /\ (x.kind = 9 -> st = true) /\
  ∀ i, i < lastN x -> ∀ hk : i < x.kids.length, okR n (decide (x.kind = 8)) x.kids[i] /\ ¬ (x.kind = 8 /\ x.kids[i].kind = 9 /\ i + 1 < lastN x)
def msgsOk (n : Nat) (l : List MExpr) : Prop := ∀ m, m ∈ l -> msgHead m /\ ∀ z, z ∈ m.kids -> okR n false z
def nodeOk (n : Nat) (x : MExpr) : Prop := headOk x /\ (x.kind = 7 -> msgsOk n x.kids.tail)
theorem okR_succ {n : Nat} {st : Bool} {x : MExpr} : okR (n + 1) st x ↔ nodeOk n x /\ (x.kind = 9 -> st = true) /\
 ∀ i, i < lastN x -> ∀ hk : i < x.kids.length, okR n (decide (x.kind = 8)) x.kids[i] /\ ¬ (x.kind = 8 /\ x.kids[i].kind = 9 /\ i + 1 < lastN x) := Iff.rfl
noncomputable def prB (p : Prop) : Bool := eqB p True
theorem prB_tt {p : Prop} (h : p) : prB p = true := eqB_tt (by simp [h])
theorem prB_ff {p : Prop} (h : ¬ p) : prB p = false := eqB_ff (by simp [h])
theorem prB_iff {p : Prop} : prB p = true ↔ p := by simp [prB, eqB_iff]
theorem okR_false {n : Nat} {x : MExpr} : okR n false x ↔ x.kind ≠ 9 /\ okR n true x := by
 match n with
 | 0 => simp [okR]
 | n + 1 =>
  have a := @okR_succ n false x
  have b := @okR_succ n true x
  constructor
  · intro h
    obtain ⟨h1, h2, h3⟩ := a.1 h
    exact ⟨fun e => Bool.false_ne_true (h2 e), b.2 ⟨h1, fun _ => rfl, h3⟩⟩
  · intro h
    obtain ⟨h1, h2, h3⟩ := b.1 h.2
    exact a.2 ⟨h1, fun e => absurd e h.1, h3⟩
theorem argsB_bd (s : ByteArray) : -1 <= argsB s /\ argsB s <= 4 := by
 unfold argsB
 split
 · omega
 · split
   · omega
   · split
     · rename_i h
       simp only [kwB, Bool.and_eq_true, decide_eq_true_eq] at h
       omega
     · omega
theorem okR_plain {n : Nat} {x : MExpr} (h7 : x.kind ≠ 7) (h8 : x.kind ≠ 8) : okR (n + 1) true x ↔ headOk x /\ ∀ z, z ∈ x.kids -> okR n false z := by
 rw [okR_succ]
 have hl : lastN x = x.kids.length := by simp [lastN, h7]
 rw [hl]
 constructor
 · rintro ⟨⟨h1, -⟩, -, h3⟩
   refine ⟨h1, fun z hz => ?_⟩
   obtain ⟨i, hi, rfl⟩ := List.mem_iff_getElem.1 hz
   have := (h3 i hi hi).1
   simpa [h8] using this
 · rintro ⟨h1, h2⟩
   exact ⟨⟨h1, fun e => absurd e h7⟩, by simp, fun i hi hk => ⟨by simpa [h8] using h2 _ (List.getElem_mem hk), fun e => h8 e.1⟩⟩
theorem okR_casc {n : Nat} {x : MExpr} (h7 : x.kind = 7) : okR (n + 1) true x ↔ headOk x /\ msgsOk n x.kids.tail /\ ∀ z, z ∈ x.kids.take 1 -> okR n false z := by
 rw [okR_succ]
 have hl : lastN x = 1 := by simp [lastN, h7]
 rw [hl]
 constructor
 · rintro ⟨⟨h1, h2⟩, -, h3⟩
   refine ⟨h1, h2 h7, fun z hz => ?_⟩
   obtain ⟨i, hi, rfl⟩ := List.mem_iff_getElem.1 hz
   rw [List.length_take] at hi
   have := (h3 i (by omega) (by omega)).1
   simpa [h7] using this
 · rintro ⟨h1, h2, h3⟩
   refine ⟨⟨h1, fun _ => h2⟩, by simp, fun i hi hk => ⟨?_, fun e => by omega⟩⟩
   have := h3 x.kids[i] (List.mem_iff_getElem.2 ⟨i, by rw [List.length_take]; omega, by simp⟩)
   simpa [h7] using this
theorem okR_block {n : Nat} {x : MExpr} (h8 : x.kind = 8) : okR (n + 1) true x ↔ headOk x /\ ((∀ z, z ∈ x.kids.take (x.kids.length - 1) -> okR n false z) /\ ∀ h : 0 < x.kids.length, okR n true x.kids[x.kids.length - 1]) := by
 rw [okR_succ]
 have hl : lastN x = x.kids.length := by simp [lastN, h8]
 rw [hl]
 constructor
 · rintro ⟨⟨h1, -⟩, -, h3⟩
   refine ⟨h1, fun z hz => ?_, fun h => ?_⟩
   · obtain ⟨i, hi, rfl⟩ := List.mem_iff_getElem.1 hz
     rw [List.length_take] at hi
     have := h3 i (by omega) (by omega)
     rw [List.getElem_take]
     refine okR_false.2 ⟨fun e => this.2 ⟨h8, e, by omega⟩, ?_⟩
     simpa [h8] using this.1
   · have := (h3 (x.kids.length - 1) (by omega) (by omega)).1
     simpa [h8] using this
 · rintro ⟨h1, h2, h3⟩
   refine ⟨⟨h1, fun e => by omega⟩, by simp, fun i hi hk => ?_⟩
   by_cases he : i + 1 < x.kids.length
   · have := okR_false.1 (h2 x.kids[i] (List.mem_iff_getElem.2 ⟨i, by rw [List.length_take]; omega, by simp⟩))
     exact ⟨by simpa [h8] using this.2, fun e => this.1 e.2.1⟩
   · obtain rfl : i = x.kids.length - 1 := by omega
     exact ⟨by simpa [h8] using h3 (by omega), fun e => he e.2.2⟩
theorem bulkL_mem : ∀ {xs : List D} {x : D}, x ∈ xs -> x.bulk <= D.bulkL xs
 | y :: ys, x, h => by
  simp only [D.bulkL]
  rcases List.mem_cons.1 h with rfl | h
  · omega
  · have := bulkL_mem h; omega
theorem MExpr.bulk_eq (x : MExpr) : x.d.bulk = x.text.size + (x.names.length + D.bulkL (x.names.map .str)) + (x.kids.length + D.bulkL (x.kids.map MExpr.d)) := by
 rw [MExpr.d_eq]
 simp only [D.bulk, D.bulkL, strs, MExprs, List.length_map]
 omega
theorem MExpr.bulk_kid {x z : MExpr} (h : z ∈ x.kids) : z.d.bulk <= x.d.bulk := by
 rw [MExpr.bulk_eq x]
 have := bulkL_mem (List.mem_map_of_mem (f := MExpr.d) h)
 omega
theorem MExpr.bulk_text (x : MExpr) : x.text.size <= x.d.bulk := by rw [MExpr.bulk_eq x]; omega
theorem MExpr.bulk_name {x : MExpr} {s : ByteArray} (h : s ∈ x.names) : s.size <= x.d.bulk := by
 rw [MExpr.bulk_eq x]
 have := bulkL_mem (List.mem_map_of_mem (f := D.str) h)
 simp only [D.bulk] at this
 omega
theorem MExpr.bulk_kids (x : MExpr) : x.kids.length <= x.d.bulk := by rw [MExpr.bulk_eq x]; omega
theorem MExpr.bulk_names (x : MExpr) : x.names.length <= x.d.bulk := by rw [MExpr.bulk_eq x]; omega
theorem Rep.sl_take {w : World} {sz : Nat} {xs : List D} {ao : Option Addr} {n cap k : Nat} (h : Rep w (.sl sz xs) [.slice ao n cap]) (hk : k <= n) : Rep w (.sl sz (xs.take k)) [.slice ao k cap] := by
 obtain ⟨fp, h⟩ := h
 obtain ⟨ao', cap', hv, hl, hm, hn, hh⟩ := RepF.sl_iff.1 h
 simp only [List.cons.injEq, and_true, Value.slice.injEq] at hv
 obtain ⟨rfl, rfl, rfl⟩ := hv
 have hlen : (xs.take k).length = k := by rw [List.length_take]; omega
 rcases hh with ⟨rfl, -⟩ | ⟨b, o, cells, fp', h1, rfl, rfl, hb, h4, h5⟩
 · refine ⟨[], RepF.sl_iff.2 ⟨ao, cap, by simp at hk ⊢; exact hk, by simp, hm, hn, Or.inl ⟨by simp, rfl⟩⟩⟩
 · by_cases h0 : k = 0
   · subst h0
     exact ⟨[], RepF.sl_iff.2 ⟨some ⟨b, o, none⟩, cap, by simp, by simp, hm, by simp, Or.inl ⟨by simp, rfl⟩⟩⟩
   · obtain ⟨g1, g2, hg, r1⟩ : ∃ g1 g2, fp' = g1 ++ g2 /\ RepR w sz (xs.take k) (cells.take (k * sz)) g1 := by
      clear h h1 hm hl hn hk hlen hb h4 h0
      induction xs generalizing k cells fp' with
      | nil =>
       simp only [RepR] at h5
       obtain ⟨rfl, rfl⟩ := h5
       exact ⟨[], [], rfl, by simp [RepR]⟩
      | cons d ds ih =>
       simp only [RepR] at h5
       obtain ⟨c1, c2, f1, f2, rfl, rfl, hc, q1, q2⟩ := h5
       cases k with
       | zero => exact ⟨[], f1 ++ f2, rfl, by simp [RepR]⟩
       | succ k =>
        obtain ⟨g1, g2, rfl, r⟩ := ih (k := k) c2 f2 q2
        refine ⟨f1 ++ g1, g2, by simp, ?_⟩
        simp only [List.take_succ_cons, RepR]
        refine ⟨c1, c2.take (k * sz), f1, g1, ?_, rfl, hc, q1, r⟩
        rw [Nat.succ_mul, Nat.add_comm, List.take_append, List.take_of_length_le (by omega), show sz + k * sz - c1.length = k * sz from by omega]
     refine ⟨b :: g1, RepF.sl_iff.2 ⟨some ⟨b, o, none⟩, cap, by rw [hlen], by rw [hlen]; omega, hm, by simp, Or.inr ⟨b, o, cells.take (k * sz), g1, fun e => h0 (by rw [e] at hlen; simpa using hlen.symm), rfl, rfl, hb, fun j c hj => ?_, r1⟩⟩⟩
     rw [List.getElem?_take] at hj
     split at hj
     · exact h4 j c hj
     · cases hj
theorem Rep.sl_tail {w : World} {sz : Nat} {x : D} {xs : List D} {b o n cap : Nat} (h : Rep w (.sl sz (x :: xs)) [.slice (some ⟨b, o, none⟩) n cap]) : Rep w (.sl sz xs) [.slice (some ⟨b, o + sz, none⟩) (n - 1) (cap - 1)] := by
 obtain ⟨fp, h⟩ := h
 obtain ⟨ao', cap', hv, hl, hm, hn, hh⟩ := RepF.sl_iff.1 h
 simp only [List.cons.injEq, and_true, Value.slice.injEq] at hv
 obtain ⟨rfl, rfl, rfl⟩ := hv
 rcases hh with ⟨h0, -⟩ | ⟨b', o', cells, fp', h1, h2, rfl, hb, h4, h5⟩
 · cases h0
 · simp only [Option.some.injEq, Addr.mk.injEq, and_true] at h2
   obtain ⟨rfl, rfl⟩ := h2
   simp only [RepR] at h5
   obtain ⟨c1, c2, f1, f2, rfl, rfl, hc, q1, q2⟩ := h5
   simp only [List.length_cons] at hl
   by_cases h0 : xs = []
   · subst h0
     exact ⟨[], RepF.sl_iff.2 ⟨some ⟨b, o + sz, none⟩, cap - 1, by simp, by simp, by omega, by simp, Or.inl ⟨rfl, rfl⟩⟩⟩
   · refine ⟨b :: f2, RepF.sl_iff.2 ⟨some ⟨b, o + sz, none⟩, cap - 1, by simp, by omega, by omega, by simp, Or.inr ⟨b, o + sz, c2, f2, h0, rfl, rfl, hb, fun j c hj => ?_, q2⟩⟩⟩
     have := h4 (sz + j) c (by rw [List.getElem?_append_right (by omega), show sz + j - c1.length = j from by omega]; exact hj)
     rwa [<- Nat.add_assoc] at this
theorem l3Left_lt : ∀ (n : Nat) (x : MExpr) (l : Int) (cx : List Value) (w : World), SizeOf.sizeOf x < n -> x.size <= 1048577 -> 0 <= l -> l <= 300 -> Rep w x.d cx ->
 Calls Tryz.prog 76 #[.agg cx.toArray, .int .i64 l] w fun e w' => (∃ r : Int, e = .returned (.int .i64 r) /\ -1 <= r /\ r <= 300 /\ ((x.size : Int) <= l -> r = l - x.size) /\ (l < x.size -> r = -1)) /\ Ext w w' := by
 intro n
 induction n with
 | zero => intro x l cx w h; omega
 | succ n ih =>
  intro x l cx w hn hsz hl0 hl1 rx
  obtain ⟨an, cn, ak, ck, rfl, -, sx⟩ := MExpr.op_en rx
  have hk : Hid (∀ z, z ∈ x.kids -> SizeOf.sizeOf z < n) := LH fun z hz => by have := MExpr.kid_lt hz; omega
  clear rx hn
  have IH := LH ih; clear ih
  obtain ⟨ao, ca, ba, oa, h1, hla, hma, pa, ha⟩ := Rep.slmap sx
  simp only [List.cons.injEq, and_true, Value.slice.injEq] at h1
  obtain ⟨rfl, -, rfl⟩ := h1
  clear sx
  unfold maxLen at hma
  rw [MExpr.size_eq] at hsz ⊢
  have Hsz := LH hsz; clear hsz
  go_enter Tryz.func76, Tryz.ntmps76
  go_wp2_with fail
  go_loopw [1, 5] (fun v i wr => ∃ (k : Nat) (q : Int), k <= x.kids.length /\ i = .int .i64 k /\ v = .int .i64 q /\ -1 <= q /\ q <= 300 /\ Ext w wr /\ wr.cell? ⟨w.heap.size, 4, none⟩ = some (.slice ak x.kids.length ck) /\ Hid ((((1 + MExpr.sizeL (x.kids.take k) : Nat) : Int) <= l -> q = l - (1 + MExpr.sizeL (x.kids.take k) : Nat)) /\ (l < (1 + MExpr.sizeL (x.kids.take k) : Nat) -> q = -1))) (fun _ i _ => x.kids.length - (intOf i).toNat)
  case atStart => exact ⟨0, l - 1, Nat.zero_le _, rfl, rfl, by omega, by omega, (XR w).alloc _, by simp, LH (by simp [MExpr.sizeL]; omega)⟩
  case round =>
   obtain ⟨k, q, hk', rfl, rfl, hq0, hq1, hx, m0, hq'⟩ := hrel
   by_cases hlt : k < x.kids.length
   · by_cases hq2 : 0 <= q
     · obtain rfl := pa (by omega)
       obtain ⟨ea, la, c1, ra⟩ := ha k x.kids[k] (by simp [hlt])
       obtain ⟨aa0, cc0, aa1, cc1, rfl, -, -⟩ := MExpr.op_en ra
       have a0 := hx.cell (show w.cell? ⟨ba, oa + k * 5, none⟩ = some _ from c1 0 (by omega))
       have a1 := hx.cell (show w.cell? ⟨ba, oa + k * 5 + 1, none⟩ = some _ from c1 1 (by omega))
       have a2 := hx.cell (show w.cell? ⟨ba, oa + k * 5 + 2, none⟩ = some _ from c1 2 (by omega))
       have a3 := hx.cell (show w.cell? ⟨ba, oa + k * 5 + 3, none⟩ = some _ from c1 3 (by omega))
       have a4 := hx.cell (show w.cell? ⟨ba, oa + k * 5 + 4, none⟩ = some _ from c1 4 (by omega))
       clear c1 la ha pa
       have hs3 : x.kids[k].size <= 1048577 := by have := MExpr.size_mem (List.getElem_mem hlt); have := Hsz.out; omega
       have HS := LH (MExpr.sizeL_succ hlt)
       go_wp2_with fail
       refine (IH.out x.kids[k] q _ wr (hk.out _ (List.getElem_mem hlt)) hs3 hq2 hq1 (Rep.ext hx ra)).mono ?_
       clear a0 a1 a2 a3 a4
       rintro e w2 ⟨⟨r, rfl, hr0, hr1, hr2, hr3⟩, hx2⟩
       have HR := LH (And.intro hr2 hr3); clear hr2 hr3
       go_wp2_with fail
       go_roundw
       case rel => exact ⟨k + 1, r, by omega, by go_num, rfl, hr0, hr1, hx.trans hx2, Ext.cell hx2 m0, LH (by
        have h1 := HS.out; have h2 := HR.out; have h3 := hq'.out
        rw [h1]
        generalize MExpr.sizeL (x.kids.take k) = A at *
        generalize x.kids[k].size = B at *
        constructor
        · intro h
          have := h3.1 (by omega); have := h2.1 (by omega); omega
        · intro h
          by_cases h5 : ((1 + A : Nat) : Int) <= l
          · have := h3.1 h5; exact h2.2 (by omega)
          · have := h3.2 (by omega); omega)⟩
       case measure => simp [intOf]; omega
     · have f0 : q < 0 := by omega
       go_wp2_with fail
       go_ret
       have hsz2 := MExpr.sizeL_take x.kids k
       have h3 := hq'.out
       exact ⟨⟨q, rfl, hq0, hq1, fun h => by have := h3.1 (by omega); omega, fun h => by omega⟩, hx⟩
   · go_wp2_with fail
     go_ret
     obtain rfl : k = x.kids.length := by omega
     have h3 := hq'.out
     rw [List.take_length] at h3
     exact ⟨⟨q, rfl, hq0, hq1, h3.1, h3.2⟩, hx⟩
end Go.Proofs.YtlcebafhbceejaaGreatDoor
