/-
  SEVERAL TEXTS IN ONE: A TEXT CUT AT A BYTE: plain laws; A SLICE THAT A CALL GATHERS ('out = append(out, ..)'): its value, its data, its footprint.
  Conditions: those that each lemma states.
-/
import Derived.Lib.SplitLaws
import Derived.Test.YtndhpbjhkgdieaaGreatDoorRows
import Derived.Laws.AppendOwnNone
import Derived.Deep.AppendLies
import Derived.Test.YtndhpbjhkgdieaaGreatDoorP03
import Derived.Test.YtndhpbjhkgdieaaGreatDoorP02
namespace Go.Proofs.YtndhpbjhkgdieaaGreatDoor
open Go.RowKit
set_option maxHeartbeats 8000000
set_option maxRecDepth 100000
set_option linter.unusedSimpArgs false
set_option linter.unusedVariables false
def cutGo (c : UInt8) : List UInt8 -> List UInt8 -> List (List UInt8)
 | cur, [] => [cur]
 | cur, b :: t => if b = c then cur :: cutGo c [] t else cutGo c (cur ++ [b]) t
def onto (cur : List UInt8) : List (List UInt8) -> List (List UInt8)
 | [] => []
 | h :: t => (cur ++ h) :: t
theorem splitK_ne (c b : UInt8) (hb : b ≠ c) : ∀ (k : Nat) (t : List UInt8), Lib.splitK [c] 0 k (b :: t) = onto [b] (Lib.splitK [c] 0 k t)
 | 0, t => rfl
 | k + 1, t => by
  have hp : ([c] : List UInt8).isPrefixOf (b :: t) = false := by simp [List.isPrefixOf, Ne.symm hb]
  have hix : Lib.index (b :: t) [c] = if Lib.index t [c] == -1 then -1 else Lib.index t [c] + 1 := by rw [Lib.index, hp]; simp
  by_cases hm : Lib.index t [c] = -1
  · simp [Lib.splitK, hix, hm, onto]
  · have hge := Lib.index_ge t [c]
    obtain ⟨j, hj⟩ : ∃ j : Nat, Lib.index t [c] = j := ⟨(Lib.index t [c]).toNat, by omega⟩
    have h1 : ((j : Int) == -1) = false := by simp <;> omega
    have h2 : ((j : Int) + 1 == -1) = false := by simp <;> omega
    have h3 : ((j : Int) + 1).toNat = j + 1 := by omega
    simp [Lib.splitK, hix, hj, h1, h2, h3, onto]
theorem cutGo_split (c : UInt8) : ∀ (s : List UInt8) (cur : List UInt8), cutGo c cur s = onto cur (Lib.splitK [c] 0 (Lib.count s [c]) s)
 | [], cur => by rw [Lib.count_miss (by simp [Lib.index])]; simp [cutGo, Lib.splitK, onto]
 | b :: t, cur => by
  by_cases h : b = c
  · subst h
    rw [Lib.count_cons_eq, Nat.add_comm]
    have hix : Lib.index (b :: t) [b] = ((0 : Nat) : Int) := by rw [Lib.index]; simp [List.isPrefixOf]
    have e : Lib.splitK [b] 0 (Lib.count t [b] + 1) (b :: t) = [] :: Lib.splitK [b] 0 (Lib.count t [b]) t := by simp [Lib.splitK, hix]
    rw [cutGo, if_pos rfl, e, cutGo_split b t]
    cases hk : Lib.splitK [b] 0 (Lib.count t [b]) t <;> simp [onto]
  · rw [Lib.count_cons_ne b c t h, splitK_ne c b h, cutGo, if_neg h, cutGo_split c t]
    cases hk : Lib.splitK [c] 0 (Lib.count t [c]) t <;> simp [onto]
theorem cutGo_length (c : UInt8) : ∀ (s cur : List UInt8), (cutGo c cur s).length = s.count c + 1
 | [], cur => by simp [cutGo]
 | b :: t, cur => by
  by_cases h : b = c
  · subst h; simp [cutGo, cutGo_length b t]
  · rw [cutGo, if_neg h, cutGo_length c t, List.count_cons_of_ne (by simpa using h)]
theorem cutGo_ne (c : UInt8) (s cur : List UInt8) : cutGo c cur s ≠ [] := by
 intro h; have := cutGo_length c s cur; rw [h] at this; simp at this
theorem cutGo_last (c : UInt8) : ∀ (s cur : List UInt8), cutGo c cur (s ++ [c]) = cutGo c cur s ++ [[]]
 | [], cur => by simp [cutGo]
 | b :: t, cur => by
  by_cases h : b = c
  · subst h; simp [cutGo, cutGo_last b t]
  · simp [cutGo, h, cutGo_last c t]
theorem cutGo_snoc (c b : UInt8) (hb : b ≠ c) : ∀ (s cur : List UInt8), ∃ l m, cutGo c cur (s ++ [b]) = l ++ [m ++ [b]]
 | [], cur => ⟨[], cur, by simp [cutGo, hb]⟩
 | a :: t, cur => by
  by_cases h : a = c
  · subst h
    obtain ⟨l, m, e⟩ := cutGo_snoc a b hb t []
    exact ⟨cur :: l, m, by simp [cutGo, e]⟩
  · obtain ⟨l, m, e⟩ := cutGo_snoc c b hb t (cur ++ [a])
    exact ⟨l, m, by simp [cutGo, h, e]⟩
theorem cutGo_none (c : UInt8) : ∀ (s cur : List UInt8), c ∉ s -> cutGo c cur s = [cur ++ s]
 | [], cur, _ => by simp [cutGo]
 | b :: t, cur, h => by
  have h1 : b ≠ c := fun e => h (by simp [e])
  rw [cutGo, if_neg h1, cutGo_none c t _ (fun m => h (by simp [m]))]
  simp
theorem cutGo_size (c : UInt8) : ∀ (s cur : List UInt8) (x : List UInt8), x ∈ cutGo c cur s -> x.length <= cur.length + s.length
 | [], cur, x, h => by simp [cutGo] at h; subst h; simp
 | b :: t, cur, x, h => by
  by_cases e : b = c
  · subst e
    simp only [cutGo, if_pos, List.mem_cons] at h
    rcases h with rfl | h
    · simp
    · have := cutGo_size b t [] x h; simp at this ⊢; omega
  · rw [cutGo, if_neg e] at h
    have := cutGo_size c t _ x h
    simp at this ⊢; omega
def mkB (l : List UInt8) : ByteArray := ⟨l.toArray⟩
theorem mkB_data (s : ByteArray) : mkB s.data.toList = s := by apply ByteArray.ext; simp [mkB]
theorem data_mkB (l : List UInt8) : (mkB l).data.toList = l := by simp [mkB]
theorem mkB_size (l : List UInt8) : (mkB l).size = l.length := by simp [mkB, ByteArray.size]
theorem extract_mk (s : ByteArray) (a b : Nat) : s.extract a b = mkB ((s.data.toList.drop a).take (b - a)) := by
 rw [<- mkB_data (s.extract a b)]
 simp [mkB, List.extract_eq_take_drop]
def cutB (c : UInt8) (s : ByteArray) : List ByteArray := (cutGo c [] s.data.toList).map mkB
theorem splitB_cut (c : UInt8) (s : ByteArray) : Lib.splitB ⟨#[c]⟩ 0 (Lib.countB s ⟨#[c]⟩) s = cutB c s := by
 have h := Lib.splitB_data ⟨#[c]⟩ 0 (Lib.countB s ⟨#[c]⟩) s
 have h1 : Lib.splitK [c] 0 (Lib.count s.data.toList [c]) s.data.toList = cutGo c [] s.data.toList := by
  rw [cutGo_split]
  cases hk : Lib.splitK [c] 0 (Lib.count s.data.toList [c]) s.data.toList <;> simp [onto]
 have h2 : (Lib.splitB ⟨#[c]⟩ 0 (Lib.countB s ⟨#[c]⟩) s).map (fun x : ByteArray => x.data.toList) = cutGo c [] s.data.toList := by
  rw [<- h1]; exact h
 unfold cutB
 rw [<- h2, List.map_map]
 conv => lhs; rw [<- List.map_id (Lib.splitB ⟨#[c]⟩ 0 (Lib.countB s ⟨#[c]⟩) s)]
 exact List.map_congr_left fun x _ => (mkB_data x).symm
theorem cutB_length (c : UInt8) (s : ByteArray) : (cutB c s).length = s.data.toList.count c + 1 := by simp only [cutB, List.length_map, cutGo_length]
theorem cutB_le (c : UInt8) (s : ByteArray) : (cutB c s).length <= s.size + 1 := by
 rw [cutB_length]
 have := List.count_le_length (a := c) (l := s.data.toList)
 have e : s.data.toList.length = s.size := by simp
 omega
theorem cutB_mem {c : UInt8} {s x : ByteArray} (h : x ∈ cutB c s) : x.size <= s.size := by
 simp only [cutB, List.mem_map] at h
 obtain ⟨l, hl, rfl⟩ := h
 have := cutGo_size c _ _ l hl
 have e : s.data.toList.length = s.size := by simp
 rw [mkB_size]; simp only [List.length_nil] at this; omega
theorem countB_cut (c : UInt8) (s : ByteArray) : Lib.countB s ⟨#[c]⟩ + 1 = (cutB c s).length := by
 rw [cutB_length, <- Lib.count_one]
def cutAt (c : UInt8) (s : ByteArray) (a i : Nat) : List ByteArray := (cutGo c ((s.data.toList.drop a).take (i - a)) (s.data.toList.drop i)).map mkB
theorem cutAt_zero (c : UInt8) (s : ByteArray) : cutAt c s 0 0 = cutB c s := by simp [cutAt, cutB]
theorem cutAt_yes {c : UInt8} {s : ByteArray} {a i : Nat} (h : i < s.size) (hc : s[i] = c) : cutAt c s a i = s.extract a i :: cutAt c s (i + 1) (i + 1) := by
 simp only [cutAt, drop_get h, cutGo, hc, if_pos]
 rw [extract_mk]; simp
theorem take_snoc {l : List UInt8} {n : Nat} {b : UInt8} (h : l[n]? = some b) : l.take (n + 1) = l.take n ++ [b] := by
 rw [List.take_add_one, h]; simp
theorem cutAt_no {c : UInt8} {s : ByteArray} {a i : Nat} (h : i < s.size) (ha : a <= i) (hc : ¬ s[i] = c) : cutAt c s a i = cutAt c s a (i + 1) := by
 simp only [cutAt, drop_get h, cutGo, if_neg hc]
 have e : (s.data.toList.drop a)[i - a]? = some s[i] := by
  rw [List.getElem?_drop, show a + (i - a) = i from by omega, List.getElem?_eq_getElem (by simpa using h)]
  rfl
 rw [<- take_snoc e, show i - a + 1 = i + 1 - a from by omega]
theorem cutAt_end {c : UInt8} {s : ByteArray} {a i : Nat} (h : s.size = i) : cutAt c s a i = [s.extract a i] := by
 have e : s.data.toList.drop i = [] := List.drop_eq_nil_of_le (by simp; exact Nat.le_of_eq h)
 simp only [cutAt, e, cutGo]
 rw [extract_mk]; simp
def opsL : List ByteArray := [⟨#[47, 47]⟩, ⟨#[92, 92]⟩, ⟨#[60, 61]⟩, ⟨#[62, 61]⟩, ⟨#[61, 61]⟩, ⟨#[126, 61]⟩, ⟨#[126, 126]⟩, ⟨#[43]⟩, ⟨#[45]⟩, ⟨#[42]⟩, ⟨#[60]⟩, ⟨#[62]⟩, ⟨#[61]⟩, ⟨#[44]⟩, ⟨#[38]⟩]
theorem runL_all : ∀ l : List UInt8, runL l = l.length -> ∀ b, b ∈ l -> alnB b = true
 | [], _, b, h => by simp at h
 | a :: l, h, b, hb => by
  have hle := runL_le l
  by_cases ha : alnB a = true
  · rw [runL, if_pos ha] at h
    simp only [List.length_cons] at h
    rcases List.mem_cons.1 hb with rfl | hb
    · exact ha
    · exact runL_all l (by omega) b hb
  · rw [runL, if_neg ha] at h; simp at h
theorem part_bytes {s : ByteArray} (h : partB s = true) : ∀ b, b ∈ s.data.toList -> alnB b = true := by
 unfold partB at h
 obtain ⟨h1, h2, h3, h4, h5⟩ := of_decide_eq_true h
 refine runL_all _ ?_
 unfold runAt at h5
 simp at h5 ⊢; have : s.data.size = s.size := rfl; omega
theorem part_no {s : ByteArray} (c : UInt8) (hc : alnB c = false) (h : partB s = true) : c ∉ s.data.toList := fun m => by
 have := part_bytes h c m; rw [hc] at this; cases this
noncomputable def allB (p : ByteArray -> Bool) (l : List ByteArray) : Bool := eqB (∀ x, x ∈ l -> p x = true) True
theorem allB_tt {p : ByteArray -> Bool} {l : List ByteArray} (h : ∀ x, x ∈ l -> p x = true) : allB p l = true := eqB_tt (by simpa using h)
theorem allB_ff {p : ByteArray -> Bool} {l : List ByteArray} {x : ByteArray} (h : x ∈ l) (hp : p x = false) : allB p l = false := eqB_ff (by simp; exact ⟨x, h, hp⟩)
theorem allB_iff {p : ByteArray -> Bool} {l : List ByteArray} : allB p l = true ↔ ∀ x, x ∈ l -> p x = true := by simp [allB, eqB_iff]
def colB (s : ByteArray) : Bool := Lib.hasSuffix s.data.toList [58]
def stem (s : ByteArray) : ByteArray := s.extract 0 (s.size - 1)
noncomputable def kwB (s : ByteArray) : Bool := colB s && (allB partB (cutB 58 (stem s)) && decide ((cutB 58 (stem s)).length <= 4))
noncomputable def selB (s : ByteArray) : Bool := hasB opsL s || (nameB s || kwB s)
noncomputable def argsB (s : ByteArray) : Int := if hasB opsL s then 1 else if nameB s then 0 else if kwB s then (cutB 58 (stem s)).length else -1
theorem colB_iff {s : ByteArray} : colB s = true ↔ ∃ l, s.data.toList = l ++ [58] := by
 simp only [colB, Lib.hasSuffix, List.isSuffixOf_iff_suffix]
 constructor
 · rintro ⟨l, h⟩; exact ⟨l, h.symm⟩
 · rintro ⟨l, h⟩; exact ⟨l, h.symm⟩
theorem stem_data {s : ByteArray} {l : List UInt8} (h : s.data.toList = l ++ [58]) : (stem s).data.toList = l := by
 have e : s.size = l.length + 1 := by have := congrArg List.length h; simpa using this
 rw [stem, extract_mk, data_mkB, h, e]; simp
theorem cut_col {s : ByteArray} (h : colB s = true) : cutB 58 s = cutB 58 (stem s) ++ [ByteArray.empty] := by
 obtain ⟨l, hl⟩ := colB_iff.1 h
 simp only [cutB, stem_data hl]
 rw [hl, cutGo_last]
 simp only [List.map_append, List.map_cons, List.map_nil]
 rfl
theorem cut_last {s : ByteArray} (h : colB s = false) (hn : (cutB 58 s).length ≠ 1) : ∃ l x, cutB 58 s = l ++ [x] /\ x.size ≠ 0 := by
 rcases List.eq_nil_or_concat s.data.toList with h0 | ⟨l, b, hl⟩
 · exact absurd (by simp [cutB, h0, cutGo]) hn
 · have hb : b ≠ 58 := by
    rintro rfl
    have := colB_iff.2 ⟨l, by simpa using hl⟩
    rw [h] at this; cases this
   obtain ⟨a, m, e⟩ := cutGo_snoc 58 b hb l []
   refine ⟨a.map mkB, mkB (m ++ [b]), ?_, by rw [mkB_size]; simp⟩
   simp only [cutB]
   rw [show s.data.toList = l ++ [b] from by simpa using hl, e]
   simp
theorem cut_single {s : ByteArray} (h : (cutB 58 s).length = 1) : cutB 58 s = [s] := by
 have hc : (58 : UInt8) ∉ s.data.toList := by
  rw [cutB_length] at h
  exact List.count_eq_zero.1 (by omega)
 rw [cutB, cutGo_none 58 _ _ hc]
 simp [mkB_data]
theorem name_single {s : ByteArray} (h : (cutB 58 s).length ≠ 1) : nameB s = false := by
 unfold nameB
 cases hp : partB s
 · rfl
 · have := part_no 58 (by decide) hp
   rw [cutB_length] at h
   exact absurd (by rw [List.count_eq_zero.2 this]) h
theorem single_col {s : ByteArray} (h : (cutB 58 s).length = 1) : colB s = false := by
 cases hc : colB s
 · rfl
 · have := cutB_length 58 (stem s)
   rw [cut_col hc, List.length_append, this] at h; simp only [List.length_cons, List.length_nil] at h; omega
theorem sel_one {s : ByteArray} (ho : hasB opsL s = false) (h : (cutB 58 s).length = 1) : selB s = nameB s /\ (nameB s = true -> argsB s = 0) := by
 have hc := single_col h
 refine ⟨by simp [selB, ho, kwB, hc], fun hn => by simp [argsB, ho, hn]⟩
theorem sel_col {s : ByteArray} (ho : hasB opsL s = false) (h : colB s = true) : selB s = (allB partB (cutB 58 (stem s)) && decide ((cutB 58 (stem s)).length <= 4)) /\ (selB s = true -> argsB s = (cutB 58 (stem s)).length) := by
 have hn : nameB s = false := name_single fun e => by rw [single_col e] at h; cases h
 refine ⟨by simp [selB, ho, kwB, h, hn], fun hs => ?_⟩
 have : kwB s = true := by simpa [selB, ho, hn] using hs
 simp [argsB, ho, hn, this]
theorem sel_none {s : ByteArray} (ho : hasB opsL s = false) (h : colB s = false) (h1 : (cutB 58 s).length ≠ 1) : selB s = false := by
 simp [selB, ho, kwB, h, name_single h1]
theorem args_none {s : ByteArray} (h : selB s = false) : argsB s = -1 := by
 simp only [selB, Bool.or_eq_false_iff] at h
 obtain ⟨h1, h2, h3⟩ := h
 simp [argsB, h1, h2, h3]
theorem args_op {s : ByteArray} (h : hasB opsL s = true) : argsB s = 1 := by simp [argsB, h]
theorem RepF.one_cell {w : World} : ∀ (d : D) {cs : List Value} {fp : List Nat}, RepF w d cs fp -> ∀ u, u ∈ cs -> u.oneCell' = true := by
 intro d
 induction d using D.rec (motive_2 := fun ds => (∀ {cs : List Value} {fp : List Nat}, RepS w ds cs fp -> ∀ u, u ∈ cs -> u.oneCell' = true) /\ (∀ {sz : Nat} {cs : List Value} {fp : List Nat}, RepR w sz ds cs fp -> ∀ u, u ∈ cs -> u.oneCell' = true)) with
 | int n => intro cs fp h u hu; simp only [RepF] at h; rw [h.1] at hu; simp at hu; subst hu; rfl
 | str n => intro cs fp h u hu; simp only [RepF] at h; rw [h.1] at hu; simp at hu; subst hu; rfl
 | bool n => intro cs fp h u hu; simp only [RepF] at h; rw [h.1] at hu; simp at hu; subst hu; rfl
 | st fs ih => intro cs fp h u hu; exact ih.1 (RepF.un_st h) u hu
 | sl sz xs ih => intro cs fp h u hu; obtain ⟨ao, cap, rfl, _⟩ := RepF.sl_iff.1 h; simp at hu; subst hu; rfl
 | nil => exact ⟨fun h u hu => by simp only [RepS] at h; rw [h.1] at hu; simp at hu, fun h u hu => by simp only [RepR] at h; rw [h.1] at hu; simp at hu⟩
 | cons d ds ihd ihs =>
  refine ⟨fun h u hu => ?_, fun h u hu => ?_⟩
  · simp only [RepS] at h
    obtain ⟨c1, c2, f1, f2, rfl, rfl, h1, h2⟩ := h
    rcases List.mem_append.1 hu with hu | hu
    · exact ihd h1 u hu
    · exact ihs.1 h2 u hu
  · simp only [RepR] at h
    obtain ⟨c1, c2, f1, f2, rfl, rfl, -, h1, h2⟩ := h
    rcases List.mem_append.1 hu with hu | hu
    · exact ihd h1 u hu
    · exact ihs.2 h2 u hu
theorem RepR.one_cell {w : World} {sz : Nat} : ∀ {ds : List D} {cs : List Value} {fp : List Nat}, RepR w sz ds cs fp -> ∀ u, u ∈ cs -> u.oneCell' = true
 | [], cs, fp, h, u, hu => by simp only [RepR] at h; rw [h.1] at hu; simp at hu
 | d :: ds, cs, fp, h, u, hu => by
  simp only [RepR] at h
  obtain ⟨c1, c2, f1, f2, rfl, rfl, -, h1, h2⟩ := h
  rcases List.mem_append.1 hu with hu | hu
  · exact RepF.one_cell d h1 u hu
  · exact RepR.one_cell h2 u hu
def Acc (B0 : Nat) (w : World) (e : TypeId) (size : Nat) (v : Value) (ds : List D) (fp : List Nat) : Prop :=
 ∃ xs, w.ownsRow B0 e size v ds.length xs /\ RepR w size ds xs fp /\ Fresh w B0 fp /\ ∀ k, v.ownBlock = some k -> k ∉ fp
theorem Acc.ext {B0 : Nat} {w w' : World} {e : TypeId} {size : Nat} {v : Value} {ds : List D} {fp : List Nat} (h : Acc B0 w e size v ds fp) (hx : Ext w w') : Acc B0 w' e size v ds fp := by
 obtain ⟨xs, h1, h2, h3, h4⟩ := h
 refine ⟨xs, ?_, h2.ext hx, h3.ext hx, h4⟩
 obtain ⟨k1, k2⟩ := h1
 refine ⟨k1, ?_⟩
 rcases k2 with k2 | ⟨g, cap, cur, hv, hg, hh, r⟩
 · exact Or.inl k2
 · exact Or.inr ⟨g, cap, cur, hv, hg, (hx.block g (by exact (Array.getElem?_eq_some_iff.1 hh).1)).trans hh, r⟩
theorem Acc.nil (B0 : Nat) (w : World) (e : TypeId) (size : Nat) : Acc B0 w e size (.slice none 0 0) [] [] :=
 ⟨[], World.ownsRow_nil _ _ _ _, by simp [RepR], Fresh.nil _ _, by simp [Value.ownBlock]⟩
theorem Acc.empty {B0 : Nat} {w : World} (e : TypeId) (size : Nat) (hB : B0 <= w.heap.size) : Acc B0 (w.alloc (.cells #[] e)) e size (.slice (some ⟨w.heap.size, 0, none⟩) 0 0) [] [] :=
 ⟨[], ⟨by simp, Or.inr ⟨w.heap.size, 0, #[], rfl, hB, heap_alloc_new w _, by simp, by simp, by simp, by simp⟩⟩, by simp [RepR], Fresh.nil _ _, by simp⟩
theorem Acc.empty_at {B0 B : Nat} {w : World} {e : TypeId} {size : Nat} (hO : Own w B e #[]) (hB : B0 <= B) : Acc B0 w e size (.slice (some ⟨B, 0, none⟩) 0 0) [] [] :=
 ⟨[], ⟨by simp, Or.inr ⟨B, 0, #[], rfl, hB, hO, by simp, by simp, by simp, by simp⟩⟩, by simp [RepR], Fresh.nil _ _, by simp⟩
theorem own_new2 (w : World) (o : Obj) (C : Array Value) (e : TypeId) : Own ((w.alloc o).alloc (.cells C e)) (w.heap.size + 1) e C := by
 have := own_new (w.alloc o) C e
 rwa [show (w.alloc o).heap.size = w.heap.size + 1 by simp] at this
theorem ext_box {w w' : World} {o : Obj} (h : Below (w.heap.size + 1) (w.alloc o) w') : Ext (w.alloc o) w' := by
 unfold Ext; rwa [show (w.alloc o).heap.size = w.heap.size + 1 by simp]
theorem Acc.rep {B0 : Nat} {w : World} {e : TypeId} {size : Nat} {v : Value} {ds : List D} {fp : List Nat} (h : Acc B0 w e size v ds fp) :
 ∃ ao cap gp, v = .slice ao ds.length cap /\ RepF w (.sl size ds) [.slice ao ds.length cap] gp /\ Fresh w B0 gp := by
 obtain ⟨xs, ⟨h1, h2⟩, h3, h4, h5⟩ := h
 rcases h2 with ⟨rfl, hn⟩ | ⟨g, cap, cur, rfl, hg, hh, hnc, hcm, hcs, htk⟩
 · have : ds = [] := List.length_eq_zero_iff.1 hn
   subst this
   exact ⟨none, 0, [], rfl, RepF.sl_iff.2 ⟨_, _, rfl, by simp, by simp, by simp, Or.inl ⟨rfl, rfl⟩⟩, Fresh.nil _ _⟩
 · by_cases hd : ds = []
   · subst hd
     exact ⟨_, cap, [], rfl, RepF.sl_iff.2 ⟨_, _, rfl, by simp, hcm, by simp, Or.inl ⟨rfl, rfl⟩⟩, Fresh.nil _ _⟩
   · have hO : Own w g e cur := hh
     refine ⟨_, cap, g :: fp, rfl, RepF.sl_iff.2 ⟨_, _, rfl, hnc, hcm, by simp, Or.inr ⟨g, 0, xs, fp, hd, rfl, rfl, hO.lt, fun j c hj => ?_, h3⟩⟩, ⟨List.nodup_cons.2 ⟨h5 g rfl, h4.nodup⟩, fun b hb => ?_, fun b hb => ?_⟩⟩
     · rw [Nat.zero_add, hO.cell]
       rw [<- htk, List.getElem?_take] at hj
       split at hj
       · simpa using hj
       · cases hj
     · rcases List.mem_cons.1 hb with rfl | hb
       · exact hg
       · exact h4.ge b hb
     · rcases List.mem_cons.1 hb with rfl | hb
       · exact ⟨_, _, hO⟩
       · exact h4.own b hb
theorem RepF.source {w : World} {size : Nat} {ys : List D} {ao : Option Addr} {m c : Nat} {gp : List Nat} (h : RepF w (.sl size ys) [.slice ao m c] gp) :
 m = ys.length /\ m <= maxLen /\ ∃ news, RepR w size ys news gp.tail /\ ((ao = none /\ m = 0 /\ c = 0 /\ ys = []) ∨ ∃ ad, ao = some ad /\ ∀ (j : Nat) u, news[j]? = some u -> w.cell? (ad.add j) = some u) := by
 obtain ⟨ao', cap', hv, hl, hm, hn, hh⟩ := RepF.sl_iff.1 h
 clear h
 simp only [List.cons.injEq, and_true, Value.slice.injEq] at hv
 obtain ⟨rfl, rfl, rfl⟩ := hv
 refine ⟨rfl, by omega, ?_⟩
 rcases hh with ⟨rfl, rfl⟩ | ⟨b, o, cells, fp', h1, rfl, rfl, hb, h4, h5⟩
 · refine ⟨[], by simp [RepR], ?_⟩
   cases ao with
   | none => exact Or.inl ⟨rfl, rfl, hn rfl, rfl⟩
   | some ad => exact Or.inr ⟨ad, rfl, by simp⟩
 · refine ⟨cells, h5, Or.inr ⟨_, rfl, fun j u hu => ?_⟩⟩
   have : (⟨b, o, none⟩ : Addr).add j = ⟨b, o + j, none⟩ := by unfold Addr.add; split <;> simp_all
   rw [this]; exact h4 j u hu
theorem grown_keep {w w' : World} {row : Option Nat} (h : w.grownBy w' row) {k : Nat} (hk : k < w.heap.size) (hne : row ≠ some k) : w'.heap[k]? = w.heap[k]? := h.block k hk (fun e => hne e.symm)
theorem run_append_acc {P : Program} {w : World} (t ty : TypeId) (B0 : Nat) (e : TypeId) (i : TypeInfo) (z : Value) (size bytes : Nat) (ht : P.underlying t = some (.slice e)) (hi : P.info? e = some i) (hz : i.zero = some z)
 (hsize : i.size = size) (hby : i.bytes = bytes) (hzs : z.cells.size = size) (hsz : 0 < size)
 (v : Value) (ds : List D) (fp : List Nat) (hacc : Acc B0 w e size v ds fp) (ys : List D) (ao : Option Addr) (m c : Nat) (gp : List Nat) (hr : RepF w (.sl size ys) [.slice ao m c] gp)
 (hF : Fresh w B0 (fp ++ gp.tail)) (hown : ∀ k, v.ownBlock = some k -> k ∉ gp.tail)
 (h63 : ds.length + m <= maxLen) (hbytes : (ds.length + m) * bytes <= 140737488355328) (hbase : B0 <= w.heap.size) :
 ∃ ao' cap' w', (Builtin.append_ #[t, t] ty #[v, .slice ao m c]).run P w = .ok (.slice ao' (ds.length + m) cap') w' /\ Acc B0 w' e size (.slice ao' (ds.length + m) cap') (ds ++ ys) (fp ++ gp.tail) /\ w.grownBy w' v.ownBlock := by
 obtain ⟨xs, h1, h2, h3, h4⟩ := hacc
 obtain ⟨hm, hml, news, hnr, hsrc⟩ := hr.source
 rcases hsrc with ⟨rfl, rfl, rfl, rfl⟩ | ⟨ad, rfl, hcells⟩
 · have hgp : gp.tail = [] := by
    simp only [RepR] at hnr; exact hnr.2
   have hv : ∃ ao' cap', v = .slice ao' (ds.length + 0) cap' := by
    rcases h1.2 with ⟨rfl, hn⟩ | ⟨g, cap, cur, rfl, _⟩
    · exact ⟨none, 0, by rw [hn]⟩
    · exact ⟨_, cap, by rw [Nat.add_zero]⟩
   obtain ⟨ao', cap', hv⟩ := hv
   refine ⟨ao', cap', w, ?_, ⟨xs, by rw [<- hv]; simpa using h1, by rw [hgp]; simpa using h2, by rw [hgp]; simpa using h3, by rw [<- hv, hgp]; simpa using h4⟩, World.grownBy.refl _ _⟩
   rw [<- hv]
   exact run_append_owned_none (P := P) (w := w) B0 t ty e i size ht hi v ds.length xs h1
 · obtain ⟨v', w', hrun, hown', hgrow, hnil, hat⟩ := run_append_own_at (P := P) w B0 t ty e i z size bytes ht hi hz hsize hby hzs hsz v ds.length xs h1 ad m c news (by rw [hm]; exact hnr.length) hcells (fun u hu => RepR.one_cell hnr u hu) h63 hbytes hbase
   have hv : ∃ ao' cap', v' = .slice ao' (ds.length + m) cap' := by
    rcases hown'.2 with ⟨rfl, hn⟩ | ⟨g, cap, cur, rfl, _⟩
    · exact ⟨none, 0, by rw [hn]⟩
    · exact ⟨_, cap, rfl⟩
   have hkeep : ∀ k, k ∈ fp ++ gp.tail -> w'.heap[k]? = w.heap[k]? := fun k hk => grown_keep hgrow (hF.lt hk) (fun e => by
    rcases List.mem_append.1 hk with hk | hk
    · exact h4 k e hk
    · exact hown k e hk)
   obtain ⟨ao', cap', rfl⟩ := hv
   refine ⟨ao', cap', w', hrun, ⟨xs ++ news, by rw [List.length_append, <- hm]; exact hown', (h2.keep size ds fun k hk => hkeep k (List.mem_append_left _ hk)).append (hnr.keep size ys fun k hk => hkeep k (List.mem_append_right _ hk)),
    ⟨hF.nodup, hF.ge, fun b hb => let ⟨C, e', hO⟩ := hF.own b hb; ⟨C, e', (hkeep b hb).trans hO⟩⟩, fun k hk hkm => ?_⟩, hgrow⟩
   rcases hat with hat | hat
   · rw [hat] at hk
     rcases List.mem_append.1 hkm with hkm | hkm
     · exact h4 k hk hkm
     · exact hown k hk hkm
   · have := hF.lt hkm
     rw [hat] at hk; injection hk with hk; omega
theorem wp_append_acc {P : Program} {w : World} {o : Oper} {a : Act} {K : Act -> World -> Prop} {Q : Exit -> Act -> World -> Prop} (s x : Operand) (t : TypeId)
 (ho : o.op = .call { callee := .builtin .append, args := #[s, x], argTypes := #[t, t] })
 (B0 : Nat) (e : TypeId) (i : TypeInfo) (z : Value) (size bytes : Nat) (ht : P.underlying t = some (.slice e)) (hi : P.info? e = some i) (hz : i.zero = some z)
 (hsize : i.size = size) (hby : i.bytes = bytes) (hzs : z.cells.size = size) (hsz : 0 < size)
 (v : Value) (ds : List D) (fp : List Nat) (hs : a.eval s = v) (hacc : Acc B0 w e size v ds fp)
 (ys : List D) (ao : Option Addr) (m c : Nat) (gp : List Nat) (hx : a.eval x = .slice ao m c) (hr : RepF w (.sl size ys) [.slice ao m c] gp)
 (hF : Fresh w B0 (fp ++ gp.tail)) (hown : ∀ k, v.ownBlock = some k -> k ∉ gp.tail)
 (h63 : ds.length + m <= maxLen) (hbytes : (ds.length + m) * bytes <= 140737488355328) (hbase : B0 <= w.heap.size)
 (h : ∀ ao' cap' w', Acc B0 w' e size (.slice ao' (ds.length + m) cap') (ds ++ ys) (fp ++ gp.tail) -> w.grownBy w' v.ownBlock -> K (a.put o.dst (.slice ao' (ds.length + m) cap')) w') : o.wp P a w K Q := by
 obtain ⟨ao', cap', w', hrun, h2, h3⟩ := run_append_acc (P := P) t o.type B0 e i z size bytes ht hi hz hsize hby hzs hsz v ds fp hacc ys ao m c gp hr hF hown h63 hbytes hbase
 unfold Oper.wp execOp
 simp only [ho, resolve, invoke, builtin, Sem.run_bind, Sem.run_pure, Result.andThen_ok, List.map_toArray, List.map_cons, List.map_nil, hs, hx, hrun]
 exact h ao' cap' w' h2 h3
theorem wpList_append_acc {P : Program} {w : World} {ops : Array Oper} {rest : List Oper} {o : Oper} {a : Act} {Q : Exit -> Act -> World -> Prop} (hgd : o.guard = none) (s x : Operand) (t : TypeId)
 (ho : o.op = .call { callee := .builtin .append, args := #[s, x], argTypes := #[t, t] })
 (B0 : Nat) (e : TypeId) (i : TypeInfo) (z : Value) (size bytes : Nat) (ht : P.underlying t = some (.slice e)) (hi : P.info? e = some i) (hz : i.zero = some z)
 (hsize : i.size = size) (hby : i.bytes = bytes) (hzs : z.cells.size = size) (hsz : 0 < size)
 (v : Value) (ds : List D) (fp : List Nat) (hs : a.eval s = v) (hacc : Acc B0 w e size v ds fp)
 (ys : List D) (ao : Option Addr) (m c : Nat) (gp : List Nat) (hx : a.eval x = .slice ao m c) (hr : RepF w (.sl size ys) [.slice ao m c] gp)
 (hF : Fresh w B0 (fp ++ gp.tail)) (hown : ∀ k, v.ownBlock = some k -> k ∉ gp.tail)
 (h63 : ds.length + m <= maxLen) (hbytes : (ds.length + m) * bytes <= 140737488355328) (hbase : B0 <= w.heap.size)
 (h : ∀ ao' cap' w', Acc B0 w' e size (.slice ao' (ds.length + m) cap') (ds ++ ys) (fp ++ gp.tail) -> w.grownBy w' v.ownBlock -> wpList P ops Q rest (a.put o.dst (.slice ao' (ds.length + m) cap')) w') : wpList P ops Q (o :: rest) a w :=
 wpList_plain hgd fun _ hK => wp_append_acc s x t ho B0 e i z size bytes ht hi hz hsize hby hzs hsz v ds fp hs hacc ys ao m c gp hx hr hF hown h63 hbytes hbase fun ao' cap' w' h2 h3 => hK _ _ (h ao' cap' w' h2 h3)
theorem Acc.below {B0 : Nat} {w0 w w' : World} {e : TypeId} {size : Nat} {v : Value} {ds : List D} {fp : List Nat} (h : Acc B0 w e size v ds fp) (hb : Below B0 w0 w) (hg : w.grownBy w' v.ownBlock) (hB : B0 <= w.heap.size) : Below B0 w0 w' :=
 hb.grown hg hB fun k hk => by
  obtain ⟨xs, ⟨_, h2⟩, _⟩ := h
  rcases h2 with ⟨rfl, _⟩ | ⟨g, cap, cur, rfl, hg', _⟩
  · cases hk
  · simp [Value.ownBlock] at hk; omega
theorem strInfo : (Tryz.prog.info? 9).map (fun i => (i.zero, i.size, i.bytes)) = some (some (.string ByteArray.empty), 1, 16) := by kernel_rfl
theorem repR_strs_fp {w : World} : ∀ {l : List ByteArray} {cs : List Value} {fp : List Nat}, RepR w 1 (l.map D.str) cs fp -> fp = []
 | [], cs, fp, h => by simp only [List.map_nil, RepR] at h; exact h.2
 | s :: l, cs, fp, h => by
  simp only [List.map_cons, RepR, RepF] at h
  obtain ⟨c1, c2, f1, f2, rfl, rfl, -, ⟨-, rfl⟩, h2⟩ := h
  simpa using repR_strs_fp h2
theorem RepF.strs_tail {w : World} {l : List ByteArray} {cs : List Value} {fp : List Nat} (h : RepF w (strs l) cs fp) : fp.tail = [] := by
 obtain ⟨ao, cap, -, -, -, -, h⟩ := RepF.sl_iff.1 h
 rcases h with ⟨-, rfl⟩ | ⟨b, o, cells, fp', -, -, rfl, -, -, h5⟩
 · rfl
 · exact repR_strs_fp h5
def AccT (B0 : Nat) (w : World) (v : Value) (l : List ByteArray) : Prop := Acc B0 w 9 1 v (l.map .str) []
theorem AccT.ext {B0 : Nat} {w w' : World} {v : Value} {l : List ByteArray} (h : AccT B0 w v l) (hx : Ext w w') : AccT B0 w' v l := Acc.ext h hx
theorem AccT.rep {B0 : Nat} {w : World} {v : Value} {l : List ByteArray} (h : AccT B0 w v l) : ∃ ao cap gp, v = .slice ao l.length cap /\ RepF w (strs l) [.slice ao l.length cap] gp /\ Fresh w B0 gp := by
 obtain ⟨ao, cap, gp, h1, h2, h3⟩ := Acc.rep h
 simp only [List.length_map] at h1 h2
 exact ⟨ao, cap, gp, h1, h2, h3⟩
theorem wp_append_strs {w : World} {o : Oper} {a : Act} {K : Act -> World -> Prop} {Q : Exit -> Act -> World -> Prop} (s x : Operand)
 (ho : o.op = .call { callee := .builtin .append, args := #[s, x], argTypes := #[24, 24] })
 (B0 : Nat) (v : Value) (l : List ByteArray) (hs : a.eval s = v) (hacc : AccT B0 w v l)
 (ys : List ByteArray) (ao : Option Addr) (m c : Nat) (hx : a.eval x = .slice ao m c) (hr : Rep w (strs ys) [.slice ao m c])
 (hlen : l.length + ys.length <= 1073741824) (hbase : B0 <= w.heap.size)
 (h : ∀ ao' cap' w', AccT B0 w' (.slice ao' (l.length + ys.length) cap') (l ++ ys) -> w.grownBy w' v.ownBlock -> K (a.put o.dst (.slice ao' (l.length + ys.length) cap')) w') : o.wp Tryz.prog a w K Q := by
 obtain ⟨i0, hi, hz0, hz1, hz2⟩ := info_parts strInfo
 obtain ⟨gp, hr⟩ := hr
 have ht := hr.strs_tail
 have hm : m = ys.length := by
  obtain ⟨_, _, h1, _⟩ := RepF.sl_iff.1 hr
  simp at h1; omega
 subst hm
 refine wp_append_acc s x 24 ho B0 9 i0 _ 1 16 Tryz.underlying24 hi hz0 hz1 hz2 rfl (by decide) v (l.map .str) [] hs hacc (ys.map .str) ao ys.length c gp hx hr (by rw [ht]; exact Fresh.nil _ _) (by rw [ht]; simp) (by simp [maxLen]; omega) (by simp; omega) hbase ?_
 intro ao' cap' w' h2 h3
 rw [ht] at h2
 simp only [List.length_map, List.append_nil, <- List.map_append] at h2 ⊢
 exact h ao' cap' w' h2 h3
theorem wpList_append_strs {w : World} {ops : Array Oper} {rest : List Oper} {o : Oper} {a : Act} {Q : Exit -> Act -> World -> Prop} (hgd : o.guard = none) (s x : Operand)
 (ho : o.op = .call { callee := .builtin .append, args := #[s, x], argTypes := #[24, 24] })
 (B0 : Nat) (v : Value) (l : List ByteArray) (hs : a.eval s = v) (hacc : AccT B0 w v l)
 (ys : List ByteArray) (ao : Option Addr) (m c : Nat) (hx : a.eval x = .slice ao m c) (hr : Rep w (strs ys) [.slice ao m c])
 (hlen : l.length + ys.length <= 1073741824) (hbase : B0 <= w.heap.size)
 (h : ∀ ao' cap' w', AccT B0 w' (.slice ao' (l.length + ys.length) cap') (l ++ ys) -> w.grownBy w' v.ownBlock -> wpList Tryz.prog ops Q rest (a.put o.dst (.slice ao' (l.length + ys.length) cap')) w') : wpList Tryz.prog ops Q (o :: rest) a w :=
 wpList_plain hgd fun _ hK => wp_append_strs s x ho B0 v l hs hacc ys ao m c hx hr hlen hbase fun ao' cap' w' h2 h3 => hK _ _ (h ao' cap' w' h2 h3)
theorem AccT.below {B0 : Nat} {w0 w w' : World} {v : Value} {l : List ByteArray} (h : AccT B0 w v l) (hb : Below B0 w0 w) (hg : w.grownBy w' v.ownBlock) (hB : B0 <= w.heap.size) : Below B0 w0 w' := Acc.below h hb hg hB
end Go.Proofs.YtndhpbjhkgdieaaGreatDoor
