/-
  PLAIN: what CheckUnit finds: the first problem of a unit.
  Conditions: those that each lemma states.
-/
import Derived.Test.YtlppoffneeglgaaGreatDoorRows
import Derived.Test.YtlppoffneeglgaaGreatDoorFnBlocks
import Derived.Test.YtlppoffneeglgaaGreatDoorExprOk
import Derived.Test.YtlppoffneeglgaaGreatDoorFnClasses
import Derived.Lib.SlicesS
namespace Go.Proofs.YtlppoffneeglgaaGreatDoor
open Go.RowKit
set_option linter.unusedSimpArgs false
set_option linter.unusedVariables false

theorem size_nil {a : ByteArray} (h : a.size = 0) : a = ⟨#[]⟩ := by
  obtain ⟨d⟩ := a
  simp only [ByteArray.size] at h
  rw [Array.size_eq_zero_iff.1 h]
/-- The first of two problems; the empty text is none. -/
def orT (a b : ByteArray) : ByteArray := if a.size = 0 then b else a
theorem orT_l (b : ByteArray) : orT ⟨#[]⟩ b = b := if_pos rfl
theorem orT_r (a : ByteArray) : orT a ⟨#[]⟩ = a := by
  unfold orT
  split
  · rename_i h; exact (size_nil h).symm
  · rfl
theorem orT_ne {a : ByteArray} (h : a.size ≠ 0) (b : ByteArray) : orT a b = a := if_neg h
theorem orT_z {a : ByteArray} (h : a.size = 0) (b : ByteArray) : orT a b = b := if_pos h
theorem orT_assoc (a b c : ByteArray) : orT (orT a b) c = orT a (orT b c) := by
  by_cases h : a.size = 0
  · rw [orT_z h, orT_z h]
  · rw [orT_ne h, orT_ne h, orT_ne h]
theorem orT_size (a b : ByteArray) : (orT a b).size = 0 ↔ a.size = 0 ∧ b.size = 0 := by
  unfold orT
  split
  · rename_i h; exact ⟨fun k => ⟨h, k⟩, fun k => k.2⟩
  · rename_i h; exact ⟨fun k => absurd k h, fun k => k.1⟩
/-- The first of many. -/
def firstT : List ByteArray → ByteArray
  | [] => ⟨#[]⟩
  | a :: l => orT a (firstT l)
theorem firstT_append : ∀ a b : List ByteArray, firstT (a ++ b) = orT (firstT a) (firstT b)
  | [], b => (orT_l _).symm
  | x :: a, b => by rw [List.cons_append, firstT, firstT_append a b, firstT, orT_assoc]
theorem firstT_size {l : List ByteArray} : (firstT l).size = 0 ↔ ∀ x, x ∈ l → x.size = 0 := by
  induction l with
  | nil => exact ⟨fun _ x hx => absurd hx List.not_mem_nil, fun _ => rfl⟩
  | cons a l ih => rw [firstT, orT_size, ih]; simp
theorem drop_cons {α : Type} {l : List α} {i : Nat} {x : α} (h : l[i]? = some x) : l.drop i = x :: l.drop (i + 1) := by
  obtain ⟨hlt, rfl⟩ := List.getElem?_eq_some_iff.1 h
  exact List.drop_eq_getElem_cons hlt

def resB : List ByteArray := [⟨#[115, 101, 108, 102]⟩, ⟨#[115, 117, 112, 101, 114]⟩, ⟨#[110, 105, 108]⟩, ⟨#[116, 114, 117, 101]⟩, ⟨#[102, 97, 108, 115, 101]⟩]
def res4 : List ByteArray := [⟨#[115, 101, 108, 102]⟩, ⟨#[110, 105, 108]⟩, ⟨#[116, 114, 117, 101]⟩, ⟨#[102, 97, 108, 115, 101]⟩]
def superN : ByteArray := ⟨#[115, 117, 112, 101, 114]⟩
/-- 'name N is in use', and the like. -/
def tUse (n : ByteArray) : ByteArray := (⟨#[110, 97, 109, 101, 32]⟩ : ByteArray) ++ n ++ ⟨#[32, 105, 115, 32, 105, 110, 32, 117, 115, 101]⟩
def tUnknown (n : ByteArray) : ByteArray := (⟨#[110, 97, 109, 101, 32]⟩ : ByteArray) ++ n ++ ⟨#[32, 105, 115, 32, 117, 110, 107, 110, 111, 119, 110]⟩
def tAssign (n : ByteArray) : ByteArray := (⟨#[110, 97, 109, 101, 32]⟩ : ByteArray) ++ n ++ ⟨#[32, 99, 97, 110, 32, 110, 111, 116, 32, 98, 101, 32, 97, 115, 115, 105, 103, 110, 101, 100]⟩
def tSuper : ByteArray := ⟨#[115, 117, 112, 101, 114, 32, 115, 116, 97, 110, 100, 115, 32, 111, 117, 116, 115, 105, 100, 101, 32, 111, 102, 32, 97, 32, 99, 108, 97, 115, 115]⟩
def tThere (n : ByteArray) : ByteArray := ⟨#[99, 108, 97, 115, 115, 32]⟩ ++ n ++ ⟨#[32, 105, 115, 32, 116, 104, 101, 114, 101, 32, 97, 108, 114, 101, 97, 100, 121]⟩
def tExtend (n : ByteArray) : ByteArray := ⟨#[99, 108, 97, 115, 115, 32]⟩ ++ n ++ ⟨#[32, 99, 97, 110, 32, 110, 111, 116, 32, 98, 101, 32, 101, 120, 116, 101, 110, 100, 101, 100]⟩
def tField (n : ByteArray) : ByteArray := ⟨#[102, 105, 101, 108, 100, 32]⟩ ++ n ++ ⟨#[32, 105, 115, 32, 105, 110, 32, 117, 115, 101]⟩
def tMany (n : ByteArray) : ByteArray := ⟨#[99, 108, 97, 115, 115, 32]⟩ ++ n ++ ⟨#[32, 104, 97, 115, 32, 116, 111, 111, 32, 109, 97, 110, 121, 32, 102, 105, 101, 108, 100, 115]⟩
def tMeth (n : ByteArray) : ByteArray := ⟨#[109, 101, 116, 104, 111, 100, 32]⟩ ++ n ++ ⟨#[32, 105, 115, 32, 116, 104, 101, 114, 101, 32, 97, 108, 114, 101, 97, 100, 121]⟩
theorem t_pos (a b c : ByteArray) (h : 0 < a.size) : (a ++ b ++ c).size ≠ 0 := by rw [ByteArray.size_append, ByteArray.size_append]; omega

abbrev Scope := List (ByteArray × Bool)
/-- A name of the scope, of the visible ones, of a class, or one that means something. -/
noncomputable def usedB (C V : List ByteArray) (D : Scope) (n : ByteArray) : Bool := hasB (D.map Prod.fst) n || hasB V n || hasB C n || hasB resB n
noncomputable def useP (C V : List ByteArray) (D : Scope) (n : ByteArray) : ByteArray := if usedB C V D n = true then tUse n else ⟨#[]⟩
/-- Names are declared one by one; the first k are parameters. -/
noncomputable def declP (C V : List ByteArray) (k : Int) : Nat → Scope → List ByteArray → ByteArray
  | _, _, [] => ⟨#[]⟩
  | i, D, n :: ns => orT (useP C V D n) (declP C V k (i + 1) (D ++ [(n, decide ((i : Int) < k))]) ns)
def flagsF (k : Int) : Nat → List ByteArray → Scope
  | _, [] => []
  | i, n :: ns => (n, decide ((i : Int) < k)) :: flagsF k (i + 1) ns
theorem flagsF_length (k : Int) : ∀ (i : Nat) (l : List ByteArray), (flagsF k i l).length = l.length
  | _, [] => rfl
  | i, n :: ns => by rw [flagsF, List.length_cons, flagsF_length k (i + 1) ns, List.length_cons]
theorem flagsF_fst (k : Int) : ∀ (i : Nat) (l : List ByteArray), (flagsF k i l).map Prod.fst = l
  | _, [] => rfl
  | i, n :: ns => by rw [flagsF, List.map_cons, flagsF_fst k (i + 1) ns]
noncomputable def nameP (C V : List ByteArray) (D : Scope) (n : ByteArray) : ByteArray := if (hasB (D.map Prod.fst) n || hasB V n || hasB C n || hasB res4 n) = true then ⟨#[]⟩ else tUnknown n
/-- The first of the scope's entries of this name is a variable. -/
noncomputable def varB (D : Scope) (n : ByteArray) : Bool := eqB (∃ k : Nat, D[k]? = some (n, false) ∧ ∀ j : Nat, j < k → ∀ b : Bool, D[j]? ≠ some (n, b)) True
noncomputable def asgP (V : List ByteArray) (D : Scope) (n : ByteArray) : ByteArray := if (varB D n || hasB V n) = true then ⟨#[]⟩ else tAssign n
def isSup (x : MExpr) : Prop := x.kind = 4 ∧ x.text = superN
noncomputable def supB (x : MExpr) : Bool := eqB (isSup x) True
noncomputable def headP (C V : List ByteArray) (D : Scope) (x : MExpr) : ByteArray :=
  if x.kind = 8 then declP C V x.number 0 D x.names else if x.kind = 4 then nameP C V D x.text else if x.kind = 5 then asgP V D x.text else ⟨#[]⟩
def nextD (D : Scope) (x : MExpr) : Scope := if x.kind = 8 then D ++ flagsF x.number 0 x.names else D
/-- What is found in kid i of x. -/
noncomputable def kdP (own : Bool) (g : MExpr → ByteArray) (x : MExpr) (i : Nat) (k : MExpr) : ByteArray :=
  if i = 0 ∧ x.kind = 6 ∧ supB k = true then (if own = true then ⟨#[]⟩ else tSuper) else if x.kind = 7 ∧ 0 < i then firstT (k.kids.map g) else g k
noncomputable def kdsP (own : Bool) (g : MExpr → ByteArray) (x : MExpr) : Nat → List MExpr → ByteArray
  | _, [] => ⟨#[]⟩
  | i, k :: l => orT (kdP own g x i k) (kdsP own g x (i + 1) l)
noncomputable def exP (C V : List ByteArray) (own : Bool) : Nat → Scope → MExpr → ByteArray
  | 0, _, _ => ⟨#[]⟩
  | n + 1, D, x => orT (headP C V D x) (kdsP own (exP C V own n (nextD D x)) x 0 x.kids)
theorem exP_succ (C V : List ByteArray) (own : Bool) (n : Nat) (D : Scope) (x : MExpr) : exP C V own (n + 1) D x = orT (headP C V D x) (kdsP own (exP C V own n (nextD D x)) x 0 x.kids) := rfl
theorem kdsP_plain {own : Bool} {g : MExpr → ByteArray} {x : MExpr} (h6 : x.kind ≠ 6) (h7 : x.kind ≠ 7) : ∀ (l : List MExpr) (i : Nat), kdsP own g x i l = firstT (l.map g)
  | [], _ => rfl
  | k :: l, i => by rw [kdsP, kdsP_plain h6 h7 l (i + 1), List.map_cons, firstT, kdP, if_neg (fun h => h6 h.2.1), if_neg (fun h => h7 h.1)]
theorem kdsP_send {own : Bool} {g : MExpr → ByteArray} {x : MExpr} (h7 : x.kind ≠ 7) : ∀ (l : List MExpr) (i : Nat), 0 < i → kdsP own g x i l = firstT (l.map g)
  | [], _, _ => rfl
  | k :: l, i, h => by rw [kdsP, kdsP_send h7 l (i + 1) (by omega), List.map_cons, firstT, kdP, if_neg (fun e => by omega), if_neg (fun e => h7 e.1)]
theorem kdsP_sup {own : Bool} {g : MExpr → ByteArray} {x k : MExpr} {l : List MExpr} (h6 : x.kind = 6) (hs : supB k = true) : kdsP own g x 0 (k :: l) = orT (if own = true then ⟨#[]⟩ else tSuper) (firstT (l.map g)) := by
  rw [kdsP, kdsP_send (by omega) l _ (by omega), kdP, if_pos ⟨rfl, h6, hs⟩]
theorem kdsP_nosup {own : Bool} {g : MExpr → ByteArray} {x k : MExpr} {l : List MExpr} (h6 : x.kind = 6) (hs : supB k = false) : kdsP own g x 0 (k :: l) = firstT ((k :: l).map g) := by
  rw [kdsP, kdsP_send (by omega) l _ (by omega), kdP, if_neg (fun h => by rw [hs] at h; exact Bool.false_ne_true h.2.2), if_neg (fun h => by omega), List.map_cons, firstT]
theorem kdsP_msgs {own : Bool} {g : MExpr → ByteArray} {x : MExpr} (h7 : x.kind = 7) : ∀ (l : List MExpr) (i : Nat), 0 < i → kdsP own g x i l = firstT (l.map fun m => firstT (m.kids.map g))
  | [], _, _ => rfl
  | k :: l, i, h => by rw [kdsP, kdsP_msgs h7 l (i + 1) (by omega), List.map_cons, firstT, kdP, if_neg (fun e => by omega), if_pos ⟨h7, h⟩]
theorem kdsP_casc {own : Bool} {g : MExpr → ByteArray} {x k : MExpr} {l : List MExpr} (h7 : x.kind = 7) : kdsP own g x 0 (k :: l) = orT (g k) (firstT (l.map fun m => firstT (m.kids.map g))) := by
  rw [kdsP, kdsP_msgs h7 l _ (by omega), kdP, if_neg (fun h => by omega), if_neg (fun h => by omega)]
/-- More fuel than nodes is enough. -/
theorem exP_fuel {C V : List ByteArray} {own : Bool} : ∀ (n m : Nat) (D : Scope) (x : MExpr), SizeOf.sizeOf x < n → SizeOf.sizeOf x < m → exP C V own n D x = exP C V own m D x
  | 0, _, _, _, h, _ => by omega
  | _, 0, _, _, _, h => by omega
  | n + 1, m + 1, D, x, hn, hm => by
    have key : ∀ (l : List MExpr), (∀ k, k ∈ l → SizeOf.sizeOf k < SizeOf.sizeOf x) → ∀ i, kdsP own (exP C V own n (nextD D x)) x i l = kdsP own (exP C V own m (nextD D x)) x i l := by
      intro l
      induction l with
      | nil => intro _ _; rfl
      | cons k l ih =>
        intro hl i
        have hk := hl k List.mem_cons_self
        have e1 : exP C V own n (nextD D x) k = exP C V own m (nextD D x) k := exP_fuel n m _ k (by omega) (by omega)
        have e2 : k.kids.map (exP C V own n (nextD D x)) = k.kids.map (exP C V own m (nextD D x)) := List.map_congr_left fun z hz => by
          have := MExpr.kid_lt hz
          exact exP_fuel n m _ z (by omega) (by omega)
        rw [kdsP, kdsP, ih (fun z hz => hl z (List.mem_cons_of_mem _ hz)) (i + 1), kdP, kdP, e1, e2]
    rw [exP_succ, exP_succ, key x.kids (fun k hk => MExpr.kid_lt hk) 0]
noncomputable def exV (C V : List ByteArray) (own : Bool) (D : Scope) (x : MExpr) : ByteArray := exP C V own (SizeOf.sizeOf x + 1) D x
theorem exV_fuel {C V : List ByteArray} {own : Bool} {n : Nat} {D : Scope} {x : MExpr} (h : SizeOf.sizeOf x < n) : exP C V own n D x = exV C V own D x := exP_fuel _ _ _ _ h (by omega)
theorem kdsP_congr {own : Bool} {g g' : MExpr → ByteArray} {x : MExpr} : ∀ (l : List MExpr) (i : Nat), (∀ k, k ∈ l → g k = g' k ∧ ∀ z, z ∈ k.kids → g z = g' z) → kdsP own g x i l = kdsP own g' x i l
  | [], _, _ => rfl
  | k :: l, i, h => by
    have h1 := h k List.mem_cons_self
    rw [kdsP, kdsP, kdsP_congr l (i + 1) (fun z hz => h z (List.mem_cons_of_mem _ hz)), kdP, kdP, h1.1, List.map_congr_left h1.2]
theorem exV_eq (C V : List ByteArray) (own : Bool) (D : Scope) (x : MExpr) : exV C V own D x = orT (headP C V D x) (kdsP own (exV C V own (nextD D x)) x 0 x.kids) := by
  unfold exV
  rw [exP_succ]
  congr 1
  refine kdsP_congr _ _ fun k hk => ⟨exV_fuel (MExpr.kid_lt hk), fun z hz => exV_fuel ?_⟩
  have := MExpr.kid_lt hk
  have := MExpr.kid_lt hz
  omega

theorem flagsF_snoc (k : Int) (x : ByteArray) : ∀ (l : List ByteArray) (j : Nat), flagsF k j (l ++ [x]) = flagsF k j l ++ [(x, decide (((j + l.length : Nat) : Int) < k))]
  | [], j => by simp [flagsF]
  | n :: l, j => by
    rw [List.cons_append, flagsF, flagsF_snoc k x l (j + 1), flagsF, List.cons_append, List.length_cons, show j + 1 + l.length = j + (l.length + 1) by omega]
theorem flagsF_take {k : Int} {l : List ByteArray} {i : Nat} {x : ByteArray} (h : l[i]? = some x) : flagsF k 0 (l.take (i + 1)) = flagsF k 0 (l.take i) ++ [(x, decide ((i : Int) < k))] := by
  have hlt := (List.getElem?_eq_some_iff.1 h).1
  rw [List.take_add_one, h, Option.toList_some, flagsF_snoc, List.length_take, Nat.min_eq_left (by omega), Nat.zero_add]
theorem hasB_res4 (s : ByteArray) : hasB res4 s = (hasB resB s && !eqB s superN) := by
  rw [Bool.eq_iff_iff, Bool.and_eq_true, hasB_iff, hasB_iff, Bool.not_eq_true', ← Bool.not_eq_true, eqB_iff]
  simp only [res4, resB, superN, List.mem_cons, List.not_mem_nil, or_false]
  constructor
  · rintro (h | h | h | h) <;> subst h <;> exact ⟨by simp, by decide⟩
  · rintro ⟨h | h | h | h | h, k⟩
    · exact Or.inl h
    · exact absurd h k
    · exact Or.inr (Or.inl h)
    · exact Or.inr (Or.inr (Or.inl h))
    · exact Or.inr (Or.inr (Or.inr h))
theorem varB_none {D : Scope} {n : ByteArray} (h : Lib.idxOfS (D.map Prod.fst) n < 0) : varB D n = false := eqB_ff (by
  intro e
  have e : ∃ k : Nat, D[k]? = some (n, false) ∧ ∀ j : Nat, j < k → ∀ b : Bool, D[j]? ≠ some (n, b) := by rw [e]; trivial
  obtain ⟨k, hk, -⟩ := e
  have := (Lib.idxOfS_nonneg_iff (D.map Prod.fst) n).2 (List.mem_map.2 ⟨_, List.mem_of_getElem? hk, rfl⟩)
  omega)
theorem idx_first : ∀ (zs : List ByteArray) (x : ByteArray) (i : Nat), 0 ≤ Lib.idxFromS zs x i → x ∈ zs → ∃ k : Nat, Lib.idxFromS zs x i = ((i + k : Nat) : Int) ∧ zs[k]? = some x ∧ ∀ j : Nat, j < k → zs[j]? ≠ some x
  | [], x, i, _, hm => absurd hm List.not_mem_nil
  | z :: zs, x, i, h, hm => by
    by_cases hz : z = x
    · exact ⟨0, by simp [Lib.idxFromS, hz], by simp [hz], fun j hj => by omega⟩
    · have e : Lib.idxFromS (z :: zs) x i = Lib.idxFromS zs x (i + 1) := by simp [Lib.idxFromS, hz]
      rw [e] at h ⊢
      obtain ⟨k, h1, h2, h3⟩ := idx_first zs x (i + 1) h (by
        rcases List.mem_cons.1 hm with rfl | hm
        · exact absurd rfl hz
        · exact hm)
      refine ⟨k + 1, by rw [h1]; congr 1; omega, by simpa using h2, fun j hj => ?_⟩
      cases j with
      | zero => simpa using hz
      | succ j => simpa using h3 j (by omega)
theorem varB_some {D : Scope} {n : ByteArray} (h : 0 ≤ Lib.idxOfS (D.map Prod.fst) n) : ∃ (k : Nat) (b : Bool), Lib.idxOfS (D.map Prod.fst) n = (k : Int) ∧ D[k]? = some (n, b) ∧ k < D.length ∧ varB D n = !b := by
  have hm := (Lib.idxOfS_nonneg_iff _ _).1 h
  obtain ⟨k, h1, h2, h3⟩ := idx_first _ n 0 h hm
  rw [Nat.zero_add] at h1
  rw [List.getElem?_map] at h2
  cases hd : D[k]? with
  | none => rw [hd] at h2; cases h2
  | some p =>
    rw [hd] at h2
    obtain ⟨m, b⟩ := p
    simp at h2
    subst h2
    have hlt := (List.getElem?_eq_some_iff.1 hd).1
    refine ⟨k, b, h1, hd, hlt, ?_⟩
    have h3' : ∀ j : Nat, j < k → ∀ c : Bool, D[j]? ≠ some (m, c) := fun j hj c hc => h3 j hj (by rw [List.getElem?_map, hc]; rfl)
    cases b
    · exact eqB_tt (by simp only [eq_iff_iff, iff_true]; exact ⟨k, hd, h3'⟩)
    · refine eqB_ff ?_
      simp only [eq_iff_iff, iff_true]
      rintro ⟨k2, hk2, h4⟩
      rcases Nat.lt_trichotomy k2 k with hl | rfl | hl
      · exact h3' k2 hl _ hk2
      · rw [hd] at hk2; simp at hk2
      · exact h4 k hl _ hd
theorem supB_tt {x : MExpr} (h1 : x.kind = 4) (h2 : x.text = superN) : supB x = true := eqB_tt (by simp [isSup, h1, h2])
theorem supB_ff {x : MExpr} (h : ¬ (x.kind = 4 ∧ x.text = superN)) : supB x = false := eqB_ff (by simpa [isSup] using h)

-- the classes
abbrev FMap := ByteArray → List ByteArray
def textN : ByteArray := ⟨#[116, 101, 120, 116]⟩
def extB : List ByteArray := [⟨#[79, 98, 106, 101, 99, 116]⟩, ⟨#[69, 120, 99, 101, 112, 116, 105, 111, 110]⟩, ⟨#[69, 114, 114, 111, 114]⟩, ⟨#[77, 101, 115, 115, 97, 103, 101, 78, 111, 116, 85, 110, 100, 101, 114, 115, 116, 111, 111, 100]⟩, ⟨#[90, 101, 114, 111, 68, 105, 118, 105, 100, 101]⟩]
noncomputable def baseF : FMap := fun n => if hasB extB.tail n = true then [textN] else []
noncomputable def putF (fm : FMap) (n : ByteArray) (l : List ByteArray) : FMap := fun s => if s = n then l else fm s
noncomputable def fldP (C : List ByteArray) : List ByteArray → List ByteArray → ByteArray
  | _, [] => ⟨#[]⟩
  | A, s :: l => orT (if (hasB A s || hasB resB s || hasB C s) = true then tField s else ⟨#[]⟩) (fldP C (A ++ [s]) l)
noncomputable def sameM (a b : MMethod) : Bool := eqB a.selector b.selector && (a.cls == b.cls)
noncomputable def mthP (m : MMethod) : List MMethod → ByteArray
  | [] => ⟨#[]⟩
  | e :: l => orT (if sameM e m = true then tMeth m.selector else ⟨#[]⟩) (mthP m l)
noncomputable def mthsP : List MMethod → List MMethod → ByteArray
  | _, [] => ⟨#[]⟩
  | before, m :: l => orT (mthP m before) (mthsP (before ++ [m]) l)
noncomputable def clsP (C known : List ByteArray) (fm : FMap) (d : MClassDef) : ByteArray :=
  orT (if (hasB known d.name || hasB resB d.name) = true then tThere d.name else ⟨#[]⟩)
  (orT (if (hasB extB d.parent || hasB (known.drop 16) d.parent) = true then ⟨#[]⟩ else tExtend d.parent)
  (orT (fldP C (fm d.parent) d.fields)
  (orT (if 8 < (fm d.parent).length + d.fields.length then tMany d.name else ⟨#[]⟩) (mthsP [] d.methods))))
noncomputable def clsF (fm : FMap) (d : MClassDef) : FMap := putF fm d.name (fm d.parent ++ d.fields)
noncomputable def clssP (C : List ByteArray) : List ByteArray → FMap → List MClassDef → ByteArray
  | _, _, [] => ⟨#[]⟩
  | known, fm, d :: l => orT (clsP C known fm d) (clssP C (known ++ [d.name]) (clsF fm d) l)
noncomputable def fmAll (l : List MClassDef) : FMap := l.foldl clsF baseF
noncomputable def metP (C : List ByteArray) (fm : FMap) (d : MClassDef) (m : MMethod) : ByteArray := exV C (if m.cls = true then [] else fm d.name) true [] (blockM m.params m.temps m.body)
noncomputable def checkV (u : MUnit) : ByteArray :=
  orT (clssP (builtinsL ++ u.classes.map (·.name)) builtinsL baseF u.classes)
  (orT (firstT (u.classes.map fun d => firstT (d.methods.map (metP (builtinsL ++ u.classes.map (·.name)) (fmAll u.classes) d))))
  (exV (builtinsL ++ u.classes.map (·.name)) [] false [] (blockM u.main.params u.main.temps u.main.body)))

end Go.Proofs.YtlppoffneeglgaaGreatDoor
