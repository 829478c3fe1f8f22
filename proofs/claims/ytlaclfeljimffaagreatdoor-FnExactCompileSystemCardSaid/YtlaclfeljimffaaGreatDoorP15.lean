/-
  SEVERAL TEXTS IN ONE: CONTRACTS: none: plain facts of core trees that are right; CONTRACTS: limits of routines: plain; PLAIN: the codes that a compiler of core trees makes; APPENDS of texts, and where the row lies then; THE LAWS' MARKS of instructions: a result's memory is written over and read again; CONTRACTS: rows of instructions and of codes, gathered, for the compilers; CONTRACTS: the compilers' states in memory; CONTRACTS: the program's compiler: an instruction put, nodes.
  Conditions: those that each lemma states.
-/
import Derived.Test.YtlaclfeljimffaaGreatDoorRows
import Derived.Laws.OwnMore
import Derived.Deep.RegionHeldLaw
import Derived.Deep.DeepCutAuto
import Derived.Test.YtlaclfeljimffaaGreatDoorP14
import Derived.Test.YtlaclfeljimffaaGreatDoorP11
import Derived.Test.YtlaclfeljimffaaGreatDoorP02
namespace Go.Proofs.YtlaclfeljimffaaGreatDoor
open Go.RowKit
set_option maxHeartbeats 8000000
set_option maxRecDepth 100000
set_option linter.unusedSimpArgs false
set_option linter.unusedVariables false
abbrev Fr := List (Int × Int)
def frD (F : Fr) : D := .sl 2 (F.map fun f => .st [.int f.1, .int f.2])
def frAt (F : Fr) (d : Int) : Int × Int := F.getD (F.length - 1 - d.toNat) (0, 0)
def FrOk (F : Fr) : Prop := F ≠ [] /\ ∀ f, f ∈ F -> 0 <= f.1 /\ f.1 <= f.2 /\ f.2 <= 30
def inR (a b n : Int) : Bool := decide (a <= n /\ n <= b)
noncomputable def tI (x : MCore) : Bool :=
 if x.kind = 2 then textB 40 x.text else if x.kind = 3 ∨ x.kind = 13 ∨ x.kind = 14 then selB x.text else if x.kind = 10 ∨ x.kind = 11 then nameB x.text else false
def nI (K : Int) (F : Fr) (x : MCore) : Bool :=
 if x.kind = 1 then inR 0 999999999 x.number
 else if x.kind = 8 then inR 0 ((frAt F x.depth).2 - 1) x.number
 else if x.kind = 9 then inR (frAt F x.depth).1 ((frAt F x.depth).2 - 1) x.number
 else if x.kind = 12 ∨ x.kind = 14 then inR 0 (K - 1) x.number
 else if x.kind = 16 then true
 else if x.kind = 20 then inR 0 1 x.number
 else if x.kind = 21 then inR (frAt F 0).1 ((frAt F 0).2 - 1) x.number
 else false
def dI (x : MCore) : Bool := decide (x.kind = 8 ∨ x.kind = 9 ∨ x.kind = 16)
noncomputable def kI (x : MCore) : Int :=
 if x.kind = 9 ∨ x.kind = 11 ∨ x.kind = 16 ∨ x.kind = 18 then 1
 else if x.kind = 13 then argsB x.text + 1
 else if x.kind = 14 then argsB x.text
 else if x.kind = 17 then max 2 (x.kids.length : Int)
 else if x.kind = 19 ∨ x.kind = 21 then 3
 else if x.kind = 20 then 2
 else 0
def txK (k : Int) : Bool := decide (k = 2 ∨ k = 3 ∨ k = 10 ∨ k = 11 ∨ k = 13 ∨ k = 14)
def nuK (k : Int) : Bool := decide (k = 1 ∨ k = 12 ∨ k = 14 ∨ k = 20 ∨ k = 21)
def eI (K : Int) (F : Fr) (x : MCore) : Prop :=
 (1 <= x.kind /\ x.kind <= 21) /\ ((x.kind = 8 ∨ x.kind = 9) -> inR 0 ((F.length : Int) - 1) x.depth = true /\ nI K F x = true) /\ (x.kind = 16 -> inR 0 30 x.depth = true /\ inR 0 x.depth x.number = true)
def gI (x : MCore) (t n d : Bool) (k : Int) : Prop :=
 (x.kids.length : Int) = k /\ (t = true ∨ (x.text = ⟨#[]⟩ /\ txK x.kind = false)) /\ (n = true ∨ (x.number = 0 /\ nuK x.kind = false)) /\ (d = true ∨ x.depth = 0)
def frIn (F : Fr) (x : MCore) : Fr := if x.kind = 16 then F ++ [(x.number, x.depth)] else F
def msgC (m : MCore) : Prop := m.kind = 13 /\ m.number = 0 /\ m.depth = 0 /\ argsB m.text = (m.kids.length : Int)
def cascH (x : MCore) : Prop := 2 <= x.kids.length /\ x.text = ⟨#[]⟩ /\ x.number = 0 /\ x.depth = 0
def okN : Nat -> Int -> Fr -> MCore -> Prop
 | 0, _, _, _ => False
 | n + 1, K, F, x =>
  (x.kind = 15 -> cascH x /\ (∀ z, z ∈ x.kids.take 1 -> okN n K F z) /\ ∀ m, m ∈ x.kids.tail -> msgC m /\ ∀ z, z ∈ m.kids -> okN n K F z) /\
  (x.kind ≠ 15 -> eI K F x /\ gI x (tI x) (nI K F x) (dI x) (kI x) /\ ∀ z, z ∈ x.kids -> okN n K (frIn F x) z)
theorem okN_casc {n : Nat} {K : Int} {F : Fr} {x : MCore} (h : x.kind = 15) : okN (n + 1) K F x ↔ cascH x /\ (∀ z, z ∈ x.kids.take 1 -> okN n K F z) /\ ∀ m, m ∈ x.kids.tail -> msgC m /\ ∀ z, z ∈ m.kids -> okN n K F z := by
 show ((_ -> _) /\ (_ -> _)) ↔ _
 constructor
 · intro g; exact g.1 h
 · intro g; exact ⟨fun _ => g, fun e => absurd h e⟩
theorem okN_node {n : Nat} {K : Int} {F : Fr} {x : MCore} (h : x.kind ≠ 15) : okN (n + 1) K F x ↔ eI K F x /\ gI x (tI x) (nI K F x) (dI x) (kI x) /\ ∀ z, z ∈ x.kids -> okN n K (frIn F x) z := by
 show ((_ -> _) /\ (_ -> _)) ↔ _
 constructor
 · intro g; exact g.2 h
 · intro g; exact ⟨fun e => absurd e h, fun _ => g⟩
theorem inR_iff {a b n : Int} : inR a b n = true ↔ a <= n /\ n <= b := by simp [inR]
theorem frOk_in {F : Fr} {x : MCore} (h : FrOk F) (hx : x.kind = 16 -> 0 <= x.number /\ x.number <= x.depth /\ x.depth <= 30) : FrOk (frIn F x) := by
 unfold frIn
 split
 · rename_i e
   refine ⟨by simp, fun f hf => ?_⟩
   rcases List.mem_append.1 hf with hf | hf
   · exact h.2 f hf
   · simp at hf; subst hf; exact hx e
 · exact h
theorem frAt_ok {F : Fr} (h : FrOk F) (d : Int) : 0 <= (frAt F d).1 /\ (frAt F d).1 <= (frAt F d).2 /\ (frAt F d).2 <= 30 := by
 unfold frAt
 have hl : 0 < F.length := List.length_pos_iff.2 h.1
 have hi : F.length - 1 - d.toNat < F.length := by omega
 rw [List.getD_eq_getElem?_getD, List.getElem?_eq_getElem hi]
 exact h.2 _ (List.getElem_mem hi)
theorem sel_args {s : ByteArray} : selB s = true ↔ 0 <= argsB s := by
 unfold selB argsB
 cases hasB opsL s <;> cases nameB s <;> cases kwB s <;> simp
def fitsR (r : MRoutine) : Prop := r.slots <= 30 /\ r.body.nodes <= 500 /\ r.body.deep <= 40 /\ r.body.slim
def routP (K : Int) (r : MRoutine) : Prop := (0 <= r.params /\ r.params <= r.slots) /\ fitsR r /\ okN 40 K [(r.params, r.slots)] r.body
abbrev CS := List MCode × List MInstr
def iN (op a b : Int) (t : ByteArray) : MInstr := ⟨op, a, b, t⟩
def iO (op : Int) : MInstr := iN op 0 0 ⟨#[]⟩
def pt (s : CS) (x : MInstr) : CS := (s.1, s.2 ++ [x])
def mdA (s : CS) (i : Nat) (v : Int) : CS := (s.1, s.2.modify i fun x => { x with a := v })
def mdB (s : CS) (i : Nat) (v : Int) : CS := (s.1, s.2.modify i fun x => { x with b := v })
def mdO (s : CS) (i : Nat) (v : Int) : CS := (s.1, s.2.modify i fun x => { x with op := v })
abbrev CF := MCore -> CS -> CS
def allF (f : CF) (l : List MCore) (s : CS) : CS := l.foldl (fun s k => f k s) s
def seqF (f : CF) (l : List MCore) (s : CS) : CS := (l.foldl (fun (p : Nat × CS) k => (p.1 + 1, f k (if p.1 = 0 then p.2 else pt p.2 (iO 16)))) (0, s)).2
def partF (f : CF) (last : Bool) (m : MCore) (s : CS) : CS :=
 bif last then pt (allF f m.kids s) (iN 13 0 0 m.text) else pt (pt (allF f m.kids (pt s (iO 17))) (iN 13 0 0 m.text)) (iO 16)
def partsF (f : CF) (n : Nat) (l : List MCore) (s : CS) : CS := (l.foldl (fun (p : Nat × CS) m => (p.1 + 1, partF f (decide (p.1 + 1 = n)) m p.2)) (0, s)).2
def codeF (f : CF) (blk : Bool) (p sl : Int) (body : MCore) (cs : List MCode) : List MCode := (f body (cs, [])).1 ++ [⟨blk, p, sl, (f body (cs, [])).2 ++ [iO 19]⟩]
def blockF (f : CF) (c : MCore) (k : MCore) (s : CS) : CS :=
 let cs := codeF f true c.number c.depth k s.1
 pt (cs, s.2) (iN 15 (cs.length - 1 : Nat) 0 ⟨#[]⟩)
def ifF (f : CF) (a b c : MCore) (s : CS) : CS :=
 let s1 := f a s
 let s2 := f b (pt s1 (iO 21))
 let s3 := pt s2 (iO 20)
 let s4 := f c (mdA s3 s1.2.length s3.2.length)
 mdA (mdB s4 s1.2.length s4.2.length) s2.2.length s4.2.length
def whileF (f : CF) (n : Int) (a b : MCore) (s : CS) : CS :=
 let s1 := f a (pt s (iO 23))
 let s2 := pt (pt (f b (pt s1 (iO (if n = 0 then 22 else 21)))) (iO 16)) (iN 20 s.2.length 0 ⟨#[]⟩)
 let s3 := pt (mdA s2 s1.2.length s2.2.length) (iO 4)
 mdB s3 s1.2.length s3.2.length
def countF (f : CF) (n : Int) (l : List MCore) (c : MCore) (s : CS) : CS :=
 let s1 := allF f l s
 let s2 := pt (pt s1 (iO 24)) (iN 25 n 0 ⟨#[]⟩)
 let s3 := pt (pt (f c s2) (iO 16)) (iN 26 n s2.2.length ⟨#[]⟩)
 mdB (mdB s3 s1.2.length s3.2.length) (s1.2.length + 1) s3.2.length
def nilC : MCore := ⟨4, ⟨#[]⟩, 0, 0, []⟩
def kidC (c : MCore) (i : Nat) : MCore := c.kids.getD i nilC
def shp (c : MCore) : Prop := (c.kind = 15 -> 1 <= c.kids.length) /\ (c.kind = 16 -> c.kids.length = 1) /\ (c.kind = 19 -> c.kids.length = 3) /\ (c.kind = 20 -> c.kids.length = 2) /\ (c.kind = 21 -> c.kids.length = 3)
instance (c : MCore) : Decidable (shp c) := by unfold shp; infer_instance
def stepG (f : CF) (c : MCore) (s : CS) : CS :=
 if c.kind = 1 ∨ c.kind = 12 then pt s (iN c.kind c.number 0 ⟨#[]⟩)
 else if c.kind = 2 ∨ c.kind = 3 then pt s (iN c.kind 0 0 c.text)
 else if c.kind = 4 ∨ c.kind = 5 ∨ c.kind = 6 ∨ c.kind = 7 then pt s (iO c.kind)
 else if c.kind = 8 ∨ c.kind = 9 then pt (allF f c.kids s) (iN c.kind c.number c.depth ⟨#[]⟩)
 else if c.kind = 10 ∨ c.kind = 11 ∨ c.kind = 13 then pt (allF f c.kids s) (iN c.kind 0 0 c.text)
 else if c.kind = 14 then pt (allF f c.kids s) (iN 14 c.number 0 c.text)
 else if c.kind = 15 then partsF f (c.kids.length - 1) c.kids.tail (f (kidC c 0) s)
 else if c.kind = 16 then blockF f c (kidC c 0) s
 else if c.kind = 17 then seqF f c.kids s
 else if c.kind = 18 then pt (allF f c.kids s) (iO 18)
 else if c.kind = 19 then ifF f (kidC c 0) (kidC c 1) (kidC c 2) s
 else if c.kind = 20 then whileF f c.number (kidC c 0) (kidC c 1) s
 else if c.kind = 21 then countF f c.number (c.kids.take 2) (kidC c 2) s
 else s
def stepF (f : CF) (c : MCore) (s : CS) : CS := if shp c then stepG f c s else s
def cmp : Nat -> CF
 | 0 => fun _ s => s
 | n + 1 => stepF (cmp n)
abbrev CE := List MCode × List MEntry
def routF (f : CF) (s : CE) (r : MRoutine) : CE :=
 let cs := codeF f false r.params r.slots r.body s.1
 (cs, s.2 ++ [⟨r.owner, r.cls, r.selector, (cs.length - 1 : Nat)⟩])
def routsF (f : CF) (l : List MRoutine) : CE := l.foldl (routF f) ([], [])
def baseF (f : CF) (x : MSystem) : MCodeBase :=
 let s := routsF f x.routines
 let cs := codeF f false x.main.params x.main.slots x.main.body s.1
 ⟨x.classes, cs, s.2, (cs.length - 1 : Nat)⟩
def BaseOk (b : MCodeBase) : Prop := (∀ c, c ∈ b.codes -> c.instrs.length <= 900) /\ b.codes.length <= 200
def zBase : MCodeBase := ⟨[], [], [], 0⟩
def Adds (n : Nat) (s t : CS) : Prop := s.2.length <= t.2.length /\ t.2.length <= s.2.length + 8 * n /\ s.1.length <= t.1.length /\ t.1.length <= s.1.length + n
def Adds1 (n : Nat) (s t : CS) : Prop := s.2.length <= t.2.length /\ t.2.length + 1 <= s.2.length + 8 * n /\ s.1.length <= t.1.length /\ t.1.length <= s.1.length + n
def Few (f : CF) : Prop := ∀ (c : MCore) (s : CS), Adds1 c.nodes s (f c s)
theorem Adds.refl (s : CS) : Adds 0 s s := ⟨Nat.le_refl _, Nat.le_refl _, Nat.le_refl _, Nat.le_refl _⟩
theorem Adds.trans {n k : Nat} {s t u : CS} (h : Adds n s t) (g : Adds k t u) : Adds (n + k) s u := by
 obtain ⟨a1, a2, a3, a4⟩ := h
 obtain ⟨b1, b2, b3, b4⟩ := g
 exact ⟨by omega, by omega, by omega, by omega⟩
theorem pt_len (s : CS) (x : MInstr) : (pt s x).2.length = s.2.length + 1 /\ (pt s x).1 = s.1 := by simp [pt]
theorem mdA_len (s : CS) (i : Nat) (v : Int) : (mdA s i v).2.length = s.2.length /\ (mdA s i v).1 = s.1 := by simp [mdA]
theorem mdB_len (s : CS) (i : Nat) (v : Int) : (mdB s i v).2.length = s.2.length /\ (mdB s i v).1 = s.1 := by simp [mdB]
theorem allF_append (f : CF) (l k : List MCore) (s : CS) : allF f (l ++ k) s = allF f k (allF f l s) := by simp [allF]
theorem allF_succ (f : CF) {l : List MCore} {k : Nat} (h : k < l.length) (s : CS) : allF f (l.take (k + 1)) s = f l[k] (allF f (l.take k) s) := by
 rw [List.take_succ_eq_append_getElem h, allF_append]; rfl
theorem seqF_fst (f : CF) (l : List MCore) (s : CS) : ∀ n, (l.foldl (fun (p : Nat × CS) k => (p.1 + 1, f k (if p.1 = 0 then p.2 else pt p.2 (iO 16)))) (n, s)).1 = n + l.length := by
 induction l generalizing s with
 | nil => intro n; rfl
 | cons x l ih => intro n; simp only [List.foldl_cons, List.length_cons]; rw [ih]; omega
theorem seqF_succ (f : CF) {l : List MCore} {k : Nat} (h : k < l.length) (s : CS) : seqF f (l.take (k + 1)) s = f l[k] (if k = 0 then seqF f (l.take k) s else pt (seqF f (l.take k) s) (iO 16)) := by
 unfold seqF
 rw [List.take_succ_eq_append_getElem h, List.foldl_append]
 simp only [List.foldl_cons, List.foldl_nil]
 rw [seqF_fst]
 have : 0 + (l.take k).length = k := by simp; omega
 rw [this]
theorem partsF_fst (f : CF) (n : Nat) (l : List MCore) (s : CS) : ∀ m, (l.foldl (fun (p : Nat × CS) m => (p.1 + 1, partF f (decide (p.1 + 1 = n)) m p.2)) (m, s)).1 = m + l.length := by
 induction l generalizing s with
 | nil => intro n; rfl
 | cons x l ih => intro n; simp only [List.foldl_cons, List.length_cons]; rw [ih]; omega
theorem partsF_succ (f : CF) (n : Nat) {l : List MCore} {k : Nat} (h : k < l.length) (s : CS) : partsF f n (l.take (k + 1)) s = partF f (decide (k + 1 = n)) l[k] (partsF f n (l.take k) s) := by
 unfold partsF
 rw [List.take_succ_eq_append_getElem h, List.foldl_append]
 simp only [List.foldl_cons, List.foldl_nil]
 rw [partsF_fst]
 have : 0 + (l.take k).length = k := by simp; omega
 rw [this]
theorem Adds1.adds {n : Nat} {s t : CS} (h : Adds1 n s t) : Adds n s t := by
 obtain ⟨a1, a2, a3, a4⟩ := h
 exact ⟨by omega, by omega, by omega, by omega⟩
theorem Adds.one {n k : Nat} {s t : CS} (h : Adds n s t) (g : n < k) : Adds1 k s t := by
 obtain ⟨a1, a2, a3, a4⟩ := h
 exact ⟨by omega, by omega, by omega, by omega⟩
theorem allF_adds {f : CF} (h : Few f) : ∀ (l : List MCore) (s : CS), Adds (MCore.nodesL l) s (allF f l s)
 | [], s => by show Adds 0 s s; exact Adds.refl s
 | x :: l, s => by
  have h1 := (h x s).adds
  have h2 := allF_adds h l (f x s)
  have := h1.trans h2
  simp only [MCore.nodesL] at this ⊢
  exact this
theorem kid_nodes {c : MCore} {i : Nat} (h : i < c.kids.length) : (kidC c i).nodes <= MCore.nodesL c.kids := by
 unfold kidC
 rw [List.getD_eq_getElem?_getD, List.getElem?_eq_getElem h]
 exact MCore.nodes_mem (List.getElem_mem h)
theorem kid_two {c : MCore} (h : c.kids.length = 2) : (kidC c 0).nodes + (kidC c 1).nodes = MCore.nodesL c.kids := by
 unfold kidC
 match h2 : c.kids, h with
 | [a, b], _ => simp [MCore.nodesL]
theorem kid_three {c : MCore} (h : c.kids.length = 3) : (kidC c 0).nodes + (kidC c 1).nodes + (kidC c 2).nodes = MCore.nodesL c.kids := by
 unfold kidC
 match h2 : c.kids, h with
 | [a, b, d], _ => simp [MCore.nodesL]; omega
theorem kid_front {c : MCore} (h : c.kids.length = 3) : MCore.nodesL (c.kids.take 2) + (kidC c 2).nodes = MCore.nodesL c.kids := by
 unfold kidC
 match h2 : c.kids, h with
 | [a, b, d], _ => simp [MCore.nodesL]; omega
theorem kid_head {c : MCore} (h : 1 <= c.kids.length) : (kidC c 0).nodes + MCore.nodesL c.kids.tail = MCore.nodesL c.kids := by
 unfold kidC
 match h2 : c.kids, h with
 | a :: l, _ => simp [MCore.nodesL]
theorem seqF_adds {f : CF} (h : Few f) (l : List MCore) (s : CS) : ∀ k, k <= l.length -> (seqF f (l.take k) s).2.length <= s.2.length + 8 * MCore.nodesL (l.take k) /\ s.2.length <= (seqF f (l.take k) s).2.length /\ s.1.length <= (seqF f (l.take k) s).1.length /\ (seqF f (l.take k) s).1.length <= s.1.length + MCore.nodesL (l.take k)
 | 0, _ => by simp [seqF, MCore.nodesL]
 | k + 1, hk => by
  obtain ⟨a1, a2, a3, a4⟩ := seqF_adds h l s k (by omega)
  rw [seqF_succ f (by omega), MCore.nodesL_succ (by omega)]
  generalize seqF f (l.take k) s = t at *
  by_cases h0 : k = 0
  · rw [if_pos h0]
    obtain ⟨b1, b2, b3, b4⟩ := h l[k] t
    exact ⟨by omega, by omega, by omega, by omega⟩
  · rw [if_neg h0]
    obtain ⟨b1, b2, b3, b4⟩ := h l[k] (pt t (iO 16))
    generalize f l[k] (pt t (iO 16)) = u at *
    simp only [pt, List.length_append, List.length_singleton] at b1 b2 b3 b4
    exact ⟨by omega, by omega, by omega, by omega⟩
theorem partF_adds {f : CF} (h : Few f) (b : Bool) (m : MCore) (s : CS) : Adds m.nodes s (partF f b m s) := by
 unfold partF
 have hn := MCore.nodes_eq m
 cases b
 · obtain ⟨b1, b2, b3, b4⟩ := allF_adds h m.kids (pt s (iO 17))
   simp only [cond_false, Adds, pt, List.length_append, List.length_singleton] at b1 b2 b3 b4 ⊢
   exact ⟨by omega, by omega, by omega, by omega⟩
 · obtain ⟨b1, b2, b3, b4⟩ := allF_adds h m.kids s
   simp only [cond_true, Adds, pt, List.length_append, List.length_singleton] at b1 b2 b3 b4 ⊢
   exact ⟨by omega, by omega, by omega, by omega⟩
theorem partsF_adds {f : CF} (h : Few f) (n : Nat) (l : List MCore) (s : CS) : ∀ k, k <= l.length -> Adds (MCore.nodesL (l.take k)) s (partsF f n (l.take k) s)
 | 0, _ => by simp [partsF, MCore.nodesL]; exact Adds.refl s
 | k + 1, hk => by
  have h1 := partsF_adds h n l s k (by omega)
  rw [partsF_succ f n (by omega), MCore.nodesL_succ (by omega)]
  exact h1.trans (partF_adds h _ _ _)
theorem codeF_len {f : CF} (h : Few f) (b : Bool) (p sl : Int) (c : MCore) (cs : List MCode) : cs.length + 1 <= (codeF f b p sl c cs).length /\ (codeF f b p sl c cs).length <= cs.length + c.nodes + 1 := by
 obtain ⟨b1, b2, b3, b4⟩ := h c (cs, [])
 simp only [codeF, List.length_append, List.length_singleton] at b1 b2 b3 b4 ⊢
 exact ⟨by omega, by omega⟩
theorem stepF_few {f : CF} (h : Few f) : Few (stepF f) := fun c s => by
 have hn := MCore.nodes_eq c
 unfold stepF
 split
 · rename_i hs
   obtain ⟨s15, s16, s19, s20, s21⟩ := hs
   have hp : ∀ x, Adds1 c.nodes s (pt s x) := fun x => by
    simp only [Adds1, pt, List.length_append, List.length_singleton]
    exact ⟨by omega, by omega, by omega, by omega⟩
   have ha : ∀ x, Adds1 c.nodes s (pt (allF f c.kids s) x) := fun x => by
    obtain ⟨b1, b2, b3, b4⟩ := allF_adds h c.kids s
    simp only [Adds1, pt, List.length_append, List.length_singleton]
    exact ⟨by omega, by omega, by omega, by omega⟩
   unfold stepG
   by_cases hk : c.kind = 1 ∨ c.kind = 12
   · rw [if_pos hk]
     exact hp _
   rw [if_neg hk]
   clear hk
   by_cases hk : c.kind = 2 ∨ c.kind = 3
   · rw [if_pos hk]
     exact hp _
   rw [if_neg hk]
   clear hk
   by_cases hk : c.kind = 4 ∨ c.kind = 5 ∨ c.kind = 6 ∨ c.kind = 7
   · rw [if_pos hk]
     exact hp _
   rw [if_neg hk]
   clear hk
   by_cases hk : c.kind = 8 ∨ c.kind = 9
   · rw [if_pos hk]
     exact ha _
   rw [if_neg hk]
   clear hk
   by_cases hk : c.kind = 10 ∨ c.kind = 11 ∨ c.kind = 13
   · rw [if_pos hk]
     exact ha _
   rw [if_neg hk]
   clear hk
   by_cases hk : c.kind = 14
   · rw [if_pos hk]
     exact ha _
   rw [if_neg hk]
   clear hk
   by_cases hk : c.kind = 15
   · rw [if_pos hk]
     have h0 := (h (kidC c 0) s).adds
     have h1 := partsF_adds h (c.kids.length - 1) c.kids.tail (f (kidC c 0) s) c.kids.tail.length (Nat.le_refl _)
     rw [List.take_length] at h1
     have := kid_head (s15 hk)
     exact (h0.trans h1).one (by omega)
   rw [if_neg hk]
   clear hk
   by_cases hk : c.kind = 16
   · rw [if_pos hk]
     have h1 := kid_nodes (c := c) (i := 0) (by rw [s16 hk]; omega)
     obtain ⟨b1, b2⟩ := codeF_len h true c.number c.depth (kidC c 0) s.1
     unfold blockF
     generalize codeF f true c.number c.depth (kidC c 0) s.1 = cs at *
     show s.2.length <= (s.2 ++ [_]).length /\ (s.2 ++ [_]).length + 1 <= s.2.length + 8 * c.nodes /\ s.1.length <= cs.length /\ cs.length <= s.1.length + c.nodes
     rw [List.length_append, List.length_singleton]
     exact ⟨by omega, by omega, by omega, by omega⟩
   rw [if_neg hk]
   clear hk
   by_cases hk : c.kind = 17
   · rw [if_pos hk]
     obtain ⟨b1, b2, b3, b4⟩ := seqF_adds h c.kids s c.kids.length (Nat.le_refl _)
     rw [List.take_length] at b1 b2 b3 b4
     have hl : c.kids.length <= MCore.nodesL c.kids := by
      have : ∀ l : List MCore, l.length <= MCore.nodesL l := fun l => by
       induction l with
       | nil => simp
       | cons x l ih => have := MCore.nodes_eq x; simp only [List.length_cons, MCore.nodesL]; omega
      exact this _
     exact ⟨by omega, by omega, by omega, by omega⟩
   rw [if_neg hk]
   clear hk
   by_cases hk : c.kind = 18
   · rw [if_pos hk]
     exact ha _
   rw [if_neg hk]
   clear hk
   by_cases hk : c.kind = 19
   · rw [if_pos hk]
     have hs := kid_three (s19 hk)
     obtain ⟨a1, a2, a3, a4⟩ := h (kidC c 0) s
     simp only [ifF]
     generalize f (kidC c 0) s = t1 at *
     obtain ⟨b1, b2, b3, b4⟩ := h (kidC c 1) (pt t1 (iO 21))
     generalize f (kidC c 1) (pt t1 (iO 21)) = t2 at *
     obtain ⟨c1, c2, c3, c4⟩ := h (kidC c 2) (mdA (pt t2 (iO 20)) t1.2.length (pt t2 (iO 20)).2.length)
     generalize f (kidC c 2) (mdA (pt t2 (iO 20)) t1.2.length (pt t2 (iO 20)).2.length) = t3 at *
     simp only [Adds1, Adds, pt, mdA, mdB, List.length_append, List.length_singleton, List.length_modify] at *
     exact ⟨by omega, by omega, by omega, by omega⟩
   rw [if_neg hk]
   clear hk
   by_cases hk : c.kind = 20
   · rw [if_pos hk]
     have hs := kid_two (s20 hk)
     simp only [whileF]
     obtain ⟨a1, a2, a3, a4⟩ := h (kidC c 0) (pt s (iO 23))
     generalize f (kidC c 0) (pt s (iO 23)) = t1 at *
     obtain ⟨b1, b2, b3, b4⟩ := h (kidC c 1) (pt t1 (iO (if c.number = 0 then 22 else 21)))
     generalize f (kidC c 1) (pt t1 (iO (if c.number = 0 then 22 else 21))) = t2 at *
     simp only [Adds1, Adds, pt, mdA, mdB, List.length_append, List.length_singleton, List.length_modify] at *
     exact ⟨by omega, by omega, by omega, by omega⟩
   rw [if_neg hk]
   clear hk
   by_cases hk : c.kind = 21
   · rw [if_pos hk]
     have hs := kid_front (s21 hk)
     simp only [countF]
     obtain ⟨a1, a2, a3, a4⟩ := allF_adds h (c.kids.take 2) s
     generalize allF f (c.kids.take 2) s = t1 at *
     obtain ⟨b1, b2, b3, b4⟩ := h (kidC c 2) (pt (pt t1 (iO 24)) (iN 25 c.number 0 ⟨#[]⟩))
     generalize f (kidC c 2) (pt (pt t1 (iO 24)) (iN 25 c.number 0 ⟨#[]⟩)) = t2 at *
     simp only [Adds1, Adds, pt, mdA, mdB, List.length_append, List.length_singleton, List.length_modify] at *
     exact ⟨by omega, by omega, by omega, by omega⟩
   · rw [if_neg hk]
     exact (Adds.refl s).one (by omega)
 · exact (Adds.refl s).one (by omega)
theorem cmp_few : ∀ n, Few (cmp n)
 | 0 => fun c s => (Adds.refl s).one (by have := MCore.nodes_eq c; omega)
 | n + 1 => stepF_few (cmp_few n)
theorem shp_of {n : Nat} {K : Int} {F : Fr} {c : MCore} (h : okN (n + 1) K F c) : shp c := by
 refine ⟨fun hk => ?_, fun hk => ?_, fun hk => ?_, fun hk => ?_, fun hk => ?_⟩
 · have := ((okN_casc hk).1 h).1.1; omega
 · have := ((okN_node (by omega)).1 h).2.1.1; simp [kI, hk] at this; omega
 · have := ((okN_node (by omega)).1 h).2.1.1; simp [kI, hk] at this; omega
 · have := ((okN_node (by omega)).1 h).2.1.1; simp [kI, hk] at this; omega
 · have := ((okN_node (by omega)).1 h).2.1.1; simp [kI, hk] at this; omega
theorem cmp_step {n : Nat} {K : Int} {F : Fr} {c : MCore} (h : okN (n + 1) K F c) (s : CS) : cmp (n + 1) c s = stepG (cmp n) c s := if_pos (shp_of h)
theorem Touch.trans' {a b c : World} {fp gp : List Nat} (h : Touch a b fp) (k : Touch b c gp) (hg : ∀ x, x ∈ gp -> x ∈ fp ∨ a.heap.size <= x) : Touch a c fp :=
 ⟨k.os.trans h.os, k.tape.trans h.tape, k.output.trans h.output, Nat.le_trans h.size k.size, fun i hi hn => (k.block i (Nat.lt_of_lt_of_le hi h.size) (fun hm => (hg i hm).elim hn (fun h => by omega))).trans (h.block i hi hn)⟩
theorem Acc.touch {B0 : Nat} {w w' : World} {e : TypeId} {size : Nat} {v : Value} {ds : List D} {fp gp : List Nat} (h : Acc B0 w e size v ds gp) (ht : Touch w w' fp) (hv : ∀ k, v.ownBlock = some k -> k ∉ fp) (hg : ∀ k, k ∈ gp -> k ∉ fp) : Acc B0 w' e size v ds gp := by
 obtain ⟨xs, h1, h2, h3, h4⟩ := h
 refine ⟨xs, ?_, h2.keep _ _ fun k hk => ht.block k (h3.lt hk) (hg k hk), h3.touch ht hg, h4⟩
 obtain ⟨k1, k2⟩ := h1
 refine ⟨k1, ?_⟩
 rcases k2 with k2 | ⟨g, cap, cur, rfl, hg, hh, r⟩
 · exact Or.inl k2
 · exact Or.inr ⟨g, cap, cur, rfl, hg, (ht.block g (Array.getElem?_eq_some_iff.1 hh).1 (hv g rfl)).trans hh, r⟩
theorem Acc.ge {B0 : Nat} {w : World} {e : TypeId} {size : Nat} {v : Value} {ds : List D} {fp : List Nat} (h : Acc B0 w e size v ds fp) {k : Nat} (hk : v.ownBlock = some k) : B0 <= k /\ k < w.heap.size := by
 obtain ⟨xs, ⟨_, h2⟩, _⟩ := h
 rcases h2 with ⟨rfl, _⟩ | ⟨g, cap, cur, rfl, hg, hh, _⟩
 · cases hk
 · simp [Value.ownBlock] at hk
   subst hk
   exact ⟨hg, (Array.getElem?_eq_some_iff.1 hh).1⟩
def icells : List MInstr -> List Value
 | [] => []
 | x :: l => .int .i64 x.op :: .int .i64 x.a :: .int .i64 x.b :: .string x.text :: icells l
theorem repR_ins (w : World) : ∀ l : List MInstr, RepR w 4 (l.map MInstr.d) (icells l) []
 | [] => by simp [RepR, icells]
 | x :: l => by
  simp only [List.map_cons, RepR]
  exact ⟨[.int .i64 x.op, .int .i64 x.a, .int .i64 x.b, .string x.text], _, [], [], rfl, rfl, rfl, MInstr.shut, repR_ins w l⟩
theorem repR_ins_inv {w : World} : ∀ {l : List MInstr} {cells : List Value} {fp : List Nat}, RepR w 4 (l.map MInstr.d) cells fp -> cells = icells l /\ fp = []
 | [], cells, fp, h => by simpa [RepR, icells] using h
 | x :: l, cells, fp, h => by
  simp only [List.map_cons, RepR] at h
  obtain ⟨c1, c2, f1, f2, rfl, rfl, -, h1, h⟩ := h
  obtain ⟨rfl, rfl⟩ := repR_ins_inv h
  rw [MInstr.d_eq] at h1
  simp only [RepF, RepS] at h1
  obtain ⟨_, _, _, _, rfl, rfl, ⟨rfl, rfl⟩, _, _, _, _, rfl, rfl, ⟨rfl, rfl⟩, _, _, _, _, rfl, rfl, ⟨rfl, rfl⟩, _, _, _, _, rfl, rfl, ⟨rfl, rfl⟩, rfl, rfl⟩ := h1
  exact ⟨rfl, rfl⟩
theorem insInfo : (Tryz.prog.info? 147).map (fun i => (i.zero, i.size, i.bytes)) = some (some (.agg #[.int .i64 0, .int .i64 0, .int .i64 0, .string ByteArray.empty]), 4, 40) := by kernel_rfl
theorem codeInfo : (Tryz.prog.info? 88).map (fun i => (i.zero, i.size, i.bytes)) = some (some (.agg #[.bool false, .int .i64 0, .int .i64 0, .slice none 0 0]), 4, 48) := by kernel_rfl
def AccI (B0 : Nat) (w : World) (v : Value) (l : List MInstr) : Prop := Acc B0 w 147 4 v (l.map MInstr.d) []
theorem RepF.ins_row {w : World} {b : Nat} {x : MInstr} (hO : Own w b 147 #[.int .i64 x.op, .int .i64 x.a, .int .i64 x.b, .string x.text]) :
 RepF w (.sl 4 [x.d]) [.slice (some ⟨b, 0, none⟩) 1 1] [b] := by
 refine RepF.sl_iff.2 ⟨_, 1, by simp, by simp, by unfold maxLen; omega, by simp, Or.inr ⟨b, 0, icells [x], [], by simp, rfl, rfl, hO.lt, fun j c hj => ?_, repR_ins w [x]⟩⟩
 rw [Nat.zero_add, hO.cell]
 simpa [icells] using hj
theorem AccI.rep {B0 : Nat} {w : World} {v : Value} {l : List MInstr} (h : AccI B0 w v l) : ∃ ao cap gp, v = .slice ao l.length cap /\ RepF w (MInstrs l) [.slice ao l.length cap] gp /\ Fresh w B0 gp /\ ∀ k, k ∈ gp -> v.ownBlock = some k := by
 obtain ⟨xs, ⟨h1, h2⟩, h3, h4, h5⟩ := h
 rcases h2 with ⟨rfl, hn⟩ | ⟨g, cap, cur, rfl, hg, hh, hnc, hcm, hcs, htk⟩
 · obtain rfl : l = [] := List.length_eq_zero_iff.1 (by simpa using hn)
   exact ⟨none, 0, [], rfl, RepF.sl_iff.2 ⟨_, _, rfl, by simp, by unfold maxLen; omega, by simp, Or.inl ⟨rfl, rfl⟩⟩, Fresh.nil _ _, fun k hk => nomatch hk⟩
 · rw [List.length_map] at hnc ⊢
   by_cases hd : l = []
   · subst hd
     exact ⟨_, cap, [], rfl, RepF.sl_iff.2 ⟨_, _, rfl, by simp, hcm, by simp, Or.inl ⟨rfl, rfl⟩⟩, Fresh.nil _ _, fun k hk => nomatch hk⟩
   · have hO : Own w g 147 cur := hh
     refine ⟨_, cap, [g], rfl, RepF.sl_iff.2 ⟨some ⟨g, 0, none⟩, cap, by simp, by simpa using hnc, hcm, by simp, Or.inr ⟨g, 0, xs, [], by simpa using hd, rfl, rfl, hO.lt, fun j c hj => ?_, h3⟩⟩, ⟨by simp, fun b hb => ?_, fun b hb => ?_⟩, fun k hk => by obtain rfl := List.mem_singleton.1 hk; rfl⟩
     · rw [Nat.zero_add, hO.cell]
       rw [<- htk, List.getElem?_take] at hj
       split at hj
       · simpa using hj
       · cases hj
     · obtain rfl := List.mem_singleton.1 hb
       exact hg
     · obtain rfl := List.mem_singleton.1 hb
       exact ⟨_, _, hO⟩
theorem icells_a (v : Int) : ∀ (l : List MInstr) (i : Nat), icells (l.modify i fun x => { x with a := v }) = (icells l).set (i * 4 + 1) (.int .i64 v)
 | [], i => by simp [icells]
 | x :: l, 0 => by simp [icells]
 | x :: l, i + 1 => by
  have := icells_a v l i
  simp only [List.modify_succ_cons, icells, this]
  rw [show (i + 1) * 4 + 1 = i * 4 + 1 + 1 + 1 + 1 + 1 by omega]
  rfl
theorem icells_b (v : Int) : ∀ (l : List MInstr) (i : Nat), icells (l.modify i fun x => { x with b := v }) = (icells l).set (i * 4 + 2) (.int .i64 v)
 | [], i => by simp [icells]
 | x :: l, 0 => by simp [icells]
 | x :: l, i + 1 => by
  have := icells_b v l i
  simp only [List.modify_succ_cons, icells, this]
  rw [show (i + 1) * 4 + 2 = i * 4 + 2 + 1 + 1 + 1 + 1 by omega]
  rfl
theorem icells_o (v : Int) : ∀ (l : List MInstr) (i : Nat), icells (l.modify i fun x => { x with op := v }) = (icells l).set (i * 4) (.int .i64 v)
 | [], i => by simp [icells]
 | x :: l, 0 => by simp [icells]
 | x :: l, i + 1 => by
  have := icells_o v l i
  simp only [List.modify_succ_cons, icells, this]
  rw [show (i + 1) * 4 = i * 4 + 1 + 1 + 1 + 1 by omega]
  rfl
theorem AccI.made {B0 : Nat} {w : World} {v : Value} {l : List MInstr} (h : w.ownsRow B0 147 4 v l.length (icells l)) : AccI B0 w v l :=
 ⟨icells l, by rw [List.length_map]; exact h, repR_ins w l, Fresh.nil _ _, fun k _ hm => nomatch hm⟩
theorem AccI.row {B0 : Nat} {w : World} {v : Value} {l : List MInstr} (h : AccI B0 w v l) : w.ownsRow B0 147 4 v l.length (icells l) := by
 obtain ⟨xs, h1, h2, -, -⟩ := h
 obtain ⟨rfl, -⟩ := repR_ins_inv h2
 rw [List.length_map] at h1
 exact h1
theorem AccI.at {B0 : Nat} {w : World} {v : Value} {l : List MInstr} (h : AccI B0 w v l) {i : Nat} (hi : i < l.length) : ∃ g cap, v = .slice (some ⟨g, 0, none⟩) l.length cap /\ l.length <= cap /\ B0 <= g /\ g < w.heap.size /\ (∀ f, f < 4 -> (w.cell? ⟨g, i * 4 + f, none⟩).isSome = true /\ w.frozen? ⟨g, i * 4 + f, none⟩ = false) /\
 (∀ u, AccI B0 (w.setCell ⟨g, i * 4 + 1, none⟩ (.int .i64 u)) v (l.modify i fun x => { x with a := u })) /\ (∀ u, AccI B0 (w.setCell ⟨g, i * 4 + 2, none⟩ (.int .i64 u)) v (l.modify i fun x => { x with b := u })) /\ (∀ u, AccI B0 (w.setCell ⟨g, i * 4, none⟩ (.int .i64 u)) v (l.modify i fun x => { x with op := u })) := by
 have hr := h.row
 have hr2 := hr
 obtain ⟨h1, h2⟩ := hr2
 rcases h2 with ⟨-, hn⟩ | ⟨g, cap, cur, rfl, hg, hh, hnc, hcm, hcs, htk⟩
 · omega
 · have hO : Own w g 147 cur := hh
   refine ⟨g, cap, rfl, hnc, hg, hO.lt, fun f hf => ⟨?_, hr.frozenAt _⟩, fun u => AccI.made ?_, fun u => AccI.made ?_, fun u => AccI.made ?_⟩
   · rw [hr.cellAt _ (by omega), List.getElem?_eq_getElem (by rw [h1]; omega)]
     rfl
   · rw [icells_a, List.length_modify]; exact (hr.stored _ _).1
   · rw [icells_b, List.length_modify]; exact (hr.stored _ _).1
   · rw [icells_o, List.length_modify]; exact (hr.stored _ _).1
structure Rw where
 vl : Value
 vc : Value
 fp : List Nat
def Rw.own (m : Rw) : List Nat := m.vl.ownBlock.toList ++ m.vc.ownBlock.toList
theorem Rw.mem_own {m : Rw} {k : Nat} : k ∈ m.own ↔ m.vl.ownBlock = some k ∨ m.vc.ownBlock = some k := by
 unfold Rw.own
 simp
def AccK (B0 : Nat) (w : World) (v : Value) (l : List MCode) (fp : List Nat) : Prop := Acc B0 w 88 4 v (l.map MCode.d) fp
structure RowsC (B0 : Nat) (L : List Nat) (m : Rw) (w : World) (s : CS) : Prop where
 li : AccI B0 w m.vl s.2
 lc : AccK B0 w m.vc s.1 m.fp
 sep : ∀ k, m.vl.ownBlock = some k -> m.vc.ownBlock ≠ some k /\ k ∉ m.fp
 box : ∀ k, k ∈ L -> k ∉ m.own /\ k ∉ m.fp
 base : ∀ k, k ∈ L -> B0 <= k /\ k < w.heap.size
structure Mv (L : List Nat) (m : Rw) (w : World) (m' : Rw) (w' : World) : Prop where
 t : Touch w w' (L ++ m.own)
 l : ∀ k, m'.vl.ownBlock = some k -> m.vl.ownBlock = some k ∨ w.heap.size <= k
 c : ∀ k, m'.vc.ownBlock = some k -> m.vc.ownBlock = some k ∨ w.heap.size <= k
 f : ∀ k, k ∈ m'.fp -> k ∈ m.fp ∨ w.heap.size <= k
theorem Mv.ext {L : List Nat} {m : Rw} {w w' : World} (h : Ext w w') : Mv L m w m w' := ⟨Touch.of_ext h _, fun _ h => Or.inl h, fun _ h => Or.inl h, fun _ h => Or.inl h⟩
theorem Mv.trans {L : List Nat} {m m1 m2 : Rw} {w w1 w2 : World} (h : Mv L m w m1 w1) (k : Mv L m1 w1 m2 w2) : Mv L m w m2 w2 := by
 have hs := h.t.size
 refine ⟨h.t.trans' k.t fun x hx => ?_, fun x hx => ?_, fun x hx => ?_, fun x hx => ?_⟩
 · rcases List.mem_append.1 hx with hx | hx
   · exact Or.inl (List.mem_append_left _ hx)
   · rcases Rw.mem_own.1 hx with hx | hx
     · rcases h.l x hx with e | e
       · exact Or.inl (List.mem_append_right _ (Rw.mem_own.2 (Or.inl e)))
       · exact Or.inr e
     · rcases h.c x hx with e | e
       · exact Or.inl (List.mem_append_right _ (Rw.mem_own.2 (Or.inr e)))
       · exact Or.inr e
 · rcases k.l x hx with e | e
   · exact h.l x e
   · exact Or.inr (by omega)
 · rcases k.c x hx with e | e
   · exact h.c x e
   · exact Or.inr (by omega)
 · rcases k.f x hx with e | e
   · exact h.f x e
   · exact Or.inr (by omega)
theorem RowsC.ge {B0 : Nat} {L : List Nat} {m : Rw} {w : World} {s : CS} (h : RowsC B0 L m w s) {k : Nat} (hk : k ∈ L ++ m.own) : B0 <= k /\ k < w.heap.size := by
 rcases List.mem_append.1 hk with hk | hk
 · exact h.base k hk
 · rcases Rw.mem_own.1 hk with hk | hk
   · exact Acc.ge h.li hk
   · exact Acc.ge h.lc hk
theorem RowsC.ext0 {B0 : Nat} {L : List Nat} {m m' : Rw} {w0 w w' : World} {s : CS} (h : RowsC B0 L m w s) (hx : Ext w0 w) (hB : w0.heap.size <= B0) (hm : Mv L m w m' w') : Ext w0 w' :=
 Touch.ext hx hm.t fun k hk => by have := (h.ge hk).1; omega
theorem RowsC.fresh {B0 : Nat} {L : List Nat} {m : Rw} {w : World} {s : CS} (h : RowsC B0 L m w s) : Fresh w B0 m.fp := by
 obtain ⟨_, _, _, h, _⟩ := h.lc
 exact h
theorem RowsC.touch {B0 : Nat} {L fp : List Nat} {m : Rw} {w w' : World} {s : CS} (h : RowsC B0 L m w s) (t : Touch w w' fp) (hf : ∀ k, k ∈ fp -> k ∈ L ∨ w.heap.size <= k) : RowsC B0 L m w' s := by
 have hn : ∀ k, k ∈ m.own ∨ k ∈ m.fp -> k ∉ fp := fun k hk hm => by
  rcases hf k hm with e | e
  · rcases hk with hk | hk
    · exact (h.box k e).1 hk
    · exact (h.box k e).2 hk
  · rcases hk with hk | hk
    · have := (h.ge (List.mem_append_right _ hk)).2; omega
    · have := h.fresh.lt hk; omega
 exact ⟨Acc.touch h.li t (fun k hk => hn k (Or.inl (Rw.mem_own.2 (Or.inl hk)))) (fun k hk => nomatch hk), Acc.touch h.lc t (fun k hk => hn k (Or.inl (Rw.mem_own.2 (Or.inr hk)))) (fun k hk => hn k (Or.inr hk)), h.sep, h.box, fun k hk => ⟨(h.base k hk).1, Nat.lt_of_lt_of_le (h.base k hk).2 t.size⟩⟩
theorem RowsC.setL {B0 : Nat} {L : List Nat} {m : Rw} {w w' : World} {s : CS} {v : Value} {l : List MInstr} (h : RowsC B0 L m w s) (t : Touch w w' m.vl.ownBlock.toList) (ha : AccI B0 w' v l) (hv : ∀ k, v.ownBlock = some k -> m.vl.ownBlock = some k ∨ w.heap.size <= k) : RowsC B0 L ⟨v, m.vc, m.fp⟩ w' (s.1, l) /\ Mv L m w ⟨v, m.vc, m.fp⟩ w' := by
 have hl : ∀ k, k ∈ m.vl.ownBlock.toList -> m.vl.ownBlock = some k := fun k hk => by simpa using hk
 refine ⟨⟨ha, Acc.touch h.lc t (fun k hk hm => (h.sep k (hl k hm)).1 hk) (fun k hk hm => (h.sep k (hl k hm)).2 hk), fun k hk => ?_, fun k hk => ⟨fun hm => ?_, (h.box k hk).2⟩, fun k hk => ⟨(h.base k hk).1, Nat.lt_of_lt_of_le (h.base k hk).2 t.size⟩⟩, t.mono (fun k hk => List.mem_append_right _ (Rw.mem_own.2 (Or.inl (hl k hk)))), hv, fun _ h => Or.inl h, fun _ h => Or.inl h⟩
 · rcases hv k hk with e | e
   · exact h.sep k e
   · exact ⟨fun e2 => by have := (Acc.ge h.lc e2).2; omega, fun hm => by have := h.fresh.lt hm; omega⟩
 · rcases Rw.mem_own.1 hm with e | e
   · rcases hv k e with e2 | e2
     · exact (h.box k hk).1 (Rw.mem_own.2 (Or.inl e2))
     · have := (h.base k hk).2; omega
   · exact (h.box k hk).1 (Rw.mem_own.2 (Or.inr e))
theorem RowsC.codes {B0 : Nat} {L ft : List Nat} {m : Rw} {w w' : World} {s : CS} {v : Value} {l : List MCode} {gp : List Nat} (h : RowsC B0 L m w s) (t : Touch w w' ft) (hf : ∀ k, k ∈ ft -> k ∈ L ∨ m.vc.ownBlock = some k ∨ w.heap.size <= k) (ha : AccK B0 w' v l gp) (hv : ∀ k, v.ownBlock = some k -> m.vc.ownBlock = some k ∨ w.heap.size <= k) (hg : ∀ k, k ∈ gp -> k ∈ m.fp ∨ w.heap.size <= k) : RowsC B0 L ⟨m.vl, v, gp⟩ w' (l, s.2) /\ Mv L m w ⟨m.vl, v, gp⟩ w' := by
 refine ⟨⟨Acc.touch h.li t (fun k hk hm => ?_) (fun k hk => nomatch hk), ha, fun k hk => ⟨fun e => ?_, fun hm => ?_⟩, fun k hk => ⟨fun hm => ?_, fun hm => ?_⟩, fun k hk => ⟨(h.base k hk).1, Nat.lt_of_lt_of_le (h.base k hk).2 t.size⟩⟩, ?_, fun _ h => Or.inl h, hv, hg⟩
 · rcases hf k hm with e | e | e
   · exact (h.box k e).1 (Rw.mem_own.2 (Or.inl hk))
   · exact (h.sep k hk).1 e
   · have := (Acc.ge h.li hk).2; omega
 · rcases hv k e with e2 | e2
   · exact (h.sep k hk).1 e2
   · have := (Acc.ge h.li hk).2; omega
 · rcases hg k hm with e | e
   · exact (h.sep k hk).2 e
   · have := (Acc.ge h.li hk).2; omega
 · rcases Rw.mem_own.1 hm with e | e
   · exact (h.box k hk).1 (Rw.mem_own.2 (Or.inl e))
   · rcases hv k e with e2 | e2
     · exact (h.box k hk).1 (Rw.mem_own.2 (Or.inr e2))
     · have := (h.base k hk).2; omega
 · rcases hg k hm with e | e
   · exact (h.box k hk).2 e
   · have := (h.base k hk).2; omega
 · refine (Touch.of_ext (XR w) (L ++ m.own)).trans' t fun k hk => ?_
   rcases hf k hk with e | e | e
   · exact Or.inl (List.mem_append_left _ e)
   · exact Or.inl (List.mem_append_right _ (Rw.mem_own.2 (Or.inr e)))
   · exact Or.inr e
theorem RowsC.put {B0 : Nat} {L : List Nat} {m : Rw} {w w7 : World} {s : CS} {v : Value} {l : List MInstr} (h : RowsC B0 L m w s) (t : Touch w w7 m.vl.ownBlock.toList) (ha : AccI B0 w7 v l) (hv : ∀ k, v.ownBlock = some k -> m.vl.ownBlock = some k ∨ w.heap.size <= k) {b o : Nat} (hb : b ∈ L) (u : Value) : RowsC B0 L ⟨v, m.vc, m.fp⟩ (w7.setCell ⟨b, o, none⟩ u) (s.1, l) /\ Mv L m w ⟨v, m.vc, m.fp⟩ (w7.setCell ⟨b, o, none⟩ u) /\ Touch w7 (w7.setCell ⟨b, o, none⟩ u) [b] := by
 obtain ⟨h1, h2⟩ := h.setL t ha hv
 have T : Touch w7 (w7.setCell ⟨b, o, none⟩ u) [b] := (Touch.of_ext (XR _) _).setCell (by simp) _
 exact ⟨h1.touch T (fun k hk => by obtain rfl := List.mem_singleton.1 hk; exact Or.inl hb), h2.trans ⟨T.mono (fun k hk => by obtain rfl := List.mem_singleton.1 hk; exact List.mem_append_left _ hb), fun _ h => Or.inl h, fun _ h => Or.inl h, fun _ h => Or.inl h⟩, T⟩
theorem RowsC.mod {B0 : Nat} {L : List Nat} {m : Rw} {w : World} {s : CS} {g o cap n : Nat} {l : List MInstr} (h : RowsC B0 L m w s) (hg : m.vl = .slice (some ⟨g, 0, none⟩) n cap) (u : Value) (ha : AccI B0 (w.setCell ⟨g, o, none⟩ u) m.vl l) : RowsC B0 L m (w.setCell ⟨g, o, none⟩ u) (s.1, l) /\ Mv L m w m (w.setCell ⟨g, o, none⟩ u) /\ Touch w (w.setCell ⟨g, o, none⟩ u) [g] /\ g ∉ L := by
 have T : Touch w (w.setCell ⟨g, o, none⟩ u) [g] := (Touch.of_ext (XR _) _).setCell (by simp) _
 have hm : m.vl.ownBlock = some g := by rw [hg]; rfl
 obtain ⟨h1, h2⟩ := h.setL (T.mono (fun k hk => by obtain rfl := List.mem_singleton.1 hk; simpa using hm)) ha (fun k hk => Or.inl hk)
 exact ⟨h1, h2, T, fun hL => (h.box g hL).1 (Rw.mem_own.2 (Or.inl hm))⟩
def StI (B0 wb cb : Nat) (m : Rw) (w : World) (s : CS) : Prop := Own w wb 140 #[.pointer (some ⟨cb, 0, none⟩), m.vl] /\ Own w cb 101 #[m.vc] /\ RowsC B0 [wb, cb] m w s /\ wb ≠ cb
def GotI (B0 wb cb : Nat) (m : Rw) (w : World) (s' : CS) (e : Ending) (w' : World) : Prop := ∃ m', e = .returned (.tuple #[]) /\ StI B0 wb cb m' w' s' /\ Mv [wb, cb] m w m' w'
def StS (B0 sb : Nat) (hd : Bool × Int × Int) (m : Rw) (w : World) (s : CS) : Prop := Own w sb 90 #[m.vc, .bool hd.1, .int .i64 hd.2.1, .int .i64 hd.2.2, m.vl, .bool false] /\ RowsC B0 [sb] m w s
def GotS (B0 sb : Nat) (hd : Bool × Int × Int) (m : Rw) (w : World) (s' : CS) (e : Ending) (w' : World) : Prop := ∃ m', e = .returned (.tuple #[]) /\ StS B0 sb hd m' w' s' /\ Mv [sb] m w m' w'
def Room (s : CS) (n : Nat) : Prop := s.2.length + 8 * n <= 1000000 /\ s.1.length + n <= 1000000
theorem Room.adds {s t : CS} {n k : Nat} (h : Room s (n + k)) (a : Adds n s t) : Room t k := by
 obtain ⟨a1, a2, a3, a4⟩ := a
 obtain ⟨h1, h2⟩ := h
 exact ⟨by omega, by omega⟩
theorem Room.mono {s : CS} {n k : Nat} (h : Room s n) (g : k <= n) : Room s k := ⟨by have := h.1; omega, by have := h.2; omega⟩
theorem put_any {B0 wb cb : Nat} {m : Rw} {s : CS} (x : MInstr) (w : World) (h : StI B0 wb cb m w s) (hr : s.2.length <= 1000000) :
 Calls Tryz.prog 126 #[.pointer (some ⟨wb, 0, none⟩), .agg #[.int .i64 x.op, .int .i64 x.a, .int .i64 x.b, .string x.text]] w (fun e w' => ∃ m', e = .returned (.int .i64 s.2.length) /\ StI B0 wb cb m' w' (pt s x) /\ Mv [wb, cb] m w m' w') := by
 obtain ⟨OW, OP, R, hne⟩ := h
 have HR := LH R
 have hbw := OW.lt
 have hbB := (R.base wb (by simp)).1
 have HOB : Hid (∀ k, m.vl.ownBlock = some k -> k ≠ wb /\ k ≠ cb /\ k < w.heap.size) := LH fun k hk => ⟨fun e => (R.box wb (by simp)).1 (by rw [<- e]; exact Rw.mem_own.2 (Or.inl hk)), fun e => (R.box cb (by simp)).1 (by rw [<- e]; exact Rw.mem_own.2 (Or.inl hk)), (Acc.ge R.li hk).2⟩
 clear R
 go_enter Tryz.func126, Tryz.ntmps126
 go_upto_region 1 with fail
 generalize hS : World.alloc w _ = W1
 have x1 : Ext w W1 := by rw [<- hS]; exact (XR _).alloc _
 have OX : Own W1 w.heap.size 147 #[.int .i64 x.op, .int .i64 x.a, .int .i64 x.b, .string x.text] := by rw [<- hS]; exact own_new w _ _
 have hs1 := x1.size
 clear hS
 have q0 := OX.k0
 have qf0 := OX.f0
 have q1 := OX.k1
 have qf1 := OX.f1
 have q2 := OX.k2
 have qf2 := OX.f2
 have q3 := OX.k3
 have qf3 := OX.f3
 have qz := OX.lt
 have HW1 := LH (OW.ext x1)
 have m1 : W1.cell? ⟨wb, 1, none⟩ = some m.vl := HW1.out.cell 1
 have mz := HW1.out.lt
 have XA : Hid (Ext W1 (W1.alloc (.cells #[.int .i64 x.op, .int .i64 x.a, .int .i64 x.b, .string x.text] 147)).drew) := LH (Ext.drew ((XR _).alloc _))
 have HDL : Hid ((s.2.map MInstr.d).length = s.2.length) := LH (by simp)
 have E1 : Hid (Acc B0 (W1.alloc (.cells #[.int .i64 x.op, .int .i64 x.a, .int .i64 x.b, .string x.text] 147)).drew 147 4 m.vl (s.2.map MInstr.d) []) := LH (Acc.ext HR.out.li (x1.trans XA.out))
 have HDS : Hid ((s.2 ++ [x]).map MInstr.d = s.2.map MInstr.d ++ [x.d]) := LH (by simp)
 generalize s.2.map MInstr.d = DS at *
 have E2 : Hid (RepF (W1.alloc (.cells #[.int .i64 x.op, .int .i64 x.a, .int .i64 x.b, .string x.text] 147)).drew (.sl 4 [x.d]) [.slice (some ⟨W1.heap.size, 0, none⟩) 1 1] [W1.heap.size]) := LH (RepF.ins_row ((own_new W1 _ _).ext (Ext.drew (XR _))))
 have hb1 : B0 <= (W1.alloc (.cells #[.int .i64 x.op, .int .i64 x.a, .int .i64 x.b, .string x.text] 147)).drew.heap.size := by have := XA.out.size; omega
 obtain ⟨i0, hi, hz0, hz1, hz2⟩ := info_parts insInfo
 go_region_law ((refine step_append_at rfl _ _ 86 rfl B0 147 i0 _ 4 40 Tryz.underlying86 hi hz0 hz1 hz2 rfl (by decide) m.vl DS [] rfl E1.out [x.d] _ 1 1 [W1.heap.size] rfl E2.out (Fresh.nil _ _) (fun k _ hm => nomatch hm) (by have := HDL.out; unfold maxLen; omega) (by have := HDL.out; omega) hb1 ?_; intro a7 k7 w7 ac hg hloc; have TG : Touch _ w7 m.vl.ownBlock.toList := (Touch.of_ext (XR _) _).grown hg (fun j hj => Or.inl (by simp [hj])); have O7 := (HW1.out.ext XA.out).touch' TG (fun hm => (HOB.out wb (by simpa using hm)).1 rfl); have c7 := O7.cell 1; have f7 := O7.f1; have z7 := O7.lt))
 all_goals
  have Ta : Touch w w7 m.vl.ownBlock.toList := (Touch.of_ext (x1.trans XA.out) _).trans TG
  have hl := HDL.out
  generalize hv1 : Value.slice a7 (DS.length + 1) k7 = v1 at *
  have HV1 := LH hv1
  have hown : ∀ k, v1.ownBlock = some k -> m.vl.ownBlock = some k ∨ w.heap.size <= k := fun k hk => by
   rcases hloc with e | e
   · rw [e] at hk; exact Or.inl hk
   · rw [e] at hk
     injection hk with hk
     have := XA.out.size
     exact Or.inr (by omega)
  have HA : AccI B0 w7 v1 (s.2 ++ [x]) := by unfold AccI; rw [HDS.out]; exact ac
  obtain ⟨R9, M9, T9⟩ := HR.out.put Ta HA hown (b := wb) (o := 1) (by simp) v1
  generalize hS : World.setCell w7 _ v1 = W9 at *
  have OW9 : Own W9 wb 140 #[.pointer (some ⟨cb, 0, none⟩), v1] := by rw [<- hS]; exact O7.set 1 v1
  have OP9 := ((OP.ext (x1.trans XA.out)).touch' TG (fun hm => (HOB.out cb (by simpa using hm)).2.1 rfl)).touch' T9 (by simpa using hne.symm)
  have FIN : Hid (StI B0 wb cb ⟨v1, m.vc, m.fp⟩ W9 (pt s x) /\ Mv [wb, cb] m w ⟨v1, m.vc, m.fp⟩ W9) := LH ⟨⟨OW9, OP9, R9, hne⟩, M9⟩
  have n1 : W9.cell? ⟨wb, 1, none⟩ = some (.slice a7 (DS.length + 1) k7) := by rw [HV1.out]; exact OW9.cell 1
  clear hS R9 M9 T9 OP9 OW9 O7 c7 f7 z7 TG Ta HA ac hg hloc hown m1 mz hi hz0 hz1 hz2 hv1 HV1 q0 qf0 q1 qf1 q2 qf2 q3 qf3 qz
  go_wp2_with fail
  go_ret
  exact ⟨_, ret_int (by omega), FIN.out.1, FIN.out.2⟩
theorem op_any {B0 wb cb : Nat} {m : Rw} {s : CS} (k : Int) (w : World) (h : StI B0 wb cb m w s) (hr : s.2.length <= 1000000) :
 Calls Tryz.prog 91 #[.pointer (some ⟨wb, 0, none⟩), .int .i64 k] w (fun e w' => ∃ m', e = .returned (.int .i64 s.2.length) /\ StI B0 wb cb m' w' (pt s (iO k)) /\ Mv [wb, cb] m w m' w') := by
 have HP := LH (put_any (iO k) w h hr)
 clear h
 go_enter Tryz.func91, Tryz.ntmps91
 go_wp2_with fail
 refine HP.out.mono ?_
 rintro e w' ⟨m', rfl, h1, h2⟩
 have H1 := LH h1
 have H2 := LH h2
 clear h1 h2
 go_wp2_with fail
 go_ret
 exact ⟨m', rfl, H1.out, H2.out⟩
theorem StI.ext {B0 wb cb : Nat} {m : Rw} {w w' : World} {s : CS} (h : StI B0 wb cb m w s) (hx : Ext w w') : StI B0 wb cb m w' s :=
 ⟨h.1.ext hx, h.2.1.ext hx, h.2.2.1.touch (Touch.of_ext hx []) (fun k hk => nomatch hk), h.2.2.2⟩
def NodeI (f : CF) (c : MCore) : Prop := ∀ (cs : List Value) (w0 w : World) (B0 wb cb : Nat) (m : Rw) (s : CS), Rep w0 c.d cs -> Ext w0 w -> w0.heap.size <= B0 -> StI B0 wb cb m w s -> Room s c.nodes -> Calls Tryz.prog 90 #[.pointer (some ⟨wb, 0, none⟩), .agg cs.toArray] w (GotI B0 wb cb m w (f c s))
theorem nodes_at {f : CF} (hf : Few f) (l : List MCore) (HL : Hid (∀ z, z ∈ l -> NodeI f z)) {B0 wb cb : Nat} {m : Rw} {s : CS} (va : Value) (w0 w : World) (rl : Rep w0 (MCores l) [va]) (hx : Ext w0 w) (hB : w0.heap.size <= B0) (h : StI B0 wb cb m w s) (hr : Room s (MCore.nodesL l)) :
 Calls Tryz.prog 127 #[.pointer (some ⟨wb, 0, none⟩), va] w (GotI B0 wb cb m w (allF f l s)) := by
 obtain ⟨ao, ca, ba, oa, e1, hla, hma, pa, hra⟩ := Rep.slmap rl
 simp only [List.cons.injEq, and_true] at e1
 subst e1
 unfold maxLen at hma
 have HR := LH hr
 have HS0 := LH h
 have HX0 := LH hx
 clear rl hr h hx
 go_enter Tryz.func127, Tryz.ntmps127
 go_wp2_with fail
 go_loopw [8] (fun iv wr => ∃ (k : Nat) (m' : Rw), k <= l.length /\ iv = .int .i64 k /\ Hid (StI B0 wb cb m' wr (allF f (l.take k) s)) /\ Hid (Mv [wb, cb] m w m' wr)) (fun iv _ => l.length - (intOf iv).toNat)
 case atStart => exact ⟨0, m, Nat.zero_le _, rfl, HS0, LH (Mv.ext (XR _))⟩
 case round =>
  obtain ⟨k, m', hk, rfl, HS, HM⟩ := hrel
  have hxr : Ext w0 wr := HS0.out.2.2.1.ext0 HX0.out hB HM.out
  by_cases hlt : k < l.length
  · obtain rfl := pa (by omega)
    obtain ⟨ea, la, cl, ra⟩ := hra k l[k] (by simp [hlt])
    obtain ⟨aa0, cc0, rfl, -⟩ := MCore.op_en ra
    have t0 := hxr.cell (show w0.cell? ⟨ba, oa + k * 5, none⟩ = some _ from cl 0 (by omega))
    have t1 := hxr.cell (show w0.cell? ⟨ba, oa + k * 5 + 1, none⟩ = some _ from cl 1 (by omega))
    have t2 := hxr.cell (show w0.cell? ⟨ba, oa + k * 5 + 2, none⟩ = some _ from cl 2 (by omega))
    have t3 := hxr.cell (show w0.cell? ⟨ba, oa + k * 5 + 3, none⟩ = some _ from cl 3 (by omega))
    have t4 := hxr.cell (show w0.cell? ⟨ba, oa + k * 5 + 4, none⟩ = some _ from cl 4 (by omega))
    clear cl la hra pa
    have HN := LH (HL.out l[k] (List.getElem_mem hlt))
    have HRM : Hid (Room (allF f (l.take k) s) l[k].nodes) := LH (Room.adds (n := MCore.nodesL (l.take k)) (HR.out.mono (by rw [<- MCore.nodesL_succ hlt]; exact MCore.nodesL_take l (k + 1))) (allF_adds hf (l.take k) s))
    have HSC : Hid (allF f (l.take (k + 1)) s = f l[k] (allF f (l.take k) s)) := LH (allF_succ f hlt s)
    go_upto_region 3 with fail
    generalize hS : World.alloc wr _ = W5
    have x5 : Ext wr W5 := by rw [<- hS]; exact (XR _).alloc _
    have OK : Own W5 wr.heap.size 42 #[.int .i64 l[k].kind, .string l[k].text, .int .i64 l[k].number, .int .i64 l[k].depth, .slice aa0 l[k].kids.length cc0] := by rw [<- hS]; exact own_new wr _ _
    have HS5 := LH (HS.out.ext x5)
    have HM5 := LH (HM.out.trans (Mv.ext x5))
    have hx5 := hxr.trans x5
    clear hS t0 t1 t2 t3 t4 HS HM x5
    have q0 := OK.k0
    have qf0 := OK.f0
    have q1 := OK.k1
    have qf1 := OK.f1
    have q2 := OK.k2
    have qf2 := OK.f2
    have q3 := OK.k3
    have qf3 := OK.f3
    have q4 := OK.k4
    have qf4 := OK.f4
    have qz := OK.lt
    go_wp2_with fail
    refine (HN.out _ w0 W5 B0 wb cb m' _ ra hx5 hB HS5.out HRM.out).mono ?_
    rintro e w6 ⟨m6, rfl, h6, k6⟩
    rw [<- HSC.out] at h6
    have HS6 := LH h6
    have HM6 := LH (HM5.out.trans k6)
    clear h6 k6 HS5 HM5 OK q0 qf0 q1 qf1 q2 qf2 q3 qf3 q4 qf4 qz
    go_wp2_with fail
    go_roundw
    case rel => exact ⟨k + 1, m6, by omega, by go_num, HS6, HM6⟩
    case measure => simp [intOf]; omega
  · obtain rfl : k = l.length := by omega
    have HS2 : Hid (StI B0 wb cb m' wr (allF f l s)) := LH (by have := HS.out; rw [List.take_length] at this; exact this)
    clear HS
    go_wp2_with fail
    go_end0
    exact ⟨m', rfl, HS2.out, HM.out⟩
end Go.Proofs.YtlaclfeljimffaaGreatDoor
