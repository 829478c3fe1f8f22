/-
  PLAIN DATA IN MEMORY. 'D': ints, texts, bools, structs, slices. 'RepF w d cs fp': in the world w the cells cs hold the datum d; fp: the blocks of its slices that are not empty, in order.
  Conditions: none; every lemma holds for every world.
-/
import Derived.WalkKit
import Derived.WalkSpells
import Derived.WalkLawsBesides
import Derived.Deep.QuietTactic
import Derived.BigQuiet
import Derived.Lib.Hide
import Derived.Lib.QuietBelow
import Derived.Deep.RegionWith
import Derived.Deep.Light
namespace Go.Proofs.YtndhpbjhkgdieaaGreatDoor
open Go.RowKit
set_option maxHeartbeats 8000000
set_option maxRecDepth 100000
set_option linter.unusedSimpArgs false
set_option linter.unusedVariables false
theorem LH {p : Prop} (h : p) : Hid p := Lib.hid h
inductive D where
 | int (n : Int)
 | str (s : ByteArray)
 | bool (b : Bool)
 | st (fs : List D)
 | sl (sz : Nat) (xs : List D)
mutual
def RepF (w : World) : D -> List Value -> List Nat -> Prop
 | .int n, cs, fp => cs = [.int .i64 n] /\ fp = []
 | .str s, cs, fp => cs = [.string s] /\ fp = []
 | .bool b, cs, fp => cs = [.bool b] /\ fp = []
 | .st fs, cs, fp => RepS w fs cs fp
 | .sl sz xs, cs, fp => ∃ ao cap, cs = [.slice ao xs.length cap] /\ xs.length <= cap /\ cap <= maxLen /\ (ao = none -> cap = 0) /\
  ((xs = [] /\ fp = []) ∨ ∃ b o cells fp', xs ≠ [] /\ ao = some ⟨b, o, none⟩ /\ fp = b :: fp' /\ b < w.heap.size /\ (∀ (j : Nat) c, cells[j]? = some c -> w.cell? ⟨b, o + j, none⟩ = some c) /\ RepR w sz xs cells fp')
def RepS (w : World) : List D -> List Value -> List Nat -> Prop
 | [], cs, fp => cs = [] /\ fp = []
 | d :: ds, cs, fp => ∃ c1 c2 f1 f2, cs = c1 ++ c2 /\ fp = f1 ++ f2 /\ RepF w d c1 f1 /\ RepS w ds c2 f2
def RepR (w : World) (sz : Nat) : List D -> List Value -> List Nat -> Prop
 | [], cs, fp => cs = [] /\ fp = []
 | d :: ds, cs, fp => ∃ c1 c2 f1 f2, cs = c1 ++ c2 /\ fp = f1 ++ f2 /\ c1.length = sz /\ RepF w d c1 f1 /\ RepR w sz ds c2 f2
end
abbrev Ext (w w' : World) : Prop := Below w.heap.size w w'
theorem XR (w : World) : Ext w w := Below.refl _ _
theorem Ext.trans {a b c : World} (h : Ext a b) (k : Ext b c) : Ext a c := Below.trans h (Below.mono k h.size)
theorem lt_of_cell {w : World} {a : Addr} {v : Value} (h : w.cell? a = some v) : a.block < w.heap.size := block_lt_of_cell h
theorem Ext.cell {w w' : World} (h : Ext w w') {a : Addr} {v : Value} (hc : w.cell? a = some v) : w'.cell? a = some v :=
 (Below.cell h (lt_of_cell hc)).trans hc
theorem lt_keep {w w' : World} {b : Nat} (hb : b < w.heap.size) (h : w'.heap[b]? = w.heap[b]?) : b < w'.heap.size := by
 rw [Array.getElem?_eq_getElem hb] at h
 exact (Array.getElem?_eq_some_iff.1 h).1
-- A reading hangs on the blocks of its footprint alone.
mutual
theorem RepF.keep {w w' : World} : ∀ (d : D) {cs : List Value} {fp : List Nat}, (∀ k, k ∈ fp -> w'.heap[k]? = w.heap[k]?) -> RepF w d cs fp -> RepF w' d cs fp
 | .int _, _, _, _, r => by simpa only [RepF] using r
 | .str _, _, _, _, r => by simpa only [RepF] using r
 | .bool _, _, _, _, r => by simpa only [RepF] using r
 | .st fs, _, _, h, r => by simp only [RepF] at r ⊢; exact RepS.keep fs h r
 | .sl sz xs, _, _, h, r => by
  simp only [RepF] at r ⊢
  obtain ⟨ao, cap, rfl, hl, hm, hn, r⟩ := r
  refine ⟨ao, cap, rfl, hl, hm, hn, ?_⟩
  rcases r with r | ⟨b, o, cells, fp', h1, h2, rfl, hb, h4, h5⟩
  · exact Or.inl r
  · refine Or.inr ⟨b, o, cells, fp', h1, h2, rfl, lt_keep hb (h b List.mem_cons_self), fun j c hc => ?_, RepR.keep sz xs (fun k hk => h k (List.mem_cons_of_mem _ hk)) h5⟩
    rw [World.cell?_of_block (w := w) (h b List.mem_cons_self)]
    exact h4 j c hc
theorem RepS.keep {w w' : World} : ∀ (ds : List D) {cs : List Value} {fp : List Nat}, (∀ k, k ∈ fp -> w'.heap[k]? = w.heap[k]?) -> RepS w ds cs fp -> RepS w' ds cs fp
 | [], _, _, _, r => by simpa only [RepS] using r
 | d :: ds, _, _, h, r => by
  simp only [RepS] at r ⊢
  obtain ⟨c1, c2, f1, f2, h1, rfl, h3, h4⟩ := r
  exact ⟨c1, c2, f1, f2, h1, rfl, RepF.keep d (fun k hk => h k (List.mem_append_left _ hk)) h3, RepS.keep ds (fun k hk => h k (List.mem_append_right _ hk)) h4⟩
theorem RepR.keep {w w' : World} (sz : Nat) : ∀ (ds : List D) {cs : List Value} {fp : List Nat}, (∀ k, k ∈ fp -> w'.heap[k]? = w.heap[k]?) -> RepR w sz ds cs fp -> RepR w' sz ds cs fp
 | [], _, _, _, r => by simpa only [RepR] using r
 | d :: ds, _, _, h, r => by
  simp only [RepR] at r ⊢
  obtain ⟨c1, c2, f1, f2, h1, rfl, h2, h3, h4⟩ := r
  exact ⟨c1, c2, f1, f2, h1, rfl, h2, RepF.keep d (fun k hk => h k (List.mem_append_left _ hk)) h3, RepR.keep sz ds (fun k hk => h k (List.mem_append_right _ hk)) h4⟩
end
-- The blocks of a footprint are there.
mutual
theorem RepF.lt {w : World} : ∀ (d : D) {cs : List Value} {fp : List Nat}, RepF w d cs fp -> ∀ k, k ∈ fp -> k < w.heap.size
 | .int _, _, _, r, k, hk => by simp only [RepF] at r; obtain ⟨_, rfl⟩ := r; simp at hk
 | .str _, _, _, r, k, hk => by simp only [RepF] at r; obtain ⟨_, rfl⟩ := r; simp at hk
 | .bool _, _, _, r, k, hk => by simp only [RepF] at r; obtain ⟨_, rfl⟩ := r; simp at hk
 | .st fs, _, _, r, k, hk => by simp only [RepF] at r; exact RepS.lt fs r k hk
 | .sl sz xs, _, _, r, k, hk => by
  simp only [RepF] at r
  obtain ⟨ao, cap, rfl, hl, hm, hn, r⟩ := r
  rcases r with ⟨_, rfl⟩ | ⟨b, o, cells, fp', h1, h2, rfl, hb, h4, h5⟩
  · simp at hk
  · rcases List.mem_cons.1 hk with rfl | hk
    · exact hb
    · exact RepR.lt sz xs h5 k hk
theorem RepS.lt {w : World} : ∀ (ds : List D) {cs : List Value} {fp : List Nat}, RepS w ds cs fp -> ∀ k, k ∈ fp -> k < w.heap.size
 | [], _, _, r, k, hk => by simp only [RepS] at r; obtain ⟨_, rfl⟩ := r; simp at hk
 | d :: ds, _, _, r, k, hk => by
  simp only [RepS] at r
  obtain ⟨c1, c2, f1, f2, h1, rfl, h3, h4⟩ := r
  rcases List.mem_append.1 hk with hk | hk
  · exact RepF.lt d h3 k hk
  · exact RepS.lt ds h4 k hk
theorem RepR.lt {w : World} (sz : Nat) : ∀ (ds : List D) {cs : List Value} {fp : List Nat}, RepR w sz ds cs fp -> ∀ k, k ∈ fp -> k < w.heap.size
 | [], _, _, r, k, hk => by simp only [RepR] at r; obtain ⟨_, rfl⟩ := r; simp at hk
 | d :: ds, _, _, r, k, hk => by
  simp only [RepR] at r
  obtain ⟨c1, c2, f1, f2, h1, rfl, h2, h3, h4⟩ := r
  rcases List.mem_append.1 hk with hk | hk
  · exact RepF.lt d h3 k hk
  · exact RepR.lt sz ds h4 k hk
end
def Rep (w : World) (d : D) (cs : List Value) : Prop := ∃ fp, RepF w d cs fp
theorem RepF.rep {w : World} {d : D} {cs : List Value} {fp : List Nat} (h : RepF w d cs fp) : Rep w d cs := ⟨fp, h⟩
theorem RepF.ext {w w' : World} (h : Ext w w') {d : D} {cs : List Value} {fp : List Nat} (r : RepF w d cs fp) : RepF w' d cs fp :=
 r.keep d fun k hk => h.block k (r.lt d k hk)
theorem RepR.ext {w w' : World} (h : Ext w w') {sz : Nat} {ds : List D} {cs : List Value} {fp : List Nat} (r : RepR w sz ds cs fp) : RepR w' sz ds cs fp :=
 r.keep sz ds fun k hk => h.block k (r.lt sz ds k hk)
theorem Rep.ext {w w' : World} (h : Ext w w') {d : D} {cs : List Value} : Rep w d cs -> Rep w' d cs := fun ⟨fp, r⟩ => ⟨fp, r.ext h⟩
theorem RepR.append {w : World} {sz : Nat} : ∀ {xs ys : List D} {cs es : List Value} {fp gp : List Nat}, RepR w sz xs cs fp -> RepR w sz ys es gp -> RepR w sz (xs ++ ys) (cs ++ es) (fp ++ gp)
 | [], ys, cs, es, fp, gp, h, k => by simp only [RepR] at h; obtain ⟨rfl, rfl⟩ := h; simpa using k
 | x :: xs, ys, cs, es, fp, gp, h, k => by
  simp only [RepR] at h
  obtain ⟨c1, c2, f1, f2, rfl, rfl, h2, h3, h4⟩ := h
  simp only [List.cons_append, RepR]
  exact ⟨c1, c2 ++ es, f1, f2 ++ gp, by simp, by simp, h2, h3, RepR.append h4 k⟩
theorem RepR.one {w : World} {sz : Nat} {d : D} {cs : List Value} {fp : List Nat} (h : RepF w d cs fp) (hs : cs.length = sz) : RepR w sz [d] cs fp := by
 simp only [RepR]; exact ⟨cs, [], fp, [], by simp, by simp, hs, h, rfl, rfl⟩
theorem RepR.length {w : World} {sz : Nat} : ∀ {xs : List D} {cs : List Value} {fp : List Nat}, RepR w sz xs cs fp -> cs.length = xs.length * sz
 | [], cs, fp, h => by simp only [RepR] at h; simp [h.1]
 | x :: xs, cs, fp, h => by
  simp only [RepR] at h
  obtain ⟨c1, c2, f1, f2, rfl, rfl, h2, h3, h4⟩ := h
  rw [List.length_append, RepR.length h4, h2, List.length_cons, Nat.succ_mul]; omega
theorem RepR.at {w : World} {sz : Nat} : ∀ {ds : List D} {cs : List Value} {fp : List Nat}, RepR w sz ds cs fp -> ∀ i d, ds[i]? = some d ->
 ∃ es fp', es.length = sz /\ (∀ j, j < sz -> cs[i * sz + j]? = es[j]?) /\ RepF w d es fp'
 | [], _, _, _, i, d, hd => by simp at hd
 | x :: ds, _, _, r, 0, d, hd => by
  simp only [RepR] at r
  obtain ⟨c1, c2, f1, f2, rfl, rfl, h2, h3, h4⟩ := r
  simp at hd; subst hd
  exact ⟨c1, f1, h2, fun j hj => by rw [Nat.zero_mul, Nat.zero_add, List.getElem?_append_left (by omega)], h3⟩
 | x :: ds, _, _, r, i + 1, d, hd => by
  simp only [RepR] at r
  obtain ⟨c1, c2, f1, f2, rfl, rfl, h2, h3, h4⟩ := r
  obtain ⟨es, fp', k1, k2, k3⟩ := RepR.at h4 i d (by simpa using hd)
  refine ⟨es, fp', k1, fun j hj => ?_, k3⟩
  rw [<- k2 j hj, List.getElem?_append_right (by rw [h2, Nat.succ_mul]; omega)]
  congr 1
  rw [h2, Nat.succ_mul]; omega
theorem Rep.sl {w : World} {sz : Nat} {xs : List D} {cs : List Value} (h : Rep w (.sl sz xs) cs) :
 ∃ ao cap b o, cs = [.slice ao xs.length cap] /\ xs.length <= cap /\ cap <= maxLen /\ (0 < xs.length -> ao = some ⟨b, o, none⟩) /\
  ∀ i d, xs[i]? = some d -> ∃ es, es.length = sz /\ (∀ j, j < sz -> w.cell? ⟨b, o + i * sz + j, none⟩ = es[j]?) /\ Rep w d es := by
 obtain ⟨fp, h⟩ := h
 simp only [RepF] at h
 obtain ⟨ao, cap, rfl, hl, hm, hn, r⟩ := h
 rcases r with ⟨rfl, rfl⟩ | ⟨b, o, cells, fp', h1, h2, h3, hb, h4, h5⟩
 · exact ⟨ao, cap, 0, 0, rfl, hl, hm, by simp, by simp⟩
 · refine ⟨ao, cap, b, o, rfl, hl, hm, fun _ => h2, fun i d hd => ?_⟩
   obtain ⟨es, fp', k1, k2, k3⟩ := h5.at i d hd
   refine ⟨es, k1, fun j hj => ?_, k3.rep⟩
   have k := k2 j hj
   rw [List.getElem?_eq_getElem (show j < es.length by omega)] at k ⊢
   rw [Nat.add_assoc]
   exact h4 _ _ k
def strs (l : List ByteArray) : D := .sl 1 (l.map .str)
theorem Rep.strs {w : World} {l : List ByteArray} {cs : List Value} (h : Rep w (strs l) cs) :
 ∃ ao cap b o, cs = [.slice ao l.length cap] /\ l.length <= cap /\ cap <= maxLen /\ (0 < l.length -> ao = some ⟨b, o, none⟩) /\ ∀ i s, l[i]? = some s -> w.cell? ⟨b, o + i, none⟩ = some (.string s) := by
 obtain ⟨ao, cap, b, o, h1, h2, hm, h3, h4⟩ := h.sl
 simp only [List.length_map] at h1 h2 h3
 refine ⟨ao, cap, b, o, h1, h2, hm, h3, fun i s hs => ?_⟩
 obtain ⟨cs, k1, k2, k3⟩ := h4 i (.str s) (by simp [hs])
 obtain ⟨fp, k3⟩ := k3
 simp only [RepF] at k3
 obtain ⟨rfl, _⟩ := k3
 simpa using k2 0 (by omega)
noncomputable def eqB {α : Type} (a b : α) : Bool := by classical exact decide (a = b)
theorem eqB_tt {α : Type} {a b : α} (h : a = b) : eqB a b = true := by simp [eqB, h]
theorem eqB_ff {α : Type} {a b : α} (h : ¬ a = b) : eqB a b = false := by simp [eqB, h]
theorem eqB_iff {α : Type} {a b : α} : eqB a b = true ↔ a = b := by simp [eqB]
theorem ret_tt {α : Type} {a b : α} (h : a = b) : Ending.returned (.bool true) = .returned (.bool (eqB a b)) := by rw [eqB_tt h]
theorem ret_ff {α : Type} {a b : α} (h : ¬ a = b) : Ending.returned (.bool false) = .returned (.bool (eqB a b)) := by rw [eqB_ff h]
theorem ret_int {k : IntKind} {a b : Int} (h : a = b) : Ending.returned (.int k a) = .returned (.int k b) := by rw [h]
theorem Ext.alloc {a w : World} (h : Ext a w) (o : Obj) : Ext a (w.alloc o) := Below.alloc h h.size o
theorem toList_inj {a b : ByteArray} (h : a.toList = b.toList) : a = b := by
 cases a; cases b; simp [ByteArray.toList_eq] at h; simp [h]
theorem str_eq {a b : ByteArray} (h : a = b) : (a.toList == b.toList) = true := by subst h; simp
theorem str_ne {a b : ByteArray} (h : ¬ a = b) : (a.toList == b.toList) = false := by
 simpa using fun h' => h (toList_inj h')
theorem str_eqn {a b : ByteArray} (h : a = b) : (!a.toList == b.toList) = false := by subst h; simp
theorem str_nen {a b : ByteArray} (h : ¬ a = b) : (!a.toList == b.toList) = true := by rw [str_ne h]; rfl
theorem int_eq {a b : Int} (h : a = b) : (a == b) = true := by subst h; simp
theorem int_ne {a b : Int} (h : ¬ a = b) : (a == b) = false := by simpa using h
theorem int_eqn {a b : Int} (h : a = b) : (a != b) = false := by subst h; simp
theorem int_nen {a b : Int} (h : ¬ a = b) : (a != b) = true := by simpa using h
theorem reg {w wr : World} (hx : Ext w wr) {a : Addr} {v : Value} (h : w.cell? a = some v) : ∀ d os, (Sort.grow (redrawn wr d) os).cell? a = some v := fun d os => cell_regrown (hx.cell h) d os
theorem regx (w : World) (p : Regrown) : Ext w (Sort.grow (redrawn w p.d) p.os) := below_regrown w p.d p.os
def Own (w : World) (B : Nat) (e : TypeId) (C : Array Value) : Prop := w.heap[B]? = some (.cells C e (0, 0))
theorem Own.cell {w : World} {B : Nat} {e : TypeId} {C : Array Value} (h : Own w B e C) (j : Nat) : w.cell? ⟨B, j, none⟩ = C[j]? := cell_of_row w B j C e (0, 0) h
theorem Own.frozen {w : World} {B : Nat} {e : TypeId} {C : Array Value} (h : Own w B e C) (j : Nat) : w.frozen? ⟨B, j, none⟩ = false := frozen_of_row w B j C e h
theorem Own.lt {w : World} {B : Nat} {e : TypeId} {C : Array Value} (h : Own w B e C) : B < w.heap.size := by
 unfold Own at h; exact (Array.getElem?_eq_some_iff.1 h).1
theorem Own.ext {w w' : World} {B : Nat} {e : TypeId} {C : Array Value} (h : Own w B e C) (hx : Ext w w') : Own w' B e C := (hx.block B h.lt).trans h
theorem Own.set {w : World} {B : Nat} {e : TypeId} {C : Array Value} (h : Own w B e C) (j : Nat) (v : Value) : Own (w.setCell ⟨B, j, none⟩ v) B e (C.setIfInBounds j v) := heap_setCell_same w B j C e v h
structure Fresh (w : World) (B0 : Nat) (fp : List Nat) : Prop where
 nodup : fp.Nodup
 ge : ∀ b, b ∈ fp -> B0 <= b
 own : ∀ b, b ∈ fp -> ∃ C e, Own w b e C
theorem Fresh.nil (w : World) (B : Nat) : Fresh w B [] := ⟨by simp, by simp, by simp⟩
theorem Fresh.ext {w w' : World} {B : Nat} {fp : List Nat} (h : Fresh w B fp) (hx : Ext w w') : Fresh w' B fp :=
 ⟨h.nodup, h.ge, fun b hb => let ⟨C, e, ho⟩ := h.own b hb; ⟨C, e, ho.ext hx⟩⟩
theorem Fresh.mono {w : World} {B B' : Nat} {fp : List Nat} (h : Fresh w B fp) (hB : B' <= B) : Fresh w B' fp := ⟨h.nodup, fun b hb => Nat.le_trans hB (h.ge b hb), h.own⟩
theorem Fresh.lt {w : World} {B : Nat} {fp : List Nat} (h : Fresh w B fp) {b : Nat} (hb : b ∈ fp) : b < w.heap.size := let ⟨_, _, ho⟩ := h.own b hb; ho.lt
theorem Fresh.append {w w' : World} {B B' : Nat} {fp gp : List Nat} (h : Fresh w B fp) (hx : Ext w w') (k : Fresh w' B' gp) (hB : w.heap.size <= B') (hb : B <= B') : Fresh w' B (fp ++ gp) := by
 have h' := h.ext hx
 refine ⟨List.nodup_append.2 ⟨h.nodup, k.nodup, fun x hx y hy e => ?_⟩, fun b hm => ?_, fun b hm => ?_⟩
 · have := h.lt hx; have := k.ge y hy; omega
 · rcases List.mem_append.1 hm with hm | hm
   · exact h.ge b hm
   · have := k.ge b hm; omega
 · rcases List.mem_append.1 hm with hm | hm
   · exact h'.own b hm
   · exact k.own b hm
def GivesV (w : World) (d : D) (e : Ending) (w' : World) : Prop := ∃ ao n cap fp, e = .returned (.slice ao n cap) /\ RepF w' d [.slice ao n cap] fp /\ Fresh w' w.heap.size fp /\ Ext w w'
def GivesS (w : World) (d : D) (e : Ending) (w' : World) : Prop := ∃ cs fp, e = .returned (.agg cs.toArray) /\ RepF w' d cs fp /\ Fresh w' w.heap.size fp /\ Ext w w'
theorem bcell {W w1 : World} (hb : Ext W w1) : (∀ b o, b < W.heap.size -> w1.cell? ⟨b, o, none⟩ = W.cell? ⟨b, o, none⟩) /\ (∀ b o, b < W.heap.size -> w1.frozen? ⟨b, o, none⟩ = W.frozen? ⟨b, o, none⟩) :=
 ⟨fun b o h => Below.cell hb (p := ⟨b, o, none⟩) h, fun b o h => Below.frozen hb (p := ⟨b, o, none⟩) h⟩
theorem RepF.low {w : World} {d : D} {cs : List Value} {fp : List Nat} {B : Nat} (h : RepF w d cs fp) (hB : ∀ b, b ∈ fp -> B <= b) {ab ao : Nat} (ha : ab < B) (v : Value) : RepF (w.setCell ⟨ab, ao, none⟩ v) d cs fp :=
 h.keep d fun b hb => heap_setCell_other w ⟨ab, ao, none⟩ b v (show b ≠ ab by have := hB b hb; omega)
theorem Ext.setCell {a w : World} (h : Ext a w) {pb po : Nat} (hp : a.heap.size <= pb) (u : Value) : Ext a (w.setCell ⟨pb, po, none⟩ u) := Below.setCell h (p := ⟨pb, po, none⟩) hp u
theorem RepS.nil (w : World) : RepS w [] [] [] := ⟨rfl, rfl⟩
theorem RepS.int {w : World} {ds : List D} {cs : List Value} {fp : List Nat} (n : Int) (h : RepS w ds cs fp) : RepS w (.int n :: ds) (.int .i64 n :: cs) fp := by
 simp only [RepS, RepF]; exact ⟨[_], _, [], _, rfl, rfl, ⟨rfl, rfl⟩, h⟩
theorem RepS.str {w : World} {ds : List D} {cs : List Value} {fp : List Nat} (s : ByteArray) (h : RepS w ds cs fp) : RepS w (.str s :: ds) (.string s :: cs) fp := by
 simp only [RepS, RepF]; exact ⟨[_], _, [], _, rfl, rfl, ⟨rfl, rfl⟩, h⟩
theorem RepS.one {w : World} {d : D} {ds : List D} {v : Value} {cs : List Value} {f g : List Nat} (h1 : RepF w d [v] f) (h : RepS w ds cs g) : RepS w (d :: ds) (v :: cs) (f ++ g) := by
 simp only [RepS]; exact ⟨[_], _, f, g, rfl, rfl, h1, h⟩
theorem RepF.st {w : World} {ds : List D} {cs : List Value} {f : List Nat} (h : RepS w ds cs f) : RepF w (.st ds) cs f := by simpa only [RepF] using h
theorem RepF.un_st {w : World} {ds : List D} {cs : List Value} {f : List Nat} (h : RepF w (.st ds) cs f) : RepS w ds cs f := by simpa only [RepF] using h
theorem RepS.un_int {w : World} {n : Int} {ds : List D} {cs : List Value} {fp : List Nat} (h : RepS w (.int n :: ds) cs fp) : ∃ c2, cs = .int .i64 n :: c2 /\ RepS w ds c2 fp := by
 simp only [RepS, RepF] at h
 obtain ⟨_, c2, _, _, rfl, rfl, ⟨rfl, rfl⟩, h⟩ := h
 exact ⟨c2, rfl, h⟩
theorem RepS.un_str {w : World} {s : ByteArray} {ds : List D} {cs : List Value} {fp : List Nat} (h : RepS w (.str s :: ds) cs fp) : ∃ c2, cs = .string s :: c2 /\ RepS w ds c2 fp := by
 simp only [RepS, RepF] at h
 obtain ⟨_, c2, _, _, rfl, rfl, ⟨rfl, rfl⟩, h⟩ := h
 exact ⟨c2, rfl, h⟩
theorem RepS.un_sub {w : World} {d : D} {ds : List D} {cs : List Value} {fp : List Nat} (h : RepS w (d :: ds) cs fp) : ∃ c1 c2 f1 f2, cs = c1 ++ c2 /\ fp = f1 ++ f2 /\ RepF w d c1 f1 /\ RepS w ds c2 f2 := by
 simpa only [RepS] using h
theorem RepF.slice_cells {w : World} {sz : Nat} {xs : List D} {cs : List Value} {fp : List Nat} (h : RepF w (.sl sz xs) cs fp) : ∃ ao cap, cs = [.slice ao xs.length cap] := by
 simp only [RepF] at h
 obtain ⟨ao, cap, rfl, _⟩ := h
 exact ⟨ao, cap, rfl⟩
theorem RepS.un_sl {w : World} {sz : Nat} {xs : List D} {ds : List D} {cs : List Value} {fp : List Nat} (h : RepS w (.sl sz xs :: ds) cs fp) :
 ∃ ao cap c2 f1 f2, cs = .slice ao xs.length cap :: c2 /\ fp = f1 ++ f2 /\ RepF w (.sl sz xs) [.slice ao xs.length cap] f1 /\ RepS w ds c2 f2 := by
 obtain ⟨c1, c2, f1, f2, rfl, rfl, h1, h2⟩ := RepS.un_sub h
 obtain ⟨ao, cap, rfl⟩ := RepF.slice_cells h1
 exact ⟨ao, cap, c2, f1, f2, rfl, rfl, h1, h2⟩
theorem Rep.slmap {α : Type} {f : α -> D} {w : World} {sz : Nat} {l : List α} {cs : List Value} (h : Rep w (.sl sz (l.map f)) cs) :
 ∃ ao cap b o, cs = [.slice ao l.length cap] /\ l.length <= cap /\ cap <= maxLen /\ (0 < l.length -> ao = some ⟨b, o, none⟩) /\
  ∀ i x, l[i]? = some x -> ∃ es, es.length = sz /\ (∀ j, j < sz -> w.cell? ⟨b, o + i * sz + j, none⟩ = es[j]?) /\ Rep w (f x) es := by
 obtain ⟨ao, cap, b, o, h1, h2, hm, h3, h4⟩ := h.sl
 simp only [List.length_map] at h1 h2 h3
 exact ⟨ao, cap, b, o, h1, h2, hm, h3, fun i x hx => h4 i (f x) (by simp [hx])⟩
def ints (l : List Int) : D := .sl 1 (l.map .int)
mutual
def D.bulk : D -> Nat
 | .int _ => 0
 | .str s => s.size
 | .bool _ => 0
 | .st fs => D.bulkL fs
 | .sl _ xs => xs.length + D.bulkL xs
def D.bulkL : List D -> Nat
 | [] => 0
 | d :: ds => d.bulk + D.bulkL ds
end
mutual
def D.ok : D -> Prop
 | .int n => -9223372036854775808 <= n /\ n <= 9223372036854775807
 | .str s => s.size <= 9223372036854775807
 | .bool _ => True
 | .st fs => D.okL fs
 | .sl _ xs => D.okL xs
def D.okL : List D -> Prop
 | [] => True
 | d :: ds => d.ok /\ D.okL ds
end
theorem D.bulkL_append : ∀ (xs ys : List D), D.bulkL (xs ++ ys) = D.bulkL xs + D.bulkL ys
 | [], ys => by simp [D.bulkL]
 | x :: xs, ys => by simp [D.bulkL, D.bulkL_append xs ys]; omega
theorem D.bulkL_mem : ∀ {xs : List D} {x : D}, x ∈ xs -> x.bulk <= D.bulkL xs
 | [], _, h => by simp at h
 | y :: ys, x, hx => by
  simp only [D.bulkL]
  rcases List.mem_cons.1 hx with rfl | hx
  · omega
  · have := D.bulkL_mem hx; omega
theorem Fresh.join {w : World} {B B2 : Nat} {fp gp : List Nat} (h : Fresh w B fp) (k : Fresh w B2 gp) (hlt : ∀ b, b ∈ fp -> b < B2) (hB : B <= B2) : Fresh w B (fp ++ gp) := by
 refine ⟨List.nodup_append.2 ⟨h.nodup, k.nodup, fun x hx y hy e => ?_⟩, fun b hm => ?_, fun b hm => ?_⟩
 · have := hlt x hx; have := k.ge y hy; omega
 · rcases List.mem_append.1 hm with hm | hm
   · exact h.ge b hm
   · have := k.ge b hm; omega
 · rcases List.mem_append.1 hm with hm | hm
   · exact h.own b hm
   · exact k.own b hm
theorem RepF.sl_iff {w : World} {sz : Nat} {xs : List D} {cs : List Value} {fp : List Nat} : RepF w (.sl sz xs) cs fp ↔ ∃ ao cap, cs = [.slice ao xs.length cap] /\ xs.length <= cap /\ cap <= maxLen /\ (ao = none -> cap = 0) /\
 ((xs = [] /\ fp = []) ∨ ∃ b o cells fp', xs ≠ [] /\ ao = some ⟨b, o, none⟩ /\ fp = b :: fp' /\ b < w.heap.size /\ (∀ (j : Nat) c, cells[j]? = some c -> w.cell? ⟨b, o + j, none⟩ = some c) /\ RepR w sz xs cells fp') := by
 rw [RepF]
theorem Ext.drew {a w : World} (h : Ext a w) : Ext a w.drew := Below.drew h
theorem ret_bool {a b : Bool} (h : a = b) : Ending.returned (.bool a) = .returned (.bool b) := by rw [h]
theorem Own.k0 {w : World} {b : Nat} {e : TypeId} {a0 : Value} {l : List Value} (h : Own w b e (List.toArray (a0 :: l))) : w.cell? ⟨b, 0, none⟩ = Option.some a0 := h.cell 0
theorem Own.k1 {w : World} {b : Nat} {e : TypeId} {a0 a1 : Value} {l : List Value} (h : Own w b e (List.toArray (a0 :: a1 :: l))) : w.cell? ⟨b, 1, none⟩ = Option.some a1 := h.cell 1
theorem Own.k2 {w : World} {b : Nat} {e : TypeId} {a0 a1 a2 : Value} {l : List Value} (h : Own w b e (List.toArray (a0 :: a1 :: a2 :: l))) : w.cell? ⟨b, 2, none⟩ = Option.some a2 := h.cell 2
theorem Own.k3 {w : World} {b : Nat} {e : TypeId} {a0 a1 a2 a3 : Value} {l : List Value} (h : Own w b e (List.toArray (a0 :: a1 :: a2 :: a3 :: l))) : w.cell? ⟨b, 3, none⟩ = Option.some a3 := h.cell 3
theorem Own.k4 {w : World} {b : Nat} {e : TypeId} {a0 a1 a2 a3 a4 : Value} {l : List Value} (h : Own w b e (List.toArray (a0 :: a1 :: a2 :: a3 :: a4 :: l))) : w.cell? ⟨b, 4, none⟩ = Option.some a4 := h.cell 4
theorem Own.k5 {w : World} {b : Nat} {e : TypeId} {a0 a1 a2 a3 a4 a5 : Value} {l : List Value} (h : Own w b e (List.toArray (a0 :: a1 :: a2 :: a3 :: a4 :: a5 :: l))) : w.cell? ⟨b, 5, none⟩ = Option.some a5 := h.cell 5
theorem Own.f0 {w : World} {B : Nat} {e : TypeId} {C : Array Value} (h : Own w B e C) : w.frozen? ⟨B, 0, none⟩ = false := Own.frozen h 0
theorem Own.f1 {w : World} {B : Nat} {e : TypeId} {C : Array Value} (h : Own w B e C) : w.frozen? ⟨B, 1, none⟩ = false := Own.frozen h 1
theorem Own.f2 {w : World} {B : Nat} {e : TypeId} {C : Array Value} (h : Own w B e C) : w.frozen? ⟨B, 2, none⟩ = false := Own.frozen h 2
theorem Own.f3 {w : World} {B : Nat} {e : TypeId} {C : Array Value} (h : Own w B e C) : w.frozen? ⟨B, 3, none⟩ = false := Own.frozen h 3
theorem Own.f4 {w : World} {B : Nat} {e : TypeId} {C : Array Value} (h : Own w B e C) : w.frozen? ⟨B, 4, none⟩ = false := Own.frozen h 4
theorem Own.f5 {w : World} {B : Nat} {e : TypeId} {C : Array Value} (h : Own w B e C) : w.frozen? ⟨B, 5, none⟩ = false := Own.frozen h 5
end Go.Proofs.YtndhpbjhkgdieaaGreatDoor
