/-
  SEVERAL TEXTS IN ONE: A SLICE THAT A CALL GATHERS, its elements' own rows within a set of blocks; a tree's kids but the first; CONTRACTS: drawn trees: what they are in memory; l1Once, l3Send, l3Block.
  Conditions: those that each lemma states.
-/
import Derived.Test.YtndhpbjhkgdieaaGreatDoorRows
import Derived.Test.YtndhpbjhkgdieaaGreatDoorP24
import Derived.Test.YtndhpbjhkgdieaaGreatDoorP27
import Derived.Test.YtndhpbjhkgdieaaGreatDoorP18
namespace Go.Proofs.YtndhpbjhkgdieaaGreatDoor
open Go.RowKit
set_option maxHeartbeats 8000000
set_option maxRecDepth 100000
set_option linter.unusedSimpArgs false
set_option linter.unusedVariables false
def AcwS (S : Nat -> Prop) (B0 : Nat) (w : World) (e : TypeId) (size : Nat) (v : Value) (ds : List D) : Prop :=
 ∃ xs fp, w.ownsRow B0 e size v ds.length xs /\ RepR w size ds xs fp /\ (∀ k, k ∈ fp -> S k) /\ ∀ k, v.ownBlock = some k -> k ∉ fp
def AccXS (S : Nat -> Prop) (B0 : Nat) (w : World) (v : Value) (l : List MExpr) : Prop := AcwS S B0 w 27 5 v (l.map MExpr.d)
theorem AcwS.touch {S : Nat -> Prop} {B0 : Nat} {w w' : World} {e : TypeId} {size : Nat} {v : Value} {ds : List D} {gp : List Nat} (h : AcwS S B0 w e size v ds) (ht : Touch w w' gp) (hg : ∀ k, k ∈ gp -> ¬ S k /\ v.ownBlock ≠ some k) : AcwS S B0 w' e size v ds := by
 obtain ⟨xs, fp, ⟨k1, k2⟩, h2, h3, h4⟩ := h
 refine ⟨xs, fp, ⟨k1, ?_⟩, h2.keep _ _ fun k hk => ht.block k (h2.lt _ _ k hk) (fun hm => (hg k hm).1 (h3 k hk)), h3, h4⟩
 rcases k2 with k2 | ⟨g, cap, cur, rfl, hg2, hh, r⟩
 · exact Or.inl k2
 · exact Or.inr ⟨g, cap, cur, rfl, hg2, (ht.block g (Array.getElem?_eq_some_iff.1 hh).1 (fun hm => (hg g hm).2 (by simp [Value.ownBlock]))).trans hh, r⟩
theorem AcwS.ext {S : Nat -> Prop} {B0 : Nat} {w w' : World} {e : TypeId} {size : Nat} {v : Value} {ds : List D} (h : AcwS S B0 w e size v ds) (hx : Ext w w') : AcwS S B0 w' e size v ds := h.touch (Touch.of_ext hx []) (fun k hk => nomatch hk)
theorem AcwS.acw {S : Nat -> Prop} {B0 : Nat} {w : World} {e : TypeId} {size : Nat} {v : Value} {ds : List D} (h : AcwS S B0 w e size v ds) (hS : ∀ k, S k -> B0 <= k) : Acw B0 w e size v ds := by
 obtain ⟨xs, fp, h1, h2, h3, h4⟩ := h
 exact ⟨xs, fp, h1, h2, fun k hk => hS k (h3 k hk), h4⟩
theorem AcwS.ge {S : Nat -> Prop} {B0 : Nat} {w : World} {e : TypeId} {size : Nat} {v : Value} {ds : List D} (h : AcwS S B0 w e size v ds) {k : Nat} (hk : v.ownBlock = some k) : B0 <= k /\ k < w.heap.size := by
 obtain ⟨xs, fp, ⟨_, h2⟩, _⟩ := h
 rcases h2 with ⟨rfl, _⟩ | ⟨g, cap, cur, rfl, hg, hh, _⟩
 · cases hk
 · simp [Value.ownBlock] at hk
   subst hk
   exact ⟨hg, (Array.getElem?_eq_some_iff.1 hh).1⟩
theorem AcwS.rep {S : Nat -> Prop} {B0 : Nat} {w : World} {e : TypeId} {size : Nat} {v : Value} {ds : List D} (h : AcwS S B0 w e size v ds) (hsz : 0 < size) : ∃ ao cap gp, v = .slice ao ds.length cap /\ RepF w (.sl size ds) [.slice ao ds.length cap] gp /\ ∀ k, k ∈ gp -> S k ∨ v.ownBlock = some k := by
 obtain ⟨xs, fp, ⟨k1, k2⟩, h2, h3, h4⟩ := h
 rcases k2 with ⟨rfl, hn⟩ | ⟨g, cap, cur, rfl, hg, hh, hc, hm, hcs, htk⟩
 · have : ds = [] := List.length_eq_zero_iff.1 hn
   subst this
   exact ⟨none, 0, [], rfl, RepF.sl_iff.2 ⟨none, 0, rfl, by simp, by unfold maxLen; omega, by simp, Or.inl ⟨rfl, rfl⟩⟩, fun k hk => nomatch hk⟩
 · by_cases h0 : ds = []
   · subst h0
     exact ⟨_, cap, [], rfl, RepF.sl_iff.2 ⟨_, cap, rfl, hc, hm, by simp, Or.inl ⟨rfl, rfl⟩⟩, fun k hk => nomatch hk⟩
   · refine ⟨_, cap, g :: fp, rfl, RepF.sl_iff.2 ⟨_, cap, rfl, hc, hm, by simp, Or.inr ⟨g, 0, xs, fp, h0, rfl, rfl, (Array.getElem?_eq_some_iff.1 hh).1, fun j c hj => ?_, h2⟩⟩, fun k hk => ?_⟩
     · rw [Nat.zero_add, cell_of_row w g j cur e (0, 0) hh]
       rw [<- htk] at hj
       have hjl := (List.getElem?_eq_some_iff.1 hj).1
       rw [List.getElem?_take_of_lt (by rw [List.length_take] at hjl; omega)] at hj
       simpa using hj
     · rcases List.mem_cons.1 hk with rfl | hk
       · exact Or.inr (by simp [Value.ownBlock])
       · exact Or.inl (h3 k hk)
theorem AccXS.rep {S : Nat -> Prop} {B0 : Nat} {w : World} {v : Value} {l : List MExpr} (h : AccXS S B0 w v l) : ∃ ao cap gp, v = .slice ao l.length cap /\ RepF w (MExprs l) [.slice ao l.length cap] gp /\ ∀ k, k ∈ gp -> S k ∨ v.ownBlock = some k := by
 obtain ⟨ao, cap, gp, h1, h2, h3⟩ := AcwS.rep h (by decide)
 simp only [List.length_map] at h1 h2
 exact ⟨ao, cap, gp, h1, h2, h3⟩
theorem AcwS.own {S : Nat -> Prop} {B0 nb : Nat} {w : World} {e : TypeId} {size n : Nat} {ds : List D} {xs : List Value} {fp : List Nat} (hO : Own w nb e xs.toArray) (h : RepR w size ds xs fp) (hn : ds.length = n) (hB : B0 <= nb) (hm : n <= maxLen) (hS : ∀ k, k ∈ fp -> S k /\ k ≠ nb) : AcwS S B0 w e size (.slice (some ⟨nb, 0, none⟩) n n) ds := by
 subst hn
 have hl := RepR.length h
 refine ⟨xs, fp, ⟨hl, Or.inr ⟨nb, ds.length, xs.toArray, rfl, hB, hO, Nat.le_refl _, hm, by simpa using hl, by simp [<- hl]⟩⟩, h, fun k hk => (hS k hk).1, fun k hk hm => ?_⟩
 simp [Value.ownBlock] at hk
 exact (hS k hm).2 hk.symm
theorem AccXS.one {S : Nat -> Prop} {B0 nb : Nat} {w : World} {x : MExpr} {cs : List Value} {fp : List Nat} (h : RepF w x.d cs fp) (hO : Own w nb 27 cs.toArray) (hB : B0 <= nb) (hS : ∀ k, k ∈ fp -> S k /\ k ≠ nb) : AccXS S B0 w (.slice (some ⟨nb, 0, none⟩) 1 1) [x] := by
 obtain ⟨_, _, _, _, rfl⟩ := fld5 h
 exact AcwS.own hO (RepR.one h rfl) rfl hB (by unfold maxLen; omega) hS
theorem AccXS.two {S : Nat -> Prop} {B0 nb : Nat} {w : World} {x y : MExpr} {cs ds : List Value} {fp gp : List Nat} (h : RepF w x.d cs fp) (k : RepF w y.d ds gp) (hO : Own w nb 27 (cs ++ ds).toArray) (hB : B0 <= nb) (hS : ∀ k, k ∈ fp ++ gp -> S k /\ k ≠ nb) : AccXS S B0 w (.slice (some ⟨nb, 0, none⟩) 2 2) [x, y] := by
 obtain ⟨_, _, _, _, rfl⟩ := fld5 h
 obtain ⟨_, _, _, _, rfl⟩ := fld5 k
 exact AcwS.own hO ((RepR.one h rfl).append (RepR.one k rfl)) rfl hB (by unfold maxLen; omega) hS
theorem kids_cut {w : World} {k0 : MExpr} {l : List MExpr} {ao : Option Addr} {cap : Nat} {gp : List Nat} (h : RepF w (MExprs (k0 :: l)) [.slice ao (l.length + 1) cap] gp) :
 ∃ g off cs f0 f1, ao = some ⟨g, off, none⟩ /\ g < w.heap.size /\ l.length + 1 <= cap /\ cap <= maxLen /\ RepF w k0.d cs f0 /\ (∀ (j : Nat) c, cs[j]? = some c -> w.cell? ⟨g, off + j, none⟩ = some c) /\ (∀ k, k ∈ f0 -> k ∈ gp) /\ (∀ k, k ∈ f1 -> k ∈ gp) /\
  RepF w (MExprs l) [.slice (if cap = 1 then some ⟨g, off, none⟩ else some ⟨g, off + 5, none⟩) l.length (cap - 1)] f1 := by
 obtain ⟨ao', cap', h1, hc, hm, hn, h2⟩ := RepF.sl_iff.1 h
 simp at h1
 obtain ⟨rfl, rfl⟩ := h1
 rcases h2 with ⟨h2, _⟩ | ⟨g, off, cs, fp, _, ha, hgp, hg, hcell, hr⟩
 · cases h2
 subst ha
 have hr' : RepR w 5 (k0.d :: l.map MExpr.d) cs fp := hr
 simp only [RepR] at hr'
 obtain ⟨c1, c2, f1, f2, rfl, rfl, hl1, r1, r2⟩ := hr'
 have e0 : ([.slice (some ⟨g, off, none⟩) (l.length + 1) cap] : List Value).length = 1 := rfl
 have hc' : l.length + 1 <= cap := by simpa using hc
 subst hgp
 by_cases hl : l = []
 · subst hl
   simp only [List.map_nil, RepR] at r2
   refine ⟨g, off, c1, f1, [], rfl, hg, hc', hm, r1, fun j c hj => hcell j c ?_, fun k hk => by simp [hk], (fun k hk => nomatch hk), RepF.sl_iff.2 ⟨_, cap - 1, rfl, by simp, by omega, fun h => ?_, Or.inl ⟨rfl, rfl⟩⟩⟩
   · rw [List.getElem?_append_left (List.getElem?_eq_some_iff.1 hj).1]; exact hj
   · split at h <;> cases h
 · have hp : 0 < l.length := List.length_pos_iff.2 hl
   have hif : ∀ p q : Option Addr, (if cap = 1 then p else q) = q := fun _ _ => if_neg (by omega)
   simp only [hif]
   refine ⟨g, off, c1, f1, g :: f2, rfl, hg, hc', hm, r1, fun j c hj => hcell j c ?_, fun k hk => by simp [hk], fun k hk => ?_, RepF.sl_iff.2 ⟨_, cap - 1, by simp, by simp; omega, by omega, by simp, Or.inr ⟨g, off + 5, c2, f2, by simpa using hl, rfl, rfl, hg, fun j c hj => ?_, r2⟩⟩⟩
   · rw [List.getElem?_append_left (List.getElem?_eq_some_iff.1 hj).1]; exact hj
   · rcases List.mem_cons.1 hk with rfl | hk
     · simp
     · simp [hk]
   · have := hcell (5 + j) c (by rw [List.getElem?_append_right (by omega)]; rw [hl1]; simpa using hj)
     rwa [<- Nat.add_assoc] at this
theorem MExpr.op_enP {w : World} {x : MExpr} {cs : List Value} {fp : List Nat} (h : RepF w x.d cs fp) : ∃ a1 c1 a2 c2 f1 f2, cs = [.int .i64 x.kind, .string x.text, .int .i64 x.number, .slice a1 x.names.length c1, .slice a2 x.kids.length c2] /\
 RepF w (strs x.names) [.slice a1 x.names.length c1] f1 /\ RepF w (MExprs x.kids) [.slice a2 x.kids.length c2] f2 /\ (∀ k, k ∈ f1 -> k ∈ fp) /\ ∀ k, k ∈ f2 -> k ∈ fp := by
 rw [MExpr.d_eq] at h
 obtain ⟨k1, rfl, g1⟩ := RepS.un_int (RepF.un_st h)
 obtain ⟨k2, rfl, g2⟩ := RepS.un_str g1
 obtain ⟨k3, rfl, g3⟩ := RepS.un_int g2
 obtain ⟨a1, c1, k4, f1, f2, rfl, rfl, h1, g4⟩ := RepS.un_sl g3
 obtain ⟨a2, c2, k5, f3, f4, rfl, rfl, h2, g5⟩ := RepS.un_sl g4
 simp only [RepS] at g5
 obtain ⟨rfl, rfl⟩ := g5
 simp only [List.length_map] at h1 h2 ⊢
 exact ⟨a1, c1, a2, c2, f1, f3, rfl, h1, h2, fun k hk => List.mem_append_left _ hk, fun k hk => List.mem_append_right _ (List.mem_append_left _ hk)⟩
theorem kids_open {w : World} {x k0 : MExpr} {l : List MExpr} {v0 v1 v2 v3 : Value} {ao : Option Addr} {n cap : Nat} {fp : List Nat} (h : RepF w x.d [v0, v1, v2, v3, .slice ao n cap] fp) (hk : x.kids = k0 :: l) :
 n = l.length + 1 /\ ∃ g off cs f0 f1, ao = some ⟨g, off, none⟩ /\ g < w.heap.size /\ l.length + 1 <= cap /\ cap <= maxLen /\ RepF w k0.d cs f0 /\ (∀ (j : Nat) c, cs[j]? = some c -> w.cell? ⟨g, off + j, none⟩ = some c) /\ (∀ k, k ∈ f0 -> k ∈ fp) /\ (∀ k, k ∈ f1 -> k ∈ fp) /\
  RepF w (MExprs l) [.slice (if cap = 1 then some ⟨g, off, none⟩ else some ⟨g, off + 5, none⟩) l.length (cap - 1)] f1 := by
 obtain ⟨a1, c1, a2, c2, f1, f2, hcs, rn, rk, hf1, hf2⟩ := MExpr.op_enP h
 simp only [List.cons.injEq, Value.slice.injEq, and_true] at hcs
 obtain ⟨rfl, rfl, rfl, rfl, rfl, rfl, rfl⟩ := hcs
 rw [hk] at rk
 obtain ⟨g, off, cs, f0, f3, h1, h2, h3, h4, h5, h6, h7, h8, h9⟩ := kids_cut (l := l) (by rw [List.length_cons] at rk; exact rk)
 exact ⟨by rw [hk]; rfl, g, off, cs, f0, f3, h1, h2, h3, h4, h5, h6, fun k hk => hf2 k (h7 k hk), fun k hk => hf2 k (h8 k hk), h9⟩
theorem kids_cons {x : MExpr} (h : x.kids ≠ []) : ∃ k0 l, x.kids = k0 :: l := by
 cases hx : x.kids with
 | nil => exact absurd hx h
 | cons a l => exact ⟨a, l, rfl⟩
theorem run_append_s {S : Nat -> Prop} {P : Program} {w : World} (t ty : TypeId) (B0 : Nat) (e : TypeId) (i : TypeInfo) (z : Value) (size bytes : Nat) (ht : P.underlying t = some (.slice e)) (hi : P.info? e = some i) (hz : i.zero = some z)
 (hsize : i.size = size) (hby : i.bytes = bytes) (hzs : z.cells.size = size) (hsz : 0 < size)
 (v : Value) (ds : List D) (hacc : AcwS S B0 w e size v ds) (ys : List D) (ao : Option Addr) (m c : Nat) (gp : List Nat) (hr : RepF w (.sl size ys) [.slice ao m c] gp)
 (hF : ∀ k, k ∈ gp.tail -> S k) (hown : ∀ k, v.ownBlock = some k -> k ∉ gp.tail)
 (h63 : ds.length + m <= maxLen) (hbytes : (ds.length + m) * bytes <= 140737488355328) (hbase : B0 <= w.heap.size) :
 ∃ ao' cap' w', (Builtin.append_ #[t, t] ty #[v, .slice ao m c]).run P w = .ok (.slice ao' (ds.length + m) cap') w' /\ AcwS S B0 w' e size (.slice ao' (ds.length + m) cap') (ds ++ ys) /\ w.grownBy w' v.ownBlock /\ ((Value.slice ao' (ds.length + m) cap').ownBlock = v.ownBlock ∨ (Value.slice ao' (ds.length + m) cap').ownBlock = some w.heap.size) := by
 obtain ⟨xs, fp, h1, h2, h3, h4⟩ := hacc
 obtain ⟨hm, hml, news, hnr, hsrc⟩ := hr.source
 rcases hsrc with ⟨rfl, rfl, rfl, rfl⟩ | ⟨ad, rfl, hcells⟩
 · have hv : ∃ ao' cap', v = .slice ao' (ds.length + 0) cap' := by
    rcases h1.2 with ⟨rfl, hn⟩ | ⟨g, cap, cur, rfl, _⟩
    · exact ⟨none, 0, by rw [hn]⟩
    · exact ⟨_, cap, by rw [Nat.add_zero]⟩
   obtain ⟨ao', cap', hv⟩ := hv
   refine ⟨ao', cap', w, ?_, ⟨xs, fp, by rw [<- hv]; simpa using h1, by simpa using h2, h3, by rw [<- hv]; exact h4⟩, World.grownBy.refl _ _, Or.inl (by rw [<- hv])⟩
   rw [<- hv]
   exact run_append_owned_none (P := P) (w := w) B0 t ty e i size ht hi v ds.length xs h1
 · obtain ⟨v', w', hrun, hown', hgrow, hnil, hat⟩ := run_append_own_at (P := P) w B0 t ty e i z size bytes ht hi hz hsize hby hzs hsz v ds.length xs h1 ad m c news (by rw [hm]; exact hnr.length) hcells (fun u hu => RepR.one_cell hnr u hu) h63 hbytes hbase
   have hv : ∃ ao' cap', v' = .slice ao' (ds.length + m) cap' := by
    rcases hown'.2 with ⟨rfl, hn⟩ | ⟨g, cap, cur, rfl, _⟩
    · exact ⟨none, 0, by rw [hn]⟩
    · exact ⟨_, cap, rfl⟩
   have hlt : ∀ k, k ∈ fp ++ gp.tail -> k < w.heap.size := fun k hk => by
    rcases List.mem_append.1 hk with hk | hk
    · exact h2.lt _ _ k hk
    · exact hnr.lt _ _ k hk
   have hkeep : ∀ k, k ∈ fp ++ gp.tail -> w'.heap[k]? = w.heap[k]? := fun k hk => grown_keep hgrow (hlt k hk) (fun e => by
    rcases List.mem_append.1 hk with hk | hk
    · exact h4 k e hk
    · exact hown k e hk)
   obtain ⟨ao', cap', rfl⟩ := hv
   refine ⟨ao', cap', w', hrun, ⟨xs ++ news, fp ++ gp.tail, by rw [List.length_append, <- hm]; exact hown', (h2.keep size ds fun k hk => hkeep k (List.mem_append_left _ hk)).append (hnr.keep size ys fun k hk => hkeep k (List.mem_append_right _ hk)),
    fun k hk => (List.mem_append.1 hk).elim (h3 k) (hF k), fun k hk hkm => ?_⟩, hgrow, hat⟩
   rcases hat with hat | hat
   · rw [hat] at hk
     rcases List.mem_append.1 hkm with hkm | hkm
     · exact h4 k hk hkm
     · exact hown k hk hkm
   · have := hlt k hkm
     rw [hat] at hk; injection hk with hk; omega
theorem wp_append_s {S : Nat -> Prop} {P : Program} {w : World} {o : Oper} {a : Act} {K : Act -> World -> Prop} {Q : Exit -> Act -> World -> Prop} (s x : Operand) (t : TypeId)
 (ho : o.op = .call { callee := .builtin .append, args := #[s, x], argTypes := #[t, t] })
 (B0 : Nat) (e : TypeId) (i : TypeInfo) (z : Value) (size bytes : Nat) (ht : P.underlying t = some (.slice e)) (hi : P.info? e = some i) (hz : i.zero = some z)
 (hsize : i.size = size) (hby : i.bytes = bytes) (hzs : z.cells.size = size) (hsz : 0 < size)
 (v : Value) (ds : List D) (hs : a.eval s = v) (hacc : AcwS S B0 w e size v ds)
 (ys : List D) (ao : Option Addr) (m c : Nat) (gp : List Nat) (hx : a.eval x = .slice ao m c) (hr : RepF w (.sl size ys) [.slice ao m c] gp)
 (hF : ∀ k, k ∈ gp.tail -> S k) (hown : ∀ k, v.ownBlock = some k -> k ∉ gp.tail)
 (h63 : ds.length + m <= maxLen) (hbytes : (ds.length + m) * bytes <= 140737488355328) (hbase : B0 <= w.heap.size)
 (h : ∀ ao' cap' w', AcwS S B0 w' e size (.slice ao' (ds.length + m) cap') (ds ++ ys) -> w.grownBy w' v.ownBlock -> ((Value.slice ao' (ds.length + m) cap').ownBlock = v.ownBlock ∨ (Value.slice ao' (ds.length + m) cap').ownBlock = some w.heap.size) -> K (a.put o.dst (.slice ao' (ds.length + m) cap')) w') : o.wp P a w K Q := by
 obtain ⟨ao', cap', w', hrun, h2, h3, h4⟩ := run_append_s (P := P) t o.type B0 e i z size bytes ht hi hz hsize hby hzs hsz v ds hacc ys ao m c gp hr hF hown h63 hbytes hbase
 unfold Oper.wp execOp
 simp only [ho, resolve, invoke, builtin, Sem.run_bind, Sem.run_pure, Result.andThen_ok, List.map_toArray, List.map_cons, List.map_nil, hs, hx, hrun]
 exact h ao' cap' w' h2 h3 h4
theorem wp_append_xs {S : Nat -> Prop} {w : World} {o : Oper} {a : Act} {K : Act -> World -> Prop} {Q : Exit -> Act -> World -> Prop} (s y : Operand)
 (ho : o.op = .call { callee := .builtin .append, args := #[s, y], argTypes := #[25, 25] })
 (B0 : Nat) (v : Value) (l : List MExpr) (hs : a.eval s = v) (hacc : AccXS S B0 w v l)
 (ys : List MExpr) (ao : Option Addr) (m c : Nat) (gp : List Nat) (hx : a.eval y = .slice ao m c) (hr : RepF w (MExprs ys) [.slice ao m c] gp)
 (hF : ∀ k, k ∈ gp.tail -> S k) (hown : ∀ k, v.ownBlock = some k -> k ∉ gp.tail) (hlen : l.length + ys.length <= 1073741824) (hbase : B0 <= w.heap.size)
 (h : ∀ ao' cap' w', AccXS S B0 w' (.slice ao' (l.length + ys.length) cap') (l ++ ys) -> w.grownBy w' v.ownBlock -> ((Value.slice ao' (l.length + ys.length) cap').ownBlock = v.ownBlock ∨ (Value.slice ao' (l.length + ys.length) cap').ownBlock = some w.heap.size) -> K (a.put o.dst (.slice ao' (l.length + ys.length) cap')) w') : o.wp Tryz.prog a w K Q := by
 obtain ⟨i0, hi, hz0, hz1, hz2⟩ := info_parts exprInfo
 have hm : m = ys.length := by
  obtain ⟨_, _, h1, _⟩ := RepF.sl_iff.1 hr
  simp at h1; omega
 subst hm
 refine wp_append_s s y 25 ho B0 27 i0 _ 5 80 Tryz.underlying25 hi hz0 hz1 hz2 rfl (by decide) v (l.map MExpr.d) hs hacc (ys.map MExpr.d) ao ys.length c gp hx hr hF hown (by simp [maxLen]; omega) (by simp; omega) hbase ?_
 intro ao' cap' w' h2 h3 h4
 simp only [List.length_map, <- List.map_append] at h2 h4 ⊢
 exact h ao' cap' w' h2 h3 h4
theorem wpList_append_xs {S : Nat -> Prop} {w : World} {ops : Array Oper} {rest : List Oper} {o : Oper} {a : Act} {Q : Exit -> Act -> World -> Prop} (hgd : o.guard = none) (s y : Operand)
 (ho : o.op = .call { callee := .builtin .append, args := #[s, y], argTypes := #[25, 25] })
 (B0 : Nat) (v : Value) (l : List MExpr) (hs : a.eval s = v) (hacc : AccXS S B0 w v l)
 (ys : List MExpr) (ao : Option Addr) (m c : Nat) (gp : List Nat) (hx : a.eval y = .slice ao m c) (hr : RepF w (MExprs ys) [.slice ao m c] gp)
 (hF : ∀ k, k ∈ gp.tail -> S k) (hown : ∀ k, v.ownBlock = some k -> k ∉ gp.tail) (hlen : l.length + ys.length <= 1073741824) (hbase : B0 <= w.heap.size)
 (h : ∀ ao' cap' w', AccXS S B0 w' (.slice ao' (l.length + ys.length) cap') (l ++ ys) -> w.grownBy w' v.ownBlock -> ((Value.slice ao' (l.length + ys.length) cap').ownBlock = v.ownBlock ∨ (Value.slice ao' (l.length + ys.length) cap').ownBlock = some w.heap.size) -> wpList Tryz.prog ops Q rest (a.put o.dst (.slice ao' (l.length + ys.length) cap')) w') : wpList Tryz.prog ops Q (o :: rest) a w :=
 wpList_plain hgd fun _ hK => wp_append_xs s y ho B0 v l hs hacc ys ao m c gp hx hr hF hown hlen hbase fun ao' cap' w' h2 h3 h4 => hK _ _ (h ao' cap' w' h2 h3 h4)
theorem step_append_xs {S : Nat -> Prop} {w : World} {ops : Array Oper} {o : Oper} {a : Act} {K : Act -> World -> Prop} {Q : Exit -> Act -> World -> Prop} {E : Prop} (hgd : o.guard = none) (s y : Operand)
 (ho : o.op = .call { callee := .builtin .append, args := #[s, y], argTypes := #[25, 25] })
 (B0 : Nat) (v : Value) (l : List MExpr) (hs : a.eval s = v) (hacc : AccXS S B0 w v l)
 (ys : List MExpr) (ao : Option Addr) (m c : Nat) (gp : List Nat) (hx : a.eval y = .slice ao m c) (hr : RepF w (MExprs ys) [.slice ao m c] gp)
 (hF : ∀ k, k ∈ gp.tail -> S k) (hown : ∀ k, v.ownBlock = some k -> k ∉ gp.tail) (hlen : l.length + ys.length <= 1073741824) (hbase : B0 <= w.heap.size)
 (h : ∀ ao' cap' w', AccXS S B0 w' (.slice ao' (l.length + ys.length) cap') (l ++ ys) -> w.grownBy w' v.ownBlock -> ((Value.slice ao' (l.length + ys.length) cap').ownBlock = v.ownBlock ∨ (Value.slice ao' (l.length + ys.length) cap').ownBlock = some w.heap.size) -> K (a.put o.dst (.slice ao' (l.length + ys.length) cap')) w') : if Region.wanted o (yielded ops a.tmps) = true then Oper.wp Tryz.prog o a w K Q else E := by
 have hw : Region.wanted o (yielded ops a.tmps) = true := by simp [Region.wanted, hgd]
 rw [if_pos hw]
 exact wp_append_xs s y ho B0 v l hs hacc ys ao m c gp hx hr hF hown hlen hbase h
def DrX (B0 lim : Nat) (w : World) (x : MExpr) (vs : List Value) : Prop :=
 ∃ an cn ak ck fn, vs = [.int .i64 x.kind, .string x.text, .int .i64 x.number, .slice an x.names.length cn, .slice ak x.kids.length ck] /\
  RepF w (strs x.names) [.slice an x.names.length cn] fn /\ (∀ k, k ∈ fn -> B0 <= k) /\ AccX B0 w (.slice ak x.kids.length ck) x.kids /\ x.d.ok /\ x.d.bulk <= lim /\ (0 <= x.number /\ x.number <= 999999999) /\ (0 <= x.kind /\ x.kind <= 100) /\ x.text.size <= 100 /\ ∀ k, (Value.slice ak x.kids.length ck).ownBlock = some k -> k ∉ fn
theorem DrX.shape {B0 lim : Nat} {w : World} {x : MExpr} {vs : List Value} (h : DrX B0 lim w x vs) : ∃ an cn ak ck, vs = [.int .i64 x.kind, .string x.text, .int .i64 x.number, .slice an x.names.length cn, .slice ak x.kids.length ck] := by
 obtain ⟨an, cn, ak, ck, fn, h, -⟩ := h
 exact ⟨an, cn, ak, ck, h⟩
theorem AccX.rep' {B0 : Nat} {w : World} {ao : Option Addr} {cap : Nat} {l : List MExpr} {n : Nat} (h : AccX B0 w (.slice ao n cap) l) : ∃ gp, RepF w (MExprs l) [.slice ao n cap] gp /\ ∀ k, k ∈ gp -> B0 <= k := by
 obtain ⟨ao', cap', gp, h1, h2, h3⟩ := AccX.rep h
 rw [<- h1] at h2
 exact ⟨gp, h2, h3⟩
theorem DrX.rep {B0 lim : Nat} {w : World} {x : MExpr} {vs : List Value} (h : DrX B0 lim w x vs) : ∃ fp, RepF w x.d vs fp /\ ∀ k, k ∈ fp -> B0 <= k := by
 obtain ⟨an, cn, ak, ck, fn, rfl, h1, h2, h3, -⟩ := h
 obtain ⟨gp, h4, h5⟩ := h3.rep'
 refine ⟨_, MExpr.shut h1 h4, fun k hk => ?_⟩
 simp only [List.append_nil, List.mem_append] at hk
 exact hk.elim (h2 k) (h5 k)
theorem AccX.touch {B0 : Nat} {w w' : World} {v : Value} {l : List MExpr} {gp : List Nat} (h : AccX B0 w v l) (ht : Touch w w' gp) (hg : ∀ k, k ∈ gp -> k < B0) : AccX B0 w' v l := Acw.touch h ht hg
theorem AccX.base {B0 B1 : Nat} {w : World} {v : Value} {l : List MExpr} (h : AccX B1 w v l) (hB : B0 <= B1) : AccX B0 w v l := Acw.base h hB
theorem DrX.touch {B0 lim : Nat} {w w' : World} {x : MExpr} {vs : List Value} {gp : List Nat} (h : DrX B0 lim w x vs) (ht : Touch w w' gp) (hg : ∀ k, k ∈ gp -> k < B0) : DrX B0 lim w' x vs := by
 obtain ⟨an, cn, ak, ck, fn, h0, h1, h2, h3, h4⟩ := h
 exact ⟨an, cn, ak, ck, fn, h0, h1.touch ht (fun b hb hm => by have := h2 b hb; have := hg b hm; omega), h2, h3.touch ht hg, h4⟩
theorem DrX.ext {B0 lim : Nat} {w w' : World} {x : MExpr} {vs : List Value} (h : DrX B0 lim w x vs) (hx : Ext w w') : DrX B0 lim w' x vs := h.touch (Touch.of_ext hx []) (fun k hk => nomatch hk)
theorem DrX.base {B0 B1 lim : Nat} {w : World} {x : MExpr} {vs : List Value} (h : DrX B1 lim w x vs) (hB : B0 <= B1) : DrX B0 lim w x vs := by
 obtain ⟨an, cn, ak, ck, fn, h0, h1, h2, h3, h4⟩ := h
 exact ⟨an, cn, ak, ck, fn, h0, h1, fun k hk => Nat.le_trans hB (h2 k hk), h3.base hB, h4⟩
theorem DrX.ok {B0 lim : Nat} {w : World} {x : MExpr} {vs : List Value} (h : DrX B0 lim w x vs) : x.d.ok /\ x.d.bulk <= lim := by
 obtain ⟨an, cn, ak, ck, fn, h0, h1, h2, h3, h4, h5, -⟩ := h
 exact ⟨h4, h5⟩
theorem ex_ok {k n : Int} {t : ByteArray} {nm : List ByteArray} {l : List MExpr} (h1 : 0 <= k /\ k <= 100) (h2 : t.size <= 100) (h3 : 0 <= n /\ n <= 1000000000) (h4 : D.okL (nm.map .str)) (h5 : D.okL (l.map MExpr.d)) : (MExpr.mk k t n nm l).d.ok := by
 rw [MExpr.d_eq]
 simp only [D.ok, D.okL, strs, MExprs]
 exact ⟨⟨by omega, by omega⟩, by omega, ⟨by omega, by omega⟩, h4, h5, trivial⟩
theorem mk_drx {B0 lim : Nat} {w : World} {k n : Int} {t : ByteArray} {l : List MExpr} {ak : Option Addr} {m ck : Nat} (hm : m = l.length) (ha : AccX B0 w (.slice ak m ck) l) (h1 : 0 <= k /\ k <= 100) (h2 : t.size <= 100) (h3 : 0 <= n /\ n <= 999999999) (h5 : D.okL (l.map MExpr.d)) (hb : t.size + wtL l <= lim) :
 DrX B0 lim w ⟨k, t, n, [], l⟩ [.int .i64 k, .string t, .int .i64 n, .slice none 0 0, .slice ak m ck] := by
 subst hm
 refine ⟨none, 0, ak, ck, [], rfl, rep_nilT w, (fun k hk => nomatch hk), ha, ex_ok h1 h2 ⟨h3.1, by omega⟩ trivial h5, ?_, h3, h1, h2, (fun k _ hk => nomatch hk)⟩
 rw [MExpr.bulk_eq]
 unfold wtL at hb
 simp only [List.length_nil, List.map_nil, D.bulkL]
 omega
theorem AcwS.acwB {S : Nat -> Prop} {B0 B1 : Nat} {w : World} {e : TypeId} {size : Nat} {v : Value} {ds : List D} (h : AcwS S B1 w e size v ds) (hB : B0 <= B1) (hS : ∀ k, S k -> B0 <= k) : Acw B0 w e size v ds := by
 obtain ⟨xs, fp, ⟨k1, k2⟩, h2, h3, h4⟩ := h
 refine ⟨xs, fp, ⟨k1, ?_⟩, h2, fun k hk => hS k (h3 k hk), h4⟩
 rcases k2 with k2 | ⟨g, cap, cur, hv, hg, r⟩
 · exact Or.inl k2
 · exact Or.inr ⟨g, cap, cur, hv, Nat.le_trans hB hg, r⟩
theorem AccX.nil (B0 : Nat) (w : World) : AccX B0 w (.slice none 0 0) [] := Acw.nil _ _ _ _
theorem AccX.lit1 {B0 nb : Nat} {w : World} {x : MExpr} {vs fp} (h : RepF w x.d vs fp) (hO : Own w nb 27 vs.toArray) (hB : B0 <= nb) (hS : ∀ k, k ∈ fp -> B0 <= k /\ k ≠ nb) : AccX B0 w (.slice (some ⟨nb, 0, none⟩) 1 1) [x] :=
 AcwS.acw (S := fun k => B0 <= k) (AccXS.one h hO hB hS) (fun k hk => hk)
theorem AccX.lit2 {B0 nb : Nat} {w : World} {x y : MExpr} {vs us fp gp} (h : RepF w x.d vs fp) (k : RepF w y.d us gp) (hO : Own w nb 27 (vs ++ us).toArray) (hB : B0 <= nb) (hS : ∀ k, k ∈ fp ++ gp -> B0 <= k /\ k ≠ nb) : AccX B0 w (.slice (some ⟨nb, 0, none⟩) 2 2) [x, y] :=
 AcwS.acw (S := fun k => B0 <= k) (AccXS.two h k hO hB hS) (fun k hk => hk)
theorem AccX.lit3 {B0 nb : Nat} {w : World} {x y z : MExpr} {vs us ts fp gp hp} (h : RepF w x.d vs fp) (k : RepF w y.d us gp) (j : RepF w z.d ts hp) (hO : Own w nb 27 (vs ++ us ++ ts).toArray) (hB : B0 <= nb) (hS : ∀ k, k ∈ fp ++ gp ++ hp -> B0 <= k /\ k ≠ nb) : AccX B0 w (.slice (some ⟨nb, 0, none⟩) 3 3) [x, y, z] := by
 obtain ⟨_, _, _, _, rfl⟩ := fld5 h
 obtain ⟨_, _, _, _, rfl⟩ := fld5 k
 obtain ⟨_, _, _, _, rfl⟩ := fld5 j
 exact AcwS.acw (S := fun k => B0 <= k) (AcwS.own hO (((RepR.one h rfl).append (RepR.one k rfl)).append (RepR.one j rfl)) rfl hB (by unfold maxLen; omega) hS) (fun k hk => hk)
theorem AccT.touch {B0 : Nat} {w w' : World} {v : Value} {l : List ByteArray} {gp : List Nat} (h : AccT B0 w v l) (ht : Touch w w' gp) (hg : ∀ k, v.ownBlock = some k -> k ∉ gp) : AccT B0 w' v l := by
 unfold AccT Acc at *
 obtain ⟨xs, ⟨k1, k2⟩, h2, h3, h4⟩ := h
 refine ⟨xs, ⟨k1, ?_⟩, h2.keep _ _ (by simp), Fresh.nil _ _, h4⟩
 rcases k2 with k2 | ⟨g, cap, cur, rfl, hg2, hh, r⟩
 · exact Or.inl k2
 · exact Or.inr ⟨g, cap, cur, rfl, hg2, (ht.block g (Array.getElem?_eq_some_iff.1 hh).1 (hg g rfl)).trans hh, r⟩
structure DS (w : World) (B : Nat) (v : Value) (W : World) : Prop where
 t : Touch w W [B]
 c : Cur W B v
 o : Own W w.heap.size 27 #[.int .i64 0, .string ⟨#[]⟩, .int .i64 0, .slice none 0 0, .slice none 0 0]
theorem DS.sz {w : World} {B : Nat} {v : Value} {W : World} (h : DS w B v W) : w.heap.size + 1 <= W.heap.size := h.o.lt
theorem Cur.touch' {w w' : World} {B : Nat} {v : Value} {fp : List Nat} (h : Cur w B v) (ht : Touch w w' fp) (hB : B ∉ fp) : Cur w' B v := let ⟨i, q, hi, hO⟩ := h; ⟨i, q, hi, hO.touch' ht hB⟩
theorem DS.call {w : World} {B : Nat} {v : Value} {W W' : World} (h : DS w B v W) (hr : w.heap.size ≠ B) (ht : Touch W W' [B]) (hC : Cur W' B v) : DS w B v W' := ⟨h.t.trans ht, hC, h.o.touch' ht (by simpa using hr)⟩
theorem DS.ext {w : World} {B : Nat} {v : Value} {W W' : World} (h : DS w B v W) (hx : Ext W W') : DS w B v W' := ⟨h.t.trans (Touch.of_ext hx _), h.c.ext hx, h.o.ext hx⟩
theorem DS.late {w : World} {B : Nat} {v : Value} {W W' : World} {gp : List Nat} (h : DS w B v W) (hb : B < w.heap.size) (ht : Touch W W' gp) (hg : ∀ k, k ∈ gp -> w.heap.size < k) : DS w B v W' :=
 ⟨h.t.trans' ht (fun k hk => Or.inr (by have := hg k hk; omega)), h.c.touch' ht (fun hm => by have := hg B hm; omega), h.o.touch' ht (fun hm => by have := hg _ hm; omega)⟩
theorem DS.start {w : World} {B : Nat} {v : Value} (hC : Cur w B v) (a : World) (ha : w.alloc (.cells #[.int .i64 0, .string ⟨#[]⟩, .int .i64 0, .slice none 0 0, .slice none 0 0] 27) = a) : DS w B v a := by
 subst ha
 exact ⟨Touch.of_ext ((XR w).alloc _) _, hC.ext ((XR w).alloc _), own_new w _ _⟩
theorem l1Once_c (B : Nat) (v : Value) (n : Nat) (w : World) (hC : Cur w B v) (hc : Bytes w v) (hB : Off v B) (h0 : 0 < n) (h1 : n <= 4294967296) :
 Calls Tryz.prog 60 #[.pointer (some ⟨B, 0, none⟩), .int .i64 n] w fun e w' => (∃ b : Bool, e = .returned (.bool b)) /\ Touch w w' [B] /\ Cur w' B v := by
 go_enter Tryz.func60, Tryz.ntmps60
 go_wp2_with fail
 refine (l1Below_cur B v n w hC hc hB h0 h1).mono ?_
 rintro e w1 ⟨⟨m, rfl, hm⟩, hT, hC1⟩
 go_wp2_with fail
 go_ret
 exact ⟨⟨_, rfl⟩, hT, hC1⟩
theorem l3SendD {B0 : Nat} {w : World} {x : MExpr} {cs : List Value} {fp : List Nat} (s : ByteArray) {l : List MExpr} {ao : Option Addr} {cap : Nat} {gp : List Nat} (hr : RepF w x.d cs fp) (ha : RepF w (MExprs l) [.slice ao l.length cap] gp) (hl : l.length <= 100000) (hBF : ∀ k, k ∈ fp -> B0 <= k) (hBG : ∀ k, k ∈ gp -> B0 <= k) (hB0 : B0 <= w.heap.size) (m : Nat) (hm : m = l.length + 1) :
 Calls Tryz.prog 59 #[.agg cs.toArray, .string s, .slice ao l.length cap] w fun e w' => (∃ a k, e = .returned (.agg #[.int .i64 6, .string s, .int .i64 0, .slice none 0 0, .slice a m k]) /\ AccX B0 w' (.slice a m k) (x :: l)) /\ Ext w w' := by
 obtain rfl : m = 1 + l.length := by omega
 clear hm
 have HBF := LH hBF
 have HBG := LH hBG
 clear hBF hBG
 obtain ⟨y1, y2, y3, y4, rfl⟩ := fld5 hr
 go_enter Tryz.func59, Tryz.ntmps59
 go_upto_region 1 with fail
 generalize hS : World.alloc (World.alloc w _) _ = W1
 have x1 : Ext w W1 := by rw [<- hS]; exact ((XR _).alloc _).alloc _
 have OX : Own W1 w.heap.size 27 #[.int .i64 x.kind, .string x.text, .int .i64 x.number, .slice y1 x.names.length y2, .slice y3 x.kids.length y4] := by rw [<- hS]; exact (own_new w _ _).ext ((XR _).alloc _)
 have OR : Own W1 (w.heap.size + 1) 27 #[.int .i64 0, .string ⟨#[]⟩, .int .i64 0, .slice none 0 0, .slice none 0 0] := by rw [<- hS]; exact own_new2 w _ _ _
 have hs1 : w.heap.size + 1 + 1 <= W1.heap.size := by rw [<- hS]; simp
 clear hS
 have HR1 := LH (hr.ext x1)
 have HA1 := LH (ha.ext x1)
 have hfl := hr.lt
 have hgl := ha.lt
 have HF : Hid (∀ k, k ∈ fp -> k < w.heap.size) := LH hfl
 have HG : Hid (∀ k, k ∈ gp -> k < w.heap.size) := LH hgl
 clear hr ha hfl hgl
 have q0 := OX.k0
 have qf0 := OX.f0
 have q1 := OX.k1
 have qf1 := OX.f1
 have q2 := OX.k2
 have qf2 := OX.f2
 have q3 := OX.k3
 have qf3 := OX.f3
 have q4 := OX.k4
 have qf4 := OX.f4
 have qz := OX.lt
 have x2 : Ext W1 (W1.alloc (.cells #[.int .i64 x.kind, .string x.text, .int .i64 x.number, .slice y1 x.names.length y2, .slice y3 x.kids.length y4] 27)) := (XR W1).alloc _
 have KD : AccXS (fun k => k ∈ fp ∨ k ∈ gp) (w.heap.size + 1 + 1) (W1.alloc (.cells #[.int .i64 x.kind, .string x.text, .int .i64 x.number, .slice y1 x.names.length y2, .slice y3 x.kids.length y4] 27)) (.slice (some ⟨W1.heap.size, 0, none⟩) 1 1) [x] := AccXS.one (HR1.out.ext x2) (own_new W1 #[.int .i64 x.kind, .string x.text, .int .i64 x.number, .slice y1 x.names.length y2, .slice y3 x.kids.length y4] 27) (by omega) (fun k hk => ⟨Or.inl hk, by have := HF.out k hk; omega⟩)
 have HSL := HA1.out.ext x2
 have F1 : ∀ k, k ∈ gp.tail -> k ∈ fp ∨ k ∈ gp := fun k hk => Or.inr (List.mem_of_mem_tail hk)
 have F2 : ∀ k, (Value.slice (some ⟨W1.heap.size, 0, none⟩) 1 1).ownBlock = some k -> k ∉ gp.tail := fun k hk hm => by
  have := HG.out k (List.mem_of_mem_tail hm)
  simp [Value.ownBlock] at hk
  omega
 have hl1 : ([x] : List MExpr).length + l.length <= 1073741824 := by simp; omega
 go_wp2_with (at_builtin; refine wpList_append_xs rfl _ _ rfl (w.heap.size + 1 + 1) _ [x] rfl KD l _ _ _ gp rfl HSL F1 F2 hl1 (by simp; omega) ?_)
 intro a1 k1 w7 ac1 g1 m1
 have hz71 : W1.heap.size + 1 <= w7.heap.size := by have := g1.size; simpa using this
 have TG : Touch (W1.alloc (.cells #[.int .i64 x.kind, .string x.text, .int .i64 x.number, .slice y1 x.names.length y2, .slice y3 x.kids.length y4] 27)) w7 [W1.heap.size] := (Touch.of_ext (XR _) _).grown g1 fun k hk => Or.inl (by simp [Value.ownBlock] at hk; simp [hk])
 have OR7 := (OR.ext x2).touch' TG (by simp; omega)
 have X7 : Ext w w7 := Touch.ext (x1.trans x2) TG (fun k hk => by simp at hk; omega)
 have HAC := LH ac1
 have HX7 := LH X7
 clear KD HSL F1 F2 hl1 g1 TG ac1 OX OR HR1 HA1 x1 x2 X7 q0 qf0 q1 qf1 q2 qf2 q3 qf3 q4 qf4 qz
 have r0 := OR7.k0
 have rf0 := OR7.f0
 have r1 := OR7.k1
 have rf1 := OR7.f1
 have r2 := OR7.k2
 have rf2 := OR7.f2
 have r3 := OR7.k3
 have rf3 := OR7.f3
 have r4 := OR7.k4
 have rf4 := OR7.f4
 have rz := OR7.lt
 go_wp2_with fail
 generalize hS : World.setCell (World.setCell (World.setCell (World.setCell (World.setCell w7 _ _) _ _) _ _) _ _) _ _ = W8
 obtain ⟨O8, T8⟩ := own5 OR7 (.int .i64 6) (.string s) (.int .i64 0) (.slice none 0 0) (.slice a1 (1 + l.length) k1)
 rw [hS] at O8 T8
 clear hS
 have p0 := O8.k0
 have p1 := O8.k1
 have p2 := O8.k2
 have p3 := O8.k3
 have p4 := O8.k4
 have pz := O8.lt
 have hob : (Value.slice a1 (1 + l.length) k1).ownBlock ≠ some (w.heap.size + 1) := by
  rcases m1 with h | h
  · intro e
    rw [h] at e
    simp [Value.ownBlock] at e
    omega
  · intro e
    rw [h] at e
    simp at e
    omega
 have AC8 := AcwS.touch HAC.out T8 (fun k hk => by
  simp at hk
  subst hk
  refine ⟨fun h => ?_, hob⟩
  rcases h with h | h
  · have := HF.out _ h; omega
  · have := HG.out _ h; omega)
 have FIN : (∃ a k, Ending.returned (.agg #[.int .i64 6, .string s, .int .i64 0, .slice none 0 0, .slice a1 (1 + l.length) k1]) = .returned (.agg #[.int .i64 6, .string s, .int .i64 0, .slice none 0 0, .slice a (1 + l.length) k]) /\ AccX B0 W8 (.slice a (1 + l.length) k) (x :: l)) /\ Ext w W8 :=
  ⟨⟨a1, k1, rfl, AcwS.acwB AC8 (by omega) (fun k hk => hk.elim (HBF.out k) (HBG.out k))⟩, Touch.ext HX7.out T8 (fun k hk => by simp at hk; omega)⟩
 exact bodyPost_ret (v := .agg #[.int .i64 6, .string s, .int .i64 0, .slice none 0 0, .slice a1 (1 + l.length) k1]) (by simp [results, Tryz.results59, go_sem, p0, p1, p2, p3, p4, pz]) rfl FIN
theorem l3BlockD (p t : List ByteArray) (vp vt : Value) (ab : Option Addr) (nb cb : Nat) (w : World) (rp : Rep w (strs p) [vp]) (rt : Rep w (strs t) [vt]) (hl : p.length + t.length <= 1048576) :
 Calls Tryz.prog 61 #[vp, vt, .slice ab nb cb] w fun e w' => (∃ a2 c2 gp, e = .returned (.agg #[.int .i64 8, .string ⟨#[]⟩, .int .i64 p.length, .slice a2 (p.length + t.length) c2, .slice ab nb cb]) /\ RepF w' (strs (p ++ t)) [.slice a2 (p.length + t.length) c2] gp /\ ∀ k, k ∈ gp -> w.heap.size <= k) /\ Ext w w' := by
 obtain ⟨ap, cp, bp, op, h1, hlp, hmp, pp, hp⟩ := Rep.strs rp
 obtain ⟨at', ct, bt, ot, h2, hlt, hmt, pt, ht⟩ := Rep.strs rt
 simp only [List.cons.injEq, and_true] at h1 h2
 subst h1 h2
 go_enter Tryz.func61, Tryz.ntmps61
 have hA : ∀ o : Obj, AccT (w.heap.size + 1) ((w.alloc o).alloc (.cells #[] 9)) (.slice (some ⟨w.heap.size + 1, 0, none⟩) 0 0) [] := fun o => Acc.empty_at (own_new2 w o #[] _) (Nat.le_refl _)
 go_wp2_with (at_builtin; refine wpList_append_strs rfl _ _ rfl _ (.slice (some ⟨w.heap.size + 1, 0, none⟩) 0 0) [] rfl (hA _) p _ _ _ rfl (Rep.ext (((XR w).alloc _).alloc _) rp) (by first | omega | (simp; omega)) (by simp) ?_)
 intro a1 c1 w1 ac1 hg1
 have hx1 := AccT.below (hA _) (Below.alloc (Below.refl (w.heap.size + 1) _) (by simp) _) hg1 (by simp)
 clear hg1
 have hz1 : w.heap.size + 1 <= w1.heap.size := by have := hx1.size; simpa using this
 go_wp2_with (at_builtin; refine wpList_append_strs rfl _ _ rfl _ _ _ rfl ac1 t _ _ _ rfl (Rep.ext (((XR w).alloc _).trans (ext_box hx1)) rt) (by first | omega | (simp; omega)) hz1 ?_)
 intro a2 c2 w2 ac2 hg2
 have hx2 := ext_box (AccT.below ac1 hx1 hg2 hz1)
 clear hg2 hx1 ac1 hz1
 obtain ⟨q1, q2⟩ := bcell hx2
 have hz : w.heap.size + 1 <= w2.heap.size := by have := hx2.size; simpa using this
 go_wp2_with fail
 obtain ⟨a3, c3, gp, e1, h4, hf4⟩ := ac2.rep
 simp only [List.length_append, Value.slice.injEq] at e1
 obtain ⟨rfl, -, rfl⟩ := e1
 have fin : ∀ W, Ext w W -> RepF W (strs (p ++ t)) [.slice a2 (p.length + t.length) c2] gp ->
  (∃ a2' c2' gp', Ending.returned (.agg #[.int .i64 8, .string ⟨#[]⟩, .int .i64 p.length, .slice a2 (p.length + t.length) c2, .slice ab nb cb]) = .returned (.agg #[.int .i64 8, .string ⟨#[]⟩, .int .i64 p.length, .slice a2' (p.length + t.length) c2', .slice ab nb cb]) /\ RepF W (strs (p ++ t)) [.slice a2' (p.length + t.length) c2'] gp' /\ ∀ k, k ∈ gp' -> w.heap.size <= k) /\ Ext w W := by
  intro W hE hN
  exact ⟨⟨a2, c2, gp, rfl, hN, fun k hk => by have := hf4.ge k hk; omega⟩, hE⟩
 refine bodyPost_ret (v := .agg #[.int .i64 8, .string ⟨#[]⟩, .int .i64 p.length, .slice a2 (p.length + t.length) c2, .slice ab nb cb]) (by simp [results, Tryz.results61, go_sem, q1, hz]) rfl (fin _ ?_ ?_)
 · iterate 5 refine Ext.setCell ?_ (Nat.le_refl _) _
   exact ((XR w).alloc _).trans hx2
 · iterate 5 refine RepF.low ?_ hf4.ge (Nat.lt_succ_self _) _
   simpa only [List.length_append] using h4
end Go.Proofs.YtndhpbjhkgdieaaGreatDoor
