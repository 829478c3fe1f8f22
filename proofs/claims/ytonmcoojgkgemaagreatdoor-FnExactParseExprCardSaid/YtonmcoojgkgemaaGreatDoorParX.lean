/-
  A SLICE THAT A CALL GATHERS, its elements' own rows within a set of blocks; a tree's kids but the first.
  Conditions: those that each lemma states.
-/
import Derived.Test.YtonmcoojgkgemaaGreatDoorRows
import Derived.Test.YtonmcoojgkgemaaGreatDoorP24
import Derived.Test.YtonmcoojgkgemaaGreatDoorParK
namespace Go.Proofs.YtonmcoojgkgemaaGreatDoor
open Go.RowKit
set_option linter.unusedSimpArgs false
set_option linter.unusedVariables false

/-- As Acw; the blocks of the elements' rows are in S. -/
def AcwS (S : Nat → Prop) (B0 : Nat) (w : World) (e : TypeId) (size : Nat) (v : Value) (ds : List D) : Prop :=
  ∃ xs fp, w.ownsRow B0 e size v ds.length xs ∧ RepR w size ds xs fp ∧ (∀ k, k ∈ fp → S k) ∧ ∀ k, v.ownBlock = some k → k ∉ fp
def AccXS (S : Nat → Prop) (B0 : Nat) (w : World) (v : Value) (l : List MExpr) : Prop := AcwS S B0 w 25 5 v (l.map MExpr.d)
theorem AcwS.touch {S : Nat → Prop} {B0 : Nat} {w w' : World} {e : TypeId} {size : Nat} {v : Value} {ds : List D} {gp : List Nat} (h : AcwS S B0 w e size v ds) (ht : Touch w w' gp) (hg : ∀ k, k ∈ gp → ¬ S k ∧ v.ownBlock ≠ some k) : AcwS S B0 w' e size v ds := by
  obtain ⟨xs, fp, ⟨k1, k2⟩, h2, h3, h4⟩ := h
  refine ⟨xs, fp, ⟨k1, ?_⟩, h2.keep _ _ fun k hk => ht.block k (h2.lt _ _ k hk) (fun hm => (hg k hm).1 (h3 k hk)), h3, h4⟩
  rcases k2 with k2 | ⟨g, cap, cur, rfl, hg2, hh, r⟩
  · exact Or.inl k2
  · exact Or.inr ⟨g, cap, cur, rfl, hg2, (ht.block g (Array.getElem?_eq_some_iff.1 hh).1 (fun hm => (hg g hm).2 (by simp [Value.ownBlock]))).trans hh, r⟩
theorem AcwS.ext {S : Nat → Prop} {B0 : Nat} {w w' : World} {e : TypeId} {size : Nat} {v : Value} {ds : List D} (h : AcwS S B0 w e size v ds) (hx : Ext w w') : AcwS S B0 w' e size v ds := h.touch (Touch.of_ext hx []) (fun k hk => nomatch hk)
theorem AcwS.acw {S : Nat → Prop} {B0 : Nat} {w : World} {e : TypeId} {size : Nat} {v : Value} {ds : List D} (h : AcwS S B0 w e size v ds) (hS : ∀ k, S k → B0 ≤ k) : Acw B0 w e size v ds := by
  obtain ⟨xs, fp, h1, h2, h3, h4⟩ := h
  exact ⟨xs, fp, h1, h2, fun k hk => hS k (h3 k hk), h4⟩
theorem AcwS.ge {S : Nat → Prop} {B0 : Nat} {w : World} {e : TypeId} {size : Nat} {v : Value} {ds : List D} (h : AcwS S B0 w e size v ds) {k : Nat} (hk : v.ownBlock = some k) : B0 ≤ k ∧ k < w.heap.size := by
  obtain ⟨xs, fp, ⟨_, h2⟩, _⟩ := h
  rcases h2 with ⟨rfl, _⟩ | ⟨g, cap, cur, rfl, hg, hh, _⟩
  · cases hk
  · simp [Value.ownBlock] at hk
    subst hk
    exact ⟨hg, (Array.getElem?_eq_some_iff.1 hh).1⟩
/-- The row is a slice that reads as its data; its blocks are its own and those of S. -/
theorem AcwS.rep {S : Nat → Prop} {B0 : Nat} {w : World} {e : TypeId} {size : Nat} {v : Value} {ds : List D} (h : AcwS S B0 w e size v ds) (hsz : 0 < size) : ∃ ao cap gp, v = .slice ao ds.length cap ∧ RepF w (.sl size ds) [.slice ao ds.length cap] gp ∧ ∀ k, k ∈ gp → S k ∨ v.ownBlock = some k := by
  obtain ⟨xs, fp, ⟨k1, k2⟩, h2, h3, h4⟩ := h
  rcases k2 with ⟨rfl, hn⟩ | ⟨g, cap, cur, rfl, hg, hh, hc, hm, hcs, htk⟩
  · have : ds = [] := List.length_eq_zero_iff.1 hn
    subst this
    exact ⟨none, 0, [], rfl, RepF.sl_iff.2 ⟨none, 0, rfl, by simp, by unfold maxLen; omega, by simp, Or.inl ⟨rfl, rfl⟩⟩, fun k hk => nomatch hk⟩
  · by_cases h0 : ds = []
    · subst h0
      exact ⟨_, cap, [], rfl, RepF.sl_iff.2 ⟨_, cap, rfl, hc, hm, by simp, Or.inl ⟨rfl, rfl⟩⟩, fun k hk => nomatch hk⟩
    · refine ⟨_, cap, g :: fp, rfl, RepF.sl_iff.2 ⟨_, cap, rfl, hc, hm, by simp, Or.inr ⟨g, 0, xs, fp, h0, rfl, rfl, (Array.getElem?_eq_some_iff.1 hh).1, fun j c hj => ?_, h2⟩⟩, fun k hk => ?_⟩
      · rw [Nat.zero_add, cell_of_row w g j cur e (0, 0) hh]
        rw [← htk] at hj
        have hjl := (List.getElem?_eq_some_iff.1 hj).1
        rw [List.getElem?_take_of_lt (by rw [List.length_take] at hjl; omega)] at hj
        simpa using hj
      · rcases List.mem_cons.1 hk with rfl | hk
        · exact Or.inr (by simp [Value.ownBlock])
        · exact Or.inl (h3 k hk)
theorem AccXS.rep {S : Nat → Prop} {B0 : Nat} {w : World} {v : Value} {l : List MExpr} (h : AccXS S B0 w v l) : ∃ ao cap gp, v = .slice ao l.length cap ∧ RepF w (MExprs l) [.slice ao l.length cap] gp ∧ ∀ k, k ∈ gp → S k ∨ v.ownBlock = some k := by
  obtain ⟨ao, cap, gp, h1, h2, h3⟩ := AcwS.rep h (by decide)
  simp only [List.length_map] at h1 h2
  exact ⟨ao, cap, gp, h1, h2, h3⟩
/-- A row that lies in one block of its own. -/
theorem AcwS.own {S : Nat → Prop} {B0 nb : Nat} {w : World} {e : TypeId} {size n : Nat} {ds : List D} {xs : List Value} {fp : List Nat} (hO : Own w nb e xs.toArray) (h : RepR w size ds xs fp) (hn : ds.length = n) (hB : B0 ≤ nb) (hm : n ≤ maxLen) (hS : ∀ k, k ∈ fp → S k ∧ k ≠ nb) : AcwS S B0 w e size (.slice (some ⟨nb, 0, none⟩) n n) ds := by
  subst hn
  have hl := RepR.length h
  refine ⟨xs, fp, ⟨hl, Or.inr ⟨nb, ds.length, xs.toArray, rfl, hB, hO, Nat.le_refl _, hm, by simpa using hl, by simp [← hl]⟩⟩, h, fun k hk => (hS k hk).1, fun k hk hm => ?_⟩
  simp [Value.ownBlock] at hk
  exact (hS k hm).2 hk.symm
theorem AccXS.one {S : Nat → Prop} {B0 nb : Nat} {w : World} {x : MExpr} {cs : List Value} {fp : List Nat} (h : RepF w x.d cs fp) (hO : Own w nb 25 cs.toArray) (hB : B0 ≤ nb) (hS : ∀ k, k ∈ fp → S k ∧ k ≠ nb) : AccXS S B0 w (.slice (some ⟨nb, 0, none⟩) 1 1) [x] := by
  obtain ⟨_, _, _, _, rfl⟩ := fld5 h
  exact AcwS.own hO (RepR.one h rfl) rfl hB (by unfold maxLen; omega) hS
theorem AccXS.two {S : Nat → Prop} {B0 nb : Nat} {w : World} {x y : MExpr} {cs ds : List Value} {fp gp : List Nat} (h : RepF w x.d cs fp) (k : RepF w y.d ds gp) (hO : Own w nb 25 (cs ++ ds).toArray) (hB : B0 ≤ nb) (hS : ∀ k, k ∈ fp ++ gp → S k ∧ k ≠ nb) : AccXS S B0 w (.slice (some ⟨nb, 0, none⟩) 2 2) [x, y] := by
  obtain ⟨_, _, _, _, rfl⟩ := fld5 h
  obtain ⟨_, _, _, _, rfl⟩ := fld5 k
  exact AcwS.own hO ((RepR.one h rfl).append (RepR.one k rfl)) rfl hB (by unfold maxLen; omega) hS
/-- A tree's kids: the first and the rest. -/
theorem kids_cut {w : World} {k0 : MExpr} {l : List MExpr} {ao : Option Addr} {cap : Nat} {gp : List Nat} (h : RepF w (MExprs (k0 :: l)) [.slice ao (l.length + 1) cap] gp) :
    ∃ g off cs f0 f1, ao = some ⟨g, off, none⟩ ∧ g < w.heap.size ∧ l.length + 1 ≤ cap ∧ cap ≤ maxLen ∧ RepF w k0.d cs f0 ∧ (∀ (j : Nat) c, cs[j]? = some c → w.cell? ⟨g, off + j, none⟩ = some c) ∧ (∀ k, k ∈ f0 → k ∈ gp) ∧ (∀ k, k ∈ f1 → k ∈ gp) ∧
      RepF w (MExprs l) [.slice (if cap = 1 then some ⟨g, off, none⟩ else some ⟨g, off + 5, none⟩) l.length (cap - 1)] f1 := by
  obtain ⟨ao', cap', h1, hc, hm, hn, h2⟩ := RepF.sl_iff.1 h
  simp at h1
  obtain ⟨rfl, rfl⟩ := h1
  rcases h2 with ⟨h2, _⟩ | ⟨g, off, cs, fp, _, ha, hgp, hg, hcell, hr⟩
  · cases h2
  subst ha
  have hr' : RepR w 5 (k0.d :: l.map MExpr.d) cs fp := hr
  simp only [RepR] at hr'
  obtain ⟨c1, c2, f1, f2, rfl, rfl, hl1, r1, r2⟩ := hr'
  have e0 : ([.slice (some ⟨g, off, none⟩) (l.length + 1) cap] : List Value).length = 1 := rfl
  have hc' : l.length + 1 ≤ cap := by simpa using hc
  subst hgp
  by_cases hl : l = []
  · subst hl
    simp only [List.map_nil, RepR] at r2
    refine ⟨g, off, c1, f1, [], rfl, hg, hc', hm, r1, fun j c hj => hcell j c ?_, fun k hk => by simp [hk], (fun k hk => nomatch hk), RepF.sl_iff.2 ⟨_, cap - 1, rfl, by simp, by omega, fun h => ?_, Or.inl ⟨rfl, rfl⟩⟩⟩
    · rw [List.getElem?_append_left (List.getElem?_eq_some_iff.1 hj).1]; exact hj
    · split at h <;> cases h
  · have hp : 0 < l.length := List.length_pos_iff.2 hl
    have hif : ∀ p q : Option Addr, (if cap = 1 then p else q) = q := fun _ _ => if_neg (by omega)
    simp only [hif]
    refine ⟨g, off, c1, f1, g :: f2, rfl, hg, hc', hm, r1, fun j c hj => hcell j c ?_, fun k hk => by simp [hk], fun k hk => ?_, RepF.sl_iff.2 ⟨_, cap - 1, by simp, by simp; omega, by omega, by simp, Or.inr ⟨g, off + 5, c2, f2, by simpa using hl, rfl, rfl, hg, fun j c hj => ?_, r2⟩⟩⟩
    · rw [List.getElem?_append_left (List.getElem?_eq_some_iff.1 hj).1]; exact hj
    · rcases List.mem_cons.1 hk with rfl | hk
      · simp
      · simp [hk]
    · have := hcell (5 + j) c (by rw [List.getElem?_append_right (by omega)]; rw [hl1]; simpa using hj)
      rwa [← Nat.add_assoc] at this
theorem MExpr.op_enP {w : World} {x : MExpr} {cs : List Value} {fp : List Nat} (h : RepF w x.d cs fp) : ∃ a1 c1 a2 c2 f1 f2, cs = [.int .i64 x.kind, .string x.text, .int .i64 x.number, .slice a1 x.names.length c1, .slice a2 x.kids.length c2] ∧
    RepF w (strs x.names) [.slice a1 x.names.length c1] f1 ∧ RepF w (MExprs x.kids) [.slice a2 x.kids.length c2] f2 ∧ (∀ k, k ∈ f1 → k ∈ fp) ∧ ∀ k, k ∈ f2 → k ∈ fp := by
  rw [MExpr.d_eq] at h
  obtain ⟨k1, rfl, g1⟩ := RepS.un_int (RepF.un_st h)
  obtain ⟨k2, rfl, g2⟩ := RepS.un_str g1
  obtain ⟨k3, rfl, g3⟩ := RepS.un_int g2
  obtain ⟨a1, c1, k4, f1, f2, rfl, rfl, h1, g4⟩ := RepS.un_sl g3
  obtain ⟨a2, c2, k5, f3, f4, rfl, rfl, h2, g5⟩ := RepS.un_sl g4
  simp only [RepS] at g5
  obtain ⟨rfl, rfl⟩ := g5
  simp only [List.length_map] at h1 h2 ⊢
  exact ⟨a1, c1, a2, c2, f1, f3, rfl, h1, h2, fun k hk => List.mem_append_left _ hk, fun k hk => List.mem_append_right _ (List.mem_append_left _ hk)⟩
/-- A tree with kids, in memory: the first of them, and the rest as a slice. -/
theorem kids_open {w : World} {x k0 : MExpr} {l : List MExpr} {v0 v1 v2 v3 : Value} {ao : Option Addr} {n cap : Nat} {fp : List Nat} (h : RepF w x.d [v0, v1, v2, v3, .slice ao n cap] fp) (hk : x.kids = k0 :: l) :
    n = l.length + 1 ∧ ∃ g off cs f0 f1, ao = some ⟨g, off, none⟩ ∧ g < w.heap.size ∧ l.length + 1 ≤ cap ∧ cap ≤ maxLen ∧ RepF w k0.d cs f0 ∧ (∀ (j : Nat) c, cs[j]? = some c → w.cell? ⟨g, off + j, none⟩ = some c) ∧ (∀ k, k ∈ f0 → k ∈ fp) ∧ (∀ k, k ∈ f1 → k ∈ fp) ∧
      RepF w (MExprs l) [.slice (if cap = 1 then some ⟨g, off, none⟩ else some ⟨g, off + 5, none⟩) l.length (cap - 1)] f1 := by
  obtain ⟨a1, c1, a2, c2, f1, f2, hcs, rn, rk, hf1, hf2⟩ := MExpr.op_enP h
  simp only [List.cons.injEq, Value.slice.injEq, and_true] at hcs
  obtain ⟨rfl, rfl, rfl, rfl, rfl, rfl, rfl⟩ := hcs
  rw [hk] at rk
  obtain ⟨g, off, cs, f0, f3, h1, h2, h3, h4, h5, h6, h7, h8, h9⟩ := kids_cut (l := l) (by rw [List.length_cons] at rk; exact rk)
  exact ⟨by rw [hk]; rfl, g, off, cs, f0, f3, h1, h2, h3, h4, h5, h6, fun k hk => hf2 k (h7 k hk), fun k hk => hf2 k (h8 k hk), h9⟩
theorem kids_cons {x : MExpr} (h : x.kids ≠ []) : ∃ k0 l, x.kids = k0 :: l := by
  cases hx : x.kids with
  | nil => exact absurd hx h
  | cons a l => exact ⟨a, l, rfl⟩

theorem run_append_s {S : Nat → Prop} {P : Program} {w : World} (t ty : TypeId) (B0 : Nat) (e : TypeId) (i : TypeInfo) (z : Value) (size bytes : Nat) (ht : P.underlying t = some (.slice e)) (hi : P.info? e = some i) (hz : i.zero = some z)
    (hsize : i.size = size) (hby : i.bytes = bytes) (hzs : z.cells.size = size) (hsz : 0 < size)
    (v : Value) (ds : List D) (hacc : AcwS S B0 w e size v ds) (ys : List D) (ao : Option Addr) (m c : Nat) (gp : List Nat) (hr : RepF w (.sl size ys) [.slice ao m c] gp)
    (hF : ∀ k, k ∈ gp.tail → S k) (hown : ∀ k, v.ownBlock = some k → k ∉ gp.tail)
    (h63 : ds.length + m ≤ maxLen) (hbytes : (ds.length + m) * bytes ≤ 140737488355328) (hbase : B0 ≤ w.heap.size) :
    ∃ ao' cap' w', (Builtin.append_ #[t, t] ty #[v, .slice ao m c]).run P w = .ok (.slice ao' (ds.length + m) cap') w' ∧ AcwS S B0 w' e size (.slice ao' (ds.length + m) cap') (ds ++ ys) ∧ w.grownBy w' v.ownBlock ∧ ((Value.slice ao' (ds.length + m) cap').ownBlock = v.ownBlock ∨ (Value.slice ao' (ds.length + m) cap').ownBlock = some w.heap.size) := by
  obtain ⟨xs, fp, h1, h2, h3, h4⟩ := hacc
  obtain ⟨hm, hml, news, hnr, hsrc⟩ := hr.source
  rcases hsrc with ⟨rfl, rfl, rfl, rfl⟩ | ⟨ad, rfl, hcells⟩
  · have hv : ∃ ao' cap', v = .slice ao' (ds.length + 0) cap' := by
      rcases h1.2 with ⟨rfl, hn⟩ | ⟨g, cap, cur, rfl, _⟩
      · exact ⟨none, 0, by rw [hn]⟩
      · exact ⟨_, cap, by rw [Nat.add_zero]⟩
    obtain ⟨ao', cap', hv⟩ := hv
    refine ⟨ao', cap', w, ?_, ⟨xs, fp, by rw [← hv]; simpa using h1, by simpa using h2, h3, by rw [← hv]; exact h4⟩, World.grownBy.refl _ _, Or.inl (by rw [← hv])⟩
    rw [← hv]
    exact run_append_owned_none (P := P) (w := w) B0 t ty e i size ht hi v ds.length xs h1
  · obtain ⟨v', w', hrun, hown', hgrow, hnil, hat⟩ := run_append_own_at (P := P) w B0 t ty e i z size bytes ht hi hz hsize hby hzs hsz v ds.length xs h1 ad m c news (by rw [hm]; exact hnr.length) hcells (fun u hu => RepR.one_cell hnr u hu) h63 hbytes hbase
    have hv : ∃ ao' cap', v' = .slice ao' (ds.length + m) cap' := by
      rcases hown'.2 with ⟨rfl, hn⟩ | ⟨g, cap, cur, rfl, _⟩
      · exact ⟨none, 0, by rw [hn]⟩
      · exact ⟨_, cap, rfl⟩
    have hlt : ∀ k, k ∈ fp ++ gp.tail → k < w.heap.size := fun k hk => by
      rcases List.mem_append.1 hk with hk | hk
      · exact h2.lt _ _ k hk
      · exact hnr.lt _ _ k hk
    have hkeep : ∀ k, k ∈ fp ++ gp.tail → w'.heap[k]? = w.heap[k]? := fun k hk => grown_keep hgrow (hlt k hk) (fun e => by
      rcases List.mem_append.1 hk with hk | hk
      · exact h4 k e hk
      · exact hown k e hk)
    obtain ⟨ao', cap', rfl⟩ := hv
    refine ⟨ao', cap', w', hrun, ⟨xs ++ news, fp ++ gp.tail, by rw [List.length_append, ← hm]; exact hown', (h2.keep size ds fun k hk => hkeep k (List.mem_append_left _ hk)).append (hnr.keep size ys fun k hk => hkeep k (List.mem_append_right _ hk)),
        fun k hk => (List.mem_append.1 hk).elim (h3 k) (hF k), fun k hk hkm => ?_⟩, hgrow, hat⟩
    rcases hat with hat | hat
    · rw [hat] at hk
      rcases List.mem_append.1 hkm with hkm | hkm
      · exact h4 k hk hkm
      · exact hown k hk hkm
    · have := hlt k hkm
      rw [hat] at hk; injection hk with hk; omega
theorem wp_append_s {S : Nat → Prop} {P : Program} {w : World} {o : Oper} {a : Act} {K : Act → World → Prop} {Q : Exit → Act → World → Prop} (s x : Operand) (t : TypeId)
    (ho : o.op = .call { callee := .builtin .append, args := #[s, x], argTypes := #[t, t] })
    (B0 : Nat) (e : TypeId) (i : TypeInfo) (z : Value) (size bytes : Nat) (ht : P.underlying t = some (.slice e)) (hi : P.info? e = some i) (hz : i.zero = some z)
    (hsize : i.size = size) (hby : i.bytes = bytes) (hzs : z.cells.size = size) (hsz : 0 < size)
    (v : Value) (ds : List D) (hs : a.eval s = v) (hacc : AcwS S B0 w e size v ds)
    (ys : List D) (ao : Option Addr) (m c : Nat) (gp : List Nat) (hx : a.eval x = .slice ao m c) (hr : RepF w (.sl size ys) [.slice ao m c] gp)
    (hF : ∀ k, k ∈ gp.tail → S k) (hown : ∀ k, v.ownBlock = some k → k ∉ gp.tail)
    (h63 : ds.length + m ≤ maxLen) (hbytes : (ds.length + m) * bytes ≤ 140737488355328) (hbase : B0 ≤ w.heap.size)
    (h : ∀ ao' cap' w', AcwS S B0 w' e size (.slice ao' (ds.length + m) cap') (ds ++ ys) → w.grownBy w' v.ownBlock → ((Value.slice ao' (ds.length + m) cap').ownBlock = v.ownBlock ∨ (Value.slice ao' (ds.length + m) cap').ownBlock = some w.heap.size) → K (a.put o.dst (.slice ao' (ds.length + m) cap')) w') : o.wp P a w K Q := by
  obtain ⟨ao', cap', w', hrun, h2, h3, h4⟩ := run_append_s (P := P) t o.type B0 e i z size bytes ht hi hz hsize hby hzs hsz v ds hacc ys ao m c gp hr hF hown h63 hbytes hbase
  unfold Oper.wp execOp
  simp only [ho, resolve, invoke, builtin, Sem.run_bind, Sem.run_pure, Result.andThen_ok, List.map_toArray, List.map_cons, List.map_nil, hs, hx, hrun]
  exact h ao' cap' w' h2 h3 h4

theorem wp_append_xs {S : Nat → Prop} {w : World} {o : Oper} {a : Act} {K : Act → World → Prop} {Q : Exit → Act → World → Prop} (s y : Operand)
    (ho : o.op = .call { callee := .builtin .append, args := #[s, y], argTypes := #[23, 23] })
    (B0 : Nat) (v : Value) (l : List MExpr) (hs : a.eval s = v) (hacc : AccXS S B0 w v l)
    (ys : List MExpr) (ao : Option Addr) (m c : Nat) (gp : List Nat) (hx : a.eval y = .slice ao m c) (hr : RepF w (MExprs ys) [.slice ao m c] gp)
    (hF : ∀ k, k ∈ gp.tail → S k) (hown : ∀ k, v.ownBlock = some k → k ∉ gp.tail) (hlen : l.length + ys.length ≤ 1073741824) (hbase : B0 ≤ w.heap.size)
    (h : ∀ ao' cap' w', AccXS S B0 w' (.slice ao' (l.length + ys.length) cap') (l ++ ys) → w.grownBy w' v.ownBlock → ((Value.slice ao' (l.length + ys.length) cap').ownBlock = v.ownBlock ∨ (Value.slice ao' (l.length + ys.length) cap').ownBlock = some w.heap.size) → K (a.put o.dst (.slice ao' (l.length + ys.length) cap')) w') : o.wp Tryz.prog a w K Q := by
  obtain ⟨i0, hi, hz0, hz1, hz2⟩ := info_parts exprInfo
  have hm : m = ys.length := by
    obtain ⟨_, _, h1, _⟩ := RepF.sl_iff.1 hr
    simp at h1; omega
  subst hm
  refine wp_append_s s y 23 ho B0 25 i0 _ 5 80 Tryz.underlying23 hi hz0 hz1 hz2 rfl (by decide) v (l.map MExpr.d) hs hacc (ys.map MExpr.d) ao ys.length c gp hx hr hF hown (by simp [maxLen]; omega) (by simp; omega) hbase ?_
  intro ao' cap' w' h2 h3 h4
  simp only [List.length_map, ← List.map_append] at h2 h4 ⊢
  exact h ao' cap' w' h2 h3 h4
theorem wpList_append_xs {S : Nat → Prop} {w : World} {ops : Array Oper} {rest : List Oper} {o : Oper} {a : Act} {Q : Exit → Act → World → Prop} (hgd : o.guard = none) (s y : Operand)
    (ho : o.op = .call { callee := .builtin .append, args := #[s, y], argTypes := #[23, 23] })
    (B0 : Nat) (v : Value) (l : List MExpr) (hs : a.eval s = v) (hacc : AccXS S B0 w v l)
    (ys : List MExpr) (ao : Option Addr) (m c : Nat) (gp : List Nat) (hx : a.eval y = .slice ao m c) (hr : RepF w (MExprs ys) [.slice ao m c] gp)
    (hF : ∀ k, k ∈ gp.tail → S k) (hown : ∀ k, v.ownBlock = some k → k ∉ gp.tail) (hlen : l.length + ys.length ≤ 1073741824) (hbase : B0 ≤ w.heap.size)
    (h : ∀ ao' cap' w', AccXS S B0 w' (.slice ao' (l.length + ys.length) cap') (l ++ ys) → w.grownBy w' v.ownBlock → ((Value.slice ao' (l.length + ys.length) cap').ownBlock = v.ownBlock ∨ (Value.slice ao' (l.length + ys.length) cap').ownBlock = some w.heap.size) → wpList Tryz.prog ops Q rest (a.put o.dst (.slice ao' (l.length + ys.length) cap')) w') : wpList Tryz.prog ops Q (o :: rest) a w :=
  wpList_plain hgd fun _ hK => wp_append_xs s y ho B0 v l hs hacc ys ao m c gp hx hr hF hown hlen hbase fun ao' cap' w' h2 h3 h4 => hK _ _ (h ao' cap' w' h2 h3 h4)
theorem step_append_xs {S : Nat → Prop} {w : World} {ops : Array Oper} {o : Oper} {a : Act} {K : Act → World → Prop} {Q : Exit → Act → World → Prop} {E : Prop} (hgd : o.guard = none) (s y : Operand)
    (ho : o.op = .call { callee := .builtin .append, args := #[s, y], argTypes := #[23, 23] })
    (B0 : Nat) (v : Value) (l : List MExpr) (hs : a.eval s = v) (hacc : AccXS S B0 w v l)
    (ys : List MExpr) (ao : Option Addr) (m c : Nat) (gp : List Nat) (hx : a.eval y = .slice ao m c) (hr : RepF w (MExprs ys) [.slice ao m c] gp)
    (hF : ∀ k, k ∈ gp.tail → S k) (hown : ∀ k, v.ownBlock = some k → k ∉ gp.tail) (hlen : l.length + ys.length ≤ 1073741824) (hbase : B0 ≤ w.heap.size)
    (h : ∀ ao' cap' w', AccXS S B0 w' (.slice ao' (l.length + ys.length) cap') (l ++ ys) → w.grownBy w' v.ownBlock → ((Value.slice ao' (l.length + ys.length) cap').ownBlock = v.ownBlock ∨ (Value.slice ao' (l.length + ys.length) cap').ownBlock = some w.heap.size) → K (a.put o.dst (.slice ao' (l.length + ys.length) cap')) w') : if Region.wanted o (yielded ops a.tmps) = true then Oper.wp Tryz.prog o a w K Q else E := by
  have hw : Region.wanted o (yielded ops a.tmps) = true := by simp [Region.wanted, hgd]
  rw [if_pos hw]
  exact wp_append_xs s y ho B0 v l hs hacc ys ao m c gp hx hr hF hown hlen hbase h
end Go.Proofs.YtonmcoojgkgemaaGreatDoor
