/-
  A SLICE THAT A CALL GATHERS: where it lies behind an append.
  Conditions: those that each lemma states.
-/
import Derived.Test.YtlppoffneeglgaaGreatDoorRows
import Derived.Test.YtlppoffneeglgaaGreatDoorAcc
import Derived.Test.YtlppoffneeglgaaGreatDoorMark
namespace Go.Proofs.YtlppoffneeglgaaGreatDoor
open Go.RowKit
set_option linter.unusedSimpArgs false
set_option linter.unusedVariables false

/-- 'append(out, ys...)', and where the whole lies then. -/
theorem run_append_at {P : Program} {w : World} (t ty : TypeId) (B0 : Nat) (e : TypeId) (i : TypeInfo) (z : Value) (size bytes : Nat) (ht : P.underlying t = some (.slice e)) (hi : P.info? e = some i) (hz : i.zero = some z)
    (hsize : i.size = size) (hby : i.bytes = bytes) (hzs : z.cells.size = size) (hsz : 0 < size)
    (v : Value) (ds : List D) (fp : List Nat) (hacc : Acc B0 w e size v ds fp) (ys : List D) (ao : Option Addr) (m c : Nat) (gp : List Nat) (hr : RepF w (.sl size ys) [.slice ao m c] gp)
    (hF : Fresh w B0 (fp ++ gp.tail)) (hown : ∀ k, v.ownBlock = some k → k ∉ gp.tail)
    (h63 : ds.length + m ≤ maxLen) (hbytes : (ds.length + m) * bytes ≤ 140737488355328) (hbase : B0 ≤ w.heap.size) :
    ∃ ao' cap' w', (Builtin.append_ #[t, t] ty #[v, .slice ao m c]).run P w = .ok (.slice ao' (ds.length + m) cap') w' ∧ Acc B0 w' e size (.slice ao' (ds.length + m) cap') (ds ++ ys) (fp ++ gp.tail) ∧ w.grownBy w' v.ownBlock ∧ ((Value.slice ao' (ds.length + m) cap').ownBlock = v.ownBlock ∨ (Value.slice ao' (ds.length + m) cap').ownBlock = some w.heap.size) := by
  obtain ⟨xs, h1, h2, h3, h4⟩ := hacc
  obtain ⟨hm, hml, news, hnr, hsrc⟩ := hr.source
  rcases hsrc with ⟨rfl, rfl, rfl, rfl⟩ | ⟨ad, rfl, hcells⟩
  · have hgp : gp.tail = [] := by
      simp only [RepR] at hnr; exact hnr.2
    have hv : ∃ ao' cap', v = .slice ao' (ds.length + 0) cap' := by
      rcases h1.2 with ⟨rfl, hn⟩ | ⟨g, cap, cur, rfl, _⟩
      · exact ⟨none, 0, by rw [hn]⟩
      · exact ⟨_, cap, by rw [Nat.add_zero]⟩
    obtain ⟨ao', cap', hv⟩ := hv
    refine ⟨ao', cap', w, ?_, ⟨xs, by rw [← hv]; simpa using h1, by rw [hgp]; simpa using h2, by rw [hgp]; simpa using h3, by rw [← hv, hgp]; simpa using h4⟩, World.grownBy.refl _ _, Or.inl (by rw [← hv])⟩
    rw [← hv]
    exact run_append_owned_none (P := P) (w := w) B0 t ty e i size ht hi v ds.length xs h1
  · obtain ⟨v', w', hrun, hown', hgrow, hnil, hat⟩ := run_append_own_at (P := P) w B0 t ty e i z size bytes ht hi hz hsize hby hzs hsz v ds.length xs h1 ad m c news (by rw [hm]; exact hnr.length) hcells (fun u hu => RepR.one_cell hnr u hu) h63 hbytes hbase
    have hv : ∃ ao' cap', v' = .slice ao' (ds.length + m) cap' := by
      rcases hown'.2 with ⟨rfl, hn⟩ | ⟨g, cap, cur, rfl, _⟩
      · exact ⟨none, 0, by rw [hn]⟩
      · exact ⟨_, cap, rfl⟩
    have hkeep : ∀ k, k ∈ fp ++ gp.tail → w'.heap[k]? = w.heap[k]? := fun k hk => grown_keep hgrow (hF.lt hk) (fun e => by
      rcases List.mem_append.1 hk with hk | hk
      · exact h4 k e hk
      · exact hown k e hk)
    obtain ⟨ao', cap', rfl⟩ := hv
    refine ⟨ao', cap', w', hrun, ⟨xs ++ news, by rw [List.length_append, ← hm]; exact hown', (h2.keep size ds fun k hk => hkeep k (List.mem_append_left _ hk)).append (hnr.keep size ys fun k hk => hkeep k (List.mem_append_right _ hk)),
        ⟨hF.nodup, hF.ge, fun b hb => let ⟨C, e', hO⟩ := hF.own b hb; ⟨C, e', (hkeep b hb).trans hO⟩⟩, fun k hk hkm => ?_⟩, hgrow, hat⟩
    rcases hat with hat | hat
    · rw [hat] at hk
      rcases List.mem_append.1 hkm with hkm | hkm
      · exact h4 k hk hkm
      · exact hown k hk hkm
    · have := hF.lt hkm
      rw [hat] at hk; injection hk with hk; omega

theorem wp_append_at {P : Program} {w : World} {o : Oper} {a : Act} {K : Act → World → Prop} {Q : Exit → Act → World → Prop} (s x : Operand) (t : TypeId)
    (ho : o.op = .call { callee := .builtin .append, args := #[s, x], argTypes := #[t, t] })
    (B0 : Nat) (e : TypeId) (i : TypeInfo) (z : Value) (size bytes : Nat) (ht : P.underlying t = some (.slice e)) (hi : P.info? e = some i) (hz : i.zero = some z)
    (hsize : i.size = size) (hby : i.bytes = bytes) (hzs : z.cells.size = size) (hsz : 0 < size)
    (v : Value) (ds : List D) (fp : List Nat) (hs : a.eval s = v) (hacc : Acc B0 w e size v ds fp)
    (ys : List D) (ao : Option Addr) (m c : Nat) (gp : List Nat) (hx : a.eval x = .slice ao m c) (hr : RepF w (.sl size ys) [.slice ao m c] gp)
    (hF : Fresh w B0 (fp ++ gp.tail)) (hown : ∀ k, v.ownBlock = some k → k ∉ gp.tail)
    (h63 : ds.length + m ≤ maxLen) (hbytes : (ds.length + m) * bytes ≤ 140737488355328) (hbase : B0 ≤ w.heap.size)
    (h : ∀ ao' cap' w', Acc B0 w' e size (.slice ao' (ds.length + m) cap') (ds ++ ys) (fp ++ gp.tail) → w.grownBy w' v.ownBlock → ((Value.slice ao' (ds.length + m) cap').ownBlock = v.ownBlock ∨ (Value.slice ao' (ds.length + m) cap').ownBlock = some w.heap.size) → K (a.put o.dst (.slice ao' (ds.length + m) cap')) w') : o.wp P a w K Q := by
  obtain ⟨ao', cap', w', hrun, h2, h3, h4⟩ := run_append_at (P := P) t o.type B0 e i z size bytes ht hi hz hsize hby hzs hsz v ds fp hacc ys ao m c gp hr hF hown h63 hbytes hbase
  unfold Oper.wp execOp
  simp only [ho, resolve, invoke, builtin, Sem.run_bind, Sem.run_pure, Result.andThen_ok, List.map_toArray, List.map_cons, List.map_nil, hs, hx, hrun]
  exact h ao' cap' w' h2 h3 h4

theorem wpList_append_at {P : Program} {w : World} {ops : Array Oper} {rest : List Oper} {o : Oper} {a : Act} {Q : Exit → Act → World → Prop} (hgd : o.guard = none) (s x : Operand) (t : TypeId)
    (ho : o.op = .call { callee := .builtin .append, args := #[s, x], argTypes := #[t, t] })
    (B0 : Nat) (e : TypeId) (i : TypeInfo) (z : Value) (size bytes : Nat) (ht : P.underlying t = some (.slice e)) (hi : P.info? e = some i) (hz : i.zero = some z)
    (hsize : i.size = size) (hby : i.bytes = bytes) (hzs : z.cells.size = size) (hsz : 0 < size)
    (v : Value) (ds : List D) (fp : List Nat) (hs : a.eval s = v) (hacc : Acc B0 w e size v ds fp)
    (ys : List D) (ao : Option Addr) (m c : Nat) (gp : List Nat) (hx : a.eval x = .slice ao m c) (hr : RepF w (.sl size ys) [.slice ao m c] gp)
    (hF : Fresh w B0 (fp ++ gp.tail)) (hown : ∀ k, v.ownBlock = some k → k ∉ gp.tail)
    (h63 : ds.length + m ≤ maxLen) (hbytes : (ds.length + m) * bytes ≤ 140737488355328) (hbase : B0 ≤ w.heap.size)
    (h : ∀ ao' cap' w', Acc B0 w' e size (.slice ao' (ds.length + m) cap') (ds ++ ys) (fp ++ gp.tail) → w.grownBy w' v.ownBlock → ((Value.slice ao' (ds.length + m) cap').ownBlock = v.ownBlock ∨ (Value.slice ao' (ds.length + m) cap').ownBlock = some w.heap.size) → wpList P ops Q rest (a.put o.dst (.slice ao' (ds.length + m) cap')) w') : wpList P ops Q (o :: rest) a w :=
  wpList_plain hgd fun _ hK => wp_append_at s x t ho B0 e i z size bytes ht hi hz hsize hby hzs hsz v ds fp hs hacc ys ao m c gp hx hr hF hown h63 hbytes hbase fun ao' cap' w' h2 h3 h4 => hK _ _ (h ao' cap' w' h2 h3 h4)

theorem step_append_at {P : Program} {w : World} {ops : Array Oper} {o : Oper} {a : Act} {K : Act → World → Prop} {Q : Exit → Act → World → Prop} {E : Prop} (hgd : o.guard = none) (s x : Operand) (t : TypeId)
    (ho : o.op = .call { callee := .builtin .append, args := #[s, x], argTypes := #[t, t] })
    (B0 : Nat) (e : TypeId) (i : TypeInfo) (z : Value) (size bytes : Nat) (ht : P.underlying t = some (.slice e)) (hi : P.info? e = some i) (hz : i.zero = some z)
    (hsize : i.size = size) (hby : i.bytes = bytes) (hzs : z.cells.size = size) (hsz : 0 < size)
    (v : Value) (ds : List D) (fp : List Nat) (hs : a.eval s = v) (hacc : Acc B0 w e size v ds fp)
    (ys : List D) (ao : Option Addr) (m c : Nat) (gp : List Nat) (hx : a.eval x = .slice ao m c) (hr : RepF w (.sl size ys) [.slice ao m c] gp)
    (hF : Fresh w B0 (fp ++ gp.tail)) (hown : ∀ k, v.ownBlock = some k → k ∉ gp.tail)
    (h63 : ds.length + m ≤ maxLen) (hbytes : (ds.length + m) * bytes ≤ 140737488355328) (hbase : B0 ≤ w.heap.size)
    (h : ∀ ao' cap' w', Acc B0 w' e size (.slice ao' (ds.length + m) cap') (ds ++ ys) (fp ++ gp.tail) → w.grownBy w' v.ownBlock → ((Value.slice ao' (ds.length + m) cap').ownBlock = v.ownBlock ∨ (Value.slice ao' (ds.length + m) cap').ownBlock = some w.heap.size) → K (a.put o.dst (.slice ao' (ds.length + m) cap')) w') :
    if Region.wanted o (yielded ops a.tmps) = true then Oper.wp P o a w K Q else E := by
  have hw : Region.wanted o (yielded ops a.tmps) = true := by simp [Region.wanted, hgd]
  rw [if_pos hw]
  exact wp_append_at s x t ho B0 e i z size bytes ht hi hz hsize hby hzs hsz v ds fp hs hacc ys ao m c gp hx hr hF hown h63 hbytes hbase h

theorem Touch.cellAt {w w' : World} {fp : List Nat} {a : Addr} {v : Value} (h : Touch w w' fp) (ha : a.block ∉ fp) (hc : w.cell? a = some v) : w'.cell? a = some v := by
  have hb := h.block a.block (lt_of_cell hc) ha
  unfold World.cell? at hc ⊢
  rw [hb]; exact hc
theorem Touch.grown {w0 w w' : World} {row : Option Nat} {fp : List Nat} (h : Touch w0 w fp) (hg : w.grownBy w' row) (hr : ∀ k, row = some k → k ∈ fp ∨ w0.heap.size ≤ k) : Touch w0 w' fp :=
  ⟨hg.os.trans h.os, hg.tape.trans h.tape, hg.output.trans h.output, Nat.le_trans h.size hg.size, fun k hk hn => by
    rw [grown_keep hg (Nat.lt_of_lt_of_le hk h.size) fun e => by
      rcases hr k e with h1 | h1
      · exact hn h1
      · omega]
    exact h.block k hk hn⟩

end Go.Proofs.YtlppoffneeglgaaGreatDoor
