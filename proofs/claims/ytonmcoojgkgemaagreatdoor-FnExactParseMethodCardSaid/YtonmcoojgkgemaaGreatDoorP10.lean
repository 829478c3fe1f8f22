/-
  SEVERAL TEXTS IN ONE: A SLICE THAT A CALL GATHERS: where it lies behind an append; PLAIN: what marks make of any datum in memory ('mkD', 'mtD'), and a row of structs while its marks are stored.
  Conditions: those that each lemma states.
-/
import Derived.Test.YtonmcoojgkgemaaGreatDoorRows
import Derived.Test.YtonmcoojgkgemaaGreatDoorAcc
import Derived.Test.YtonmcoojgkgemaaGreatDoorP09
namespace Go.Proofs.YtonmcoojgkgemaaGreatDoor
open Go.RowKit
set_option linter.unusedSimpArgs false
set_option linter.unusedVariables false

/-- 'append(out, ys...)', and where the whole lies then. -/
theorem run_append_at {P : Program} {w : World} (t ty : TypeId) (B0 : Nat) (e : TypeId) (i : TypeInfo) (z : Value) (size bytes : Nat) (ht : P.underlying t = some (.slice e)) (hi : P.info? e = some i) (hz : i.zero = some z)
    (hsize : i.size = size) (hby : i.bytes = bytes) (hzs : z.cells.size = size) (hsz : 0 < size)
    (v : Value) (ds : List D) (fp : List Nat) (hacc : Acc B0 w e size v ds fp) (ys : List D) (ao : Option Addr) (m c : Nat) (gp : List Nat) (hr : RepF w (.sl size ys) [.slice ao m c] gp)
    (hF : Fresh w B0 (fp ++ gp.tail)) (hown : ∀ k, v.ownBlock = some k → k ∉ gp.tail)
    (h63 : ds.length + m ≤ maxLen) (hbytes : (ds.length + m) * bytes ≤ 140737488355328) (hbase : B0 ≤ w.heap.size) :
    ∃ ao' cap' w', (Builtin.append_ #[t, t] ty #[v, .slice ao m c]).run P w = .ok (.slice ao' (ds.length + m) cap') w' ∧ Acc B0 w' e size (.slice ao' (ds.length + m) cap') (ds ++ ys) (fp ++ gp.tail) ∧ w.grownBy w' v.ownBlock ∧ ((Value.slice ao' (ds.length + m) cap').ownBlock = v.ownBlock ∨ (Value.slice ao' (ds.length + m) cap').ownBlock = some w.heap.size) := by
  obtain ⟨xs, h1, h2, h3, h4⟩ := hacc
  obtain ⟨hm, hml, news, hnr, hsrc⟩ := hr.source
  rcases hsrc with ⟨rfl, rfl, rfl, rfl⟩ | ⟨ad, rfl, hcells⟩
  · have hgp : gp.tail = [] := by
      simp only [RepR] at hnr; exact hnr.2
    have hv : ∃ ao' cap', v = .slice ao' (ds.length + 0) cap' := by
      rcases h1.2 with ⟨rfl, hn⟩ | ⟨g, cap, cur, rfl, _⟩
      · exact ⟨none, 0, by rw [hn]⟩
      · exact ⟨_, cap, by rw [Nat.add_zero]⟩
    obtain ⟨ao', cap', hv⟩ := hv
    refine ⟨ao', cap', w, ?_, ⟨xs, by rw [← hv]; simpa using h1, by rw [hgp]; simpa using h2, by rw [hgp]; simpa using h3, by rw [← hv, hgp]; simpa using h4⟩, World.grownBy.refl _ _, Or.inl (by rw [← hv])⟩
    rw [← hv]
    exact run_append_owned_none (P := P) (w := w) B0 t ty e i size ht hi v ds.length xs h1
  · obtain ⟨v', w', hrun, hown', hgrow, hnil, hat⟩ := run_append_own_at (P := P) w B0 t ty e i z size bytes ht hi hz hsize hby hzs hsz v ds.length xs h1 ad m c news (by rw [hm]; exact hnr.length) hcells (fun u hu => RepR.one_cell hnr u hu) h63 hbytes hbase
    have hv : ∃ ao' cap', v' = .slice ao' (ds.length + m) cap' := by
      rcases hown'.2 with ⟨rfl, hn⟩ | ⟨g, cap, cur, rfl, _⟩
      · exact ⟨none, 0, by rw [hn]⟩
      · exact ⟨_, cap, rfl⟩
    have hkeep : ∀ k, k ∈ fp ++ gp.tail → w'.heap[k]? = w.heap[k]? := fun k hk => grown_keep hgrow (hF.lt hk) (fun e => by
      rcases List.mem_append.1 hk with hk | hk
      · exact h4 k e hk
      · exact hown k e hk)
    obtain ⟨ao', cap', rfl⟩ := hv
    refine ⟨ao', cap', w', hrun, ⟨xs ++ news, by rw [List.length_append, ← hm]; exact hown', (h2.keep size ds fun k hk => hkeep k (List.mem_append_left _ hk)).append (hnr.keep size ys fun k hk => hkeep k (List.mem_append_right _ hk)),
        ⟨hF.nodup, hF.ge, fun b hb => let ⟨C, e', hO⟩ := hF.own b hb; ⟨C, e', (hkeep b hb).trans hO⟩⟩, fun k hk hkm => ?_⟩, hgrow, hat⟩
    rcases hat with hat | hat
    · rw [hat] at hk
      rcases List.mem_append.1 hkm with hkm | hkm
      · exact h4 k hk hkm
      · exact hown k hk hkm
    · have := hF.lt hkm
      rw [hat] at hk; injection hk with hk; omega

theorem wp_append_at {P : Program} {w : World} {o : Oper} {a : Act} {K : Act → World → Prop} {Q : Exit → Act → World → Prop} (s x : Operand) (t : TypeId)
    (ho : o.op = .call { callee := .builtin .append, args := #[s, x], argTypes := #[t, t] })
    (B0 : Nat) (e : TypeId) (i : TypeInfo) (z : Value) (size bytes : Nat) (ht : P.underlying t = some (.slice e)) (hi : P.info? e = some i) (hz : i.zero = some z)
    (hsize : i.size = size) (hby : i.bytes = bytes) (hzs : z.cells.size = size) (hsz : 0 < size)
    (v : Value) (ds : List D) (fp : List Nat) (hs : a.eval s = v) (hacc : Acc B0 w e size v ds fp)
    (ys : List D) (ao : Option Addr) (m c : Nat) (gp : List Nat) (hx : a.eval x = .slice ao m c) (hr : RepF w (.sl size ys) [.slice ao m c] gp)
    (hF : Fresh w B0 (fp ++ gp.tail)) (hown : ∀ k, v.ownBlock = some k → k ∉ gp.tail)
    (h63 : ds.length + m ≤ maxLen) (hbytes : (ds.length + m) * bytes ≤ 140737488355328) (hbase : B0 ≤ w.heap.size)
    (h : ∀ ao' cap' w', Acc B0 w' e size (.slice ao' (ds.length + m) cap') (ds ++ ys) (fp ++ gp.tail) → w.grownBy w' v.ownBlock → ((Value.slice ao' (ds.length + m) cap').ownBlock = v.ownBlock ∨ (Value.slice ao' (ds.length + m) cap').ownBlock = some w.heap.size) → K (a.put o.dst (.slice ao' (ds.length + m) cap')) w') : o.wp P a w K Q := by
  obtain ⟨ao', cap', w', hrun, h2, h3, h4⟩ := run_append_at (P := P) t o.type B0 e i z size bytes ht hi hz hsize hby hzs hsz v ds fp hacc ys ao m c gp hr hF hown h63 hbytes hbase
  unfold Oper.wp execOp
  simp only [ho, resolve, invoke, builtin, Sem.run_bind, Sem.run_pure, Result.andThen_ok, List.map_toArray, List.map_cons, List.map_nil, hs, hx, hrun]
  exact h ao' cap' w' h2 h3 h4

theorem wpList_append_at {P : Program} {w : World} {ops : Array Oper} {rest : List Oper} {o : Oper} {a : Act} {Q : Exit → Act → World → Prop} (hgd : o.guard = none) (s x : Operand) (t : TypeId)
    (ho : o.op = .call { callee := .builtin .append, args := #[s, x], argTypes := #[t, t] })
    (B0 : Nat) (e : TypeId) (i : TypeInfo) (z : Value) (size bytes : Nat) (ht : P.underlying t = some (.slice e)) (hi : P.info? e = some i) (hz : i.zero = some z)
    (hsize : i.size = size) (hby : i.bytes = bytes) (hzs : z.cells.size = size) (hsz : 0 < size)
    (v : Value) (ds : List D) (fp : List Nat) (hs : a.eval s = v) (hacc : Acc B0 w e size v ds fp)
    (ys : List D) (ao : Option Addr) (m c : Nat) (gp : List Nat) (hx : a.eval x = .slice ao m c) (hr : RepF w (.sl size ys) [.slice ao m c] gp)
    (hF : Fresh w B0 (fp ++ gp.tail)) (hown : ∀ k, v.ownBlock = some k → k ∉ gp.tail)
    (h63 : ds.length + m ≤ maxLen) (hbytes : (ds.length + m) * bytes ≤ 140737488355328) (hbase : B0 ≤ w.heap.size)
    (h : ∀ ao' cap' w', Acc B0 w' e size (.slice ao' (ds.length + m) cap') (ds ++ ys) (fp ++ gp.tail) → w.grownBy w' v.ownBlock → ((Value.slice ao' (ds.length + m) cap').ownBlock = v.ownBlock ∨ (Value.slice ao' (ds.length + m) cap').ownBlock = some w.heap.size) → wpList P ops Q rest (a.put o.dst (.slice ao' (ds.length + m) cap')) w') : wpList P ops Q (o :: rest) a w :=
  wpList_plain hgd fun _ hK => wp_append_at s x t ho B0 e i z size bytes ht hi hz hsize hby hzs hsz v ds fp hs hacc ys ao m c gp hx hr hF hown h63 hbytes hbase fun ao' cap' w' h2 h3 h4 => hK _ _ (h ao' cap' w' h2 h3 h4)

theorem step_append_at {P : Program} {w : World} {ops : Array Oper} {o : Oper} {a : Act} {K : Act → World → Prop} {Q : Exit → Act → World → Prop} {E : Prop} (hgd : o.guard = none) (s x : Operand) (t : TypeId)
    (ho : o.op = .call { callee := .builtin .append, args := #[s, x], argTypes := #[t, t] })
    (B0 : Nat) (e : TypeId) (i : TypeInfo) (z : Value) (size bytes : Nat) (ht : P.underlying t = some (.slice e)) (hi : P.info? e = some i) (hz : i.zero = some z)
    (hsize : i.size = size) (hby : i.bytes = bytes) (hzs : z.cells.size = size) (hsz : 0 < size)
    (v : Value) (ds : List D) (fp : List Nat) (hs : a.eval s = v) (hacc : Acc B0 w e size v ds fp)
    (ys : List D) (ao : Option Addr) (m c : Nat) (gp : List Nat) (hx : a.eval x = .slice ao m c) (hr : RepF w (.sl size ys) [.slice ao m c] gp)
    (hF : Fresh w B0 (fp ++ gp.tail)) (hown : ∀ k, v.ownBlock = some k → k ∉ gp.tail)
    (h63 : ds.length + m ≤ maxLen) (hbytes : (ds.length + m) * bytes ≤ 140737488355328) (hbase : B0 ≤ w.heap.size)
    (h : ∀ ao' cap' w', Acc B0 w' e size (.slice ao' (ds.length + m) cap') (ds ++ ys) (fp ++ gp.tail) → w.grownBy w' v.ownBlock → ((Value.slice ao' (ds.length + m) cap').ownBlock = v.ownBlock ∨ (Value.slice ao' (ds.length + m) cap').ownBlock = some w.heap.size) → K (a.put o.dst (.slice ao' (ds.length + m) cap')) w') :
    if Region.wanted o (yielded ops a.tmps) = true then Oper.wp P o a w K Q else E := by
  have hw : Region.wanted o (yielded ops a.tmps) = true := by simp [Region.wanted, hgd]
  rw [if_pos hw]
  exact wp_append_at s x t ho B0 e i z size bytes ht hi hz hsize hby hzs hsz v ds fp hs hacc ys ao m c gp hx hr hF hown h63 hbytes hbase h

theorem Touch.cellAt {w w' : World} {fp : List Nat} {a : Addr} {v : Value} (h : Touch w w' fp) (ha : a.block ∉ fp) (hc : w.cell? a = some v) : w'.cell? a = some v := by
  have hb := h.block a.block (lt_of_cell hc) ha
  unfold World.cell? at hc ⊢
  rw [hb]; exact hc
theorem Touch.grown {w0 w w' : World} {row : Option Nat} {fp : List Nat} (h : Touch w0 w fp) (hg : w.grownBy w' row) (hr : ∀ k, row = some k → k ∈ fp ∨ w0.heap.size ≤ k) : Touch w0 w' fp :=
  ⟨hg.os.trans h.os, hg.tape.trans h.tape, hg.output.trans h.output, Nat.le_trans h.size hg.size, fun k hk hn => by
    rw [grown_keep hg (Nat.lt_of_lt_of_le hk h.size) fun e => by
      rcases hr k e with h1 | h1
      · exact hn h1
      · omega]
    exact h.block k hk hn⟩

open Go.RowKit
set_option linter.unusedSimpArgs false
set_option linter.unusedVariables false

mutual
/-- How many leaves a datum has. -/
def D.cnt : D → Nat
  | .int _ => 1
  | .str _ => 1
  | .bool _ => 1
  | .st fs => D.cntL fs
  | .sl _ xs => D.cntL xs
def D.cntL : List D → Nat
  | [] => 0
  | d :: ds => d.cnt + D.cntL ds
end
mutual
/-- Every leaf is a mark, by its number. -/
def mkD (k : Int) : D → D
  | .int _ => .int k
  | .str _ => .str (mtext k)
  | .bool _ => .bool (k % 3 == 0)
  | .st fs => .st (mkL k fs)
  | .sl sz xs => .sl sz (mkL k xs)
def mkL (k : Int) : List D → List D
  | [] => []
  | d :: ds => mkD k d :: mkL (k + d.cnt) ds
end
mutual
/-- How many leaves lie in slices. -/
def D.tcnt : D → Nat
  | .int _ => 0
  | .str _ => 0
  | .bool _ => 0
  | .st fs => D.tcntL fs
  | .sl _ xs => D.cntL xs
def D.tcntL : List D → Nat
  | [] => 0
  | d :: ds => d.tcnt + D.tcntL ds
end
mutual
/-- The leaves in slices are marks; the struct's own stay. -/
def mtD (k : Int) : D → D
  | .int n => .int n
  | .str s => .str s
  | .bool b => .bool b
  | .st fs => .st (mtL k fs)
  | .sl sz xs => .sl sz (mkL k xs)
def mtL (k : Int) : List D → List D
  | [] => []
  | d :: ds => mtD k d :: mtL (k + d.tcnt) ds
end
theorem D.cntL_append : ∀ (a b : List D), D.cntL (a ++ b) = D.cntL a + D.cntL b
  | [], b => by simp [D.cntL]
  | x :: a, b => by simp only [List.cons_append, D.cntL, D.cntL_append a b]; omega
theorem mkL_append : ∀ (k : Int) (a b : List D), mkL k (a ++ b) = mkL k a ++ mkL (k + D.cntL a) b
  | k, [], b => by simp [mkL, D.cntL]
  | k, x :: a, b => by
    simp only [List.cons_append, mkL, D.cntL, mkL_append (k + x.cnt) a b]
    rw [show k + (x.cnt : Int) + (D.cntL a : Int) = k + ((x.cnt + D.cntL a : Nat) : Int) by omega]
theorem mkL_length : ∀ (k : Int) (a : List D), (mkL k a).length = a.length
  | _, [] => rfl
  | k, x :: a => by simp [mkL, mkL_length (k + x.cnt) a]
theorem mkL_get : ∀ (k : Int) (a : List D) (i : Nat) (d : D), a[i]? = some d → (mkL k a)[i]? = some (mkD (k + D.cntL (a.take i)) d)
  | _, [], i, d, h => by simp at h
  | k, x :: a, 0, d, h => by simp at h; subst h; simp [mkL, D.cntL]
  | k, x :: a, i + 1, d, h => by
    have := mkL_get (k + x.cnt) a i d (by simpa using h)
    simp only [mkL, List.getElem?_cons_succ, List.take_succ_cons, D.cntL]
    rw [this, show k + (x.cnt : Int) + (D.cntL (a.take i) : Int) = k + ((x.cnt + D.cntL (a.take i) : Nat) : Int) by omega]
theorem D.cntL_take : ∀ (a : List D) (i : Nat) (d : D), a[i]? = some d → D.cntL (a.take (i + 1)) = D.cntL (a.take i) + d.cnt
  | [], i, d, h => by simp at h
  | x :: a, 0, d, h => by simp at h; subst h; simp [D.cntL]
  | x :: a, i + 1, d, h => by
    have := D.cntL_take a i d (by simpa using h)
    simp only [List.take_succ_cons, D.cntL] at *
    omega
theorem D.cntL_take_le : ∀ (a : List D) (i : Nat), D.cntL (a.take i) ≤ D.cntL a
  | [], i => by simp [D.cntL]
  | x :: a, 0 => by simp [D.cntL]
  | x :: a, i + 1 => by
    have := D.cntL_take_le a i
    simp only [List.take_succ_cons, D.cntL]
    omega
theorem D.cntL_mem : ∀ {xs : List D} {x : D}, x ∈ xs → x.cnt ≤ D.cntL xs
  | [], _, h => by simp at h
  | y :: ys, x, hx => by
    simp only [D.cntL]
    rcases List.mem_cons.1 hx with rfl | hx
    · omega
    · have := D.cntL_mem hx; omega

/-- What a mark gives: the datum's leaves are marks, in the same cells. -/
def MarkP (w : World) (d' : D) (cs : List Value) (fp : List Nat) (B0 : Nat) (k' : Int) (e : Ending) (w' : World) : Prop :=
  e = .returned (.int .i64 k') ∧ RepF w' d' cs fp ∧ Fresh w' B0 fp ∧ Touch w w' fp
theorem Own.touch' {w w' : World} {B : Nat} {e : TypeId} {C : Array Value} {fp : List Nat} (h : Own w B e C) (ht : Touch w w' fp) (hB : B ∉ fp) : Own w' B e C := (ht.block B h.lt hB).trans h
theorem Touch.mono {w w' : World} {fp gp : List Nat} (h : Touch w w' fp) (hs : ∀ b, b ∈ fp → b ∈ gp) : Touch w w' gp :=
  ⟨h.os, h.tape, h.output, h.size, fun k hk hn => h.block k hk fun hm => hn (hs k hm)⟩
theorem Fresh.touch {w w' : World} {B0 : Nat} {fp gp : List Nat} (h : Fresh w B0 gp) (ht : Touch w w' fp) (hd : ∀ b, b ∈ gp → b ∉ fp) : Fresh w' B0 gp :=
  ⟨h.nodup, h.ge, fun b hb => let ⟨C, e, ho⟩ := h.own b hb; ⟨C, e, ho.touch' ht (hd b hb)⟩⟩
theorem Fresh.sub {w : World} {B0 : Nat} {fp gp : List Nat} (h : Fresh w B0 gp) (hs : fp.Sublist gp) : Fresh w B0 fp :=
  ⟨h.nodup.sublist hs, fun b hb => h.ge b (hs.subset hb), fun b hb => h.own b (hs.subset hb)⟩
/-- A row of the call's own while its marks are stored. -/
def RowIs (w : World) (b o : Nat) (e : TypeId) (C : Array Value) (sz : Nat) (ds : List D) (fp : List Nat) (B0 : Nat) : Prop :=
  Own w b e C ∧ ∃ cells, (∀ (j : Nat) c, cells[j]? = some c → C[o + j]? = some c) ∧ RepR w sz ds cells fp ∧ Fresh w B0 (b :: fp)
theorem RepR.split {w : World} {sz : Nat} : ∀ {xs ys : List D} {cs : List Value} {fp : List Nat}, RepR w sz (xs ++ ys) cs fp → ∃ c1 c2 f1 f2, cs = c1 ++ c2 ∧ fp = f1 ++ f2 ∧ c1.length = xs.length * sz ∧ RepR w sz xs c1 f1 ∧ RepR w sz ys c2 f2
  | [], ys, cs, fp, h => ⟨[], cs, [], fp, rfl, rfl, by simp, by simp [RepR], h⟩
  | x :: xs, ys, cs, fp, h => by
    simp only [List.cons_append, RepR] at h
    obtain ⟨c1, c2, f1, f2, rfl, rfl, h2, h3, h4⟩ := h
    obtain ⟨d1, d2, g1, g2, rfl, rfl, k2, k3, k4⟩ := RepR.split h4
    refine ⟨c1 ++ d1, d2, f1 ++ g1, g2, by simp, by simp, by simp [h2, k2, Nat.succ_mul]; omega, ?_, k4⟩
    simp only [RepR]
    exact ⟨c1, d1, f1, g1, rfl, rfl, h2, h3, k3⟩
/-- An element of the row, and the way back behind its marks. -/
theorem RowIs.at {w : World} {b o : Nat} {e : TypeId} {C : Array Value} {sz : Nat} {A E : List D} {d : D} {fp : List Nat} {B0 : Nat} (h : RowIs w b o e C sz (A ++ d :: E) fp B0) (hz : 0 < sz) :
    ∃ ci fi, RepF w d ci fi ∧ Fresh w B0 fi ∧ b ∉ fi ∧ ci.length = sz ∧ (∀ (j : Nat) c, ci[j]? = some c → C[o + A.length * sz + j]? = some c) ∧ (∀ x, x ∈ fi → x ∈ fp) ∧
      ∀ (w' : World) (d' : D) (vs : List Value), vs.length ≤ sz → Own w' b e (sets C (o + A.length * sz) vs) → Touch w w' (b :: fi) → RepF w' d' (vs ++ ci.drop vs.length) fi → Fresh w' B0 fi → RowIs w' b o e (sets C (o + A.length * sz) vs) sz (A ++ d' :: E) fp B0 := by
  obtain ⟨hO, cells, hc, hr, hF⟩ := h
  obtain ⟨c1, c2, f1, f2, rfl, rfl, hl, h1, h2⟩ := RepR.split hr
  simp only [RepR] at h2
  obtain ⟨ci, c3, fi, f3, rfl, rfl, hs, h3, h4⟩ := h2
  have hnd := List.nodup_cons.1 hF.nodup
  have nd2 := List.nodup_append.1 hnd.2
  have nd3 := List.nodup_append.1 nd2.2.1
  have hci : ∀ (j : Nat) c, ci[j]? = some c → C[o + A.length * sz + j]? = some c := fun j c hj => by
    have hjl : j < ci.length := (List.getElem?_eq_some_iff.1 hj).1
    have := hc (c1.length + j) c (by rw [List.getElem?_append_right (by omega), Nat.add_sub_cancel_left, List.getElem?_append_left hjl]; exact hj)
    rw [hl] at this
    rw [Nat.add_assoc]
    exact this
  have hbfi : b ∉ fi := fun hm => hnd.1 (by simp [hm])
  refine ⟨ci, fi, h3, hF.sub ((List.sublist_append_left fi f3).trans ((List.sublist_append_right f1 _).trans (List.sublist_cons_self b _))), hbfi, hs, hci, fun x hx => by simp [hx], fun w' d' vs hv hO' hT hr' hF' => ?_⟩
  have k1 : ∀ x, x ∈ f1 → x ∉ b :: fi := fun x hx hm => by
    rcases List.mem_cons.1 hm with rfl | hm
    · exact hnd.1 (by simp [hx])
    · exact nd2.2.2 x hx x (by simp [hm]) rfl
  have k3 : ∀ x, x ∈ f3 → x ∉ b :: fi := fun x hx hm => by
    rcases List.mem_cons.1 hm with rfl | hm
    · exact hnd.1 (by simp [hx])
    · exact nd3.2.2 x hm x hx rfl
  have e1 : RepR w' sz A c1 f1 := h1.keep sz A fun x hx => hT.block x (h1.lt sz A x hx) (k1 x hx)
  have e3 : RepR w' sz E c3 f3 := h4.keep sz E fun x hx => hT.block x (h4.lt sz E x hx) (k3 x hx)
  have hlen : (vs ++ ci.drop vs.length).length = sz := by simp; omega
  have hCs : o + A.length * sz + sz ≤ C.size := by
    have hj : ci[sz - 1]? = some (ci[sz - 1]'(by omega)) := List.getElem?_eq_getElem (by omega)
    have := (Array.getElem?_eq_some_iff.1 (hci _ _ hj)).1
    omega
  refine ⟨hO', c1 ++ ((vs ++ ci.drop vs.length) ++ c3), fun j c hj => ?_, RepR.append e1 (by simp only [RepR]; exact ⟨_, c3, fi, f3, rfl, rfl, hlen, hr', e3⟩), ?_⟩
  · rw [← Array.getElem?_toList, toList_sets vs C _ (by omega)]
    have hTl : (C.toList.take (o + A.length * sz)).length = o + A.length * sz := by simp; omega
    by_cases h1' : j < A.length * sz
    · rw [List.getElem?_append_left (by omega)] at hj
      have := hc j c (by rw [List.getElem?_append_left (by omega)]; exact hj)
      rw [List.append_assoc, List.getElem?_append_left (by omega), List.getElem?_take_of_lt (by omega), Array.getElem?_toList]
      exact this
    · rw [List.getElem?_append_right (by omega)] at hj
      rw [List.append_assoc, List.getElem?_append_right (by omega), hTl]
      by_cases h2' : j - c1.length < vs.length
      · rw [List.append_assoc, List.getElem?_append_left h2'] at hj
        rw [List.getElem?_append_left (by omega), show o + j - (o + A.length * sz) = j - c1.length by omega]
        exact hj
      · rw [List.append_assoc, List.getElem?_append_right (by omega)] at hj
        rw [List.getElem?_append_right (by omega), List.getElem?_drop, show o + A.length * sz + vs.length + (o + j - (o + A.length * sz) - vs.length) = o + j by omega, Array.getElem?_toList]
        refine hc j c ?_
        rw [List.getElem?_append_right (by omega)]
        by_cases h3' : j - c1.length - vs.length < (ci.drop vs.length).length
        · rw [List.getElem?_append_left h3', List.getElem?_drop, show vs.length + (j - c1.length - vs.length) = j - c1.length by omega] at hj
          rw [List.getElem?_append_left (by simp at h3'; omega)]
          exact hj
        · rw [List.getElem?_append_right (by omega)] at hj
          simp only [List.length_drop] at hj h3'
          rw [List.getElem?_append_right (by omega), show j - c1.length - ci.length = j - c1.length - vs.length - (ci.length - vs.length) by omega]
          exact hj
  · refine ⟨hF.nodup, hF.ge, fun x hx => ?_⟩
    rcases List.mem_cons.1 hx with rfl | hx
    · exact ⟨_, _, hO'⟩
    · rcases List.mem_append.1 hx with hx | hx
      · obtain ⟨C2, e2, ho2⟩ := hF.own x (by simp [hx])
        exact ⟨C2, e2, ho2.touch' hT (k1 x hx)⟩
      · rcases List.mem_append.1 hx with hx | hx
        · exact hF'.own x hx
        · obtain ⟨C2, e2, ho2⟩ := hF.own x (by simp [hx])
          exact ⟨C2, e2, ho2.touch' hT (k3 x hx)⟩
theorem cnt_at {α : Type} {f : α → D} {l : List α} {i : Nat} {x : α} (h : l[i]? = some x) : D.cntL ((l.take (i + 1)).map f) = D.cntL ((l.take i).map f) + (f x).cnt ∧ D.cntL ((l.take i).map f) + (f x).cnt ≤ D.cntL (l.map f) := by
  have h1 : (l.map f)[i]? = some (f x) := by simp [h]
  have h2 := D.cntL_take (l.map f) i _ h1
  have h3 := D.cntL_take_le (l.map f) (i + 1)
  rw [List.map_take, List.map_take]
  exact ⟨h2, by omega⟩
theorem take_get {α : Type} {l : List α} {i : Nat} {x : α} (h : l[i]? = some x) : l.take (i + 1) = l.take i ++ [x] ∧ l.drop i = x :: l.drop (i + 1) ∧ i < l.length := by
  obtain ⟨hi, rfl⟩ := List.getElem?_eq_some_iff.1 h
  exact ⟨by rw [List.take_add_one, List.getElem?_eq_getElem hi]; rfl, List.drop_eq_getElem_cons hi, hi⟩
theorem RowIs.elem {α : Type} {f : α → D} {l : List α} {k0 : Int} {i : Nat} {x : α} {w : World} {b o : Nat} {e : TypeId} {C : Array Value} {sz : Nat} {fp : List Nat} {B0 : Nat} (hx : l[i]? = some x) (h : RowIs w b o e C sz (mkL k0 ((l.take i).map f) ++ (l.drop i).map f) fp B0) (hz : 0 < sz) :
    ∃ ci fi, RepF w (f x) ci fi ∧ Fresh w B0 fi ∧ b ∉ fi ∧ ci.length = sz ∧ (∀ (j : Nat) c, ci[j]? = some c → C[o + i * sz + j]? = some c) ∧ (∀ x, x ∈ fi → x ∈ fp) ∧
      ∀ (w' : World) (vs : List Value), vs.length ≤ sz → Own w' b e (sets C (o + i * sz) vs) → Touch w w' (b :: fi) → RepF w' (mkD (k0 + D.cntL ((l.take i).map f)) (f x)) (vs ++ ci.drop vs.length) fi → Fresh w' B0 fi → RowIs w' b o e (sets C (o + i * sz) vs) sz (mkL k0 ((l.take (i + 1)).map f) ++ (l.drop (i + 1)).map f) fp B0 := by
  obtain ⟨h1, h2, h3⟩ := take_get hx
  rw [h2, List.map_cons] at h
  have hA : (mkL k0 ((l.take i).map f)).length = i := by rw [mkL_length]; simp; omega
  obtain ⟨ci, fi, k1, k2, k3, k4, k5, k6, k7⟩ := h.at hz
  rw [hA] at k5 k7
  refine ⟨ci, fi, k1, k2, k3, k4, k5, k6, fun w' vs hv hO hT hr hF => ?_⟩
  have := k7 w' (mkD (k0 + D.cntL ((l.take i).map f)) (f x)) vs hv hO hT hr hF
  rw [h1, List.map_append, mkL_append, List.append_assoc]
  exact this
theorem Fresh.both {w w' : World} {B0 : Nat} {f1 f2 : List Nat} (h : Fresh w B0 (f1 ++ f2)) (h1 : Fresh w' B0 f1) (h2 : Fresh w' B0 f2) : Fresh w' B0 (f1 ++ f2) :=
  ⟨h.nodup, h.ge, fun b hb => (List.mem_append.1 hb).elim (h1.own b) (h2.own b)⟩
theorem Fresh.left {w : World} {B0 : Nat} {f1 f2 : List Nat} (h : Fresh w B0 (f1 ++ f2)) : Fresh w B0 f1 := h.sub (List.sublist_append_left _ _)
theorem Fresh.right {w : World} {B0 : Nat} {f1 f2 : List Nat} (h : Fresh w B0 (f1 ++ f2)) : Fresh w B0 f2 := h.sub (List.sublist_append_right _ _)
theorem Fresh.apart {w : World} {B0 : Nat} {f1 f2 : List Nat} (h : Fresh w B0 (f1 ++ f2)) : ∀ b, b ∈ f1 → b ∉ f2 := fun b h1 h2 => (List.nodup_append.1 h.nodup).2.2 b h1 b h2 rfl
theorem Fresh.apart' {w : World} {B0 : Nat} {f1 f2 : List Nat} (h : Fresh w B0 (f1 ++ f2)) : ∀ b, b ∈ f2 → b ∉ f1 := fun b h2 h1 => (List.nodup_append.1 h.nodup).2.2 b h1 b h2 rfl
/-- A slice that is not empty, as such a row. -/
theorem RowIs.start {w : World} {sz : Nat} {ds : List D} {v : Value} {fp : List Nat} {B0 : Nat} (h0 : RepF w (.sl sz ds) [v] fp) (hF : Fresh w B0 fp) (hd : ds ≠ []) :
    ∃ b o cap e C fp', v = .slice (some ⟨b, o, none⟩) ds.length cap ∧ ds.length ≤ cap ∧ cap ≤ maxLen ∧ fp = b :: fp' ∧ RowIs w b o e C sz ds fp' B0 := by
  obtain ⟨ao, cap, hv, hl, hm, hn, h⟩ := RepF.sl_iff.1 h0
  simp only [List.cons.injEq, and_true] at hv
  subst hv
  rcases h with ⟨h, rfl⟩ | ⟨b, o, cells, fp', hne, rfl, rfl, hb, h4, h5⟩
  · exact absurd h hd
  · obtain ⟨C, e, hO⟩ := hF.own b (by simp)
    exact ⟨b, o, cap, e, C, fp', rfl, hl, hm, rfl, hO, cells, fun j c hj => by rw [← hO.cell]; exact h4 j c hj, h5, hF⟩
theorem RowIs.done {w : World} {b o : Nat} {e : TypeId} {C : Array Value} {sz : Nat} {ds : List D} {fp : List Nat} {B0 cap n : Nat} (h : RowIs w b o e C sz ds fp B0) (hn : ds.length = n) (hl : n ≤ cap) (hm : cap ≤ maxLen) (h0 : 0 < n) :
    RepF w (.sl sz ds) [.slice (some ⟨b, o, none⟩) n cap] (b :: fp) ∧ Fresh w B0 (b :: fp) := by
  obtain ⟨hO, cells, hc, hr, hF⟩ := h
  refine ⟨RepF.sl_iff.2 ⟨_, cap, by rw [hn], by omega, hm, by simp, Or.inr ⟨b, o, cells, fp, ?_, rfl, rfl, hO.lt, fun j c hj => by rw [hO.cell]; exact hc j c hj, hr⟩⟩, hF⟩
  intro h; rw [h] at hn; simp at hn; omega

end Go.Proofs.YtonmcoojgkgemaaGreatDoor
