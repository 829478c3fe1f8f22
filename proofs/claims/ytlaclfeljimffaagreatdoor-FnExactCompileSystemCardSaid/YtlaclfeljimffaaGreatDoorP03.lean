/-
  A SLICE THAT A CALL GATHERS ('out = append(out, ..)'): its value, its data, its footprint.
  Conditions: those that each lemma states.
-/
import Derived.Test.YtlaclfeljimffaaGreatDoorRows
import Derived.Laws.AppendOwnNone
import Derived.Deep.AppendLies
import Derived.Test.YtlaclfeljimffaaGreatDoorP02
namespace Go.Proofs.YtlaclfeljimffaaGreatDoor
open Go.RowKit
set_option maxHeartbeats 8000000
set_option maxRecDepth 100000
set_option linter.unusedSimpArgs false
set_option linter.unusedVariables false
theorem RepF.one_cell {w : World} : ∀ (d : D) {cs : List Value} {fp : List Nat}, RepF w d cs fp -> ∀ u, u ∈ cs -> u.oneCell' = true := by
 intro d
 induction d using D.rec (motive_2 := fun ds => (∀ {cs : List Value} {fp : List Nat}, RepS w ds cs fp -> ∀ u, u ∈ cs -> u.oneCell' = true) /\ (∀ {sz : Nat} {cs : List Value} {fp : List Nat}, RepR w sz ds cs fp -> ∀ u, u ∈ cs -> u.oneCell' = true)) with
 | int n => intro cs fp h u hu; simp only [RepF] at h; rw [h.1] at hu; simp at hu; subst hu; rfl
 | str n => intro cs fp h u hu; simp only [RepF] at h; rw [h.1] at hu; simp at hu; subst hu; rfl
 | bool n => intro cs fp h u hu; simp only [RepF] at h; rw [h.1] at hu; simp at hu; subst hu; rfl
 | st fs ih => intro cs fp h u hu; exact ih.1 (RepF.un_st h) u hu
 | sl sz xs ih => intro cs fp h u hu; obtain ⟨ao, cap, rfl, _⟩ := RepF.sl_iff.1 h; simp at hu; subst hu; rfl
 | nil => exact ⟨fun h u hu => by simp only [RepS] at h; rw [h.1] at hu; simp at hu, fun h u hu => by simp only [RepR] at h; rw [h.1] at hu; simp at hu⟩
 | cons d ds ihd ihs =>
  refine ⟨fun h u hu => ?_, fun h u hu => ?_⟩
  · simp only [RepS] at h
    obtain ⟨c1, c2, f1, f2, rfl, rfl, h1, h2⟩ := h
    rcases List.mem_append.1 hu with hu | hu
    · exact ihd h1 u hu
    · exact ihs.1 h2 u hu
  · simp only [RepR] at h
    obtain ⟨c1, c2, f1, f2, rfl, rfl, -, h1, h2⟩ := h
    rcases List.mem_append.1 hu with hu | hu
    · exact ihd h1 u hu
    · exact ihs.2 h2 u hu
theorem RepR.one_cell {w : World} {sz : Nat} : ∀ {ds : List D} {cs : List Value} {fp : List Nat}, RepR w sz ds cs fp -> ∀ u, u ∈ cs -> u.oneCell' = true
 | [], cs, fp, h, u, hu => by simp only [RepR] at h; rw [h.1] at hu; simp at hu
 | d :: ds, cs, fp, h, u, hu => by
  simp only [RepR] at h
  obtain ⟨c1, c2, f1, f2, rfl, rfl, -, h1, h2⟩ := h
  rcases List.mem_append.1 hu with hu | hu
  · exact RepF.one_cell d h1 u hu
  · exact RepR.one_cell h2 u hu
def Acc (B0 : Nat) (w : World) (e : TypeId) (size : Nat) (v : Value) (ds : List D) (fp : List Nat) : Prop :=
 ∃ xs, w.ownsRow B0 e size v ds.length xs /\ RepR w size ds xs fp /\ Fresh w B0 fp /\ ∀ k, v.ownBlock = some k -> k ∉ fp
theorem Acc.ext {B0 : Nat} {w w' : World} {e : TypeId} {size : Nat} {v : Value} {ds : List D} {fp : List Nat} (h : Acc B0 w e size v ds fp) (hx : Ext w w') : Acc B0 w' e size v ds fp := by
 obtain ⟨xs, h1, h2, h3, h4⟩ := h
 refine ⟨xs, ?_, h2.ext hx, h3.ext hx, h4⟩
 obtain ⟨k1, k2⟩ := h1
 refine ⟨k1, ?_⟩
 rcases k2 with k2 | ⟨g, cap, cur, hv, hg, hh, r⟩
 · exact Or.inl k2
 · exact Or.inr ⟨g, cap, cur, hv, hg, (hx.block g (by exact (Array.getElem?_eq_some_iff.1 hh).1)).trans hh, r⟩
theorem Acc.nil (B0 : Nat) (w : World) (e : TypeId) (size : Nat) : Acc B0 w e size (.slice none 0 0) [] [] :=
 ⟨[], World.ownsRow_nil _ _ _ _, by simp [RepR], Fresh.nil _ _, by simp [Value.ownBlock]⟩
theorem Acc.empty {B0 : Nat} {w : World} (e : TypeId) (size : Nat) (hB : B0 <= w.heap.size) : Acc B0 (w.alloc (.cells #[] e)) e size (.slice (some ⟨w.heap.size, 0, none⟩) 0 0) [] [] :=
 ⟨[], ⟨by simp, Or.inr ⟨w.heap.size, 0, #[], rfl, hB, heap_alloc_new w _, by simp, by simp, by simp, by simp⟩⟩, by simp [RepR], Fresh.nil _ _, by simp⟩
theorem Acc.empty_at {B0 B : Nat} {w : World} {e : TypeId} {size : Nat} (hO : Own w B e #[]) (hB : B0 <= B) : Acc B0 w e size (.slice (some ⟨B, 0, none⟩) 0 0) [] [] :=
 ⟨[], ⟨by simp, Or.inr ⟨B, 0, #[], rfl, hB, hO, by simp, by simp, by simp, by simp⟩⟩, by simp [RepR], Fresh.nil _ _, by simp⟩
theorem own_new2 (w : World) (o : Obj) (C : Array Value) (e : TypeId) : Own ((w.alloc o).alloc (.cells C e)) (w.heap.size + 1) e C := by
 have := own_new (w.alloc o) C e
 rwa [show (w.alloc o).heap.size = w.heap.size + 1 by simp] at this
theorem own_new3 (w : World) (o o2 : Obj) (C : Array Value) (e : TypeId) : Own (((w.alloc o).alloc o2).alloc (.cells C e)) (w.heap.size + 1 + 1) e C := by
 have := own_new ((w.alloc o).alloc o2) C e
 rwa [show ((w.alloc o).alloc o2).heap.size = w.heap.size + 1 + 1 by simp] at this
theorem Acc.rep {B0 : Nat} {w : World} {e : TypeId} {size : Nat} {v : Value} {ds : List D} {fp : List Nat} (h : Acc B0 w e size v ds fp) :
 ∃ ao cap gp, v = .slice ao ds.length cap /\ RepF w (.sl size ds) [.slice ao ds.length cap] gp /\ Fresh w B0 gp := by
 obtain ⟨xs, ⟨h1, h2⟩, h3, h4, h5⟩ := h
 rcases h2 with ⟨rfl, hn⟩ | ⟨g, cap, cur, rfl, hg, hh, hnc, hcm, hcs, htk⟩
 · have : ds = [] := List.length_eq_zero_iff.1 hn
   subst this
   exact ⟨none, 0, [], rfl, RepF.sl_iff.2 ⟨_, _, rfl, by simp, by simp, by simp, Or.inl ⟨rfl, rfl⟩⟩, Fresh.nil _ _⟩
 · by_cases hd : ds = []
   · subst hd
     exact ⟨_, cap, [], rfl, RepF.sl_iff.2 ⟨_, _, rfl, by simp, hcm, by simp, Or.inl ⟨rfl, rfl⟩⟩, Fresh.nil _ _⟩
   · have hO : Own w g e cur := hh
     refine ⟨_, cap, g :: fp, rfl, RepF.sl_iff.2 ⟨_, _, rfl, hnc, hcm, by simp, Or.inr ⟨g, 0, xs, fp, hd, rfl, rfl, hO.lt, fun j c hj => ?_, h3⟩⟩, ⟨List.nodup_cons.2 ⟨h5 g rfl, h4.nodup⟩, fun b hb => ?_, fun b hb => ?_⟩⟩
     · rw [Nat.zero_add, hO.cell]
       rw [<- htk, List.getElem?_take] at hj
       split at hj
       · simpa using hj
       · cases hj
     · rcases List.mem_cons.1 hb with rfl | hb
       · exact hg
       · exact h4.ge b hb
     · rcases List.mem_cons.1 hb with rfl | hb
       · exact ⟨_, _, hO⟩
       · exact h4.own b hb
theorem RepF.source {w : World} {size : Nat} {ys : List D} {ao : Option Addr} {m c : Nat} {gp : List Nat} (h : RepF w (.sl size ys) [.slice ao m c] gp) :
 m = ys.length /\ m <= maxLen /\ ∃ news, RepR w size ys news gp.tail /\ ((ao = none /\ m = 0 /\ c = 0 /\ ys = []) ∨ ∃ ad, ao = some ad /\ ∀ (j : Nat) u, news[j]? = some u -> w.cell? (ad.add j) = some u) := by
 obtain ⟨ao', cap', hv, hl, hm, hn, hh⟩ := RepF.sl_iff.1 h
 clear h
 simp only [List.cons.injEq, and_true, Value.slice.injEq] at hv
 obtain ⟨rfl, rfl, rfl⟩ := hv
 refine ⟨rfl, by omega, ?_⟩
 rcases hh with ⟨rfl, rfl⟩ | ⟨b, o, cells, fp', h1, rfl, rfl, hb, h4, h5⟩
 · refine ⟨[], by simp [RepR], ?_⟩
   cases ao with
   | none => exact Or.inl ⟨rfl, rfl, hn rfl, rfl⟩
   | some ad => exact Or.inr ⟨ad, rfl, by simp⟩
 · refine ⟨cells, h5, Or.inr ⟨_, rfl, fun j u hu => ?_⟩⟩
   have : (⟨b, o, none⟩ : Addr).add j = ⟨b, o + j, none⟩ := by unfold Addr.add; split <;> simp_all
   rw [this]; exact h4 j u hu
theorem grown_keep {w w' : World} {row : Option Nat} (h : w.grownBy w' row) {k : Nat} (hk : k < w.heap.size) (hne : row ≠ some k) : w'.heap[k]? = w.heap[k]? := h.block k hk (fun e => hne e.symm)
theorem run_append_acc {P : Program} {w : World} (t ty : TypeId) (B0 : Nat) (e : TypeId) (i : TypeInfo) (z : Value) (size bytes : Nat) (ht : P.underlying t = some (.slice e)) (hi : P.info? e = some i) (hz : i.zero = some z)
 (hsize : i.size = size) (hby : i.bytes = bytes) (hzs : z.cells.size = size) (hsz : 0 < size)
 (v : Value) (ds : List D) (fp : List Nat) (hacc : Acc B0 w e size v ds fp) (ys : List D) (ao : Option Addr) (m c : Nat) (gp : List Nat) (hr : RepF w (.sl size ys) [.slice ao m c] gp)
 (hF : Fresh w B0 (fp ++ gp.tail)) (hown : ∀ k, v.ownBlock = some k -> k ∉ gp.tail)
 (h63 : ds.length + m <= maxLen) (hbytes : (ds.length + m) * bytes <= 140737488355328) (hbase : B0 <= w.heap.size) :
 ∃ ao' cap' w', (Builtin.append_ #[t, t] ty #[v, .slice ao m c]).run P w = .ok (.slice ao' (ds.length + m) cap') w' /\ Acc B0 w' e size (.slice ao' (ds.length + m) cap') (ds ++ ys) (fp ++ gp.tail) /\ w.grownBy w' v.ownBlock := by
 obtain ⟨xs, h1, h2, h3, h4⟩ := hacc
 obtain ⟨hm, hml, news, hnr, hsrc⟩ := hr.source
 rcases hsrc with ⟨rfl, rfl, rfl, rfl⟩ | ⟨ad, rfl, hcells⟩
 · have hgp : gp.tail = [] := by
    simp only [RepR] at hnr; exact hnr.2
   have hv : ∃ ao' cap', v = .slice ao' (ds.length + 0) cap' := by
    rcases h1.2 with ⟨rfl, hn⟩ | ⟨g, cap, cur, rfl, _⟩
    · exact ⟨none, 0, by rw [hn]⟩
    · exact ⟨_, cap, by rw [Nat.add_zero]⟩
   obtain ⟨ao', cap', hv⟩ := hv
   refine ⟨ao', cap', w, ?_, ⟨xs, by rw [<- hv]; simpa using h1, by rw [hgp]; simpa using h2, by rw [hgp]; simpa using h3, by rw [<- hv, hgp]; simpa using h4⟩, World.grownBy.refl _ _⟩
   rw [<- hv]
   exact run_append_owned_none (P := P) (w := w) B0 t ty e i size ht hi v ds.length xs h1
 · obtain ⟨v', w', hrun, hown', hgrow, hnil, hat⟩ := run_append_own_at (P := P) w B0 t ty e i z size bytes ht hi hz hsize hby hzs hsz v ds.length xs h1 ad m c news (by rw [hm]; exact hnr.length) hcells (fun u hu => RepR.one_cell hnr u hu) h63 hbytes hbase
   have hv : ∃ ao' cap', v' = .slice ao' (ds.length + m) cap' := by
    rcases hown'.2 with ⟨rfl, hn⟩ | ⟨g, cap, cur, rfl, _⟩
    · exact ⟨none, 0, by rw [hn]⟩
    · exact ⟨_, cap, rfl⟩
   have hkeep : ∀ k, k ∈ fp ++ gp.tail -> w'.heap[k]? = w.heap[k]? := fun k hk => grown_keep hgrow (hF.lt hk) (fun e => by
    rcases List.mem_append.1 hk with hk | hk
    · exact h4 k e hk
    · exact hown k e hk)
   obtain ⟨ao', cap', rfl⟩ := hv
   refine ⟨ao', cap', w', hrun, ⟨xs ++ news, by rw [List.length_append, <- hm]; exact hown', (h2.keep size ds fun k hk => hkeep k (List.mem_append_left _ hk)).append (hnr.keep size ys fun k hk => hkeep k (List.mem_append_right _ hk)),
    ⟨hF.nodup, hF.ge, fun b hb => let ⟨C, e', hO⟩ := hF.own b hb; ⟨C, e', (hkeep b hb).trans hO⟩⟩, fun k hk hkm => ?_⟩, hgrow⟩
   rcases hat with hat | hat
   · rw [hat] at hk
     rcases List.mem_append.1 hkm with hkm | hkm
     · exact h4 k hk hkm
     · exact hown k hk hkm
   · have := hF.lt hkm
     rw [hat] at hk; injection hk with hk; omega
theorem wp_append_acc {P : Program} {w : World} {o : Oper} {a : Act} {K : Act -> World -> Prop} {Q : Exit -> Act -> World -> Prop} (s x : Operand) (t : TypeId)
 (ho : o.op = .call { callee := .builtin .append, args := #[s, x], argTypes := #[t, t] })
 (B0 : Nat) (e : TypeId) (i : TypeInfo) (z : Value) (size bytes : Nat) (ht : P.underlying t = some (.slice e)) (hi : P.info? e = some i) (hz : i.zero = some z)
 (hsize : i.size = size) (hby : i.bytes = bytes) (hzs : z.cells.size = size) (hsz : 0 < size)
 (v : Value) (ds : List D) (fp : List Nat) (hs : a.eval s = v) (hacc : Acc B0 w e size v ds fp)
 (ys : List D) (ao : Option Addr) (m c : Nat) (gp : List Nat) (hx : a.eval x = .slice ao m c) (hr : RepF w (.sl size ys) [.slice ao m c] gp)
 (hF : Fresh w B0 (fp ++ gp.tail)) (hown : ∀ k, v.ownBlock = some k -> k ∉ gp.tail)
 (h63 : ds.length + m <= maxLen) (hbytes : (ds.length + m) * bytes <= 140737488355328) (hbase : B0 <= w.heap.size)
 (h : ∀ ao' cap' w', Acc B0 w' e size (.slice ao' (ds.length + m) cap') (ds ++ ys) (fp ++ gp.tail) -> w.grownBy w' v.ownBlock -> K (a.put o.dst (.slice ao' (ds.length + m) cap')) w') : o.wp P a w K Q := by
 obtain ⟨ao', cap', w', hrun, h2, h3⟩ := run_append_acc (P := P) t o.type B0 e i z size bytes ht hi hz hsize hby hzs hsz v ds fp hacc ys ao m c gp hr hF hown h63 hbytes hbase
 unfold Oper.wp execOp
 simp only [ho, resolve, invoke, builtin, Sem.run_bind, Sem.run_pure, Result.andThen_ok, List.map_toArray, List.map_cons, List.map_nil, hs, hx, hrun]
 exact h ao' cap' w' h2 h3
theorem wpList_append_acc {P : Program} {w : World} {ops : Array Oper} {rest : List Oper} {o : Oper} {a : Act} {Q : Exit -> Act -> World -> Prop} (hgd : o.guard = none) (s x : Operand) (t : TypeId)
 (ho : o.op = .call { callee := .builtin .append, args := #[s, x], argTypes := #[t, t] })
 (B0 : Nat) (e : TypeId) (i : TypeInfo) (z : Value) (size bytes : Nat) (ht : P.underlying t = some (.slice e)) (hi : P.info? e = some i) (hz : i.zero = some z)
 (hsize : i.size = size) (hby : i.bytes = bytes) (hzs : z.cells.size = size) (hsz : 0 < size)
 (v : Value) (ds : List D) (fp : List Nat) (hs : a.eval s = v) (hacc : Acc B0 w e size v ds fp)
 (ys : List D) (ao : Option Addr) (m c : Nat) (gp : List Nat) (hx : a.eval x = .slice ao m c) (hr : RepF w (.sl size ys) [.slice ao m c] gp)
 (hF : Fresh w B0 (fp ++ gp.tail)) (hown : ∀ k, v.ownBlock = some k -> k ∉ gp.tail)
 (h63 : ds.length + m <= maxLen) (hbytes : (ds.length + m) * bytes <= 140737488355328) (hbase : B0 <= w.heap.size)
 (h : ∀ ao' cap' w', Acc B0 w' e size (.slice ao' (ds.length + m) cap') (ds ++ ys) (fp ++ gp.tail) -> w.grownBy w' v.ownBlock -> wpList P ops Q rest (a.put o.dst (.slice ao' (ds.length + m) cap')) w') : wpList P ops Q (o :: rest) a w :=
 wpList_plain hgd fun _ hK => wp_append_acc s x t ho B0 e i z size bytes ht hi hz hsize hby hzs hsz v ds fp hs hacc ys ao m c gp hx hr hF hown h63 hbytes hbase fun ao' cap' w' h2 h3 => hK _ _ (h ao' cap' w' h2 h3)
theorem step_append_acc {P : Program} {w : World} {ops : Array Oper} {o : Oper} {a : Act} {K : Act -> World -> Prop} {Q : Exit -> Act -> World -> Prop} {E : Prop} (hgd : o.guard = none) (s x : Operand) (t : TypeId)
 (ho : o.op = .call { callee := .builtin .append, args := #[s, x], argTypes := #[t, t] })
 (B0 : Nat) (e : TypeId) (i : TypeInfo) (z : Value) (size bytes : Nat) (ht : P.underlying t = some (.slice e)) (hi : P.info? e = some i) (hz : i.zero = some z)
 (hsize : i.size = size) (hby : i.bytes = bytes) (hzs : z.cells.size = size) (hsz : 0 < size)
 (v : Value) (ds : List D) (fp : List Nat) (hs : a.eval s = v) (hacc : Acc B0 w e size v ds fp)
 (ys : List D) (ao : Option Addr) (m c : Nat) (gp : List Nat) (hx : a.eval x = .slice ao m c) (hr : RepF w (.sl size ys) [.slice ao m c] gp)
 (hF : Fresh w B0 (fp ++ gp.tail)) (hown : ∀ k, v.ownBlock = some k -> k ∉ gp.tail)
 (h63 : ds.length + m <= maxLen) (hbytes : (ds.length + m) * bytes <= 140737488355328) (hbase : B0 <= w.heap.size)
 (h : ∀ ao' cap' w', Acc B0 w' e size (.slice ao' (ds.length + m) cap') (ds ++ ys) (fp ++ gp.tail) -> w.grownBy w' v.ownBlock -> K (a.put o.dst (.slice ao' (ds.length + m) cap')) w') :
 if Region.wanted o (yielded ops a.tmps) = true then Oper.wp P o a w K Q else E := by
 have hw : Region.wanted o (yielded ops a.tmps) = true := by simp [Region.wanted, hgd]
 rw [if_pos hw]
 exact wp_append_acc s x t ho B0 e i z size bytes ht hi hz hsize hby hzs hsz v ds fp hs hacc ys ao m c gp hx hr hF hown h63 hbytes hbase h
theorem Acc.below {B0 : Nat} {w0 w w' : World} {e : TypeId} {size : Nat} {v : Value} {ds : List D} {fp : List Nat} (h : Acc B0 w e size v ds fp) (hb : Below B0 w0 w) (hg : w.grownBy w' v.ownBlock) (hB : B0 <= w.heap.size) : Below B0 w0 w' :=
 hb.grown hg hB fun k hk => by
  obtain ⟨xs, ⟨_, h2⟩, _⟩ := h
  rcases h2 with ⟨rfl, _⟩ | ⟨g, cap, cur, rfl, hg', _⟩
  · cases hk
  · simp [Value.ownBlock] at hk; omega
theorem strInfo : (Tryz.prog.info? 9).map (fun i => (i.zero, i.size, i.bytes)) = some (some (.string ByteArray.empty), 1, 16) := by kernel_rfl
theorem repR_strs_fp {w : World} : ∀ {l : List ByteArray} {cs : List Value} {fp : List Nat}, RepR w 1 (l.map D.str) cs fp -> fp = []
 | [], cs, fp, h => by simp only [List.map_nil, RepR] at h; exact h.2
 | s :: l, cs, fp, h => by
  simp only [List.map_cons, RepR, RepF] at h
  obtain ⟨c1, c2, f1, f2, rfl, rfl, -, ⟨-, rfl⟩, h2⟩ := h
  simpa using repR_strs_fp h2
theorem RepF.strs_tail {w : World} {l : List ByteArray} {cs : List Value} {fp : List Nat} (h : RepF w (strs l) cs fp) : fp.tail = [] := by
 obtain ⟨ao, cap, -, -, -, -, h⟩ := RepF.sl_iff.1 h
 rcases h with ⟨-, rfl⟩ | ⟨b, o, cells, fp', -, -, rfl, -, -, h5⟩
 · rfl
 · exact repR_strs_fp h5
def AccT (B0 : Nat) (w : World) (v : Value) (l : List ByteArray) : Prop := Acc B0 w 9 1 v (l.map .str) []
theorem AccT.ext {B0 : Nat} {w w' : World} {v : Value} {l : List ByteArray} (h : AccT B0 w v l) (hx : Ext w w') : AccT B0 w' v l := Acc.ext h hx
theorem AccT.rep {B0 : Nat} {w : World} {v : Value} {l : List ByteArray} (h : AccT B0 w v l) : ∃ ao cap gp, v = .slice ao l.length cap /\ RepF w (strs l) [.slice ao l.length cap] gp /\ Fresh w B0 gp := by
 obtain ⟨ao, cap, gp, h1, h2, h3⟩ := Acc.rep h
 simp only [List.length_map] at h1 h2
 exact ⟨ao, cap, gp, h1, h2, h3⟩
theorem wp_append_strs {w : World} {o : Oper} {a : Act} {K : Act -> World -> Prop} {Q : Exit -> Act -> World -> Prop} (s x : Operand)
 (ho : o.op = .call { callee := .builtin .append, args := #[s, x], argTypes := #[77, 77] })
 (B0 : Nat) (v : Value) (l : List ByteArray) (hs : a.eval s = v) (hacc : AccT B0 w v l)
 (ys : List ByteArray) (ao : Option Addr) (m c : Nat) (hx : a.eval x = .slice ao m c) (hr : Rep w (strs ys) [.slice ao m c])
 (hlen : l.length + ys.length <= 1073741824) (hbase : B0 <= w.heap.size)
 (h : ∀ ao' cap' w', AccT B0 w' (.slice ao' (l.length + ys.length) cap') (l ++ ys) -> w.grownBy w' v.ownBlock -> K (a.put o.dst (.slice ao' (l.length + ys.length) cap')) w') : o.wp Tryz.prog a w K Q := by
 obtain ⟨i0, hi, hz0, hz1, hz2⟩ := info_parts strInfo
 obtain ⟨gp, hr⟩ := hr
 have ht := hr.strs_tail
 have hm : m = ys.length := by
  obtain ⟨_, _, h1, _⟩ := RepF.sl_iff.1 hr
  simp at h1; omega
 subst hm
 refine wp_append_acc s x 77 ho B0 9 i0 _ 1 16 Tryz.underlying77 hi hz0 hz1 hz2 rfl (by decide) v (l.map .str) [] hs hacc (ys.map .str) ao ys.length c gp hx hr (by rw [ht]; exact Fresh.nil _ _) (by rw [ht]; simp) (by simp [maxLen]; omega) (by simp; omega) hbase ?_
 intro ao' cap' w' h2 h3
 rw [ht] at h2
 simp only [List.length_map, List.append_nil, <- List.map_append] at h2 ⊢
 exact h ao' cap' w' h2 h3
theorem wpList_append_strs {w : World} {ops : Array Oper} {rest : List Oper} {o : Oper} {a : Act} {Q : Exit -> Act -> World -> Prop} (hgd : o.guard = none) (s x : Operand)
 (ho : o.op = .call { callee := .builtin .append, args := #[s, x], argTypes := #[77, 77] })
 (B0 : Nat) (v : Value) (l : List ByteArray) (hs : a.eval s = v) (hacc : AccT B0 w v l)
 (ys : List ByteArray) (ao : Option Addr) (m c : Nat) (hx : a.eval x = .slice ao m c) (hr : Rep w (strs ys) [.slice ao m c])
 (hlen : l.length + ys.length <= 1073741824) (hbase : B0 <= w.heap.size)
 (h : ∀ ao' cap' w', AccT B0 w' (.slice ao' (l.length + ys.length) cap') (l ++ ys) -> w.grownBy w' v.ownBlock -> wpList Tryz.prog ops Q rest (a.put o.dst (.slice ao' (l.length + ys.length) cap')) w') : wpList Tryz.prog ops Q (o :: rest) a w :=
 wpList_plain hgd fun _ hK => wp_append_strs s x ho B0 v l hs hacc ys ao m c hx hr hlen hbase fun ao' cap' w' h2 h3 => hK _ _ (h ao' cap' w' h2 h3)
theorem step_append_strs {w : World} {ops : Array Oper} {o : Oper} {a : Act} {K : Act -> World -> Prop} {Q : Exit -> Act -> World -> Prop} {E : Prop} (hgd : o.guard = none) (s x : Operand)
 (ho : o.op = .call { callee := .builtin .append, args := #[s, x], argTypes := #[77, 77] })
 (B0 : Nat) (v : Value) (l : List ByteArray) (hs : a.eval s = v) (hacc : AccT B0 w v l)
 (ys : List ByteArray) (ao : Option Addr) (m c : Nat) (hx : a.eval x = .slice ao m c) (hr : Rep w (strs ys) [.slice ao m c])
 (hlen : l.length + ys.length <= 1073741824) (hbase : B0 <= w.heap.size)
 (h : ∀ ao' cap' w', AccT B0 w' (.slice ao' (l.length + ys.length) cap') (l ++ ys) -> w.grownBy w' v.ownBlock -> K (a.put o.dst (.slice ao' (l.length + ys.length) cap')) w') :
 if Region.wanted o (yielded ops a.tmps) = true then Oper.wp Tryz.prog o a w K Q else E := by
 have hw : Region.wanted o (yielded ops a.tmps) = true := by simp [Region.wanted, hgd]
 rw [if_pos hw]
 exact wp_append_strs s x ho B0 v l hs hacc ys ao m c hx hr hlen hbase h
theorem AccT.below {B0 : Nat} {w0 w w' : World} {v : Value} {l : List ByteArray} (h : AccT B0 w v l) (hb : Below B0 w0 w) (hg : w.grownBy w' v.ownBlock) (hB : B0 <= w.heap.size) : Below B0 w0 w' := Acc.below h hb hg hB
end Go.Proofs.YtlaclfeljimffaaGreatDoor
