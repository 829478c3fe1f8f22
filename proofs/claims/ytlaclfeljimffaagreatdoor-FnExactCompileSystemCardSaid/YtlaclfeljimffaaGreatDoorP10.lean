/-
  ARGUMENTS READ AS DATA, OPENED: from the row's own reading ('DataW.trod') to plain data in memory ('Rep').
  Conditions: none.
-/
import Derived.ProofKit
import Derived.Deep.Slices
import Derived.Test.YtlaclfeljimffaaGreatDoorP02
namespace Go.Proofs.YtlaclfeljimffaaGreatDoor
open Go.RowKit Go.ChangeShapes Go.WideShapes
set_option maxHeartbeats 8000000
set_option maxRecDepth 100000
set_option linter.unusedSimpArgs false
set_option linter.unusedVariables false
theorem len_cons {α : Type} {l : List α} {n : Nat} (h : l.length = n + 1) : ∃ a l', l = a :: l' /\ l'.length = n := by
 cases l with
 | nil => simp at h
 | cons a l' => exact ⟨a, l', rfl, by simpa using h⟩
theorem len_nil {α : Type} {l : List α} (h : l.length = 0) : l = [] := List.length_eq_zero_iff.1 h
theorem cells_at {w : World} {base : Nat} {a : Addr} {n : Nat} {es : List Value} (h : w.cells? base a n = some es) : es.length = n /\ ∀ j, j < n -> w.cell? (a.add j) = es[j]? := by
 obtain ⟨_, h1, h2⟩ := World.cells?_some h
 exact ⟨h1, fun j hj => h2 j hj⟩
section
variable {H : Type} {enc : TypeId × Value -> H} {P : Program} {W : World} {spare : Nat -> Bool} {held : Bool}
theorem trod_sl {α : Type} {f : α -> D} {sz : Nat} {e t : TypeId} (ht : P.underlying t = some (.slice e)) (hc : P.cellsOf e = sz) (hsz : 0 < sz) {fuel : Nat}
 (IH : ∀ n, n < fuel -> ∀ es d, DataW.trod enc P W 0 spare held n e es = some d -> ∃ x : α, Rep W (f x) es /\ (f x).ok) {cs : List Value} {d : DataW H × List MemPlace} (h : DataW.trod enc P W 0 spare held fuel t cs = some d) :
 ∃ l : List α, Rep W (.sl sz (l.map f)) cs /\ (D.sl sz (l.map f)).ok := by
 rcases DataW.trod_slice ht h with ⟨rfl, _⟩ | ⟨a, len, cap, elems, rest, n, rfl, rfl, _, _, hlc, hcm, hle, hel, _⟩
 · refine ⟨[], ⟨[], ?_⟩, by simp [D.ok, D.okL]⟩
   exact RepF.sl_iff.2 ⟨none, 0, rfl, Nat.le_refl _, Nat.zero_le _, fun _ => rfl, Or.inl ⟨rfl, rfl⟩⟩
 · rw [hc] at hel
   have step : ∀ i, i < len -> ∃ (es : List Value) (x : α), es.length = sz /\ (∀ j, j < sz -> W.cell? ((a.add (i * sz)).add j) = es[j]?) /\ Rep W (f x) es /\ (f x).ok := by
    intro i hi
    have h1 := hel i hi
    have h2 : ∃ z, elems[i]? = some z := ⟨elems[i]'(by omega), by simp [hle, hi]⟩
    obtain ⟨z, hz⟩ := h2
    rw [hz, Option.bind_eq_some_iff] at h1
    obtain ⟨es, h3, h4⟩ := h1
    obtain ⟨k1, k2⟩ := cells_at h3
    obtain ⟨x, k3, k4⟩ := IH n (Nat.lt_succ_self _) es _ h4
    exact ⟨es, x, k1, k2, k3, k4⟩
   by_cases hl0 : len = 0
   · subst hl0
     refine ⟨[], ⟨[], ?_⟩, by simp [D.ok, D.okL]⟩
     exact RepF.sl_iff.2 ⟨some a, cap, rfl, Nat.zero_le _, hcm, by simp, Or.inl ⟨rfl, rfl⟩⟩
   · have hspot : a.spot = none := by
      obtain ⟨es, x, k1, k2, -, -⟩ := step 0 (by omega)
      have := k2 0 hsz
      rw [Nat.zero_mul, Go.Deep.add_add] at this
      simp only [Addr.add, if_pos] at this
      rw [List.getElem?_eq_getElem (by omega)] at this
      unfold World.cell? at this
      cases hs : a.spot with
      | none => rfl
      | some q => rw [hs] at this; split at this <;> simp_all
     obtain ⟨b, o, sp⟩ := a
     simp only at hspot
     subst hspot
     have addr : ∀ i j, ((⟨b, o, none⟩ : Addr).add i).add j = ⟨b, o + (i + j), none⟩ := fun i j => by
      rw [Go.Deep.add_add]; unfold Addr.add; split
      · rename_i h0; rw [h0]; rfl
      · rfl
     have all : ∀ k, k <= len -> ∃ (l : List α) (cells : List Value) (fp : List Nat), l.length = k /\ cells.length = k * sz /\ RepR W sz (l.map f) cells fp /\ D.okL (l.map f) /\ ∀ (j : Nat) c, cells[j]? = some c -> W.cell? ⟨b, o + j, none⟩ = some c := by
      intro k
      induction k with
      | zero => intro _; exact ⟨[], [], [], rfl, by simp, by simp [RepR], by simp [D.okL], by simp⟩
      | succ k ih =>
       intro hk
       obtain ⟨l, cells, fp, h1, h2, h3, h4, h5⟩ := ih (by omega)
       obtain ⟨es, x, k1, k2, ⟨g, k3⟩, k4⟩ := step k (by omega)
       refine ⟨l ++ [x], cells ++ es, fp ++ g, by simp [h1], by rw [List.length_append, h2, k1, Nat.succ_mul], ?_, ?_, ?_⟩
       · rw [List.map_append]; exact h3.append (RepR.one k3 k1)
       · clear h1 h2 h3 h5
         induction l with
         | nil => simp [D.okL, k4]
         | cons y ys ihl =>
          simp only [List.map_cons, D.okL] at h4
          simp only [List.cons_append, List.map_cons, D.okL]
          exact ⟨h4.1, ihl h4.2⟩
       · intro j c hc
         by_cases hj : j < cells.length
         · rw [List.getElem?_append_left hj] at hc; exact h5 j c hc
         · rw [List.getElem?_append_right (by omega)] at hc
           have hlt : j - cells.length < sz := by
            have := (List.getElem?_eq_some_iff.1 hc).1; omega
           have := k2 (j - cells.length) hlt
           rw [addr, hc, <- h2, show cells.length + (j - cells.length) = j from by omega] at this
           exact this
     obtain ⟨l, cells, fp, h1, h2, h3, h4, h5⟩ := all len (Nat.le_refl _)
     refine ⟨l, ⟨b :: fp, ?_⟩, by simpa [D.ok] using h4⟩
     refine RepF.sl_iff.2 ⟨some ⟨b, o, none⟩, cap, by simp [h1], by simp [h1, hlc], hcm, by simp, Or.inr ⟨b, o, cells, fp, by intro h; simp at h; subst h; simp at h1; omega, rfl, rfl, ?_, h5, h3⟩⟩
     obtain ⟨es, x, k1, k2, -, -⟩ := step 0 (by omega)
     have := k2 0 hsz
     rw [addr, List.getElem?_eq_getElem (by omega)] at this
     exact lt_of_cell this
theorem trod_str1 {t : TypeId} (ht : P.underlying t = some .string) {fuel : Nat} {cs : List Value} {d : DataW H × List MemPlace} (h : DataW.trod enc P W 0 spare held fuel t cs = some d) :
 ∃ s : ByteArray, Rep W (.str s) cs /\ (D.str s).ok := by
 obtain ⟨s, rfl, _, hs⟩ := DataW.trod_string ht h
 exact ⟨s, ⟨[], by simp [RepF]⟩, by simpa [D.ok, maxLen] using hs⟩
theorem trod_int1 {t : TypeId} (ht : P.underlying t = some (.int .i64)) {fuel : Nat} {cs : List Value} {d : DataW H × List MemPlace} (h : DataW.trod enc P W 0 spare held fuel t cs = some d) :
 ∃ s : Int, Rep W (.int s) cs /\ (D.int s).ok := by
 obtain ⟨s, rfl, _, hs⟩ := DataW.trod_int ht h
 refine ⟨s, ⟨[], by simp [RepF]⟩, ?_⟩
 simp [Lit.wf, IntKind.min, IntKind.max, IntKind.signed, IntKind.bits] at hs
 simp only [D.ok]
 have := hs.1; have := hs.2
 omega
theorem trod_bool1 {t : TypeId} (ht : P.underlying t = some .bool) {fuel : Nat} {cs : List Value} {d : DataW H × List MemPlace} (h : DataW.trod enc P W 0 spare held fuel t cs = some d) :
 ∃ s : Bool, Rep W (.bool s) cs /\ (D.bool s).ok := by
 obtain ⟨s, rfl, _⟩ := DataW.trod_bool ht h
 exact ⟨s, ⟨[], by simp [RepF]⟩, by simp [D.ok]⟩
end
end Go.Proofs.YtlaclfeljimffaaGreatDoor
