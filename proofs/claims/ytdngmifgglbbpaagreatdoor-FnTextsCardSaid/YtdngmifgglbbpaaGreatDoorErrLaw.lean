/-
  THE LIBRARY's TWO ERROR VARIABLES, where a row lists them.
  Conditions: those that each lemma states.
-/
import Derived.Test.YtdngmifgglbbpaaGreatDoorDoorLaw
import Derived.Test.YtdngmifgglbbpaaGreatDoorFnNums
import Derived.FnData
namespace Go.Proofs.YtdngmifgglbbpaaGreatDoor
open Go.RowKit

theorem trod_ifaceOk {H : Type} {enc : TypeId × Value → H} {P : Program} {w : World} {base : Nat} {sp : Nat → Bool} {held : Bool} {fuel : Nat} {t : TypeId} {cs : List Value} {d : DataW H} {p : List MemPlace} {ms : Array (String × TypeId)}
    (ht : P.underlying t = some (.interface ms)) (h : DataW.trod enc P w base sp held fuel t cs = some (d, p)) : ∃ v, cs = [v] ∧ IfaceOk v := by
  cases fuel with
  | zero => simp [DataW.trod] at h
  | succ fuel =>
    rcases cs with _ | ⟨v, _ | ⟨u, r⟩⟩
    · simp [DataW.trod, ht] at h
    · cases v <;> first
        | (simp [DataW.trod, ht] at h; done)
        | exact ⟨_, rfl, Or.inl rfl⟩
        | exact ⟨_, rfl, Or.inr ⟨_, _, rfl⟩⟩
    · simp [DataW.trod, ht] at h

theorem laid_iface {P : Program} {w : World} {name : String} {g t : Nat} {ms : Array (String × TypeId)} (hg : P.globalNamed name = some g) (hty : (P.globals[g]?).map (·.type) = some t) (ht : P.underlying t = some (.interface ms)) :
    ∀ {l : List (String × DataW Unit)} {ps : List MemPlace} {d : DataW Unit}, DataW.LaidVars P w l ps → (name, d) ∈ l → ∃ v, w.cell? ⟨g, 0, none⟩ = some v ∧ IfaceOk v
  | [], _, _, _, hm => by simp at hm
  | (n0, d0) :: rest, ps, d, h, hm => by
    obtain ⟨g', t', cs, fuel, p, q, hg', ht', hvar, hd, hr, _⟩ := h
    rcases List.mem_cons.1 hm with e0 | hm
    · simp only [Prod.mk.injEq] at e0
      obtain ⟨rfl, rfl⟩ := e0
      obtain rfl := Option.some.inj (hg.symm.trans hg')
      obtain rfl := Option.some.inj (hty.symm.trans ht')
      obtain ⟨v, hv, hok⟩ := trod_ifaceOk ht hd
      refine ⟨v, ?_, hok⟩
      rw [World.var?_cell hg hvar 0]
      have : cs.toList[0]? = some v := by rw [hv]; rfl
      simpa using this
    · exact laid_iface hg hty ht hr hm

theorem err_laid {W : World} {l : List (String × DataW Unit)} (h : laidMetH Tryz.prog l W) (hp : (l.all fun x => x.2.handleName?.isNone) = true) {i j : Nat} {d1 d2 : DataW Unit} (h1 : l[i]? = some ("strconv.ErrSyntax", d1)) (h2 : l[j]? = some ("strconv.ErrRange", d2)) : ErrOk W := by
  rw [MakeChecks.laidMetH_plain _ _ _ hp] at h
  obtain ⟨ps, h, _⟩ := h
  exact ⟨laid_iface (g := 1) (t := 273) (by kernel_rfl) (by kernel_rfl) Tryz.underlying273 h (List.mem_of_getElem? h1),
    laid_iface (g := 2) (t := 273) (by kernel_rfl) (by kernel_rfl) Tryz.underlying273 h (List.mem_of_getElem? h2)⟩

end Go.Proofs.YtdngmifgglbbpaaGreatDoor
