/-
  A ROW OF BYTES THAT A CALL GATHERS: what it owns.
  Conditions: those that each lemma states.
-/
import Derived.Test.YticdmbmjlaomiaaGreatDoorRows
import Derived.Test.YticdmbmjlaomiaaGreatDoorLem
import Derived.Lib.AppendStr
namespace Go.Proofs.YticdmbmjlaomiaaGreatDoor
open Go.RowKit

def bytesC (l : List UInt8) : List Value := l.map fun b => Value.int .u8 b.toNat
theorem bytesC_str (s : ByteArray) : Lib.strCells s = bytesC s.data.toList := rfl
theorem own_some {w : World} {B e n : Nat} {v : Value} {xs : List Value} (h : w.ownsRow B e 1 v n xs) (hv : v ≠ .slice none 0 0) : ∃ b cap, v = .slice (some ⟨b, 0, none⟩) n cap ∧ n ≤ cap := by
  rcases h.2 with ⟨rfl, _⟩ | ⟨g, cap, cur, rfl, _, _, hc, _⟩
  · exact absurd rfl hv
  · exact ⟨g, cap, rfl, hc⟩
theorem own_ext {w w' : World} {B e n size : Nat} {v : Value} {xs : List Value} (h : w.ownsRow B e size v n xs) (hx : Ext w w') : w'.ownsRow B e size v n xs := by
  obtain ⟨k1, k2⟩ := h
  refine ⟨k1, ?_⟩
  rcases k2 with k2 | ⟨g, cap, cur, hv, hg, hh, r⟩
  · exact Or.inl k2
  · exact Or.inr ⟨g, cap, cur, hv, hg, (hx.block g (by exact (Array.getElem?_eq_some_iff.1 hh).1)).trans hh, r⟩
theorem own_grown {B : Nat} {w0 w w' : World} {e n size : Nat} {v : Value} {xs : List Value} (h : w.ownsRow B e size v n xs) (hb : Below B w0 w) (hg : w.grownBy w' v.ownBlock) (hB : B ≤ w.heap.size) : Below B w0 w' :=
  hb.grown hg hB fun k hk => by
    obtain ⟨_, h2⟩ := h
    rcases h2 with ⟨rfl, _⟩ | ⟨g, cap, cur, rfl, hg', _⟩
    · cases hk
    · simp [Value.ownBlock] at hk; omega
theorem u8Info : (Tryz.prog.info? 5).map (fun i => (i.zero, i.size, i.bytes)) = some (some (.int .u8 0), 1, 1) := by kernel_rfl

end Go.Proofs.YticdmbmjlaomiaaGreatDoor
