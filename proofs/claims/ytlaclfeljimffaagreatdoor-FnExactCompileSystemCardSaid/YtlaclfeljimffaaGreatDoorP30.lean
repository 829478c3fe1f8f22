/-
  CONTRACTS: right core trees, of the program.
  Conditions: those that each lemma states.
-/
import Derived.Test.YtlaclfeljimffaaGreatDoorRows
import Derived.Lib.SliceRun
import Derived.Deep.AppendLies
import Derived.Deep.RegionHeld3
import Derived.Deep.DeepCutAuto
import Derived.Deep.CutBlock
import Derived.Test.YtlaclfeljimffaaGreatDoorP15
import Derived.Test.YtlaclfeljimffaaGreatDoorP16
namespace Go.Proofs.YtlaclfeljimffaaGreatDoor
open Go.RowKit
set_option maxHeartbeats 8000000
set_option maxRecDepth 100000
set_option linter.unusedSimpArgs false
set_option linter.unusedVariables false
theorem fr_open {w : World} {F : Fr} {vf : Value} (h : Rep w (frD F) [vf]) (hF : F ≠ []) :
 ∃ b o cap, vf = .slice (some ⟨b, o, none⟩) F.length cap /\ F.length <= cap /\ cap <= maxLen /\ b < w.heap.size /\ ∀ (i : Nat) f, F[i]? = some f -> w.cell? ⟨b, o + i * 2, none⟩ = some (.int .i64 f.1) /\ w.cell? ⟨b, o + i * 2 + 1, none⟩ = some (.int .i64 f.2) := by
 obtain ⟨ao, cap, b, o, h1, h2, h3, h4, h5⟩ := Rep.slmap h
 simp only [List.cons.injEq, and_true] at h1
 have hl : 0 < F.length := List.length_pos_iff.2 hF
 obtain rfl := h4 hl
 have key : ∀ (i : Nat) f, F[i]? = some f -> w.cell? ⟨b, o + i * 2, none⟩ = some (.int .i64 f.1) /\ w.cell? ⟨b, o + i * 2 + 1, none⟩ = some (.int .i64 f.2) := fun i f hf => by
  obtain ⟨es, k1, k2, fp, k3⟩ := h5 i f hf
  simp only [RepF, RepS] at k3
  obtain ⟨_, _, _, _, rfl, -, ⟨rfl, -⟩, _, _, _, _, rfl, -, ⟨rfl, -⟩, rfl, -⟩ := k3
  exact ⟨k2 0 (by omega), k2 1 (by omega)⟩
 refine ⟨b, o, cap, h1, h2, h3, ?_, key⟩
 exact lt_of_cell (key 0 F[0] (by simp [hl])).1
theorem fr_make {w : World} {F : Fr} {b o cap : Nat} (hF : F ≠ []) (hl : F.length <= cap) (hm : cap <= maxLen) (h : ∀ (i : Nat) f, F[i]? = some f -> w.cell? ⟨b, o + i * 2, none⟩ = some (.int .i64 f.1) /\ w.cell? ⟨b, o + i * 2 + 1, none⟩ = some (.int .i64 f.2)) : Rep w (frD F) [.slice (some ⟨b, o, none⟩) F.length cap] := by
 have hcells : ∀ G : Fr, RepR w 2 (G.map fun f => D.st [.int f.1, .int f.2]) (G.flatMap fun f => [.int .i64 f.1, .int .i64 f.2]) [] := by
  intro G
  induction G with
  | nil => simp [RepR]
  | cons g G ih =>
   simp only [List.map_cons, List.flatMap_cons, RepR]
   exact ⟨[.int .i64 g.1, .int .i64 g.2], _, [], [], rfl, rfl, rfl, RepF.st (RepS.int _ (RepS.int _ (RepS.nil _))), ih⟩
 have hget : ∀ (G : Fr) (j : Nat) (c : Value), (G.flatMap fun f => [Value.int .i64 f.1, .int .i64 f.2])[j]? = some c -> ∃ i f, G[i]? = some f /\ ((j = i * 2 /\ c = .int .i64 f.1) ∨ (j = i * 2 + 1 /\ c = .int .i64 f.2)) := by
  intro G
  induction G with
  | nil => intro j c h; simp at h
  | cons g G ih =>
   intro j c hc
   match j with
   | 0 => simp at hc; exact ⟨0, g, by simp, Or.inl ⟨rfl, hc.symm⟩⟩
   | 1 => simp at hc; exact ⟨0, g, by simp, Or.inr ⟨rfl, hc.symm⟩⟩
   | j + 2 =>
    simp only [List.flatMap_cons] at hc
    obtain ⟨i, f, h1, h2⟩ := ih j c (by simpa using hc)
    refine ⟨i + 1, f, by simpa using h1, ?_⟩
    rcases h2 with ⟨rfl, e⟩ | ⟨rfl, e⟩
    · exact Or.inl ⟨by omega, e⟩
    · exact Or.inr ⟨by omega, e⟩
 have hl0 : 0 < F.length := List.length_pos_iff.2 hF
 refine ⟨[b], RepF.sl_iff.2 ⟨_, cap, by simp, by simpa using hl, hm, by simp, Or.inr ⟨b, o, _, [], by simpa using hF, rfl, rfl, lt_of_cell (h 0 F[0] (by simp [hl0])).1, fun j c hj => ?_, hcells F⟩⟩⟩
 obtain ⟨i, f, h1, h2⟩ := hget F j c hj
 rcases h2 with ⟨rfl, rfl⟩ | ⟨rfl, rfl⟩
 · exact (h i f h1).1
 · rw [<- Nat.add_assoc]; exact (h i f h1).2
def fdat (f : Int × Int) : D := .st [.int f.1, .int f.2]
theorem frD_eq (F : Fr) : frD F = .sl 2 (F.map fdat) := rfl
theorem frInfo : (Tryz.prog.info? 135).map (fun i => (i.zero, i.size, i.bytes)) = some (some (.agg #[.int .i64 0, .int .i64 0]), 2, 16) := by kernel_rfl
theorem repR_fr_fp {w : World} : ∀ {F : Fr} {cs : List Value} {fp : List Nat}, RepR w 2 (F.map fdat) cs fp -> fp = []
 | [], cs, fp, h => by simp [RepR] at h; exact h.2
 | f :: F, cs, fp, h => by
  simp only [List.map_cons, RepR] at h
  obtain ⟨c1, c2, f1, f2, -, rfl, -, h1, h2⟩ := h
  obtain rfl := repR_fr_fp h2
  simp only [fdat, RepF, RepS] at h1
  obtain ⟨_, _, _, _, -, rfl, ⟨-, rfl⟩, _, _, _, _, -, rfl, ⟨-, rfl⟩, -, rfl⟩ := h1
  rfl
theorem RepF.fr_tail {w : World} {F : Fr} {cs : List Value} {fp : List Nat} (h : RepF w (frD F) cs fp) : fp.tail = [] := by
 obtain ⟨ao, cap, -, -, -, -, h⟩ := RepF.sl_iff.1 h
 rcases h with ⟨-, rfl⟩ | ⟨b, o, cells, fp', -, -, rfl, -, -, h5⟩
 · rfl
 · exact repR_fr_fp h5
theorem clone_fr (F : Fr) (b o cap : Nat) (w : World) (h : Rep w (frD F) [.slice (some ⟨b, o, none⟩) F.length cap]) (hl : F.length <= 1000) :
 Calls Tryz.prog 119 #[.slice (some ⟨b, o, none⟩) F.length cap] w fun e w' => ∃ ao cp, e = .returned (.slice ao F.length cp) /\ Acc w.heap.size w' 135 2 (.slice ao F.length cp) (F.map fdat) [] /\ Ext w w' := by
 obtain ⟨i0, hi, hz0, hz1, hz2⟩ := info_parts frInfo
 obtain ⟨gp, hr⟩ := h
 have ht := hr.fr_tail
 have hr2 : RepF (w.alloc (.cells #[] 135)) (.sl 2 (F.map fdat)) [.slice (some ⟨b, o, none⟩) F.length cap] gp := hr.ext ((XR w).alloc _)
 have q : ∀ (w : World) (a : Option Addr) (n c n' c' : Nat), (binOp .eql 136 (.slice a n c) (.slice none n' c')).run Tryz.prog w = .ok (.bool a.isNone) w := fun w a n c n' c' => Lib.run_eql_slice_nil w _ _ a n c n' c' Tryz.underlying136
 have hacc0 : Acc w.heap.size (w.alloc (.cells #[] 135)) 135 2 (.slice (some ⟨w.heap.size, 0, none⟩) 0 0) [] [] := Acc.empty _ _ (Nat.le_refl _)
 have HR := LH hr2; have HA := LH hacc0; have HT := LH ht
 clear hr hr2 hacc0 ht
 go_enter Tryz.func119, Tryz.ntmps119
 go_wp2_with (at_builtin; refine wpList_append_acc rfl _ _ 136 rfl w.heap.size 135 i0 _ 2 16 Tryz.underlying136 hi hz0 hz1 hz2 rfl (by decide) _ [] [] rfl HA.out (F.map fdat) _ _ _ gp rfl HR.out (by rw [HT.out]; exact Fresh.nil _ _) (by rw [HT.out]; simp) (by simp [maxLen]; omega) (by simp; omega) (by simp) ?_)
 intro ao' cap' w' hacc hg
 rw [HT.out] at hacc
 (try simp only [List.length_nil, Nat.zero_add, List.nil_append, List.length_map] at hacc)
 (try simp only [List.length_nil, Nat.zero_add, List.nil_append, List.length_map])
 go_wp2_with fail
 go_ret
 exact ⟨ao', cap', rfl, hacc, Acc.below HA.out ((XR w).alloc _) hg (by simp)⟩
theorem usesText_any (k : Int) (w : World) : Calls Tryz.prog 120 #[.int .i64 k] w fun e w' => e = .returned (.bool (txK k)) /\ w' = w := by
 by_cases h2 : k = 2
 · subst h2
   go_enter Tryz.func120, Tryz.ntmps120
   go_wp2_with fail
   go_ret
   exact ⟨rfl, rfl⟩
 have e2 := int_ne h2
 by_cases h3 : k = 3
 · subst h3
   go_enter Tryz.func120, Tryz.ntmps120
   go_wp2_with fail
   go_ret
   exact ⟨rfl, rfl⟩
 have e3 := int_ne h3
 by_cases h10 : k = 10
 · subst h10
   go_enter Tryz.func120, Tryz.ntmps120
   go_wp2_with fail
   go_ret
   exact ⟨rfl, rfl⟩
 have e10 := int_ne h10
 by_cases h11 : k = 11
 · subst h11
   go_enter Tryz.func120, Tryz.ntmps120
   go_wp2_with fail
   go_ret
   exact ⟨rfl, rfl⟩
 have e11 := int_ne h11
 by_cases h13 : k = 13
 · subst h13
   go_enter Tryz.func120, Tryz.ntmps120
   go_wp2_with fail
   go_ret
   exact ⟨rfl, rfl⟩
 have e13 := int_ne h13
 by_cases h14 : k = 14
 · subst h14
   go_enter Tryz.func120, Tryz.ntmps120
   go_wp2_with fail
   go_ret
   exact ⟨rfl, rfl⟩
 have e14 := int_ne h14
 have hf : txK k = false := by simp [txK, h2, h3, h10, h11, h13, h14]
 have HF := LH hf
 clear hf h2 h3 h10 h11 h13 h14
 go_enter Tryz.func120, Tryz.ntmps120
 go_wp2_with fail
 go_ret
 exact ⟨ret_bool HF.out.symm, rfl⟩
theorem usesNumber_any (k : Int) (w : World) : Calls Tryz.prog 121 #[.int .i64 k] w fun e w' => e = .returned (.bool (nuK k)) /\ w' = w := by
 by_cases h1 : k = 1
 · subst h1
   go_enter Tryz.func121, Tryz.ntmps121
   go_wp2_with fail
   go_ret
   exact ⟨rfl, rfl⟩
 have e1 := int_ne h1
 by_cases h12 : k = 12
 · subst h12
   go_enter Tryz.func121, Tryz.ntmps121
   go_wp2_with fail
   go_ret
   exact ⟨rfl, rfl⟩
 have e12 := int_ne h12
 by_cases h14 : k = 14
 · subst h14
   go_enter Tryz.func121, Tryz.ntmps121
   go_wp2_with fail
   go_ret
   exact ⟨rfl, rfl⟩
 have e14 := int_ne h14
 by_cases h20 : k = 20
 · subst h20
   go_enter Tryz.func121, Tryz.ntmps121
   go_wp2_with fail
   go_ret
   exact ⟨rfl, rfl⟩
 have e20 := int_ne h20
 by_cases h21 : k = 21
 · subst h21
   go_enter Tryz.func121, Tryz.ntmps121
   go_wp2_with fail
   go_ret
   exact ⟨rfl, rfl⟩
 have e21 := int_ne h21
 have hf : nuK k = false := by simp [nuK, h1, h12, h14, h20, h21]
 have HF := LH hf
 clear hf h1 h12 h14 h20 h21
 go_enter Tryz.func121, Tryz.ntmps121
 go_wp2_with fail
 go_ret
 exact ⟨ret_bool HF.out.symm, rfl⟩
theorem frIn_ne {F : Fr} {x : MCore} (h : x.kind ≠ 16) : frIn F x = F := if_neg h
theorem frAt_last (G : Fr) (f : Int × Int) : frAt (G ++ [f]) 0 = f := by
 unfold frAt
 simp [List.getD]
theorem frAt_get {G : Fr} {f : Int × Int} {d : Int} {j : Nat} (h0 : 0 <= d) (h1 : d <= (G.length : Int)) (hj : (G.length : Int) - d = j) : (G ++ [f])[j]? = some (frAt (G ++ [f]) d) := by
 unfold frAt
 have e : (G ++ [f]).length - 1 - d.toNat = j := by simp; omega
 have hlt : j < (G ++ [f]).length := by simp; omega
 rw [e, List.getD_eq_getElem?_getD, List.getElem?_eq_getElem hlt]
 rfl
theorem not_okN {n : Nat} {K : Int} {F : Fr} {x : MCore} (h : ¬ eI K F x) (h15 : x.kind ≠ 15) : ¬ okN (n + 1) K F x := fun g => h ((okN_node h15).1 g).1
def CoreAt (n : Nat) : Prop := ∀ (z : MCore) (cz : List Value) (K : Int) (F : Fr) (vf : Value) (w : World), z.deep <= n -> F.length + n <= 1000 -> FrOk F -> 0 <= K -> K <= 1000 -> z.d.bulk <= 1048576 -> MaxOk w -> Rep w z.d cz -> Rep w (frD F) [vf] ->
 Calls Tryz.prog 87 #[.agg cz.toArray, .int .i64 K, vf] w fun e w' => e = .returned (.bool (prB (okN n K F z))) /\ Ext w w'
end Go.Proofs.YtlaclfeljimffaaGreatDoor
