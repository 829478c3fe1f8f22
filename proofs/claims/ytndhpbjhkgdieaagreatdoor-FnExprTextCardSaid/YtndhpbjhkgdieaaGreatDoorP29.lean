/-
  CONTRACTS: l3Draw: a drawn tree.
  Conditions: those that each lemma states.
-/
import Derived.Test.YtndhpbjhkgdieaaGreatDoorRows
import Derived.Test.YtndhpbjhkgdieaaGreatDoorP28
namespace Go.Proofs.YtndhpbjhkgdieaaGreatDoor
open Go.RowKit
set_option maxHeartbeats 8000000
set_option maxRecDepth 100000
set_option linter.unusedSimpArgs false
set_option linter.unusedVariables false
def drT : List ByteArray := [⟨#[]⟩, ⟨#[97, 98]⟩, ⟨#[105, 116, 39, 115]⟩, ⟨#[120]⟩]
theorem drT_sz : ∀ s, s ∈ drT -> s.size <= 11 := by decide
def drS : List ByteArray := [⟨#[97, 116, 58, 112, 117, 116, 58]⟩, ⟨#[115, 105, 122, 101]⟩, ⟨#[43]⟩]
theorem drS_sz : ∀ s, s ∈ drS -> s.size <= 11 := by decide
def drN : List ByteArray := [⟨#[120]⟩, ⟨#[121]⟩, ⟨#[115, 101, 108, 102]⟩, ⟨#[110, 105, 108]⟩, ⟨#[116, 114, 117, 101]⟩, ⟨#[65, 114, 114, 97, 121]⟩]
theorem drN_sz : ∀ s, s ∈ drN -> s.size <= 11 := by decide
def drV : List ByteArray := [⟨#[120]⟩, ⟨#[121]⟩]
theorem drV_sz : ∀ s, s ∈ drV -> s.size <= 11 := by decide
def drU : List ByteArray := [⟨#[115, 105, 122, 101]⟩, ⟨#[112, 114, 105, 110, 116, 83, 116, 114, 105, 110, 103]⟩, ⟨#[118, 97, 108, 117, 101]⟩]
theorem drU_sz : ∀ s, s ∈ drU -> s.size <= 11 := by decide
def drO : List ByteArray := [⟨#[43]⟩, ⟨#[45]⟩, ⟨#[61]⟩, ⟨#[44]⟩, ⟨#[47, 47]⟩]
theorem drO_sz : ∀ s, s ∈ drO -> s.size <= 11 := by decide
def drK : List ByteArray := [⟨#[97, 116, 58]⟩, ⟨#[105, 102, 84, 114, 117, 101, 58]⟩, ⟨#[109, 97, 120, 58]⟩]
theorem drK_sz : ∀ s, s ∈ drK -> s.size <= 11 := by decide
def drI : List Int := [0, 1, 2, 3, 10, 999999999]
theorem drI_bd : ∀ z, z ∈ drI -> 0 <= z /\ z <= 999999999 := by decide
def DB : Nat -> Nat
 | 0 => 20
 | d + 1 => 3 * DB d + 100
theorem DB_le (d : Nat) : 20 <= DB d := by
 cases d
 · exact Nat.le_refl _
 · simp only [DB]; omega
def DrawAt (d : Nat) (B : Nat) (v : Value) : Prop := ∀ W : World, Cur W B v -> Bytes W v ->
 Calls Tryz.prog 28 #[.pointer (some ⟨B, 0, none⟩), .int .i64 d] W fun e w' => (∃ x vs, e = .returned (.agg (List.toArray vs)) /\ DrX W.heap.size (DB d) w' x vs) /\ Touch W w' [B] /\ Cur w' B v
theorem pick_c (B : Nat) (v : Value) (l : List ByteArray) (e : TypeId) (w0 w : World) (D : DS w0 B v w) (hc : Bytes w0 v) (hB : Off v B) (hr : w0.heap.size ≠ B) (h0 : 0 < l.length) (h1 : l.length <= 1000) :
 Calls Tryz.prog 30 #[.pointer (some ⟨B, 0, none⟩), .slice (some ⟨w.heap.size, 0, none⟩) l.length l.length] (w.alloc (.cells (l.map Value.string).toArray e)) fun e' w' => (∃ s, e' = .returned (.string s) /\ s ∈ l) /\ DS w0 B v w' /\ Touch w w' [B] := by
 have x1 : Ext w (w.alloc (.cells (l.map Value.string).toArray e)) := (XR w).alloc _
 have D1 := D.ext x1
 refine (l1Pick_cur B v l w.heap.size l.length _ D1.c (hc.touch D1.t hB) hB h0 h1 (by have := D.c.lt; omega) (lit_strs w l e)).mono ?_
 rintro e' w2 ⟨h, hT, hC⟩
 exact ⟨h, D1.call hr hT hC, (Touch.of_ext x1 _).trans hT⟩
def FewX (dd : Nat) (l : List MExpr) : Prop := ∀ z, z ∈ l -> z.d.ok /\ z.d.bulk <= DB dd + 1
theorem okL_of {dd : Nat} : ∀ {l : List MExpr}, FewX dd l -> D.okL (l.map MExpr.d)
 | [], _ => trivial
 | a :: l, h => ⟨(h a (by simp)).1, okL_of (l := l) fun z hz => h z (by simp [hz])⟩
theorem bulk_few {dd : Nat} : ∀ {l : List MExpr}, FewX dd l -> l.length <= 3 -> l.length + D.bulkL (l.map MExpr.d) <= 3 * DB dd + 6
 | [], _, _ => by simp [D.bulkL]
 | [a], h, _ => by have := (h a (by simp)).2; simp [D.bulkL]; omega
 | [a, b], h, _ => by have := (h a (by simp)).2; have := (h b (by simp)).2; simp [D.bulkL]; omega
 | [a, b, c], h, _ => by have := (h a (by simp)).2; have := (h b (by simp)).2; have := (h c (by simp)).2; simp [D.bulkL]; omega
 | a :: b :: c :: d :: l, _, h => absurd h (by simp)
theorem okL_small : ∀ {N : List ByteArray}, (∀ s, s ∈ N -> s.size <= 1) -> D.okL (N.map .str) /\ D.bulkL (N.map .str) <= N.length
 | [], _ => ⟨trivial, Nat.le_refl _⟩
 | a :: N, h => by
  have h1 := h a (by simp)
  obtain ⟨h2, h3⟩ := okL_small (N := N) fun s hs => h s (by simp [hs])
  refine ⟨⟨by show a.size <= _; omega, h2⟩, ?_⟩
  simp only [List.map_cons, D.bulkL, D.bulk, List.length_cons]
  omega
theorem mk_blk {B0 dd : Nat} {w : World} {p n : Nat} {N : List ByteArray} {l : List MExpr} {a9 q : Option Addr} {c9 nb k : Nat} {g9 : List Nat} (hs : ∀ s, s ∈ N -> s.size <= 1) (hn : N.length = n) (hn3 : n <= 10) (hp : p <= 10)
 (RN : RepF w (strs N) [.slice a9 n c9] g9) (hg : ∀ k, k ∈ g9 -> B0 <= k) (hnb : nb = l.length) (HB : AccX B0 w (.slice q nb k) l) (hl : FewX dd l) (h3 : l.length <= 3) (hd : ∀ j, (Value.slice q nb k).ownBlock = some j -> j ∉ g9) :
 DrX B0 (DB (dd + 1)) w ⟨8, ⟨#[]⟩, (p : Nat), N, l⟩ [.int .i64 8, .string ⟨#[]⟩, .int .i64 (p : Nat), .slice a9 n c9, .slice q nb k] := by
 subst hn hnb
 obtain ⟨h1, h2⟩ := okL_small hs
 refine ⟨a9, c9, q, k, g9, rfl, RN, hg, HB, ex_ok (by omega) (by decide) (by omega) h1 (okL_of hl), ?_, by simp only; omega, by simp only; omega, (by show (⟨#[]⟩ : ByteArray).size <= 100; decide), hd⟩
 rw [MExpr.bulk_eq]
 have e0 : (⟨#[]⟩ : ByteArray).size = 0 := rfl
 have := bulk_few hl h3
 have : DB (dd + 1) = 3 * DB dd + 100 := rfl
 simp only
 omega
def ownL (v : Value) : List Nat := match v.ownBlock with
 | some k => [k]
 | none => []
theorem ownL_mem {v : Value} {k : Nat} (h : v.ownBlock = some k) : k ∈ ownL v := by unfold ownL; rw [h]; simp
theorem ownL_of {v : Value} {k : Nat} (h : k ∈ ownL v) : v.ownBlock = some k := by
 unfold ownL at h
 split at h
 · rename_i j hj
   simp at h
   rw [h]; exact hj
 · cases h
theorem rep_two (w : World) (s t : ByteArray) (e : TypeId) : Rep (w.alloc (.cells #[.string s, .string t] e)) (strs [s, t]) [.slice (some ⟨w.heap.size, 0, none⟩) 2 2] := by
 refine ⟨[w.heap.size], RepF.sl_iff.2 ⟨_, 2, by simp, by simp, by unfold maxLen; omega, by simp, Or.inr ⟨w.heap.size, 0, [.string s, .string t], [], by simp, rfl, rfl, (own_new w _ _).lt, fun j c hj => ?_, ?_⟩⟩⟩
 · rw [Nat.zero_add, (own_new w _ e).cell]
   simpa using hj
 · exact (RepR.one (d := .str s) (sz := 1) (cs := [.string s]) (fp := []) (by simp [RepF]) rfl).append (RepR.one (d := .str t) (sz := 1) (cs := [.string t]) (fp := []) (by simp [RepF]) rfl)
theorem draw_zero (B : Nat) (v : Value) (w : World) (hC : Cur w B v) (hc : Bytes w v) (hB : Off v B) :
 Calls Tryz.prog 28 #[.pointer (some ⟨B, 0, none⟩), .int .i64 0] w fun e w' => (∃ x vs, e = .returned (.agg (List.toArray vs)) /\ DrX w.heap.size (DB 0) w' x vs) /\ Touch w w' [B] /\ Cur w' B v := by
 have hBl := hC.lt
 have hr : w.heap.size ≠ B := by omega
 go_enter Tryz.func28, Tryz.ntmps28
 go_upto_region 1 with fail
 generalize hS : World.alloc w _ = W1
 have D1 : DS w B v W1 := DS.start hC _ hS
 clear hS
 go_wp2_with fail
 refine (l1Below_cur B v 12 _ D1.c (hc.touch D1.t hB) hB (by omega) (by omega)).mono ?_
 rintro e w2 ⟨⟨m, rfl, hm⟩, hT, hC2⟩
 have D2 := D1.call hr hT hC2
 clear D1 hT hC2 hC
 have hDB := DB_le 0
 rcases (show m = 0 ∨ m = 1 ∨ m = 2 ∨ m = 3 ∨ m = 4 ∨ m = 5 ∨ m = 6 ∨ m = 7 ∨ m = 8 ∨ m = 9 ∨ m = 10 ∨ m = 11 by omega) with rfl | rfl | rfl | rfl | rfl | rfl | rfl | rfl | rfl | rfl | rfl | rfl
 · have x3 : Ext w2 (w2.alloc (.cells (drI.map (Value.int .i64)).toArray 3)) := (XR w2).alloc _
   have D3 := D2.ext x3
   have hlt := D2.c.lt
   clear x3
   go_wp2_with fail
   refine (l1PickInt_cur B v drI w2.heap.size 6 _ D3.c (hc.touch D3.t hB) hB (by decide) (by decide) (by omega) (lit_ints w2 drI _)).mono ?_
   rintro e w4 ⟨⟨z, rfl, hz⟩, hT, hC2⟩
   have D4 := D3.call hr hT hC2
   have hbd := drI_bd z hz
   clear hz hT hC2 D3
   have z1 := D4.sz
   have DX := LH (mk_drx (B0 := w.heap.size + 1) (lim := DB 0) (k := 1) (t := ⟨#[]⟩) (n := z) (l := []) rfl (AccX.nil _ w4) (by omega) (by decide) hbd trivial (by show 0 + (0 + 0) <= _; omega))
   have R0 := D4.o.cell 0
   have R1 := D4.o.cell 1
   have R2 := D4.o.cell 2
   have R3 := D4.o.cell 3
   have R4 := D4.o.cell 4
   simp at R0 R1 R2 R3 R4
   have F0 := D4.o.f0
   have F1 := D4.o.f1
   have F2 := D4.o.f2
   have F3 := D4.o.f3
   have F4 := D4.o.f4
   go_wp2_with fail
   generalize hS : World.setCell (World.setCell (World.setCell (World.setCell (World.setCell w4 _ _) _ _) _ _) _ _) _ _ = W8
   obtain ⟨O8, T8⟩ := own5 D4.o (.int .i64 1) (.string ⟨#[]⟩) (.int .i64 z) (.slice none 0 0) (.slice none 0 0)
   rw [hS] at O8 T8
   clear hS R0 R1 R2 R3 R4 F0 F1 F2 F3 F4
   have p0 := O8.cell 0
   have p1 := O8.cell 1
   have p2 := O8.cell 2
   have p3 := O8.cell 3
   have p4 := O8.cell 4
   simp at p0 p1 p2 p3 p4
   have pz := O8.lt
   exact bodyPost_ret (v := .agg #[.int .i64 1, .string ⟨#[]⟩, .int .i64 z, .slice none 0 0, .slice none 0 0]) (by simp [results, Tryz.results28, go_sem, p0, p1, p2, p3, p4, pz]) rfl ⟨⟨_, _, rfl, (DX.out.touch T8 (fun k hk => by simp at hk; omega)).base (by omega)⟩, D4.t.trans' T8 (fun k hk => Or.inr (by simp at hk; omega)), D4.c.touch' T8 (by simpa using Ne.symm hr)⟩
 · go_wp2_with fail
   refine (pick_c B v drT _ w w2 D2 hc hB hr (by decide) (by decide)).mono ?_
   rintro e w3 ⟨⟨s, rfl, hs⟩, D3, hT⟩
   have zs := drT_sz s hs
   clear hs
   clear hT
   have z1 := D3.sz
   have DX := LH (mk_drx (B0 := w.heap.size + 1) (lim := DB 0) (k := 2) (t := s) (n := 0) (l := []) rfl (AccX.nil _ w3) (by omega) (by omega) (by omega) trivial (by show s.size + (0 + 0) <= _; omega))
   have R0 := D3.o.cell 0
   have R1 := D3.o.cell 1
   have R2 := D3.o.cell 2
   have R3 := D3.o.cell 3
   have R4 := D3.o.cell 4
   simp at R0 R1 R2 R3 R4
   have F0 := D3.o.f0
   have F1 := D3.o.f1
   have F2 := D3.o.f2
   have F3 := D3.o.f3
   have F4 := D3.o.f4
   go_wp2_with fail
   generalize hS : World.setCell (World.setCell (World.setCell (World.setCell (World.setCell w3 _ _) _ _) _ _) _ _) _ _ = W8
   obtain ⟨O8, T8⟩ := own5 D3.o (.int .i64 2) (.string s) (.int .i64 0) (.slice none 0 0) (.slice none 0 0)
   rw [hS] at O8 T8
   clear hS R0 R1 R2 R3 R4 F0 F1 F2 F3 F4
   have p0 := O8.cell 0
   have p1 := O8.cell 1
   have p2 := O8.cell 2
   have p3 := O8.cell 3
   have p4 := O8.cell 4
   simp at p0 p1 p2 p3 p4
   have pz := O8.lt
   exact bodyPost_ret (v := .agg #[.int .i64 2, .string s, .int .i64 0, .slice none 0 0, .slice none 0 0]) (by simp [results, Tryz.results28, go_sem, p0, p1, p2, p3, p4, pz]) rfl ⟨⟨_, _, rfl, (DX.out.touch T8 (fun k hk => by simp at hk; omega)).base (by omega)⟩, D3.t.trans' T8 (fun k hk => Or.inr (by simp at hk; omega)), D3.c.touch' T8 (by simpa using Ne.symm hr)⟩
 · go_wp2_with fail
   refine (pick_c B v drS _ w w2 D2 hc hB hr (by decide) (by decide)).mono ?_
   rintro e w3 ⟨⟨s, rfl, hs⟩, D3, hT⟩
   have zs := drS_sz s hs
   clear hs
   clear hT
   have z1 := D3.sz
   have DX := LH (mk_drx (B0 := w.heap.size + 1) (lim := DB 0) (k := 3) (t := s) (n := 0) (l := []) rfl (AccX.nil _ w3) (by omega) (by omega) (by omega) trivial (by show s.size + (0 + 0) <= _; omega))
   have R0 := D3.o.cell 0
   have R1 := D3.o.cell 1
   have R2 := D3.o.cell 2
   have R3 := D3.o.cell 3
   have R4 := D3.o.cell 4
   simp at R0 R1 R2 R3 R4
   have F0 := D3.o.f0
   have F1 := D3.o.f1
   have F2 := D3.o.f2
   have F3 := D3.o.f3
   have F4 := D3.o.f4
   go_wp2_with fail
   generalize hS : World.setCell (World.setCell (World.setCell (World.setCell (World.setCell w3 _ _) _ _) _ _) _ _) _ _ = W8
   obtain ⟨O8, T8⟩ := own5 D3.o (.int .i64 3) (.string s) (.int .i64 0) (.slice none 0 0) (.slice none 0 0)
   rw [hS] at O8 T8
   clear hS R0 R1 R2 R3 R4 F0 F1 F2 F3 F4
   have p0 := O8.cell 0
   have p1 := O8.cell 1
   have p2 := O8.cell 2
   have p3 := O8.cell 3
   have p4 := O8.cell 4
   simp at p0 p1 p2 p3 p4
   have pz := O8.lt
   exact bodyPost_ret (v := .agg #[.int .i64 3, .string s, .int .i64 0, .slice none 0 0, .slice none 0 0]) (by simp [results, Tryz.results28, go_sem, p0, p1, p2, p3, p4, pz]) rfl ⟨⟨_, _, rfl, (DX.out.touch T8 (fun k hk => by simp at hk; omega)).base (by omega)⟩, D3.t.trans' T8 (fun k hk => Or.inr (by simp at hk; omega)), D3.c.touch' T8 (by simpa using Ne.symm hr)⟩
 · go_wp2_with fail
   refine (pick_c B v drN _ w w2 D2 hc hB hr (by decide) (by decide)).mono ?_
   rintro e w3 ⟨⟨s, rfl, hs⟩, D3, hT⟩
   have zs := drN_sz s hs
   clear hs
   clear hT
   have z1 := D3.sz
   have DX := LH (mk_drx (B0 := w.heap.size + 1) (lim := DB 0) (k := 4) (t := s) (n := 0) (l := []) rfl (AccX.nil _ w3) (by omega) (by omega) (by omega) trivial (by show s.size + (0 + 0) <= _; omega))
   have R0 := D3.o.cell 0
   have R1 := D3.o.cell 1
   have R2 := D3.o.cell 2
   have R3 := D3.o.cell 3
   have R4 := D3.o.cell 4
   simp at R0 R1 R2 R3 R4
   have F0 := D3.o.f0
   have F1 := D3.o.f1
   have F2 := D3.o.f2
   have F3 := D3.o.f3
   have F4 := D3.o.f4
   go_wp2_with fail
   generalize hS : World.setCell (World.setCell (World.setCell (World.setCell (World.setCell w3 _ _) _ _) _ _) _ _) _ _ = W8
   obtain ⟨O8, T8⟩ := own5 D3.o (.int .i64 4) (.string s) (.int .i64 0) (.slice none 0 0) (.slice none 0 0)
   rw [hS] at O8 T8
   clear hS R0 R1 R2 R3 R4 F0 F1 F2 F3 F4
   have p0 := O8.cell 0
   have p1 := O8.cell 1
   have p2 := O8.cell 2
   have p3 := O8.cell 3
   have p4 := O8.cell 4
   simp at p0 p1 p2 p3 p4
   have pz := O8.lt
   exact bodyPost_ret (v := .agg #[.int .i64 4, .string s, .int .i64 0, .slice none 0 0, .slice none 0 0]) (by simp [results, Tryz.results28, go_sem, p0, p1, p2, p3, p4, pz]) rfl ⟨⟨_, _, rfl, (DX.out.touch T8 (fun k hk => by simp at hk; omega)).base (by omega)⟩, D3.t.trans' T8 (fun k hk => Or.inr (by simp at hk; omega)), D3.c.touch' T8 (by simpa using Ne.symm hr)⟩
 · go_wp2_with fail
   refine (pick_c B v drN _ w w2 D2 hc hB hr (by decide) (by decide)).mono ?_
   rintro e w3 ⟨⟨s, rfl, hs⟩, D3, hT⟩
   have zs := drN_sz s hs
   clear hs
   clear hT
   have z1 := D3.sz
   have DX := LH (mk_drx (B0 := w.heap.size + 1) (lim := DB 0) (k := 4) (t := s) (n := 0) (l := []) rfl (AccX.nil _ w3) (by omega) (by omega) (by omega) trivial (by show s.size + (0 + 0) <= _; omega))
   have R0 := D3.o.cell 0
   have R1 := D3.o.cell 1
   have R2 := D3.o.cell 2
   have R3 := D3.o.cell 3
   have R4 := D3.o.cell 4
   simp at R0 R1 R2 R3 R4
   have F0 := D3.o.f0
   have F1 := D3.o.f1
   have F2 := D3.o.f2
   have F3 := D3.o.f3
   have F4 := D3.o.f4
   go_wp2_with fail
   generalize hS : World.setCell (World.setCell (World.setCell (World.setCell (World.setCell w3 _ _) _ _) _ _) _ _) _ _ = W8
   obtain ⟨O8, T8⟩ := own5 D3.o (.int .i64 4) (.string s) (.int .i64 0) (.slice none 0 0) (.slice none 0 0)
   rw [hS] at O8 T8
   clear hS R0 R1 R2 R3 R4 F0 F1 F2 F3 F4
   have p0 := O8.cell 0
   have p1 := O8.cell 1
   have p2 := O8.cell 2
   have p3 := O8.cell 3
   have p4 := O8.cell 4
   simp at p0 p1 p2 p3 p4
   have pz := O8.lt
   exact bodyPost_ret (v := .agg #[.int .i64 4, .string s, .int .i64 0, .slice none 0 0, .slice none 0 0]) (by simp [results, Tryz.results28, go_sem, p0, p1, p2, p3, p4, pz]) rfl ⟨⟨_, _, rfl, (DX.out.touch T8 (fun k hk => by simp at hk; omega)).base (by omega)⟩, D3.t.trans' T8 (fun k hk => Or.inr (by simp at hk; omega)), D3.c.touch' T8 (by simpa using Ne.symm hr)⟩
 · have x3 : Ext w2 (w2.alloc (.cells (drI.map (Value.int .i64)).toArray 3)) := (XR w2).alloc _
   have D3 := D2.ext x3
   have hlt := D2.c.lt
   clear x3
   go_wp2_with fail
   refine (l1PickInt_cur B v drI w2.heap.size 6 _ D3.c (hc.touch D3.t hB) hB (by decide) (by decide) (by omega) (lit_ints w2 drI _)).mono ?_
   rintro e w4 ⟨⟨z, rfl, hz⟩, hT, hC2⟩
   have D4 := D3.call hr hT hC2
   have hbd := drI_bd z hz
   clear hz hT hC2 D3
   have z1 := D4.sz
   have DX := LH (mk_drx (B0 := w.heap.size + 1) (lim := DB 0) (k := 1) (t := ⟨#[]⟩) (n := z) (l := []) rfl (AccX.nil _ w4) (by omega) (by decide) hbd trivial (by show 0 + (0 + 0) <= _; omega))
   have R0 := D4.o.cell 0
   have R1 := D4.o.cell 1
   have R2 := D4.o.cell 2
   have R3 := D4.o.cell 3
   have R4 := D4.o.cell 4
   simp at R0 R1 R2 R3 R4
   have F0 := D4.o.f0
   have F1 := D4.o.f1
   have F2 := D4.o.f2
   have F3 := D4.o.f3
   have F4 := D4.o.f4
   go_wp2_with fail
   generalize hS : World.setCell (World.setCell (World.setCell (World.setCell (World.setCell w4 _ _) _ _) _ _) _ _) _ _ = W8
   obtain ⟨O8, T8⟩ := own5 D4.o (.int .i64 1) (.string ⟨#[]⟩) (.int .i64 z) (.slice none 0 0) (.slice none 0 0)
   rw [hS] at O8 T8
   clear hS R0 R1 R2 R3 R4 F0 F1 F2 F3 F4
   have p0 := O8.cell 0
   have p1 := O8.cell 1
   have p2 := O8.cell 2
   have p3 := O8.cell 3
   have p4 := O8.cell 4
   simp at p0 p1 p2 p3 p4
   have pz := O8.lt
   exact bodyPost_ret (v := .agg #[.int .i64 1, .string ⟨#[]⟩, .int .i64 z, .slice none 0 0, .slice none 0 0]) (by simp [results, Tryz.results28, go_sem, p0, p1, p2, p3, p4, pz]) rfl ⟨⟨_, _, rfl, (DX.out.touch T8 (fun k hk => by simp at hk; omega)).base (by omega)⟩, D4.t.trans' T8 (fun k hk => Or.inr (by simp at hk; omega)), D4.c.touch' T8 (by simpa using Ne.symm hr)⟩
 · go_wp2_with fail
   refine (pick_c B v drT _ w w2 D2 hc hB hr (by decide) (by decide)).mono ?_
   rintro e w3 ⟨⟨s, rfl, hs⟩, D3, hT⟩
   have zs := drT_sz s hs
   clear hs
   clear hT
   have z1 := D3.sz
   have DX := LH (mk_drx (B0 := w.heap.size + 1) (lim := DB 0) (k := 2) (t := s) (n := 0) (l := []) rfl (AccX.nil _ w3) (by omega) (by omega) (by omega) trivial (by show s.size + (0 + 0) <= _; omega))
   have R0 := D3.o.cell 0
   have R1 := D3.o.cell 1
   have R2 := D3.o.cell 2
   have R3 := D3.o.cell 3
   have R4 := D3.o.cell 4
   simp at R0 R1 R2 R3 R4
   have F0 := D3.o.f0
   have F1 := D3.o.f1
   have F2 := D3.o.f2
   have F3 := D3.o.f3
   have F4 := D3.o.f4
   go_wp2_with fail
   generalize hS : World.setCell (World.setCell (World.setCell (World.setCell (World.setCell w3 _ _) _ _) _ _) _ _) _ _ = W8
   obtain ⟨O8, T8⟩ := own5 D3.o (.int .i64 2) (.string s) (.int .i64 0) (.slice none 0 0) (.slice none 0 0)
   rw [hS] at O8 T8
   clear hS R0 R1 R2 R3 R4 F0 F1 F2 F3 F4
   have p0 := O8.cell 0
   have p1 := O8.cell 1
   have p2 := O8.cell 2
   have p3 := O8.cell 3
   have p4 := O8.cell 4
   simp at p0 p1 p2 p3 p4
   have pz := O8.lt
   exact bodyPost_ret (v := .agg #[.int .i64 2, .string s, .int .i64 0, .slice none 0 0, .slice none 0 0]) (by simp [results, Tryz.results28, go_sem, p0, p1, p2, p3, p4, pz]) rfl ⟨⟨_, _, rfl, (DX.out.touch T8 (fun k hk => by simp at hk; omega)).base (by omega)⟩, D3.t.trans' T8 (fun k hk => Or.inr (by simp at hk; omega)), D3.c.touch' T8 (by simpa using Ne.symm hr)⟩
 · go_wp2_with fail
   refine (pick_c B v drS _ w w2 D2 hc hB hr (by decide) (by decide)).mono ?_
   rintro e w3 ⟨⟨s, rfl, hs⟩, D3, hT⟩
   have zs := drS_sz s hs
   clear hs
   clear hT
   have z1 := D3.sz
   have DX := LH (mk_drx (B0 := w.heap.size + 1) (lim := DB 0) (k := 3) (t := s) (n := 0) (l := []) rfl (AccX.nil _ w3) (by omega) (by omega) (by omega) trivial (by show s.size + (0 + 0) <= _; omega))
   have R0 := D3.o.cell 0
   have R1 := D3.o.cell 1
   have R2 := D3.o.cell 2
   have R3 := D3.o.cell 3
   have R4 := D3.o.cell 4
   simp at R0 R1 R2 R3 R4
   have F0 := D3.o.f0
   have F1 := D3.o.f1
   have F2 := D3.o.f2
   have F3 := D3.o.f3
   have F4 := D3.o.f4
   go_wp2_with fail
   generalize hS : World.setCell (World.setCell (World.setCell (World.setCell (World.setCell w3 _ _) _ _) _ _) _ _) _ _ = W8
   obtain ⟨O8, T8⟩ := own5 D3.o (.int .i64 3) (.string s) (.int .i64 0) (.slice none 0 0) (.slice none 0 0)
   rw [hS] at O8 T8
   clear hS R0 R1 R2 R3 R4 F0 F1 F2 F3 F4
   have p0 := O8.cell 0
   have p1 := O8.cell 1
   have p2 := O8.cell 2
   have p3 := O8.cell 3
   have p4 := O8.cell 4
   simp at p0 p1 p2 p3 p4
   have pz := O8.lt
   exact bodyPost_ret (v := .agg #[.int .i64 3, .string s, .int .i64 0, .slice none 0 0, .slice none 0 0]) (by simp [results, Tryz.results28, go_sem, p0, p1, p2, p3, p4, pz]) rfl ⟨⟨_, _, rfl, (DX.out.touch T8 (fun k hk => by simp at hk; omega)).base (by omega)⟩, D3.t.trans' T8 (fun k hk => Or.inr (by simp at hk; omega)), D3.c.touch' T8 (by simpa using Ne.symm hr)⟩
 · go_wp2_with fail
   refine (pick_c B v drN _ w w2 D2 hc hB hr (by decide) (by decide)).mono ?_
   rintro e w3 ⟨⟨s, rfl, hs⟩, D3, hT⟩
   have zs := drN_sz s hs
   clear hs
   clear hT
   have z1 := D3.sz
   have DX := LH (mk_drx (B0 := w.heap.size + 1) (lim := DB 0) (k := 4) (t := s) (n := 0) (l := []) rfl (AccX.nil _ w3) (by omega) (by omega) (by omega) trivial (by show s.size + (0 + 0) <= _; omega))
   have R0 := D3.o.cell 0
   have R1 := D3.o.cell 1
   have R2 := D3.o.cell 2
   have R3 := D3.o.cell 3
   have R4 := D3.o.cell 4
   simp at R0 R1 R2 R3 R4
   have F0 := D3.o.f0
   have F1 := D3.o.f1
   have F2 := D3.o.f2
   have F3 := D3.o.f3
   have F4 := D3.o.f4
   go_wp2_with fail
   generalize hS : World.setCell (World.setCell (World.setCell (World.setCell (World.setCell w3 _ _) _ _) _ _) _ _) _ _ = W8
   obtain ⟨O8, T8⟩ := own5 D3.o (.int .i64 4) (.string s) (.int .i64 0) (.slice none 0 0) (.slice none 0 0)
   rw [hS] at O8 T8
   clear hS R0 R1 R2 R3 R4 F0 F1 F2 F3 F4
   have p0 := O8.cell 0
   have p1 := O8.cell 1
   have p2 := O8.cell 2
   have p3 := O8.cell 3
   have p4 := O8.cell 4
   simp at p0 p1 p2 p3 p4
   have pz := O8.lt
   exact bodyPost_ret (v := .agg #[.int .i64 4, .string s, .int .i64 0, .slice none 0 0, .slice none 0 0]) (by simp [results, Tryz.results28, go_sem, p0, p1, p2, p3, p4, pz]) rfl ⟨⟨_, _, rfl, (DX.out.touch T8 (fun k hk => by simp at hk; omega)).base (by omega)⟩, D3.t.trans' T8 (fun k hk => Or.inr (by simp at hk; omega)), D3.c.touch' T8 (by simpa using Ne.symm hr)⟩
 · go_wp2_with fail
   refine (pick_c B v drN _ w w2 D2 hc hB hr (by decide) (by decide)).mono ?_
   rintro e w3 ⟨⟨s, rfl, hs⟩, D3, hT⟩
   have zs := drN_sz s hs
   clear hs
   clear hT
   have z1 := D3.sz
   have DX := LH (mk_drx (B0 := w.heap.size + 1) (lim := DB 0) (k := 4) (t := s) (n := 0) (l := []) rfl (AccX.nil _ w3) (by omega) (by omega) (by omega) trivial (by show s.size + (0 + 0) <= _; omega))
   have R0 := D3.o.cell 0
   have R1 := D3.o.cell 1
   have R2 := D3.o.cell 2
   have R3 := D3.o.cell 3
   have R4 := D3.o.cell 4
   simp at R0 R1 R2 R3 R4
   have F0 := D3.o.f0
   have F1 := D3.o.f1
   have F2 := D3.o.f2
   have F3 := D3.o.f3
   have F4 := D3.o.f4
   go_wp2_with fail
   generalize hS : World.setCell (World.setCell (World.setCell (World.setCell (World.setCell w3 _ _) _ _) _ _) _ _) _ _ = W8
   obtain ⟨O8, T8⟩ := own5 D3.o (.int .i64 4) (.string s) (.int .i64 0) (.slice none 0 0) (.slice none 0 0)
   rw [hS] at O8 T8
   clear hS R0 R1 R2 R3 R4 F0 F1 F2 F3 F4
   have p0 := O8.cell 0
   have p1 := O8.cell 1
   have p2 := O8.cell 2
   have p3 := O8.cell 3
   have p4 := O8.cell 4
   simp at p0 p1 p2 p3 p4
   have pz := O8.lt
   exact bodyPost_ret (v := .agg #[.int .i64 4, .string s, .int .i64 0, .slice none 0 0, .slice none 0 0]) (by simp [results, Tryz.results28, go_sem, p0, p1, p2, p3, p4, pz]) rfl ⟨⟨_, _, rfl, (DX.out.touch T8 (fun k hk => by simp at hk; omega)).base (by omega)⟩, D3.t.trans' T8 (fun k hk => Or.inr (by simp at hk; omega)), D3.c.touch' T8 (by simpa using Ne.symm hr)⟩
 · have x3 : Ext w2 (w2.alloc (.cells (drI.map (Value.int .i64)).toArray 3)) := (XR w2).alloc _
   have D3 := D2.ext x3
   have hlt := D2.c.lt
   clear x3
   go_wp2_with fail
   refine (l1PickInt_cur B v drI w2.heap.size 6 _ D3.c (hc.touch D3.t hB) hB (by decide) (by decide) (by omega) (lit_ints w2 drI _)).mono ?_
   rintro e w4 ⟨⟨z, rfl, hz⟩, hT, hC2⟩
   have D4 := D3.call hr hT hC2
   have hbd := drI_bd z hz
   clear hz hT hC2 D3
   have z1 := D4.sz
   have DX := LH (mk_drx (B0 := w.heap.size + 1) (lim := DB 0) (k := 1) (t := ⟨#[]⟩) (n := z) (l := []) rfl (AccX.nil _ w4) (by omega) (by decide) hbd trivial (by show 0 + (0 + 0) <= _; omega))
   have R0 := D4.o.cell 0
   have R1 := D4.o.cell 1
   have R2 := D4.o.cell 2
   have R3 := D4.o.cell 3
   have R4 := D4.o.cell 4
   simp at R0 R1 R2 R3 R4
   have F0 := D4.o.f0
   have F1 := D4.o.f1
   have F2 := D4.o.f2
   have F3 := D4.o.f3
   have F4 := D4.o.f4
   go_wp2_with fail
   generalize hS : World.setCell (World.setCell (World.setCell (World.setCell (World.setCell w4 _ _) _ _) _ _) _ _) _ _ = W8
   obtain ⟨O8, T8⟩ := own5 D4.o (.int .i64 1) (.string ⟨#[]⟩) (.int .i64 z) (.slice none 0 0) (.slice none 0 0)
   rw [hS] at O8 T8
   clear hS R0 R1 R2 R3 R4 F0 F1 F2 F3 F4
   have p0 := O8.cell 0
   have p1 := O8.cell 1
   have p2 := O8.cell 2
   have p3 := O8.cell 3
   have p4 := O8.cell 4
   simp at p0 p1 p2 p3 p4
   have pz := O8.lt
   exact bodyPost_ret (v := .agg #[.int .i64 1, .string ⟨#[]⟩, .int .i64 z, .slice none 0 0, .slice none 0 0]) (by simp [results, Tryz.results28, go_sem, p0, p1, p2, p3, p4, pz]) rfl ⟨⟨_, _, rfl, (DX.out.touch T8 (fun k hk => by simp at hk; omega)).base (by omega)⟩, D4.t.trans' T8 (fun k hk => Or.inr (by simp at hk; omega)), D4.c.touch' T8 (by simpa using Ne.symm hr)⟩
 · go_wp2_with fail
   refine (pick_c B v drT _ w w2 D2 hc hB hr (by decide) (by decide)).mono ?_
   rintro e w3 ⟨⟨s, rfl, hs⟩, D3, hT⟩
   have zs := drT_sz s hs
   clear hs
   clear hT
   have z1 := D3.sz
   have DX := LH (mk_drx (B0 := w.heap.size + 1) (lim := DB 0) (k := 2) (t := s) (n := 0) (l := []) rfl (AccX.nil _ w3) (by omega) (by omega) (by omega) trivial (by show s.size + (0 + 0) <= _; omega))
   have R0 := D3.o.cell 0
   have R1 := D3.o.cell 1
   have R2 := D3.o.cell 2
   have R3 := D3.o.cell 3
   have R4 := D3.o.cell 4
   simp at R0 R1 R2 R3 R4
   have F0 := D3.o.f0
   have F1 := D3.o.f1
   have F2 := D3.o.f2
   have F3 := D3.o.f3
   have F4 := D3.o.f4
   go_wp2_with fail
   generalize hS : World.setCell (World.setCell (World.setCell (World.setCell (World.setCell w3 _ _) _ _) _ _) _ _) _ _ = W8
   obtain ⟨O8, T8⟩ := own5 D3.o (.int .i64 2) (.string s) (.int .i64 0) (.slice none 0 0) (.slice none 0 0)
   rw [hS] at O8 T8
   clear hS R0 R1 R2 R3 R4 F0 F1 F2 F3 F4
   have p0 := O8.cell 0
   have p1 := O8.cell 1
   have p2 := O8.cell 2
   have p3 := O8.cell 3
   have p4 := O8.cell 4
   simp at p0 p1 p2 p3 p4
   have pz := O8.lt
   exact bodyPost_ret (v := .agg #[.int .i64 2, .string s, .int .i64 0, .slice none 0 0, .slice none 0 0]) (by simp [results, Tryz.results28, go_sem, p0, p1, p2, p3, p4, pz]) rfl ⟨⟨_, _, rfl, (DX.out.touch T8 (fun k hk => by simp at hk; omega)).base (by omega)⟩, D3.t.trans' T8 (fun k hk => Or.inr (by simp at hk; omega)), D3.c.touch' T8 (by simpa using Ne.symm hr)⟩
theorem draw_step (dd : Nat) (hdd : dd <= 10) (B : Nat) (v : Value) (w : World) (hC : Cur w B v) (hc : Bytes w v) (hB : Off v B) (IH : Hid (DrawAt dd B v)) :
 Calls Tryz.prog 28 #[.pointer (some ⟨B, 0, none⟩), .int .i64 ((dd : Int) + 1)] w fun e w' => (∃ x vs, e = .returned (.agg (List.toArray vs)) /\ DrX w.heap.size (DB (dd + 1)) w' x vs) /\ Touch w w' [B] /\ Cur w' B v := by
 have hdi : (dd : Int) <= 10 := by omega
 have hd0 : ¬ ((dd : Int) + 1 <= 0) := by omega
 have hd1 : (0 : Int) < (dd : Int) + 1 := by omega
 have hBl := hC.lt
 have hr : w.heap.size ≠ B := by omega
 go_enter Tryz.func28, Tryz.ntmps28
 go_upto_region 1 with fail
 generalize hS : World.alloc w _ = W1
 have D1 : DS w B v W1 := DS.start hC _ hS
 clear hS
 go_wp2_with fail
 refine (l1Below_cur B v 12 _ D1.c (hc.touch D1.t hB) hB (by omega) (by omega)).mono ?_
 rintro e w2 ⟨⟨m, rfl, hm⟩, hT, hC2⟩
 have D2 := D1.call hr hT hC2
 clear D1 hT hC2 hC
 have hDB := DB_le (dd + 1)
 have hDC : DB (dd + 1) = 3 * DB dd + 100 := rfl
 have hDD := DB_le dd
 rcases (show m = 0 ∨ m = 1 ∨ m = 2 ∨ m = 3 ∨ m = 4 ∨ m = 5 ∨ m = 6 ∨ m = 7 ∨ m = 8 ∨ m = 9 ∨ m = 10 ∨ m = 11 by omega) with rfl | rfl | rfl | rfl | rfl | rfl | rfl | rfl | rfl | rfl | rfl | rfl
 · have x3 : Ext w2 (w2.alloc (.cells (drI.map (Value.int .i64)).toArray 3)) := (XR w2).alloc _
   have D3 := D2.ext x3
   have hlt := D2.c.lt
   clear x3
   go_wp2_with fail
   refine (l1PickInt_cur B v drI w2.heap.size 6 _ D3.c (hc.touch D3.t hB) hB (by decide) (by decide) (by omega) (lit_ints w2 drI _)).mono ?_
   rintro e w4 ⟨⟨z, rfl, hz⟩, hT, hC2⟩
   have D4 := D3.call hr hT hC2
   have hbd := drI_bd z hz
   clear hz hT hC2 D3
   have z1 := D4.sz
   have DX := LH (mk_drx (B0 := w.heap.size + 1) (lim := DB (dd + 1)) (k := 1) (t := ⟨#[]⟩) (n := z) (l := []) rfl (AccX.nil _ w4) (by omega) (by decide) hbd trivial (by show 0 + (0 + 0) <= _; omega))
   have R0 := D4.o.cell 0
   have R1 := D4.o.cell 1
   have R2 := D4.o.cell 2
   have R3 := D4.o.cell 3
   have R4 := D4.o.cell 4
   simp at R0 R1 R2 R3 R4
   have F0 := D4.o.f0
   have F1 := D4.o.f1
   have F2 := D4.o.f2
   have F3 := D4.o.f3
   have F4 := D4.o.f4
   go_wp2_with fail
   generalize hS : World.setCell (World.setCell (World.setCell (World.setCell (World.setCell w4 _ _) _ _) _ _) _ _) _ _ = W8
   obtain ⟨O8, T8⟩ := own5 D4.o (.int .i64 1) (.string ⟨#[]⟩) (.int .i64 z) (.slice none 0 0) (.slice none 0 0)
   rw [hS] at O8 T8
   clear hS R0 R1 R2 R3 R4 F0 F1 F2 F3 F4
   have p0 := O8.cell 0
   have p1 := O8.cell 1
   have p2 := O8.cell 2
   have p3 := O8.cell 3
   have p4 := O8.cell 4
   simp at p0 p1 p2 p3 p4
   have pz := O8.lt
   exact bodyPost_ret (v := .agg #[.int .i64 1, .string ⟨#[]⟩, .int .i64 z, .slice none 0 0, .slice none 0 0]) (by simp [results, Tryz.results28, go_sem, p0, p1, p2, p3, p4, pz]) rfl ⟨⟨_, _, rfl, (DX.out.touch T8 (fun k hk => by simp at hk; omega)).base (by omega)⟩, D4.t.trans' T8 (fun k hk => Or.inr (by simp at hk; omega)), D4.c.touch' T8 (by simpa using Ne.symm hr)⟩
 · go_wp2_with fail
   refine (pick_c B v drT _ w w2 D2 hc hB hr (by decide) (by decide)).mono ?_
   rintro e w3 ⟨⟨s, rfl, hs⟩, D3, hT⟩
   have zs := drT_sz s hs
   clear hs
   clear hT
   have z1 := D3.sz
   have DX := LH (mk_drx (B0 := w.heap.size + 1) (lim := DB (dd + 1)) (k := 2) (t := s) (n := 0) (l := []) rfl (AccX.nil _ w3) (by omega) (by omega) (by omega) trivial (by show s.size + (0 + 0) <= _; omega))
   have R0 := D3.o.cell 0
   have R1 := D3.o.cell 1
   have R2 := D3.o.cell 2
   have R3 := D3.o.cell 3
   have R4 := D3.o.cell 4
   simp at R0 R1 R2 R3 R4
   have F0 := D3.o.f0
   have F1 := D3.o.f1
   have F2 := D3.o.f2
   have F3 := D3.o.f3
   have F4 := D3.o.f4
   go_wp2_with fail
   generalize hS : World.setCell (World.setCell (World.setCell (World.setCell (World.setCell w3 _ _) _ _) _ _) _ _) _ _ = W8
   obtain ⟨O8, T8⟩ := own5 D3.o (.int .i64 2) (.string s) (.int .i64 0) (.slice none 0 0) (.slice none 0 0)
   rw [hS] at O8 T8
   clear hS R0 R1 R2 R3 R4 F0 F1 F2 F3 F4
   have p0 := O8.cell 0
   have p1 := O8.cell 1
   have p2 := O8.cell 2
   have p3 := O8.cell 3
   have p4 := O8.cell 4
   simp at p0 p1 p2 p3 p4
   have pz := O8.lt
   exact bodyPost_ret (v := .agg #[.int .i64 2, .string s, .int .i64 0, .slice none 0 0, .slice none 0 0]) (by simp [results, Tryz.results28, go_sem, p0, p1, p2, p3, p4, pz]) rfl ⟨⟨_, _, rfl, (DX.out.touch T8 (fun k hk => by simp at hk; omega)).base (by omega)⟩, D3.t.trans' T8 (fun k hk => Or.inr (by simp at hk; omega)), D3.c.touch' T8 (by simpa using Ne.symm hr)⟩
 · go_wp2_with fail
   refine (pick_c B v drS _ w w2 D2 hc hB hr (by decide) (by decide)).mono ?_
   rintro e w3 ⟨⟨s, rfl, hs⟩, D3, hT⟩
   have zs := drS_sz s hs
   clear hs
   clear hT
   have z1 := D3.sz
   have DX := LH (mk_drx (B0 := w.heap.size + 1) (lim := DB (dd + 1)) (k := 3) (t := s) (n := 0) (l := []) rfl (AccX.nil _ w3) (by omega) (by omega) (by omega) trivial (by show s.size + (0 + 0) <= _; omega))
   have R0 := D3.o.cell 0
   have R1 := D3.o.cell 1
   have R2 := D3.o.cell 2
   have R3 := D3.o.cell 3
   have R4 := D3.o.cell 4
   simp at R0 R1 R2 R3 R4
   have F0 := D3.o.f0
   have F1 := D3.o.f1
   have F2 := D3.o.f2
   have F3 := D3.o.f3
   have F4 := D3.o.f4
   go_wp2_with fail
   generalize hS : World.setCell (World.setCell (World.setCell (World.setCell (World.setCell w3 _ _) _ _) _ _) _ _) _ _ = W8
   obtain ⟨O8, T8⟩ := own5 D3.o (.int .i64 3) (.string s) (.int .i64 0) (.slice none 0 0) (.slice none 0 0)
   rw [hS] at O8 T8
   clear hS R0 R1 R2 R3 R4 F0 F1 F2 F3 F4
   have p0 := O8.cell 0
   have p1 := O8.cell 1
   have p2 := O8.cell 2
   have p3 := O8.cell 3
   have p4 := O8.cell 4
   simp at p0 p1 p2 p3 p4
   have pz := O8.lt
   exact bodyPost_ret (v := .agg #[.int .i64 3, .string s, .int .i64 0, .slice none 0 0, .slice none 0 0]) (by simp [results, Tryz.results28, go_sem, p0, p1, p2, p3, p4, pz]) rfl ⟨⟨_, _, rfl, (DX.out.touch T8 (fun k hk => by simp at hk; omega)).base (by omega)⟩, D3.t.trans' T8 (fun k hk => Or.inr (by simp at hk; omega)), D3.c.touch' T8 (by simpa using Ne.symm hr)⟩
 · go_wp2_with fail
   refine (pick_c B v drN _ w w2 D2 hc hB hr (by decide) (by decide)).mono ?_
   rintro e w3 ⟨⟨s, rfl, hs⟩, D3, hT⟩
   have zs := drN_sz s hs
   clear hs
   clear hT
   have z1 := D3.sz
   have DX := LH (mk_drx (B0 := w.heap.size + 1) (lim := DB (dd + 1)) (k := 4) (t := s) (n := 0) (l := []) rfl (AccX.nil _ w3) (by omega) (by omega) (by omega) trivial (by show s.size + (0 + 0) <= _; omega))
   have R0 := D3.o.cell 0
   have R1 := D3.o.cell 1
   have R2 := D3.o.cell 2
   have R3 := D3.o.cell 3
   have R4 := D3.o.cell 4
   simp at R0 R1 R2 R3 R4
   have F0 := D3.o.f0
   have F1 := D3.o.f1
   have F2 := D3.o.f2
   have F3 := D3.o.f3
   have F4 := D3.o.f4
   go_wp2_with fail
   generalize hS : World.setCell (World.setCell (World.setCell (World.setCell (World.setCell w3 _ _) _ _) _ _) _ _) _ _ = W8
   obtain ⟨O8, T8⟩ := own5 D3.o (.int .i64 4) (.string s) (.int .i64 0) (.slice none 0 0) (.slice none 0 0)
   rw [hS] at O8 T8
   clear hS R0 R1 R2 R3 R4 F0 F1 F2 F3 F4
   have p0 := O8.cell 0
   have p1 := O8.cell 1
   have p2 := O8.cell 2
   have p3 := O8.cell 3
   have p4 := O8.cell 4
   simp at p0 p1 p2 p3 p4
   have pz := O8.lt
   exact bodyPost_ret (v := .agg #[.int .i64 4, .string s, .int .i64 0, .slice none 0 0, .slice none 0 0]) (by simp [results, Tryz.results28, go_sem, p0, p1, p2, p3, p4, pz]) rfl ⟨⟨_, _, rfl, (DX.out.touch T8 (fun k hk => by simp at hk; omega)).base (by omega)⟩, D3.t.trans' T8 (fun k hk => Or.inr (by simp at hk; omega)), D3.c.touch' T8 (by simpa using Ne.symm hr)⟩
 · go_wp2_with fail
   refine (pick_c B v drN _ w w2 D2 hc hB hr (by decide) (by decide)).mono ?_
   rintro e w3 ⟨⟨s, rfl, hs⟩, D3, hT⟩
   have zs := drN_sz s hs
   clear hs
   clear hT
   have z1 := D3.sz
   have DX := LH (mk_drx (B0 := w.heap.size + 1) (lim := DB (dd + 1)) (k := 4) (t := s) (n := 0) (l := []) rfl (AccX.nil _ w3) (by omega) (by omega) (by omega) trivial (by show s.size + (0 + 0) <= _; omega))
   have R0 := D3.o.cell 0
   have R1 := D3.o.cell 1
   have R2 := D3.o.cell 2
   have R3 := D3.o.cell 3
   have R4 := D3.o.cell 4
   simp at R0 R1 R2 R3 R4
   have F0 := D3.o.f0
   have F1 := D3.o.f1
   have F2 := D3.o.f2
   have F3 := D3.o.f3
   have F4 := D3.o.f4
   go_wp2_with fail
   generalize hS : World.setCell (World.setCell (World.setCell (World.setCell (World.setCell w3 _ _) _ _) _ _) _ _) _ _ = W8
   obtain ⟨O8, T8⟩ := own5 D3.o (.int .i64 4) (.string s) (.int .i64 0) (.slice none 0 0) (.slice none 0 0)
   rw [hS] at O8 T8
   clear hS R0 R1 R2 R3 R4 F0 F1 F2 F3 F4
   have p0 := O8.cell 0
   have p1 := O8.cell 1
   have p2 := O8.cell 2
   have p3 := O8.cell 3
   have p4 := O8.cell 4
   simp at p0 p1 p2 p3 p4
   have pz := O8.lt
   exact bodyPost_ret (v := .agg #[.int .i64 4, .string s, .int .i64 0, .slice none 0 0, .slice none 0 0]) (by simp [results, Tryz.results28, go_sem, p0, p1, p2, p3, p4, pz]) rfl ⟨⟨_, _, rfl, (DX.out.touch T8 (fun k hk => by simp at hk; omega)).base (by omega)⟩, D3.t.trans' T8 (fun k hk => Or.inr (by simp at hk; omega)), D3.c.touch' T8 (by simpa using Ne.symm hr)⟩
 · go_wp2_with fail
   refine (pick_c B v drV _ w w2 D2 hc hB hr (by decide) (by decide)).mono ?_
   rintro e w3 ⟨⟨s, rfl, hs⟩, D3, hT⟩
   have zs := drV_sz s hs
   clear hs
   clear hT
   go_wp2_with fail
   refine (IH.out w3 D3.c (hc.touch D3.t hB)).mono ?_
   rintro e w4 ⟨⟨x, vsx, rfl, Xx⟩, hT, hC2⟩
   have D4 := D3.call hr hT hC2
   replace Xx := Xx.base D3.sz
   obtain ⟨anx, cnx, akx, ckx, rfl⟩ := Xx.shape
   clear hT hC2
   have ox := Xx.ok
   obtain ⟨fx, RX, hfx⟩ := Xx.rep
   have hlx := RX.lt
   have x8 : Ext w4 (w4.alloc (.cells #[.int .i64 x.kind, .string x.text, .int .i64 x.number, .slice anx x.names.length cnx, .slice akx x.kids.length ckx] 27)) := (XR _).alloc _
   have KX : AccX (w.heap.size + 1) (w4.alloc (.cells #[.int .i64 x.kind, .string x.text, .int .i64 x.number, .slice anx x.names.length cnx, .slice akx x.kids.length ckx] 27)) (.slice (some ⟨w4.heap.size, 0, none⟩) 1 1) [x] := AccX.lit1 (RX.ext x8) (own_new w4 _ _) D4.sz (fun k hk => ⟨hfx k hk, by have := hlx k hk; omega⟩)
   have D8 := D4.ext x8
   have z1 := D8.sz
   have DX := LH (mk_drx (B0 := w.heap.size + 1) (lim := DB (dd + 1)) (k := 5) (t := s) (n := 0) (l := [x]) rfl KX (by omega) (by omega) (by omega) ⟨ox.1, trivial⟩ (by rw [show wtL [x] = 0 + (x.d.bulk + 1) by (simp only [wtL, List.length_cons, List.length_nil, List.map_cons, List.map_nil, D.bulkL]; omega)]; omega))
   have R0 := D8.o.cell 0
   have R1 := D8.o.cell 1
   have R2 := D8.o.cell 2
   have R3 := D8.o.cell 3
   have R4 := D8.o.cell 4
   simp at R0 R1 R2 R3 R4
   have F0 := D8.o.f0
   have F1 := D8.o.f1
   have F2 := D8.o.f2
   have F3 := D8.o.f3
   have F4 := D8.o.f4
   go_wp2_with fail
   generalize hS : World.setCell (World.setCell (World.setCell (World.setCell (World.setCell (w4.alloc (.cells #[.int .i64 x.kind, .string x.text, .int .i64 x.number, .slice anx x.names.length cnx, .slice akx x.kids.length ckx] 27)) _ _) _ _) _ _) _ _) _ _ = W8
   obtain ⟨O8, T8⟩ := own5 D8.o (.int .i64 5) (.string s) (.int .i64 0) (.slice none 0 0) (.slice (some ⟨w4.heap.size, 0, none⟩) 1 1)
   rw [hS] at O8 T8
   clear hS R0 R1 R2 R3 R4 F0 F1 F2 F3 F4
   have p0 := O8.cell 0
   have p1 := O8.cell 1
   have p2 := O8.cell 2
   have p3 := O8.cell 3
   have p4 := O8.cell 4
   simp at p0 p1 p2 p3 p4
   have pz := O8.lt
   exact bodyPost_ret (v := .agg #[.int .i64 5, .string s, .int .i64 0, .slice none 0 0, .slice (some ⟨w4.heap.size, 0, none⟩) 1 1]) (by simp [results, Tryz.results28, go_sem, p0, p1, p2, p3, p4, pz]) rfl ⟨⟨_, _, rfl, (DX.out.touch T8 (fun k hk => by simp at hk; omega)).base (by omega)⟩, D8.t.trans' T8 (fun k hk => Or.inr (by simp at hk; omega)), D8.c.touch' T8 (by simpa using Ne.symm hr)⟩
 · go_wp2_with fail
   refine (IH.out w2 D2.c (hc.touch D2.t hB)).mono ?_
   rintro e w3 ⟨⟨x, vsx, rfl, Xx⟩, hT, hC2⟩
   have D3 := D2.call hr hT hC2
   replace Xx := Xx.base D2.sz
   obtain ⟨anx, cnx, akx, ckx, rfl⟩ := Xx.shape
   clear hT hC2
   go_wp2_with fail
   refine (pick_c B v drU _ w w3 D3 hc hB hr (by decide) (by decide)).mono ?_
   rintro e w4 ⟨⟨s, rfl, hs⟩, D4, hT⟩
   have zs := drU_sz s hs
   clear hs
   replace Xx := Xx.touch hT (fun k hk => by simp at hk; omega)
   clear hT
   have ox := Xx.ok
   obtain ⟨fx, Rx, hfx⟩ := Xx.rep
   have x8 : Ext w4 w4 := XR w4
   have D8 := D4.ext x8
   go_wp2_with fail
   refine (l3SendD (B0 := w.heap.size + 1) s (l := []) (Rx.ext x8) (rep_nilX w4) (by simp) hfx (fun k hk => nomatch hk) D8.sz 1 rfl).mono ?_
   rintro e w9 ⟨⟨a9, k9, rfl, KX⟩, hx9⟩
   have D9 := D8.ext hx9
   have z1 := D9.sz
   have DX := LH (mk_drx (B0 := w.heap.size + 1) (lim := DB (dd + 1)) (k := 6) (t := s) (n := 0) (l := [x]) rfl KX (by omega) (by omega) (by omega) ⟨ox.1, trivial⟩ (by rw [show wtL [x] = 0 + (x.d.bulk + 1) by (simp only [wtL, List.length_cons, List.length_nil, List.map_cons, List.map_nil, D.bulkL]; omega)]; omega))
   have R0 := D9.o.cell 0
   have R1 := D9.o.cell 1
   have R2 := D9.o.cell 2
   have R3 := D9.o.cell 3
   have R4 := D9.o.cell 4
   simp at R0 R1 R2 R3 R4
   have F0 := D9.o.f0
   have F1 := D9.o.f1
   have F2 := D9.o.f2
   have F3 := D9.o.f3
   have F4 := D9.o.f4
   go_wp2_with fail
   generalize hS : World.setCell (World.setCell (World.setCell (World.setCell (World.setCell w9 _ _) _ _) _ _) _ _) _ _ = W8
   obtain ⟨O8, T8⟩ := own5 D9.o (.int .i64 6) (.string s) (.int .i64 0) (.slice none 0 0) (.slice a9 1 k9)
   rw [hS] at O8 T8
   clear hS R0 R1 R2 R3 R4 F0 F1 F2 F3 F4
   have p0 := O8.cell 0
   have p1 := O8.cell 1
   have p2 := O8.cell 2
   have p3 := O8.cell 3
   have p4 := O8.cell 4
   simp at p0 p1 p2 p3 p4
   have pz := O8.lt
   exact bodyPost_ret (v := .agg #[.int .i64 6, .string s, .int .i64 0, .slice none 0 0, .slice a9 1 k9]) (by simp [results, Tryz.results28, go_sem, p0, p1, p2, p3, p4, pz]) rfl ⟨⟨_, _, rfl, (DX.out.touch T8 (fun k hk => by simp at hk; omega)).base (by omega)⟩, D9.t.trans' T8 (fun k hk => Or.inr (by simp at hk; omega)), D9.c.touch' T8 (by simpa using Ne.symm hr)⟩
 · go_wp2_with fail
   refine (IH.out w2 D2.c (hc.touch D2.t hB)).mono ?_
   rintro e w3 ⟨⟨x, vsx, rfl, Xx⟩, hT, hC2⟩
   have D3 := D2.call hr hT hC2
   replace Xx := Xx.base D2.sz
   obtain ⟨anx, cnx, akx, ckx, rfl⟩ := Xx.shape
   clear hT hC2
   go_wp2_with fail
   refine (pick_c B v drO _ w w3 D3 hc hB hr (by decide) (by decide)).mono ?_
   rintro e w4 ⟨⟨s, rfl, hs⟩, D4, hT⟩
   have zs := drO_sz s hs
   clear hs
   replace Xx := Xx.touch hT (fun k hk => by simp at hk; omega)
   clear hT
   go_wp2_with fail
   refine (IH.out w4 D4.c (hc.touch D4.t hB)).mono ?_
   rintro e w5 ⟨⟨y, vsy, rfl, Xy⟩, hT, hC2⟩
   have D5 := D4.call hr hT hC2
   replace Xy := Xy.base D4.sz
   obtain ⟨any, cny, aky, cky, rfl⟩ := Xy.shape
   replace Xx := Xx.touch hT (fun k hk => by simp at hk; omega)
   clear hT hC2
   have ox := Xx.ok
   have oy := Xy.ok
   obtain ⟨fx, Rx, hfx⟩ := Xx.rep
   obtain ⟨fy, Ry, hfy⟩ := Xy.rep
   have hly := Ry.lt
   have x8 : Ext w5 (w5.alloc (.cells #[.int .i64 y.kind, .string y.text, .int .i64 y.number, .slice any y.names.length cny, .slice aky y.kids.length cky] 27)) := (XR _).alloc _
   obtain ⟨gp, HG, hgp⟩ := AccX.rep' (show AccX (w.heap.size + 1) (w5.alloc (.cells #[.int .i64 y.kind, .string y.text, .int .i64 y.number, .slice any y.names.length cny, .slice aky y.kids.length cky] 27)) (.slice (some ⟨w5.heap.size, 0, none⟩) 1 1) [y] from AccX.lit1 (Ry.ext x8) (own_new w5 _ _) D5.sz (fun k hk => ⟨hfy k hk, by have := hly k hk; omega⟩))
   have D8 := D5.ext x8
   go_wp2_with fail
   refine (l3SendD (B0 := w.heap.size + 1) s (l := [y]) (Rx.ext x8) (HG) (by simp) hfx hgp D8.sz 2 rfl).mono ?_
   rintro e w9 ⟨⟨a9, k9, rfl, KX⟩, hx9⟩
   have D9 := D8.ext hx9
   have z1 := D9.sz
   have DX := LH (mk_drx (B0 := w.heap.size + 1) (lim := DB (dd + 1)) (k := 6) (t := s) (n := 0) (l := [x, y]) rfl KX (by omega) (by omega) (by omega) ⟨ox.1, oy.1, trivial⟩ (by rw [show wtL [x, y] = 0 + (x.d.bulk + 1) + (y.d.bulk + 1) by (simp only [wtL, List.length_cons, List.length_nil, List.map_cons, List.map_nil, D.bulkL]; omega)]; omega))
   have R0 := D9.o.cell 0
   have R1 := D9.o.cell 1
   have R2 := D9.o.cell 2
   have R3 := D9.o.cell 3
   have R4 := D9.o.cell 4
   simp at R0 R1 R2 R3 R4
   have F0 := D9.o.f0
   have F1 := D9.o.f1
   have F2 := D9.o.f2
   have F3 := D9.o.f3
   have F4 := D9.o.f4
   go_wp2_with fail
   generalize hS : World.setCell (World.setCell (World.setCell (World.setCell (World.setCell w9 _ _) _ _) _ _) _ _) _ _ = W8
   obtain ⟨O8, T8⟩ := own5 D9.o (.int .i64 6) (.string s) (.int .i64 0) (.slice none 0 0) (.slice a9 2 k9)
   rw [hS] at O8 T8
   clear hS R0 R1 R2 R3 R4 F0 F1 F2 F3 F4
   have p0 := O8.cell 0
   have p1 := O8.cell 1
   have p2 := O8.cell 2
   have p3 := O8.cell 3
   have p4 := O8.cell 4
   simp at p0 p1 p2 p3 p4
   have pz := O8.lt
   exact bodyPost_ret (v := .agg #[.int .i64 6, .string s, .int .i64 0, .slice none 0 0, .slice a9 2 k9]) (by simp [results, Tryz.results28, go_sem, p0, p1, p2, p3, p4, pz]) rfl ⟨⟨_, _, rfl, (DX.out.touch T8 (fun k hk => by simp at hk; omega)).base (by omega)⟩, D9.t.trans' T8 (fun k hk => Or.inr (by simp at hk; omega)), D9.c.touch' T8 (by simpa using Ne.symm hr)⟩
 · go_wp2_with fail
   refine (IH.out w2 D2.c (hc.touch D2.t hB)).mono ?_
   rintro e w3 ⟨⟨x, vsx, rfl, Xx⟩, hT, hC2⟩
   have D3 := D2.call hr hT hC2
   replace Xx := Xx.base D2.sz
   obtain ⟨anx, cnx, akx, ckx, rfl⟩ := Xx.shape
   clear hT hC2
   go_wp2_with fail
   refine (pick_c B v drO _ w w3 D3 hc hB hr (by decide) (by decide)).mono ?_
   rintro e w4 ⟨⟨s, rfl, hs⟩, D4, hT⟩
   have zs := drO_sz s hs
   clear hs
   replace Xx := Xx.touch hT (fun k hk => by simp at hk; omega)
   clear hT
   go_wp2_with fail
   refine (IH.out w4 D4.c (hc.touch D4.t hB)).mono ?_
   rintro e w5 ⟨⟨y, vsy, rfl, Xy⟩, hT, hC2⟩
   have D5 := D4.call hr hT hC2
   replace Xy := Xy.base D4.sz
   obtain ⟨any, cny, aky, cky, rfl⟩ := Xy.shape
   replace Xx := Xx.touch hT (fun k hk => by simp at hk; omega)
   clear hT hC2
   have ox := Xx.ok
   have oy := Xy.ok
   obtain ⟨fx, Rx, hfx⟩ := Xx.rep
   obtain ⟨fy, Ry, hfy⟩ := Xy.rep
   have hly := Ry.lt
   have x8 : Ext w5 (w5.alloc (.cells #[.int .i64 y.kind, .string y.text, .int .i64 y.number, .slice any y.names.length cny, .slice aky y.kids.length cky] 27)) := (XR _).alloc _
   obtain ⟨gp, HG, hgp⟩ := AccX.rep' (show AccX (w.heap.size + 1) (w5.alloc (.cells #[.int .i64 y.kind, .string y.text, .int .i64 y.number, .slice any y.names.length cny, .slice aky y.kids.length cky] 27)) (.slice (some ⟨w5.heap.size, 0, none⟩) 1 1) [y] from AccX.lit1 (Ry.ext x8) (own_new w5 _ _) D5.sz (fun k hk => ⟨hfy k hk, by have := hly k hk; omega⟩))
   have D8 := D5.ext x8
   go_wp2_with fail
   refine (l3SendD (B0 := w.heap.size + 1) s (l := [y]) (Rx.ext x8) (HG) (by simp) hfx hgp D8.sz 2 rfl).mono ?_
   rintro e w9 ⟨⟨a9, k9, rfl, KX⟩, hx9⟩
   have D9 := D8.ext hx9
   have z1 := D9.sz
   have DX := LH (mk_drx (B0 := w.heap.size + 1) (lim := DB (dd + 1)) (k := 6) (t := s) (n := 0) (l := [x, y]) rfl KX (by omega) (by omega) (by omega) ⟨ox.1, oy.1, trivial⟩ (by rw [show wtL [x, y] = 0 + (x.d.bulk + 1) + (y.d.bulk + 1) by (simp only [wtL, List.length_cons, List.length_nil, List.map_cons, List.map_nil, D.bulkL]; omega)]; omega))
   have R0 := D9.o.cell 0
   have R1 := D9.o.cell 1
   have R2 := D9.o.cell 2
   have R3 := D9.o.cell 3
   have R4 := D9.o.cell 4
   simp at R0 R1 R2 R3 R4
   have F0 := D9.o.f0
   have F1 := D9.o.f1
   have F2 := D9.o.f2
   have F3 := D9.o.f3
   have F4 := D9.o.f4
   go_wp2_with fail
   generalize hS : World.setCell (World.setCell (World.setCell (World.setCell (World.setCell w9 _ _) _ _) _ _) _ _) _ _ = W8
   obtain ⟨O8, T8⟩ := own5 D9.o (.int .i64 6) (.string s) (.int .i64 0) (.slice none 0 0) (.slice a9 2 k9)
   rw [hS] at O8 T8
   clear hS R0 R1 R2 R3 R4 F0 F1 F2 F3 F4
   have p0 := O8.cell 0
   have p1 := O8.cell 1
   have p2 := O8.cell 2
   have p3 := O8.cell 3
   have p4 := O8.cell 4
   simp at p0 p1 p2 p3 p4
   have pz := O8.lt
   exact bodyPost_ret (v := .agg #[.int .i64 6, .string s, .int .i64 0, .slice none 0 0, .slice a9 2 k9]) (by simp [results, Tryz.results28, go_sem, p0, p1, p2, p3, p4, pz]) rfl ⟨⟨_, _, rfl, (DX.out.touch T8 (fun k hk => by simp at hk; omega)).base (by omega)⟩, D9.t.trans' T8 (fun k hk => Or.inr (by simp at hk; omega)), D9.c.touch' T8 (by simpa using Ne.symm hr)⟩
 · go_wp2_with fail
   refine (l1Once_c B v 2 w2 D2.c (hc.touch D2.t hB) hB (by omega) (by omega)).mono ?_
   rintro e w3 ⟨⟨b, rfl⟩, hT, hC2⟩
   have D3 := D2.call hr hT hC2
   clear hT hC2
   cases b
   · go_wp2_with fail
     refine (IH.out w3 D3.c (hc.touch D3.t hB)).mono ?_
     rintro e w4 ⟨⟨x, vsx, rfl, Xx⟩, hT, hC2⟩
     have D4 := D3.call hr hT hC2
     replace Xx := Xx.base D3.sz
     obtain ⟨anx, cnx, akx, ckx, rfl⟩ := Xx.shape
     clear hT hC2
     go_wp2_with fail
     refine (pick_c B v drK _ w w4 D4 hc hB hr (by decide) (by decide)).mono ?_
     rintro e w5 ⟨⟨s, rfl, hs⟩, D5, hT⟩
     have zs := drK_sz s hs
     clear hs
     replace Xx := Xx.touch hT (fun k hk => by simp at hk; omega)
     clear hT
     go_wp2_with fail
     refine (IH.out w5 D5.c (hc.touch D5.t hB)).mono ?_
     rintro e w6 ⟨⟨y, vsy, rfl, Xy⟩, hT, hC2⟩
     have D6 := D5.call hr hT hC2
     replace Xy := Xy.base D5.sz
     obtain ⟨any, cny, aky, cky, rfl⟩ := Xy.shape
     replace Xx := Xx.touch hT (fun k hk => by simp at hk; omega)
     clear hT hC2
     have ox := Xx.ok
     have oy := Xy.ok
     obtain ⟨fx, Rx, hfx⟩ := Xx.rep
     obtain ⟨fy, Ry, hfy⟩ := Xy.rep
     have hly := Ry.lt
     have x8 : Ext w6 (w6.alloc (.cells #[.int .i64 y.kind, .string y.text, .int .i64 y.number, .slice any y.names.length cny, .slice aky y.kids.length cky] 27)) := (XR _).alloc _
     obtain ⟨gp, HG, hgp⟩ := AccX.rep' (show AccX (w.heap.size + 1) (w6.alloc (.cells #[.int .i64 y.kind, .string y.text, .int .i64 y.number, .slice any y.names.length cny, .slice aky y.kids.length cky] 27)) (.slice (some ⟨w6.heap.size, 0, none⟩) 1 1) [y] from AccX.lit1 (Ry.ext x8) (own_new w6 _ _) D6.sz (fun k hk => ⟨hfy k hk, by have := hly k hk; omega⟩))
     have D8 := D6.ext x8
     go_wp2_with fail
     refine (l3SendD (B0 := w.heap.size + 1) s (l := [y]) (Rx.ext x8) (HG) (by simp) hfx hgp D8.sz 2 rfl).mono ?_
     rintro e w9 ⟨⟨a9, k9, rfl, KX⟩, hx9⟩
     have D9 := D8.ext hx9
     have z1 := D9.sz
     have DX := LH (mk_drx (B0 := w.heap.size + 1) (lim := DB (dd + 1)) (k := 6) (t := s) (n := 0) (l := [x, y]) rfl KX (by omega) (by omega) (by omega) ⟨ox.1, oy.1, trivial⟩ (by rw [show wtL [x, y] = 0 + (x.d.bulk + 1) + (y.d.bulk + 1) by (simp only [wtL, List.length_cons, List.length_nil, List.map_cons, List.map_nil, D.bulkL]; omega)]; omega))
     have R0 := D9.o.cell 0
     have R1 := D9.o.cell 1
     have R2 := D9.o.cell 2
     have R3 := D9.o.cell 3
     have R4 := D9.o.cell 4
     simp at R0 R1 R2 R3 R4
     have F0 := D9.o.f0
     have F1 := D9.o.f1
     have F2 := D9.o.f2
     have F3 := D9.o.f3
     have F4 := D9.o.f4
     go_wp2_with fail
     generalize hS : World.setCell (World.setCell (World.setCell (World.setCell (World.setCell w9 _ _) _ _) _ _) _ _) _ _ = W8
     obtain ⟨O8, T8⟩ := own5 D9.o (.int .i64 6) (.string s) (.int .i64 0) (.slice none 0 0) (.slice a9 2 k9)
     rw [hS] at O8 T8
     clear hS R0 R1 R2 R3 R4 F0 F1 F2 F3 F4
     have p0 := O8.cell 0
     have p1 := O8.cell 1
     have p2 := O8.cell 2
     have p3 := O8.cell 3
     have p4 := O8.cell 4
     simp at p0 p1 p2 p3 p4
     have pz := O8.lt
     exact bodyPost_ret (v := .agg #[.int .i64 6, .string s, .int .i64 0, .slice none 0 0, .slice a9 2 k9]) (by simp [results, Tryz.results28, go_sem, p0, p1, p2, p3, p4, pz]) rfl ⟨⟨_, _, rfl, (DX.out.touch T8 (fun k hk => by simp at hk; omega)).base (by omega)⟩, D9.t.trans' T8 (fun k hk => Or.inr (by simp at hk; omega)), D9.c.touch' T8 (by simpa using Ne.symm hr)⟩
   · go_wp2_with fail
     refine (IH.out w3 D3.c (hc.touch D3.t hB)).mono ?_
     rintro e w4 ⟨⟨x, vsx, rfl, Xx⟩, hT, hC2⟩
     have D4 := D3.call hr hT hC2
     replace Xx := Xx.base D3.sz
     obtain ⟨anx, cnx, akx, ckx, rfl⟩ := Xx.shape
     clear hT hC2
     go_wp2_with fail
     refine (IH.out w4 D4.c (hc.touch D4.t hB)).mono ?_
     rintro e w5 ⟨⟨y, vsy, rfl, Xy⟩, hT, hC2⟩
     have D5 := D4.call hr hT hC2
     replace Xy := Xy.base D4.sz
     obtain ⟨any, cny, aky, cky, rfl⟩ := Xy.shape
     replace Xx := Xx.touch hT (fun k hk => by simp at hk; omega)
     clear hT hC2
     go_wp2_with fail
     refine (IH.out w5 D5.c (hc.touch D5.t hB)).mono ?_
     rintro e w6 ⟨⟨z, vsz, rfl, Xz⟩, hT, hC2⟩
     have D6 := D5.call hr hT hC2
     replace Xz := Xz.base D5.sz
     obtain ⟨anz, cnz, akz, ckz, rfl⟩ := Xz.shape
     replace Xx := Xx.touch hT (fun k hk => by simp at hk; omega)
     replace Xy := Xy.touch hT (fun k hk => by simp at hk; omega)
     clear hT hC2
     have ox := Xx.ok
     have oy := Xy.ok
     have oz := Xz.ok
     have za : (⟨#[97, 116, 58, 112, 117, 116, 58]⟩ : ByteArray).size = 7 := rfl
     obtain ⟨fx, Rx, hfx⟩ := Xx.rep
     obtain ⟨fy, Ry, hfy⟩ := Xy.rep
     have hly := Ry.lt
     obtain ⟨fz, Rz, hfz⟩ := Xz.rep
     have hlz := Rz.lt
     have x8 : Ext w6 (w6.alloc (.cells #[.int .i64 y.kind, .string y.text, .int .i64 y.number, .slice any y.names.length cny, .slice aky y.kids.length cky, .int .i64 z.kind, .string z.text, .int .i64 z.number, .slice anz z.names.length cnz, .slice akz z.kids.length ckz] 27)) := (XR _).alloc _
     obtain ⟨gp, HG, hgp⟩ := AccX.rep' (show AccX (w.heap.size + 1) (w6.alloc (.cells #[.int .i64 y.kind, .string y.text, .int .i64 y.number, .slice any y.names.length cny, .slice aky y.kids.length cky, .int .i64 z.kind, .string z.text, .int .i64 z.number, .slice anz z.names.length cnz, .slice akz z.kids.length ckz] 27)) (.slice (some ⟨w6.heap.size, 0, none⟩) 2 2) [y, z] from AccX.lit2 (Ry.ext x8) (Rz.ext x8) (own_new w6 _ _) D6.sz (fun k hk => (List.mem_append.1 hk).elim (fun hk => ⟨hfy k hk, by have := hly k hk; omega⟩) (fun hk => ⟨hfz k hk, by have := hlz k hk; omega⟩)))
     have D8 := D6.ext x8
     go_wp2_with fail
     refine (l3SendD (B0 := w.heap.size + 1) ⟨#[97, 116, 58, 112, 117, 116, 58]⟩ (l := [y, z]) (Rx.ext x8) (HG) (by simp) hfx hgp D8.sz 3 rfl).mono ?_
     rintro e w9 ⟨⟨a9, k9, rfl, KX⟩, hx9⟩
     have D9 := D8.ext hx9
     have z1 := D9.sz
     have DX := LH (mk_drx (B0 := w.heap.size + 1) (lim := DB (dd + 1)) (k := 6) (t := ⟨#[97, 116, 58, 112, 117, 116, 58]⟩) (n := 0) (l := [x, y, z]) rfl KX (by omega) (by decide) (by omega) ⟨ox.1, oy.1, oz.1, trivial⟩ (by rw [show wtL [x, y, z] = 0 + (x.d.bulk + 1) + (y.d.bulk + 1) + (z.d.bulk + 1) by (simp only [wtL, List.length_cons, List.length_nil, List.map_cons, List.map_nil, D.bulkL]; omega)]; omega))
     have R0 := D9.o.cell 0
     have R1 := D9.o.cell 1
     have R2 := D9.o.cell 2
     have R3 := D9.o.cell 3
     have R4 := D9.o.cell 4
     simp at R0 R1 R2 R3 R4
     have F0 := D9.o.f0
     have F1 := D9.o.f1
     have F2 := D9.o.f2
     have F3 := D9.o.f3
     have F4 := D9.o.f4
     go_wp2_with fail
     generalize hS : World.setCell (World.setCell (World.setCell (World.setCell (World.setCell w9 _ _) _ _) _ _) _ _) _ _ = W8
     obtain ⟨O8, T8⟩ := own5 D9.o (.int .i64 6) (.string ⟨#[97, 116, 58, 112, 117, 116, 58]⟩) (.int .i64 0) (.slice none 0 0) (.slice a9 3 k9)
     rw [hS] at O8 T8
     clear hS R0 R1 R2 R3 R4 F0 F1 F2 F3 F4
     have p0 := O8.cell 0
     have p1 := O8.cell 1
     have p2 := O8.cell 2
     have p3 := O8.cell 3
     have p4 := O8.cell 4
     simp at p0 p1 p2 p3 p4
     have pz := O8.lt
     exact bodyPost_ret (v := .agg #[.int .i64 6, .string ⟨#[97, 116, 58, 112, 117, 116, 58]⟩, .int .i64 0, .slice none 0 0, .slice a9 3 k9]) (by simp [results, Tryz.results28, go_sem, p0, p1, p2, p3, p4, pz]) rfl ⟨⟨_, _, rfl, (DX.out.touch T8 (fun k hk => by simp at hk; omega)).base (by omega)⟩, D9.t.trans' T8 (fun k hk => Or.inr (by simp at hk; omega)), D9.c.touch' T8 (by simpa using Ne.symm hr)⟩
 · go_wp2_with fail
   refine (IH.out w2 D2.c (hc.touch D2.t hB)).mono ?_
   rintro e w3 ⟨⟨x, vsx, rfl, Xx⟩, hT, hC2⟩
   have D3 := D2.call hr hT hC2
   replace Xx := Xx.base D2.sz
   obtain ⟨anx, cnx, akx, ckx, rfl⟩ := Xx.shape
   clear hT hC2
   go_wp2_with fail
   refine (IH.out w3 D3.c (hc.touch D3.t hB)).mono ?_
   rintro e w4 ⟨⟨y, vsy, rfl, Xy⟩, hT, hC2⟩
   have D4 := D3.call hr hT hC2
   replace Xy := Xy.base D3.sz
   obtain ⟨any, cny, aky, cky, rfl⟩ := Xy.shape
   replace Xx := Xx.touch hT (fun k hk => by simp at hk; omega)
   clear hT hC2
   have ox := Xx.ok
   have oy := Xy.ok
   obtain ⟨fx, Rx, hfx⟩ := Xx.rep
   obtain ⟨fy, Ry, hfy⟩ := Xy.rep
   have hlx := Rx.lt
   have hly := Ry.lt
   have x7 : Ext w4 (w4.alloc (.cells #[.int .i64 y.kind, .string y.text, .int .i64 y.number, .slice any y.names.length cny, .slice aky y.kids.length cky] 27)) := (XR _).alloc _
   have KY : AccX (w.heap.size + 1) (w4.alloc (.cells #[.int .i64 y.kind, .string y.text, .int .i64 y.number, .slice any y.names.length cny, .slice aky y.kids.length cky] 27)) (.slice (some ⟨w4.heap.size, 0, none⟩) 1 1) [y] := AccX.lit1 (Ry.ext x7) (own_new w4 _ _) D4.sz (fun k hk => ⟨hfy k hk, by have := hly k hk; omega⟩)
   obtain ⟨gy, HY, hgy⟩ := AccX.rep' KY
   have hlg := HY.lt
   have RS := leaf_rep (w4.alloc (.cells #[.int .i64 y.kind, .string y.text, .int .i64 y.number, .slice any y.names.length cny, .slice aky y.kids.length cky] 27)) 6 ⟨#[115, 105, 122, 101]⟩ 0
   have RP := MExpr.shut (x := ⟨6, ⟨#[43]⟩, 0, [], [y]⟩) (rep_nilT (w4.alloc (.cells #[.int .i64 y.kind, .string y.text, .int .i64 y.number, .slice any y.names.length cny, .slice aky y.kids.length cky] 27))) HY
   have x8 : Ext (w4.alloc (.cells #[.int .i64 y.kind, .string y.text, .int .i64 y.number, .slice any y.names.length cny, .slice aky y.kids.length cky] 27)) ((w4.alloc (.cells #[.int .i64 y.kind, .string y.text, .int .i64 y.number, .slice any y.names.length cny, .slice aky y.kids.length cky] 27)).alloc (.cells #[.int .i64 x.kind, .string x.text, .int .i64 x.number, .slice anx x.names.length cnx, .slice akx x.kids.length ckx, .int .i64 6, .string ⟨#[115, 105, 122, 101]⟩, .int .i64 0, .slice none 0 0, .slice none 0 0, .int .i64 6, .string ⟨#[43]⟩, .int .i64 0, .slice none 0 0, .slice (some ⟨w4.heap.size, 0, none⟩) 1 1] 27)) := (XR _).alloc _
   have za : (w4.alloc (.cells #[.int .i64 y.kind, .string y.text, .int .i64 y.number, .slice any y.names.length cny, .slice aky y.kids.length cky] 27)).heap.size = w4.heap.size + 1 := by simp
   have KX : AccX (w.heap.size + 1) ((w4.alloc (.cells #[.int .i64 y.kind, .string y.text, .int .i64 y.number, .slice any y.names.length cny, .slice aky y.kids.length cky] 27)).alloc (.cells #[.int .i64 x.kind, .string x.text, .int .i64 x.number, .slice anx x.names.length cnx, .slice akx x.kids.length ckx, .int .i64 6, .string ⟨#[115, 105, 122, 101]⟩, .int .i64 0, .slice none 0 0, .slice none 0 0, .int .i64 6, .string ⟨#[43]⟩, .int .i64 0, .slice none 0 0, .slice (some ⟨w4.heap.size, 0, none⟩) 1 1] 27)) (.slice (some ⟨(w4.alloc (.cells #[.int .i64 y.kind, .string y.text, .int .i64 y.number, .slice any y.names.length cny, .slice aky y.kids.length cky] 27)).heap.size, 0, none⟩) 3 3) [x, ⟨6, ⟨#[115, 105, 122, 101]⟩, 0, [], []⟩, ⟨6, ⟨#[43]⟩, 0, [], [y]⟩] :=
    AccX.lit3 ((Rx.ext x7).ext x8) (RS.ext x8) (RP.ext x8) (own_new (w4.alloc (.cells #[.int .i64 y.kind, .string y.text, .int .i64 y.number, .slice any y.names.length cny, .slice aky y.kids.length cky] 27)) _ _) (by have := D4.sz; omega) (fun k hk => by
     simp only [List.append_nil, List.nil_append, List.mem_append] at hk
     rcases hk with hk | hk
     · exact ⟨hfx k hk, by have := hlx k hk; omega⟩
     · exact ⟨hgy k hk, by have := hlg k hk; omega⟩)
   rw [za] at KX
   have D8 := (D4.ext x7).ext x8
   have oz : D.okL ([x, ⟨6, ⟨#[115, 105, 122, 101]⟩, 0, [], []⟩, ⟨6, ⟨#[43]⟩, 0, [], [y]⟩].map MExpr.d) := ⟨ox.1, ex_ok (by omega) (by decide) (by omega) trivial trivial, ex_ok (by omega) (by decide) (by omega) trivial ⟨oy.1, trivial⟩, trivial⟩
   have ow : wtL [x, ⟨6, ⟨#[115, 105, 122, 101]⟩, 0, [], []⟩, ⟨6, ⟨#[43]⟩, 0, [], [y]⟩] <= x.d.bulk + y.d.bulk + 30 := by
    have e1 := MExpr.bulk_eq ⟨6, ⟨#[115, 105, 122, 101]⟩, 0, [], []⟩
    have e2 := MExpr.bulk_eq ⟨6, ⟨#[43]⟩, 0, [], [y]⟩
    simp only [wtL, List.length_cons, List.length_nil, List.map_cons, List.map_nil, D.bulkL] at e1 e2 ⊢
    have e3 : (⟨#[115, 105, 122, 101]⟩ : ByteArray).size = 4 := rfl
    have e4 : (⟨#[43]⟩ : ByteArray).size = 1 := rfl
    omega
   have z1 := D8.sz
   have DX := LH (mk_drx (B0 := w.heap.size + 1) (lim := DB (dd + 1)) (k := 7) (t := ⟨#[]⟩) (n := 0) rfl KX (by omega) (by decide) (by omega) oz (by have e0 : (⟨#[]⟩ : ByteArray).size = 0 := rfl; omega))
   have R0 := D8.o.cell 0
   have R1 := D8.o.cell 1
   have R2 := D8.o.cell 2
   have R3 := D8.o.cell 3
   have R4 := D8.o.cell 4
   simp at R0 R1 R2 R3 R4
   have F0 := D8.o.f0
   have F1 := D8.o.f1
   have F2 := D8.o.f2
   have F3 := D8.o.f3
   have F4 := D8.o.f4
   go_wp2_with fail
   generalize hS : World.setCell (World.setCell (World.setCell (World.setCell (World.setCell ((w4.alloc (.cells #[.int .i64 y.kind, .string y.text, .int .i64 y.number, .slice any y.names.length cny, .slice aky y.kids.length cky] 27)).alloc (.cells #[.int .i64 x.kind, .string x.text, .int .i64 x.number, .slice anx x.names.length cnx, .slice akx x.kids.length ckx, .int .i64 6, .string ⟨#[115, 105, 122, 101]⟩, .int .i64 0, .slice none 0 0, .slice none 0 0, .int .i64 6, .string ⟨#[43]⟩, .int .i64 0, .slice none 0 0, .slice (some ⟨w4.heap.size, 0, none⟩) 1 1] 27)) _ _) _ _) _ _) _ _) _ _ = W8
   obtain ⟨O8, T8⟩ := own5 D8.o (.int .i64 7) (.string ⟨#[]⟩) (.int .i64 0) (.slice none 0 0) (.slice (some ⟨w4.heap.size + 1, 0, none⟩) 3 3)
   rw [hS] at O8 T8
   clear hS R0 R1 R2 R3 R4 F0 F1 F2 F3 F4
   have p0 := O8.cell 0
   have p1 := O8.cell 1
   have p2 := O8.cell 2
   have p3 := O8.cell 3
   have p4 := O8.cell 4
   simp at p0 p1 p2 p3 p4
   have pz := O8.lt
   exact bodyPost_ret (v := .agg #[.int .i64 7, .string ⟨#[]⟩, .int .i64 0, .slice none 0 0, .slice (some ⟨w4.heap.size + 1, 0, none⟩) 3 3]) (by simp [results, Tryz.results28, go_sem, p0, p1, p2, p3, p4, pz]) rfl ⟨⟨_, _, rfl, (DX.out.touch T8 (fun k hk => by simp at hk; omega)).base (by omega)⟩, D8.t.trans' T8 (fun k hk => Or.inr (by simp at hk; omega)), D8.c.touch' T8 (by simpa using Ne.symm hr)⟩
 · have xe : Ext w2 (w2.alloc (.cells #[] 27)) := (XR _).alloc _
   have D3 := D2.ext xe
   have zs := D2.sz
   have HB0 : AccX (w.heap.size + 1) (w2.alloc (.cells #[] 27)) (.slice (some ⟨w2.heap.size, 0, none⟩) 0 0) [] := Acw.of (Acc.empty _ _ zs)
   go_wp2_with fail
   refine (l1Below_cur B v 3 _ D3.c (hc.touch D3.t hB) hB (by omega) (by omega)).mono ?_
   rintro e w4 ⟨⟨n, rfl, hn⟩, hT, hC2⟩
   have D4 := D3.call hr hT hC2
   replace HB0 := HB0.touch hT (fun k hk => by simp at hk; omega)
   clear hT hC2 D3 xe
   go_wp2_with fail
   go_loopw [6, 8] (fun bv iv wr => ∃ (i : Nat) (l : List MExpr) (ab : Option Addr) (cb : Nat), i <= n /\ iv = .int .i64 i /\ bv = .slice ab i cb /\ DS w B v wr /\ AccX (w.heap.size + 1) wr (.slice ab i cb) l /\ l.length = i /\ FewX dd l) (fun _ iv _ => n - (intOf iv).toNat)
   case atStart => exact ⟨0, [], _, _, Nat.zero_le _, rfl, rfl, D4, HB0, rfl, (fun z hz => nomatch hz)⟩
   case round =>
    obtain ⟨i, l, ab, cb, hi, rfl, rfl, D5, HB, hll, hl⟩ := hrel
    have ownlt0 : ∀ k, (Value.slice ab i cb).ownBlock = some k -> k < wr.heap.size := fun k hk => (Acw.ge HB hk).2
    clear D4 HB0 D2
    by_cases hlt : i < n
    · have hil : (i : Int) < n := by omega
      go_wp2_with fail
      refine (IH.out wr D5.c (hc.touch D5.t hB)).mono ?_
      rintro e w6 ⟨⟨x, vsx, rfl, Xx⟩, hT, hC2⟩
      have D6 := D5.call hr hT hC2
      obtain ⟨anx, cnx, akx, ckx, rfl⟩ := Xx.shape
      replace HB := HB.touch hT (fun k hk => by simp at hk; omega)
      have hown := fun k (hk : (Value.slice ab i cb).ownBlock = some k) => (Acw.ge HB hk)
      have hlt6 : ∀ k, (Value.slice ab i cb).ownBlock = some k -> k < wr.heap.size := fun k hk => ownlt0 k hk
      have ox := Xx.ok
      obtain ⟨fx, Rx, hfx⟩ := Xx.rep
      have x7 : Ext w6 (w6.alloc (.cells #[.int .i64 x.kind, .string x.text, .int .i64 x.number, .slice anx x.names.length cnx, .slice akx x.kids.length ckx] 27)) := (XR _).alloc _
      have D7 := D6.ext x7
      have HB7 := Acw.ext HB x7
      have RO := one_expr (Rx.ext x7) (own_new w6 #[.int .i64 x.kind, .string x.text, .int .i64 x.number, .slice anx x.names.length cnx, .slice akx x.kids.length ckx] 27)
      have hz7 := D6.sz
      clear hT hC2 Xx
      go_wp2_with (at_builtin; refine wpList_append_x rfl _ _ rfl (w.heap.size + 1) _ l rfl HB7 [x] _ _ _ _ rfl RO (fun k hk => by have := hfx k hk; have := D5.sz; omega) (fun k hk hm => by have := hfx k hm; have := hlt6 k hk; omega) (by simp; omega) (by first | omega | (simp; omega)) ?_)
      intro a8 c8 w8 ac hg hat
      have TG : Touch (w6.alloc (.cells #[.int .i64 x.kind, .string x.text, .int .i64 x.number, .slice anx x.names.length cnx, .slice akx x.kids.length ckx] 27)) w8 (ownL (.slice ab i cb)) := (Touch.of_ext (XR _) _).grown hg fun k hk => Or.inl (ownL_mem hk)
      have D8 := D7.late hBl TG (fun k hk => by have := (hown k (ownL_of hk)).1; omega)
      go_wp2_with fail
      go_roundw
      case rel => exact ⟨i + 1, l ++ [x], a8, c8, by omega, by go_num, rfl, D8, by first | exact ac | (rw [<- hll]; exact ac) | simpa [hll] using ac, by simp [hll], fun z hz => (List.mem_append.1 hz).elim (hl z) (fun hz => by simp at hz; subst hz; exact ⟨ox.1, by have := ox.2; omega⟩)⟩
      case measure => simp [intOf]; omega
    · obtain rfl : i = n := by omega
      go_wp2_with fail
      refine (l1Once_c B v 4 _ D5.c (hc.touch D5.t hB) hB (by omega) (by omega)).mono ?_
      rintro e w6 ⟨⟨b4, rfl⟩, hT, hC2⟩
      have D6 := D5.call hr hT hC2
      have hlt5 : ∀ k, (Value.slice ab i cb).ownBlock = some k -> k < wr.heap.size := ownlt0
      replace HB := HB.touch hT (fun k hk => by simp at hk; omega)
      have z65 := hT.size
      clear hT hC2 D5
      cases b4
      · have hn3 : l.length <= 3 := by omega
        obtain ⟨nb, hnb'⟩ : ∃ nb, nb = i := ⟨_, rfl⟩
        rw [<- hnb'] at HB
        have HNB : Hid (nb = l.length) := LH (by omega)
        rw [<- hnb']
        clear hnb' hll hi hlt
        have za : (w6.alloc (.cells #[] 9)).heap.size = w6.heap.size + 1 := by simp
        have xa : Ext w6 ((w6.alloc (.cells #[] 9)).alloc (.cells #[] 9)) := ((XR _).alloc _).alloc _
        have DA := D6.ext xa
        have PA : AccT w6.heap.size ((w6.alloc (.cells #[] 9)).alloc (.cells #[] 9)) (.slice (some ⟨w6.heap.size, 0, none⟩) 0 0) [] := AccT.ext (Acc.empty _ _ (Nat.le_refl _)) ((XR _).alloc _)
        have TA : AccT w6.heap.size ((w6.alloc (.cells #[] 9)).alloc (.cells #[] 9)) (.slice (some ⟨w6.heap.size + 1, 0, none⟩) 0 0) [] := by
         have h : AccT w6.heap.size ((w6.alloc (.cells #[] 9)).alloc (.cells #[] 9)) (.slice (some ⟨(w6.alloc (.cells #[] 9)).heap.size, 0, none⟩) 0 0) [] := Acc.empty _ _ (by omega)
         rwa [za] at h
        have KA : Touch w6 ((w6.alloc (.cells #[] 9)).alloc (.cells #[] 9)) [B] := Touch.of_ext xa _
        have zA : w6.heap.size + 2 <= ((w6.alloc (.cells #[] 9)).alloc (.cells #[] 9)).heap.size := by simp
        go_wp2_with fail
        refine (l1Once_c B v 2 _ DA.c (hc.touch DA.t hB) hB (by omega) (by omega)).mono ?_
        rintro e wa ⟨⟨b2, rfl⟩, hT, hC2⟩
        have DB2 := DA.call hr hT hC2
        have zb := D6.sz
        replace PA := AccT.touch PA hT (fun k hk => by simp [Value.ownBlock] at hk; simp; omega)
        replace TA := AccT.touch TA hT (fun k hk => by simp [Value.ownBlock] at hk; simp; omega)
        have KB := KA.trans hT
        have zC := Nat.le_trans zA hT.size
        clear hT hC2 KA DA xa za zA
        cases b2
        · have hpo : ∀ k, (Value.slice (some ⟨w6.heap.size, 0, none⟩) 0 0).ownBlock = some k -> k ≠ w6.heap.size + 1 /\ k ≠ B := fun k hk => by
           simp [Value.ownBlock] at hk
           omega
          go_wp2_with fail
          refine (l1Once_c B v 3 _ DB2.c (hc.touch DB2.t hB) hB (by omega) (by omega)).mono ?_
          rintro e wb ⟨⟨b3, rfl⟩, hT, hC2⟩
          have DB3 := DB2.call hr hT hC2
          replace PA := AccT.touch PA hT (fun k hk => by have := hpo k hk; simp; omega)
          replace TA := AccT.touch TA hT (fun k hk => by simp [Value.ownBlock] at hk; simp; omega)
          have KC := KB.trans hT
          have zD := Nat.le_trans zC hT.size
          clear hT hC2 KB DB2 zC
          cases b3
          · have zG := zD
            obtain ⟨a5, c5, g5, e5, RP, -⟩ := AccT.rep PA
            obtain ⟨a6, c6, g6, e6, RT, -⟩ := AccT.rep TA
            injection e5 with e5 e5' e5''
            injection e6 with e6 e6' e6''
            clear e5' e6'
            subst e5 e5'' e6 e6''
            go_wp2_with fail
            refine (l3BlockD [] [] _ _ ab nb cb _ RP.rep RT.rep (by decide)).mono ?_
            rintro e w9 ⟨⟨a9, c9, g9, rfl, RN, hg9⟩, hx9⟩
            have D9 := DB3.ext hx9
            have KE := KC.trans (Touch.of_ext hx9 _)
            have HB9 := HB.touch KE (fun k hk => by simp at hk; omega)
            have zz := DB3.sz
            have DXX : DrX (w.heap.size + 1) (DB (dd + 1)) w9 ⟨8, ⟨#[]⟩, (0 : Nat), [] ++ [], l⟩ [.int .i64 8, .string ⟨#[]⟩, .int .i64 (0 : Nat), .slice a9 0 c9, .slice ab nb cb] := mk_blk (p := 0) (N := [] ++ []) (n := 0) (by decide) rfl (by omega) (by omega) RN (fun k hk => by have := hg9 k hk; omega) HNB.out HB9 hl hn3 (fun k hk hm => by have := hg9 k hm; have := (Acw.ge HB hk).2; omega)
            have z1 := D9.sz
            have DX := LH (DXX)
            have R0 := D9.o.cell 0
            have R1 := D9.o.cell 1
            have R2 := D9.o.cell 2
            have R3 := D9.o.cell 3
            have R4 := D9.o.cell 4
            simp at R0 R1 R2 R3 R4
            have F0 := D9.o.f0
            have F1 := D9.o.f1
            have F2 := D9.o.f2
            have F3 := D9.o.f3
            have F4 := D9.o.f4
            go_wp2_with fail
            generalize hS : World.setCell (World.setCell (World.setCell (World.setCell (World.setCell w9 _ _) _ _) _ _) _ _) _ _ = W8
            obtain ⟨O8, T8⟩ := own5 D9.o (.int .i64 8) (.string ⟨#[]⟩) (.int .i64 0) (.slice a9 0 c9) (.slice ab nb cb)
            rw [hS] at O8 T8
            clear hS R0 R1 R2 R3 R4 F0 F1 F2 F3 F4
            have p0 := O8.cell 0
            have p1 := O8.cell 1
            have p2 := O8.cell 2
            have p3 := O8.cell 3
            have p4 := O8.cell 4
            simp at p0 p1 p2 p3 p4
            have pz := O8.lt
            exact bodyPost_ret (v := .agg #[.int .i64 8, .string ⟨#[]⟩, .int .i64 0, .slice a9 0 c9, .slice ab nb cb]) (by simp [results, Tryz.results28, go_sem, p0, p1, p2, p3, p4, pz]) rfl ⟨⟨_, _, rfl, (DX.out.touch T8 (fun k hk => by simp at hk; omega)).base (by omega)⟩, D9.t.trans' T8 (fun k hk => Or.inr (by simp at hk; omega)), D9.c.touch' T8 (by simpa using Ne.symm hr)⟩
          · have hA2 := TA.ext ((XR wb).alloc (.cells #[.string ⟨#[113]⟩, .string ⟨#[114]⟩] 9))
            have xb : Ext wb (wb.alloc (.cells #[.string ⟨#[113]⟩, .string ⟨#[114]⟩] 9)) := (XR _).alloc _
            have DB4 := DB3.ext xb
            have RQ : Rep (wb.alloc (.cells #[.string ⟨#[113]⟩, .string ⟨#[114]⟩] 9)) (strs [⟨#[113]⟩, ⟨#[114]⟩]) [.slice (some ⟨wb.heap.size, 0, none⟩) 2 2] := rep_two wb ⟨#[113]⟩ ⟨#[114]⟩ _
            go_wp2_with (at_builtin; refine wpList_append_strs_o rfl _ _ rfl w6.heap.size _ [] rfl hA2 [⟨#[113]⟩, ⟨#[114]⟩] _ _ _ rfl RQ (by decide) (by first | omega | (simp; omega)) ?_)
            intro a4 c4 wd ac hg hat
            have zE := hg.size
            have TG : Touch (wb.alloc (.cells #[.string ⟨#[113]⟩, .string ⟨#[114]⟩] 9)) wd [w6.heap.size + 1] := (Touch.of_ext (XR _) _).grown hg fun k hk => Or.inl (by simp [Value.ownBlock] at hk; simp [hk])
            have DB5 := DB4.late hBl TG (fun k hk => by simp at hk; omega)
            replace PA := AccT.touch (PA.ext xb) TG (fun k hk => by have := hpo k hk; simp; omega)
            replace KC := (KC.trans (Touch.of_ext xb _)).trans' TG (fun k hk => Or.inr (by simp at hk; omega))
            replace TA := ac
            have zG : w6.heap.size + 2 <= wd.heap.size := by have := zE; simp at this; omega
            clear hA2 xb RQ hg hat TG DB4 DB3 ac
            obtain ⟨a5, c5, g5, e5, RP, -⟩ := AccT.rep PA
            obtain ⟨a6, c6, g6, e6, RT, -⟩ := AccT.rep TA
            injection e5 with e5 e5' e5''
            injection e6 with e6 e6' e6''
            clear e5' e6'
            subst e5 e5'' e6 e6''
            go_wp2_with fail
            refine (l3BlockD [] [⟨#[113]⟩, ⟨#[114]⟩] _ _ ab nb cb _ RP.rep RT.rep (by decide)).mono ?_
            rintro e w9 ⟨⟨a9, c9, g9, rfl, RN, hg9⟩, hx9⟩
            have D9 := DB5.ext hx9
            have KE := KC.trans (Touch.of_ext hx9 _)
            have HB9 := HB.touch KE (fun k hk => by simp at hk; omega)
            have zz := DB5.sz
            have DXX : DrX (w.heap.size + 1) (DB (dd + 1)) w9 ⟨8, ⟨#[]⟩, (0 : Nat), [] ++ [⟨#[113]⟩, ⟨#[114]⟩], l⟩ [.int .i64 8, .string ⟨#[]⟩, .int .i64 (0 : Nat), .slice a9 2 c9, .slice ab nb cb] := mk_blk (p := 0) (N := [] ++ [⟨#[113]⟩, ⟨#[114]⟩]) (n := 2) (by decide) rfl (by omega) (by omega) RN (fun k hk => by have := hg9 k hk; omega) HNB.out HB9 hl hn3 (fun k hk hm => by have := hg9 k hm; have := (Acw.ge HB hk).2; omega)
            have z1 := D9.sz
            have DX := LH (DXX)
            have R0 := D9.o.cell 0
            have R1 := D9.o.cell 1
            have R2 := D9.o.cell 2
            have R3 := D9.o.cell 3
            have R4 := D9.o.cell 4
            simp at R0 R1 R2 R3 R4
            have F0 := D9.o.f0
            have F1 := D9.o.f1
            have F2 := D9.o.f2
            have F3 := D9.o.f3
            have F4 := D9.o.f4
            go_wp2_with fail
            generalize hS : World.setCell (World.setCell (World.setCell (World.setCell (World.setCell w9 _ _) _ _) _ _) _ _) _ _ = W8
            obtain ⟨O8, T8⟩ := own5 D9.o (.int .i64 8) (.string ⟨#[]⟩) (.int .i64 0) (.slice a9 2 c9) (.slice ab nb cb)
            rw [hS] at O8 T8
            clear hS R0 R1 R2 R3 R4 F0 F1 F2 F3 F4
            have p0 := O8.cell 0
            have p1 := O8.cell 1
            have p2 := O8.cell 2
            have p3 := O8.cell 3
            have p4 := O8.cell 4
            simp at p0 p1 p2 p3 p4
            have pz := O8.lt
            exact bodyPost_ret (v := .agg #[.int .i64 8, .string ⟨#[]⟩, .int .i64 0, .slice a9 2 c9, .slice ab nb cb]) (by simp [results, Tryz.results28, go_sem, p0, p1, p2, p3, p4, pz]) rfl ⟨⟨_, _, rfl, (DX.out.touch T8 (fun k hk => by simp at hk; omega)).base (by omega)⟩, D9.t.trans' T8 (fun k hk => Or.inr (by simp at hk; omega)), D9.c.touch' T8 (by simpa using Ne.symm hr)⟩
        · have hA2 := PA.ext ((XR wa).alloc (.cells #[.string ⟨#[112]⟩] 9))
          have xb : Ext wa (wa.alloc (.cells #[.string ⟨#[112]⟩] 9)) := (XR _).alloc _
          have D12 := DB2.ext xb
          go_wp2_with (at_builtin; refine wpList_append_strs_o rfl _ _ rfl w6.heap.size _ [] rfl hA2 [⟨#[112]⟩] _ _ _ rfl (rep_one _ _) (by decide) (by first | omega | (simp; omega)) ?_)
          intro a3 c3 wc ac hg hat
          have hat2 : ∀ k, (Value.slice a3 1 c3).ownBlock = some k -> k ≠ w6.heap.size + 1 /\ k ≠ B := fun k hk => by
           rcases hat with h | h
           · have h' := h.symm.trans hk
             simp [Value.ownBlock] at h'
             omega
           · have h' := h.symm.trans hk
             simp at h'
             omega
          have hpo := hat2
          have zE := hg.size
          have TG : Touch (wa.alloc (.cells #[.string ⟨#[112]⟩] 9)) wc [w6.heap.size] := (Touch.of_ext (XR _) _).grown hg fun k hk => Or.inl (by simp [Value.ownBlock] at hk; simp [hk])
          have zF : w6.heap.size + 2 <= wc.heap.size := by have := hg.size; simp at this; omega
          have D13 := D12.late hBl TG (fun k hk => by simp at hk; omega)
          replace TA := AccT.touch (TA.ext xb) TG (fun k hk => by simp [Value.ownBlock] at hk; simp; omega)
          replace KB := (KB.trans (Touch.of_ext xb _)).trans' TG (fun k hk => Or.inr (by simp at hk; omega))
          replace PA := ac
          clear hA2 xb hg hat hat2 TG D12 DB2 ac zC zE
          have DB2 := D13
          have zC := zF
          clear D13 zF
          go_wp2_with fail
          refine (l1Once_c B v 3 _ DB2.c (hc.touch DB2.t hB) hB (by omega) (by omega)).mono ?_
          rintro e wb ⟨⟨b3, rfl⟩, hT, hC2⟩
          have DB3 := DB2.call hr hT hC2
          replace PA := AccT.touch PA hT (fun k hk => by have := hpo k hk; simp; omega)
          replace TA := AccT.touch TA hT (fun k hk => by simp [Value.ownBlock] at hk; simp; omega)
          have KC := KB.trans hT
          have zD := Nat.le_trans zC hT.size
          clear hT hC2 KB DB2 zC
          cases b3
          · have zG := zD
            obtain ⟨a5, c5, g5, e5, RP, -⟩ := AccT.rep PA
            obtain ⟨a6, c6, g6, e6, RT, -⟩ := AccT.rep TA
            injection e5 with e5 e5' e5''
            injection e6 with e6 e6' e6''
            clear e5' e6'
            subst e5 e5'' e6 e6''
            go_wp2_with fail
            refine (l3BlockD [⟨#[112]⟩] [] _ _ ab nb cb _ RP.rep RT.rep (by decide)).mono ?_
            rintro e w9 ⟨⟨a9, c9, g9, rfl, RN, hg9⟩, hx9⟩
            have D9 := DB3.ext hx9
            have KE := KC.trans (Touch.of_ext hx9 _)
            have HB9 := HB.touch KE (fun k hk => by simp at hk; omega)
            have zz := DB3.sz
            have DXX : DrX (w.heap.size + 1) (DB (dd + 1)) w9 ⟨8, ⟨#[]⟩, (1 : Nat), [⟨#[112]⟩] ++ [], l⟩ [.int .i64 8, .string ⟨#[]⟩, .int .i64 (1 : Nat), .slice a9 1 c9, .slice ab nb cb] := mk_blk (p := 1) (N := [⟨#[112]⟩] ++ []) (n := 1) (by decide) rfl (by omega) (by omega) RN (fun k hk => by have := hg9 k hk; omega) HNB.out HB9 hl hn3 (fun k hk hm => by have := hg9 k hm; have := (Acw.ge HB hk).2; omega)
            have z1 := D9.sz
            have DX := LH (DXX)
            have R0 := D9.o.cell 0
            have R1 := D9.o.cell 1
            have R2 := D9.o.cell 2
            have R3 := D9.o.cell 3
            have R4 := D9.o.cell 4
            simp at R0 R1 R2 R3 R4
            have F0 := D9.o.f0
            have F1 := D9.o.f1
            have F2 := D9.o.f2
            have F3 := D9.o.f3
            have F4 := D9.o.f4
            go_wp2_with fail
            generalize hS : World.setCell (World.setCell (World.setCell (World.setCell (World.setCell w9 _ _) _ _) _ _) _ _) _ _ = W8
            obtain ⟨O8, T8⟩ := own5 D9.o (.int .i64 8) (.string ⟨#[]⟩) (.int .i64 1) (.slice a9 1 c9) (.slice ab nb cb)
            rw [hS] at O8 T8
            clear hS R0 R1 R2 R3 R4 F0 F1 F2 F3 F4
            have p0 := O8.cell 0
            have p1 := O8.cell 1
            have p2 := O8.cell 2
            have p3 := O8.cell 3
            have p4 := O8.cell 4
            simp at p0 p1 p2 p3 p4
            have pz := O8.lt
            exact bodyPost_ret (v := .agg #[.int .i64 8, .string ⟨#[]⟩, .int .i64 1, .slice a9 1 c9, .slice ab nb cb]) (by simp [results, Tryz.results28, go_sem, p0, p1, p2, p3, p4, pz]) rfl ⟨⟨_, _, rfl, (DX.out.touch T8 (fun k hk => by simp at hk; omega)).base (by omega)⟩, D9.t.trans' T8 (fun k hk => Or.inr (by simp at hk; omega)), D9.c.touch' T8 (by simpa using Ne.symm hr)⟩
          · have hA2 := TA.ext ((XR wb).alloc (.cells #[.string ⟨#[113]⟩, .string ⟨#[114]⟩] 9))
            have xb : Ext wb (wb.alloc (.cells #[.string ⟨#[113]⟩, .string ⟨#[114]⟩] 9)) := (XR _).alloc _
            have DB4 := DB3.ext xb
            have RQ : Rep (wb.alloc (.cells #[.string ⟨#[113]⟩, .string ⟨#[114]⟩] 9)) (strs [⟨#[113]⟩, ⟨#[114]⟩]) [.slice (some ⟨wb.heap.size, 0, none⟩) 2 2] := rep_two wb ⟨#[113]⟩ ⟨#[114]⟩ _
            go_wp2_with (at_builtin; refine wpList_append_strs_o rfl _ _ rfl w6.heap.size _ [] rfl hA2 [⟨#[113]⟩, ⟨#[114]⟩] _ _ _ rfl RQ (by decide) (by first | omega | (simp; omega)) ?_)
            intro a4 c4 wd ac hg hat
            have zE := hg.size
            have TG : Touch (wb.alloc (.cells #[.string ⟨#[113]⟩, .string ⟨#[114]⟩] 9)) wd [w6.heap.size + 1] := (Touch.of_ext (XR _) _).grown hg fun k hk => Or.inl (by simp [Value.ownBlock] at hk; simp [hk])
            have DB5 := DB4.late hBl TG (fun k hk => by simp at hk; omega)
            replace PA := AccT.touch (PA.ext xb) TG (fun k hk => by have := hpo k hk; simp; omega)
            replace KC := (KC.trans (Touch.of_ext xb _)).trans' TG (fun k hk => Or.inr (by simp at hk; omega))
            replace TA := ac
            have zG : w6.heap.size + 2 <= wd.heap.size := by have := zE; simp at this; omega
            clear hA2 xb RQ hg hat TG DB4 DB3 ac
            obtain ⟨a5, c5, g5, e5, RP, -⟩ := AccT.rep PA
            obtain ⟨a6, c6, g6, e6, RT, -⟩ := AccT.rep TA
            injection e5 with e5 e5' e5''
            injection e6 with e6 e6' e6''
            clear e5' e6'
            subst e5 e5'' e6 e6''
            go_wp2_with fail
            refine (l3BlockD [⟨#[112]⟩] [⟨#[113]⟩, ⟨#[114]⟩] _ _ ab nb cb _ RP.rep RT.rep (by decide)).mono ?_
            rintro e w9 ⟨⟨a9, c9, g9, rfl, RN, hg9⟩, hx9⟩
            have D9 := DB5.ext hx9
            have KE := KC.trans (Touch.of_ext hx9 _)
            have HB9 := HB.touch KE (fun k hk => by simp at hk; omega)
            have zz := DB5.sz
            have DXX : DrX (w.heap.size + 1) (DB (dd + 1)) w9 ⟨8, ⟨#[]⟩, (1 : Nat), [⟨#[112]⟩] ++ [⟨#[113]⟩, ⟨#[114]⟩], l⟩ [.int .i64 8, .string ⟨#[]⟩, .int .i64 (1 : Nat), .slice a9 3 c9, .slice ab nb cb] := mk_blk (p := 1) (N := [⟨#[112]⟩] ++ [⟨#[113]⟩, ⟨#[114]⟩]) (n := 3) (by decide) rfl (by omega) (by omega) RN (fun k hk => by have := hg9 k hk; omega) HNB.out HB9 hl hn3 (fun k hk hm => by have := hg9 k hm; have := (Acw.ge HB hk).2; omega)
            have z1 := D9.sz
            have DX := LH (DXX)
            have R0 := D9.o.cell 0
            have R1 := D9.o.cell 1
            have R2 := D9.o.cell 2
            have R3 := D9.o.cell 3
            have R4 := D9.o.cell 4
            simp at R0 R1 R2 R3 R4
            have F0 := D9.o.f0
            have F1 := D9.o.f1
            have F2 := D9.o.f2
            have F3 := D9.o.f3
            have F4 := D9.o.f4
            go_wp2_with fail
            generalize hS : World.setCell (World.setCell (World.setCell (World.setCell (World.setCell w9 _ _) _ _) _ _) _ _) _ _ = W8
            obtain ⟨O8, T8⟩ := own5 D9.o (.int .i64 8) (.string ⟨#[]⟩) (.int .i64 1) (.slice a9 3 c9) (.slice ab nb cb)
            rw [hS] at O8 T8
            clear hS R0 R1 R2 R3 R4 F0 F1 F2 F3 F4
            have p0 := O8.cell 0
            have p1 := O8.cell 1
            have p2 := O8.cell 2
            have p3 := O8.cell 3
            have p4 := O8.cell 4
            simp at p0 p1 p2 p3 p4
            have pz := O8.lt
            exact bodyPost_ret (v := .agg #[.int .i64 8, .string ⟨#[]⟩, .int .i64 1, .slice a9 3 c9, .slice ab nb cb]) (by simp [results, Tryz.results28, go_sem, p0, p1, p2, p3, p4, pz]) rfl ⟨⟨_, _, rfl, (DX.out.touch T8 (fun k hk => by simp at hk; omega)).base (by omega)⟩, D9.t.trans' T8 (fun k hk => Or.inr (by simp at hk; omega)), D9.c.touch' T8 (by simpa using Ne.symm hr)⟩
      · go_wp2_with fail
        refine (IH.out w6 D6.c (hc.touch D6.t hB)).mono ?_
        rintro e w7 ⟨⟨x, vsx, rfl, Xx⟩, hT, hC2⟩
        have D7 := D6.call hr hT hC2
        obtain ⟨anx, cnx, akx, ckx, rfl⟩ := Xx.shape
        replace HB := HB.touch hT (fun k hk => by simp at hk; omega)
        have hown := fun k (hk : (Value.slice ab i cb).ownBlock = some k) => (Acw.ge HB hk)
        have ox := Xx.ok
        have x8 : Ext w7 (w7.alloc (.cells #[.int .i64 x.kind, .string x.text, .int .i64 x.number, .slice anx x.names.length cnx, .slice akx x.kids.length ckx] 27)) := (XR _).alloc _
        have za8 : (w7.alloc (.cells #[.int .i64 x.kind, .string x.text, .int .i64 x.number, .slice anx x.names.length cnx, .slice akx x.kids.length ckx] 27)).heap.size = w7.heap.size + 1 := by simp
        obtain ⟨fx, Rx, hfx⟩ := Xx.rep
        have hlx := Rx.lt
        have z7 := D7.sz
        have z6 := D6.sz
        have z67 := hT.size
        have KX : AccX w6.heap.size (w7.alloc (.cells #[.int .i64 x.kind, .string x.text, .int .i64 x.number, .slice anx x.names.length cnx, .slice akx x.kids.length ckx] 27)) (.slice (some ⟨w7.heap.size, 0, none⟩) 1 1) [x] := AccX.lit1 (Rx.ext x8) (own_new w7 _ _) z67 (fun k hk => ⟨hfx k hk, by have := hlx k hk; omega⟩)
        obtain ⟨gx, RX, hgx⟩ := AccX.rep' KX
        have RR := MExpr.shut (x := ⟨9, ⟨#[]⟩, 0, [], [x]⟩) (rep_nilT _) RX
        simp only [List.append_nil, List.nil_append] at RR
        have x9 : Ext (w7.alloc (.cells #[.int .i64 x.kind, .string x.text, .int .i64 x.number, .slice anx x.names.length cnx, .slice akx x.kids.length ckx] 27)) ((w7.alloc (.cells #[.int .i64 x.kind, .string x.text, .int .i64 x.number, .slice anx x.names.length cnx, .slice akx x.kids.length ckx] 27)).alloc (.cells #[.int .i64 9, .string ⟨#[]⟩, .int .i64 0, .slice none 0 0, .slice (some ⟨w7.heap.size, 0, none⟩) 1 1] 27)) := (XR _).alloc _
        have RO := one_expr (RR.ext x9) (own_new (w7.alloc (.cells #[.int .i64 x.kind, .string x.text, .int .i64 x.number, .slice anx x.names.length cnx, .slice akx x.kids.length ckx] 27)) _ _)
        rw [za8] at RO
        have D8 := (D7.ext x8).ext x9
        have HB8 := (Acw.ext HB x8).ext x9
        have oy : (MExpr.mk 9 ⟨#[]⟩ 0 [] [x]).d.ok /\ (MExpr.mk 9 ⟨#[]⟩ 0 [] [x]).d.bulk <= DB dd + 1 := ⟨ex_ok (by omega) (by decide) (by omega) trivial ⟨ox.1, trivial⟩, by
         rw [MExpr.bulk_eq]
         have e0 : (⟨#[]⟩ : ByteArray).size = 0 := rfl
         have := ox.2
         simp only [List.length_nil, List.length_cons, List.map_nil, List.map_cons, D.bulkL]
         omega⟩
        clear hT hC2 Xx KX
        go_wp2_with (at_builtin; refine wpList_append_x rfl _ _ rfl (w.heap.size + 1) _ l rfl HB8 [⟨9, ⟨#[]⟩, 0, [], [x]⟩] _ _ _ _ rfl RO (fun k hk => by have := hgx k hk; omega) (fun k hk hm => by have := hgx k hm; have := hlt5 k hk; omega) (by simp; omega) (by first | omega | (simp; omega)) ?_)
        intro q9 k9 w9 ac hg hat
        have TG : Touch ((w7.alloc (.cells #[.int .i64 x.kind, .string x.text, .int .i64 x.number, .slice anx x.names.length cnx, .slice akx x.kids.length ckx] 27)).alloc (.cells #[.int .i64 9, .string ⟨#[]⟩, .int .i64 0, .slice none 0 0, .slice (some ⟨w7.heap.size, 0, none⟩) 1 1] 27)) w9 (ownL (.slice ab i cb)) := (Touch.of_ext (XR _) _).grown hg fun k hk => Or.inl (ownL_mem hk)
        have D9 := D8.late hBl TG (fun k hk => by have := (hown k (ownL_of hk)).1; omega)
        have hl2 : FewX dd (l ++ [⟨9, ⟨#[]⟩, 0, [], [x]⟩]) := fun z hz => (List.mem_append.1 hz).elim (hl z) (fun hz => by simp at hz; subst hz; exact oy)
        clear hl HB HB8 hg hat TG D8 D7 D6 RO RR RX Rx hgx hfx hlx hown x8 x9 hlt5
        obtain ⟨L, hL⟩ : ∃ L, l ++ [⟨9, ⟨#[]⟩, 0, [], [x]⟩] = L := ⟨_, rfl⟩
        rw [hL] at ac hl2
        have hLl : L.length = i + 1 := by rw [<- hL]; simp [hll]
        have hn3 : L.length <= 3 := by omega
        clear hL hll ox oy
        obtain ⟨nb, hnb'⟩ : ∃ nb, nb = i + 1 := ⟨_, rfl⟩
        have HNB : Hid (nb = L.length) := LH (by omega)
        have HB : AccX (w.heap.size + 1) w9 (.slice q9 nb k9) L := by first | (rw [hnb']; exact ac) | (rw [hnb']; simpa using ac)
        clear ac
        simp only [<- hnb']
        clear hnb' hLl hi hlt
        have hl := hl2
        clear hl2
        have za : (w9.alloc (.cells #[] 9)).heap.size = w9.heap.size + 1 := by simp
        have xa : Ext w9 ((w9.alloc (.cells #[] 9)).alloc (.cells #[] 9)) := ((XR _).alloc _).alloc _
        have DA := D9.ext xa
        have PA : AccT w9.heap.size ((w9.alloc (.cells #[] 9)).alloc (.cells #[] 9)) (.slice (some ⟨w9.heap.size, 0, none⟩) 0 0) [] := AccT.ext (Acc.empty _ _ (Nat.le_refl _)) ((XR _).alloc _)
        have TA : AccT w9.heap.size ((w9.alloc (.cells #[] 9)).alloc (.cells #[] 9)) (.slice (some ⟨w9.heap.size + 1, 0, none⟩) 0 0) [] := by
         have h : AccT w9.heap.size ((w9.alloc (.cells #[] 9)).alloc (.cells #[] 9)) (.slice (some ⟨(w9.alloc (.cells #[] 9)).heap.size, 0, none⟩) 0 0) [] := Acc.empty _ _ (by omega)
         rwa [za] at h
        have KA : Touch w9 ((w9.alloc (.cells #[] 9)).alloc (.cells #[] 9)) [B] := Touch.of_ext xa _
        have zA : w9.heap.size + 2 <= ((w9.alloc (.cells #[] 9)).alloc (.cells #[] 9)).heap.size := by simp
        go_wp2_with fail
        refine (l1Once_c B v 2 _ DA.c (hc.touch DA.t hB) hB (by omega) (by omega)).mono ?_
        rintro e wa ⟨⟨b2, rfl⟩, hT, hC2⟩
        have DB2 := DA.call hr hT hC2
        have zb := D9.sz
        replace PA := AccT.touch PA hT (fun k hk => by simp [Value.ownBlock] at hk; simp; omega)
        replace TA := AccT.touch TA hT (fun k hk => by simp [Value.ownBlock] at hk; simp; omega)
        have KB := KA.trans hT
        have zC := Nat.le_trans zA hT.size
        clear hT hC2 KA DA xa za zA
        cases b2
        · have hpo : ∀ k, (Value.slice (some ⟨w9.heap.size, 0, none⟩) 0 0).ownBlock = some k -> k ≠ w9.heap.size + 1 /\ k ≠ B := fun k hk => by
           simp [Value.ownBlock] at hk
           omega
          go_wp2_with fail
          refine (l1Once_c B v 3 _ DB2.c (hc.touch DB2.t hB) hB (by omega) (by omega)).mono ?_
          rintro e wb ⟨⟨b3, rfl⟩, hT, hC2⟩
          have DB3 := DB2.call hr hT hC2
          replace PA := AccT.touch PA hT (fun k hk => by have := hpo k hk; simp; omega)
          replace TA := AccT.touch TA hT (fun k hk => by simp [Value.ownBlock] at hk; simp; omega)
          have KC := KB.trans hT
          have zD := Nat.le_trans zC hT.size
          clear hT hC2 KB DB2 zC
          cases b3
          · have zG := zD
            obtain ⟨a5, c5, g5, e5, RP, -⟩ := AccT.rep PA
            obtain ⟨a6, c6, g6, e6, RT, -⟩ := AccT.rep TA
            injection e5 with e5 e5' e5''
            injection e6 with e6 e6' e6''
            clear e5' e6'
            subst e5 e5'' e6 e6''
            go_wp2_with fail
            refine (l3BlockD [] [] _ _ q9 nb k9 _ RP.rep RT.rep (by decide)).mono ?_
            rintro e w10 ⟨⟨a9, c9, g9, rfl, RN, hg9⟩, hx9⟩
            have D10 := DB3.ext hx9
            have KE := KC.trans (Touch.of_ext hx9 _)
            have HB9 := HB.touch KE (fun k hk => by simp at hk; omega)
            have zz := DB3.sz
            have DXX : DrX (w.heap.size + 1) (DB (dd + 1)) w10 ⟨8, ⟨#[]⟩, (0 : Nat), [] ++ [], L⟩ [.int .i64 8, .string ⟨#[]⟩, .int .i64 (0 : Nat), .slice a9 0 c9, .slice q9 nb k9] := mk_blk (p := 0) (N := [] ++ []) (n := 0) (by decide) rfl (by omega) (by omega) RN (fun k hk => by have := hg9 k hk; omega) HNB.out HB9 hl hn3 (fun k hk hm => by have := hg9 k hm; have := (Acw.ge HB hk).2; omega)
            have z1 := D10.sz
            have DX := LH (DXX)
            have R0 := D10.o.cell 0
            have R1 := D10.o.cell 1
            have R2 := D10.o.cell 2
            have R3 := D10.o.cell 3
            have R4 := D10.o.cell 4
            simp at R0 R1 R2 R3 R4
            have F0 := D10.o.f0
            have F1 := D10.o.f1
            have F2 := D10.o.f2
            have F3 := D10.o.f3
            have F4 := D10.o.f4
            go_wp2_with fail
            generalize hS : World.setCell (World.setCell (World.setCell (World.setCell (World.setCell w10 _ _) _ _) _ _) _ _) _ _ = W8
            obtain ⟨O8, T8⟩ := own5 D10.o (.int .i64 8) (.string ⟨#[]⟩) (.int .i64 0) (.slice a9 0 c9) (.slice q9 nb k9)
            rw [hS] at O8 T8
            clear hS R0 R1 R2 R3 R4 F0 F1 F2 F3 F4
            have p0 := O8.cell 0
            have p1 := O8.cell 1
            have p2 := O8.cell 2
            have p3 := O8.cell 3
            have p4 := O8.cell 4
            simp at p0 p1 p2 p3 p4
            have pz := O8.lt
            exact bodyPost_ret (v := .agg #[.int .i64 8, .string ⟨#[]⟩, .int .i64 0, .slice a9 0 c9, .slice q9 nb k9]) (by simp [results, Tryz.results28, go_sem, p0, p1, p2, p3, p4, pz]) rfl ⟨⟨_, _, rfl, (DX.out.touch T8 (fun k hk => by simp at hk; omega)).base (by omega)⟩, D10.t.trans' T8 (fun k hk => Or.inr (by simp at hk; omega)), D10.c.touch' T8 (by simpa using Ne.symm hr)⟩
          · have hA2 := TA.ext ((XR wb).alloc (.cells #[.string ⟨#[113]⟩, .string ⟨#[114]⟩] 9))
            have xb : Ext wb (wb.alloc (.cells #[.string ⟨#[113]⟩, .string ⟨#[114]⟩] 9)) := (XR _).alloc _
            have DB4 := DB3.ext xb
            have RQ : Rep (wb.alloc (.cells #[.string ⟨#[113]⟩, .string ⟨#[114]⟩] 9)) (strs [⟨#[113]⟩, ⟨#[114]⟩]) [.slice (some ⟨wb.heap.size, 0, none⟩) 2 2] := rep_two wb ⟨#[113]⟩ ⟨#[114]⟩ _
            go_wp2_with (at_builtin; refine wpList_append_strs_o rfl _ _ rfl w9.heap.size _ [] rfl hA2 [⟨#[113]⟩, ⟨#[114]⟩] _ _ _ rfl RQ (by decide) (by first | omega | (simp; omega)) ?_)
            intro a4 c4 wd ac hg hat
            have zE := hg.size
            have TG : Touch (wb.alloc (.cells #[.string ⟨#[113]⟩, .string ⟨#[114]⟩] 9)) wd [w9.heap.size + 1] := (Touch.of_ext (XR _) _).grown hg fun k hk => Or.inl (by simp [Value.ownBlock] at hk; simp [hk])
            have DB5 := DB4.late hBl TG (fun k hk => by simp at hk; omega)
            replace PA := AccT.touch (PA.ext xb) TG (fun k hk => by have := hpo k hk; simp; omega)
            replace KC := (KC.trans (Touch.of_ext xb _)).trans' TG (fun k hk => Or.inr (by simp at hk; omega))
            replace TA := ac
            have zG : w9.heap.size + 2 <= wd.heap.size := by have := zE; simp at this; omega
            clear hA2 xb RQ hg hat TG DB4 DB3 ac
            obtain ⟨a5, c5, g5, e5, RP, -⟩ := AccT.rep PA
            obtain ⟨a6, c6, g6, e6, RT, -⟩ := AccT.rep TA
            injection e5 with e5 e5' e5''
            injection e6 with e6 e6' e6''
            clear e5' e6'
            subst e5 e5'' e6 e6''
            go_wp2_with fail
            refine (l3BlockD [] [⟨#[113]⟩, ⟨#[114]⟩] _ _ q9 nb k9 _ RP.rep RT.rep (by decide)).mono ?_
            rintro e w10 ⟨⟨a9, c9, g9, rfl, RN, hg9⟩, hx9⟩
            have D10 := DB5.ext hx9
            have KE := KC.trans (Touch.of_ext hx9 _)
            have HB9 := HB.touch KE (fun k hk => by simp at hk; omega)
            have zz := DB5.sz
            have DXX : DrX (w.heap.size + 1) (DB (dd + 1)) w10 ⟨8, ⟨#[]⟩, (0 : Nat), [] ++ [⟨#[113]⟩, ⟨#[114]⟩], L⟩ [.int .i64 8, .string ⟨#[]⟩, .int .i64 (0 : Nat), .slice a9 2 c9, .slice q9 nb k9] := mk_blk (p := 0) (N := [] ++ [⟨#[113]⟩, ⟨#[114]⟩]) (n := 2) (by decide) rfl (by omega) (by omega) RN (fun k hk => by have := hg9 k hk; omega) HNB.out HB9 hl hn3 (fun k hk hm => by have := hg9 k hm; have := (Acw.ge HB hk).2; omega)
            have z1 := D10.sz
            have DX := LH (DXX)
            have R0 := D10.o.cell 0
            have R1 := D10.o.cell 1
            have R2 := D10.o.cell 2
            have R3 := D10.o.cell 3
            have R4 := D10.o.cell 4
            simp at R0 R1 R2 R3 R4
            have F0 := D10.o.f0
            have F1 := D10.o.f1
            have F2 := D10.o.f2
            have F3 := D10.o.f3
            have F4 := D10.o.f4
            go_wp2_with fail
            generalize hS : World.setCell (World.setCell (World.setCell (World.setCell (World.setCell w10 _ _) _ _) _ _) _ _) _ _ = W8
            obtain ⟨O8, T8⟩ := own5 D10.o (.int .i64 8) (.string ⟨#[]⟩) (.int .i64 0) (.slice a9 2 c9) (.slice q9 nb k9)
            rw [hS] at O8 T8
            clear hS R0 R1 R2 R3 R4 F0 F1 F2 F3 F4
            have p0 := O8.cell 0
            have p1 := O8.cell 1
            have p2 := O8.cell 2
            have p3 := O8.cell 3
            have p4 := O8.cell 4
            simp at p0 p1 p2 p3 p4
            have pz := O8.lt
            exact bodyPost_ret (v := .agg #[.int .i64 8, .string ⟨#[]⟩, .int .i64 0, .slice a9 2 c9, .slice q9 nb k9]) (by simp [results, Tryz.results28, go_sem, p0, p1, p2, p3, p4, pz]) rfl ⟨⟨_, _, rfl, (DX.out.touch T8 (fun k hk => by simp at hk; omega)).base (by omega)⟩, D10.t.trans' T8 (fun k hk => Or.inr (by simp at hk; omega)), D10.c.touch' T8 (by simpa using Ne.symm hr)⟩
        · have hA2 := PA.ext ((XR wa).alloc (.cells #[.string ⟨#[112]⟩] 9))
          have xb : Ext wa (wa.alloc (.cells #[.string ⟨#[112]⟩] 9)) := (XR _).alloc _
          have D12 := DB2.ext xb
          go_wp2_with (at_builtin; refine wpList_append_strs_o rfl _ _ rfl w9.heap.size _ [] rfl hA2 [⟨#[112]⟩] _ _ _ rfl (rep_one _ _) (by decide) (by first | omega | (simp; omega)) ?_)
          intro a3 c3 wc ac hg hat
          have hat2 : ∀ k, (Value.slice a3 1 c3).ownBlock = some k -> k ≠ w9.heap.size + 1 /\ k ≠ B := fun k hk => by
           rcases hat with h | h
           · have h' := h.symm.trans hk
             simp [Value.ownBlock] at h'
             omega
           · have h' := h.symm.trans hk
             simp at h'
             omega
          have hpo := hat2
          have zE := hg.size
          have TG : Touch (wa.alloc (.cells #[.string ⟨#[112]⟩] 9)) wc [w9.heap.size] := (Touch.of_ext (XR _) _).grown hg fun k hk => Or.inl (by simp [Value.ownBlock] at hk; simp [hk])
          have zF : w9.heap.size + 2 <= wc.heap.size := by have := hg.size; simp at this; omega
          have D13 := D12.late hBl TG (fun k hk => by simp at hk; omega)
          replace TA := AccT.touch (TA.ext xb) TG (fun k hk => by simp [Value.ownBlock] at hk; simp; omega)
          replace KB := (KB.trans (Touch.of_ext xb _)).trans' TG (fun k hk => Or.inr (by simp at hk; omega))
          replace PA := ac
          clear hA2 xb hg hat hat2 TG D12 DB2 ac zC zE
          have DB2 := D13
          have zC := zF
          clear D13 zF
          go_wp2_with fail
          refine (l1Once_c B v 3 _ DB2.c (hc.touch DB2.t hB) hB (by omega) (by omega)).mono ?_
          rintro e wb ⟨⟨b3, rfl⟩, hT, hC2⟩
          have DB3 := DB2.call hr hT hC2
          replace PA := AccT.touch PA hT (fun k hk => by have := hpo k hk; simp; omega)
          replace TA := AccT.touch TA hT (fun k hk => by simp [Value.ownBlock] at hk; simp; omega)
          have KC := KB.trans hT
          have zD := Nat.le_trans zC hT.size
          clear hT hC2 KB DB2 zC
          cases b3
          · have zG := zD
            obtain ⟨a5, c5, g5, e5, RP, -⟩ := AccT.rep PA
            obtain ⟨a6, c6, g6, e6, RT, -⟩ := AccT.rep TA
            injection e5 with e5 e5' e5''
            injection e6 with e6 e6' e6''
            clear e5' e6'
            subst e5 e5'' e6 e6''
            go_wp2_with fail
            refine (l3BlockD [⟨#[112]⟩] [] _ _ q9 nb k9 _ RP.rep RT.rep (by decide)).mono ?_
            rintro e w10 ⟨⟨a9, c9, g9, rfl, RN, hg9⟩, hx9⟩
            have D10 := DB3.ext hx9
            have KE := KC.trans (Touch.of_ext hx9 _)
            have HB9 := HB.touch KE (fun k hk => by simp at hk; omega)
            have zz := DB3.sz
            have DXX : DrX (w.heap.size + 1) (DB (dd + 1)) w10 ⟨8, ⟨#[]⟩, (1 : Nat), [⟨#[112]⟩] ++ [], L⟩ [.int .i64 8, .string ⟨#[]⟩, .int .i64 (1 : Nat), .slice a9 1 c9, .slice q9 nb k9] := mk_blk (p := 1) (N := [⟨#[112]⟩] ++ []) (n := 1) (by decide) rfl (by omega) (by omega) RN (fun k hk => by have := hg9 k hk; omega) HNB.out HB9 hl hn3 (fun k hk hm => by have := hg9 k hm; have := (Acw.ge HB hk).2; omega)
            have z1 := D10.sz
            have DX := LH (DXX)
            have R0 := D10.o.cell 0
            have R1 := D10.o.cell 1
            have R2 := D10.o.cell 2
            have R3 := D10.o.cell 3
            have R4 := D10.o.cell 4
            simp at R0 R1 R2 R3 R4
            have F0 := D10.o.f0
            have F1 := D10.o.f1
            have F2 := D10.o.f2
            have F3 := D10.o.f3
            have F4 := D10.o.f4
            go_wp2_with fail
            generalize hS : World.setCell (World.setCell (World.setCell (World.setCell (World.setCell w10 _ _) _ _) _ _) _ _) _ _ = W8
            obtain ⟨O8, T8⟩ := own5 D10.o (.int .i64 8) (.string ⟨#[]⟩) (.int .i64 1) (.slice a9 1 c9) (.slice q9 nb k9)
            rw [hS] at O8 T8
            clear hS R0 R1 R2 R3 R4 F0 F1 F2 F3 F4
            have p0 := O8.cell 0
            have p1 := O8.cell 1
            have p2 := O8.cell 2
            have p3 := O8.cell 3
            have p4 := O8.cell 4
            simp at p0 p1 p2 p3 p4
            have pz := O8.lt
            exact bodyPost_ret (v := .agg #[.int .i64 8, .string ⟨#[]⟩, .int .i64 1, .slice a9 1 c9, .slice q9 nb k9]) (by simp [results, Tryz.results28, go_sem, p0, p1, p2, p3, p4, pz]) rfl ⟨⟨_, _, rfl, (DX.out.touch T8 (fun k hk => by simp at hk; omega)).base (by omega)⟩, D10.t.trans' T8 (fun k hk => Or.inr (by simp at hk; omega)), D10.c.touch' T8 (by simpa using Ne.symm hr)⟩
          · have hA2 := TA.ext ((XR wb).alloc (.cells #[.string ⟨#[113]⟩, .string ⟨#[114]⟩] 9))
            have xb : Ext wb (wb.alloc (.cells #[.string ⟨#[113]⟩, .string ⟨#[114]⟩] 9)) := (XR _).alloc _
            have DB4 := DB3.ext xb
            have RQ : Rep (wb.alloc (.cells #[.string ⟨#[113]⟩, .string ⟨#[114]⟩] 9)) (strs [⟨#[113]⟩, ⟨#[114]⟩]) [.slice (some ⟨wb.heap.size, 0, none⟩) 2 2] := rep_two wb ⟨#[113]⟩ ⟨#[114]⟩ _
            go_wp2_with (at_builtin; refine wpList_append_strs_o rfl _ _ rfl w9.heap.size _ [] rfl hA2 [⟨#[113]⟩, ⟨#[114]⟩] _ _ _ rfl RQ (by decide) (by first | omega | (simp; omega)) ?_)
            intro a4 c4 wd ac hg hat
            have zE := hg.size
            have TG : Touch (wb.alloc (.cells #[.string ⟨#[113]⟩, .string ⟨#[114]⟩] 9)) wd [w9.heap.size + 1] := (Touch.of_ext (XR _) _).grown hg fun k hk => Or.inl (by simp [Value.ownBlock] at hk; simp [hk])
            have DB5 := DB4.late hBl TG (fun k hk => by simp at hk; omega)
            replace PA := AccT.touch (PA.ext xb) TG (fun k hk => by have := hpo k hk; simp; omega)
            replace KC := (KC.trans (Touch.of_ext xb _)).trans' TG (fun k hk => Or.inr (by simp at hk; omega))
            replace TA := ac
            have zG : w9.heap.size + 2 <= wd.heap.size := by have := zE; simp at this; omega
            clear hA2 xb RQ hg hat TG DB4 DB3 ac
            obtain ⟨a5, c5, g5, e5, RP, -⟩ := AccT.rep PA
            obtain ⟨a6, c6, g6, e6, RT, -⟩ := AccT.rep TA
            injection e5 with e5 e5' e5''
            injection e6 with e6 e6' e6''
            clear e5' e6'
            subst e5 e5'' e6 e6''
            go_wp2_with fail
            refine (l3BlockD [⟨#[112]⟩] [⟨#[113]⟩, ⟨#[114]⟩] _ _ q9 nb k9 _ RP.rep RT.rep (by decide)).mono ?_
            rintro e w10 ⟨⟨a9, c9, g9, rfl, RN, hg9⟩, hx9⟩
            have D10 := DB5.ext hx9
            have KE := KC.trans (Touch.of_ext hx9 _)
            have HB9 := HB.touch KE (fun k hk => by simp at hk; omega)
            have zz := DB5.sz
            have DXX : DrX (w.heap.size + 1) (DB (dd + 1)) w10 ⟨8, ⟨#[]⟩, (1 : Nat), [⟨#[112]⟩] ++ [⟨#[113]⟩, ⟨#[114]⟩], L⟩ [.int .i64 8, .string ⟨#[]⟩, .int .i64 (1 : Nat), .slice a9 3 c9, .slice q9 nb k9] := mk_blk (p := 1) (N := [⟨#[112]⟩] ++ [⟨#[113]⟩, ⟨#[114]⟩]) (n := 3) (by decide) rfl (by omega) (by omega) RN (fun k hk => by have := hg9 k hk; omega) HNB.out HB9 hl hn3 (fun k hk hm => by have := hg9 k hm; have := (Acw.ge HB hk).2; omega)
            have z1 := D10.sz
            have DX := LH (DXX)
            have R0 := D10.o.cell 0
            have R1 := D10.o.cell 1
            have R2 := D10.o.cell 2
            have R3 := D10.o.cell 3
            have R4 := D10.o.cell 4
            simp at R0 R1 R2 R3 R4
            have F0 := D10.o.f0
            have F1 := D10.o.f1
            have F2 := D10.o.f2
            have F3 := D10.o.f3
            have F4 := D10.o.f4
            go_wp2_with fail
            generalize hS : World.setCell (World.setCell (World.setCell (World.setCell (World.setCell w10 _ _) _ _) _ _) _ _) _ _ = W8
            obtain ⟨O8, T8⟩ := own5 D10.o (.int .i64 8) (.string ⟨#[]⟩) (.int .i64 1) (.slice a9 3 c9) (.slice q9 nb k9)
            rw [hS] at O8 T8
            clear hS R0 R1 R2 R3 R4 F0 F1 F2 F3 F4
            have p0 := O8.cell 0
            have p1 := O8.cell 1
            have p2 := O8.cell 2
            have p3 := O8.cell 3
            have p4 := O8.cell 4
            simp at p0 p1 p2 p3 p4
            have pz := O8.lt
            exact bodyPost_ret (v := .agg #[.int .i64 8, .string ⟨#[]⟩, .int .i64 1, .slice a9 3 c9, .slice q9 nb k9]) (by simp [results, Tryz.results28, go_sem, p0, p1, p2, p3, p4, pz]) rfl ⟨⟨_, _, rfl, (DX.out.touch T8 (fun k hk => by simp at hk; omega)).base (by omega)⟩, D10.t.trans' T8 (fun k hk => Or.inr (by simp at hk; omega)), D10.c.touch' T8 (by simpa using Ne.symm hr)⟩
theorem draw_all (B : Nat) (v : Value) (hB : Off v B) : ∀ d, d <= 10 -> DrawAt d B v
 | 0, _ => fun W hC hc => draw_zero B v W hC hc hB
 | d + 1, hd => fun W hC hc => by
  have h := draw_step d (by omega) B v W hC hc hB (LH (draw_all B v hB d (by omega)))
  exact h
end Go.Proofs.YtndhpbjhkgdieaaGreatDoor
