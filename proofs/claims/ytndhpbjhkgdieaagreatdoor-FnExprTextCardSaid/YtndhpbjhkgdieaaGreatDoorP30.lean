/-
  SEVERAL TEXTS IN ONE: CONTRACTS: l3Bent, DrawFormatExpr: drawn trees, bent; PLAIN: what ParseExpr gives; the tokens of a text as a parser holds them; CONTRACTS: the program's parser: binary expressions; CONTRACTS: the program's parser: keyword messages.
  Conditions: those that each lemma states.
-/
import Derived.Test.YtndhpbjhkgdieaaGreatDoorRows
import Derived.Test.YtndhpbjhkgdieaaGreatDoorP29
import Derived.Test.YtndhpbjhkgdieaaGreatDoorP24
import Derived.Test.YtndhpbjhkgdieaaGreatDoorP14
import Derived.Test.YtndhpbjhkgdieaaGreatDoorP15
import Derived.Test.YtndhpbjhkgdieaaGreatDoorP22
import Derived.Test.YtndhpbjhkgdieaaGreatDoorP27
namespace Go.Proofs.YtndhpbjhkgdieaaGreatDoor
open Go.RowKit
set_option maxHeartbeats 8000000
set_option maxRecDepth 100000
set_option linter.unusedSimpArgs false
set_option linter.unusedVariables false
def drB : List ByteArray := [⟨#[]⟩, ⟨#[99, 108, 97, 115, 115]⟩, ⟨#[97, 58]⟩, ⟨#[120]⟩]
theorem drB_sz : ∀ s, s ∈ drB -> s.size <= 11 := by decide
def TreeX (B0 lim : Nat) (w : World) (e : Ending) : Prop := ∃ x vs fp, e = .returned (.agg (List.toArray vs)) /\ RepF w (MExpr.d x) vs fp /\ (∀ k, k ∈ fp -> B0 <= k) /\ x.d.ok /\ x.d.bulk <= lim
theorem treeX {B0 lim : Nat} {w : World} {k n : Int} {t : ByteArray} {nm : List ByteArray} {l : List MExpr} {an ak : Option Addr} {m1 m2 cn ck : Nat} {fn fk : List Nat} (h1 : 0 <= k /\ k <= 100) (h2 : t.size <= 100) (h3 : 0 <= n /\ n <= 1000000000) (h4 : D.okL (nm.map .str)) (h5 : D.okL (l.map MExpr.d))
 (rn : RepF w (strs nm) [.slice an m1 cn] fn) (rk : RepF w (MExprs l) [.slice ak m2 ck] fk) (g1 : ∀ k, k ∈ fn -> B0 <= k) (g2 : ∀ k, k ∈ fk -> B0 <= k) (hb : t.size + (nm.length + D.bulkL (nm.map .str)) + wtL l <= lim) : TreeX B0 lim w (.returned (.agg #[.int .i64 k, .string t, .int .i64 n, .slice an m1 cn, .slice ak m2 ck])) :=
 ⟨⟨k, t, n, nm, l⟩, _, _, rfl, MExpr.shut (x := ⟨k, t, n, nm, l⟩) rn rk, (fun k hk => by
  simp only [List.append_nil, List.mem_append] at hk
  exact hk.elim (g1 k) (g2 k)), ex_ok h1 h2 h3 h4 h5, by rw [MExpr.bulk_eq]; unfold wtL at hb; simp only; omega⟩
theorem drx_open {B0 lim : Nat} {w : World} {x : MExpr} {an ak : Option Addr} {cn ck : Nat} (h : DrX B0 lim w x [.int .i64 x.kind, .string x.text, .int .i64 x.number, .slice an x.names.length cn, .slice ak x.kids.length ck]) :
 ∃ fn, RepF w (strs x.names) [.slice an x.names.length cn] fn /\ (∀ k, k ∈ fn -> B0 <= k) /\ AccX B0 w (.slice ak x.kids.length ck) x.kids /\ D.okL (x.names.map .str) /\ D.okL (x.kids.map MExpr.d) /\ x.text.size + (x.names.length + D.bulkL (x.names.map .str)) + wtL x.kids <= lim /\ (0 <= x.number /\ x.number <= 999999999) /\ (0 <= x.kind /\ x.kind <= 100) /\ x.text.size <= 100 /\ ∀ k, (Value.slice ak x.kids.length ck).ownBlock = some k -> k ∉ fn := by
 obtain ⟨an', cn', ak', ck', fn, h0, h1, h2, h3, h4, h5, h6⟩ := h
 simp only [List.cons.injEq, Value.slice.injEq, true_and, and_true] at h0
 obtain ⟨⟨rfl, rfl⟩, rfl, rfl⟩ := h0
 rw [MExpr.bulk_eq] at h5
 rw [MExpr.d_eq] at h4
 simp only [D.ok, D.okL, strs, MExprs] at h4
 exact ⟨fn, h1, h2, h3, h4.2.2.2.1, h4.2.2.2.2.1, by unfold wtL; omega, h6⟩
theorem okL_app : ∀ {xs ys : List D}, D.okL xs -> D.okL ys -> D.okL (xs ++ ys)
 | [], _, _, h => h
 | _ :: _, _, h1, h2 => ⟨h1.1, okL_app h1.2 h2⟩
theorem Acw.toS {B0 : Nat} {w : World} {e : TypeId} {size : Nat} {v : Value} {ds : List D} (h : Acw B0 w e size v ds) : AcwS (fun k => B0 <= k /\ k < w.heap.size) B0 w e size v ds := by
 obtain ⟨xs, fp, h1, h2, h3, h4⟩ := h
 exact ⟨xs, fp, h1, h2, fun k hk => ⟨h3 k hk, h2.lt _ _ k hk⟩, h4⟩
def nmOf (x : MExpr) : Nat := x.names.length + D.bulkL (x.names.map .str) + wtL x.kids
theorem l3Bent_any (B : Nat) (v : Value) (w : World) (hC : Cur w B v) (hc : Bytes w v) (hB : Off v B) :
 Calls Tryz.prog 14 #[.pointer (some ⟨B, 0, none⟩)] w fun e w' => TreeX w.heap.size 5000 w' e /\ Touch w w' [B] := by
 have hBl := hC.lt
 have hr : w.heap.size ≠ B := by omega
 go_enter Tryz.func14, Tryz.ntmps14
 go_upto_region 1 with fail
 generalize hS : World.alloc w _ = W1
 have D1 : DS w B v W1 := DS.start hC _ hS
 clear hS
 go_wp2_with fail
 refine (draw_all B v hB 3 (by decide) W1 D1.c (hc.touch D1.t hB)).mono ?_
 rintro e w2 ⟨⟨x, vs, rfl, Xx⟩, hT, hC2⟩
 have D2 := D1.call hr hT hC2
 replace Xx := Xx.base D1.sz
 obtain ⟨an, cn, ak, ck, rfl⟩ := Xx.shape
 clear hT hC2 hC D1
 obtain ⟨fn, RN, hfn, HK, okn, okk, hbk, ⟨hn0, hn1⟩, hkd, htx, hnof⟩ := drx_open Xx
 have hfl := RN.lt
 obtain ⟨gk, RK, hgk⟩ := HK.rep'
 have hgl := RK.lt
 have HS := Acw.toS HK
 have KN : Hid (∀ W, Touch w2 W [B, w2.heap.size, w.heap.size] -> RepF W (strs x.names) [.slice an x.names.length cn] fn /\ RepF W (MExprs x.kids) [.slice ak x.kids.length ck] gk) := LH fun W hW =>
  ⟨RN.touch hW (fun k hk hm => by have := hfn k hk; have := hfl k hk; simp at hm; omega), RK.touch hW (fun k hk hm => by have := hgk k hk; have := hgl k hk; simp at hm; omega)⟩
 have KD : Hid (DB 3 = 1840) := LH rfl
 rw [KD.out] at hbk
 have okx := Xx.ok.1
 have RNK : Hid (∀ W, Touch w2 W (ownL (.slice ak x.kids.length ck) ++ [B, w2.heap.size, w.heap.size]) -> RepF W (strs x.names) [.slice an x.names.length cn] fn) := LH fun W hW => RN.touch hW (fun k hk hm => by
  rcases List.mem_append.1 hm with hm | hm
  · exact hnof k (ownL_of hm) hk
  · have := hfn k hk; have := hfl k hk; simp at hm; omega)
 clear Xx HK RK KD RN
 go_upto_region 2 with fail
 have x3 : Ext w2 (w2.alloc (.cells #[.int .i64 x.kind, .string x.text, .int .i64 x.number, .slice an x.names.length cn, .slice ak x.kids.length ck] 27)) := (XR _).alloc _
 have D3 := D2.ext x3
 have O3 : Own (w2.alloc (.cells #[.int .i64 x.kind, .string x.text, .int .i64 x.number, .slice an x.names.length cn, .slice ak x.kids.length ck] 27)) w2.heap.size 27 #[.int .i64 x.kind, .string x.text, .int .i64 x.number, .slice an x.names.length cn, .slice ak x.kids.length ck] := own_new w2 _ _
 have HS3 := AcwS.ext HS x3
 have z2 := D2.sz
 have T3 : Touch w2 (w2.alloc (.cells #[.int .i64 x.kind, .string x.text, .int .i64 x.number, .slice an x.names.length cn, .slice ak x.kids.length ck] 27)) [B, w2.heap.size, w.heap.size] := Touch.of_ext x3 _
 generalize hS : World.alloc w2 _ = W3 at *
 clear hS D2 x3
 go_wp2_with fail
 refine (l1Below_cur B v 12 _ D3.c (hc.touch D3.t hB) hB (by omega) (by omega)).mono ?_
 rintro e w4 ⟨⟨m, rfl, hm⟩, hT, hC2⟩
 have D4 := D3.call hr hT hC2
 have O4 := O3.touch' hT (by simp; omega)
 have HS4 := AcwS.touch HS3 hT (fun k hk => by
  simp at hk
  subst hk
  refine ⟨fun h => by have := h.1; omega, fun h => ?_⟩
  have := (AcwS.ge HS h).1
  omega)
 have T4 := T3.trans (hT.mono (fun k hk => by simp at hk; simp [hk]))
 clear hT hC2 O3 D3 HS3 T3
 have hnd : nmOf x <= 1840 := by unfold nmOf; omega
 have E0 := O4.cell 0
 have E1 := O4.cell 1
 have E2 := O4.cell 2
 have E3 := O4.cell 3
 have E4 := O4.cell 4
 simp at E0 E1 E2 E3 E4
 have G0 := O4.f0
 have G1 := O4.f1
 have G2 := O4.f2
 have G3 := O4.f3
 have G4 := O4.f4
 have ez := O4.lt
 rcases (show m = 0 ∨ m = 1 ∨ m = 2 ∨ m = 3 ∨ m = 4 ∨ 5 <= m by omega) with rfl | rfl | rfl | rfl | rfl | hm5
 · have OO := O4
   have DD := D4
   have TT := T4
   clear O4 D4 T4 HS4
   have hw1 : wrap64 (x.number + 1) = x.number + 1 := by unfold wrap64; omega
   go_upto_region 13 with fail
   generalize hS : World.setCell w4 _ _ = W5
   have O5 : Own W5 w2.heap.size 27 #[.int .i64 x.kind, .string x.text, .int .i64 (x.number + 1), .slice an x.names.length cn, .slice ak x.kids.length ck] := by rw [<- hS]; exact OO.set 2 _
   have T5 : Touch w4 W5 [w2.heap.size] := by rw [<- hS]; exact (Touch.of_ext (XR _) _).setCell (by simp) _
   clear hS E0 E1 E2 E3 E4 G0 G1 G2 G3 G4 ez OO
   have D5 := DD.late hBl T5 (fun k hk => by simp at hk; omega)
   have T6 := TT.trans (T5.mono (fun k hk => by simp at hk; simp [hk]))
   have E0 := O5.cell 0
   have E1 := O5.cell 1
   have E2 := O5.cell 2
   have E3 := O5.cell 3
   have E4 := O5.cell 4
   simp at E0 E1 E2 E3 E4
   have ez := O5.lt
   have z1 := D5.sz
   have R0 := D5.o.cell 0
   have R1 := D5.o.cell 1
   have R2 := D5.o.cell 2
   have R3 := D5.o.cell 3
   have R4 := D5.o.cell 4
   simp at R0 R1 R2 R3 R4
   have F0 := D5.o.f0
   have F1 := D5.o.f1
   have F2 := D5.o.f2
   have F3 := D5.o.f3
   have F4 := D5.o.f4
   go_wp2_with fail
   generalize hS : World.setCell (World.setCell (World.setCell (World.setCell (World.setCell W5 _ _) _ _) _ _) _ _) _ _ = W8
   obtain ⟨O8, T8⟩ := own5 D5.o (.int .i64 x.kind) (.string x.text) (.int .i64 (x.number + 1)) (.slice an x.names.length cn) (.slice ak x.kids.length ck)
   rw [hS] at O8 T8
   clear hS R0 R1 R2 R3 R4 F0 F1 F2 F3 F4
   have p0 := O8.cell 0
   have p1 := O8.cell 1
   have p2 := O8.cell 2
   have p3 := O8.cell 3
   have p4 := O8.cell 4
   simp at p0 p1 p2 p3 p4
   have pz := O8.lt
   have T9 : Touch w2 W8 [B, w2.heap.size, w.heap.size] := (T6).trans (T8.mono (fun k hk => by simp at hk; simp [hk]))
   have hlt8 : ∀ k, w.heap.size + 1 <= k -> k ∉ [w.heap.size] := fun k hk hm => by simp at hm; omega
   exact bodyPost_ret (v := .agg #[.int .i64 x.kind, .string x.text, .int .i64 (x.number + 1), .slice an x.names.length cn, .slice ak x.kids.length ck]) (by simp [results, Tryz.results14, go_sem, p0, p1, p2, p3, p4, pz]) rfl ⟨(treeX (k := x.kind) (t := x.text) (n := (x.number + 1)) (nm := x.names) (l := x.kids) (by omega) (by first | omega | decide) (by omega) okn okk (KN.out _ T9).1 (KN.out _ T9).2 (fun k hk => by have := hfn k hk; omega) (fun k hk => by have := hgk k hk; omega) (by unfold nmOf at hnd; omega)), D5.t.trans' T8 (fun k hk => Or.inr (by simp at hk; omega))⟩
 · go_wp2_with fail
   refine (pick_c B v drB _ w w4 D4 hc hB hr (by decide) (by decide)).mono ?_
   rintro e w5 ⟨⟨s, rfl, hs⟩, DD, hT⟩
   have zs := drB_sz s hs
   clear hs
   have OO := O4.touch' ((Touch.of_ext (XR _) [B]).trans hT) (by simp; omega)
   have TT := T4.trans (hT.mono (fun k hk => by simp at hk; simp [hk]))
   clear hT D4 O4 T4 HS4 E0 E1 E2 E3 E4 G0 G1 G2 G3 G4 ez
   have E0 := OO.cell 0
   have E1 := OO.cell 1
   have E2 := OO.cell 2
   have E3 := OO.cell 3
   have E4 := OO.cell 4
   simp at E0 E1 E2 E3 E4
   have G0 := OO.f0
   have G1 := OO.f1
   have G2 := OO.f2
   have G3 := OO.f3
   have G4 := OO.f4
   have ez := OO.lt
   go_upto_region 13 with fail
   generalize hS : World.setCell w5 _ _ = W5
   have O5 : Own W5 w2.heap.size 27 #[.int .i64 x.kind, .string s, .int .i64 x.number, .slice an x.names.length cn, .slice ak x.kids.length ck] := by rw [<- hS]; exact OO.set 1 _
   have T5 : Touch w5 W5 [w2.heap.size] := by rw [<- hS]; exact (Touch.of_ext (XR _) _).setCell (by simp) _
   clear hS E0 E1 E2 E3 E4 G0 G1 G2 G3 G4 ez OO
   have D5 := DD.late hBl T5 (fun k hk => by simp at hk; omega)
   have T6 := TT.trans (T5.mono (fun k hk => by simp at hk; simp [hk]))
   have E0 := O5.cell 0
   have E1 := O5.cell 1
   have E2 := O5.cell 2
   have E3 := O5.cell 3
   have E4 := O5.cell 4
   simp at E0 E1 E2 E3 E4
   have ez := O5.lt
   have z1 := D5.sz
   have R0 := D5.o.cell 0
   have R1 := D5.o.cell 1
   have R2 := D5.o.cell 2
   have R3 := D5.o.cell 3
   have R4 := D5.o.cell 4
   simp at R0 R1 R2 R3 R4
   have F0 := D5.o.f0
   have F1 := D5.o.f1
   have F2 := D5.o.f2
   have F3 := D5.o.f3
   have F4 := D5.o.f4
   go_wp2_with fail
   generalize hS : World.setCell (World.setCell (World.setCell (World.setCell (World.setCell W5 _ _) _ _) _ _) _ _) _ _ = W8
   obtain ⟨O8, T8⟩ := own5 D5.o (.int .i64 x.kind) (.string s) (.int .i64 x.number) (.slice an x.names.length cn) (.slice ak x.kids.length ck)
   rw [hS] at O8 T8
   clear hS R0 R1 R2 R3 R4 F0 F1 F2 F3 F4
   have p0 := O8.cell 0
   have p1 := O8.cell 1
   have p2 := O8.cell 2
   have p3 := O8.cell 3
   have p4 := O8.cell 4
   simp at p0 p1 p2 p3 p4
   have pz := O8.lt
   have T9 : Touch w2 W8 [B, w2.heap.size, w.heap.size] := (T6).trans (T8.mono (fun k hk => by simp at hk; simp [hk]))
   have hlt8 : ∀ k, w.heap.size + 1 <= k -> k ∉ [w.heap.size] := fun k hk hm => by simp at hm; omega
   exact bodyPost_ret (v := .agg #[.int .i64 x.kind, .string s, .int .i64 x.number, .slice an x.names.length cn, .slice ak x.kids.length ck]) (by simp [results, Tryz.results14, go_sem, p0, p1, p2, p3, p4, pz]) rfl ⟨(treeX (k := x.kind) (t := s) (n := x.number) (nm := x.names) (l := x.kids) (by omega) (by first | omega | decide) (by omega) okn okk (KN.out _ T9).1 (KN.out _ T9).2 (fun k hk => by have := hfn k hk; omega) (fun k hk => by have := hgk k hk; omega) (by unfold nmOf at hnd; omega)), D5.t.trans' T8 (fun k hk => Or.inr (by simp at hk; omega))⟩
 · have x5 : Ext w4 (w4.alloc (.cells #[.int .i64 1, .string ⟨#[]⟩, .int .i64 0, .slice none 0 0, .slice none 0 0] 27)) := (XR _).alloc _
   have D5a := D4.ext x5
   have HS5 := AcwS.ext HS4 x5
   have O5a := O4.ext x5
   have T5a := T4.trans (Touch.of_ext x5 _)
   have RO := one_expr (x := ⟨1, ⟨#[]⟩, 0, [], []⟩) ((leaf_rep w4 1 ⟨#[]⟩ 0).ext x5) (own_new w4 _ _)
   have hown : ∀ k, (Value.slice ak x.kids.length ck).ownBlock = some k -> w.heap.size + 1 <= k /\ k < w2.heap.size := fun k hk => AcwS.ge HS hk
   have hlk : x.kids.length <= 5000 := by unfold nmOf wtL at hnd; omega
   go_wp2_with (at_builtin; refine wpList_append_xs rfl _ _ rfl (w.heap.size + 1) _ x.kids rfl HS5 [⟨1, ⟨#[]⟩, 0, [], []⟩] _ _ _ _ rfl RO (fun k hk => nomatch hk) (fun k hk hm => nomatch hm) (by simp; omega) (by first | omega | (simp; omega)) ?_)
   intro a6 c6 w6 ac hg hat
   have TG : Touch (w4.alloc (.cells #[.int .i64 1, .string ⟨#[]⟩, .int .i64 0, .slice none 0 0, .slice none 0 0] 27)) w6 (ownL (.slice ak x.kids.length ck)) := (Touch.of_ext (XR _) _).grown hg fun k hk => Or.inl (ownL_mem hk)
   have zg := hg.size
   have hz4 := O4.lt
   have DD := D5a.late hBl TG (fun k hk => by have := hown k (ownL_of hk); omega)
   have OO := O5a.touch' TG (fun hk => by have := hown _ (ownL_of hk); omega)
   have hat2 : ∀ k, (Value.slice a6 (x.kids.length + 1) c6).ownBlock = some k -> w.heap.size + 1 <= k /\ k ≠ w2.heap.size := fun k hk => by
    rcases hat with h | h
    · have := hown k (h.symm.trans hk)
      omega
    · have h' := h.symm.trans hk
      simp at h'
      omega
   clear O4 D4 T4 HS4 HS5 O5a D5a hg hat RO E0 E1 E2 E3 E4 G0 G1 G2 G3 G4 ez
   have E0 := OO.cell 0
   have E1 := OO.cell 1
   have E2 := OO.cell 2
   have E3 := OO.cell 3
   have E4 := OO.cell 4
   simp at E0 E1 E2 E3 E4
   have G0 := OO.f0
   have G1 := OO.f1
   have G2 := OO.f2
   have G3 := OO.f3
   have G4 := OO.f4
   have ez := OO.lt
   go_upto_region 13 with fail
   generalize hS : World.setCell w6 _ _ = W5
   have O5 : Own W5 w2.heap.size 27 #[.int .i64 x.kind, .string x.text, .int .i64 x.number, .slice an x.names.length cn, .slice a6 (x.kids.length + 1) c6] := by rw [<- hS]; exact OO.set 4 _
   have T5 : Touch w6 W5 [w2.heap.size] := by rw [<- hS]; exact (Touch.of_ext (XR _) _).setCell (by simp) _
   clear hS E0 E1 E2 E3 E4 G0 G1 G2 G3 G4 ez OO
   have D5 := DD.late hBl T5 (fun k hk => by simp at hk; omega)
   have E0 := O5.cell 0
   have E1 := O5.cell 1
   have E2 := O5.cell 2
   have E3 := O5.cell 3
   have E4 := O5.cell 4
   simp at E0 E1 E2 E3 E4
   have ez := O5.lt
   have AC5 := AcwS.touch ac T5 (fun k hk => by
    simp at hk
    subst hk
    exact ⟨fun h => by have := h.2; omega, fun h => (hat2 _ h).2 rfl⟩)
   have z1 := D5.sz
   have R0 := D5.o.cell 0
   have R1 := D5.o.cell 1
   have R2 := D5.o.cell 2
   have R3 := D5.o.cell 3
   have R4 := D5.o.cell 4
   simp at R0 R1 R2 R3 R4
   have F0 := D5.o.f0
   have F1 := D5.o.f1
   have F2 := D5.o.f2
   have F3 := D5.o.f3
   have F4 := D5.o.f4
   go_wp2_with fail
   generalize hS : World.setCell (World.setCell (World.setCell (World.setCell (World.setCell W5 _ _) _ _) _ _) _ _) _ _ = W8
   obtain ⟨O8, T8⟩ := own5 D5.o (.int .i64 x.kind) (.string x.text) (.int .i64 x.number) (.slice an x.names.length cn) (.slice a6 (x.kids.length + 1) c6)
   rw [hS] at O8 T8
   clear hS R0 R1 R2 R3 R4 F0 F1 F2 F3 F4
   have p0 := O8.cell 0
   have p1 := O8.cell 1
   have p2 := O8.cell 2
   have p3 := O8.cell 3
   have p4 := O8.cell 4
   simp at p0 p1 p2 p3 p4
   have pz := O8.lt
   have AC8 := AcwS.touch AC5 T8 (fun k hk => by
    simp at hk
    subst hk
    exact ⟨fun h => by have := h.1; omega, fun h => by have := (hat2 _ h).1; omega⟩)
   obtain ⟨a7, c7, g7, e7, RK8, hg7⟩ := AccXS.rep (show AccXS _ _ W8 (.slice a6 (x.kids.length + 1) c6) (x.kids ++ [⟨1, ⟨#[]⟩, 0, [], []⟩]) from AC8)
   rw [<- e7] at RK8
   have T69 : Touch w2 W8 (ownL (.slice ak x.kids.length ck) ++ [B, w2.heap.size, w.heap.size]) := ((T5a.mono (fun k hk => by simp at hk; simp [hk])).trans (TG.mono (fun k hk => by simp [hk]))).trans ((T5.mono (fun k hk => by simp at hk; simp [hk])).trans (T8.mono (fun k hk => by simp at hk; simp [hk])))
   have RN8 : RepF W8 (strs x.names) [.slice an x.names.length cn] fn := RNK.out W8 T69
   have TXX : TreeX w.heap.size 5000 W8 (.returned (.agg #[.int .i64 x.kind, .string x.text, .int .i64 x.number, .slice an x.names.length cn, .slice a6 (x.kids.length + 1) c6])) := treeX (k := x.kind) (t := x.text) (n := x.number) (nm := x.names) (l := x.kids ++ [⟨1, ⟨#[]⟩, 0, [], []⟩]) (by omega) (by omega) (by omega) okn (by rw [List.map_append]; exact okL_app okk ⟨ex_ok (by omega) (by decide) (by omega) trivial trivial, trivial⟩) RN8 RK8 (fun k hk => by have := hfn k hk; omega) (fun k hk => by
    rcases hg7 k hk with h | h
    · omega
    · have := (hat2 k h).1; omega) (by
    have e1 : wtL (x.kids ++ [⟨1, ⟨#[]⟩, 0, [], []⟩]) <= wtL x.kids + 10 := by
     unfold wtL
     rw [List.length_append, List.map_append, D.bulkL_append]
     have e2 := MExpr.bulk_eq ⟨1, ⟨#[]⟩, 0, [], []⟩
     have e3 : (⟨#[]⟩ : ByteArray).size = 0 := rfl
     simp only [List.length_cons, List.length_nil, List.map_cons, List.map_nil, D.bulkL] at e2 ⊢
     omega
    unfold nmOf at hnd
    omega)
   have hlt8 : ∀ k, w.heap.size + 1 <= k -> k ∉ [w.heap.size] := fun k hk hm => by simp at hm; omega
   exact bodyPost_ret (v := .agg #[.int .i64 x.kind, .string x.text, .int .i64 x.number, .slice an x.names.length cn, .slice a6 (x.kids.length + 1) c6]) (by simp [results, Tryz.results14, go_sem, p0, p1, p2, p3, p4, pz]) rfl ⟨TXX, D5.t.trans' T8 (fun k hk => Or.inr (by simp at hk; omega))⟩
 · go_wp2_with fail
   refine (l1Below_cur B v 11 _ D4.c (hc.touch D4.t hB) hB (by omega) (by omega)).mono ?_
   rintro e w5 ⟨⟨j, rfl, hj⟩, hT, hC2⟩
   have DD := D4.call hr hT hC2
   have OO := O4.touch' hT (by simp; omega)
   have TT := T4.trans (hT.mono (fun k hk => by simp at hk; simp [hk]))
   clear hT hC2 D4 O4 T4 HS4 E0 E1 E2 E3 E4 G0 G1 G2 G3 G4 ez
   have E0 := OO.cell 0
   have E1 := OO.cell 1
   have E2 := OO.cell 2
   have E3 := OO.cell 3
   have E4 := OO.cell 4
   simp at E0 E1 E2 E3 E4
   have G0 := OO.f0
   have G1 := OO.f1
   have G2 := OO.f2
   have G3 := OO.f3
   have G4 := OO.f4
   have ez := OO.lt
   go_upto_region 13 with fail
   generalize hS : World.setCell w5 _ _ = W5
   have O5 : Own W5 w2.heap.size 27 #[.int .i64 (j : Int), .string x.text, .int .i64 x.number, .slice an x.names.length cn, .slice ak x.kids.length ck] := by rw [<- hS]; exact OO.set 0 _
   have T5 : Touch w5 W5 [w2.heap.size] := by rw [<- hS]; exact (Touch.of_ext (XR _) _).setCell (by simp) _
   clear hS E0 E1 E2 E3 E4 G0 G1 G2 G3 G4 ez OO
   have D5 := DD.late hBl T5 (fun k hk => by simp at hk; omega)
   have T6 := TT.trans (T5.mono (fun k hk => by simp at hk; simp [hk]))
   have E0 := O5.cell 0
   have E1 := O5.cell 1
   have E2 := O5.cell 2
   have E3 := O5.cell 3
   have E4 := O5.cell 4
   simp at E0 E1 E2 E3 E4
   have ez := O5.lt
   have z1 := D5.sz
   have R0 := D5.o.cell 0
   have R1 := D5.o.cell 1
   have R2 := D5.o.cell 2
   have R3 := D5.o.cell 3
   have R4 := D5.o.cell 4
   simp at R0 R1 R2 R3 R4
   have F0 := D5.o.f0
   have F1 := D5.o.f1
   have F2 := D5.o.f2
   have F3 := D5.o.f3
   have F4 := D5.o.f4
   go_wp2_with fail
   generalize hS : World.setCell (World.setCell (World.setCell (World.setCell (World.setCell W5 _ _) _ _) _ _) _ _) _ _ = W8
   obtain ⟨O8, T8⟩ := own5 D5.o (.int .i64 (j : Int)) (.string x.text) (.int .i64 x.number) (.slice an x.names.length cn) (.slice ak x.kids.length ck)
   rw [hS] at O8 T8
   clear hS R0 R1 R2 R3 R4 F0 F1 F2 F3 F4
   have p0 := O8.cell 0
   have p1 := O8.cell 1
   have p2 := O8.cell 2
   have p3 := O8.cell 3
   have p4 := O8.cell 4
   simp at p0 p1 p2 p3 p4
   have pz := O8.lt
   have T9 : Touch w2 W8 [B, w2.heap.size, w.heap.size] := (T6).trans (T8.mono (fun k hk => by simp at hk; simp [hk]))
   have hlt8 : ∀ k, w.heap.size + 1 <= k -> k ∉ [w.heap.size] := fun k hk hm => by simp at hm; omega
   exact bodyPost_ret (v := .agg #[.int .i64 (j : Int), .string x.text, .int .i64 x.number, .slice an x.names.length cn, .slice ak x.kids.length ck]) (by simp [results, Tryz.results14, go_sem, p0, p1, p2, p3, p4, pz]) rfl ⟨(treeX (k := (j : Int)) (t := x.text) (n := x.number) (nm := x.names) (l := x.kids) (by omega) (by first | omega | decide) (by omega) okn okk (KN.out _ T9).1 (KN.out _ T9).2 (fun k hk => by have := hfn k hk; omega) (fun k hk => by have := hgk k hk; omega) (by unfold nmOf at hnd; omega)), D5.t.trans' T8 (fun k hk => Or.inr (by simp at hk; omega))⟩
 · have x5 : Ext w4 (w4.alloc (.cells #[.int .i64 x.kind, .string x.text, .int .i64 x.number, .slice an x.names.length cn, .slice ak x.kids.length ck] 27)) := (XR _).alloc _
   have D5 := D4.ext x5
   have T5 := T4.trans (Touch.of_ext x5 _)
   have ON : Own (w4.alloc (.cells #[.int .i64 x.kind, .string x.text, .int .i64 x.number, .slice an x.names.length cn, .slice ak x.kids.length ck] 27)) w4.heap.size 27 #[.int .i64 x.kind, .string x.text, .int .i64 x.number, .slice an x.names.length cn, .slice ak x.kids.length ck] := own_new w4 _ _
   have hz4 := O4.lt
   have z1 := D5.sz
   replace E0 := E0
   have R0 := D5.o.cell 0
   have R1 := D5.o.cell 1
   have R2 := D5.o.cell 2
   have R3 := D5.o.cell 3
   have R4 := D5.o.cell 4
   simp at R0 R1 R2 R3 R4
   have F0 := D5.o.f0
   have F1 := D5.o.f1
   have F2 := D5.o.f2
   have F3 := D5.o.f3
   have F4 := D5.o.f4
   go_wp2_with fail
   generalize hS : World.setCell (World.setCell (World.setCell (World.setCell (World.setCell (w4.alloc (.cells #[.int .i64 x.kind, .string x.text, .int .i64 x.number, .slice an x.names.length cn, .slice ak x.kids.length ck] 27)) _ _) _ _) _ _) _ _) _ _ = W8
   obtain ⟨O8, T8⟩ := own5 D5.o (.int .i64 9) (.string ⟨#[]⟩) (.int .i64 0) (.slice none 0 0) (.slice (some ⟨w4.heap.size, 0, none⟩) 1 1)
   rw [hS] at O8 T8
   clear hS R0 R1 R2 R3 R4 F0 F1 F2 F3 F4
   have p0 := O8.cell 0
   have p1 := O8.cell 1
   have p2 := O8.cell 2
   have p3 := O8.cell 3
   have p4 := O8.cell 4
   simp at p0 p1 p2 p3 p4
   have pz := O8.lt
   have T9 : Touch w2 W8 [B, w2.heap.size, w.heap.size] := T5.trans (T8.mono (fun k hk => by simp at hk; simp [hk]))
   have RX8 := MExpr.shut (x := x) (KN.out _ T9).1 (KN.out _ T9).2
   have ON8 := ON.touch' T8 (by simp; omega)
   have TXX : TreeX w.heap.size 5000 W8 (.returned (.agg #[.int .i64 9, .string ⟨#[]⟩, .int .i64 0, .slice none 0 0, .slice (some ⟨w4.heap.size, 0, none⟩) 1 1])) := treeX (k := 9) (t := ⟨#[]⟩) (n := 0) (nm := []) (l := [x]) (by omega) (by decide) (by omega) trivial ⟨okx, trivial⟩ (rep_nilT _) (one_expr RX8 ON8) (fun k hk => nomatch hk) (fun k hk => by
    simp only [List.append_nil, List.mem_cons, List.mem_append] at hk
    rcases hk with rfl | hk | hk
    · omega
    · have := hfn k hk; omega
    · have := hgk k hk; omega) (by
    have e1 : wtL [x] = x.d.bulk + 1 := by simp only [wtL, List.length_cons, List.length_nil, List.map_cons, List.map_nil, D.bulkL]; omega
    have e2 := MExpr.bulk_eq x
    have e3 : (⟨#[]⟩ : ByteArray).size = 0 := rfl
    unfold nmOf wtL at hnd
    simp only [List.length_nil, List.map_nil, D.bulkL]
    omega)
   have hlt8 : ∀ k, w.heap.size + 1 <= k -> k ∉ [w.heap.size] := fun k hk hm => by simp at hm; omega
   exact bodyPost_ret (v := .agg #[.int .i64 9, .string ⟨#[]⟩, .int .i64 0, .slice none 0 0, .slice (some ⟨w4.heap.size, 0, none⟩) 1 1]) (by simp [results, Tryz.results14, go_sem, p0, p1, p2, p3, p4, pz]) rfl ⟨TXX, D5.t.trans' T8 (fun k hk => Or.inr (by simp at hk; omega))⟩
 · have n0 : ¬ m = 0 := by omega
   have n1 : ¬ m = 1 := by omega
   have n2 : ¬ m = 2 := by omega
   have n3 : ¬ m = 3 := by omega
   have n4 : ¬ m = 4 := by omega
   have i0 := int_ne (show ¬ (m : Int) = 0 by omega)
   have i1 := int_ne (show ¬ (m : Int) = 1 by omega)
   have i2 := int_ne (show ¬ (m : Int) = 2 by omega)
   have i3 := int_ne (show ¬ (m : Int) = 3 by omega)
   have i4 := int_ne (show ¬ (m : Int) = 4 by omega)
   clear hm5
   have z1 := D4.sz
   have R0 := D4.o.cell 0
   have R1 := D4.o.cell 1
   have R2 := D4.o.cell 2
   have R3 := D4.o.cell 3
   have R4 := D4.o.cell 4
   simp at R0 R1 R2 R3 R4
   have F0 := D4.o.f0
   have F1 := D4.o.f1
   have F2 := D4.o.f2
   have F3 := D4.o.f3
   have F4 := D4.o.f4
   go_wp2_with fail
   generalize hS : World.setCell (World.setCell (World.setCell (World.setCell (World.setCell w4 _ _) _ _) _ _) _ _) _ _ = W8
   obtain ⟨O8, T8⟩ := own5 D4.o (.int .i64 x.kind) (.string x.text) (.int .i64 x.number) (.slice an x.names.length cn) (.slice ak x.kids.length ck)
   rw [hS] at O8 T8
   clear hS R0 R1 R2 R3 R4 F0 F1 F2 F3 F4
   have p0 := O8.cell 0
   have p1 := O8.cell 1
   have p2 := O8.cell 2
   have p3 := O8.cell 3
   have p4 := O8.cell 4
   simp at p0 p1 p2 p3 p4
   have pz := O8.lt
   have T9 : Touch w2 W8 [B, w2.heap.size, w.heap.size] := (T4).trans (T8.mono (fun k hk => by simp at hk; simp [hk]))
   have hlt8 : ∀ k, w.heap.size + 1 <= k -> k ∉ [w.heap.size] := fun k hk hm => by simp at hm; omega
   exact bodyPost_ret (v := .agg #[.int .i64 x.kind, .string x.text, .int .i64 x.number, .slice an x.names.length cn, .slice ak x.kids.length ck]) (by simp [results, Tryz.results14, go_sem, p0, p1, p2, p3, p4, pz]) rfl ⟨(treeX (k := x.kind) (t := x.text) (n := x.number) (nm := x.names) (l := x.kids) (by omega) (by first | omega | decide) (by omega) okn okk (KN.out _ T9).1 (KN.out _ T9).2 (fun k hk => by have := hfn k hk; omega) (fun k hk => by have := hgk k hk; omega) (by unfold nmOf at hnd; omega)), D4.t.trans' T8 (fun k hk => Or.inr (by simp at hk; omega))⟩
theorem DrawFormatExpr_any (v : Value) (w : World) (hc : Bytes w v) :
 Calls Tryz.prog 5 #[v] w fun e w' => TreeX w.heap.size 5000 w' e /\ Ext w w' := by
 go_enter Tryz.func5, Tryz.ntmps5
 go_upto_region 1 with fail
 generalize hS : World.alloc w _ = W1
 have x1 : Ext w W1 := by rw [<- hS]; exact (XR _).alloc _
 have O1 : Own W1 w.heap.size 27 #[.int .i64 0, .string ⟨#[]⟩, .int .i64 0, .slice none 0 0, .slice none 0 0] := by rw [<- hS]; exact own_new w _ _
 clear hS
 go_wp2_with fail
 refine (l1New_any v W1 (hc.ext x1)).mono ?_
 rintro e w2 ⟨B, rfl, hBz, ⟨h, hO⟩, hx2⟩
 go_wp2_with fail
 refine (l3Bent_any B v w2 ⟨0, h, by omega, hO⟩ ((hc.ext x1).ext hx2) (off_new (hc.ext x1) hBz)).mono ?_
 rintro e w3 ⟨⟨x, vs, fp, rfl, RX, hfp, hok, hbk⟩, hT⟩
 have hz1 := O1.lt
 have hz2 := hx2.size
 have O3 := (O1.ext hx2).touch' hT (by simp; omega)
 have x3 : Ext w w3 := Touch.ext (x1.trans hx2) hT (fun k hk => by simp at hk; omega)
 obtain ⟨an, cn, ak, ck, rfl⟩ := fld5 RX
 clear hT hO hx2 O1
 have R0 := O3.cell 0
 have R1 := O3.cell 1
 have R2 := O3.cell 2
 have R3 := O3.cell 3
 have R4 := O3.cell 4
 simp at R0 R1 R2 R3 R4
 have F0 := O3.f0
 have F1 := O3.f1
 have F2 := O3.f2
 have F3 := O3.f3
 have F4 := O3.f4
 have ez := O3.lt
 go_wp2_with fail
 generalize hS : World.setCell (World.setCell (World.setCell (World.setCell (World.setCell w3 _ _) _ _) _ _) _ _) _ _ = W8
 obtain ⟨O8, T8⟩ := own5 O3 (.int .i64 x.kind) (.string x.text) (.int .i64 x.number) (.slice an x.names.length cn) (.slice ak x.kids.length ck)
 rw [hS] at O8 T8
 clear hS R0 R1 R2 R3 R4 F0 F1 F2 F3 F4
 have p0 := O8.cell 0
 have p1 := O8.cell 1
 have p2 := O8.cell 2
 have p3 := O8.cell 3
 have p4 := O8.cell 4
 simp at p0 p1 p2 p3 p4
 have pz := O8.lt
 exact bodyPost_ret (v := .agg #[.int .i64 x.kind, .string x.text, .int .i64 x.number, .slice an x.names.length cn, .slice ak x.kids.length ck]) (by simp [results, Tryz.results5, go_sem, p0, p1, p2, p3, p4, pz]) rfl ⟨⟨x, _, fp, rfl, RX.touch T8 (fun k hk hm => by have := hfp k hk; simp at hm; omega), (fun k hk => by have := hfp k hk; omega), hok, hbk⟩, Touch.ext x3 T8 (fun k hk => by simp at hk; omega)⟩
def zX : MExpr := ⟨0, ⟨#[]⟩, 0, [], []⟩
def IsParsed (s : ByteArray) (x : MExpr) : Prop := ∃ ts, toksL s = some ts /\ Ev (fun n => pExpr ts n 0) (some (x, ts.length)) /\ ExprOk x
noncomputable def parseX (s : ByteArray) : Option MExpr := @dite _ (∃ x, IsParsed s x) (Classical.propDecidable _) (fun h => some (Classical.choose h)) (fun _ => none)
theorem IsParsed.uniq {s : ByteArray} {x y : MExpr} (h : IsParsed s x) (k : IsParsed s y) : x = y := by
 obtain ⟨ts, h1, h2, _⟩ := h
 obtain ⟨us, k1, k2, _⟩ := k
 rw [h1] at k1
 injection k1 with k1
 subst k1
 have := Ev.uniq h2 k2
 injection this with this
 injection this
theorem parse_yes {s : ByteArray} {x : MExpr} (h : IsParsed s x) : parseX s = some x := by
 have he : ∃ x, IsParsed s x := ⟨x, h⟩
 unfold parseX
 rw [dif_pos he]
 exact congrArg some ((Classical.choose_spec he).uniq h)
theorem parse_no {s : ByteArray} (h : ¬ ∃ x, IsParsed s x) : parseX s = none := by
 unfold parseX
 rw [dif_neg h]
theorem parse_no1 {s : ByteArray} (h : toksL s = none) : parseX s = none := parse_no (fun ⟨_, ts, h1, _⟩ => by rw [h] at h1; cases h1)
theorem parse_no2 {s : ByteArray} {ts : List MToken} (h : toksL s = some ts) (hE : Ev (fun n => pExpr ts n 0) none) : parseX s = none := parse_no (fun ⟨y, us, h1, h2, _⟩ => by
 rw [h] at h1
 injection h1 with h1
 subst h1
 have := Ev.uniq hE h2
 cases this)
theorem parse_no3 {s : ByteArray} {ts : List MToken} {x : MExpr} {a : Nat} (h : toksL s = some ts) (hE : Ev (fun n => pExpr ts n 0) (some (x, a))) (hn : a ≠ ts.length ∨ ¬ ExprOk x) : parseX s = none := parse_no (fun ⟨y, us, h1, h2, h3⟩ => by
 rw [h] at h1
 injection h1 with h1
 subst h1
 have := Ev.uniq hE h2
 injection this with this
 injection this with e1 e2
 subst e1 e2
 rcases hn with hn | hn
 · exact hn rfl
 · exact hn h3)
theorem sum_mem : ∀ {ts : List MToken} {t : MToken}, t ∈ ts -> t.text.size <= sumW ts
 | [], _, h => by cases h
 | y :: ys, t, h => by
  rw [sumW]
  rcases List.mem_cons.1 h with rfl | h
  · omega
  · have := sum_mem h; omega
theorem Prs.make {ty : TypeId} {s : ByteArray} {w w' : World} {B : Nat} {ao : Option Addr} {n cap : Nat} {fp : List Nat} {bad : Bool} (hr : RepF w (MTokens ((toksL s).getD [])) [.slice ao n cap] fp) (hx : Ext w w') (hB : w.heap.size <= B) (hO : Own w' B ty #[.slice ao n cap, .int .i64 0, .bool bad]) :
 n = ((toksL s).getD []).length /\ ∃ tb to_, Prs ty B tb to_ cap ao ((toksL s).getD []) w' 0 bad := by
 obtain ⟨ao', cap', b, o, h1, hl, hm, pa, ha⟩ := Rep.slmap hr.rep
 simp only [List.cons.injEq, and_true, Value.slice.injEq] at h1
 obtain ⟨rfl, rfl, rfl⟩ := h1
 have hq : (∀ t, t ∈ (toksL s).getD [] -> TokQ t) /\ sumW ((toksL s).getD []) <= 4000 + 84 * ((toksL s).getD []).length := by
  cases ht : toksL s with
  | none => exact ⟨(fun t h => nomatch h), by simp [sumW]⟩
  | some ts => exact toks_q ht
 have h8 := toks_len s
 have hcell : ∀ (i : Nat) (t : MToken), ((toksL s).getD [])[i]? = some t -> w.cell? ⟨b, o + i * 3, none⟩ = some (.int .i64 t.kind) /\ w.cell? ⟨b, o + i * 3 + 1, none⟩ = some (.string t.text) /\ w.cell? ⟨b, o + i * 3 + 2, none⟩ = some (.int .i64 t.number) := fun i t hi => by
  obtain ⟨es, _, hc, hrt⟩ := ha i t hi
  obtain rfl := MToken.op_en hrt
  exact ⟨hc 0 (by omega), hc 1 (by omega), hc 2 (by omega)⟩
 refine ⟨rfl, b, o, hO, pa, fun i t hi => ?_, fun h0 => ?_, ⟨hl, by unfold maxLen at hm; omega⟩, h8, fun t ht => ?_, fun t ht => ?_, by omega, fun _ => Nat.zero_le _⟩
 · obtain ⟨c0, c1, c2⟩ := hcell i t hi
   exact ⟨hx.cell c0, hx.cell c1, hx.cell c2⟩
 · have hlt : b < w.heap.size := lt_of_cell (hcell 0 _ (List.getElem?_eq_getElem h0)).1
   omega
 · have := sum_mem ht
   omega
 · exact hq.1 t ht
theorem toks_sum {s : ByteArray} {ts : List MToken} (h : toksL s = some ts) : sumW ts <= 4000 + 84 * ts.length /\ ts.length <= 800 := ⟨(toks_q h).2, by have := toks_len s; rw [h] at this; exact this⟩
def UPostB (B tb to_ cap : Nat) (ao : Option Addr) (ts : List MToken) (w : World) (eb j : Nat) (bf : Bool) (y : MExpr) (WF : World) : Prop :=
 ∃ cs fp, Own WF eb 27 (List.toArray cs) /\ RepF WF y.d cs fp /\ (∀ k, k ∈ fp -> w.heap.size < k /\ k ≠ eb) /\ Prs 49 B tb to_ cap ao ts WF (j) bf /\ Own WF w.heap.size 27 #[.int .i64 0, .string ⟨#[]⟩, .int .i64 0, .slice none 0 0, .slice none 0 0] /\ Touch w WF [B]
theorem bin_A {B tb to_ cap : Nat} {ao : Option Addr} {ts : List MToken} {w w7 : World} {a j eb : Nat} {b bf : Bool} {x y : MExpr} {c0 c1 c2 c3 c4 d0 d1 d2 d3 d4 : Value} {fp gp : List Nat} (h0 : Prs 49 B tb to_ cap ao ts w (a) b) (OE : Own w7 eb 27 #[c0, c1, c2, c3, c4]) (R7 : RepF w7 x.d [c0, c1, c2, c3, c4] fp) (S7 : RepF w7 y.d [d0, d1, d2, d3, d4] gp) (HF : ∀ k, k ∈ fp -> w.heap.size < k /\ k ≠ eb) (HG : ∀ k, k ∈ gp -> w.heap.size < k /\ k ≠ eb) (heb : w.heap.size < eb) (K7 : Prs 49 B tb to_ cap ao ts w7 (j) bf) (B7 : Own w7 w.heap.size 27 #[.int .i64 0, .string ⟨#[]⟩, .int .i64 0, .slice none 0 0, .slice none 0 0]) (T7 : Touch w w7 [B]) (tx : ByteArray) :
 UPostB B tb to_ cap ao ts w eb j bf (eMsg tx [x, y]) ((((((w7.setCell ⟨eb, 0, none⟩ (.int .i64 6)).setCell ⟨eb, 1, none⟩ (.string tx)).setCell ⟨eb, 2, none⟩ (.int .i64 0)).setCell ⟨eb, 3, none⟩ (.slice none 0 0)).setCell ⟨eb, 4, none⟩ (.slice (some ⟨w7.heap.size, 0, none⟩) 2 2)).alloc (.cells #[c0, c1, c2, c3, c4, d0, d1, d2, d3, d4] 27)) := by
 obtain ⟨O8, T8⟩ := own5 OE (.int .i64 6) (.string tx) (.int .i64 0) (.slice none 0 0) (.slice (some ⟨w7.heap.size, 0, none⟩) 2 2)
 have hsz := size5 w7 eb (.int .i64 6) (.string tx) (.int .i64 0) (.slice none 0 0) (.slice (some ⟨w7.heap.size, 0, none⟩) 2 2)
 generalize (((((w7.setCell ⟨eb, 0, none⟩ (.int .i64 6)).setCell ⟨eb, 1, none⟩ (.string tx)).setCell ⟨eb, 2, none⟩ (.int .i64 0)).setCell ⟨eb, 3, none⟩ (.slice none 0 0)).setCell ⟨eb, 4, none⟩ (.slice (some ⟨w7.heap.size, 0, none⟩) 2 2)) = W8 at *
 have x9 := (XR W8).alloc (.cells #[c0, c1, c2, c3, c4, d0, d1, d2, d3, d4] 27)
 have ON := own_new W8 #[c0, c1, c2, c3, c4, d0, d1, d2, d3, d4] 27
 rw [hsz] at ON
 have R9 := (R7.touch T8 (fun k hk hm => (HF k hk).2 (by simpa using hm))).ext x9
 have S9 := (S7.touch T8 (fun k hk hm => (HG k hk).2 (by simpa using hm))).ext x9
 have hel := OE.lt
 have hwl := T7.size
 refine ⟨_, _, O8.ext x9, send2 tx R9 S9 (cs := [c0, c1, c2, c3, c4]) (ds := [d0, d1, d2, d3, d4]) ON, fun k hk => ?_, (h0.late K7 T8 (fun k hk => by simp at hk; omega)).ext x9, (B7.touch' T8 (by simp; omega)).ext x9, (T7.late2 T8 (fun k hk => by simp at hk; omega)).trans (Touch.of_ext x9 _)⟩
 rcases List.mem_cons.1 hk with rfl | hk
 · omega
 · rcases List.mem_append.1 hk with hk | hk
   · exact HF k hk
   · exact HG k hk
theorem binary_at {B tb to_ cap : Nat} {ao : Option Addr} {ts : List MToken} {a : Nat} (HUN : ∀ a', a <= a' -> UnAt B tb to_ cap ao ts a') : BinAt B tb to_ cap ao ts a := by
 intro w b h ha
 have HP := LH h
 have hln := h.len
 have hrb := h.own.lt
 have HC := LH (fun (W : World) (hW : Ext w W) => HUN a (Nat.le_refl _) W b (h.ext hW) ha)
 have HUN := LH HUN
 have hfd := fld0
 clear h
 go_enter Tryz.func96, Tryz.ntmps96
 go_upto_region 1 with fail
 generalize hS : World.alloc w _ = W1
 have x1 : Ext w W1 := by rw [<- hS]; exact (XR _).alloc _
 have O1 : Own W1 w.heap.size 27 #[.int .i64 0, .string ⟨#[]⟩, .int .i64 0, .slice none 0 0, .slice none 0 0] := by rw [<- hS]; exact own_new w _ _
 clear hS
 go_wp2_with fail
 refine (HC.out _ x1).mono ?_
 rintro e w2 ⟨x, cs, fp, s0, a', b', rfl, hr, hf, hp, hg, hs0, hm, hT⟩
 have O2 := O1.touch' hT (by simp; omega)
 have hs1 := x1.size
 have hs2 := hT.size
 have hzo := O1.lt
 have hm1 := hm
 obtain ⟨y1, y2, y3, y4, rfl⟩ := fld5 hr
 go_upto_region 2 with fail
 generalize hS : World.alloc w2 _ = W3
 have x3 : Ext w2 W3 := by rw [<- hS]; exact (XR _).alloc _
 have OE : Own W3 w2.heap.size 27 #[.int .i64 x.kind, .string x.text, .int .i64 x.number, .slice y1 x.names.length y2, .slice y3 x.kids.length y4] := by rw [<- hS]; exact own_new w2 _ _
 have O3 := O2.ext x3
 have HP3 := LH (hp.ext x3)
 have HR3 := LH (hr.ext x3)
 have HF3 : Hid (∀ k, k ∈ fp -> w.heap.size < k /\ k ≠ w2.heap.size) := LH fun k hk => by
  have h1 := hf k hk
  have h2 := hr.lt _ k hk
  omega
 have HT3 := LH (((Touch.of_ext x1 [B]).trans hT).trans (Touch.of_ext x3 [B]))
 have H0 := LH ((Todo.refl b (fun n => pBinary ts n a)).call hg (g := fun n r => pBin ts n r.1 r.2.1 r.2.2) (fun n => by rw [pBinary]))
 have hebr : w.heap.size < w2.heap.size := by omega
 have hebB : ¬ w2.heap.size = B := by omega
 clear hr hf hp hg hm hT O1 O2 hS x3 hs1 hs2 hzo x1 HC
 generalize hbe : w2.heap.size = eb at *
 clear hbe
 go_loopw [5] (fun sv wr => ∃ (x : MExpr) (cs : List Value) (fp : List Nat) (s : Bool) (j : Nat) (bj : Bool), sv = .bool s /\ Own wr eb 27 cs.toArray /\ RepF wr x.d cs fp /\ Hid (∀ k, k ∈ fp -> w.heap.size < k /\ k ≠ eb) /\ Prs 49 B tb to_ cap ao ts wr (j) bj /\ Hid (Todo b (fun n => pBinary ts n a) bj (fun n => pBin ts n x s j)) /\ Hid (s = true -> x.kids ≠ []) /\ a < j /\ Own wr w.heap.size 27 #[.int .i64 0, .string ⟨#[]⟩, .int .i64 0, .slice none 0 0, .slice none 0 0] /\ Touch w wr [B]) (fun _ wr => ts.length + 1 - placeOf B wr)
 case atStart => exact ⟨x, _, fp, s0, a', b', rfl, OE, HR3.out, HF3, HP3.out, H0, LH hs0, hm1, O3, HT3.out⟩
 case round =>
  clear OE O3 HP3 HR3 HF3 HT3 H0 hm1
  obtain ⟨x, cs, fp, s, j, bj, rfl, hO, hr, HF, hp, HTD, HS, haj, hB, hT⟩ := hrel
  obtain ⟨y1, y2, y3, y4, rfl⟩ := fld5 hr
  have HR := LH hr
  have HPj := LH hp
  have HPM := LH hp
  have HT := LH hT
  obtain ⟨c0, c1, c2⟩ := hp.cells
  have zB := lt_of_cell c0
  have hjl := hp.le
  clear hr hp hT
  have q0 := hO.k0
  have qf0 := hO.f0
  have q1 := hO.k1
  have qf1 := hO.f1
  have q2 := hO.k2
  have qf2 := hO.f2
  have q3 := hO.k3
  have qf3 := hO.f3
  have q4 := hO.k4
  have qf4 := hO.f4
  have qz := hO.lt
  have o0 := hB.k0
  have of0 := hB.f0
  have o1 := hB.k1
  have of1 := hB.f1
  have o2 := hB.k2
  have of2 := hB.f2
  have o3 := hB.k3
  have of3 := hB.f3
  have o4 := hB.k4
  have of4 := hB.f4
  have oz := hB.lt
  cases bj
  rotate_left
  · have HG : Hid (Got b (fun n => pBinary ts n a) true (x, s, j)) := LH (HTD.out.dead _)
    clear HTD
    go_wp2_with fail
    generalize hS : World.setCell (World.setCell (World.setCell (World.setCell (World.setCell wr _ _) _ _) _ _) _ _) _ _ = W9
    obtain ⟨O9, T9⟩ := own5 hB (.int .i64 x.kind) (.string x.text) (.int .i64 x.number) (.slice y1 x.names.length y2) (.slice y3 x.kids.length y4)
    rw [hS] at O9 T9
    clear hS
    have p0 := O9.k0
    have p1 := O9.k1
    have p2 := O9.k2
    have p3 := O9.k3
    have p4 := O9.k4
    have pz := O9.lt
    have FIN : SGot B tb to_ cap ao ts w a b (fun n => pBinary ts n a) (.returned (.tuple #[.agg #[.int .i64 x.kind, .string x.text, .int .i64 x.number, .slice y1 x.names.length y2, .slice y3 x.kids.length y4], .bool s])) W9 := ⟨x, _, fp, s, j, _, rfl, HR.out.touch T9 (fun k hk hm => by have := HF.out k hk; simp at hm; omega), fun k hk => by have := HF.out k hk; omega, HP.out.late HPj.out T9 (fun k hk => by simp at hk; omega), HG.out, HS.out, haj, HT.out.late2 T9 (fun k hk => by simp at hk; omega)⟩
    exact bodyPost_ret (v := .tuple #[.agg #[.int .i64 x.kind, .string x.text, .int .i64 x.number, .slice y1 x.names.length y2, .slice y3 x.kids.length y4], .bool s]) (by simp [results, Tryz.results96, go_sem, p0, p1, p2, p3, p4, pz]) rfl FIN
  cases hb : tkB ts j 6
  · have s1 : (tkK ts j == 6) = false := by rw [<- tkB_eq (by decide)]; exact hb
    have HG : Hid (Got b (fun n => pBinary ts n a) false (x, s, j)) := LH (HTD.out.done (fun n => by rw [pBin, if_neg (by rw [hb]; decide)]))
    clear HTD hb
    go_wp2_with fail
    refine (peek_any _ HPj.out).mono ?_
    rintro e w1 ⟨rfl, hx⟩
    have hf := hfd (tkK ts j) (tkN ts j) (tkT ts j) w1
    have HX := LH hx
    generalize htx : tkT ts j = tx at *
    have HTX := LH htx
    generalize tkK ts j = kd at *
    generalize tkN ts j = nm at *
    clear hfd hx htx
    have hO1 := hO.ext HX.out
    have hB1 := hB.ext HX.out
    have HR1 := LH (HR.out.ext HX.out)
    have HP1 := LH (HPj.out.ext HX.out)
    have HT1 := LH (HT.out.trans (Touch.of_ext HX.out [B]))
    clear hO hB HR HPj HT c0 c1 c2 zB q0 qf0 q1 qf1 q2 qf2 q3 qf3 q4 qf4 qz
    clear o0 of0 o1 of1 o2 of2 o3 of3 o4 of4 oz
    have q0 := hO1.k0
    have q1 := hO1.k1
    have q2 := hO1.k2
    have q3 := hO1.k3
    have q4 := hO1.k4
    have qz := hO1.lt
    have o0 := hB1.k0
    have of0 := hB1.f0
    have o1 := hB1.k1
    have of1 := hB1.f1
    have o2 := hB1.k2
    have of2 := hB1.f2
    have o3 := hB1.k3
    have of3 := hB1.f3
    have o4 := hB1.k4
    have of4 := hB1.f4
    have oz := hB1.lt
    go_wp2_with fail
    generalize hS : World.setCell (World.setCell (World.setCell (World.setCell (World.setCell w1 _ _) _ _) _ _) _ _) _ _ = W9
    obtain ⟨O9, T9⟩ := own5 hB1 (.int .i64 x.kind) (.string x.text) (.int .i64 x.number) (.slice y1 x.names.length y2) (.slice y3 x.kids.length y4)
    rw [hS] at O9 T9
    clear hS
    have p0 := O9.k0
    have p1 := O9.k1
    have p2 := O9.k2
    have p3 := O9.k3
    have p4 := O9.k4
    have pz := O9.lt
    have FIN : SGot B tb to_ cap ao ts w a b (fun n => pBinary ts n a) (.returned (.tuple #[.agg #[.int .i64 x.kind, .string x.text, .int .i64 x.number, .slice y1 x.names.length y2, .slice y3 x.kids.length y4], .bool s])) W9 := ⟨x, _, fp, s, j, _, rfl, HR1.out.touch T9 (fun k hk hm => by have := HF.out k hk; simp at hm; omega), fun k hk => by have := HF.out k hk; omega, HP.out.late HP1.out T9 (fun k hk => by simp at hk; omega), HG.out, HS.out, haj, HT1.out.late2 T9 (fun k hk => by simp at hk; omega)⟩
    exact bodyPost_ret (v := .tuple #[.agg #[.int .i64 x.kind, .string x.text, .int .i64 x.number, .slice y1 x.names.length y2, .slice y3 x.kids.length y4], .bool s]) (by simp [results, Tryz.results96, go_sem, p0, p1, p2, p3, p4, pz]) rfl FIN
  have s1 : (tkK ts j == 6) = true := by rw [<- tkB_eq (by decide)]; exact hb
  have hjt := kind_lt (by decide) hb
  have htz := HPj.out.txt j
  have HTK := LH (fun (W : World) (hp : Prs 49 B tb to_ cap ao ts W j false) => take_yes W hp 6 (by decide) hb)
  have HTC := LH (fun (y : MExpr) (s2 : Bool) (a2 : Nat) (b2 : Bool) (hg : Got false (fun n => pUnary ts n (j + 1)) b2 (y, s2, a2)) => HTD.out.call hg (g := fun n r => pBin ts n (eMsg (tkT ts j) [x, r.1]) true r.2.2) (fun n => by rw [pBin, if_pos hb]))
  clear HTD hb
  go_wp2_with fail
  refine (peek_any _ HPj.out).mono ?_
  rintro e w1 ⟨rfl, hx⟩
  have hf := hfd (tkK ts j) (tkN ts j) (tkT ts j) w1
  have HX := LH hx
  generalize htx : tkT ts j = tx at *
  have HTX := LH htx
  generalize tkK ts j = kd at *
  generalize tkN ts j = nm at *
  clear hfd hx htx
  have hO1 := hO.ext HX.out
  have hB1 := hB.ext HX.out
  have HR1 := LH (HR.out.ext HX.out)
  have HP1 := LH (HPj.out.ext HX.out)
  have HT1 := LH (HT.out.trans (Touch.of_ext HX.out [B]))
  clear hO hB HR HPj HT c0 c1 c2 zB q0 qf0 q1 qf1 q2 qf2 q3 qf3 q4 qf4 qz
  clear o0 of0 o1 of1 o2 of2 o3 of3 o4 of4 oz
  have q0 := hO1.k0
  have qf0 := hO1.f0
  have q1 := hO1.k1
  have qf1 := hO1.f1
  have q2 := hO1.k2
  have qf2 := hO1.f2
  have q3 := hO1.k3
  have qf3 := hO1.f3
  have q4 := hO1.k4
  have qf4 := hO1.f4
  have qz := hO1.lt
  go_upto_region 3 with fail
  go_wp2_with fail
  refine (HTK.out _ HP1.out).mono ?_
  rintro e w2 ⟨rfl, K2, T2⟩
  have hO2 := hO1.touch' T2 (by simpa using hebB)
  have hB2 := hB1.touch' T2 (by simp; omega)
  have hs2 := T2.size
  have heb1 := hO1.lt
  have HR2 := LH (HR1.out.touch T2 (fun k hk hm => by have := HF.out k hk; simp at hm; omega))
  have HT2 := LH (HT1.out.trans T2)
  have HU := LH (HUN.out (j + 1) (by omega) w2 false K2 (by omega))
  clear K2 T2 hO1 hB1 HR1 HT1 hf s1 HTK q0 qf0 q1 qf1 q2 qf2 q3 qf3 q4 qf4 qz
  go_wp2_with fail
  refine HU.out.mono ?_
  rintro e w3 ⟨y, ds, gp, s2, a2, b2, rfl, hr2, hf2, hp2, hg2, -, hm2, hT2⟩
  have hO3 := hO2.touch' hT2 (by simpa using hebB)
  have hB3 := hB2.touch' hT2 (by simp; omega)
  have HR3 := LH (HR2.out.touch hT2 (fun k hk hm => by have := HF.out k hk; simp at hm; omega))
  have HT3 := LH (HT2.out.trans hT2)
  have HS3 := LH hr2
  have HGP : Hid (∀ k, k ∈ gp -> w.heap.size < k /\ k ≠ eb) := LH fun k hk => by have := hf2 k hk; omega
  have HTD2 := LH (HTC.out y s2 a2 b2 hg2)
  have HP3 := LH hp2
  have hs3 := hT2.size
  obtain ⟨z1, z2, z3, z4, rfl⟩ := fld5 hr2
  clear hr2 hf2 hp2 hg2 hT2 hO2 hB2 HR2 HT2 HU HTC
  go_upto_region 5 with fail
  generalize hS : World.alloc w3 _ = W4
  have x4 : Ext w3 W4 := by rw [<- hS]; exact (XR _).alloc _
  have OY : Own W4 w3.heap.size 27 #[.int .i64 y.kind, .string y.text, .int .i64 y.number, .slice z1 y.names.length z2, .slice z3 y.kids.length z4] := by rw [<- hS]; exact own_new w3 _ _
  have hO4 := hO3.ext x4
  have U := bin_A HP.out hO4 (HR3.out.ext x4) (HS3.out.ext x4) HF.out HGP.out hebr (HP3.out.ext x4) (hB3.ext x4) (HT3.out.trans (Touch.of_ext x4 [B])) tx
  clear hS x4 hO3 hB3
  generalize hyb : w3.heap.size = yb at *
  clear hyb
  have q0 := hO4.k0
  have qf0 := hO4.f0
  have q1 := hO4.k1
  have qf1 := hO4.f1
  have q2 := hO4.k2
  have qf2 := hO4.f2
  have q3 := hO4.k3
  have qf3 := hO4.f3
  have q4 := hO4.k4
  have qf4 := hO4.f4
  have qz := hO4.lt
  have r0 := OY.k0
  have r1 := OY.k1
  have r2 := OY.k2
  have r3 := OY.k3
  have r4 := OY.k4
  have rz := OY.lt
  go_wp2_with fail
  generalize hWF : World.alloc (World.setCell (World.setCell (World.setCell (World.setCell (World.setCell W4 _ _) _ _) _ _) _ _) _ _) _ = WF at *
  clear hWF
  obtain ⟨cs9, fp9, O9, R9, F9, K9, B9, T9⟩ := U
  have HF9 := LH F9
  have HK9 := LH K9
  refine ⟨⟨eMsg tx [x, y], cs9, fp9, true, a2, b2, rfl, O9, R9, HF9, HK9.out, ?_, ?_, ?_, B9, T9⟩, ?_⟩
  · exact HTD2
  · exact LH (fun _ => by simp [eMsg])
  · exact Nat.lt_trans (Nat.lt_succ_of_lt haj) hm2
  · rw [placeOf_eq HPM.out, placeOf_eq HK9.out]; have := HK9.out.le; omega
def KGot (B tb to_ cap : Nat) (ao : Option Addr) (ts : List MToken) (w : World) (a : Nat) (b : Bool) (e : Ending) (w' : World) : Prop := ∃ (s : ByteArray) (l : List MExpr) (v : Value) (a' : Nat) (b' : Bool), e = .returned (.tuple #[.string s, v]) /\ AccX w.heap.size w' v l /\ Prs 49 B tb to_ cap ao ts w' (a') b' /\ Got b (fun n => pKeys ts n ⟨#[]⟩ [] a) b' (s, l, a') /\ l.length + a <= a' /\ s.size <= 100000 * (a' - a) /\ Touch w w' [B]
def KeyAt (B tb to_ cap : Nat) (ao : Option Addr) (ts : List MToken) (a : Nat) : Prop := ∀ (w : World) (b : Bool), Prs 49 B tb to_ cap ao ts w (a) b -> Calls Tryz.prog 97 #[.pointer (some ⟨B, 0, none⟩)] w (KGot B tb to_ cap ao ts w a b)
theorem keywords_at {B tb to_ cap : Nat} {ao : Option Addr} {ts : List MToken} {a : Nat} (HBI : ∀ a', a < a' -> BinAt B tb to_ cap ao ts a') : KeyAt B tb to_ cap ao ts a := by
 intro w b h
 have HP := LH h
 have hln := h.len
 have hle := h.le
 have hrb := h.own.lt
 have HBI := LH HBI
 have hfd := fld0
 have H0 := LH (Todo.refl b (fun n => pKeys ts n ⟨#[]⟩ [] a))
 clear h
 go_enter Tryz.func97, Tryz.ntmps97
 go_upto_region 2 with fail
 generalize hS : World.alloc w _ = W1
 have x1 : Ext w W1 := by rw [<- hS]; exact (XR _).alloc _
 have A1 : Hid (AccX w.heap.size W1 (.slice (some ⟨w.heap.size, 0, none⟩) 0 0) []) := LH (Acw.of (by rw [<- hS]; exact Acc.empty 27 5 (Nat.le_refl _)))
 have HP1 := LH (HP.out.ext x1)
 clear hS
 go_loopw [4, 5] (fun tv av wr => ∃ (s : ByteArray) (l : List MExpr) (j : Nat) (bj : Bool), tv = .string s /\ AccX w.heap.size wr av l /\ Prs 49 B tb to_ cap ao ts wr (j) bj /\ Hid (Todo b (fun n => pKeys ts n ⟨#[]⟩ [] a) bj (fun n => pKeys ts n s l j)) /\ l.length + a <= j /\ s.size <= 100000 * (j - a) /\ Touch w wr [B]) (fun _ _ wr => ts.length + 1 - placeOf B wr)
 case atStart => exact ⟨⟨#[]⟩, [], a, b, rfl, A1.out, HP1.out, H0, by simp, Nat.zero_le _, Touch.of_ext x1 _⟩
 case round =>
  clear A1 HP1 H0
  obtain ⟨av, hav⟩ : ∃ x, x = u5 := ⟨_, rfl⟩
  subst hav
  obtain ⟨s, l, j, bj, rfl, hA, hp, HTD, hlj, hsz, hT⟩ := hrel
  have HA := LH hA
  have HPj := LH hp
  have HPM := LH hp
  have HT := LH hT
  obtain ⟨c0, c1, c2⟩ := hp.cells
  have zB := lt_of_cell c0
  have hjl := hp.le
  have hws := hT.size
  clear hA hp hT
  cases bj
  rotate_left
  · have FIN : Hid (KGot B tb to_ cap ao ts w a b (.returned (.tuple #[.string s, av])) wr) := LH ⟨s, l, av, j, true, rfl, HA.out, HPj.out, HTD.out.dead _, hlj, hsz, HT.out⟩
    clear HTD
    go_wp2_with fail
    go_ret2
    exact FIN.out
  cases hb : tkB ts j 2
  · have s1 : (tkK ts j == 2) = false := by rw [<- tkB_eq (by decide)]; exact hb
    have HG : Hid (Got b (fun n => pKeys ts n ⟨#[]⟩ [] a) false (s, l, j)) := LH (HTD.out.done (fun n => by rw [pKeys, if_neg (by rw [hb]; decide)]))
    clear HTD hb
    go_wp2_with fail
    refine (peek_any _ HPj.out).mono ?_
    rintro e w1 ⟨rfl, hx⟩
    have hf := hfd (tkK ts j) (tkN ts j) (tkT ts j) w1
    have HX := LH hx
    generalize htx : tkT ts j = tx at *
    have HTX := LH htx
    generalize tkK ts j = kd at *
    generalize tkN ts j = nm at *
    clear hfd hx htx
    have FIN : Hid (KGot B tb to_ cap ao ts w a b (.returned (.tuple #[.string s, av])) w1) := LH ⟨s, l, av, j, false, rfl, HA.out.ext HX.out, HPj.out.ext HX.out, HG.out, hlj, hsz, HT.out.trans (Touch.of_ext HX.out _)⟩
    go_wp2_with fail
    go_ret2
    exact FIN.out
  have s1 : (tkK ts j == 2) = true := by rw [<- tkB_eq (by decide)]; exact hb
  have hjt := kind_lt (by decide) hb
  have htz := HPj.out.txt j
  have HTK := LH (fun (W : World) (hp : Prs 49 B tb to_ cap ao ts W j false) => take_yes W hp 2 (by decide) hb)
  have HTC := LH (fun (y : MExpr) (s2 : Bool) (a2 : Nat) (b2 : Bool) (hg : Got false (fun n => pBinary ts n (j + 1)) b2 (y, s2, a2)) => HTD.out.call hg (g := fun n r => pKeys ts n (s ++ tkT ts j) (l ++ [r.1]) r.2.2) (fun n => by rw [pKeys, if_pos hb]))
  clear HTD hb
  go_wp2_with fail
  refine (peek_any _ HPj.out).mono ?_
  rintro e w1 ⟨rfl, hx⟩
  have hf := hfd (tkK ts j) (tkN ts j) (tkT ts j) w1
  have HX := LH hx
  generalize htx : tkT ts j = tx at *
  have HTX := LH htx
  generalize tkK ts j = kd at *
  generalize tkN ts j = nm at *
  clear hfd hx htx
  have HP1 := LH (HPj.out.ext HX.out)
  have HA1 := LH (HA.out.ext HX.out)
  have HT1 := LH (HT.out.trans (Touch.of_ext HX.out [B]))
  clear HA HPj HT c0 c1 c2 zB
  go_wp2_with fail
  refine (HTK.out _ HP1.out).mono ?_
  rintro e w2 ⟨rfl, K2, T2⟩
  have HA2 := LH (HA1.out.touch T2 (fun k hk => by simp at hk; omega))
  have hs2 := T2.size
  have hs1 := HX.out.size
  have HT2 := LH (HT1.out.trans T2)
  have HU := LH (HBI.out (j + 1) (by omega) w2 false K2 (by omega))
  have hst : s.size <= 80100000 := by omega
  have hcat : (s ++ tx).size = s.size + tx.size := ByteArray.size_append
  have HCAT := LH hcat
  have HA1B : Hid (∀ k, av.ownBlock = some k -> k < w2.heap.size) := LH fun k hk => (Acw.ge HA2.out hk).2
  clear K2 T2 HA1 HT1 hf s1 HTK hcat
  go_wp2_with fail
  refine HU.out.mono ?_
  rintro e w3 ⟨y, ds, gp, s2, a2, b2, rfl, hr2, hf2, hp2, hg2, -, hm2, hT2⟩
  have HA3 := LH (HA2.out.touch hT2 (fun k hk => by simp at hk; omega))
  have HT3 := LH (HT2.out.trans hT2)
  have HTD2 := LH (HTC.out y s2 a2 b2 hg2)
  have HP3 := LH hp2
  have HS3 := LH hr2
  have HF3 := LH hf2
  have hs3 := hT2.size
  obtain ⟨z1, z2, z3, z4, rfl⟩ := fld5 hr2
  clear hr2 hf2 hp2 hg2 hT2 HA2 HT2 HU HTC
  go_upto_region 5 with fail
  generalize hS : World.alloc w3 _ = W4
  have x4 : Ext w3 W4 := by rw [<- hS]; exact (XR _).alloc _
  have OY : Own W4 w3.heap.size 27 #[.int .i64 y.kind, .string y.text, .int .i64 y.number, .slice z1 y.names.length z2, .slice z3 y.kids.length z4] := by rw [<- hS]; exact own_new w3 _ _
  have HA4 := LH (HA3.out.ext x4)
  have HP4 := LH (HP3.out.ext x4)
  have HS4 := LH (HS3.out.ext x4)
  have HT4 := LH (HT3.out.trans (Touch.of_ext x4 [B]))
  have hs4 := x4.size
  clear hS x4 HA3 HP3 HS3 HT3
  generalize hyb : w3.heap.size = yb at *
  clear hyb
  have r0 := OY.k0
  have r1 := OY.k1
  have r2 := OY.k2
  have r3 := OY.k3
  have r4 := OY.k4
  have rz := OY.lt
  have x5 : Ext W4 (W4.alloc (.cells #[.int .i64 y.kind, .string y.text, .int .i64 y.number, .slice z1 y.names.length z2, .slice z3 y.kids.length z4] 27)) := (XR W4).alloc _
  have KD := HA4.out.ext x5
  have HSL := one_expr (HS4.out.ext x5) (own_new W4 #[.int .i64 y.kind, .string y.text, .int .i64 y.number, .slice z1 y.names.length z2, .slice z3 y.kids.length z4] 27)
  go_wp2_with (at_builtin; refine wpList_append_x rfl _ _ rfl w.heap.size av l rfl KD [y] _ _ _ (W4.heap.size :: gp) rfl HSL (fun k hk => by have := HF3.out k hk; omega) (fun k hk hm => by have h1 := HF3.out k hm; have h2 := (HA1B.out k hk); omega) (by simp; omega) (by simp; omega) ?_)
  intro a1 k1 w6 ac1 g1 m1
  have TG : Touch (W4.alloc (.cells #[.int .i64 y.kind, .string y.text, .int .i64 y.number, .slice z1 y.names.length z2, .slice z3 y.kids.length z4] 27)) w6 av.ownBlock.toList := (Touch.of_ext (XR _) _).grown g1 fun k hk => Or.inl (by simp [hk])
  have HK6 := LH (HP.out.late (HP4.out.ext x5) TG (fun k hk => (Acw.ge KD (k := k) (by simpa using hk)).1))
  have HT6 := LH ((HT4.out.trans (Touch.of_ext x5 [B])).late2 TG (fun k hk => (Acw.ge KD (k := k) (by simpa using hk)).1))
  have HAC := LH ac1
  have hl2 : l.length + 1 + a <= a2 := by omega
  have hsz2 : (s ++ tx).size <= 100000 * (a2 - a) := by rw [HCAT.out]; omega
  clear KD HSL g1 m1 TG ac1 x5 OY r0 r1 r2 r3 r4 rz
  generalize hv1 : Value.slice a1 (l.length + [y].length) k1 = v1 at *
  go_wp2_with fail
  refine ⟨⟨s ++ tx, l ++ [y], a2, b2, rfl, HAC.out, HK6.out, ?_, ?_, hsz2, HT6.out⟩, ?_⟩
  · exact HTD2
  · simp; omega
  · rw [placeOf_eq HPM.out, placeOf_eq HK6.out]; have := HK6.out.le; omega
end Go.Proofs.YtndhpbjhkgdieaaGreatDoor
