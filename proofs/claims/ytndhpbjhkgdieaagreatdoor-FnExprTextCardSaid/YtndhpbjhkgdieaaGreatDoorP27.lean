/-
  CONTRACTS: the program's parser: unary and binary expressions.
  Conditions: those that each lemma states.
-/
import Derived.Test.YtndhpbjhkgdieaaGreatDoorRows
import Derived.Deep.DeepCutAuto
import Derived.Test.YtndhpbjhkgdieaaGreatDoorP26
namespace Go.Proofs.YtndhpbjhkgdieaaGreatDoor
open Go.RowKit
set_option maxHeartbeats 8000000
set_option maxRecDepth 100000
set_option linter.unusedSimpArgs false
set_option linter.unusedVariables false
theorem rep_nilT (w : World) : RepF w (strs []) [.slice none 0 0] [] := RepF.sl_iff.2 ⟨none, 0, rfl, by simp, by unfold maxLen; omega, by simp, Or.inl ⟨rfl, rfl⟩⟩
theorem rep_nilX (w : World) : RepF w (MExprs []) [.slice none 0 0] [] := RepF.sl_iff.2 ⟨none, 0, rfl, by simp, by unfold maxLen; omega, by simp, Or.inl ⟨rfl, rfl⟩⟩
theorem send1 {w : World} {x : MExpr} {cs : List Value} {fp : List Nat} {nb : Nat} {e : TypeId} (t : ByteArray) (h : RepF w x.d cs fp) (hO : Own w nb e cs.toArray) : RepF w (eMsg t [x]).d [.int .i64 6, .string t, .int .i64 0, .slice none 0 0, .slice (some ⟨nb, 0, none⟩) 1 1] (nb :: fp) := by
 have := MExpr.shut (x := eMsg t [x]) (rep_nilT w) (one_expr h hO)
 simp only [List.append_nil, List.nil_append] at this
 exact this
theorem two_expr {w : World} {x y : MExpr} {cs ds : List Value} {fp gp : List Nat} {b : Nat} {e : TypeId} (h : RepF w x.d cs fp) (k : RepF w y.d ds gp) (hO : Own w b e (cs ++ ds).toArray) : RepF w (MExprs [x, y]) [.slice (some ⟨b, 0, none⟩) 2 2] (b :: (fp ++ gp)) := by
 have hl : cs.length = 5 := by
  obtain ⟨_, _, _, _, rfl⟩ := fld5 h
  rfl
 have hk : ds.length = 5 := by
  obtain ⟨_, _, _, _, rfl⟩ := fld5 k
  rfl
 refine RepF.sl_iff.2 ⟨_, 2, by simp, by simp, by unfold maxLen; omega, by simp, Or.inr ⟨b, 0, cs ++ ds, fp ++ gp, by simp, rfl, rfl, hO.lt, fun j c hj => ?_, ?_⟩⟩
 · rw [Nat.zero_add, hO.cell]; simpa using hj
 · exact (RepR.one h hl).append (RepR.one k hk)
theorem send2 {w : World} {x y : MExpr} {cs ds : List Value} {fp gp : List Nat} {nb : Nat} {e : TypeId} (t : ByteArray) (h : RepF w x.d cs fp) (k : RepF w y.d ds gp) (hO : Own w nb e (cs ++ ds).toArray) : RepF w (eMsg t [x, y]).d [.int .i64 6, .string t, .int .i64 0, .slice none 0 0, .slice (some ⟨nb, 0, none⟩) 2 2] (nb :: (fp ++ gp)) := by
 have := MExpr.shut (x := eMsg t [x, y]) (rep_nilT w) (two_expr h k hO)
 simp only [List.append_nil, List.nil_append] at this
 exact this
def UPost (B tb to_ cap : Nat) (ao : Option Addr) (ts : List MToken) (w : World) (eb j : Nat) (y : MExpr) (WF : World) : Prop :=
 ∃ cs fp, Own WF eb 27 (List.toArray cs) /\ RepF WF y.d cs fp /\ (∀ k, k ∈ fp -> w.heap.size < k /\ k ≠ eb) /\ Prs 49 B tb to_ cap ao ts WF (j) false /\ Own WF w.heap.size 27 #[.int .i64 0, .string ⟨#[]⟩, .int .i64 0, .slice none 0 0, .slice none 0 0] /\ Touch w WF [B]
theorem size5 (w : World) (r : Nat) (v0 v1 v2 v3 v4 : Value) : (((((w.setCell ⟨r, 0, none⟩ v0).setCell ⟨r, 1, none⟩ v1).setCell ⟨r, 2, none⟩ v2).setCell ⟨r, 3, none⟩ v3).setCell ⟨r, 4, none⟩ v4).heap.size = w.heap.size := by simp [World.setCell]
section
variable {B tb to_ cap : Nat} {ao : Option Addr} {ts : List MToken} {w w7 : World} {a j eb nb : Nat} {b : Bool} {x : MExpr} {c0 c1 c2 c3 c4 : Value} {fp : List Nat}
theorem un_C (h0 : Prs 49 B tb to_ cap ao ts w (a) b) (OE : Own w7 eb 27 #[c0, c1, c2, c3, c4]) (R7 : RepF w7 x.d [c0, c1, c2, c3, c4] fp) (HF : ∀ k, k ∈ fp -> w.heap.size < k /\ k ≠ eb) (heb : w.heap.size < eb) (K7 : Prs 49 B tb to_ cap ao ts w7 (j) false) (B7 : Own w7 w.heap.size 27 #[.int .i64 0, .string ⟨#[]⟩, .int .i64 0, .slice none 0 0, .slice none 0 0]) (T7 : Touch w w7 [B]) (ON : Own w7 nb 27 #[c0, c1, c2, c3, c4]) (hnb : w.heap.size < nb /\ nb ≠ eb) (tx : ByteArray) :
 UPost B tb to_ cap ao ts w eb j (eMsg tx [x]) (((((w7.setCell ⟨eb, 0, none⟩ (.int .i64 6)).setCell ⟨eb, 1, none⟩ (.string tx)).setCell ⟨eb, 2, none⟩ (.int .i64 0)).setCell ⟨eb, 3, none⟩ (.slice none 0 0)).setCell ⟨eb, 4, none⟩ (.slice (some ⟨nb, 0, none⟩) 1 1)) := by
 obtain ⟨O8, T8⟩ := own5 OE (.int .i64 6) (.string tx) (.int .i64 0) (.slice none 0 0) (.slice (some ⟨nb, 0, none⟩) 1 1)
 have ON8 := ON.touch' T8 (by simpa using hnb.2)
 have R8 := R7.touch T8 (fun k hk hm => (HF k hk).2 (by simpa using hm))
 refine ⟨_, _, O8, send1 tx R8 (cs := [c0, c1, c2, c3, c4]) ON8, fun k hk => ?_, h0.late K7 T8 (fun k hk => by simp at hk; omega), B7.touch' T8 (by simp; omega), T7.late2 T8 (fun k hk => by simp at hk; omega)⟩
 rcases List.mem_cons.1 hk with rfl | hk
 · exact hnb
 · exact HF k hk
theorem un_A (h0 : Prs 49 B tb to_ cap ao ts w (a) b) (OE : Own w7 eb 27 #[c0, c1, c2, c3, c4]) (R7 : RepF w7 x.d [c0, c1, c2, c3, c4] fp) (HF : ∀ k, k ∈ fp -> w.heap.size < k /\ k ≠ eb) (heb : w.heap.size < eb) (K7 : Prs 49 B tb to_ cap ao ts w7 (j) false) (B7 : Own w7 w.heap.size 27 #[.int .i64 0, .string ⟨#[]⟩, .int .i64 0, .slice none 0 0, .slice none 0 0]) (T7 : Touch w w7 [B]) (tx : ByteArray) :
 UPost B tb to_ cap ao ts w eb j (eMsg tx [x]) ((((((w7.setCell ⟨eb, 0, none⟩ (.int .i64 6)).setCell ⟨eb, 1, none⟩ (.string tx)).setCell ⟨eb, 2, none⟩ (.int .i64 0)).setCell ⟨eb, 3, none⟩ (.slice none 0 0)).setCell ⟨eb, 4, none⟩ (.slice (some ⟨w7.heap.size, 0, none⟩) 1 1)).alloc (.cells #[c0, c1, c2, c3, c4] 27)) := by
 obtain ⟨O8, T8⟩ := own5 OE (.int .i64 6) (.string tx) (.int .i64 0) (.slice none 0 0) (.slice (some ⟨w7.heap.size, 0, none⟩) 1 1)
 have hsz := size5 w7 eb (.int .i64 6) (.string tx) (.int .i64 0) (.slice none 0 0) (.slice (some ⟨w7.heap.size, 0, none⟩) 1 1)
 generalize (((((w7.setCell ⟨eb, 0, none⟩ (.int .i64 6)).setCell ⟨eb, 1, none⟩ (.string tx)).setCell ⟨eb, 2, none⟩ (.int .i64 0)).setCell ⟨eb, 3, none⟩ (.slice none 0 0)).setCell ⟨eb, 4, none⟩ (.slice (some ⟨w7.heap.size, 0, none⟩) 1 1)) = W8 at *
 have x9 := (XR W8).alloc (.cells #[c0, c1, c2, c3, c4] 27)
 have ON := own_new W8 #[c0, c1, c2, c3, c4] 27
 rw [hsz] at ON
 have R9 := (R7.touch T8 (fun k hk hm => (HF k hk).2 (by simpa using hm))).ext x9
 have hel := OE.lt
 have hwl := T7.size
 refine ⟨_, _, O8.ext x9, send1 tx R9 (cs := [c0, c1, c2, c3, c4]) ON, fun k hk => ?_, (h0.late K7 T8 (fun k hk => by simp at hk; omega)).ext x9, (B7.touch' T8 (by simp; omega)).ext x9, (T7.late2 T8 (fun k hk => by simp at hk; omega)).trans (Touch.of_ext x9 _)⟩
 rcases List.mem_cons.1 hk with rfl | hk
 · omega
 · exact HF k hk
end
def PrimAt (B tb to_ cap : Nat) (ao : Option Addr) (ts : List MToken) (a : Nat) : Prop := ∀ (w : World) (b : Bool), Prs 49 B tb to_ cap ao ts w (a) b -> a <= ts.length -> Calls Tryz.prog 122 #[.pointer (some ⟨B, 0, none⟩)] w (EGot B tb to_ cap ao ts 1 w a b (fun n => pPrim ts n a))
def UnAt (B tb to_ cap : Nat) (ao : Option Addr) (ts : List MToken) (a : Nat) : Prop := ∀ (w : World) (b : Bool), Prs 49 B tb to_ cap ao ts w (a) b -> a <= ts.length -> Calls Tryz.prog 112 #[.pointer (some ⟨B, 0, none⟩)] w (SGot B tb to_ cap ao ts w a b (fun n => pUnary ts n a))
def BinAt (B tb to_ cap : Nat) (ao : Option Addr) (ts : List MToken) (a : Nat) : Prop := ∀ (w : World) (b : Bool), Prs 49 B tb to_ cap ao ts w (a) b -> a <= ts.length -> Calls Tryz.prog 96 #[.pointer (some ⟨B, 0, none⟩)] w (SGot B tb to_ cap ao ts w a b (fun n => pBinary ts n a))
theorem unary_at {B tb to_ cap : Nat} {ao : Option Addr} {ts : List MToken} {a : Nat} (HPR : PrimAt B tb to_ cap ao ts a) : UnAt B tb to_ cap ao ts a := by
 intro w b h ha
 have HP := LH h
 have hln := h.len
 have hrb := h.own.lt
 have HC := LH (fun (W : World) (hW : Ext w W) => HPR W b (h.ext hW) ha)
 have hfd := fld0
 clear h HPR
 go_enter Tryz.func112, Tryz.ntmps112
 go_upto_region 1 with fail
 generalize hS : World.alloc w _ = W1
 have x1 : Ext w W1 := by rw [<- hS]; exact (XR _).alloc _
 have O1 : Own W1 w.heap.size 27 #[.int .i64 0, .string ⟨#[]⟩, .int .i64 0, .slice none 0 0, .slice none 0 0] := by rw [<- hS]; exact own_new w _ _
 clear hS
 go_wp2_with fail
 refine (HC.out _ x1).mono ?_
 rintro e w2 ⟨x, cs, fp, a', b', rfl, hr, hf, hp, hg, hm, hT⟩
 have O2 := O1.touch' hT (by simp; omega)
 have hs1 := x1.size
 have hs2 := hT.size
 have hzo := O1.lt
 have hm1 := hm.1
 obtain ⟨y1, y2, y3, y4, rfl⟩ := fld5 hr
 go_upto_region 2 with fail
 generalize hS : World.alloc w2 _ = W3
 have x3 : Ext w2 W3 := by rw [<- hS]; exact (XR _).alloc _
 have OE : Own W3 w2.heap.size 27 #[.int .i64 x.kind, .string x.text, .int .i64 x.number, .slice y1 x.names.length y2, .slice y3 x.kids.length y4] := by rw [<- hS]; exact own_new w2 _ _
 have O3 := O2.ext x3
 have HP3 := LH (hp.ext x3)
 have HR3 := LH (hr.ext x3)
 have HF3 : Hid (∀ k, k ∈ fp -> w.heap.size < k /\ k ≠ w2.heap.size) := LH fun k hk => by
  have h1 := hf k hk
  have h2 := hr.lt _ k hk
  omega
 have HT3 := LH (((Touch.of_ext x1 [B]).trans hT).trans (Touch.of_ext x3 [B]))
 have H0 := LH ((Todo.refl b (fun n => pUnary ts n a)).call hg (g := fun n r => pUn ts n r.1 false r.2) (fun n => by rw [pUnary]))
 have hebr : w.heap.size < w2.heap.size := by omega
 have hebB : ¬ w2.heap.size = B := by omega
 clear hr hf hp hg hm hT O1 O2 hS x3 hs1 hs2 hzo x1 HC
 generalize hbe : w2.heap.size = eb at *
 clear hbe
 go_loopw [5] (fun sv wr => ∃ (x : MExpr) (cs : List Value) (fp : List Nat) (s : Bool) (j : Nat) (bj : Bool), sv = .bool s /\ Own wr eb 27 cs.toArray /\ RepF wr x.d cs fp /\ Hid (∀ k, k ∈ fp -> w.heap.size < k /\ k ≠ eb) /\ Prs 49 B tb to_ cap ao ts wr (j) bj /\ Hid (Todo b (fun n => pUnary ts n a) bj (fun n => pUn ts n x s j)) /\ Hid (s = true -> x.kids ≠ []) /\ a < j /\ Own wr w.heap.size 27 #[.int .i64 0, .string ⟨#[]⟩, .int .i64 0, .slice none 0 0, .slice none 0 0] /\ Touch w wr [B]) (fun _ wr => ts.length + 1 - placeOf B wr)
 case atStart => exact ⟨x, _, fp, false, a', b', rfl, OE, HR3.out, HF3, HP3.out, H0, LH (fun h => (by cases h)), by omega, O3, HT3.out⟩
 case round =>
  clear OE O3 HP3 HR3 HF3 HT3 H0 hm1
  obtain ⟨x, cs, fp, s, j, bj, rfl, hO, hr, HF, hp, HTD, HS, haj, hB, hT⟩ := hrel
  obtain ⟨y1, y2, y3, y4, rfl⟩ := fld5 hr
  have HR := LH hr
  have HPj := LH hp
  have HPM := LH hp
  have HT := LH hT
  obtain ⟨c0, c1, c2⟩ := hp.cells
  have zB := lt_of_cell c0
  have hjl := hp.le
  clear hr hp hT
  have q0 := hO.k0
  have qf0 := hO.f0
  have q1 := hO.k1
  have qf1 := hO.f1
  have q2 := hO.k2
  have qf2 := hO.f2
  have q3 := hO.k3
  have qf3 := hO.f3
  have q4 := hO.k4
  have qf4 := hO.f4
  have qz := hO.lt
  have o0 := hB.k0
  have of0 := hB.f0
  have o1 := hB.k1
  have of1 := hB.f1
  have o2 := hB.k2
  have of2 := hB.f2
  have o3 := hB.k3
  have of3 := hB.f3
  have o4 := hB.k4
  have of4 := hB.f4
  have oz := hB.lt
  cases bj
  rotate_left
  · have HG : Hid (Got b (fun n => pUnary ts n a) true (x, s, j)) := LH (HTD.out.dead _)
    clear HTD
    go_wp2_with fail
    generalize hS : World.setCell (World.setCell (World.setCell (World.setCell (World.setCell wr _ _) _ _) _ _) _ _) _ _ = W9
    obtain ⟨O9, T9⟩ := own5 hB (.int .i64 x.kind) (.string x.text) (.int .i64 x.number) (.slice y1 x.names.length y2) (.slice y3 x.kids.length y4)
    rw [hS] at O9 T9
    clear hS
    have p0 := O9.k0
    have p1 := O9.k1
    have p2 := O9.k2
    have p3 := O9.k3
    have p4 := O9.k4
    have pz := O9.lt
    have FIN : SGot B tb to_ cap ao ts w a b (fun n => pUnary ts n a) (.returned (.tuple #[.agg #[.int .i64 x.kind, .string x.text, .int .i64 x.number, .slice y1 x.names.length y2, .slice y3 x.kids.length y4], .bool s])) W9 := ⟨x, _, fp, s, j, _, rfl, HR.out.touch T9 (fun k hk hm => by have := HF.out k hk; simp at hm; omega), fun k hk => by have := HF.out k hk; omega, HP.out.late HPj.out T9 (fun k hk => by simp at hk; omega), HG.out, HS.out, haj, HT.out.late2 T9 (fun k hk => by simp at hk; omega)⟩
    exact bodyPost_ret (v := .tuple #[.agg #[.int .i64 x.kind, .string x.text, .int .i64 x.number, .slice y1 x.names.length y2, .slice y3 x.kids.length y4], .bool s]) (by simp [results, Tryz.results112, go_sem, p0, p1, p2, p3, p4, pz]) rfl FIN
  cases hb : tkB ts j 1
  · have s1 : (tkK ts j == 1) = false := by rw [<- tkB_eq (by decide)]; exact hb
    have HG : Hid (Got b (fun n => pUnary ts n a) false (x, s, j)) := LH (HTD.out.done (fun n => by rw [pUn, if_neg (by rw [hb]; decide)]))
    clear HTD hb
    go_wp2_with fail
    refine (peek_any _ HPj.out).mono ?_
    rintro e w1 ⟨rfl, hx⟩
    have hf := hfd (tkK ts j) (tkN ts j) (tkT ts j) w1
    have HX := LH hx
    generalize htx : tkT ts j = tx at *
    have HTX := LH htx
    generalize tkK ts j = kd at *
    generalize tkN ts j = nm at *
    clear hfd hx htx
    have hO1 := hO.ext HX.out
    have hB1 := hB.ext HX.out
    have HR1 := LH (HR.out.ext HX.out)
    have HP1 := LH (HPj.out.ext HX.out)
    have HT1 := LH (HT.out.trans (Touch.of_ext HX.out [B]))
    clear hO hB HR HPj HT c0 c1 c2 zB q0 qf0 q1 qf1 q2 qf2 q3 qf3 q4 qf4 qz
    clear o0 of0 o1 of1 o2 of2 o3 of3 o4 of4 oz
    have q0 := hO1.k0
    have q1 := hO1.k1
    have q2 := hO1.k2
    have q3 := hO1.k3
    have q4 := hO1.k4
    have qz := hO1.lt
    have o0 := hB1.k0
    have of0 := hB1.f0
    have o1 := hB1.k1
    have of1 := hB1.f1
    have o2 := hB1.k2
    have of2 := hB1.f2
    have o3 := hB1.k3
    have of3 := hB1.f3
    have o4 := hB1.k4
    have of4 := hB1.f4
    have oz := hB1.lt
    go_wp2_with fail
    generalize hS : World.setCell (World.setCell (World.setCell (World.setCell (World.setCell w1 _ _) _ _) _ _) _ _) _ _ = W9
    obtain ⟨O9, T9⟩ := own5 hB1 (.int .i64 x.kind) (.string x.text) (.int .i64 x.number) (.slice y1 x.names.length y2) (.slice y3 x.kids.length y4)
    rw [hS] at O9 T9
    clear hS
    have p0 := O9.k0
    have p1 := O9.k1
    have p2 := O9.k2
    have p3 := O9.k3
    have p4 := O9.k4
    have pz := O9.lt
    have FIN : SGot B tb to_ cap ao ts w a b (fun n => pUnary ts n a) (.returned (.tuple #[.agg #[.int .i64 x.kind, .string x.text, .int .i64 x.number, .slice y1 x.names.length y2, .slice y3 x.kids.length y4], .bool s])) W9 := ⟨x, _, fp, s, j, _, rfl, HR1.out.touch T9 (fun k hk hm => by have := HF.out k hk; simp at hm; omega), fun k hk => by have := HF.out k hk; omega, HP.out.late HP1.out T9 (fun k hk => by simp at hk; omega), HG.out, HS.out, haj, HT1.out.late2 T9 (fun k hk => by simp at hk; omega)⟩
    exact bodyPost_ret (v := .tuple #[.agg #[.int .i64 x.kind, .string x.text, .int .i64 x.number, .slice y1 x.names.length y2, .slice y3 x.kids.length y4], .bool s]) (by simp [results, Tryz.results112, go_sem, p0, p1, p2, p3, p4, pz]) rfl FIN
  have s1 : (tkK ts j == 1) = true := by rw [<- tkB_eq (by decide)]; exact hb
  have hjt := kind_lt (by decide) hb
  have htz := HPj.out.txt j
  have HTK := LH (fun (W : World) (hp : Prs 49 B tb to_ cap ao ts W j false) => take_yes W hp 1 (by decide) hb)
  have HTD2 : Hid (Todo b (fun n => pUnary ts n a) false (fun n => pUn ts n (eMsg (tkT ts j) [x]) true (j + 1))) := LH (HTD.out.step (fun n => by rw [pUn, if_pos hb]))
  clear HTD hb
  go_wp2_with fail
  refine (peek_any _ HPj.out).mono ?_
  rintro e w1 ⟨rfl, hx⟩
  have hf := hfd (tkK ts j) (tkN ts j) (tkT ts j) w1
  have HX := LH hx
  generalize htx : tkT ts j = tx at *
  have HTX := LH htx
  generalize tkK ts j = kd at *
  generalize tkN ts j = nm at *
  clear hfd hx htx
  have hO1 := hO.ext HX.out
  have hB1 := hB.ext HX.out
  have HR1 := LH (HR.out.ext HX.out)
  have HP1 := LH (HPj.out.ext HX.out)
  have HT1 := LH (HT.out.trans (Touch.of_ext HX.out [B]))
  clear hO hB HR HPj HT c0 c1 c2 zB q0 qf0 q1 qf1 q2 qf2 q3 qf3 q4 qf4 qz
  clear o0 of0 o1 of1 o2 of2 o3 of3 o4 of4 oz
  have q0 := hO1.k0
  have qf0 := hO1.f0
  have q1 := hO1.k1
  have qf1 := hO1.f1
  have q2 := hO1.k2
  have qf2 := hO1.f2
  have q3 := hO1.k3
  have qf3 := hO1.f3
  have q4 := hO1.k4
  have qf4 := hO1.f4
  have qz := hO1.lt
  have c0 := HP1.out.own.cell 0
  have zB := HP1.out.own.lt
  have HQ : Hid (∀ W w7, Ext w1 W -> Touch W w7 [B] -> Own w7 eb 27 #[.int .i64 x.kind, .string x.text, .int .i64 x.number, .slice y1 x.names.length y2, .slice y3 x.kids.length y4]) := LH fun W w7 hW hT => (hO1.ext hW).touch' hT (by simpa using hebB)
  have HRQ : Hid (∀ W w7, Ext w1 W -> Touch W w7 [B] -> RepF w7 x.d [.int .i64 x.kind, .string x.text, .int .i64 x.number, .slice y1 x.names.length y2, .slice y3 x.kids.length y4] fp) := LH fun W w7 hW hT => (HR1.out.ext hW).touch hT (fun k hk hm => by have := HF.out k hk; simp at hm; omega)
  have HBQ : Hid (∀ W w7, Ext w1 W -> Touch W w7 [B] -> Own w7 w.heap.size 27 #[.int .i64 0, .string ⟨#[]⟩, .int .i64 0, .slice none 0 0, .slice none 0 0]) := LH fun W w7 hW hT => (hB1.ext hW).touch' hT (by simp; omega)
  have HTQ : Hid (∀ W w7, Ext w1 W -> Touch W w7 [B] -> Touch w w7 [B]) := LH fun W w7 hW hT => (HT1.out.trans (Touch.of_ext hW [B])).trans hT
  go_upto_region 3 with fail
  go_region_with (refine (HTK.out _ (HP1.out.ext (by first | exact Ext.drew (XR _) | exact (Ext.drew (XR _)).alloc _ | exact ((XR _).alloc _).drew))).mono ?_; rintro e w7 ⟨rfl, K7, T7⟩; have OE7 := HQ.out _ _ (by first | exact Ext.drew (XR _) | exact (Ext.drew (XR _)).alloc _ | exact ((XR _).alloc _).drew) T7; have k0 : w7.cell? ⟨eb, 0, none⟩ = some (.int .i64 x.kind) := OE7.cell 0; have kf0 := OE7.f0; have k1 : w7.cell? ⟨eb, 1, none⟩ = some (.string x.text) := OE7.cell 1; have kf1 := OE7.f1; have k2 : w7.cell? ⟨eb, 2, none⟩ = some (.int .i64 x.number) := OE7.cell 2; have kf2 := OE7.f2; have k3 : w7.cell? ⟨eb, 3, none⟩ = some (.slice y1 x.names.length y2) := OE7.cell 3; have kf3 := OE7.f3; have k4 : w7.cell? ⟨eb, 4, none⟩ = some (.slice y3 x.kids.length y4) := OE7.cell 4; have kf4 := OE7.f4; have kz := OE7.lt)
  all_goals
   have hbw : B < w1.heap.size := zB
   have hw1 : w.heap.size < w1.heap.size := hB1.lt
   have hw1B : w1.heap.size ∉ [B] := by simp; omega
   have R7 : RepF w7 x.d [.int .i64 x.kind, .string x.text, .int .i64 x.number, .slice y1 x.names.length y2, .slice y3 x.kids.length y4] fp := HRQ.out _ _ (by first | exact Ext.drew (XR _) | exact (Ext.drew (XR _)).alloc _ | exact ((XR _).alloc _).drew) T7
   have B7 : Own w7 w.heap.size 27 #[.int .i64 0, .string ⟨#[]⟩, .int .i64 0, .slice none 0 0, .slice none 0 0] := HBQ.out _ _ (by first | exact Ext.drew (XR _) | exact (Ext.drew (XR _)).alloc _ | exact ((XR _).alloc _).drew) T7
   have T07 : Touch w w7 [B] := HTQ.out _ _ (by first | exact Ext.drew (XR _) | exact (Ext.drew (XR _)).alloc _ | exact ((XR _).alloc _).drew) T7
   first
    | (have ON : Own w7 w1.heap.size 27 #[.int .i64 x.kind, .string x.text, .int .i64 x.number, .slice y1 x.names.length y2, .slice y3 x.kids.length y4] := by with_reducible exact Own.touch' ((own_new w1 #[.int .i64 x.kind, .string x.text, .int .i64 x.number, .slice y1 x.names.length y2, .slice y3 x.kids.length y4] 27).ext (Ext.drew (XR _))) T7 hw1B
       have hne : w1.heap.size ≠ eb := by have := qz; omega
       have U := un_C HP.out OE7 R7 HF.out hebr K7 B7 T07 ON ⟨hw1, hne⟩ tx
       generalize hWF : World.setCell (World.setCell (World.setCell (World.setCell (World.setCell w7 _ _) _ _) _ _) _ _) _ _ = WF at *)
    | (have U := un_A HP.out OE7 R7 HF.out hebr K7 B7 T07 tx
       generalize hWF : World.alloc (World.setCell (World.setCell (World.setCell (World.setCell (World.setCell w7 _ _) _ _) _ _) _ _) _ _) _ = WF at *)
   clear hWF
   obtain ⟨cs9, fp9, O9, R9, F9, K9, B9, T9⟩ := U
   have HF9 := LH F9
   have HK9 := LH K9
   clear K7 T7 OE7 R7 B7 T07 k0 kf0 k1 kf1 k2 kf2 k3 kf3 k4 kf4 kz q0 qf0 q1 qf1 q2 qf2 q3 qf3 q4 qf4 qz c0 zB hf s1 hO1 hB1
   simp only [List.getElem_toArray, List.getElem_cons_succ, List.getElem_cons_zero, Act.put, List.setIfInBounds_toArray, List.set_cons_succ, List.set_cons_zero]
   go_wp2_with fail
   refine ⟨⟨eMsg tx [x], cs9, fp9, true, j + 1, false, rfl, O9, R9, HF9, HK9.out, ?_, ?_, ?_, B9, T9⟩, ?_⟩
   · exact HTD2
   · exact LH (fun _ => by simp [eMsg])
   · exact Nat.lt_succ_of_lt haj
   · rw [placeOf_eq HPM.out, placeOf_eq HK9.out]; omega
end Go.Proofs.YtndhpbjhkgdieaaGreatDoor
