/-
  CONTRACTS: the reference's parser: names, messages and blocks made.
  Conditions: those that each lemma states.
-/
import Derived.Test.YtonmcoojgkgemaaGreatDoorRows
import Derived.Test.YtonmcoojgkgemaaGreatDoorP34
import Derived.Test.YtonmcoojgkgemaaGreatDoorP31
namespace Go.Proofs.YtonmcoojgkgemaaGreatDoor
open Go.RowKit
set_option linter.unusedSimpArgs false
set_option linter.unusedVariables false

theorem ne1 (c : UInt8) : ((⟨#[c]⟩ : ByteArray).toList == []) = false := str_ne' (l := []) (fun h => by injection h with h; cases h)
def SendP (w : World) (t : MExpr) (fp gp : List Nat) (e : Ending) (w' : World) : Prop := ∃ cs' fp', e = .returned (.agg (List.toArray cs')) ∧ RepF w' t.d cs' fp' ∧ (∀ k, k ∈ fp' → k ∈ fp ∨ k ∈ gp ∨ w.heap.size ≤ k) ∧ Ext w w'

set_option maxHeartbeats 2000000 in
set_option maxRecDepth 100000 in
theorem l3Send_any {w : World} {x : MExpr} {cs : List Value} {fp : List Nat} (s : ByteArray) {l : List MExpr} {ao : Option Addr} {cap : Nat} {gp : List Nat} (hr : RepF w x.d cs fp) (ha : RepF w (MExprs l) [.slice ao l.length cap] gp) (hl : l.length ≤ 100000) :
    Calls Tryz.prog 59 #[.agg cs.toArray, .string s, .slice ao l.length cap] w (SendP w (eMsg s (x :: l)) fp gp) := by
  obtain ⟨y1, y2, y3, y4, rfl⟩ := fld5 hr
  go_enter Tryz.func59, Tryz.ntmps59
  go_upto_region 1 with fail
  generalize hS : World.alloc (World.alloc w _) _ = W1
  have x1 : Ext w W1 := by rw [← hS]; exact ((Ext.refl _).alloc _).alloc _
  have OX : Own W1 w.heap.size 25 #[.int .i64 x.kind, .string x.text, .int .i64 x.number, .slice y1 x.names.length y2, .slice y3 x.kids.length y4] := by rw [← hS]; exact (own_new w _ _).ext ((Ext.refl _).alloc _)
  have OR : Own W1 (w.heap.size + 1) 25 #[.int .i64 0, .string ⟨#[]⟩, .int .i64 0, .slice none 0 0, .slice none 0 0] := by rw [← hS]; exact own_new2 w _ _ _
  have hs1 : w.heap.size + 1 + 1 ≤ W1.heap.size := by rw [← hS]; simp
  clear hS
  have HR1 := Lib.hid (hr.ext x1)
  have HA1 := Lib.hid (ha.ext x1)
  have hfl := hr.lt
  have hgl := ha.lt
  have HF : Hid (∀ k, k ∈ fp → k < w.heap.size) := Lib.hid hfl
  have HG : Hid (∀ k, k ∈ gp → k < w.heap.size) := Lib.hid hgl
  clear hr ha hfl hgl
  have q0 : W1.cell? ⟨w.heap.size, 0, none⟩ = some (.int .i64 x.kind) := OX.cell 0
  have qf0 := OX.frozen 0
  have q1 : W1.cell? ⟨w.heap.size, 1, none⟩ = some (.string x.text) := OX.cell 1
  have qf1 := OX.frozen 1
  have q2 : W1.cell? ⟨w.heap.size, 2, none⟩ = some (.int .i64 x.number) := OX.cell 2
  have qf2 := OX.frozen 2
  have q3 : W1.cell? ⟨w.heap.size, 3, none⟩ = some (.slice y1 x.names.length y2) := OX.cell 3
  have qf3 := OX.frozen 3
  have q4 : W1.cell? ⟨w.heap.size, 4, none⟩ = some (.slice y3 x.kids.length y4) := OX.cell 4
  have qf4 := OX.frozen 4
  have qz := OX.lt
  have x2 : Ext W1 (W1.alloc (.cells #[.int .i64 x.kind, .string x.text, .int .i64 x.number, .slice y1 x.names.length y2, .slice y3 x.kids.length y4] 25)) := (Ext.refl W1).alloc _
  have KD : AccXS (fun k => k ∈ fp ∨ k ∈ gp) (w.heap.size + 1 + 1) (W1.alloc (.cells #[.int .i64 x.kind, .string x.text, .int .i64 x.number, .slice y1 x.names.length y2, .slice y3 x.kids.length y4] 25)) (.slice (some ⟨W1.heap.size, 0, none⟩) 1 1) [x] := AccXS.one (HR1.out.ext x2) (own_new W1 #[.int .i64 x.kind, .string x.text, .int .i64 x.number, .slice y1 x.names.length y2, .slice y3 x.kids.length y4] 25) (by omega) (fun k hk => ⟨Or.inl hk, by have := HF.out k hk; omega⟩)
  have HSL := HA1.out.ext x2
  have F1 : ∀ k, k ∈ gp.tail → k ∈ fp ∨ k ∈ gp := fun k hk => Or.inr (List.mem_of_mem_tail hk)
  have F2 : ∀ k, (Value.slice (some ⟨W1.heap.size, 0, none⟩) 1 1).ownBlock = some k → k ∉ gp.tail := fun k hk hm => by
    have := HG.out k (List.mem_of_mem_tail hm)
    simp [Value.ownBlock] at hk
    omega
  have hl1 : ([x] : List MExpr).length + l.length ≤ 1073741824 := by simp; omega
  go_wp2_with (at_builtin; refine wpList_append_xs rfl _ _ rfl (w.heap.size + 1 + 1) _ [x] rfl KD l _ _ _ gp rfl HSL F1 F2 hl1 (by simp; omega) ?_)
  intro a1 k1 w7 ac1 g1 m1
  have TG : Touch (W1.alloc (.cells #[.int .i64 x.kind, .string x.text, .int .i64 x.number, .slice y1 x.names.length y2, .slice y3 x.kids.length y4] 25)) w7 [W1.heap.size] := (Touch.of_ext (Ext.refl _) _).grown g1 fun k hk => Or.inl (by simp [Value.ownBlock] at hk; simp [hk])
  have OR7 := (OR.ext x2).touch' TG (by simp; omega)
  have X7 : Ext w w7 := Touch.ext (x1.trans x2) TG (fun k hk => by simp at hk; omega)
  obtain ⟨va, vc, gq, hv7, hr7, hge7⟩ := AccXS.rep ac1
  have e7 : (x :: l).length = 1 + l.length := by rw [List.length_cons, Nat.add_comm]
  rw [e7] at hv7 hr7
  injection hv7 with hv7 _ hv8
  subst hv7
  subst hv8
  have HR7 := Lib.hid hr7
  have HF7 : Hid (∀ k, k ∈ gq → k ∈ fp ∨ k ∈ gp ∨ w.heap.size + 2 ≤ k) := Lib.hid fun k hk => by
    rcases hge7 k hk with h | h
    · rcases h with h | h
      · exact Or.inl h
      · exact Or.inr (Or.inl h)
    · have := (AcwS.ge ac1 h).1; exact Or.inr (Or.inr (by omega))
  have HX7 := Lib.hid X7
  clear KD HSL F1 F2 hl1 g1 m1 TG ac1 OX OR HR1 HA1 hr7 hge7 e7 x1 x2 X7 q0 qf0 q1 qf1 q2 qf2 q3 qf3 q4 qf4 qz
  have r0 : w7.cell? ⟨(w.heap.size + 1), 0, none⟩ = some (.int .i64 0) := OR7.cell 0
  have rf0 := OR7.frozen 0
  have r1 : w7.cell? ⟨(w.heap.size + 1), 1, none⟩ = some (.string ⟨#[]⟩) := OR7.cell 1
  have rf1 := OR7.frozen 1
  have r2 : w7.cell? ⟨(w.heap.size + 1), 2, none⟩ = some (.int .i64 0) := OR7.cell 2
  have rf2 := OR7.frozen 2
  have r3 : w7.cell? ⟨(w.heap.size + 1), 3, none⟩ = some (.slice none 0 0) := OR7.cell 3
  have rf3 := OR7.frozen 3
  have r4 : w7.cell? ⟨(w.heap.size + 1), 4, none⟩ = some (.slice none 0 0) := OR7.cell 4
  have rf4 := OR7.frozen 4
  have rz := OR7.lt
  go_wp2_with fail
  generalize hS : World.setCell (World.setCell (World.setCell (World.setCell (World.setCell w7 _ _) _ _) _ _) _ _) _ _ = W8
  obtain ⟨O8, T8⟩ := own5 OR7 (.int .i64 6) (.string s) (.int .i64 0) (.slice none 0 0) (.slice a1 (1 + l.length) k1)
  rw [hS] at O8 T8
  clear hS
  have p0 : W8.cell? ⟨w.heap.size + 1, 0, none⟩ = some (.int .i64 6) := O8.cell 0
  have p1 : W8.cell? ⟨w.heap.size + 1, 1, none⟩ = some (.string s) := O8.cell 1
  have p2 : W8.cell? ⟨w.heap.size + 1, 2, none⟩ = some (.int .i64 0) := O8.cell 2
  have p3 : W8.cell? ⟨w.heap.size + 1, 3, none⟩ = some (.slice none 0 0) := O8.cell 3
  have p4 : W8.cell? ⟨w.heap.size + 1, 4, none⟩ = some (.slice a1 (1 + l.length) k1) := O8.cell 4
  have pz := O8.lt
  have R8 := MExpr.shut (x := eMsg s (x :: l)) (rep_nilT W8) (HR7.out.touch T8 (fun k hk hm => by
    have := HF7.out k hk
    simp at hm
    rcases this with h | h | h
    · have := HF.out k h; omega
    · have := HG.out k h; omega
    · omega))
  simp only [List.append_nil, List.nil_append] at R8
  have FIN : SendP w (eMsg s (x :: l)) fp gp (.returned (.agg #[.int .i64 6, .string s, .int .i64 0, .slice none 0 0, .slice a1 (1 + l.length) k1])) W8 := ⟨_, gq, rfl, R8, fun k hk => by
    rcases HF7.out k hk with h | h | h
    · exact Or.inl h
    · exact Or.inr (Or.inl h)
    · exact Or.inr (Or.inr (by omega)), Touch.ext HX7.out T8 (fun k hk => by simp at hk; omega)⟩
  exact bodyPost_ret (v := .agg #[.int .i64 6, .string s, .int .i64 0, .slice none 0 0, .slice a1 (1 + l.length) k1]) (by simp [results, Tryz.results59, go_sem, p0, p1, p2, p3, p4, pz]) rfl FIN

set_option maxHeartbeats 2000000 in
set_option maxRecDepth 100000 in
theorem rnames_any {B tb to_ cap : Nat} {ao : Option Addr} {ts : List MToken} {a : Nat} {b : Bool} (w : World) (h : Prs 48 B tb to_ cap ao ts w (a) b)  : Calls Tryz.prog 43 #[.pointer (some ⟨B, 0, none⟩)] w fun e w' => ∃ v l a' b', e = .returned v ∧ AccT w.heap.size w' v l ∧ Prs 48 B tb to_ cap ao ts w' (a') b' ∧ Got b (fun n => pVars ts n a) b' (l, a') ∧ a ≤ a' ∧ l.length ≤ a' - a ∧ Touch w w' [B] := by
  have HP := Lib.hid h
  have hB0 := h.own.lt
  have hln := h.len
  clear h
  go_enter Tryz.func43, Tryz.ntmps43
  go_upto_region 2 with fail
  generalize hS : World.alloc w _ = W1
  have x1 : Ext w W1 := by rw [← hS]; exact (Ext.refl _).alloc _
  have A1 : Hid (AccT w.heap.size W1 (.slice (some ⟨w.heap.size, 0, none⟩) 0 0) []) := Lib.hid (by rw [← hS]; exact Acc.empty _ _ (Nat.le_refl _))
  have HP1 := Lib.hid (HP.out.ext x1)
  have hx1 := x1.size
  have X1 := Lib.hid x1
  clear hS x1
  cases hb : tkxB ts a 7 barM
  · have HG : Hid (Got b (fun n => pVars ts n a) b (([] : List ByteArray), a)) := Lib.hid (Got.ok ⟨0, fun n _ => by show pVars ts n a = _; rw [pVars, if_neg (by rw [hb]; decide)]⟩)
    have HC := Lib.hid (rtake_no W1 HP1.out 7 ⟨#[124]⟩ (by decide) (ne1 _) hb)
    clear hb
    go_wp2_with fail
    refine HC.out.mono ?_
    rintro e w1 ⟨rfl, hx⟩
    go_wp2_with fail
    go_ret
    exact ⟨_, [], a, b, rfl, AccT.ext A1.out hx, HP1.out.ext hx, HG.out, Nat.le_refl _, by simp, Touch.of_ext (X1.out.trans hx) _⟩
  have HC := Lib.hid (rtake_yes W1 HP1.out 7 ⟨#[124]⟩ (by decide) (ne1 _) hb)
  have HB := Lib.hid hb
  have H0 : Hid (∀ r, Ev (fun n => pNames ts n [] (a + 1)) r → Ev (fun n => pNames ts n [] (a + 1)) r) := Lib.hid fun r h => h
  clear hb
  go_wp2_with fail
  refine HC.out.mono ?_
  rintro e w0 ⟨rfl, K1, T1⟩
  have A2 := Lib.hid (AccT.low A1.out T1 (fun k hk => by simp at hk; omega))
  have HP2 := Lib.hid K1
  have HT2 := Lib.hid ((Touch.of_ext X1.out [B]).trans T1)
  clear K1 T1 A1 HP1 X1 HC
  go_wp2_with fail
  go_loopw [3] (fun v wr => ∃ (l : List ByteArray) (j : Nat), AccT w.heap.size wr v l ∧ Prs 48 B tb to_ cap ao ts wr (j) b ∧ Hid (∀ r, Ev (fun n => pNames ts n l j) r → Ev (fun n => pNames ts n [] (a + 1)) r) ∧ a + 1 ≤ j ∧ l.length + a + 1 ≤ j ∧ Touch w wr [B]) (fun _ wr => ts.length + 1 - placeOf B wr)
  case atStart => exact ⟨[], a + 1, A2.out, HP2.out, H0, Nat.le_refl _, by simp, HT2.out⟩
  case round =>
    clear A2 HP2 H0 HT2
    obtain ⟨v, hv⟩ : ∃ x, x = u3 := ⟨_, rfl⟩
    subst hv
    obtain ⟨l, j, hA, hP, hR, haj, hlj, hT⟩ := hrel
    have HA := Lib.hid hA
    have HPj := Lib.hid hP
    have HT := Lib.hid hT
    have hjl := hP.le
    have hws := hT.size
    clear hA hP hT
    cases hb1 : tkB ts j 1
    · have he : Hid (Ev (fun n => pNames ts n [] (a + 1)) (some (l, j))) := Lib.hid (hR.out _ (Ev.step (g := fun _ => some (l, j)) (fun n => by rw [pNames, if_neg (by rw [hb1]; decide)]) (Ev.const _)))
      have HI := Lib.hid (risk_any wr HPj.out 1 (by decide))
      rw [hb1] at HI
      clear hb1 hR
      go_wp2_with fail
      refine HI.out.mono ?_
      rintro e w2 ⟨rfl, hx⟩
      have HA2 := Lib.hid (AccT.ext HA.out hx)
      have HT2 := Lib.hid (HT.out.trans (Touch.of_ext hx [B]))
      have HK2 := Lib.hid (HPj.out.ext hx)
      have hs2 := hx.size
      clear HA HT HPj hx HI
      cases hb : tkxB ts j 7 barM
      · have HG : Hid (Got b (fun n => pVars ts n a) true (l, j)) := Lib.hid (Got.bad _ (by
          obtain ⟨n0, h0⟩ := he.out
          refine ⟨n0, fun n hn => ?_⟩
          have h1 : pNames ts n [] (a + 1) = some (l, j) := h0 n hn
          show pVars ts n a = none
          rw [pVars, if_pos HB.out, h1]
          show (if tkxB ts j 7 barM = true then some (l, j + 1) else none) = none
          rw [if_neg (by rw [hb]; decide)]))
        have HC2 := Lib.hid (rneedx_no w2 HK2.out 7 ⟨#[124]⟩ (by decide) (ne1 _) hb)
        clear hb
        go_wp2_with fail
        refine HC2.out.mono ?_
        rintro e w3 ⟨rfl, K3, T3⟩
        have A3 := AccT.low HA2.out T3 (fun k hk => by simp at hk; omega)
        go_wp2_with fail
        go_ret
        exact ⟨_, l, j, true, rfl, A3, K3, HG.out, by omega, by omega, HT2.out.trans T3⟩
      have HG : Hid (Got b (fun n => pVars ts n a) b (l, j + 1)) := Lib.hid (Got.ok (by
        obtain ⟨n0, h0⟩ := he.out
        refine ⟨n0, fun n hn => ?_⟩
        have h1 : pNames ts n [] (a + 1) = some (l, j) := h0 n hn
        show pVars ts n a = some (l, j + 1)
        rw [pVars, if_pos HB.out, h1]
        show (if tkxB ts j 7 barM = true then some (l, j + 1) else none) = some (l, j + 1)
        rw [if_pos hb]))
      have HC2 := Lib.hid (rneedx_yes w2 HK2.out 7 ⟨#[124]⟩ (by decide) (ne1 _) hb)
      clear hb
      go_wp2_with fail
      refine HC2.out.mono ?_
      rintro e w3 ⟨rfl, K3, T3⟩
      have A3 := AccT.low HA2.out T3 (fun k hk => by simp at hk; omega)
      go_wp2_with fail
      go_ret
      exact ⟨_, l, j + 1, b, rfl, A3, K3, HG.out, by omega, by omega, HT2.out.trans T3⟩
    have hjt := kind_lt (by decide) hb1
    have HE : Hid (∀ r, Ev (fun n => pNames ts n (l ++ [tkT ts j]) (j + 1)) r → Ev (fun n => pNames ts n [] (a + 1)) r) := Lib.hid (fun r h => hR.out r (Ev.step (g := fun n => pNames ts n (l ++ [tkT ts j]) (j + 1)) (fun n => by rw [pNames, if_pos hb1]) h))
    have HI := Lib.hid (risk_any wr HPj.out 1 (by decide))
    rw [hb1] at HI
    have HB1 := Lib.hid hb1
    clear hb1 hR
    go_wp2_with fail
    refine HI.out.mono ?_
    rintro e w2 ⟨rfl, hx⟩
    have HC2 := Lib.hid (rneedk_yes w2 (HPj.out.ext hx) 1 (by decide) HB1.out)
    have htz := HPj.out.txt j
    have HA2 := Lib.hid (AccT.ext HA.out hx)
    have HT2 := Lib.hid (HT.out.trans (Touch.of_ext hx [B]))
    have hs2 := hx.size
    generalize tkT ts j = tx at *
    clear HA HT hx HI HB1
    go_wp2_with fail
    refine HC2.out.mono ?_
    rintro e w3 ⟨rfl, K3, T3⟩
    have A3 : AccT w.heap.size w3 v l := AccT.low HA2.out T3 (fun k hk => by simp at hk; omega)
    have hs3 := T3.size
    have HK3 := Lib.hid K3
    have HT3 := Lib.hid (HT2.out.trans T3)
    have KD := AccT.ext A3 ((Ext.refl w3).alloc (.cells #[.string tx] 9))
    clear K3 T3 A3 HA2 HT2 HC2
    go_wp2_with (at_builtin; refine wpList_append_strs_at rfl _ _ rfl w.heap.size v l rfl KD [tx] _ _ _ rfl (rep_one _ _) (by simp; omega) (by simp; omega) ?_)
    intro a1 k1 w4 ac1 g1 m1
    have TG : Touch (w3.alloc (.cells #[.string tx] 9)) w4 v.ownBlock.toList := (Touch.of_ext (Ext.refl _) _).grown g1 fun k hk => Or.inl (by simp [hk])
    have HK4 := Lib.hid (HP.out.late (HK3.out.ext ((Ext.refl w3).alloc (.cells #[.string tx] 9))) TG (fun k hk => (Acc.ge KD (k := k) (by simpa using hk)).1))
    have HT4 := Lib.hid ((HT3.out.trans (Touch.of_ext ((Ext.refl w3).alloc (.cells #[.string tx] 9)) [B])).late2 TG (fun k hk => (Acc.ge KD (k := k) (by simpa using hk)).1))
    have HAC := Lib.hid ac1
    clear KD g1 m1 HK3 HT3 TG ac1
    generalize hv1 : Value.slice a1 (l.length + [tx].length) k1 = v1 at *
    go_wp2_with fail
    refine ⟨⟨l ++ [tx], j + 1, HAC.out, HK4.out, HE, by omega, by simp; omega, HT4.out⟩, ?_⟩
    rw [placeOf_eq HPj.out, placeOf_eq HK4.out]; omega

end Go.Proofs.YtonmcoojgkgemaaGreatDoor
