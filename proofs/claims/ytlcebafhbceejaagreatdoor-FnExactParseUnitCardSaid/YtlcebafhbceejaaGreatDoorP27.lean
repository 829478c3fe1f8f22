/-
  CONTRACTS: the reference's parser: expressions.
  Conditions: those that each lemma states.
-/
import Derived.Test.YtlcebafhbceejaaGreatDoorRows
import Derived.Test.YtlcebafhbceejaaGreatDoorP26
namespace Go.Proofs.YtlcebafhbceejaaGreatDoor
open Go.RowKit
set_option maxHeartbeats 8000000
set_option maxRecDepth 100000
set_option linter.unusedSimpArgs false
set_option linter.unusedVariables false
theorem run_all {B tb to_ cap : Nat} {ao : Option Addr} {ts : List MToken} {a : Nat} (IH : ∀ a', a < a' -> RExprAt B tb to_ cap ao ts a') : ∀ a', a <= a' -> RUnAt B tb to_ cap ao ts a' := fun a1 h1 =>
 runary_at (rprim_at (IH (a1 + 1) (by omega)) (rblock_at (fun a2 h2 => rstatements_at (fun a3 h3 => IH a3 (by omega)))))
theorem rbin_all {B tb to_ cap : Nat} {ao : Option Addr} {ts : List MToken} {a : Nat} (IH : ∀ a', a < a' -> RExprAt B tb to_ cap ao ts a') : ∀ a', a <= a' -> RBinAt B tb to_ cap ao ts a' := fun a1 h1 => rbinary_at (fun a2 h2 => run_all IH a2 (by omega))
theorem rkey_all {B tb to_ cap : Nat} {ao : Option Addr} {ts : List MToken} {a : Nat} (IH : ∀ a', a < a' -> RExprAt B tb to_ cap ao ts a') : ∀ a', a <= a' -> RKeyAt B tb to_ cap ao ts a' := fun a1 h1 => rkeywords_at (fun a2 h2 => rbin_all IH a2 (by omega))
theorem rmsg_all {B tb to_ cap : Nat} {ao : Option Addr} {ts : List MToken} {a : Nat} (IH : ∀ a', a < a' -> RExprAt B tb to_ cap ao ts a') : ∀ a', a <= a' -> RMsgAt B tb to_ cap ao ts a' := fun a1 h1 => rmessage_at (fun a2 h2 => run_all IH a2 (by omega)) (rkey_all IH a1 h1)
theorem rexpr_step {B tb to_ cap : Nat} {ao : Option Addr} {ts : List MToken} {a : Nat} (IH : ∀ a', a < a' -> RExprAt B tb to_ cap ao ts a') : RExprAt B tb to_ cap ao ts a := by
 intro w b h ha
 have HP := LH h
 have hln := h.len
 have hle := h.le
 have hrb := h.own.lt
 have IH := LH IH
 obtain ⟨V, hV⟩ : ∃ V, (tkB ts a 1 && tkxB ts (a + 1) 7 asgM) = V := ⟨_, rfl⟩
 have HV := LH hV
 clear h hV
 go_enter Tryz.func34, Tryz.ntmps34
 go_upto_region 1 with fail
 generalize hS : World.alloc w _ = W1
 have x1 : Ext w W1 := by rw [<- hS]; exact (XR _).alloc _
 have O1 : Own W1 w.heap.size 70 #[.int .i64 0, .string ⟨#[]⟩, .int .i64 0, .slice none 0 0, .slice none 0 0] := by rw [<- hS]; exact own_new w _ _
 clear hS
 go_upto_region 1 with fail
 go_cut [53] (fun v wx => v = .bool V /\ Ext W1 wx)
 case first =>
  have HP1 := LH (HP.out.ext x1)
  obtain ⟨c0, c1, c2⟩ := HP1.out.cells
  have zB := lt_of_cell c0
  have hv := HV.out
  obtain ⟨U, hU⟩ : ∃ U, tkB ts a 1 = U := ⟨_, rfl⟩
  have HC := LH (fun (W : World) (hW : Ext W1 W) => by
   have := risk_any W (HP1.out.ext hW) 1 (by decide)
   rw [hU] at this
   exact this)
  rw [hU] at hv
  clear hU
  cases U
  · have HV2 : Hid (V = false) := LH (by rw [<- hv]; rfl)
    clear hv
    go_wp2_with fail
    have gc0 := reg (XR _) c0
    have gc1 := reg (XR _) c1
    refine wp_region_quiet_below (by kernel_rfl) (by kernel_rfl) ?_
    repeat (go_big_quiet_step ((go_at_call 31; exact Calls.regrown_of (HC.out _ (regx _ _)))))
    refine wpQuiet_nil ?_
    clear gc0 gc1
    intro _ hw'
    obtain ⟨pw, hw''⟩ := hw'
    subst hw''
    have xW2 := regx W1 pw
    generalize hWR : «Sort».grow (redrawn W1 pw.d) pw.os = W2 at *
    clear hWR
    replace c0 := xW2.cell c0
    replace c1 := xW2.cell c1
    go_wp2_with fail
    go_meet
    exact ⟨by first | rfl | rw [HV2.out] | (rw [HV2.out]; rfl), xW2⟩
  rw [tkxB_eq (by decide), Bool.true_and] at hv
  by_cases hl : a + 1 < ts.length
  rotate_left
  · have hd : decide ((a : Int) + 1 < ts.length) = false := decide_eq_false (by omega)
    have hd3 : decide (a + 1 < ts.length) = false := decide_eq_false (by omega)
    obtain ⟨e1, e2, e3⟩ := tkK_none (ts := ts) (a := a + 1) (by omega)
    have HV2 : Hid (V = false) := LH (by rw [<- hv, e1]; rfl)
    clear hv e1 e2 e3 hl
    go_wp2_with fail
    have gc0 := reg (XR _) c0
    have gc1 := reg (XR _) c1
    refine wp_region_quiet_below (by kernel_rfl) (by kernel_rfl) ?_
    repeat (go_big_quiet_step ((go_at_call 31; exact Calls.regrown_of (HC.out _ (regx _ _)))))
    refine wpQuiet_nil ?_
    clear gc0 gc1
    intro _ hw'
    obtain ⟨pw, hw''⟩ := hw'
    subst hw''
    have xW2 := regx W1 pw
    generalize hWR : «Sort».grow (redrawn W1 pw.d) pw.os = W2 at *
    clear hWR
    replace c0 := xW2.cell c0
    replace c1 := xW2.cell c1
    go_wp2_with fail
    go_meet
    exact ⟨by first | rfl | rw [HV2.out] | (rw [HV2.out]; rfl), xW2⟩
  have hd : decide ((a : Int) + 1 < ts.length) = true := decide_eq_true (by omega)
  have hd3 : decide (a + 1 < ts.length) = true := decide_eq_true hl
  have hl' : (a : Int) + 1 < ts.length := by omega
  have ha0 : (0 : Int) <= a + 1 := by omega
  obtain ⟨rfl, t0, t1, t2⟩ := HP1.out.at hl
  have zt := lt_of_cell t0
  generalize tkK ts (a + 1) = kd2 at *
  generalize tkT ts (a + 1) = tx2 at *
  clear t2
  by_cases k7 : kd2 = 7
  rotate_left
  · have s7 := int_ne k7
    have HV2 : Hid (V = false) := LH (by rw [<- hv, s7]; rfl)
    clear hv k7
    go_wp2_with fail
    have gc0 := reg (XR _) c0
    have gc1 := reg (XR _) c1
    have gt0 := reg (XR _) t0
    have gt1 := reg (XR _) t1
    refine wp_region_quiet_below (by kernel_rfl) (by kernel_rfl) ?_
    repeat (go_big_quiet_step ((go_at_call 31; exact Calls.regrown_of (HC.out _ (regx _ _)))))
    refine wpQuiet_nil ?_
    clear gc0 gc1 gt0 gt1
    intro _ hw'
    obtain ⟨pw, hw''⟩ := hw'
    subst hw''
    have xW2 := regx W1 pw
    generalize hWR : «Sort».grow (redrawn W1 pw.d) pw.os = W2 at *
    clear hWR
    replace c0 := xW2.cell c0
    replace c1 := xW2.cell c1
    replace t0 := xW2.cell t0
    replace t1 := xW2.cell t1
    go_wp2_with fail
    go_meet
    exact ⟨by first | rfl | rw [HV2.out] | (rw [HV2.out]; rfl), xW2⟩
  have s7 := int_eq k7
  by_cases k8 : tx2 = asgM
  · have s8 : (tx2.toList == [58, 61]) = true := str_eq' k8
    have HV2 : Hid (V = true) := LH (by rw [<- hv, s7, eqB_tt k8]; rfl)
    clear hv k7 k8
    go_wp2_with fail
    have gc0 := reg (XR _) c0
    have gc1 := reg (XR _) c1
    have gt0 := reg (XR _) t0
    have gt1 := reg (XR _) t1
    refine wp_region_quiet_below (by kernel_rfl) (by kernel_rfl) ?_
    repeat (go_big_quiet_step ((go_at_call 31; exact Calls.regrown_of (HC.out _ (regx _ _)))))
    refine wpQuiet_nil ?_
    clear gc0 gc1 gt0 gt1
    intro _ hw'
    obtain ⟨pw, hw''⟩ := hw'
    subst hw''
    have xW2 := regx W1 pw
    generalize hWR : «Sort».grow (redrawn W1 pw.d) pw.os = W2 at *
    clear hWR
    replace c0 := xW2.cell c0
    replace c1 := xW2.cell c1
    replace t0 := xW2.cell t0
    replace t1 := xW2.cell t1
    go_wp2_with fail
    go_meet
    exact ⟨by first | rfl | rw [HV2.out] | (rw [HV2.out]; rfl), xW2⟩
  have s8 : (tx2.toList == [58, 61]) = false := str_ne' k8
  have HV2 : Hid (V = false) := LH (by rw [<- hv, eqB_ff k8, Bool.and_false])
  clear hv k7 k8
  go_wp2_with fail
  have gc0 := reg (XR _) c0
  have gc1 := reg (XR _) c1
  have gt0 := reg (XR _) t0
  have gt1 := reg (XR _) t1
  refine wp_region_quiet_below (by kernel_rfl) (by kernel_rfl) ?_
  repeat (go_big_quiet_step ((go_at_call 31; exact Calls.regrown_of (HC.out _ (regx _ _)))))
  refine wpQuiet_nil ?_
  clear gc0 gc1 gt0 gt1
  intro _ hw'
  obtain ⟨pw, hw''⟩ := hw'
  subst hw''
  have xW2 := regx W1 pw
  generalize hWR : «Sort».grow (redrawn W1 pw.d) pw.os = W2 at *
  clear hWR
  replace c0 := xW2.cell c0
  replace c1 := xW2.cell c1
  replace t0 := xW2.cell t0
  replace t1 := xW2.cell t1
  go_wp2_with fail
  go_meet
  exact ⟨by first | rfl | rw [HV2.out] | (rw [HV2.out]; rfl), xW2⟩
 case rest =>
  obtain ⟨rfl, x2⟩ := hcut
  have O2 := O1.ext x2
  have HP2 := LH (HP.out.ext (x1.trans x2))
  have HT2 : Hid (Touch w wc [B]) := LH (Touch.of_ext (x1.trans x2) _)
  have hs2 := (x1.trans x2).size
  clear O1 x1 x2
  have hro := O2.lt
  cases V
  rotate_left
  · skip
    have ⟨v1, v2⟩ : tkB ts a 1 = true /\ tkxB ts (a + 1) 7 asgM = true := by simpa using HV.out
    have hjt := tok_lt (by decide) v2
    have H0 := LH (fun (x : MExpr) (a2 : Nat) (b2 : Bool) (hg : Got b (fun n => pExpr ts n (a + 2)) b2 (x, a2)) => (((Todo.refl b (fun n => pExpr ts n a)).call hg (g := fun n r => some (eAsg (tkT ts a) r.1, r.2)) (fun n => by rw [pExpr, if_pos HV.out])).done (y := (eAsg (tkT ts a) x, a2)) (fun n => rfl)))
    have htz := HP2.out.txt a
    have HTK := LH (rneedk_yes wc HP2.out 1 (by decide) v1)
    obtain ⟨tx, htx⟩ : ∃ x, tkT ts a = x := ⟨_, rfl⟩
    rw [htx] at HTK H0 htz
    clear htx v1 v2
    go_wp2_with fail
    refine HTK.out.mono ?_
    rintro e w3 ⟨rfl, K3, T3⟩
    have HP3 := LH K3
    have O3 := O2.touch' T3 (by simp; omega)
    have HT3 := LH (HT2.out.trans T3)
    have hs3 := T3.size
    obtain ⟨c0, c1, c2⟩ := K3.cells
    have zB := lt_of_cell c0
    have f1 := K3.own.f1
    rw [show ((a + 1 : Nat) : Int) = (a : Int) + 1 by omega] at c1
    clear K3 T3 O2 HT2 HTK
    go_upto_region 4 with fail
    generalize hS : World.setCell w3 _ _ = W4
    obtain ⟨K4, T4⟩ := HP3.out.setAt (a + 2) (by omega) (fun _ => by omega)
    rw [show ((a + 2 : Nat) : Int) = (a : Int) + 1 + 1 by omega] at K4 T4
    rw [hS] at K4 T4
    have HP4 := LH K4
    have O4 := O3.touch' T4 (by simp; omega)
    have HT4 := LH (HT3.out.trans T4)
    have hs4 := T4.size
    clear hS K4 T4 O3 HT3 HP3 c0 c1 c2 zB f1
    go_wp2_with fail
    refine (IH.out (a + 2) (by omega) W4 b HP4.out (by omega)).mono ?_
    rintro e w5 ⟨y, ds, gp, a2, b2, rfl, hr, hf, hp, hg, hm, hT⟩
    have O5 := O4.touch' hT (by simp; omega)
    have HG := LH (H0.out y a2 b2 hg)
    have HP5 := LH hp
    have HR5 := LH hr
    have HF5 := LH hf
    have HT5 := LH (HT4.out.trans hT)
    have hs5 := hT.size
    obtain ⟨z1, z2, z3, z4, rfl⟩ := fld5 hr
    clear hr hf hp hg hT O4 HT4 H0 HP4
    have o0 := O5.k0
    have of0 := O5.f0
    have o1 := O5.k1
    have of1 := O5.f1
    have o2 := O5.k2
    have of2 := O5.f2
    have o3 := O5.k3
    have of3 := O5.f3
    have o4 := O5.k4
    have of4 := O5.f4
    have oz := O5.lt
    go_wp2_with fail
    obtain ⟨O9, R9, T9⟩ := msg_A 5 O5 HR5.out (fun b hb => by have := HF5.out b hb; omega) tx
    generalize hWF : World.alloc (World.setCell (World.setCell (World.setCell (World.setCell (World.setCell w5 _ _) _ _) _ _) _ _) _ _) _ = W9 at *
    clear hWF
    have p0 := O9.k0
    have p1 := O9.k1
    have p2 := O9.k2
    have p3 := O9.k3
    have p4 := O9.k4
    have pz := O9.lt
    have FIN : RGot B tb to_ cap _ ts w a b (fun n => pExpr ts n a) (.returned (.agg #[.int .i64 5, .string tx, .int .i64 0, .slice none 0 0, .slice (some ⟨w5.heap.size, 0, none⟩) 1 1])) W9 := ⟨eAsg tx y, _, (w5.heap.size :: gp), a2, b2, rfl, R9, (fun k hk => by
     rcases List.mem_cons.1 hk with rfl | hk
     · omega
     · have := HF5.out k hk; omega), HP.out.late HP5.out T9 (fun k hk => by simp at hk; omega), HG.out, by omega, HT5.out.late2 T9 (fun k hk => by simp at hk; omega)⟩
    exact bodyPost_ret (v := .agg #[.int .i64 5, .string tx, .int .i64 0, .slice none 0 0, .slice (some ⟨w5.heap.size, 0, none⟩) 1 1]) (by simp [results, Tryz.results34, go_sem, p0, p1, p2, p3, p4, pz]) rfl FIN
  have H0 := LH ((Todo.refl b (fun n => pExpr ts n a)).step (H := fun n => (pBinary ts n a).bind fun r => pWord ts n r.1 r.2.1 r.2.2) (fun n => by rw [pExpr, if_neg (by rw [HV.out]; decide)]))
  clear HV
  go_wp2_with fail
  refine (rbin_all IH.out a (Nat.le_refl _) wc b HP2.out ha).mono ?_
  rintro e w3 ⟨x, cs, fp, s, j, bj, rfl, hr, hf, hp, hg, hs, hm, hT⟩
  have HTD := LH (H0.out.call0 hg (g := fun n r => pWord ts n r.1 r.2.1 r.2.2) (fun n => rfl))
  have O3 := O2.touch' hT (by simp; omega)
  have hs3 := hT.size
  obtain ⟨y1, y2, y3, y4, rfl⟩ := fld5 hr
  go_upto_region 6 with fail
  generalize hS : World.alloc w3 _ = W4
  have x4 : Ext w3 W4 := by rw [<- hS]; exact (XR _).alloc _
  have OE : Own W4 w3.heap.size 70 #[.int .i64 x.kind, .string x.text, .int .i64 x.number, .slice y1 x.names.length y2, .slice y3 x.kids.length y4] := by rw [<- hS]; exact own_new w3 _ _
  have O4 := O3.ext x4
  have HP4 := LH (hp.ext x4)
  have HR4 := LH (hr.ext x4)
  have HF4 : Hid (∀ k, k ∈ fp -> w.heap.size < k /\ k ≠ w3.heap.size) := LH fun k hk => by
   have h1 := hf k hk
   have h2 := hr.lt _ k hk
   omega
  have HT4 := LH ((HT2.out.trans hT).trans (Touch.of_ext x4 [B]))
  have HS := LH hs
  have hebr : w.heap.size < w3.heap.size := by omega
  have hebB : ¬ w3.heap.size = B := by omega
  have hm3 := hm
  clear hr hf hp hg hT O2 O3 hS x4 hs hm H0 HT2 HP2
  generalize hbe : w3.heap.size = eb at *
  clear hbe
  go_wp2_with fail
  refine (rkey_all IH.out j (by omega) W4 bj HP4.out).mono ?_
  rintro e w6 ⟨sel, l, v, a2, b2, rfl, hA, hp, hg, hl, hsz, hz0, hz1, hT⟩
  have OE6 := OE.touch' hT (by simpa using hebB)
  have O6 := O4.touch' hT (by simp; omega)
  have HR6 := LH (HR4.out.touch hT (fun k hk hm => by have := HF4.out k hk; simp at hm; omega))
  obtain ⟨va, vc, gp, rfl, hrA, hge⟩ := AccX.rep hA
  have HP6 := LH hp
  have HA6 := LH hrA
  have HGE := LH hge
  have HT6 := LH (HT4.out.trans hT)
  have hs6 := hT.size
  have hez := OE.lt
  have hl7 := hp.le
  have HG6 := LH hg
  have HZ0 := LH hz0
  have HZ1 := LH hz1
  clear hA hp hg hrA hge hT OE O4 HR4 HP4 HT4 hz0 hz1
  obtain ⟨V3, hV3⟩ : ∃ V, (!(sel.toList == [])) = V := ⟨_, rfl⟩
  have HV3 := LH hV3
  clear hV3
  go_upto_region 7 with fail
  go_cut [79] (fun v wx => v = .bool V3 /\ w6 = wx)
  case first =>
   have hv := HV3.out
   go_wp2_with fail
   go_meet
   exact ⟨by first | rfl | (rw [hv]) | (simp [<- hv]), rfl⟩
  case rest =>
   obtain ⟨rfl, rfl⟩ := hcut
   go_upto_if 79 with fail
   go_cut [5] (fun v wx => ∃ (x : MExpr) (cs : List Value) (fp : List Nat) (s : Bool) (j : Nat) (bj : Bool), v = .bool s /\ Own wx eb 70 cs.toArray /\ RepF wx x.d cs fp /\ (∀ k, k ∈ fp -> w.heap.size < k /\ k ≠ eb) /\ Prs 38 B tb to_ cap ao ts wx (j) bj /\ Todo b (fun n => pExpr ts n a) bj (fun n => pSemi ts n x s j) /\ (s = true -> x.kids ≠ []) /\ a <= j /\ Own wx w.heap.size 70 #[.int .i64 0, .string ⟨#[]⟩, .int .i64 0, .slice none 0 0, .slice none 0 0] /\ Touch w wx [B])
   case first =>
    cases V3
    · have hse : sel = ⟨#[]⟩ := by
       have := HV3.out
       apply Classical.byContradiction
       intro hn
       rw [str_ne' (l := []) hn] at this
       cases this
      have HTN : Hid (Todo b (fun n => pExpr ts n a) b2 (fun n => pSemi ts n x s a2)) := LH (by
       cases h2 : tkB ts j 2 with
       | false =>
        obtain ⟨-, e2, e3, -⟩ := HZ0.out h2
        subst e2 e3
        exact HTD.out.step (fun n => by rw [pWord, if_neg (by rw [h2]; decide)])
       | true =>
        cases bj with
        | true =>
         have e3 := HG6.out.keep rfl
         subst e3
         exact HTD.out.bad
        | false =>
         have := HZ1.out rfl h2
         rw [hse] at this
         exact absurd rfl this)
      clear hse HV3 HTD HG6 HZ0 HZ1
      go_wp2_with fail
      go_meet
      exact ⟨x, _, fp, s, a2, b2, rfl, OE6, HR6.out, HF4.out, HP6.out, HTN.out, HS.out, by omega, O6, HT6.out⟩
    have h2 : tkB ts j 2 = true := by
     cases h2 : tkB ts j 2 with
     | true => rfl
     | false =>
      have h3 := HV3.out
      rw [(HZ0.out h2).1, str_eq' (l := []) rfl] at h3
      cases h3
    have HTN := LH ((HTD.out.step (H := fun n => (pKeys ts n ⟨#[]⟩ [] j).bind fun r => pSemi ts n (eMsg r.1 (x :: r.2.1)) true r.2.2) (fun n => by rw [pWord, if_pos h2])).call0 HG6.out (g := fun n r => pSemi ts n (eMsg r.1 (x :: r.2.1)) true r.2.2) (fun n => rfl))
    clear HV3 HTD HG6 HZ0 HZ1 h2
    have q0 := OE6.k0
    have qf0 := OE6.f0
    have q1 := OE6.k1
    have qf1 := OE6.f1
    have q2 := OE6.k2
    have qf2 := OE6.f2
    have q3 := OE6.k3
    have qf3 := OE6.f3
    have q4 := OE6.k4
    have qf4 := OE6.f4
    have qz := OE6.lt
    go_wp2_with ((refine (l3Send_any sel HR6.out HA6.out (by omega)).mono ?_; rintro e w8 ⟨cs8, fp8, rfl, R8, F8, X8⟩; obtain ⟨z1, z2, z3, z4, rfl⟩ := fld5 R8; have OE8 := OE6.ext X8; have m0 : w8.cell? ⟨eb, 0, none⟩ = some (.int .i64 x.kind) := OE8.cell 0; have mf0 := OE8.f0; have m1 : w8.cell? ⟨eb, 1, none⟩ = some (.string x.text) := OE8.cell 1; have mf1 := OE8.f1; have m2 : w8.cell? ⟨eb, 2, none⟩ = some (.int .i64 x.number) := OE8.cell 2; have mf2 := OE8.f2; have m3 : w8.cell? ⟨eb, 3, none⟩ = some (.slice y1 x.names.length y2) := OE8.cell 3; have mf3 := OE8.f3; have m4 : w8.cell? ⟨eb, 4, none⟩ = some (.slice y3 x.kids.length y4) := OE8.cell 4; have mf4 := OE8.f4; have mz := OE8.lt))
    generalize hS : World.setCell (World.setCell (World.setCell (World.setCell (World.setCell w8 _ _) _ _) _ _) _ _) _ _ = W9
    obtain ⟨O9, T9⟩ := own5 OE8 (.int .i64 (eMsg sel (x :: l)).kind) (.string (eMsg sel (x :: l)).text) (.int .i64 (eMsg sel (x :: l)).number) (.slice z1 (eMsg sel (x :: l)).names.length z2) (.slice z3 (eMsg sel (x :: l)).kids.length z4)
    rw [hS] at O9 T9
    clear hS
    have hF9 : ∀ k, k ∈ fp8 -> w.heap.size < k /\ k ≠ eb := fun k hk => by
     rcases F8 k hk with h | h | h
     · exact HF4.out k h
     · have := HGE.out k h; omega
     · omega
    have R9 := R8.touch T9 (fun k hk hm => (hF9 k hk).2 (by simpa using hm))
    have P9 := HP.out.late (HP6.out.ext X8) T9 (fun k hk => by simp at hk; omega)
    have B9 := (O6.ext X8).touch' T9 (by simp; omega)
    have T09 := (HT6.out.trans (Touch.of_ext X8 [B])).late2 T9 (fun k hk => by simp at hk; omega)
    have HF9 := LH hF9
    have HP9 := LH P9
    have HT9 := LH T09
    clear hF9 R8 F8 X8 OE8 P9 T09 T9 m0 mf0 q0 qf0 m1 mf1 q1 qf1 m2 mf2 q2 qf2 m3 mf3 q3 qf3 m4 mf4 q4 qf4 mz qz
    go_wp2_with fail
    go_meet
    exact ⟨eMsg sel (x :: l), _, fp8, true, a2, b2, rfl, O9, R9, HF9.out, HP9.out, HTN.out, fun _ => by simp [eMsg], by omega, B9, HT9.out⟩
   case rest =>
    obtain ⟨wk, hwk⟩ : ∃ W, W = wc := ⟨_, rfl⟩
    subst hwk
    obtain ⟨x, cs, fp, s, j, bj, rfl, OE, hr, hF, hp, hTD, hs, haj, hB, hT⟩ := hcut
    obtain ⟨y1, y2, y3, y4, rfl⟩ := fld5 hr
    have HR := LH hr
    have HF := LH hF
    have HPj := LH hp
    have HTS := LH hTD
    have HT := LH hT
    have hjl := hp.le
    have hws := hT.size
    clear hr hF hTD hT HR6 HF4 HP6 HT6 OE6 O6 HA6 HGE HG6 HZ0 HZ1 HV3 HS HTD hl hsz hl7 hez
    obtain ⟨c0, c1, c2⟩ := hp.cells
    have zB := lt_of_cell c0
    clear hp
    cases bj
    rotate_left
    · have HG : Hid (Got b (fun n => pExpr ts n a) true (x, j)) := LH (HTS.out.dead _)
      clear HTS
      have q0 := OE.k0
      have qf0 := OE.f0
      have q1 := OE.k1
      have qf1 := OE.f1
      have q2 := OE.k2
      have qf2 := OE.f2
      have q3 := OE.k3
      have qf3 := OE.f3
      have q4 := OE.k4
      have qf4 := OE.f4
      have qz := OE.lt
      have o0 := hB.k0
      have of0 := hB.f0
      have o1 := hB.k1
      have of1 := hB.f1
      have o2 := hB.k2
      have of2 := hB.f2
      have o3 := hB.k3
      have of3 := hB.f3
      have o4 := hB.k4
      have of4 := hB.f4
      have oz := hB.lt
      go_wp2_with fail
      generalize hS : World.setCell (World.setCell (World.setCell (World.setCell (World.setCell wk _ _) _ _) _ _) _ _) _ _ = W9
      obtain ⟨O9, T9⟩ := own5 hB (.int .i64 x.kind) (.string x.text) (.int .i64 x.number) (.slice y1 x.names.length y2) (.slice y3 x.kids.length y4)
      rw [hS] at O9 T9
      clear hS
      have p0 := O9.k0
      have p1 := O9.k1
      have p2 := O9.k2
      have p3 := O9.k3
      have p4 := O9.k4
      have pz := O9.lt
      have FIN : RGot B tb to_ cap _ ts w a b (fun n => pExpr ts n a) (.returned (.agg #[.int .i64 x.kind, .string x.text, .int .i64 x.number, .slice y1 x.names.length y2, .slice y3 x.kids.length y4])) W9 := ⟨x, _, fp, j, true, rfl, HR.out.touch T9 (fun k hk hm => by have := HF.out k hk; simp at hm; omega), fun k hk => by have := HF.out k hk; omega, HP.out.late HPj.out T9 (fun k hk => by simp at hk; omega), HG.out, by omega, HT.out.late2 T9 (fun k hk => by simp at hk; omega)⟩
      exact bodyPost_ret (v := .agg #[.int .i64 x.kind, .string x.text, .int .i64 x.number, .slice y1 x.names.length y2, .slice y3 x.kids.length y4]) (by simp [results, Tryz.results34, go_sem, p0, p1, p2, p3, p4, pz]) rfl FIN
    have HI := risx_any _ HPj.out 7 ⟨#[59]⟩ (by decide) (ne1 _)
    cases hb : tkxB ts j 7 semiM
    · have e59 : tkxB ts j 7 ⟨#[59]⟩ = false := hb
      rw [e59] at HI
      have HI2 := LH HI
      have HG := LH (HTS.out.done (y := (x, j)) (fun n => by rw [pSemi, if_neg (by rw [hb]; decide)]))
      clear hb HI HTS e59
      go_wp2_with fail
      refine HI2.out.mono ?_
      rintro e w5 ⟨rfl, hx⟩
      have OE5 := OE.ext hx
      have O5 := hB.ext hx
      have HR5 := LH (HR.out.ext hx)
      have HP5 := LH (HPj.out.ext hx)
      have HT5 := LH (HT.out.trans (Touch.of_ext hx [B]))
      clear hx HI2 OE hB HR HPj HT c0 c1 c2 zB
      have q0 := OE5.k0
      have qf0 := OE5.f0
      have q1 := OE5.k1
      have qf1 := OE5.f1
      have q2 := OE5.k2
      have qf2 := OE5.f2
      have q3 := OE5.k3
      have qf3 := OE5.f3
      have q4 := OE5.k4
      have qf4 := OE5.f4
      have qz := OE5.lt
      have o0 := O5.k0
      have of0 := O5.f0
      have o1 := O5.k1
      have of1 := O5.f1
      have o2 := O5.k2
      have of2 := O5.f2
      have o3 := O5.k3
      have of3 := O5.f3
      have o4 := O5.k4
      have of4 := O5.f4
      have oz := O5.lt
      go_wp2_with fail
      generalize hS : World.setCell (World.setCell (World.setCell (World.setCell (World.setCell w5 _ _) _ _) _ _) _ _) _ _ = W9
      obtain ⟨O9, T9⟩ := own5 O5 (.int .i64 x.kind) (.string x.text) (.int .i64 x.number) (.slice y1 x.names.length y2) (.slice y3 x.kids.length y4)
      rw [hS] at O9 T9
      clear hS
      have p0 := O9.k0
      have p1 := O9.k1
      have p2 := O9.k2
      have p3 := O9.k3
      have p4 := O9.k4
      have pz := O9.lt
      have FIN : RGot B tb to_ cap _ ts w a b (fun n => pExpr ts n a) (.returned (.agg #[.int .i64 x.kind, .string x.text, .int .i64 x.number, .slice y1 x.names.length y2, .slice y3 x.kids.length y4])) W9 := ⟨x, _, fp, j, _, rfl, HR5.out.touch T9 (fun k hk hm => by have := HF.out k hk; simp at hm; omega), fun k hk => by have := HF.out k hk; omega, HP.out.late HP5.out T9 (fun k hk => by simp at hk; omega), HG.out, by omega, HT5.out.late2 T9 (fun k hk => by simp at hk; omega)⟩
      exact bodyPost_ret (v := .agg #[.int .i64 x.kind, .string x.text, .int .i64 x.number, .slice y1 x.names.length y2, .slice y3 x.kids.length y4]) (by simp [results, Tryz.results34, go_sem, p0, p1, p2, p3, p4, pz]) rfl FIN
    have e59 : tkxB ts j 7 ⟨#[59]⟩ = true := hb
    rw [e59] at HI
    have HI2 := LH HI
    clear HI e59
    go_wp2_with fail
    refine HI2.out.mono ?_
    rintro e w5 ⟨rfl, hx⟩
    have OE5 := OE.ext hx
    have O5 := hB.ext hx
    have HR5 := LH (HR.out.ext hx)
    have HP5 := LH (HPj.out.ext hx)
    have HT5 := LH (HT.out.trans (Touch.of_ext hx [B]))
    have hs5 := hx.size
    clear hx HI2 OE hB HR HPj HT c0 c1 c2 zB
    cases s
    · have HG : Hid (Got b (fun n => pExpr ts n a) true (x, j)) := LH (HTS.out.fail (x, j) (fun n => by rw [pSemi, if_pos hb, if_neg (by decide)]))
      clear hb HTS
      obtain ⟨c0, c1, c2⟩ := HP5.out.cells
      have zB := lt_of_cell c0
      have f2 := HP5.out.own.f2
      go_upto_region 14 with fail
      generalize hS2 : World.setCell w5 _ _ = W6
      obtain ⟨K6, T6⟩ := HP5.out.setBad
      rw [hS2] at K6 T6
      have OE6 := OE5.touch' T6 (by simp; omega)
      have O6 := O5.touch' T6 (by simp; omega)
      have HP6 := LH K6
      have HT6 := LH (HT5.out.trans T6)
      have HR6 := LH (HR5.out.touch T6 (fun k hk hm => by have := HF.out k hk; simp at hm; omega))
      have hs6 := T6.size
      clear hS2 K6 T6 c0 c1 c2 zB f2 OE5 O5 HP5 HT5 HR5
      have q0 := OE6.k0
      have qf0 := OE6.f0
      have q1 := OE6.k1
      have qf1 := OE6.f1
      have q2 := OE6.k2
      have qf2 := OE6.f2
      have q3 := OE6.k3
      have qf3 := OE6.f3
      have q4 := OE6.k4
      have qf4 := OE6.f4
      have qz := OE6.lt
      have o0 := O6.k0
      have of0 := O6.f0
      have o1 := O6.k1
      have of1 := O6.f1
      have o2 := O6.k2
      have of2 := O6.f2
      have o3 := O6.k3
      have of3 := O6.f3
      have o4 := O6.k4
      have of4 := O6.f4
      have oz := O6.lt
      go_wp2_with fail
      generalize hS : World.setCell (World.setCell (World.setCell (World.setCell (World.setCell W6 _ _) _ _) _ _) _ _) _ _ = W9
      obtain ⟨O9, T9⟩ := own5 O6 (.int .i64 x.kind) (.string x.text) (.int .i64 x.number) (.slice y1 x.names.length y2) (.slice y3 x.kids.length y4)
      rw [hS] at O9 T9
      clear hS
      have p0 := O9.k0
      have p1 := O9.k1
      have p2 := O9.k2
      have p3 := O9.k3
      have p4 := O9.k4
      have pz := O9.lt
      have FIN : RGot B tb to_ cap _ ts w a b (fun n => pExpr ts n a) (.returned (.agg #[.int .i64 x.kind, .string x.text, .int .i64 x.number, .slice y1 x.names.length y2, .slice y3 x.kids.length y4])) W9 := ⟨x, _, fp, j, true, rfl, HR6.out.touch T9 (fun k hk hm => by have := HF.out k hk; simp at hm; omega), fun k hk => by have := HF.out k hk; omega, HP.out.late HP6.out T9 (fun k hk => by simp at hk; omega), HG.out, by omega, HT6.out.late2 T9 (fun k hk => by simp at hk; omega)⟩
      exact bodyPost_ret (v := .agg #[.int .i64 x.kind, .string x.text, .int .i64 x.number, .slice y1 x.names.length y2, .slice y3 x.kids.length y4]) (by simp [results, Tryz.results34, go_sem, p0, p1, p2, p3, p4, pz]) rfl FIN
    have HTC := LH (HTS.out.step (H := fun n => pCasc ts n (x.kids.take 1 ++ [eMsg x.text (x.kids.drop 1)]) j) (fun n => by rw [pSemi, if_pos hb, if_pos rfl]))
    clear hb HTS
    obtain ⟨k0, l, hkl⟩ := kids_cons (hs (by simp))
    obtain ⟨hkn, g, off, cs0, f0, f1, rfl, hg, hlc, hcm, r0, hcell, hs0, hs1, rl⟩ := kids_open HR5.out hkl
    rw [hkn] at OE5
    obtain ⟨u1, u2, u3, u4, rfl⟩ := fld5 r0
    have HF0 : Hid (∀ k, k ∈ f0 -> w.heap.size < k /\ k < w5.heap.size) := LH fun k hk => ⟨(HF.out k (hs0 k hk)).1, r0.lt _ k hk⟩
    have HF1 : Hid (∀ k, k ∈ f1 -> w.heap.size < k /\ k < w5.heap.size) := LH fun k hk => ⟨(HF.out k (hs1 k hk)).1, rl.lt _ k hk⟩
    have HR0 := LH r0
    have HRL := LH rl
    have HTC2 : Hid (Todo b (fun n => pExpr ts n a) false (fun n => pCasc ts n [k0, eMsg x.text l] j)) := LH (by have := HTC.out; rw [hkl] at this; exact this)
    have hlb : l.length <= maxLen := by omega
    unfold maxLen at hcm hlb
    have k0c : w5.cell? ⟨g, off, none⟩ = some (.int .i64 k0.kind) := by have := hcell 0 _ rfl; simpa using this
    have k1c : w5.cell? ⟨g, off + 1, none⟩ = some (.string k0.text) := by have := hcell 1 _ rfl; simpa using this
    have k2c : w5.cell? ⟨g, off + 2, none⟩ = some (.int .i64 k0.number) := by have := hcell 2 _ rfl; simpa using this
    have k3c : w5.cell? ⟨g, off + 3, none⟩ = some (.slice u1 k0.names.length u2) := by have := hcell 3 _ rfl; simpa using this
    have k4c : w5.cell? ⟨g, off + 4, none⟩ = some (.slice u3 k0.kids.length u4) := by have := hcell 4 _ rfl; simpa using this
    clear hs hs0 hs1 r0 rl hcell hkl HTC HF HR5
    clear hkn
    have q0 := OE5.k0
    have qf0 := OE5.f0
    have q1 := OE5.k1
    have qf1 := OE5.f1
    have q2 := OE5.k2
    have qf2 := OE5.f2
    have q3 := OE5.k3
    have qf3 := OE5.f3
    have q4 := OE5.k4
    have qf4 := OE5.f4
    have qz := OE5.lt
    have hl1 : (1 : Int) <= (l.length : Int) + 1 := by omega
    have hl2 : ((l.length + 1 : Nat) : Int) = (l.length : Int) + 1 := by omega
    go_upto_region 15 with fail
    go_cut [8] (fun v wx => ∃ nb, v = .slice (some ⟨nb, 0, none⟩) 2 2 /\ Own wx nb 70 #[.int .i64 k0.kind, .string k0.text, .int .i64 k0.number, .slice u1 k0.names.length u2, .slice u3 k0.kids.length u4, .int .i64 6, .string x.text, .int .i64 0, .slice none 0 0, .slice (if y4 = 1 then some ⟨g, off, none⟩ else some ⟨g, off + 5, none⟩) l.length (y4 - 1)] /\ w5.heap.size <= nb /\ Ext w5 wx)
    case first =>
     by_cases hc1 : y4 = 1
     · have ON := (own_new w5 #[.int .i64 k0.kind, .string k0.text, .int .i64 k0.number, .slice u1 k0.names.length u2, .slice u3 k0.kids.length u4, .int .i64 6, .string x.text, .int .i64 0, .slice none 0 0, .slice (some ⟨g, off, none⟩) l.length 0] 70).ext (Ext.drew (XR _))
       have EX : Ext w5 _ := ((XR w5).alloc (Obj.cells #[.int .i64 k0.kind, .string k0.text, .int .i64 k0.number, .slice u1 k0.names.length u2, .slice u3 k0.kids.length u4, .int .i64 6, .string x.text, .int .i64 0, .slice none 0 0, .slice (some ⟨g, off, none⟩) l.length 0] 70)).drew
       go_region
       go_wp2_with fail
       go_meet
       exact ⟨w5.heap.size, rfl, by simp only [hc1, if_true, Nat.sub_self]; exact ON, Nat.le_refl _, EX⟩
     have ON := (own_new w5 #[.int .i64 k0.kind, .string k0.text, .int .i64 k0.number, .slice u1 k0.names.length u2, .slice u3 k0.kids.length u4, .int .i64 6, .string x.text, .int .i64 0, .slice none 0 0, .slice (some ⟨g, off + 5, none⟩) l.length (y4 - 1)] 70).ext (Ext.drew (XR _))
     have EX : Ext w5 _ := ((XR w5).alloc (Obj.cells #[.int .i64 k0.kind, .string k0.text, .int .i64 k0.number, .slice u1 k0.names.length u2, .slice u3 k0.kids.length u4, .int .i64 6, .string x.text, .int .i64 0, .slice none 0 0, .slice (some ⟨g, off + 5, none⟩) l.length (y4 - 1)] 70)).drew
     go_region
     go_wp2_with fail
     go_meet
     exact ⟨w5.heap.size, rfl, by simp only [hc1, if_false]; exact ON, Nat.le_refl _, EX⟩
    case rest =>
     obtain ⟨nb, rfl, ON, hnb, x7⟩ := hcut
     have O7 := O5.ext x7
     have HP7 := LH (HP5.out.ext x7)
     have HT7 := LH (HT5.out.trans (Touch.of_ext x7 [B]))
     have RF := MExpr.shut (x := eMsg x.text l) (rep_nilT _) (HRL.out.ext x7)
     simp only [List.append_nil, List.nil_append] at RF
     have A7 : Hid (AccX (w.heap.size + 1) _ (.slice (some ⟨nb, 0, none⟩) 2 2) [k0, eMsg x.text l]) := LH ((AccXS.two (S := fun k => w.heap.size < k) (HR0.out.ext x7) RF ON (by omega) (fun k hk => by
      rcases List.mem_append.1 hk with hk | hk
      · have h1 := HF0.out k hk; exact ⟨h1.1, by omega⟩
      · have h1 := HF1.out k hk; exact ⟨h1.1, by omega⟩)).acw (fun k hk => hk))
     clear RF HRL HR0 ON x7 HF0 HF1 HP5 HT5 O5 OE5 q0 qf0 q1 qf1 q2 qf2 q3 qf3 q4 qf4 qz k0c k1c k2c k3c k4c hg
     go_wp2_with fail
     go_loopw [8] (fun kv wr => ∃ (l : List MExpr) (j : Nat) (bj : Bool), AccX (w.heap.size + 1) wr kv l /\ Prs 38 B tb to_ cap ao ts wr (j) bj /\ Hid (Todo b (fun n => pExpr ts n a) bj (fun n => pCasc ts n l j)) /\ (a <= j /\ l.length <= j + 2) /\ Own wr w.heap.size 70 #[.int .i64 0, .string ⟨#[]⟩, .int .i64 0, .slice none 0 0, .slice none 0 0] /\ Touch w wr [B]) (fun _ wr => ts.length + 1 - placeOf B wr)
     case atStart => exact ⟨[k0, eMsg x.text l], j, false, A7.out, HP7.out, HTC2, ⟨haj, by simp⟩, O7, HT7.out⟩
     case round =>
      clear A7 HP7 HTC2 O7 HT7
      obtain ⟨kv, hkv⟩ : ∃ x, x = u8 := ⟨_, rfl⟩
      subst hkv
      obtain ⟨l, j, bj, hA, hp, HTD, ⟨haj, hlj⟩, hB, hT⟩ := hrel
      have HA := LH hA
      have HPj := LH hp
      have HPM := LH hp
      have HT := LH hT
      obtain ⟨c0, c1, c2⟩ := hp.cells
      have zB := lt_of_cell c0
      have hjl := hp.le
      have hws := hT.size
      have hrl := hB.lt
      clear hA hp hT
      cases bj
      rotate_left
      · have HG : Hid (Got b (fun n => pExpr ts n a) true (eCasc l, j)) := LH (HTD.out.dead _)
        clear HTD
        obtain ⟨va, vc, gp, rfl, hr9, hge9⟩ := AccX.rep HA.out
        have HGE9 := LH hge9
        have HR9 := LH hr9
        clear hr9 hge9
        have o0 := hB.k0
        have of0 := hB.f0
        have o1 := hB.k1
        have of1 := hB.f1
        have o2 := hB.k2
        have of2 := hB.f2
        have o3 := hB.k3
        have of3 := hB.f3
        have o4 := hB.k4
        have of4 := hB.f4
        have oz := hB.lt
        go_wp2_with fail
        generalize hS : World.setCell (World.setCell (World.setCell (World.setCell (World.setCell wr _ _) _ _) _ _) _ _) _ _ = W9
        obtain ⟨O9, T9⟩ := own5 hB (.int .i64 7) (.string ⟨#[]⟩) (.int .i64 0) (.slice none 0 0) (.slice va l.length vc)
        rw [hS] at O9 T9
        clear hS
        have p0 := O9.k0
        have p1 := O9.k1
        have p2 := O9.k2
        have p3 := O9.k3
        have p4 := O9.k4
        have pz := O9.lt
        have RX := MExpr.shut (x := eCasc l) (rep_nilT W9) (HR9.out.touch T9 (fun k hk hm => by have := HGE9.out k hk; simp at hm; omega))
        simp only [List.append_nil, List.nil_append] at RX
        have FIN : RGot B tb to_ cap _ ts w a b (fun n => pExpr ts n a) (.returned (.agg #[.int .i64 7, .string ⟨#[]⟩, .int .i64 0, .slice none 0 0, .slice va l.length vc])) W9 := ⟨eCasc l, _, gp, j, _, rfl, RX, fun k hk => by have := HGE9.out k hk; omega, HP.out.late HPj.out T9 (fun k hk => by simp at hk; omega), HG.out, by omega, HT.out.late2 T9 (fun k hk => by simp at hk; omega)⟩
        exact bodyPost_ret (v := .agg #[.int .i64 7, .string ⟨#[]⟩, .int .i64 0, .slice none 0 0, .slice va l.length vc]) (by simp [results, Tryz.results34, go_sem, p0, p1, p2, p3, p4, pz]) rfl FIN
      cases hb : tkxB ts j 7 semiM
      · have HE := LH (rtake_no wr HPj.out 7 ⟨#[59]⟩ (by decide) (ne1 _) hb)
        have HG : Hid (Got b (fun n => pExpr ts n a) false (eCasc l, j)) := LH (HTD.out.done (fun n => by rw [pCasc, if_neg (by rw [hb]; decide)]))
        clear HTD hb
        go_wp2_with fail
        refine HE.out.mono ?_
        rintro e w1 ⟨rfl, hx⟩
        have hB1 := hB.ext hx
        have HA1 := LH (HA.out.ext hx)
        have HK1 := LH (HPj.out.ext hx)
        have HT1 := LH (HT.out.trans (Touch.of_ext hx [B]))
        clear hx HA HPj HT HE c0 c1 c2 zB hB
        obtain ⟨va, vc, gp, rfl, hr9, hge9⟩ := AccX.rep HA1.out
        have HGE9 := LH hge9
        have HR9 := LH hr9
        clear hr9 hge9
        have o0 := hB1.k0
        have of0 := hB1.f0
        have o1 := hB1.k1
        have of1 := hB1.f1
        have o2 := hB1.k2
        have of2 := hB1.f2
        have o3 := hB1.k3
        have of3 := hB1.f3
        have o4 := hB1.k4
        have of4 := hB1.f4
        have oz := hB1.lt
        go_wp2_with fail
        generalize hS : World.setCell (World.setCell (World.setCell (World.setCell (World.setCell w1 _ _) _ _) _ _) _ _) _ _ = W9
        obtain ⟨O9, T9⟩ := own5 hB1 (.int .i64 7) (.string ⟨#[]⟩) (.int .i64 0) (.slice none 0 0) (.slice va l.length vc)
        rw [hS] at O9 T9
        clear hS
        have p0 := O9.k0
        have p1 := O9.k1
        have p2 := O9.k2
        have p3 := O9.k3
        have p4 := O9.k4
        have pz := O9.lt
        have RX := MExpr.shut (x := eCasc l) (rep_nilT W9) (HR9.out.touch T9 (fun k hk hm => by have := HGE9.out k hk; simp at hm; omega))
        simp only [List.append_nil, List.nil_append] at RX
        have FIN : RGot B tb to_ cap _ ts w a b (fun n => pExpr ts n a) (.returned (.agg #[.int .i64 7, .string ⟨#[]⟩, .int .i64 0, .slice none 0 0, .slice va l.length vc])) W9 := ⟨eCasc l, _, gp, j, _, rfl, RX, fun k hk => by have := HGE9.out k hk; omega, HP.out.late HK1.out T9 (fun k hk => by simp at hk; omega), HG.out, by omega, HT1.out.late2 T9 (fun k hk => by simp at hk; omega)⟩
        exact bodyPost_ret (v := .agg #[.int .i64 7, .string ⟨#[]⟩, .int .i64 0, .slice none 0 0, .slice va l.length vc]) (by simp [results, Tryz.results34, go_sem, p0, p1, p2, p3, p4, pz]) rfl FIN
      have hjt := tok_lt (by decide) hb
      have HE := LH (rtake_yes wr HPj.out 7 ⟨#[59]⟩ (by decide) (ne1 _) hb)
      have HTD2 : Hid (Todo b (fun n => pExpr ts n a) false (fun n => (pMsg ts n (j + 1)).bind fun r => pCasc ts n (l ++ [r.1]) r.2)) := LH (HTD.out.step (fun n => by rw [pCasc, if_pos hb]))
      clear HTD hb
      go_wp2_with fail
      refine HE.out.mono ?_
      rintro e w1 ⟨rfl, K1, T1⟩
      have hB1 := hB.touch' T1 (by simp; omega)
      have HA1 := LH (HA.out.touch T1 (fun k hk => by simp at hk; omega))
      have HT1 := LH (HT.out.trans T1)
      have hs1 := T1.size
      have HU := LH (rmsg_all IH.out (j + 1) (by omega) w1 false K1)
      clear K1 T1 HA HPj HT HE c0 c1 c2 zB hB
      go_wp2_with fail
      refine HU.out.mono ?_
      rintro e w3 ⟨y, ds, gp, j2, bj2, rfl, R3, F3, K3, g3, m3, T3⟩
      obtain ⟨z1, z2, z3, z4, rfl⟩ := fld5 R3
      have HTD3 := LH (HTD2.out.call0 g3 (g := fun n r => pCasc ts n (l ++ [r.1]) r.2) (fun n => rfl))
      have hB3 := hB1.touch' T3 (by simp; omega)
      have HA3 := LH (HA1.out.touch T3 (fun k hk => by simp at hk; omega))
      have HAB : Hid (∀ k, kv.ownBlock = some k -> k < w1.heap.size) := LH fun k hk => (Acw.ge HA1.out hk).2
      have HT3 := LH (HT1.out.trans T3)
      have HP3 := LH K3
      have HS3 := LH R3
      have HF3 := LH F3
      have hs3 := T3.size
      have hjl3 := K3.le
      clear R3 F3 K3 g3 T3 HA1 HT1 HU HTD2 hB1
      have x5 : Ext w3 (w3.alloc (.cells #[.int .i64 y.kind, .string y.text, .int .i64 y.number, .slice z1 y.names.length z2, .slice z3 y.kids.length z4] 70)) := (XR w3).alloc _
      have KD := HA3.out.ext x5
      have HSL := one_expr (HS3.out.ext x5) (own_new w3 #[.int .i64 y.kind, .string y.text, .int .i64 y.number, .slice z1 y.names.length z2, .slice z3 y.kids.length z4] 70)
      go_wp2_with (at_builtin; refine wpList_append_x rfl _ _ rfl (w.heap.size + 1) kv l rfl KD [y] _ _ _ (w3.heap.size :: gp) rfl HSL (fun k hk => by have := HF3.out k hk; omega) (fun k hk hm => by have h1 := HF3.out k hm; have h2 := (HAB.out k hk); omega) (by simp; omega) (by simp; omega) ?_)
      intro a1 k1 w6 ac1 g1 m1
      have TG : Touch (w3.alloc (.cells #[.int .i64 y.kind, .string y.text, .int .i64 y.number, .slice z1 y.names.length z2, .slice z3 y.kids.length z4] 70)) w6 kv.ownBlock.toList := (Touch.of_ext (XR _) _).grown g1 fun k hk => Or.inl (by simp [hk])
      have hge : ∀ k, k ∈ kv.ownBlock.toList -> w.heap.size + 1 <= k := fun k hk => (Acw.ge KD (k := k) (by simpa using hk)).1
      have HK6 := LH (HP.out.late (HP3.out.ext x5) TG (fun k hk => by have := hge k hk; omega))
      have HT6 := LH ((HT3.out.trans (Touch.of_ext x5 [B])).late2 TG (fun k hk => by have := hge k hk; omega))
      have hB6 := (hB3.ext x5).touch' TG (fun hm => by have := hge _ hm; omega)
      have HAC := LH ac1
      clear KD HSL g1 m1 TG ac1 x5 hge hB3
      generalize hv1 : Value.slice a1 (l.length + [y].length) k1 = v1 at *
      go_wp2_with fail
      refine ⟨⟨l ++ [y], j2, bj2, HAC.out, HK6.out, HTD3, ⟨by omega, by simp; omega⟩, hB6, HT6.out⟩, ?_⟩
      rw [placeOf_eq HPM.out, placeOf_eq HK6.out]; omega
theorem rexpr_all {B tb to_ cap : Nat} {ao : Option Addr} {ts : List MToken} : ∀ (n a : Nat), ts.length < a + n -> RExprAt B tb to_ cap ao ts a
 | 0, a, h => fun w b hp ha => absurd ha (by omega)
 | n + 1, a, h => rexpr_step (fun a' h' => rexpr_all n a' (by omega))
theorem rstms_all {B tb to_ cap : Nat} {ao : Option Addr} {ts : List MToken} (a : Nat) : RStmAt B tb to_ cap ao ts a := rstatements_at (fun a' h' => rexpr_all (ts.length + 1) a' (by omega))
end Go.Proofs.YtlcebafhbceejaaGreatDoor
