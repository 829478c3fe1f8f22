/-
  SEVERAL TEXTS IN ONE: CONTRACTS: the program's parser: done; CONTRACTS: the program's copyExpr; CONTRACTS: parts of Tokens: the next token, of the reference.
  Conditions: those that each lemma states.
-/
import Derived.Test.YtndhpbjhkgdieaaGreatDoorRows
import Derived.Test.YtndhpbjhkgdieaaGreatDoorP31
import Derived.Test.YtndhpbjhkgdieaaGreatDoorP24
import Derived.Test.YtndhpbjhkgdieaaGreatDoorP26
import Derived.Test.YtndhpbjhkgdieaaGreatDoorP14
import Derived.Test.YtndhpbjhkgdieaaGreatDoorP12
namespace Go.Proofs.YtndhpbjhkgdieaaGreatDoor
open Go.RowKit
set_option maxHeartbeats 8000000
set_option maxRecDepth 100000
set_option linter.unusedSimpArgs false
set_option linter.unusedVariables false
theorem done_any {B tb to_ cap : Nat} {ao : Option Addr} {ts : List MToken} {a : Nat} {b : Bool} (w : World) (h : Prs 49 B tb to_ cap ao ts w (a) b) : Calls Tryz.prog 24 #[.pointer (some ⟨B, 0, none⟩)] w (fun e w' => e = .returned (.bool (!b && decide (a = ts.length))) /\ Ext w w') := by
 obtain ⟨c0, c1, c2⟩ := h.cells
 have zB := lt_of_cell c0
 clear h
 obtain ⟨V, hV⟩ : ∃ V, (!b && decide (a = ts.length)) = V := ⟨_, rfl⟩
 rw [hV]
 cases b
 · by_cases hl : a = ts.length
   · subst hl
     have hv : V = true := by rw [<- hV]; simp
     subst hv
     clear hV
     go_enter Tryz.func24, Tryz.ntmps24
     go_wp2_with fail
     have gc0 := reg (XR _) c0
     have gc1 := reg (XR _) c1
     have gc2 := reg (XR _) c2
     refine wp_region_quiet_below (by kernel_rfl) (by kernel_rfl) ?_
     repeat (go_big_quiet_step ((fail)))
     refine wpQuiet_nil ?_
     clear gc0 gc1 gc2
     intro _ hw'
     obtain ⟨pw, hw''⟩ := hw'
     subst hw''
     have xW2 := regx w pw
     generalize hWR : «Sort».grow (redrawn w pw.d) pw.os = W2 at *
     clear hWR
     replace c0 := xW2.cell c0
     replace c1 := xW2.cell c1
     replace c2 := xW2.cell c2
     go_wp2_with fail
     go_ret
     exact ⟨rfl, by first | exact xW2 | exact xW2.alloc _⟩
   have hn : decide ((a : Int) = (ts.length : Int)) = false := decide_eq_false (by omega)
   have hn2 : ((a : Int) == (ts.length : Int)) = false := by simp; omega
   have hv : V = false := by rw [<- hV]; simp [hl]
   subst hv
   clear hV
   go_enter Tryz.func24, Tryz.ntmps24
   go_wp2_with fail
   have gc0 := reg (XR _) c0
   have gc1 := reg (XR _) c1
   have gc2 := reg (XR _) c2
   refine wp_region_quiet_below (by kernel_rfl) (by kernel_rfl) ?_
   repeat (go_big_quiet_step ((fail)))
   refine wpQuiet_nil ?_
   clear gc0 gc1 gc2
   intro _ hw'
   obtain ⟨pw, hw''⟩ := hw'
   subst hw''
   have xW2 := regx w pw
   generalize hWR : «Sort».grow (redrawn w pw.d) pw.os = W2 at *
   clear hWR
   replace c0 := xW2.cell c0
   replace c1 := xW2.cell c1
   replace c2 := xW2.cell c2
   go_wp2_with fail
   go_ret
   exact ⟨rfl, by first | exact xW2 | exact xW2.alloc _⟩
 have hv : V = false := by rw [<- hV]; simp
 subst hv
 clear hV
 go_enter Tryz.func24, Tryz.ntmps24
 go_wp2_with fail
 have gc0 := reg (XR _) c0
 have gc1 := reg (XR _) c1
 have gc2 := reg (XR _) c2
 refine wp_region_quiet_below (by kernel_rfl) (by kernel_rfl) ?_
 repeat (go_big_quiet_step ((fail)))
 refine wpQuiet_nil ?_
 clear gc0 gc1 gc2
 intro _ hw'
 obtain ⟨pw, hw''⟩ := hw'
 subst hw''
 have xW2 := regx w pw
 generalize hWR : «Sort».grow (redrawn w pw.d) pw.os = W2 at *
 clear hWR
 replace c0 := xW2.cell c0
 replace c1 := xW2.cell c1
 replace c2 := xW2.cell c2
 go_wp2_with fail
 go_ret
 exact ⟨rfl, by first | exact xW2 | exact xW2.alloc _⟩
theorem strs_blk {w : World} {l : List ByteArray} {ao : Option Addr} {n cap : Nat} {gp : List Nat} (h : RepF w (strs l) [.slice ao n cap] gp) : ∀ k, k ∈ gp -> (Value.slice ao n cap).ownBlock = some k := by
 intro k hk
 have ht := h.strs_tail
 obtain ⟨ao', cap', e, _, _, _, h2⟩ := RepF.sl_iff.1 h
 rcases h2 with ⟨_, rfl⟩ | ⟨b, o, cs, fp', _, ha, rfl, _⟩
 · cases hk
 · simp at ht
   subst ht
   simp at hk
   subst hk
   simp at e
   rw [e.1, ha]
   rfl
theorem copy_of (n : Nat) (IH : Hid (∀ (z : MExpr) (cz : List Value) (w : World), SizeOf.sizeOf z < n -> Rep w z.d cz -> z.d.bulk <= 1048576 -> Calls Tryz.prog 25 #[.agg cz.toArray] w (GivesS w z.d)))
 (x : MExpr) (cx : List Value) (w : World) (hn : SizeOf.sizeOf x < n + 1) (rx : Rep w x.d cx) (hb : x.d.bulk <= 1048576) : Calls Tryz.prog 25 #[.agg cx.toArray] w (GivesS w x.d) := by
 have hk : Hid (∀ z, z ∈ x.kids -> SizeOf.sizeOf z < n) := LH fun z hz => by have := MExpr.kid_lt hz; omega
 obtain ⟨a1, c1, a2, c2, rfl, rn, rk⟩ := MExpr.op_en rx
 obtain ⟨ao, ca, ba, oa, e1, hla, hma, pa, hra⟩ := Rep.slmap rk
 simp only [List.cons.injEq, and_true, Value.slice.injEq, true_and] at e1
 obtain ⟨rfl, rfl⟩ := e1
 clear rx rk hn
 unfold maxLen at hma
 rw [MExpr.d_eq] at hb
 simp only [D.bulk, D.bulkL] at hb
 have hbk : Hid (x.kids.length + D.bulkL (x.kids.map MExpr.d) <= 1048576) := LH (by simp only [MExprs, D.bulk, List.length_map] at hb; omega)
 have hnl : x.names.length <= 1048576 := by simp only [strs, D.bulk, List.length_map] at hb; omega
 have hkl : x.kids.length <= 1048576 := by have := hbk.out; omega
 clear hb
 go_enter Tryz.func25, Tryz.ntmps25
 go_upto_region 1 with fail
 generalize hS : World.alloc (World.alloc w _) _ = W1
 have x1 : Ext w W1 := by rw [<- hS]; exact ((XR _).alloc _).alloc _
 have OX : Own W1 w.heap.size 27 #[.int .i64 x.kind, .string x.text, .int .i64 x.number, .slice a1 x.names.length c1, .slice a2 x.kids.length c2] := by rw [<- hS]; exact (own_new w _ _).ext ((XR _).alloc _)
 have OR : Own W1 (w.heap.size + 1) 27 #[.int .i64 0, .string ⟨#[]⟩, .int .i64 0, .slice none 0 0, .slice none 0 0] := by rw [<- hS]; exact own_new2 w _ _ _
 have hs1 : w.heap.size + 2 <= W1.heap.size := by rw [<- hS]; simp
 clear hS
 have HN := LH (Rep.ext x1 rn)
 clear rn
 have q0 := OX.k0
 have qf0 := OX.f0
 have q1 := OX.k1
 have qf1 := OX.f1
 have q2 := OX.k2
 have qf2 := OX.f2
 have q3 := OX.k3
 have qf3 := OX.f3
 have q4 := OX.k4
 have qf4 := OX.f4
 have qz := OX.lt
 have x2 : Ext W1 (W1.alloc (.cells #[] 9)) := (XR W1).alloc _
 have KD : AccT (w.heap.size + 2) (W1.alloc (.cells #[] 9)) (.slice (some ⟨W1.heap.size, 0, none⟩) 0 0) [] := Acc.empty _ _ hs1
 have HS1 := Rep.ext x2 HN.out
 have hl1 : ([] : List ByteArray).length + x.names.length <= 1073741824 := by simp; omega
 go_wp2_with (at_builtin; refine wpList_append_strs_at rfl _ _ rfl (w.heap.size + 2) _ [] rfl KD x.names _ _ _ rfl HS1 hl1 (by simp; omega) ?_)
 intro b1 k1 w2 ac1 g1 m1
 have TG : Touch (W1.alloc (.cells #[] 9)) w2 [W1.heap.size] := (Touch.of_ext (XR _) _).grown g1 fun k hk => Or.inl (by simp [Value.ownBlock] at hk; simp [hk])
 have X2 : Ext W1 w2 := Touch.ext x2 TG (fun k hk => by simp at hk; omega)
 have OX2 := OX.ext X2
 have OR2 := OR.ext X2
 have hs2 := X2.size
 have hx2 := x1.trans X2
 have AN := LH ac1
 clear KD HS1 hl1 g1 m1 TG x2 ac1 OX OR x1 X2 q0 qf0 q1 qf1 q2 qf2 q3 qf3 q4 qf4 qz HN
 have q0 := OX2.k0
 have qf0 := OX2.f0
 have q1 := OX2.k1
 have qf1 := OX2.f1
 have q2 := OX2.k2
 have qf2 := OX2.f2
 have q3 := OX2.k3
 have qf3 := OX2.f3
 have q4 := OX2.k4
 have qf4 := OX2.f4
 have qz := OX2.lt
 go_upto_region 2 with fail
 generalize hS : World.setCell w2 _ _ = W3
 have T3 : Touch w2 W3 [w.heap.size] := by rw [<- hS]; exact (Touch.of_ext (XR _) _).setCell (by simp) _
 have OX3 : Own W3 w.heap.size 27 #[.int .i64 x.kind, .string x.text, .int .i64 x.number, .slice b1 x.names.length k1, .slice a2 x.kids.length c2] := by rw [<- hS]; exact OX2.set 3 _
 have OR3 := OR2.touch' T3 (by simp)
 have AN3 := LH (AccT.low AN.out T3 (fun k hk => by simp at hk; omega))
 have hx3 : Ext w W3 := Touch.ext hx2 T3 (fun k hk => by simp at hk; omega)
 have hs3 := T3.size
 have HNB : Hid (∀ k, (Value.slice b1 x.names.length k1).ownBlock = some k -> w.heap.size + 2 <= k /\ k < W3.heap.size) := LH fun k hk => Acc.ge AN3.out hk
 clear hS T3 OX2 OR2 AN hx2 q0 qf0 q1 qf1 q2 qf2 q3 qf3 q4 qf4 qz
 go_upto_region 3 with fail
 generalize hS : World.alloc W3 _ = W4
 have x4 : Ext W3 W4 := by rw [<- hS]; exact (XR _).alloc _
 have OX4 := OX3.ext x4
 have OR4 := OR3.ext x4
 have AN4 := LH (AccT.ext AN3.out x4)
 have AK4 : Hid (Acc W3.heap.size W4 27 5 (.slice (some ⟨W3.heap.size, 0, none⟩) 0 0) ([] : List D) []) := LH (by rw [<- hS]; exact Acc.empty 27 5 (Nat.le_refl _))
 have hx4 := hx3.trans x4
 have hs4 := x4.size
 clear hS AN3 hx3 x4 OX3 OR3
 have q4 := OX4.k4
 have qz := OX4.lt
 go_wp2_with fail
 go_loopw [3, 15] (fun kv iv wr => ∃ (k : Nat) (fp : List Nat), k <= x.kids.length /\ iv = .int .i64 k /\ W3.heap.size <= wr.heap.size /\ Ext w wr /\ Own wr w.heap.size 27 #[.int .i64 x.kind, .string x.text, .int .i64 x.number, .slice b1 x.names.length k1, .slice a2 x.kids.length c2] /\ Own wr (w.heap.size + 1) 27 #[.int .i64 0, .string ⟨#[]⟩, .int .i64 0, .slice none 0 0, .slice none 0 0] /\ AccT (w.heap.size + 2) wr (.slice b1 x.names.length k1) x.names /\ Hid (Acc W3.heap.size wr 27 5 kv ((x.kids.take k).map MExpr.d) fp)) (fun _ iv _ => x.kids.length - (intOf iv).toNat)
 case atStart => exact ⟨0, [], Nat.zero_le _, rfl, hs4, hx4, OX4, OR4, AN4.out, AK4⟩
 case round =>
  clear OX4 OR4 AN4 AK4 q4 qz hx4
  obtain ⟨kv, hkv⟩ : ∃ x, x = u3 := ⟨_, rfl⟩
  subst hkv
  obtain ⟨k, fp, hk', rfl, hwr, hx, hX, hR, hA, hK⟩ := hrel
  have hRl := hR.lt
  by_cases hlt : k < x.kids.length
  · obtain rfl := pa (by omega)
    obtain ⟨ea, la, cl, ra⟩ := hra k x.kids[k] (by simp [hlt])
    obtain ⟨aa0, cc0, aa1, cc1, rfl, -, -⟩ := MExpr.op_en ra
    have t0 := hx.cell (show w.cell? ⟨ba, oa + k * 5, none⟩ = some _ from cl 0 (by omega))
    have t1 := hx.cell (show w.cell? ⟨ba, oa + k * 5 + 1, none⟩ = some _ from cl 1 (by omega))
    have t2 := hx.cell (show w.cell? ⟨ba, oa + k * 5 + 2, none⟩ = some _ from cl 2 (by omega))
    have t3 := hx.cell (show w.cell? ⟨ba, oa + k * 5 + 3, none⟩ = some _ from cl 3 (by omega))
    have t4 := hx.cell (show w.cell? ⟨ba, oa + k * 5 + 4, none⟩ = some _ from cl 4 (by omega))
    clear cl la hra pa
    have hbz : x.kids[k].d.bulk <= 1048576 := by have := D.bulkL_mem (List.mem_map.2 ⟨x.kids[k], List.getElem_mem hlt, rfl⟩ : x.kids[k].d ∈ x.kids.map MExpr.d); have := hbk.out; omega
    have HAT := LH hA
    have HX := LH hX
    have HR := LH hR
    clear hX hR hA
    go_upto_region 6 with fail
    generalize hS : World.alloc wr _ = W5
    have x5 : Ext wr W5 := by rw [<- hS]; exact (XR _).alloc _
    have OK : Own W5 wr.heap.size 27 #[.int .i64 x.kids[k].kind, .string x.kids[k].text, .int .i64 x.kids[k].number, .slice aa0 x.kids[k].names.length cc0, .slice aa1 x.kids[k].kids.length cc1] := by rw [<- hS]; exact own_new wr _ _
    have RA := LH (Rep.ext (hx.trans x5) ra)
    clear hS t0 t1 t2 t3 t4 ra
    have q0 := OK.k0
    have qf0 := OK.f0
    have q1 := OK.k1
    have qf1 := OK.f1
    have q2 := OK.k2
    have qf2 := OK.f2
    have q3 := OK.k3
    have qf3 := OK.f3
    have q4 := OK.k4
    have qf4 := OK.f4
    have qz := OK.lt
    go_wp2_with fail
    refine (IH.out x.kids[k] _ W5 (hk.out _ (List.getElem_mem hlt)) RA.out hbz).mono ?_
    rintro e w6 ⟨cs, gp, rfl, r6, f6, x6⟩
    obtain ⟨z1, z2, z3, z4, rfl⟩ := fld5 r6
    have HR6 := LH r6
    have HF6 := LH f6
    have hxx := x5.trans x6
    have hx6 := hx.trans hxx
    have K6 := LH (Acc.ext hK.out hxx)
    have HAT6 := LH (AccT.ext HAT.out hxx)
    have HX6 := LH (HX.out.ext hxx)
    have HRR6 := LH (HR.out.ext hxx)
    have hs5 := x5.size
    have hs6 := x6.size
    have HOB : Hid (∀ k, kv.ownBlock = some k -> W3.heap.size <= k /\ k < wr.heap.size) := LH fun k hk => Acc.ge hK.out hk
    have HFW : Hid (∀ k, k ∈ fp -> k < wr.heap.size) := LH fun k hk => by obtain ⟨_, _, _, h, _⟩ := hK.out; exact h.lt hk
    have HFR : Hid (Fresh wr W3.heap.size fp) := LH (by obtain ⟨_, _, _, h, _⟩ := hK.out; exact h)
    clear r6 f6 x5 x6 hK HAT HX HR OK q0 qf0 q1 qf1 q2 qf2 q3 qf3 q4 qf4 qz RA hx
    have x7 : Ext w6 (w6.alloc (.cells #[.int .i64 x.kids[k].kind, .string x.kids[k].text, .int .i64 x.kids[k].number, .slice z1 x.kids[k].names.length z2, .slice z3 x.kids[k].kids.length z4] 27)) := (XR w6).alloc _
    have KD := Acc.ext K6.out x7
    have HSL := one_expr (HR6.out.ext x7) (own_new w6 #[.int .i64 x.kids[k].kind, .string x.kids[k].text, .int .i64 x.kids[k].number, .slice z1 x.kids[k].names.length z2, .slice z3 x.kids[k].kids.length z4] 27)
    have hFF : Fresh (w6.alloc (.cells #[.int .i64 x.kids[k].kind, .string x.kids[k].text, .int .i64 x.kids[k].number, .slice z1 x.kids[k].names.length z2, .slice z3 x.kids[k].kids.length z4] 27)) W3.heap.size (fp ++ gp) := (HFR.out.append (hxx.trans x7) ((HF6.out.ext x7).mono hs5) (Nat.le_refl _) (by have := HRR6.out.lt; omega))
    obtain ⟨i0, hi, hz0, hz1, hz2⟩ := info_parts exprInfo
    have hlk : ((x.kids.take k).map MExpr.d).length = k := by simp; omega
    go_wp2_with (at_builtin; refine wpList_append_at rfl _ _ 25 rfl W3.heap.size 27 i0 _ 5 80 Tryz.underlying25 hi hz0 hz1 hz2 rfl (by decide) kv ((x.kids.take k).map MExpr.d) fp rfl KD [x.kids[k].d] _ 1 1 (w6.heap.size :: gp) rfl HSL hFF (fun k hk hm => by have h1 := (HOB.out k hk).2; have h2 := HF6.out.ge k hm; omega) (by rw [hlk]; unfold maxLen; omega) (by rw [hlk]; omega) (by have := x7.size; omega) ?_)
    intro a7 k7 w7 ac7 g7 m7
    have TG : Touch (w6.alloc (.cells #[.int .i64 x.kids[k].kind, .string x.kids[k].text, .int .i64 x.kids[k].number, .slice z1 x.kids[k].names.length z2, .slice z3 x.kids[k].kids.length z4] 27)) w7 kv.ownBlock.toList := (Touch.of_ext (XR _) _).grown g7 fun k hk => Or.inl (by simp [hk])
    have hge : ∀ k, k ∈ kv.ownBlock.toList -> W3.heap.size <= k := fun k hk => (HOB.out k (by simpa using hk)).1
    have hX7 := (HX6.out.ext x7).touch' TG (fun hm => by have := hge _ hm; omega)
    have hR7 := (HRR6.out.ext x7).touch' TG (fun hm => by have := hge _ hm; omega)
    have hA7 := Acc.touch (AccT.ext HAT6.out x7) TG (fun k hk hm => by have h1 := hge _ hm; have h2 := (HNB.out k hk).2; omega) (fun k hk => nomatch hk)
    have hsz7 : W3.heap.size <= w7.heap.size := by have h1 := x7.size; have h2 := TG.size; omega
    have hw7 : Ext w w7 := Touch.ext (hx6.trans x7) TG (fun k hk => by have := hge k hk; omega)
    have HK7 : Hid (Acc W3.heap.size w7 27 5 (.slice a7 (k + 1) k7) ((x.kids.take (k + 1)).map MExpr.d) (fp ++ gp)) := LH (by rw [List.take_succ_eq_append_getElem hlt, List.map_append, List.map_take]; exact ac7)
    clear KD HSL hFF g7 m7 TG ac7 hge HX6 HRR6 HAT6 x7 K6 HR6 HF6 hi hz0 hz1 hz2
    generalize hv7 : Value.slice a7 (k + 1) k7 = v7 at *
    go_wp2_with fail
    go_roundw
    case rel => exact ⟨k + 1, fp ++ gp, by omega, by go_num, hsz7, hw7, hX7, hR7, hA7, HK7⟩
    case measure => simp [intOf]; omega
  · obtain rfl : k = x.kids.length := by omega
    obtain ⟨ak, ck, gk, rfl, rk, fk⟩ := Acc.rep hK.out
    obtain ⟨an, cn, gn, hvn, rn, fn⟩ := AccT.rep hA
    injection hvn with hv1 _ hv2
    subst hv1
    subst hv2
    rw [List.take_length, List.length_map] at rk
    have HRK := LH rk
    have HFK := LH fk
    have HRN := LH rn
    have HFN := LH fn
    have HNB2 : Hid (∀ k, k ∈ gn -> w.heap.size + 2 <= k /\ k < W3.heap.size) := LH (fun k hk => HNB.out k (strs_blk HRN.out k hk))
    clear hA hK rk fk rn fn
    have q0 := hX.k0
    have qf0 := hX.f0
    have q1 := hX.k1
    have qf1 := hX.f1
    have q2 := hX.k2
    have qf2 := hX.f2
    have q3 := hX.k3
    have qf3 := hX.f3
    have q4 := hX.k4
    have qf4 := hX.f4
    have qz := hX.lt
    have r0 := hR.k0
    have rf0 := hR.f0
    have r1 := hR.k1
    have rf1 := hR.f1
    have r2 := hR.k2
    have rf2 := hR.f2
    have r3 := hR.k3
    have rf3 := hR.f3
    have r4 := hR.k4
    have rf4 := hR.f4
    have rz := hR.lt
    go_upto_region 9 with fail
    generalize hS : World.setCell wr _ _ = W8
    have T8 : Touch wr W8 [w.heap.size] := by rw [<- hS]; exact (Touch.of_ext (XR _) _).setCell (by simp) _
    have OX8 : Own W8 w.heap.size 27 #[.int .i64 x.kind, .string x.text, .int .i64 x.number, .slice b1 x.names.length k1, .slice ak x.kids.length ck] := by rw [<- hS]; exact hX.set 4 _
    have OR8 := hR.touch' T8 (by simp)
    clear hS q0 qf0 r0 rf0 q1 qf1 r1 rf1 q2 qf2 r2 rf2 q3 qf3 r3 rf3 q4 qf4 r4 rf4 qz rz hX hR
    have q0 := OX8.k0
    have qf0 := OX8.f0
    have q1 := OX8.k1
    have qf1 := OX8.f1
    have q2 := OX8.k2
    have qf2 := OX8.f2
    have q3 := OX8.k3
    have qf3 := OX8.f3
    have q4 := OX8.k4
    have qf4 := OX8.f4
    have qz := OX8.lt
    have r0 := OR8.k0
    have rf0 := OR8.f0
    have r1 := OR8.k1
    have rf1 := OR8.f1
    have r2 := OR8.k2
    have rf2 := OR8.f2
    have r3 := OR8.k3
    have rf3 := OR8.f3
    have r4 := OR8.k4
    have rf4 := OR8.f4
    have rz := OR8.lt
    go_wp2_with fail
    generalize hS : World.setCell (World.setCell (World.setCell (World.setCell (World.setCell W8 _ _) _ _) _ _) _ _) _ _ = W9
    obtain ⟨O9, T9⟩ := own5 OR8 (.int .i64 x.kind) (.string x.text) (.int .i64 x.number) (.slice b1 x.names.length k1) (.slice ak x.kids.length ck)
    rw [hS] at O9 T9
    clear hS
    have p0 := O9.k0
    have p1 := O9.k1
    have p2 := O9.k2
    have p3 := O9.k3
    have p4 := O9.k4
    have pz := O9.lt
    have T89 : Touch wr W9 [w.heap.size, w.heap.size + 1] := (T8.mono (by simp)).trans (T9.mono (by simp))
    have RN9 := HRN.out.touch T89 (fun k hk hm => by have := (HNB2.out k hk).1; simp at hm; omega)
    have RK9 := HRK.out.touch T89 (fun k hk hm => by have := HFK.out.ge k hk; simp at hm; omega)
    have R9 := MExpr.shut (x := x) RN9 RK9
    rw [List.append_nil] at R9
    have FN9 := HFN.out.touch T89 (fun k hk hm => by have := (HNB2.out k hk).1; simp at hm; omega)
    have FK9 := HFK.out.touch T89 (fun k hk hm => by have := HFK.out.ge k hk; simp at hm; omega)
    have F9 : Fresh W9 w.heap.size (gn ++ gk) := (FN9.mono (by omega)).join FK9 (fun k hk => (HNB2.out k hk).2) (by omega)
    have FIN : GivesS w x.d (.returned (.agg #[.int .i64 x.kind, .string x.text, .int .i64 x.number, .slice b1 x.names.length k1, .slice ak x.kids.length ck])) W9 := ⟨_, gn ++ gk, rfl, R9, F9, Touch.ext hx T89 (fun k hk => by simp at hk; omega)⟩
    exact bodyPost_ret (v := .agg #[.int .i64 x.kind, .string x.text, .int .i64 x.number, .slice b1 x.names.length k1, .slice ak x.kids.length ck]) (by simp [results, Tryz.results25, go_sem, p0, p1, p2, p3, p4, pz]) rfl FIN
theorem copy_lt : ∀ (n : Nat) (x : MExpr) (cx : List Value) (w : World), SizeOf.sizeOf x < n -> Rep w x.d cx -> x.d.bulk <= 1048576 -> Calls Tryz.prog 25 #[.agg cx.toArray] w (GivesS w x.d)
 | 0, x, cx, w, h, _, _ => absurd h (Nat.not_lt_zero _)
 | n + 1, x, cx, w, h, rx, hb => copy_of n (LH fun z cz w' hz rz hb' => copy_lt n z cz w' hz rz hb') x cx w h rx hb
theorem copyExpr_any (x : MExpr) (cx : List Value) (w : World) (rx : Rep w x.d cx) (hb : x.d.bulk <= 1048576) : Calls Tryz.prog 25 #[.agg cx.toArray] w (GivesS w x.d) := copy_lt _ x cx w (Nat.lt_succ_self _) rx hb
theorem txt_ne {f : ByteArray} (h : ¬ f = ⟨#[]⟩) : f.toList.isEmpty = false := by
 have : ¬ f.toList = [] := fun e => h (toList_inj (by rw [e]; simp))
 simpa using this
theorem l2Next_any (s : ByteArray) (k : Nat) (w : World) (hs : s.size <= 1048576) (hk : k < s.size) :
 Calls Tryz.prog 21 #[.string s, .int .i64 k] w fun e w' => e = .returned (.tuple #[tokVal (tokL (s.data.toList.drop k)).1, .int .i64 (endV k (tokL (s.data.toList.drop k)).2)]) /\ Ext w w' := by
 have p0 : (0 : Int) <= k := by omega
 have pk : (k : Int) < s.size := by omega
 obtain ⟨hb0, hb1⟩ := byte_bd s[k]
 have HT : Hid (tokL (s.data.toList.drop k) = tokC s[k] (s.data.toList.drop k)) := LH (by unfold tokL; congr 1; rw [drop_cons hk]; rfl)
 have HH : Hid (headLtr (s.data.toList.drop k) = ltrB (s[k].toNat : Int)) := LH (by rw [drop_cons hk]; rfl)
 have HF : Hid (∀ l, firstP l (mkB (s.data.toList.drop k)) = firstP l (suf s k)) := LH fun l => by rw [suf_mk]
 go_enter Tryz.func21, Tryz.ntmps21
 go_wp2_with fail
 generalize hW : World.alloc w _ = W1
 have x1 : Ext w W1 := by rw [<- hW]; exact (XR w).alloc _
 have R0 : W1.cell? ⟨w.heap.size, 0, none⟩ = some (.int .i64 0) := by rw [<- hW]; simp
 have R1 : W1.cell? ⟨w.heap.size, 1, none⟩ = some (.string ⟨#[]⟩) := by rw [<- hW]; simp
 have R2 : W1.cell? ⟨w.heap.size, 2, none⟩ = some (.int .i64 0) := by rw [<- hW]; simp
 have F0 : ∀ o, W1.frozen? ⟨w.heap.size, o, none⟩ = false := fun o => by rw [<- hW]; simp
 clear hW
 refine (l2Marks_any _).mono ?_
 rintro e w1 ⟨ao, n, cap, fp, rfl, hr, hf, hxa⟩
 go_wp2_with fail
 refine (l2Starts_any marksL s k _ _ hr.rep hs (by omega) marks_small).mono ?_
 rintro e w2 ⟨rfl, hxb⟩
 clear hr hf
 go_wp2_with fail
 refine (l2Binaries_any _).mono ?_
 rintro e w3 ⟨ao, n, cap, fp, rfl, hr, hf, hxc⟩
 go_wp2_with fail
 refine (l2Starts_any opsL s k _ _ hr.rep hs (by omega) ops_small).mono ?_
 rintro e w4 ⟨rfl, hxd⟩
 have hx := ((hxa.trans hxb).trans hxc).trans hxd
 have zz := lt_of_cell R0
 replace R0 := Ext.cell hx R0
 replace R1 := Ext.cell hx R1
 replace R2 := Ext.cell hx R2
 replace F0 := fun o => ((bcell hx).2 w.heap.size o zz).trans (F0 o)
 clear zz
 clear hr hf hxa hxb hxc hxd
 have HO := HF.out opsL
 have HM := HF.out marksL
 have hoz : (firstP opsL (suf s k)).size <= 1048576 := by
  rcases firstP_mem opsL (suf s k) with h | h
  · rw [h]; decide
  · exact ops_small _ h
 have hmz : (firstP marksL (suf s k)).size <= 1048576 := by
  rcases firstP_mem marksL (suf s k) with h | h
  · rw [h]; decide
  · exact marks_small _ h
 clear HF
 generalize firstP opsL (suf s k) = op at *
 generalize firstP marksL (suf s k) = mk at *
 have HO := LH HO
 have HM := LH HM
 cases hl : ltrB (s[k].toNat : Int)
 rotate_left
 · have HL := LH hl; clear hl
   have hr0 := run_ltr (HH.out.trans HL.out)
   have hr1 : Hid (0 < runL (s.data.toList.drop k)) := LH (by omega)
   clear hr0
   obtain ⟨⟨⟨K, T, N⟩, n⟩, hX⟩ : ∃ X, nameT (s.data.toList.drop k) = X := ⟨_, rfl⟩
   have C : Hid (∀ W, Calls Tryz.prog 50 #[.string s, .int .i64 ((k : Nat) : Int)] W fun e w' => e = .returned (.tuple #[.agg #[.int .i64 K, .string T, .int .i64 N], .int .i64 (endV (k) n)]) /\ Ext W w') := LH fun W => by
    have := l2Name_any s k W hs (by omega) hr1.out
    rw [hX] at this
    exact this
   have HN : Hid (Ending.returned (.tuple #[.agg #[.int .i64 K, .string T, .int .i64 N], .int .i64 (endV k n)]) = Ending.returned (.tuple #[tokVal (tokL (s.data.toList.drop k)).1, .int .i64 (endV k (tokL (s.data.toList.drop k)).2)])) := LH (by rw [show tokL (s.data.toList.drop k) = (⟨K, T, N⟩, n) from by rw [HT.out, tokC, if_pos HL.out, hX]]; rfl)
   clear hX
   go_wp2_with fail
   refine (l2Letter_any _ _ hb0 hb1).mono ?_
   rw [HL.out]
   rintro e w' ⟨rfl, rfl⟩
   go_wp2_with fail
   refine (C.out _).mono ?_
   rintro e w5 ⟨rfl, hx5⟩
   have zz := lt_of_cell R0
   replace R0 := Ext.cell hx5 R0
   replace R1 := Ext.cell hx5 R1
   replace R2 := Ext.cell hx5 R2
   replace F0 := fun o => ((bcell hx5).2 w.heap.size o zz).trans (F0 o)
   clear zz
   go_wp2_with fail
   refine bodyPost_ret (v := .tuple #[.agg #[.int .i64 (K), .string (T), .int .i64 (N)], .int .i64 (endV (k) n)]) (by simp [results, Tryz.results21, go_sem, R0, R1, R2, F0]) rfl ⟨?_, ?_⟩
   · exact HN.out
   · (repeat refine Ext.setCell ?_ (by omega) _)
     exact x1.trans (hx.trans hx5)
 have HL := LH hl; clear hl
 have nl : Hid (¬ ltrB (s[k].toNat : Int) = true) := LH (by rw [HL.out]; exact Bool.false_ne_true)
 cases hd : dgtB (s[k].toNat : Int)
 rotate_left
 · have HD := LH hd; clear hd
   have hd0 : Hid (0 < digN (s.data.toList.drop k)) := LH (by rw [drop_cons hk, digN, if_pos HD.out]; omega)
   obtain ⟨⟨⟨K, T, N⟩, n⟩, hX⟩ : ∃ X, numT (s.data.toList.drop k) = X := ⟨_, rfl⟩
   have C : Hid (∀ W, Calls Tryz.prog 52 #[.string s, .int .i64 ((k : Nat) : Int)] W fun e w' => e = .returned (.tuple #[.agg #[.int .i64 K, .string T, .int .i64 N], .int .i64 (endV (k) n)]) /\ Ext W w') := LH fun W => by
    have := l2Number_any s k W hs (by omega) hd0.out
    rw [hX] at this
    exact this
   have HN : Hid (Ending.returned (.tuple #[.agg #[.int .i64 K, .string T, .int .i64 N], .int .i64 (endV k n)]) = Ending.returned (.tuple #[tokVal (tokL (s.data.toList.drop k)).1, .int .i64 (endV k (tokL (s.data.toList.drop k)).2)])) := LH (by rw [show tokL (s.data.toList.drop k) = (⟨K, T, N⟩, n) from by rw [HT.out, tokC, if_neg nl.out, if_pos HD.out, hX]]; rfl)
   clear hX
   go_wp2_with fail
   refine (l2Letter_any _ _ hb0 hb1).mono ?_
   rw [HL.out]
   rintro e w' ⟨rfl, rfl⟩
   go_wp2_with fail
   refine (l2Digit_any _ _ hb0 hb1).mono ?_
   rw [HD.out]
   rintro e w' ⟨rfl, rfl⟩
   go_wp2_with fail
   refine (C.out _).mono ?_
   rintro e w5 ⟨rfl, hx5⟩
   have zz := lt_of_cell R0
   replace R0 := Ext.cell hx5 R0
   replace R1 := Ext.cell hx5 R1
   replace R2 := Ext.cell hx5 R2
   replace F0 := fun o => ((bcell hx5).2 w.heap.size o zz).trans (F0 o)
   clear zz
   go_wp2_with fail
   refine bodyPost_ret (v := .tuple #[.agg #[.int .i64 (K), .string (T), .int .i64 (N)], .int .i64 (endV (k) n)]) (by simp [results, Tryz.results21, go_sem, R0, R1, R2, F0]) rfl ⟨?_, ?_⟩
   · exact HN.out
   · (repeat refine Ext.setCell ?_ (by omega) _)
     exact x1.trans (hx.trans hx5)
 have HD := LH hd; clear hd
 have nd : Hid (¬ dgtB (s[k].toNat : Int) = true) := LH (by rw [HD.out]; exact Bool.false_ne_true)
 by_cases hq : s[k] = 39
 · have t1 := u8_eq (n := 39) 39 rfl hq
   have HQ := LH hq; clear hq
   obtain ⟨⟨⟨K, T, N⟩, n⟩, hX⟩ : ∃ X, quoT (s.data.toList.drop k) = X := ⟨_, rfl⟩
   have C : Hid (∀ W, Calls Tryz.prog 53 #[.string s, .int .i64 ((k : Nat) : Int)] W fun e w' => e = .returned (.tuple #[.agg #[.int .i64 K, .string T, .int .i64 N], .int .i64 (endV (k) n)]) /\ Ext W w') := LH fun W => by
    have := l2Quoted_any s k W hs hk
    rw [hX] at this
    exact this
   have HN : Hid (Ending.returned (.tuple #[.agg #[.int .i64 K, .string T, .int .i64 N], .int .i64 (endV k n)]) = Ending.returned (.tuple #[tokVal (tokL (s.data.toList.drop k)).1, .int .i64 (endV k (tokL (s.data.toList.drop k)).2)])) := LH (by rw [show tokL (s.data.toList.drop k) = (⟨K, T, N⟩, n) from by rw [HT.out, tokC, if_neg nl.out, if_neg nd.out, if_pos HQ.out, hX]]; rfl)
   clear hX
   go_wp2_with fail
   refine (l2Letter_any _ _ hb0 hb1).mono ?_
   rw [HL.out]
   rintro e w' ⟨rfl, rfl⟩
   go_wp2_with fail
   refine (l2Digit_any _ _ hb0 hb1).mono ?_
   rw [HD.out]
   rintro e w' ⟨rfl, rfl⟩
   go_wp2_with fail
   refine (C.out _).mono ?_
   rintro e w5 ⟨rfl, hx5⟩
   have zz := lt_of_cell R0
   replace R0 := Ext.cell hx5 R0
   replace R1 := Ext.cell hx5 R1
   replace R2 := Ext.cell hx5 R2
   replace F0 := fun o => ((bcell hx5).2 w.heap.size o zz).trans (F0 o)
   clear zz
   go_wp2_with fail
   refine bodyPost_ret (v := .tuple #[.agg #[.int .i64 (K), .string (T), .int .i64 (N)], .int .i64 (endV (k) n)]) (by simp [results, Tryz.results21, go_sem, R0, R1, R2, F0]) rfl ⟨?_, ?_⟩
   · exact HN.out
   · (repeat refine Ext.setCell ?_ (by omega) _)
     exact x1.trans (hx.trans hx5)
 have t1 := u8_ne (n := 39) 39 rfl hq
 have HQ := LH hq; clear hq
 by_cases hp : s[k] = 35
 · have t2 := u8_eq (n := 35) 35 rfl hp
   have HP := LH hp; clear hp
   obtain ⟨⟨⟨K, T, N⟩, n⟩, hX⟩ : ∃ X, selT (s.data.toList.drop (k + 1)) = X := ⟨_, rfl⟩
   have C : Hid (∀ W, Calls Tryz.prog 54 #[.string s, .int .i64 ((k + 1 : Nat) : Int)] W fun e w' => e = .returned (.tuple #[.agg #[.int .i64 K, .string T, .int .i64 N], .int .i64 (endV (k + 1) n)]) /\ Ext W w') := LH fun W => by
    have := l2Selector_any s (k + 1) W hs (by omega)
    rw [hX] at this
    exact this
   have HN : Hid (Ending.returned (.tuple #[.agg #[.int .i64 K, .string T, .int .i64 N], .int .i64 (endV (k + 1) n)]) = Ending.returned (.tuple #[tokVal (tokL (s.data.toList.drop k)).1, .int .i64 (endV k (tokL (s.data.toList.drop k)).2)])) := LH (by
    have e1 : tokL (s.data.toList.drop k) = symT (s.data.toList.drop (k + 1)) := by rw [HT.out, tokC, if_neg nl.out, if_neg nd.out, if_neg HQ.out, if_pos HP.out, List.drop_drop]
    have hk := sel_k (s.data.toList.drop (k + 1))
    rw [e1]
    unfold symT
    rw [hX] at hk ⊢
    by_cases h0 : n = 0
    · subst h0
      have e : (⟨K, T, N⟩ : MToken) = ⟨0, ⟨#[]⟩, 0⟩ := hk.1 rfl
      injection e with e1 e2 e3
      rw [if_pos rfl, e1, e2, e3]; rfl
    · rw [if_neg h0]
      simp only [tokVal, endV]
      rw [if_neg h0, if_neg (by omega), show k + 1 + n = k + (n + 1) from by omega])
   clear hX
   go_wp2_with fail
   refine (l2Letter_any _ _ hb0 hb1).mono ?_
   rw [HL.out]
   rintro e w' ⟨rfl, rfl⟩
   go_wp2_with fail
   refine (l2Digit_any _ _ hb0 hb1).mono ?_
   rw [HD.out]
   rintro e w' ⟨rfl, rfl⟩
   go_wp2_with fail
   refine (C.out _).mono ?_
   rintro e w5 ⟨rfl, hx5⟩
   have zz := lt_of_cell R0
   replace R0 := Ext.cell hx5 R0
   replace R1 := Ext.cell hx5 R1
   replace R2 := Ext.cell hx5 R2
   replace F0 := fun o => ((bcell hx5).2 w.heap.size o zz).trans (F0 o)
   clear zz
   go_wp2_with fail
   refine bodyPost_ret (v := .tuple #[.agg #[.int .i64 (K), .string (T), .int .i64 (N)], .int .i64 (endV (k + 1) n)]) (by simp [results, Tryz.results21, go_sem, R0, R1, R2, F0]) rfl ⟨?_, ?_⟩
   · exact HN.out
   · (repeat refine Ext.setCell ?_ (by omega) _)
     exact x1.trans (hx.trans hx5)
 have t2 := u8_ne (n := 35) 35 rfl hp
 have HP := LH hp; clear hp
 have HB : Hid (tokL (s.data.toList.drop k) = opT (s.data.toList.drop k)) := LH (by rw [HT.out, tokC, if_neg nl.out, if_neg nd.out, if_neg HQ.out, if_neg HP.out])
 by_cases ho : op = ⟨#[]⟩
 rotate_left
 · have t3 := txt_ne ho
   have hN : Hid (tokL (s.data.toList.drop k) = (⟨6, op, 0⟩, op.size)) := LH (by rw [HB.out, opT, HO.out, if_neg ho])
   have hnz : op.size ≠ 0 := fun e => ho (size_zero e)
   clear ho
   go_wp2_with fail
   refine (l2Letter_any _ _ hb0 hb1).mono ?_
   rw [HL.out]
   rintro e w' ⟨rfl, rfl⟩
   go_wp2_with fail
   refine (l2Digit_any _ _ hb0 hb1).mono ?_
   rw [HD.out]
   rintro e w' ⟨rfl, rfl⟩
   go_wp2_with fail
   refine bodyPost_ret (v := .tuple #[.agg #[.int .i64 (6), .string (op), .int .i64 (0)], .int .i64 (((k + op.size : Nat) : Int))]) (by simp [results, Tryz.results21, go_sem, R0, R1, R2, F0]) rfl ⟨?_, ?_⟩
   · rw [hN.out]; simp only [tokVal, endV]; rw [if_neg hnz]
   · (repeat refine Ext.setCell ?_ (by omega) _)
     exact x1.trans hx
 subst ho
 by_cases hm : mk = ⟨#[]⟩
 rotate_left
 · have t3 := txt_ne hm
   have hN : Hid (tokL (s.data.toList.drop k) = (⟨7, mk, 0⟩, mk.size)) := LH (by rw [HB.out, opT, HO.out, if_pos rfl, HM.out, if_neg hm])
   have hnz : mk.size ≠ 0 := fun e => hm (size_zero e)
   clear hm
   go_wp2_with fail
   refine (l2Letter_any _ _ hb0 hb1).mono ?_
   rw [HL.out]
   rintro e w' ⟨rfl, rfl⟩
   go_wp2_with fail
   refine (l2Digit_any _ _ hb0 hb1).mono ?_
   rw [HD.out]
   rintro e w' ⟨rfl, rfl⟩
   go_wp2_with fail
   refine bodyPost_ret (v := .tuple #[.agg #[.int .i64 (7), .string (mk), .int .i64 (0)], .int .i64 (((k + mk.size : Nat) : Int))]) (by simp [results, Tryz.results21, go_sem, R0, R1, R2, F0]) rfl ⟨?_, ?_⟩
   · rw [hN.out]; simp only [tokVal, endV]; rw [if_neg hnz]
   · (repeat refine Ext.setCell ?_ (by omega) _)
     exact x1.trans hx
 subst hm
 have hN : Hid (tokL (s.data.toList.drop k) = noTok) := LH (by rw [HB.out, opT, HO.out, if_pos rfl, HM.out, if_pos rfl])
 go_wp2_with fail
 refine (l2Letter_any _ _ hb0 hb1).mono ?_
 rw [HL.out]
 rintro e w' ⟨rfl, rfl⟩
 go_wp2_with fail
 refine (l2Digit_any _ _ hb0 hb1).mono ?_
 rw [HD.out]
 rintro e w' ⟨rfl, rfl⟩
 go_wp2_with fail
 refine bodyPost_ret (v := .tuple #[.agg #[.int .i64 (0), .string (⟨#[]⟩), .int .i64 (0)], .int .i64 (0)]) (by simp [results, Tryz.results21, go_sem, R0, R1, R2, F0]) rfl ⟨?_, ?_⟩
 · rw [hN.out]; rfl
 · (repeat refine Ext.setCell ?_ (by omega) _)
   exact x1.trans hx
end Go.Proofs.YtndhpbjhkgdieaaGreatDoor
