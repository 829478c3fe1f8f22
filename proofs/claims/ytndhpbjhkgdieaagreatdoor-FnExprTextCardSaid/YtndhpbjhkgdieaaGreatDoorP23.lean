/-
  CONTRACTS: the program's printer: the text of an expression.
  Conditions: those that each lemma states.
-/
import Derived.Test.YtndhpbjhkgdieaaGreatDoorRows
import Derived.BigQuiet
import Derived.Deep.QuietTactic
import Derived.Test.YtndhpbjhkgdieaaGreatDoorP18
import Derived.Test.YtndhpbjhkgdieaaGreatDoorP22
namespace Go.Proofs.YtndhpbjhkgdieaaGreatDoor
open Go.RowKit
set_option maxHeartbeats 8000000
set_option maxRecDepth 100000
set_option linter.unusedSimpArgs false
set_option linter.unusedVariables false
theorem parsY_snoc : ∀ (l : List ByteArray) (s : ByteArray), parsY (l ++ [s]) = parsY l ++ (58 :: (bs s ++ [32]))
 | [], s => by simp [parsY]
 | a :: l, s => by
  rw [List.cons_append, parsY, parsY, parsY_snoc l s]
  simp
theorem nmL_take (n : Nat) (l : List ByteArray) : nmL (l.take n) <= nmL l := by have := nmL_split n l; omega
theorem Rep.sl_drop1 {w : World} {b o cap : Nat} : ∀ (k : Nat) {xs : List D} {n : Nat}, k <= xs.length -> xs.length = n -> Rep w (.sl 1 xs) [.slice (some ⟨b, o, none⟩) n cap] -> Rep w (.sl 1 (xs.drop k)) [.slice (some ⟨b, o + k, none⟩) (n - k) (cap - k)]
 | 0, xs, n, _, _, h => h
 | k + 1, xs, n, hk, hn, h => by
  have h1 := Rep.sl_drop1 k (by omega) hn h
  obtain ⟨y, ys, hy⟩ : ∃ y ys, xs.drop k = y :: ys := by
   cases hd : xs.drop k with
   | nil => have := congrArg List.length hd; rw [List.length_drop] at this; simp at this; omega
   | cons y ys => exact ⟨y, ys, rfl⟩
  rw [hy] at h1
  have h2 := h1.sl_tail
  have e : xs.drop (k + 1) = ys := by rw [<- List.drop_drop, hy]; rfl
  rw [e, show o + (k + 1) = o + k + 1 by omega, show n - (k + 1) = n - k - 1 by omega, show cap - (k + 1) = cap - k - 1 by omega]
  exact h2
theorem exprText_step (n : Nat) (IH : Hid (TxtAt n)) : TxtAt (n + 1) := by
 intro x cz w hok hb hm ht rz
 have hts := Nat.le_trans (MExpr.bulk_text x) hb
 have hhd := (okR_succ.1 hok).1.1
 obtain ⟨n1, n2, hbd, q1, q2, q3, q4, q5, q6, q7, q8, q9⟩ := hhd
 obtain ⟨an, cn, ak, ck, rfl, rn, rk⟩ := MExpr.op_en rz
 clear rz
 show Calls Tryz.prog 16 #[.agg #[.int .i64 x.kind, .string x.text, .int .i64 x.number, .slice an x.names.length cn, .slice ak x.kids.length ck]] w fun e w' => e = .returned (.string (mkB (stepY (txE n) x))) /\ Ext w w'
 by_cases h1 : x.kind = 1
 · have z0 : (⟨#[]⟩ : ByteArray).size = 0 := rfl
   have hn := (q1 h1).2.1
   clear q1 q2 q3 q4 q5 q6 q7 q8 q9 n1 n2 hbd
   have HV : Hid (mkB (stepY (txE n) x) = tokB ⟨3, ⟨#[]⟩, x.number⟩) := LH (by unfold stepY; rw [if_pos h1]; simp [tokB, itoaB]; rfl)
   clear rn rk
   rw [h1]
   go_enter Tryz.func16, Tryz.ntmps16
   go_upto_region 1 with fail
   generalize hS : World.alloc w _ = W1
   have x1 : Ext w W1 := by rw [<- hS]; exact (XR _).alloc _
   have m0 : W1.cell? ⟨w.heap.size, 0, none⟩ = some (.int .i64 1) := by rw [<- hS]; simp <;> assumption
   have m1 : W1.cell? ⟨w.heap.size, 1, none⟩ = some (.string x.text) := by rw [<- hS]; simp <;> assumption
   have m2 : W1.cell? ⟨w.heap.size, 2, none⟩ = some (.int .i64 x.number) := by rw [<- hS]; simp <;> assumption
   have m3 : W1.cell? ⟨w.heap.size, 3, none⟩ = some (.slice an x.names.length cn) := by rw [<- hS]; simp <;> assumption
   have m4 : W1.cell? ⟨w.heap.size, 4, none⟩ = some (.slice ak x.kids.length ck) := by rw [<- hS]; simp <;> assumption
   clear hS
   go_wp2_with fail
   refine (impl_FormatToken_any ⟨3, ⟨#[]⟩, x.number⟩ [.int .i64 3, .string ⟨#[]⟩, .int .i64 x.number] _ (MToken.shut (x := ⟨3, ⟨#[]⟩, x.number⟩)).rep (by rw [MToken.d_eq]; simp only [D.bulk, D.bulkL]; first | omega | (simp; omega)) (by rw [MToken.d_eq]; simp only [D.ok, D.okL]; first | exact ⟨⟨by omega, by omega⟩, by omega, ⟨by omega, by omega⟩, trivial⟩ | exact ⟨⟨by omega, by omega⟩, by decide, ⟨by omega, by omega⟩, trivial⟩) (ht.ext x1) (hm.ext x1)).mono ?_
   rintro e w2 ⟨rfl, hx2⟩
   go_wp2_with fail
   go_ret
   exact ⟨by rw [HV.out]; rfl, x1.trans hx2⟩
 by_cases h2 : x.kind = 2
 · clear q1 q2 q3 q4 q5 q6 q7 q8 q9 n1 n2 hbd
   have HV : Hid (mkB (stepY (txE n) x) = tokB ⟨4, x.text, 0⟩) := LH (by unfold stepY; rw [if_neg (by omega), if_pos h2]; simp [tokB, quoteB]; rfl)
   clear rn rk
   rw [h2]
   go_enter Tryz.func16, Tryz.ntmps16
   go_upto_region 1 with fail
   generalize hS : World.alloc w _ = W1
   have x1 : Ext w W1 := by rw [<- hS]; exact (XR _).alloc _
   have m0 : W1.cell? ⟨w.heap.size, 0, none⟩ = some (.int .i64 2) := by rw [<- hS]; simp <;> assumption
   have m1 : W1.cell? ⟨w.heap.size, 1, none⟩ = some (.string x.text) := by rw [<- hS]; simp <;> assumption
   have m2 : W1.cell? ⟨w.heap.size, 2, none⟩ = some (.int .i64 x.number) := by rw [<- hS]; simp <;> assumption
   have m3 : W1.cell? ⟨w.heap.size, 3, none⟩ = some (.slice an x.names.length cn) := by rw [<- hS]; simp <;> assumption
   have m4 : W1.cell? ⟨w.heap.size, 4, none⟩ = some (.slice ak x.kids.length ck) := by rw [<- hS]; simp <;> assumption
   clear hS
   go_wp2_with fail
   refine (impl_FormatToken_any ⟨4, x.text, 0⟩ [.int .i64 4, .string x.text, .int .i64 0] _ (MToken.shut (x := ⟨4, x.text, 0⟩)).rep (by rw [MToken.d_eq]; simp only [D.bulk, D.bulkL]; first | omega | (simp; omega)) (by rw [MToken.d_eq]; simp only [D.ok, D.okL]; first | exact ⟨⟨by omega, by omega⟩, by omega, ⟨by omega, by omega⟩, trivial⟩ | exact ⟨⟨by omega, by omega⟩, by decide, ⟨by omega, by omega⟩, trivial⟩) (ht.ext x1) (hm.ext x1)).mono ?_
   rintro e w2 ⟨rfl, hx2⟩
   go_wp2_with fail
   go_ret
   exact ⟨by rw [HV.out]; rfl, x1.trans hx2⟩
 by_cases h3 : x.kind = 3
 · clear q1 q2 q3 q4 q5 q6 q7 q8 q9 n1 n2 hbd
   have HV : Hid (mkB (stepY (txE n) x) = tokB ⟨5, x.text, 0⟩) := LH (by unfold stepY; rw [if_neg (by omega), if_neg (by omega), if_pos h3]; simp only [tokB]; rw [if_neg (by decide), if_neg (by decide), if_pos True.intro]; rw [show 35 :: bs x.text = [35] ++ bs x.text from rfl, mkB_app, mkB_bs]; rfl)
   clear rn rk
   rw [h3]
   go_enter Tryz.func16, Tryz.ntmps16
   go_upto_region 1 with fail
   generalize hS : World.alloc w _ = W1
   have x1 : Ext w W1 := by rw [<- hS]; exact (XR _).alloc _
   have m0 : W1.cell? ⟨w.heap.size, 0, none⟩ = some (.int .i64 3) := by rw [<- hS]; simp <;> assumption
   have m1 : W1.cell? ⟨w.heap.size, 1, none⟩ = some (.string x.text) := by rw [<- hS]; simp <;> assumption
   have m2 : W1.cell? ⟨w.heap.size, 2, none⟩ = some (.int .i64 x.number) := by rw [<- hS]; simp <;> assumption
   have m3 : W1.cell? ⟨w.heap.size, 3, none⟩ = some (.slice an x.names.length cn) := by rw [<- hS]; simp <;> assumption
   have m4 : W1.cell? ⟨w.heap.size, 4, none⟩ = some (.slice ak x.kids.length ck) := by rw [<- hS]; simp <;> assumption
   clear hS
   go_wp2_with fail
   refine (impl_FormatToken_any ⟨5, x.text, 0⟩ [.int .i64 5, .string x.text, .int .i64 0] _ (MToken.shut (x := ⟨5, x.text, 0⟩)).rep (by rw [MToken.d_eq]; simp only [D.bulk, D.bulkL]; first | omega | (simp; omega)) (by rw [MToken.d_eq]; simp only [D.ok, D.okL]; first | exact ⟨⟨by omega, by omega⟩, by omega, ⟨by omega, by omega⟩, trivial⟩ | exact ⟨⟨by omega, by omega⟩, by decide, ⟨by omega, by omega⟩, trivial⟩) (ht.ext x1) (hm.ext x1)).mono ?_
   rintro e w2 ⟨rfl, hx2⟩
   go_wp2_with fail
   go_ret
   exact ⟨by rw [HV.out]; rfl, x1.trans hx2⟩
 by_cases h5 : x.kind = 5
 · obtain ⟨ao, ca, ba, oa, h1, hla, hma, pa, ha⟩ := Rep.slmap rk
   simp only [List.cons.injEq, and_true, Value.slice.injEq, true_and] at h1
   obtain ⟨rfl, rfl⟩ := h1
   have RK := LH rk
   have HA := LH ha
   clear rk ha
   unfold maxLen at hma
   have hk1 := (q5 h5).2
   have hlt : 0 < x.kids.length := by omega
   have hkd := ((okR_plain (by omega) (by omega)).1 hok).2
   have HKZ : Hid (okR n true x.kids[0]) := LH (okR_false.1 (hkd _ (List.getElem_mem hlt))).2
   have HBZ : x.kids[0].d.bulk <= 5000 := Nat.le_trans (MExpr.bulk_kid (List.getElem_mem hlt)) hb
   have K0 : Hid (kidE x.kids 0 = x.kids[0]) := LH (by unfold kidE; rw [List.getD, List.getElem?_eq_getElem hlt]; rfl)
   obtain rfl := pa hlt
   obtain ⟨ea, la, ca, ra⟩ := HA.out 0 x.kids[0] (by simp [hlt])
   obtain ⟨na0, na1, na2, na3, rfl⟩ := mexpr_shut ra
   have a0 := (XR w).cell (show w.cell? ⟨ba, oa + 0 * 5, none⟩ = some _ from ca 0 (by omega))
   have a1 := (XR w).cell (show w.cell? ⟨ba, oa + 0 * 5 + 1, none⟩ = some _ from ca 1 (by omega))
   have a2 := (XR w).cell (show w.cell? ⟨ba, oa + 0 * 5 + 2, none⟩ = some _ from ca 2 (by omega))
   have a3 := (XR w).cell (show w.cell? ⟨ba, oa + 0 * 5 + 3, none⟩ = some _ from ca 3 (by omega))
   have a4 := (XR w).cell (show w.cell? ⟨ba, oa + 0 * 5 + 4, none⟩ = some _ from ca 4 (by omega))
   have Ra := LH ra
   clear ca la ra
   simp only [Nat.zero_mul, Nat.add_zero] at a0 a1 a2 a3 a4
   have HJZ := tx_size HKZ.out HBZ
   have HV : Hid (mkB (stepY (txE n) x) = x.text ++ ⟨#[32, 58, 61, 32]⟩ ++ mkB (txE n x.kids[0])) := LH (by unfold stepY; rw [if_neg (by omega), if_neg (by omega), if_neg (by omega), if_pos h5, K0.out, mkB_app, mkB_app, mkB_bs]; rfl)
   have C1 : Hid (∀ W, Ext w W -> Calls Tryz.prog 16 #[.agg #[.int .i64 x.kids[0].kind, .string x.kids[0].text, .int .i64 x.kids[0].number, .slice na0 x.kids[0].names.length na1, .slice na2 x.kids[0].kids.length na3]] W fun e w' => e = .returned (.string (mkB (txE n x.kids[0]))) /\ Ext W w') := LH fun W hW => IH.out x.kids[0] _ W HKZ.out HBZ (hm.ext hW) (ht.ext hW) (Rep.ext hW Ra.out)
   clear q1 q2 q3 q4 q5 q6 q7 q8 q9 n1 n2 hbd hok rn
   clear K0 HKZ HBZ Ra hkd
   generalize mkB (txE n x.kids[0]) = J at *
   generalize x.kids[0] = M at *
   have zq := lt_of_cell a0
   rw [h5]
   go_enter Tryz.func16, Tryz.ntmps16
   go_upto_region 1 with fail
   generalize hS : World.alloc w _ = W1
   have x1 : Ext w W1 := by rw [<- hS]; exact (XR _).alloc _
   have m0 : W1.cell? ⟨w.heap.size, 0, none⟩ = some (.int .i64 5) := by rw [<- hS]; simp <;> assumption
   have m1 : W1.cell? ⟨w.heap.size, 1, none⟩ = some (.string x.text) := by rw [<- hS]; simp <;> assumption
   have m2 : W1.cell? ⟨w.heap.size, 2, none⟩ = some (.int .i64 x.number) := by rw [<- hS]; simp <;> assumption
   have m3 : W1.cell? ⟨w.heap.size, 3, none⟩ = some (.slice an x.names.length cn) := by rw [<- hS]; simp <;> assumption
   have m4 : W1.cell? ⟨w.heap.size, 4, none⟩ = some (.slice (some ⟨ba, oa, none⟩) (1) ck) := by rw [<- hS]; simp <;> assumption
   clear hS
   replace a0 := x1.cell a0
   replace a1 := x1.cell a1
   replace a2 := x1.cell a2
   replace a3 := x1.cell a3
   replace a4 := x1.cell a4
   go_wp2_with fail
   have gm1 := reg (XR _) m1
   have gm4 := reg (XR _) m4
   have ga0 := reg (XR _) a0
   have ga1 := reg (XR _) a1
   have ga2 := reg (XR _) a2
   have ga3 := reg (XR _) a3
   have ga4 := reg (XR _) a4
   refine wp_region_quiet_below (by kernel_rfl) (by kernel_rfl) ?_
   repeat (go_big_quiet_step ((go_at_call 16; exact Calls.regrown_of (C1.out _ (x1.trans (regx _ _))))))
   refine wpQuiet_nil ?_
   clear gm1 gm4 ga0 ga1 ga2 ga3 ga4
   intro _ hw'
   obtain ⟨pw, hw''⟩ := hw'
   subst hw''
   have xW2 := regx W1 pw
   generalize hWR : «Sort».grow (redrawn W1 pw.d) pw.os = W2 at *
   clear hWR
   replace m1 := xW2.cell m1
   replace m4 := xW2.cell m4
   replace a0 := xW2.cell a0
   replace a1 := xW2.cell a1
   replace a2 := xW2.cell a2
   replace a3 := xW2.cell a3
   replace a4 := xW2.cell a4
   go_wp2_with fail
   go_ret
   exact ⟨by rw [HV.out]; rfl, x1.trans xW2⟩
 by_cases h6 : x.kind = 6
 · obtain ⟨ao, ca, ba, oa, h1, hla, hma, pa, ha⟩ := Rep.slmap rk
   simp only [List.cons.injEq, and_true, Value.slice.injEq, true_and] at h1
   obtain ⟨rfl, rfl⟩ := h1
   have RK := LH rk
   have HA := LH ha
   clear rk ha
   unfold maxLen at hma
   obtain ⟨k0, l, he, hl, hk, hz⟩ := send_ok h6 hok
   have hk2 : x.kids = k0 :: l := by rw [he]
   have hlt : 0 < x.kids.length := by omega
   have h0 : x.kids[0] = k0 := by simp [hk2]
   have hbk : k0.d.bulk <= 5000 := Nat.le_trans (MExpr.bulk_kid (x := x) (by rw [hk2]; simp)) hb
   have hbl : wtL l <= 5000 := by
    have h3 := MExpr.bulk_eq x
    rw [hk2] at h3
    simp only [List.length_cons, List.map_cons, D.bulkL] at h3
    unfold wtL
    omega
   have hkl : x.kids.length = l.length + 1 := by rw [hk2]; rfl
   obtain rfl := pa hlt
   obtain ⟨ea, la, ca, ra⟩ := HA.out 0 x.kids[0] (by simp [hlt])
   rw [h0] at ra
   obtain ⟨na0, na1, na2, na3, rfl⟩ := mexpr_shut ra
   have a0 := (XR w).cell (show w.cell? ⟨ba, oa + 0 * 5, none⟩ = some _ from ca 0 (by omega))
   have a1 := (XR w).cell (show w.cell? ⟨ba, oa + 0 * 5 + 1, none⟩ = some _ from ca 1 (by omega))
   have a2 := (XR w).cell (show w.cell? ⟨ba, oa + 0 * 5 + 2, none⟩ = some _ from ca 2 (by omega))
   have a3 := (XR w).cell (show w.cell? ⟨ba, oa + 0 * 5 + 3, none⟩ = some _ from ca 3 (by omega))
   have a4 := (XR w).cell (show w.cell? ⟨ba, oa + 0 * 5 + 4, none⟩ = some _ from ca 4 (by omega))
   have Ra := LH ra
   clear ca la ra
   simp only [Nat.zero_mul, Nat.add_zero, h0] at a0 a1 a2 a3 a4
   have RL : Hid (Rep w (MExprs l) [.slice (if ck = 1 then some ⟨ba, oa, none⟩ else some ⟨ba, oa + 5, none⟩) l.length (ck - 1)]) := LH (by
    have h := RK.out
    rw [show (MExprs x.kids : D) = MExprs (k0 :: l) by rw [hk2]] at h
    have h := h.sl_tail
    rw [hkl] at h
    split
    · rename_i hc
      have : l = [] := List.length_eq_zero_iff.1 (by omega)
      subst this
      exact ⟨[], RepF.sl_iff.2 ⟨_, _, rfl, by simp, by unfold maxLen; omega, by simp, Or.inl ⟨rfl, rfl⟩⟩⟩
    · exact h)
   have HV : Hid (mkB (stepY (txE n) x) = mkB (recvY (txE n) k0 x.text) ++ ⟨#[32]⟩ ++ mkB (msgY (txE n) x.text l)) := LH (by
    unfold stepY sendY
    rw [if_neg (by omega), if_neg (by omega), if_neg (by omega), if_neg (by omega), if_pos h6, hk2, mkB_app, show (32 :: msgY (txE n) x.text (k0 :: l).tail : List UInt8) = [32] ++ msgY (txE n) x.text l from rfl, mkB_app, <- ByteArray.append_assoc]
    rfl)
   have C1 : Hid (∀ W, Ext w W -> Calls Tryz.prog 32 #[.agg #[.int .i64 k0.kind, .string k0.text, .int .i64 k0.number, .slice na0 k0.names.length na1, .slice na2 k0.kids.length na3], .string x.text] W fun e w' => e = .returned (.string (mkB (recvY (txE n) k0 x.text))) /\ Ext W w') := LH fun W hW => receiverText_any n IH k0 _ x.text W (by omega) (okR_false.1 hk).2 hbk (hm.ext hW) (ht.ext hW) (Rep.ext hW Ra.out)
   have C2 : Hid (∀ W, Ext w W -> Calls Tryz.prog 33 #[.string x.text, .slice (if ck = 1 then some ⟨ba, oa, none⟩ else some ⟨ba, oa + 5, none⟩) l.length (ck - 1)] W fun e w' => e = .returned (.string (mkB (msgY (txE n) x.text l))) /\ Ext W w') := LH fun W hW => messageText_any n IH x.text l _ W (by omega) (fun z hzl => hz z hzl) hl hbl (hm.ext hW) (ht.ext hW) (Rep.ext hW RL.out)
   have HS1 : (mkB (recvY (txE n) k0 x.text)).size <= 700000 := by
    have h1 := part_len (tx_len n k0 (okR_false.1 hk).2) (if bindM x.text = 3 then 3 else 2)
    rw [mkB_size]
    unfold recvY
    omega
   have HS2 : (mkB (msgY (txE n) x.text l)).size <= 700000 := by
    have h1 := msg_len (f := txE n) hl (fun z hz2 => tx_len n z (okR_false.1 (hz z hz2)).2)
    rw [mkB_size]
    omega
   clear q1 q2 q3 q4 q5 q6 q7 q8 q9 n1 n2 hbd hok rn
   clear he hk hz hk2 h0 hbk hbl hl
   generalize mkB (recvY (txE n) k0 x.text) = J1 at *
   generalize mkB (msgY (txE n) x.text l) = J2 at *
   have zq := lt_of_cell a0
   rw [h6]
   go_enter Tryz.func16, Tryz.ntmps16
   go_upto_region 1 with fail
   generalize hS : World.alloc w _ = W1
   have x1 : Ext w W1 := by rw [<- hS]; exact (XR _).alloc _
   have m0 : W1.cell? ⟨w.heap.size, 0, none⟩ = some (.int .i64 6) := by rw [<- hS]; simp <;> assumption
   have m1 : W1.cell? ⟨w.heap.size, 1, none⟩ = some (.string x.text) := by rw [<- hS]; simp <;> assumption
   have m2 : W1.cell? ⟨w.heap.size, 2, none⟩ = some (.int .i64 x.number) := by rw [<- hS]; simp <;> assumption
   have m3 : W1.cell? ⟨w.heap.size, 3, none⟩ = some (.slice an x.names.length cn) := by rw [<- hS]; simp <;> assumption
   have m4 : W1.cell? ⟨w.heap.size, 4, none⟩ = some (.slice (some ⟨ba, oa, none⟩) (l.length + 1) ck) := by rw [<- hS]; simp <;> assumption
   clear hS
   replace a0 := x1.cell a0
   replace a1 := x1.cell a1
   replace a2 := x1.cell a2
   replace a3 := x1.cell a3
   replace a4 := x1.cell a4
   go_wp2_with fail
   have gm1 := reg (XR _) m1
   have gm4 := reg (XR _) m4
   have ga0 := reg (XR _) a0
   have ga1 := reg (XR _) a1
   have ga2 := reg (XR _) a2
   have ga3 := reg (XR _) a3
   have ga4 := reg (XR _) a4
   refine wp_region_quiet_below (by kernel_rfl) (by kernel_rfl) ?_
   repeat (go_big_quiet_step ((first | (go_at_call 32; exact Calls.regrown_of (C1.out _ (x1.trans (regx _ _)))) | (go_at_call 33; exact Calls.regrown_of (C2.out _ (x1.trans (regx _ _)))))))
   refine wpQuiet_nil ?_
   clear gm1 gm4 ga0 ga1 ga2 ga3 ga4
   intro _ hw'
   obtain ⟨pw, hw''⟩ := hw'
   subst hw''
   have xW2 := regx W1 pw
   generalize hWR : «Sort».grow (redrawn W1 pw.d) pw.os = W2 at *
   clear hWR
   replace m1 := xW2.cell m1
   replace m4 := xW2.cell m4
   replace a0 := xW2.cell a0
   replace a1 := xW2.cell a1
   replace a2 := xW2.cell a2
   replace a3 := xW2.cell a3
   replace a4 := xW2.cell a4
   go_wp2_with fail
   all_goals (go_ret; exact ⟨by rw [HV.out]; rfl, x1.trans xW2⟩)
 by_cases h7 : x.kind = 7
 · obtain ⟨ao, ca, ba, oa, h1, hla, hma, pa, ha⟩ := Rep.slmap rk
   simp only [List.cons.injEq, and_true, Value.slice.injEq, true_and] at h1
   obtain ⟨rfl, rfl⟩ := h1
   have RK := LH rk
   have HA := LH ha
   clear rk ha
   unfold maxLen at hma
   obtain ⟨k0, m, l, he, hlne, hk, hms⟩ := casc_ok h7 hok
   have hk2 : x.kids = k0 :: m :: l := by rw [he]; rfl
   have hlt : 0 < x.kids.length := by rw [hk2]; simp
   have h0 : x.kids[0] = k0 := by simp [hk2]
   have hbk : k0.d.bulk <= 5000 := Nat.le_trans (MExpr.bulk_kid (x := x) (by rw [hk2]; simp)) hb
   obtain ⟨T, hT⟩ : ∃ T, m :: l = T := ⟨_, rfl⟩
   have hbl : wtL T <= 5000 := by
    have h3 := MExpr.bulk_eq x
    rw [hk2, hT] at h3
    simp only [List.length_cons, List.map_cons, D.bulkL] at h3
    unfold wtL
    omega
   have hkl : x.kids.length = T.length + 1 := by rw [hk2, hT]; rfl
   have htl : 2 <= T.length := by
    rw [<- hT]
    have := List.length_pos_iff.2 hlne
    simp; omega
   have hT0 : T[0] = m := by simp [<- hT]
   obtain rfl := pa hlt
   have hck : (ck = 1) = False := by simp; omega
   obtain ⟨ea, la, ca, ra⟩ := HA.out 0 x.kids[0] (by simp [hlt])
   rw [h0] at ra
   obtain ⟨na0, na1, na2, na3, rfl⟩ := mexpr_shut ra
   have a0 := (XR w).cell (show w.cell? ⟨ba, oa + 0 * 5, none⟩ = some _ from ca 0 (by omega))
   have a1 := (XR w).cell (show w.cell? ⟨ba, oa + 0 * 5 + 1, none⟩ = some _ from ca 1 (by omega))
   have a2 := (XR w).cell (show w.cell? ⟨ba, oa + 0 * 5 + 2, none⟩ = some _ from ca 2 (by omega))
   have a3 := (XR w).cell (show w.cell? ⟨ba, oa + 0 * 5 + 3, none⟩ = some _ from ca 3 (by omega))
   have a4 := (XR w).cell (show w.cell? ⟨ba, oa + 0 * 5 + 4, none⟩ = some _ from ca 4 (by omega))
   have Ra := LH ra
   clear ca la ra
   simp only [Nat.zero_mul, Nat.add_zero, h0] at a0 a1 a2 a3 a4
   have RL : Rep w (MExprs T) [.slice (some ⟨ba, oa + 5, none⟩) T.length (ck - 1)] := by
    have h := RK.out
    rw [show (MExprs x.kids : D) = MExprs (k0 :: T) by rw [hk2, hT]] at h
    have h := h.sl_tail
    rw [hkl] at h
    exact h
   obtain ⟨ao2, ca2, ba2, oa2, h2', hla2, hma2, pa2, ha2⟩ := Rep.slmap RL
   simp only [List.cons.injEq, and_true, Value.slice.injEq, true_and] at h2'
   obtain ⟨rfl, rfl⟩ := h2'
   have e2 := pa2 (by omega)
   simp only [Option.some.injEq, Addr.mk.injEq, and_true] at e2
   obtain ⟨rfl, rfl⟩ := e2
   have HB := LH ha2
   clear RL ha2 hma2 pa2
   obtain ⟨ed, ld, cd, rd⟩ := HB.out 0 T[0] (by simp [show 0 < T.length by omega])
   rw [hT0] at rd
   obtain ⟨nd0, nd1, nd2, nd3, rfl⟩ := mexpr_shut rd
   have d0 := (XR w).cell (show w.cell? ⟨ba, (oa + 5) + 0 * 5, none⟩ = some _ from cd 0 (by omega))
   have d1 := (XR w).cell (show w.cell? ⟨ba, (oa + 5) + 0 * 5 + 1, none⟩ = some _ from cd 1 (by omega))
   have d2 := (XR w).cell (show w.cell? ⟨ba, (oa + 5) + 0 * 5 + 2, none⟩ = some _ from cd 2 (by omega))
   have d3 := (XR w).cell (show w.cell? ⟨ba, (oa + 5) + 0 * 5 + 3, none⟩ = some _ from cd 3 (by omega))
   have d4 := (XR w).cell (show w.cell? ⟨ba, (oa + 5) + 0 * 5 + 4, none⟩ = some _ from cd 4 (by omega))
   have Rd := LH rd
   clear cd ld rd
   simp only [Nat.zero_mul, Nat.add_zero, hT0] at d0 d1 d2 d3 d4
   clear Rd d0 d2 d3 d4
   have HMS : Hid (∀ x, x ∈ T -> (x.kids.length : Int) = argsB x.text /\ ∀ z, z ∈ x.kids -> okR n false z) := LH fun y hy => (hms y (by rw [hT]; exact hy)).2
   have HJ : Hid ((jn [59, 32] (T.map fun m => msgY (txE n) m.text m.kids)).length <= 128 * wtL T) := LH (msgs_len (f := txE n) T fun m hm => ⟨(HMS.out m hm).1, fun z hz => tx_len n z (okR_false.1 ((HMS.out m hm).2 z hz)).2⟩)
   have HV : Hid (mkB (stepY (txE n) x) = mkB (recvY (txE n) k0 m.text) ++ ⟨#[32]⟩ ++ mkB (jn [59, 32] (T.map fun m => msgY (txE n) m.text m.kids))) := LH (by
    unfold stepY
    rw [if_neg (by omega), if_neg (by omega), if_neg (by omega), if_neg (by omega), if_neg (by omega), if_pos h7, hk2, hT, mkB_app, show kidE (k0 :: T) 0 = k0 from rfl, show kidE (k0 :: T) 1 = m by rw [<- hT]; rfl, show (32 :: jn [59, 32] ((k0 :: T).tail.map fun m => msgY (txE n) m.text m.kids) : List UInt8) = [32] ++ jn [59, 32] (T.map fun m => msgY (txE n) m.text m.kids) from rfl, mkB_app, <- ByteArray.append_assoc]
    rfl)
   have hmt : m.text.size <= 5000 := by
    have h1 := wtL_mem (l := T) (z := m) (by rw [<- hT]; simp)
    have h2 := MExpr.bulk_text m
    omega
   have C1 : Hid (∀ W, Ext w W -> Calls Tryz.prog 32 #[.agg #[.int .i64 k0.kind, .string k0.text, .int .i64 k0.number, .slice na0 k0.names.length na1, .slice na2 k0.kids.length na3], .string m.text] W fun e w' => e = .returned (.string (mkB (recvY (txE n) k0 m.text))) /\ Ext W w') := LH fun W hW => receiverText_any n IH k0 _ m.text W (by omega) (okR_false.1 hk).2 hbk (hm.ext hW) (ht.ext hW) (Rep.ext hW Ra.out)
   have C2 : Hid (∀ (z : MExpr) (cz : List Value) (vk : Value) W, z ∈ T -> Ext w W -> Rep w (MExprs z.kids) [vk] -> Calls Tryz.prog 33 #[.string z.text, vk] W fun e w' => e = .returned (.string (mkB (msgY (txE n) z.text z.kids))) /\ Ext W w') := LH fun z cz vk W hz hW rz => by
    have h1 := wtL_mem hz
    have h2 := MExpr.bulk_text z
    have h3 := MExpr.bulk_eq z
    exact messageText_any n IH z.text z.kids vk W (by omega) (HMS.out z hz).2 (HMS.out z hz).1 (by unfold wtL; omega) (hm.ext hW) (ht.ext hW) (Rep.ext hW rz)
   have HS1 : (mkB (recvY (txE n) k0 m.text)).size <= 700000 := by
    have h1 := part_len (tx_len n k0 (okR_false.1 hk).2) (if bindM m.text = 3 then 3 else 2)
    rw [mkB_size]
    unfold recvY
    omega
   have HS2 : (mkB (jn [59, 32] (T.map fun m => msgY (txE n) m.text m.kids))).size <= 700000 := by
    rw [mkB_size]
    have := HJ.out
    omega
   have htb : T.length <= 5000 := by unfold wtL at hbl; omega
   have HG : Hid (∀ z, z ∈ T -> (mkB (msgY (txE n) z.text z.kids)).size <= 700000) := LH fun z hz => by
    have h1 := msg_len (f := txE n) (HMS.out z hz).1 (fun y hy => tx_len n y (okR_false.1 ((HMS.out z hz).2 y hy)).2)
    have h2 := wtL_mem hz
    have h3 := MExpr.bulk_text z
    have h4 := MExpr.bulk_eq z
    rw [mkB_size]
    unfold wtL at h1
    omega
   clear q1 q2 q3 q4 q5 q6 q7 q8 q9 n1 n2 hbd hok rn
   clear he hlne hk hms hk2 h0 hbk hT hT0 Ra
   generalize mkB (recvY (txE n) k0 m.text) = J1 at *
   have zq := lt_of_cell a0
   have zqd := lt_of_cell d1
   have z0 : (0 : Int) <= T.length := by omega
   rw [h7]
   go_enter Tryz.func16, Tryz.ntmps16
   go_upto_region 1 with fail
   generalize hS : World.alloc w _ = W1
   have x1 : Ext w W1 := by rw [<- hS]; exact (XR _).alloc _
   have m0 : W1.cell? ⟨w.heap.size, 0, none⟩ = some (.int .i64 7) := by rw [<- hS]; simp <;> assumption
   have m1 : W1.cell? ⟨w.heap.size, 1, none⟩ = some (.string x.text) := by rw [<- hS]; simp <;> assumption
   have m2 : W1.cell? ⟨w.heap.size, 2, none⟩ = some (.int .i64 x.number) := by rw [<- hS]; simp <;> assumption
   have m3 : W1.cell? ⟨w.heap.size, 3, none⟩ = some (.slice an x.names.length cn) := by rw [<- hS]; simp <;> assumption
   have m4 : W1.cell? ⟨w.heap.size, 4, none⟩ = some (.slice (some ⟨ba, oa, none⟩) (T.length + 1) ck) := by rw [<- hS]; simp <;> assumption
   clear hS
   replace a0 := x1.cell a0
   replace a1 := x1.cell a1
   replace a2 := x1.cell a2
   replace a3 := x1.cell a3
   replace a4 := x1.cell a4
   replace d1 := x1.cell d1
   have zW := lt_of_cell m4
   replace zq := lt_of_cell a0
   replace zqd := lt_of_cell d1
   have hA0 : AccT W1.heap.size (W1.alloc (.cells #[] 9)) (.slice (some ⟨W1.heap.size, 0, none⟩) 0 0) ((T.take 0).map fun z => mkB (msgY (txE n) z.text z.kids)) := Acc.empty _ _ (Nat.le_refl _)
   have hy : Ext W1 (W1.alloc (.cells #[] 9)) := (XR W1).alloc _
   go_wp2_with fail
   go_loopw [3, 72] (fun pv iv wr => ∃ i : Nat, i <= T.length /\ iv = .int .i64 i /\ AccT W1.heap.size wr pv ((T.take i).map fun z => mkB (msgY (txE n) z.text z.kids)) /\ Ext W1 wr) (fun _ iv _ => T.length - (intOf iv).toNat)
   case atStart => exact ⟨0, Nat.zero_le _, rfl, hA0, hy⟩
   case round =>
    obtain ⟨i, hi, rfl, hacc, hx⟩ := hrel
    clear hA0 hy
    have hxw := x1.trans hx
    by_cases hlt : i < T.length
    · clear m0 m1 m2 m3 m4 a0 a1 a2 a3 a4 d1 zq zqd zW C1 HV HS1 HS2 HJ
      obtain ⟨eb, lb, cb, rb⟩ := HB.out i T[i] (by simp [hlt])
      obtain ⟨nb0, nb1, nb2, nb3, rfl⟩ := mexpr_shut rb
      have b0 := hxw.cell (show w.cell? ⟨ba, (oa + 5) + i * 5, none⟩ = some _ from cb 0 (by omega))
      have b1 := hxw.cell (show w.cell? ⟨ba, (oa + 5) + i * 5 + 1, none⟩ = some _ from cb 1 (by omega))
      have b2 := hxw.cell (show w.cell? ⟨ba, (oa + 5) + i * 5 + 2, none⟩ = some _ from cb 2 (by omega))
      have b3 := hxw.cell (show w.cell? ⟨ba, (oa + 5) + i * 5 + 3, none⟩ = some _ from cb 3 (by omega))
      have b4 := hxw.cell (show w.cell? ⟨ba, (oa + 5) + i * 5 + 4, none⟩ = some _ from cb 4 (by omega))
      have Rb := LH rb
      clear cb lb rb
      have HRB : Hid (Rep w (MExprs T[i].kids) [.slice nb2 T[i].kids.length nb3]) := LH (by
       obtain ⟨_, _, _, _, h1, -, h2⟩ := MExpr.op_en Rb.out
       simp only [List.cons.injEq, and_true, true_and, Value.slice.injEq] at h1
       obtain ⟨-, ⟨rfl, rfl⟩⟩ := h1
       exact h2)
      clear Rb
      have zq := lt_of_cell b0
      have HST : Hid (((T.take i).map fun z => mkB (msgY (txE n) z.text z.kids)) ++ [mkB (msgY (txE n) T[i].text T[i].kids)] = (T.take (i + 1)).map fun z => mkB (msgY (txE n) z.text z.kids)) := LH (by rw [List.take_add_one, List.getElem?_eq_getElem hlt, List.map_append]; rfl)
      have hlen : ((T.take i).map fun z => mkB (msgY (txE n) z.text z.kids)).length = i := by simp; omega
      have hil : (i : Int) < T.length := by omega
      have HJZ := HG.out _ (List.getElem_mem hlt)
      have C3 : Hid (∀ W, Ext wr W -> Calls Tryz.prog 33 #[.string T[i].text, .slice nb2 T[i].kids.length nb3] W fun e w' => e = .returned (.string (mkB (msgY (txE n) T[i].text T[i].kids))) /\ Ext W w') := LH fun W hW => C2.out _ [] _ W (List.getElem_mem hlt) (hxw.trans hW) HRB.out
      clear HRB
      generalize mkB (msgY (txE n) T[i].text T[i].kids) = J at *
      generalize T[i] = M at *
      generalize (T.take i).map (fun z => mkB (msgY (txE n) z.text z.kids)) = P at *
      go_upto_region 19 with fail
      generalize hS : World.alloc wr _ = V1
      have v1 : Ext wr V1 := by rw [<- hS]; exact (XR _).alloc _
      have p0 : V1.cell? ⟨wr.heap.size, 0, none⟩ = some (.int .i64 M.kind) := by rw [<- hS]; simp <;> assumption
      have p1 : V1.cell? ⟨wr.heap.size, 1, none⟩ = some (.string M.text) := by rw [<- hS]; simp <;> assumption
      have p2 : V1.cell? ⟨wr.heap.size, 2, none⟩ = some (.int .i64 M.number) := by rw [<- hS]; simp <;> assumption
      have p3 : V1.cell? ⟨wr.heap.size, 3, none⟩ = some (.slice nb0 M.names.length nb1) := by rw [<- hS]; simp <;> assumption
      have p4 : V1.cell? ⟨wr.heap.size, 4, none⟩ = some (.slice nb2 M.kids.length nb3) := by rw [<- hS]; simp <;> assumption
      clear hS
      go_wp2_with fail
      refine (C3.out _ v1).mono ?_
      rintro e w5 ⟨rfl, hx5⟩
      have hac5 := (hacc.ext v1).ext hx5
      have hx45 := (hx.trans v1).trans hx5
      have hz5 := hx45.size
      go_wp2_with (at_builtin; refine wpList_append_strs rfl _ _ rfl W1.heap.size _ P rfl (hac5.ext ((XR _).alloc _)) [J] _ _ _ rfl (rep_one _ _) (by first | omega | (simp; omega)) (by first | omega | (simp; omega)) ?_)
      intro ao3 cap3 w6 ac hg
      have hx6 : Ext W1 w6 := AccT.below (hac5.ext ((XR _).alloc (.cells #[.string J] 9))) (hx45.alloc _) hg (by simp; omega)
      go_wp2_with fail
      go_roundw
      case rel => exact ⟨i + 1, by omega, by go_num, by rw [<- HST.out]; exact ac, hx6⟩
      case measure => simp [intOf]; omega
    · obtain rfl : i = T.length := by omega
      rw [List.take_length] at hacc
      obtain ⟨ao5, cap5, gp5, rfl, h5, -⟩ := hacc.rep
      rw [List.length_map] at h5 ⊢
      have H5 := LH h5.rep
      clear h5 hacc
      have HB : Hid ((T.map fun z => mkB (msgY (txE n) z.text z.kids)) = (T.map fun z => msgY (txE n) z.text z.kids).map mkB) := LH (by rw [List.map_map]; rfl)
      have HE : Hid (joinB (T.map fun z => mkB (msgY (txE n) z.text z.kids)) ⟨#[59, 32]⟩ = mkB (jn [59, 32] (T.map fun z => msgY (txE n) z.text z.kids))) := LH (by
       have h := joinB_jn (sep := [59, 32]) (l := T.map fun z => msgY (txE n) z.text z.kids) (by have := HJ.out; omega)
       rw [<- HB.out] at h
       exact h)
      have HLN : Hid (Lib.lens ((T.map fun z => mkB (msgY (txE n) z.text z.kids)).map (·.data.toList)) <= 1048576) := LH (by
       have h := jn_lens (sep := [59, 32]) (T.map fun z => msgY (txE n) z.text z.kids)
       rw [HB.out, bsmk]
       have := HJ.out
       omega)
      have HJP : Hid ((jpart (T.map fun z => mkB (msgY (txE n) z.text z.kids)) ⟨#[59, 32]⟩ (T.map fun z => mkB (msgY (txE n) z.text z.kids)).length).length <= 1048576) := LH (by
       have h := jpart_jn [59, 32] (T.map fun z => msgY (txE n) z.text z.kids)
       rw [<- HB.out] at h
       have := HJ.out
       rw [show (⟨#[59, 32]⟩ : ByteArray) = mkB [59, 32] from rfl, h]
       omega)
      have CJ : Hid (∀ W, Ext wr W -> Calls Tryz.prog 34 #[.slice ao5 T.length cap5, .string ⟨#[59, 32]⟩] W fun e w' => e = .returned (.string (mkB (jn [59, 32] (T.map fun z => msgY (txE n) z.text z.kids)))) /\ Ext W w') := LH fun W hW => by
       have h := strJoin_any (T.map fun z => mkB (msgY (txE n) z.text z.kids)) ⟨#[59, 32]⟩ (.slice ao5 T.length cap5) W (Rep.ext hW H5.out) (by decide) (by simp; omega) HLN.out HJP.out
       rw [HE.out] at h
       exact h
      clear HB HE HLN HJP H5 HJ
      generalize mkB (jn [59, 32] (T.map fun z => msgY (txE n) z.text z.kids)) = J2 at *
      replace m4 := hx.cell m4
      replace a0 := hx.cell a0
      replace a1 := hx.cell a1
      replace a2 := hx.cell a2
      replace a3 := hx.cell a3
      replace a4 := hx.cell a4
      replace d1 := hx.cell d1
      go_wp2_with fail
      have gm4 := reg (XR _) m4
      have ga0 := reg (XR _) a0
      have ga1 := reg (XR _) a1
      have ga2 := reg (XR _) a2
      have ga3 := reg (XR _) a3
      have ga4 := reg (XR _) a4
      have gd1 := reg (XR _) d1
      refine wp_region_quiet_below (by kernel_rfl) (by kernel_rfl) ?_
      repeat (go_big_quiet_step ((first | (go_at_call 32; exact Calls.regrown_of (C1.out _ (hxw.trans (regx _ _)))) | (go_at_call 34; exact Calls.regrown_of (CJ.out _ (regx _ _))))))
      refine wpQuiet_nil ?_
      clear gm4 ga0 ga1 ga2 ga3 ga4 gd1
      intro _ hw'
      obtain ⟨pw, hw''⟩ := hw'
      subst hw''
      have xW2 := regx wr pw
      generalize hWR : «Sort».grow (redrawn wr pw.d) pw.os = W2 at *
      clear hWR
      replace m4 := xW2.cell m4
      replace a0 := xW2.cell a0
      replace a1 := xW2.cell a1
      replace a2 := xW2.cell a2
      replace a3 := xW2.cell a3
      replace a4 := xW2.cell a4
      replace d1 := xW2.cell d1
      go_wp2_with fail
      all_goals (go_ret; exact ⟨by rw [HV.out]; rfl, hxw.trans xW2⟩)
 by_cases h8 : x.kind = 8
 · obtain ⟨-, b1, b2⟩ := (okR_block h8).1 hok
   have hz : ∀ z, z ∈ x.kids -> okR n true z := fun z hzl => by
    obtain ⟨i, hi, rfl⟩ := List.mem_iff_getElem.1 hzl
    by_cases hl : i + 1 < x.kids.length
    · exact (okR_false.1 (b1 _ (List.mem_iff_getElem.2 ⟨i, by rw [List.length_take]; omega, by simp⟩))).2
    · have : i = x.kids.length - 1 := by omega
      subst this
      exact b2 (by omega)
   obtain ⟨-, -, hn0, hn1⟩ := q8 h8
   obtain ⟨k, hk⟩ : ∃ k : Nat, x.number = k := ⟨x.number.toNat, by omega⟩
   have hkn : k <= x.names.length := by omega
   have hbl : wtL x.kids <= 5000 := by
    have h3 := MExpr.bulk_eq x
    unfold wtL
    omega
   have hnl : nmL x.names <= 5000 := by
    have h3 := MExpr.bulk_eq x
    unfold nmL
    omega
   have hnt := nmL_take k x.names
   have hsp := nmL_split k x.names
   have HV : Hid (mkB (stepY (txE n) x) = mkB ([91] ++ parsY (x.names.take k) ++ if k = 0 then [] else [124, 32]) ++ mkB (varsY (x.names.drop k)) ++ mkB (jn [46, 32] (x.kids.map (txE n))) ++ ⟨#[93]⟩) := LH (by
    unfold stepY blockY
    rw [if_neg (by omega), if_neg (by omega), if_neg (by omega), if_neg (by omega), if_neg (by omega), if_neg (by omega), if_pos h8, hk, show ((k : Int).toNat) = k by omega]
    have e : (if (k : Int) = 0 then ([] : List UInt8) else [124] ++ [32]) = if k = 0 then [] else [124, 32] := by
     by_cases h0 : k = 0
     · rw [if_pos h0, if_pos (by omega)]
     · rw [if_neg h0, if_neg (by omega)]; rfl
    rw [e, show (⟨#[93]⟩ : ByteArray) = mkB [93] from rfl, <- mkB_app, <- mkB_app, <- mkB_app]
    simp only [List.append_assoc])
   have HS1 : (mkB (varsY (x.names.drop k))).size <= 700000 := by
    have := vars_len (x.names.drop k)
    rw [mkB_size]
    omega
   have HS2 : (mkB (jn [46, 32] (x.kids.map (txE n)))).size <= 700000 := by
    have := sep_len (f := txE n) x.kids (fun z hzl => tx_len n z (hz z hzl))
    rw [mkB_size]
    omega
   have RN := LH rn
   have C2 : Hid (∀ W, Ext w W -> Calls Tryz.prog 36 #[.slice ak x.kids.length ck] W fun e w' => e = .returned (.string (mkB (jn [46, 32] (x.kids.map (txE n))))) /\ Ext W w') := LH fun W hW => statementsText_any n IH x.kids _ W (LH hz) hbl (hm.ext hW) (ht.ext hW) (Rep.ext hW rk)
   have CV : Hid (∀ (vn : Value) W, Ext w W -> Rep w (strs (x.names.drop k)) [vn] -> Calls Tryz.prog 35 #[vn] W fun e w' => e = .returned (.string (mkB (varsY (x.names.drop k)))) /\ Ext W w') := LH fun vn W hW rv => variablesText_any _ vn W (by omega) (Rep.ext hW rv)
   clear rk b1 b2 hz
   generalize mkB (jn [46, 32] (x.kids.map (txE n))) = J2 at *
   generalize mkB (varsY (x.names.drop k)) = J1 at *
   obtain ⟨ao, ca, bn, on, h1', hla, hma, pa, ha⟩ := Rep.strs rn
   obtain ⟨gn, rn⟩ := rn
   obtain ⟨ao', ca', e1, -, -, hnone, -⟩ := RepF.sl_iff.1 rn
   simp only [List.cons.injEq, and_true, Value.slice.injEq, true_and, List.length_map] at h1' e1
   obtain ⟨rfl, rfl⟩ := h1'
   obtain ⟨rfl, rfl⟩ := e1
   have HA := LH ha
   clear rn ha
   unfold maxLen at hma
   clear q1 q2 q3 q4 q5 q6 q7 q8 q9 n1 n2 hbd hok
   by_cases h0 : k = 0
   rotate_left
   · have hnpos : 0 < x.names.length := by omega
     obtain rfl := pa hnpos
     have RD : Hid (Rep w (strs (x.names.drop k)) [.slice (if cn = k then some ⟨bn, on, none⟩ else some ⟨bn, on + k, none⟩) (x.names.length - k) (cn - k)]) := LH (by
      have h := Rep.sl_drop1 k (by rw [List.length_map]; exact hkn) (by rw [List.length_map]) RN.out
      rw [<- List.map_drop] at h
      split
      · rename_i hc
        have e0 : x.names.drop k = [] := List.drop_eq_nil_of_le (by omega)
        rw [e0]
        rw [show x.names.length - k = 0 by omega]
        exact ⟨[], RepF.sl_iff.2 ⟨_, _, rfl, by simp, by unfold maxLen; omega, by simp, Or.inl ⟨rfl, rfl⟩⟩⟩
      · exact h)
     have C1 := LH (fun W hW => CV.out _ W hW RD.out)
     clear CV RD RN hn0 hn1 pa hnone
     have hk0 : (0 : Int) < k := by omega
     rw [hk]
     rw [h8]
     go_enter Tryz.func16, Tryz.ntmps16
     go_upto_region 1 with fail
     generalize hS : World.alloc w _ = W1
     have x1 : Ext w W1 := by rw [<- hS]; exact (XR _).alloc _
     have m0 : W1.cell? ⟨w.heap.size, 0, none⟩ = some (.int .i64 8) := by rw [<- hS]; simp <;> assumption
     have m1 : W1.cell? ⟨w.heap.size, 1, none⟩ = some (.string x.text) := by rw [<- hS]; simp <;> assumption
     have m2 : W1.cell? ⟨w.heap.size, 2, none⟩ = some (.int .i64 k) := by rw [<- hS]; simp <;> assumption
     have m3 : W1.cell? ⟨w.heap.size, 3, none⟩ = some (.slice (some ⟨bn, on, none⟩) x.names.length cn) := by rw [<- hS]; simp <;> assumption
     have m4 : W1.cell? ⟨w.heap.size, 4, none⟩ = some (.slice ak x.kids.length ck) := by rw [<- hS]; simp <;> assumption
     clear hS
     have zW := lt_of_cell m4
     go_wp2_with fail
     go_loop [6, 107] (fun sv iv => ∃ i : Nat, i <= k /\ iv = .int .i64 i /\ sv = .string (mkB ([91] ++ parsY (x.names.take i)))) (fun _ i => k - (intOf i).toNat)
     case atStart => exact ⟨0, Nat.zero_le _, rfl, rfl⟩
     case round =>
      obtain ⟨i, hi, rfl, rfl⟩ := hrel
      have HZI : (mkB ([91] ++ parsY (x.names.take i))).size <= 20000 := by
       have h1 := pars_len (x.names.take i)
       have h2 := nmL_take i x.names
       rw [mkB_size, List.length_append]
       simp only [List.length_cons, List.length_nil]
       omega
      by_cases hlt : i < k
      · have hln : i < x.names.length := by omega
        have q0 := x1.cell (HA.out i x.names[i] (by simp [hln]))
        have hzn : x.names[i].size <= 5000 := Nat.le_trans (MExpr.bulk_name (List.getElem_mem hln)) hb
        have HST : Hid (mkB ([91] ++ parsY (x.names.take i)) ++ (⟨#[58]⟩ ++ x.names[i] ++ ⟨#[32]⟩) = mkB ([91] ++ parsY (x.names.take (i + 1)))) := LH (by
         rw [List.take_add_one, List.getElem?_eq_getElem hln, Option.toList_some, parsY_snoc, <- List.append_assoc, mkB_app ([91] ++ parsY (x.names.take i))]
         congr 1)
        have zq := lt_of_cell q0
        generalize x.names[i] = s at *
        generalize mkB ([91] ++ parsY (x.names.take i)) = J at *
        have hik : (i : Int) < k := by omega
        go_wp2_with fail
        go_round
        case rel => exact ⟨i + 1, by omega, by go_num, by rw [<- HST.out]⟩
        case measure => simp [intOf]; omega
      · obtain rfl : i = k := by omega
        have HV2 : Hid (mkB (stepY (txE n) x) = mkB ([91] ++ parsY (x.names.take i)) ++ ⟨#[124, 32]⟩ ++ J1 ++ J2 ++ ⟨#[93]⟩) := LH (by rw [HV.out, if_neg h0, mkB_app]; rfl)
        clear HV
        generalize mkB ([91] ++ parsY (x.names.take i)) = J at *
        go_wp2_with fail
        have gm2 := reg (XR _) m2
        have gm3 := reg (XR _) m3
        have gm4 := reg (XR _) m4
        refine wp_region_quiet_below (by kernel_rfl) (by kernel_rfl) ?_
        repeat (go_big_quiet_step ((first | (go_at_call 35; exact Calls.regrown_of (C1.out _ (x1.trans (regx _ _)))) | (go_at_call 36; exact Calls.regrown_of (C2.out _ (x1.trans (regx _ _)))))))
        refine wpQuiet_nil ?_
        clear gm2 gm3 gm4
        intro _ hw'
        obtain ⟨pw, hw''⟩ := hw'
        subst hw''
        have xW2 := regx W1 pw
        generalize hWR : «Sort».grow (redrawn W1 pw.d) pw.os = W2 at *
        clear hWR
        replace m2 := xW2.cell m2
        replace m3 := xW2.cell m3
        replace m4 := xW2.cell m4
        go_wp2_with fail
        all_goals (go_ret; exact ⟨by rw [HV2.out]; rfl, x1.trans xW2⟩)
   obtain rfl := h0
   rw [show (x.number = ((0 : Nat) : Int)) = (x.number = 0) from rfl] at hk
   have HV2 : Hid (mkB (stepY (txE n) x) = ⟨#[91]⟩ ++ J1 ++ J2 ++ ⟨#[93]⟩) := LH (by
    have e0 : mkB ([91] ++ parsY (List.take 0 x.names) ++ if (0 : Nat) = 0 then [] else [124, 32]) = ⟨#[91]⟩ := by rw [List.take_zero]; rfl
    rw [HV.out, e0])
   clear HV
   rw [hk]
   rw [List.drop_zero] at CV
   have C1 := LH (fun W hW => CV.out _ W hW RN.out)
   clear CV RN hn0 hn1 HA
   rcases an with - | ⟨pb, po, pi⟩
   · obtain rfl := hnone rfl
     have hl0 : x.names.length = 0 := by omega
     rw [hl0] at C1
     rw [hl0]
     rw [h8]
     go_enter Tryz.func16, Tryz.ntmps16
     go_upto_region 1 with fail
     generalize hS : World.alloc w _ = W1
     have x1 : Ext w W1 := by rw [<- hS]; exact (XR _).alloc _
     have m0 : W1.cell? ⟨w.heap.size, 0, none⟩ = some (.int .i64 8) := by rw [<- hS]; simp <;> assumption
     have m1 : W1.cell? ⟨w.heap.size, 1, none⟩ = some (.string x.text) := by rw [<- hS]; simp <;> assumption
     have m2 : W1.cell? ⟨w.heap.size, 2, none⟩ = some (.int .i64 0) := by rw [<- hS]; simp <;> assumption
     have m3 : W1.cell? ⟨w.heap.size, 3, none⟩ = some (.slice none 0 0) := by rw [<- hS]; simp <;> assumption
     have m4 : W1.cell? ⟨w.heap.size, 4, none⟩ = some (.slice ak x.kids.length ck) := by rw [<- hS]; simp <;> assumption
     clear hS
     have zW := lt_of_cell m4
     go_wp2_with fail
     go_loop [6, 107] (fun sv i => sv = .string ⟨#[91]⟩ /\ i = .int .i64 0) (fun _ i => 0)
     case atStart => exact ⟨rfl, rfl⟩
     case round =>
      obtain ⟨rfl, rfl⟩ := hrel
      go_wp2_with fail
      have gm2 := reg (XR _) m2
      have gm3 := reg (XR _) m3
      have gm4 := reg (XR _) m4
      refine wp_region_quiet_below (by kernel_rfl) (by kernel_rfl) ?_
      repeat (go_big_quiet_step ((first | (go_at_call 35; exact Calls.regrown_of (C1.out _ (x1.trans (regx _ _)))) | (go_at_call 36; exact Calls.regrown_of (C2.out _ (x1.trans (regx _ _)))))))
      refine wpQuiet_nil ?_
      clear gm2 gm3 gm4
      intro _ hw'
      obtain ⟨pw, hw''⟩ := hw'
      subst hw''
      have xW2 := regx W1 pw
      generalize hWR : «Sort».grow (redrawn W1 pw.d) pw.os = W2 at *
      clear hWR
      replace m2 := xW2.cell m2
      replace m3 := xW2.cell m3
      replace m4 := xW2.cell m4
      go_wp2_with fail
      all_goals (go_ret; exact ⟨by rw [HV2.out]; rfl, x1.trans xW2⟩)
   rw [h8]
   go_enter Tryz.func16, Tryz.ntmps16
   go_upto_region 1 with fail
   generalize hS : World.alloc w _ = W1
   have x1 : Ext w W1 := by rw [<- hS]; exact (XR _).alloc _
   have m0 : W1.cell? ⟨w.heap.size, 0, none⟩ = some (.int .i64 8) := by rw [<- hS]; simp <;> assumption
   have m1 : W1.cell? ⟨w.heap.size, 1, none⟩ = some (.string x.text) := by rw [<- hS]; simp <;> assumption
   have m2 : W1.cell? ⟨w.heap.size, 2, none⟩ = some (.int .i64 0) := by rw [<- hS]; simp <;> assumption
   have m3 : W1.cell? ⟨w.heap.size, 3, none⟩ = some (.slice (some ⟨pb, po, pi⟩) x.names.length cn) := by rw [<- hS]; simp <;> assumption
   have m4 : W1.cell? ⟨w.heap.size, 4, none⟩ = some (.slice ak x.kids.length ck) := by rw [<- hS]; simp <;> assumption
   clear hS
   have zW := lt_of_cell m4
   go_wp2_with fail
   go_loop [6, 107] (fun sv i => sv = .string ⟨#[91]⟩ /\ i = .int .i64 0) (fun _ i => 0)
   case atStart => exact ⟨rfl, rfl⟩
   case round =>
    obtain ⟨rfl, rfl⟩ := hrel
    go_wp2_with fail
    have gm2 := reg (XR _) m2
    have gm3 := reg (XR _) m3
    have gm4 := reg (XR _) m4
    refine wp_region_quiet_below (by kernel_rfl) (by kernel_rfl) ?_
    repeat (go_big_quiet_step ((first | (go_at_call 35; exact Calls.regrown_of (C1.out _ (x1.trans (regx _ _)))) | (go_at_call 36; exact Calls.regrown_of (C2.out _ (x1.trans (regx _ _)))))))
    refine wpQuiet_nil ?_
    clear gm2 gm3 gm4
    intro _ hw'
    obtain ⟨pw, hw''⟩ := hw'
    subst hw''
    have xW2 := regx W1 pw
    generalize hWR : «Sort».grow (redrawn W1 pw.d) pw.os = W2 at *
    clear hWR
    replace m2 := xW2.cell m2
    replace m3 := xW2.cell m3
    replace m4 := xW2.cell m4
    go_wp2_with fail
    all_goals (go_ret; exact ⟨by rw [HV2.out]; rfl, x1.trans xW2⟩)
 by_cases h9 : x.kind = 9
 · obtain ⟨ao, ca, ba, oa, h1, hla, hma, pa, ha⟩ := Rep.slmap rk
   simp only [List.cons.injEq, and_true, Value.slice.injEq, true_and] at h1
   obtain ⟨rfl, rfl⟩ := h1
   have RK := LH rk
   have HA := LH ha
   clear rk ha
   unfold maxLen at hma
   have hk1 := (q9 h9).2
   have hlt : 0 < x.kids.length := by omega
   have hkd := ((okR_plain (by omega) (by omega)).1 hok).2
   have HKZ : Hid (okR n true x.kids[0]) := LH (okR_false.1 (hkd _ (List.getElem_mem hlt))).2
   have HBZ : x.kids[0].d.bulk <= 5000 := Nat.le_trans (MExpr.bulk_kid (List.getElem_mem hlt)) hb
   have K0 : Hid (kidE x.kids 0 = x.kids[0]) := LH (by unfold kidE; rw [List.getD, List.getElem?_eq_getElem hlt]; rfl)
   obtain rfl := pa hlt
   obtain ⟨ea, la, ca, ra⟩ := HA.out 0 x.kids[0] (by simp [hlt])
   obtain ⟨na0, na1, na2, na3, rfl⟩ := mexpr_shut ra
   have a0 := (XR w).cell (show w.cell? ⟨ba, oa + 0 * 5, none⟩ = some _ from ca 0 (by omega))
   have a1 := (XR w).cell (show w.cell? ⟨ba, oa + 0 * 5 + 1, none⟩ = some _ from ca 1 (by omega))
   have a2 := (XR w).cell (show w.cell? ⟨ba, oa + 0 * 5 + 2, none⟩ = some _ from ca 2 (by omega))
   have a3 := (XR w).cell (show w.cell? ⟨ba, oa + 0 * 5 + 3, none⟩ = some _ from ca 3 (by omega))
   have a4 := (XR w).cell (show w.cell? ⟨ba, oa + 0 * 5 + 4, none⟩ = some _ from ca 4 (by omega))
   have Ra := LH ra
   clear ca la ra
   simp only [Nat.zero_mul, Nat.add_zero] at a0 a1 a2 a3 a4
   have HJZ := tx_size HKZ.out HBZ
   have HV : Hid (mkB (stepY (txE n) x) = ⟨#[94, 32]⟩ ++ mkB (txE n x.kids[0])) := LH (by unfold stepY; rw [if_neg (by omega), if_neg (by omega), if_neg (by omega), if_neg (by omega), if_neg (by omega), if_neg (by omega), if_neg (by omega), if_pos h9, K0.out, <- List.append_assoc, mkB_app]; rfl)
   have C1 : Hid (∀ W, Ext w W -> Calls Tryz.prog 16 #[.agg #[.int .i64 x.kids[0].kind, .string x.kids[0].text, .int .i64 x.kids[0].number, .slice na0 x.kids[0].names.length na1, .slice na2 x.kids[0].kids.length na3]] W fun e w' => e = .returned (.string (mkB (txE n x.kids[0]))) /\ Ext W w') := LH fun W hW => IH.out x.kids[0] _ W HKZ.out HBZ (hm.ext hW) (ht.ext hW) (Rep.ext hW Ra.out)
   clear q1 q2 q3 q4 q5 q6 q7 q8 q9 n1 n2 hbd hok rn
   clear K0 HKZ HBZ Ra hkd
   generalize mkB (txE n x.kids[0]) = J at *
   generalize x.kids[0] = M at *
   have zq := lt_of_cell a0
   rw [h9]
   go_enter Tryz.func16, Tryz.ntmps16
   go_upto_region 1 with fail
   generalize hS : World.alloc w _ = W1
   have x1 : Ext w W1 := by rw [<- hS]; exact (XR _).alloc _
   have m0 : W1.cell? ⟨w.heap.size, 0, none⟩ = some (.int .i64 9) := by rw [<- hS]; simp <;> assumption
   have m1 : W1.cell? ⟨w.heap.size, 1, none⟩ = some (.string x.text) := by rw [<- hS]; simp <;> assumption
   have m2 : W1.cell? ⟨w.heap.size, 2, none⟩ = some (.int .i64 x.number) := by rw [<- hS]; simp <;> assumption
   have m3 : W1.cell? ⟨w.heap.size, 3, none⟩ = some (.slice an x.names.length cn) := by rw [<- hS]; simp <;> assumption
   have m4 : W1.cell? ⟨w.heap.size, 4, none⟩ = some (.slice (some ⟨ba, oa, none⟩) (1) ck) := by rw [<- hS]; simp <;> assumption
   clear hS
   replace a0 := x1.cell a0
   replace a1 := x1.cell a1
   replace a2 := x1.cell a2
   replace a3 := x1.cell a3
   replace a4 := x1.cell a4
   go_wp2_with fail
   refine (C1.out _ x1).mono ?_
   rintro e w2 ⟨rfl, hx2⟩
   go_wp2_with fail
   go_ret
   exact ⟨by rw [HV.out]; rfl, x1.trans hx2⟩
 have HV : Hid (mkB (stepY (txE n) x) = x.text) := LH (by unfold stepY; rw [if_neg (by omega), if_neg (by omega), if_neg (by omega), if_neg (by omega), if_neg (by omega), if_neg (by omega), if_neg (by omega), if_neg (by omega), mkB_bs])
 have h4 : x.kind = 4 := by omega
 clear rn rk
 clear q1 q2 q3 q4 q5 q6 q7 q8 q9 n1 n2 hbd hok
 clear h1 h2 h3 h5 h6 h7 h8 h9
 rw [h4]
 go_enter Tryz.func16, Tryz.ntmps16
 go_upto_region 1 with fail
 generalize hS : World.alloc w _ = W1
 have x1 : Ext w W1 := by rw [<- hS]; exact (XR _).alloc _
 have m0 : W1.cell? ⟨w.heap.size, 0, none⟩ = some (.int .i64 4) := by rw [<- hS]; simp <;> assumption
 have m1 : W1.cell? ⟨w.heap.size, 1, none⟩ = some (.string x.text) := by rw [<- hS]; simp <;> assumption
 have m2 : W1.cell? ⟨w.heap.size, 2, none⟩ = some (.int .i64 x.number) := by rw [<- hS]; simp <;> assumption
 have m3 : W1.cell? ⟨w.heap.size, 3, none⟩ = some (.slice an x.names.length cn) := by rw [<- hS]; simp <;> assumption
 have m4 : W1.cell? ⟨w.heap.size, 4, none⟩ = some (.slice ak x.kids.length ck) := by rw [<- hS]; simp <;> assumption
 clear hS
 go_wp2_with fail
 go_ret
 exact ⟨by rw [HV.out]; rfl, x1⟩
theorem txt_zero : TxtAt 0 := fun z cz w h => absurd h id
theorem txt_all : ∀ n, TxtAt n
 | 0 => txt_zero
 | n + 1 => exprText_step n (LH (txt_all n))
noncomputable def fmtE (x : MExpr) : ByteArray := cond (prB (ExprOk x)) (mkB (txE (SizeOf.sizeOf x + 1) x)) ⟨#[]⟩
theorem fmtE_ok {x : MExpr} (h : ExprOk x) : fmtE x = mkB (txE (SizeOf.sizeOf x + 1) x) := by unfold fmtE; rw [prB_tt h]; rfl
theorem fmtE_no {x : MExpr} (h : ¬ ExprOk x) : fmtE x = ⟨#[]⟩ := by unfold fmtE; rw [prB_ff h]; rfl
theorem fmtE_size {x : MExpr} (hb : x.d.bulk <= 5000) : (fmtE x).size <= 640100 := by
 by_cases h : ExprOk x
 · rw [fmtE_ok h]; exact tx_size h.2.2 hb
 · rw [fmtE_no h]; show 0 <= 640100; omega
theorem fmtE_empty {x : MExpr} : fmtE x = ⟨#[]⟩ ↔ ¬ ExprOk x := by
 constructor
 · intro h hx
   rw [fmtE_ok hx] at h
   have h1 := tx_ne _ x hx.2.2
   have h2 := mkB_size (txE (SizeOf.sizeOf x + 1) x)
   rw [h] at h2
   have : (txE (SizeOf.sizeOf x + 1) x).length = 0 := h2.symm
   exact h1 (List.length_eq_zero_iff.1 this)
 · exact fmtE_no
theorem FormatExpr_any (x : MExpr) (cx : List Value) (w : World) (rx : Rep w x.d cx) (hb : x.d.bulk <= 5000) (hm : MaxOk w) (ht : TabOk w) :
 Calls Tryz.prog 6 #[.agg cx.toArray] w fun e w' => e = .returned (.string (fmtE x)) /\ Ext w w' := by
 have C1 := LH (fun W (hW : Ext w W) => impl_IsExpr_any x cx W (Rep.ext hW rx) (by omega) (hm.ext hW))
 have C2 := LH (fun W (hW : Ext w W) (hx : ExprOk x) => txt_all _ x cx W hx.2.2 hb (hm.ext hW) (ht.ext hW) (Rep.ext hW rx))
 obtain ⟨an, cn, ak, ck, rfl⟩ := mexpr_shut rx
 clear rx
 by_cases hx : ExprOk x
 · have HV : Hid (fmtE x = mkB (txE (SizeOf.sizeOf x + 1) x)) := LH (fmtE_ok hx)
   have hb1 := prB_tt hx
   have C2' := LH (fun W hW => C2.out W hW hx)
   clear C2
   rw [hb1] at C1
   go_enter Tryz.func6, Tryz.ntmps6
   go_upto_region 1 with fail
   generalize hS : World.alloc w _ = W1
   have x1 : Ext w W1 := by rw [<- hS]; exact (XR _).alloc _
   have m0 : W1.cell? ⟨w.heap.size, 0, none⟩ = some (.int .i64 x.kind) := by rw [<- hS]; simp <;> assumption
   have m1 : W1.cell? ⟨w.heap.size, 1, none⟩ = some (.string x.text) := by rw [<- hS]; simp <;> assumption
   have m2 : W1.cell? ⟨w.heap.size, 2, none⟩ = some (.int .i64 x.number) := by rw [<- hS]; simp <;> assumption
   have m3 : W1.cell? ⟨w.heap.size, 3, none⟩ = some (.slice an x.names.length cn) := by rw [<- hS]; simp <;> assumption
   have m4 : W1.cell? ⟨w.heap.size, 4, none⟩ = some (.slice ak x.kids.length ck) := by rw [<- hS]; simp <;> assumption
   clear hS
   go_wp2_with fail
   refine (C1.out _ x1).mono ?_
   rintro e w2 ⟨rfl, hx2⟩
   replace m0 := Ext.cell hx2 m0
   replace m1 := Ext.cell hx2 m1
   replace m2 := Ext.cell hx2 m2
   replace m3 := Ext.cell hx2 m3
   replace m4 := Ext.cell hx2 m4
   go_wp2_with fail
   refine (C2'.out _ (x1.trans hx2)).mono ?_
   rintro e w3 ⟨rfl, hx3⟩
   go_wp2_with fail
   go_ret
   exact ⟨by rw [HV.out]; rfl, (x1.trans hx2).trans hx3⟩
 · have HV : Hid (fmtE x = ⟨#[]⟩) := LH (fmtE_no hx)
   rw [prB_ff hx] at C1
   clear C2
   go_enter Tryz.func6, Tryz.ntmps6
   go_upto_region 1 with fail
   generalize hS : World.alloc w _ = W1
   have x1 : Ext w W1 := by rw [<- hS]; exact (XR _).alloc _
   have m0 : W1.cell? ⟨w.heap.size, 0, none⟩ = some (.int .i64 x.kind) := by rw [<- hS]; simp <;> assumption
   have m1 : W1.cell? ⟨w.heap.size, 1, none⟩ = some (.string x.text) := by rw [<- hS]; simp <;> assumption
   have m2 : W1.cell? ⟨w.heap.size, 2, none⟩ = some (.int .i64 x.number) := by rw [<- hS]; simp <;> assumption
   have m3 : W1.cell? ⟨w.heap.size, 3, none⟩ = some (.slice an x.names.length cn) := by rw [<- hS]; simp <;> assumption
   have m4 : W1.cell? ⟨w.heap.size, 4, none⟩ = some (.slice ak x.kids.length ck) := by rw [<- hS]; simp <;> assumption
   clear hS
   go_wp2_with fail
   refine (C1.out _ x1).mono ?_
   rintro e w2 ⟨rfl, hx2⟩
   go_wp2_with fail
   go_ret
   exact ⟨by rw [HV.out]; rfl, x1.trans hx2⟩
end Go.Proofs.YtndhpbjhkgdieaaGreatDoor
