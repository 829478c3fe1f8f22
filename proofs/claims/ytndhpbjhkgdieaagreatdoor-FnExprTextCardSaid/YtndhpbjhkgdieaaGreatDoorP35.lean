/-
  CONTRACTS: parts of Tokens: the token with which a text begins, of the program.
  Conditions: those that each lemma states.
-/
import Derived.Test.YtndhpbjhkgdieaaGreatDoorRows
import Derived.Test.YtndhpbjhkgdieaaGreatDoorP34
namespace Go.Proofs.YtndhpbjhkgdieaaGreatDoor
open Go.RowKit
set_option maxHeartbeats 8000000
set_option maxRecDepth 100000
set_option linter.unusedSimpArgs false
set_option linter.unusedVariables false
theorem quo_len : ∀ (m : Nat) (l acc : List UInt8) (n : Nat), l.length <= m -> (quoL acc n l).1.length <= acc.length + l.length
 | 0, l, acc, n, h => by
  have : l = [] := List.length_eq_zero_iff.1 (by omega)
  subst this
  simp [quoL]
 | m + 1, [], acc, n, h => by simp [quoL]
 | m + 1, [b], acc, n, h => by
  by_cases hb : b = 39 <;> simp [quoL, hb]
 | m + 1, b :: c :: t, acc, n, h => by
  by_cases hb : b = 39
  · subst hb
    by_cases hc : c = 39
    · subst hc
      rw [quo_qq]
      have := quo_len m t (acc ++ [39]) (n + 2) (by simp at h; omega)
      simp only [List.length_cons, List.length_append, List.length_nil] at this ⊢; omega
    · rw [quo_q _ _ _ _ hc]; simp only [List.length_cons]; omega
  · rw [quo_o _ _ _ _ hb]
    have := quo_len m (c :: t) (acc ++ [b]) (n + 1) (by simp at h ⊢; omega)
    simp only [List.length_cons, List.length_append, List.length_nil] at this ⊢; omega
theorem sel_ne {s : ByteArray} (h : selB s = true) : s ≠ ⟨#[]⟩ := by
 rintro rfl
 cases ho : hasB opsL (⟨#[]⟩ : ByteArray)
 · have := sel_head h ho
   simp [headLtr] at this
 · exact ops_ne (hasB_iff.1 ho) rfl
theorem tokenAt_ltr (s : ByteArray) (w : World) (hs : s.size <= 1048576) (h0 : 0 < s.size) (hl : ltrB (s[0].toNat : Int) = true) :
 Calls Tryz.prog 56 #[.string s] w fun e w' => ∃ x : MToken, e = .returned (.tuple #[tokVal x, .int .i64 ((tokL s.data.toList).2 : Nat)]) /\ ((tokL s.data.toList).2 ≠ 0 -> x = (tokL s.data.toList).1) /\ Ext w w' := by
 have L0 : (0 : Nat) < s.size := h0
 obtain ⟨hb0, hb1⟩ := byte_bd s[0]
 have HT : Hid (tokL s.data.toList = tokC s[0] s.data.toList) := LH (by
  have e := drop_cons (s := s) (k := 0) h0
  rw [List.drop_zero] at e
  unfold tokL; congr 1; rw [e]; rfl)
 have HL := LH hl; clear hl
 have HB : Hid (tokL s.data.toList = nameT s.data.toList) := LH (by rw [HT.out, tokC, if_pos HL.out])
 have hrl : runL s.data.toList <= s.size := by have := runL_le s.data.toList; simpa using this
 have hz := runB_size s.data.toList
 have HE : Hid (s.extract 0 (runAt s 0) = runB s.data.toList) := LH (by rw [extract_mk, runAt, runB]; simp)
 obtain ⟨m, hm⟩ : ∃ m, runL s.data.toList = m := ⟨_, rfl⟩
 rw [hm] at hz hrl
 have HM := LH hm; clear hm
 have HNA : Hid (nameT s.data.toList = if colL (s.data.toList.drop m) = true then (if m <= 20 then (⟨2, runB s.data.toList ++ ⟨#[58]⟩, 0⟩, m + 1) else noTok)
  else if hasB wordsL (runB s.data.toList) = true then (⟨8, runB s.data.toList, 0⟩, m) else if m <= 20 then (⟨1, runB s.data.toList, 0⟩, m) else noTok) := LH (by rw [nameT, HM.out])
 generalize runB s.data.toList = R at *
 go_enter Tryz.func56, Tryz.ntmps56
 go_wp2_with fail
 generalize hW : World.alloc w _ = W1
 have x1 : Ext w W1 := by rw [<- hW]; exact (XR w).alloc _
 have R0 : W1.cell? ⟨w.heap.size, 0, none⟩ = some (.int .i64 0) := by rw [<- hW]; simp
 have R1 : W1.cell? ⟨w.heap.size, 1, none⟩ = some (.string ⟨#[]⟩) := by rw [<- hW]; simp
 have R2 : W1.cell? ⟨w.heap.size, 2, none⟩ = some (.int .i64 0) := by rw [<- hW]; simp
 have F0 : ∀ o, W1.frozen? ⟨w.heap.size, o, none⟩ = false := fun o => by rw [<- hW]; simp
 clear hW
 refine (isLetter_any _ _ hb0 hb1).mono ?_
 rw [HL.out]
 rintro e w' ⟨rfl, rfl⟩
 go_wp2_with fail
 refine (runOf_any s _ (by omega)).mono ?_
 rw [HE.out]
 rintro e w' ⟨rfl, rfl⟩
 have q1 : (0 : Int) <= m := by omega
 have q2 : (m : Int) <= s.size := by omega
 go_wp2_with fail
 refine (colon_suf s m _ hs).mono ?_
 cases hc : colL (s.data.toList.drop m)
 rotate_left
 · have HC := LH hc; clear hc
   rintro e w' ⟨rfl, rfl⟩
   by_cases h20 : m <= 20
   · have t1 : ¬ (20 : Int) < m := by omega
     have hN : Hid (tokL s.data.toList = (⟨2, R ++ ⟨#[58]⟩, 0⟩, m + 1)) := LH (by rw [HB.out, HNA.out, if_pos HC.out, if_pos h20])
     go_wp2_with fail
     refine bodyPost_ret (v := .tuple #[.agg #[.int .i64 (2), .string (R ++ ⟨#[58]⟩), .int .i64 (0)], .int .i64 (((m : Int) + 1))]) (by simp [results, Tryz.results56, go_sem, R0, R1, R2, F0]) rfl ⟨⟨2, R ++ ⟨#[58]⟩, 0⟩, ?_, ?_, ?_⟩
     · rw [hN.out]; rfl
     · exact fun _ => congrArg Prod.fst (hN.out).symm
     · (repeat refine Ext.setCell ?_ (by omega) _)
       exact x1
   · have t1 : (20 : Int) < m := by omega
     have hN : Hid (tokL s.data.toList = noTok) := LH (by rw [HB.out, HNA.out, if_pos HC.out, if_neg h20])
     go_wp2_with fail
     refine bodyPost_ret (v := .tuple #[.agg #[.int .i64 (0), .string (⟨#[]⟩), .int .i64 (0)], .int .i64 (0)]) (by simp [results, Tryz.results56, go_sem, R0, R1, R2, F0]) rfl ⟨⟨0, ⟨#[]⟩, 0⟩, ?_, ?_, ?_⟩
     · rw [hN.out]; rfl
     · exact fun _ => congrArg Prod.fst (hN.out).symm
     · (repeat refine Ext.setCell ?_ (by omega) _)
       exact x1
 have HC : Hid (¬ colL (s.data.toList.drop m) = true) := LH (by rw [hc]; exact Bool.false_ne_true)
 clear hc
 rintro e w' ⟨rfl, rfl⟩
 go_wp2_with fail
 refine (isWord_any R _).mono ?_
 cases hw : hasB wordsL R
 rotate_left
 · have HW := LH hw; clear hw
   rintro e w' ⟨rfl, rfl⟩
   have hN : Hid (tokL s.data.toList = (⟨8, R, 0⟩, m)) := LH (by rw [HB.out, HNA.out, if_neg HC.out, if_pos HW.out])
   go_wp2_with fail
   refine bodyPost_ret (v := .tuple #[.agg #[.int .i64 (8), .string (R), .int .i64 (0)], .int .i64 ((m : Int))]) (by simp [results, Tryz.results56, go_sem, R0, R1, R2, F0]) rfl ⟨⟨8, R, 0⟩, ?_, ?_, ?_⟩
   · rw [hN.out]; rfl
   · exact fun _ => congrArg Prod.fst (hN.out).symm
   · (repeat refine Ext.setCell ?_ (by omega) _)
     exact x1
 have HW : Hid (¬ hasB wordsL R = true) := LH (by rw [hw]; exact Bool.false_ne_true)
 clear hw
 rintro e w' ⟨rfl, rfl⟩
 by_cases h20 : m <= 20
 · have t1 : ¬ (20 : Int) < m := by omega
   have hN : Hid (tokL s.data.toList = (⟨1, R, 0⟩, m)) := LH (by rw [HB.out, HNA.out, if_neg HC.out, if_neg HW.out, if_pos h20])
   go_wp2_with fail
   refine bodyPost_ret (v := .tuple #[.agg #[.int .i64 (1), .string (R), .int .i64 (0)], .int .i64 ((m : Int))]) (by simp [results, Tryz.results56, go_sem, R0, R1, R2, F0]) rfl ⟨⟨1, R, 0⟩, ?_, ?_, ?_⟩
   · rw [hN.out]; rfl
   · exact fun _ => congrArg Prod.fst (hN.out).symm
   · (repeat refine Ext.setCell ?_ (by omega) _)
     exact x1
 · have t1 : (20 : Int) < m := by omega
   have hN : Hid (tokL s.data.toList = noTok) := LH (by rw [HB.out, HNA.out, if_neg HC.out, if_neg HW.out, if_neg h20])
   go_wp2_with fail
   refine bodyPost_ret (v := .tuple #[.agg #[.int .i64 (0), .string (⟨#[]⟩), .int .i64 (0)], .int .i64 (0)]) (by simp [results, Tryz.results56, go_sem, R0, R1, R2, F0]) rfl ⟨⟨0, ⟨#[]⟩, 0⟩, ?_, ?_, ?_⟩
   · rw [hN.out]; rfl
   · exact fun _ => congrArg Prod.fst (hN.out).symm
   · (repeat refine Ext.setCell ?_ (by omega) _)
     exact x1
theorem tokenAt_dgt (s : ByteArray) (w : World) (hs : s.size <= 1048576) (h0 : 0 < s.size) (hl : ltrB (s[0].toNat : Int) = false) (hd : dgtB (s[0].toNat : Int) = true) :
 Calls Tryz.prog 56 #[.string s] w fun e w' => ∃ x : MToken, e = .returned (.tuple #[tokVal x, .int .i64 ((tokL s.data.toList).2 : Nat)]) /\ ((tokL s.data.toList).2 ≠ 0 -> x = (tokL s.data.toList).1) /\ Ext w w' := by
 have L0 : (0 : Nat) < s.size := h0
 obtain ⟨hb0, hb1⟩ := byte_bd s[0]
 have HT : Hid (tokL s.data.toList = tokC s[0] s.data.toList) := LH (by
  have e := drop_cons (s := s) (k := 0) h0
  rw [List.drop_zero] at e
  unfold tokL; congr 1; rw [e]; rfl)
 have HL := LH hl; clear hl
 have HD := LH hd; clear hd
 have nl : Hid (¬ ltrB (s[0].toNat : Int) = true) := LH (by rw [HL.out]; exact Bool.false_ne_true)
 have HB : Hid (tokL s.data.toList = numT s.data.toList) := LH (by rw [HT.out, tokC, if_neg nl.out, if_pos HD.out])
 have HD0 : Hid (0 < digN s.data.toList) := LH (by
  have e := drop_cons (s := s) (k := 0) h0
  rw [List.drop_zero] at e
  rw [e, digN, if_pos HD.out]; omega)
 obtain ⟨L, hL⟩ : ∃ L, L = s.data.toList := ⟨_, rfl⟩
 have hLl : L.length = s.size := by rw [hL]; simp
 have HLL := LH hLl; clear hLl
 rw [<- hL] at HB HD0 ⊢
 have HL1 := LH hL; clear hL
 go_enter Tryz.func56, Tryz.ntmps56
 go_wp2_with fail
 generalize hW : World.alloc w _ = W1
 have x1 : Ext w W1 := by rw [<- hW]; exact (XR w).alloc _
 have R0 : W1.cell? ⟨w.heap.size, 0, none⟩ = some (.int .i64 0) := by rw [<- hW]; simp
 have R1 : W1.cell? ⟨w.heap.size, 1, none⟩ = some (.string ⟨#[]⟩) := by rw [<- hW]; simp
 have R2 : W1.cell? ⟨w.heap.size, 2, none⟩ = some (.int .i64 0) := by rw [<- hW]; simp
 have F0 : ∀ o, W1.frozen? ⟨w.heap.size, o, none⟩ = false := fun o => by rw [<- hW]; simp
 clear hW
 refine (isLetter_any _ _ hb0 hb1).mono ?_
 rw [HL.out]
 rintro e w' ⟨rfl, rfl⟩
 go_wp2_with fail
 refine (isDigit_any _ _ hb0 hb1).mono ?_
 rw [HD.out]
 rintro e w' ⟨rfl, rfl⟩
 go_wp2_with fail
 go_loop [6, 7] (fun nv ev => ∃ j : Nat, j <= s.size /\ j <= 10 /\ ev = .int .i64 ((j : Nat) : Int) /\ nv = .int .i64 (valF 0 (L.take j) : Nat) /\ Hid (∀ c, c ∈ L.take j -> dgtB (c.toNat : Int) = true)) (fun _ ev => s.size - (intOf ev).toNat)
 case atStart => exact ⟨0, by omega, by omega, rfl, by simp [valF_nil], LH (by simp)⟩
 case round =>
  clear hb0 hb1
  obtain ⟨j, hj, hj10, rfl, rfl, hR⟩ := hrel
  have hdg : digL (L.take j) := fun c hc => by have := dgt_iff.1 (hR.out c hc); omega
  have hvb := val_bd hdg (by rw [List.length_take]; omega)
  have HDG := LH hdg; clear hdg
  have hA := LH (digN_all (l := L) (j := j) (by rw [HLL.out]; omega) hR.out)
  by_cases hlt : j < s.size
  rotate_left
  · have hnil : L.drop j = [] := List.drop_eq_nil_of_le (by rw [HLL.out]; omega)
    have hN : Hid (digN L = j) := LH (by rw [hA.out, hnil]; rfl)
    by_cases h9 : j <= 9
    · have t9 : ¬ (9 : Int) < j := by omega
      have hT : Hid (tokL L = (⟨3, ⟨#[]⟩, (valF 0 (L.take j) : Nat)⟩, j)) := LH (by rw [HB.out, numT, if_neg (by rw [hN.out]; omega), if_neg (by rw [hN.out, hnil]; exact Bool.false_ne_true), hN.out])
      clear hnil
      go_wp2_with fail
      refine bodyPost_ret (v := .tuple #[.agg #[.int .i64 (3), .string (⟨#[]⟩), .int .i64 (((valF 0 (L.take j) : Nat) : Int))], .int .i64 ((j : Int))]) (by simp [results, Tryz.results56, go_sem, R0, R1, R2, F0]) rfl ⟨⟨3, ⟨#[]⟩, ((valF 0 (L.take j) : Nat) : Int)⟩, ?_, ?_, ?_⟩
      · rw [hT.out]; rfl
      · exact fun _ => congrArg Prod.fst (hT.out).symm
      · (repeat refine Ext.setCell ?_ (by omega) _)
        exact x1
    · have t9 : (9 : Int) < j := by omega
      have hT : Hid (tokL L = noTok) := LH (by rw [HB.out, numT, if_pos (by rw [hN.out]; omega)])
      clear hnil
      go_wp2_with fail
      refine bodyPost_ret (v := .tuple #[.agg #[.int .i64 (0), .string (⟨#[]⟩), .int .i64 (0)], .int .i64 (0)]) (by simp [results, Tryz.results56, go_sem, R0, R1, R2, F0]) rfl ⟨⟨0, ⟨#[]⟩, 0⟩, ?_, ?_, ?_⟩
      · rw [hT.out]; rfl
      · exact fun _ => congrArg Prod.fst (hT.out).symm
      · (repeat refine Ext.setCell ?_ (by omega) _)
        exact x1
  obtain ⟨hb0, hb1⟩ := byte_bd s[j]
  have hdrop : L.drop j = s[j] :: s.data.toList.drop (j + 1) := by rw [HL1.out, drop_cons hlt]
  have HDR := LH hdrop; clear hdrop
  have htk : L.take (j + 1) = L.take j ++ [s[j]] := by
   have h1 : L[j]? = some s[j] := by
    have := congrArg List.head? HDR.out
    rw [List.head?_drop] at this
    simpa using this
   rw [List.take_add_one, h1]; rfl
  have HTK := LH htk; clear htk
  cases hq : dgtB (s[j].toNat : Int)
  · have hN : Hid (digN L = j) := LH (by rw [hA.out, HDR.out, digN, if_neg (by rw [hq]; exact Bool.false_ne_true), Nat.add_zero])
    have HQ := LH hq; clear hq
    have hH : Hid (headLtr (L.drop (digN L)) = ltrB (s[j].toNat : Int)) := LH (by rw [hN.out, HDR.out]; rfl)
    by_cases h9 : j <= 9
    rotate_left
    · have t9 : (9 : Int) < j := by omega
      have hT : Hid (tokL L = noTok) := LH (by rw [HB.out, numT, if_pos (by rw [hN.out]; omega)])
      go_wp2_with fail
      refine (isDigit_any _ _ hb0 hb1).mono ?_
      rw [HQ.out]
      rintro e w' ⟨rfl, rfl⟩
      go_wp2_with fail
      refine bodyPost_ret (v := .tuple #[.agg #[.int .i64 (0), .string (⟨#[]⟩), .int .i64 (0)], .int .i64 (0)]) (by simp [results, Tryz.results56, go_sem, R0, R1, R2, F0]) rfl ⟨⟨0, ⟨#[]⟩, 0⟩, ?_, ?_, ?_⟩
      · rw [hT.out]; rfl
      · exact fun _ => congrArg Prod.fst (hT.out).symm
      · (repeat refine Ext.setCell ?_ (by omega) _)
        exact x1
    have t9 : ¬ (9 : Int) < j := by omega
    cases hl : ltrB (s[j].toNat : Int)
    · have hT : Hid (tokL L = (⟨3, ⟨#[]⟩, (valF 0 (L.take j) : Nat)⟩, j)) := LH (by rw [HB.out, numT, if_neg (by rw [hN.out]; omega), if_neg (by rw [hH.out, hl]; exact Bool.false_ne_true), hN.out])
      have HLt := LH hl; clear hl
      go_wp2_with fail
      refine (isDigit_any _ _ hb0 hb1).mono ?_
      rw [HQ.out]
      rintro e w' ⟨rfl, rfl⟩
      go_wp2_with fail
      refine (isLetter_any _ _ hb0 hb1).mono ?_
      rw [HLt.out]
      rintro e w' ⟨rfl, rfl⟩
      go_wp2_with fail
      refine bodyPost_ret (v := .tuple #[.agg #[.int .i64 (3), .string (⟨#[]⟩), .int .i64 (((valF 0 (L.take j) : Nat) : Int))], .int .i64 ((j : Int))]) (by simp [results, Tryz.results56, go_sem, R0, R1, R2, F0]) rfl ⟨⟨3, ⟨#[]⟩, ((valF 0 (L.take j) : Nat) : Int)⟩, ?_, ?_, ?_⟩
      · rw [hT.out]; rfl
      · exact fun _ => congrArg Prod.fst (hT.out).symm
      · (repeat refine Ext.setCell ?_ (by omega) _)
        exact x1
    · have hT : Hid (tokL L = noTok) := LH (by rw [HB.out, numT, if_neg (by rw [hN.out]; omega), if_pos (by rw [hH.out, hl])])
      have HLt := LH hl; clear hl
      go_wp2_with fail
      refine (isDigit_any _ _ hb0 hb1).mono ?_
      rw [HQ.out]
      rintro e w' ⟨rfl, rfl⟩
      go_wp2_with fail
      refine (isLetter_any _ _ hb0 hb1).mono ?_
      rw [HLt.out]
      rintro e w' ⟨rfl, rfl⟩
      go_wp2_with fail
      refine bodyPost_ret (v := .tuple #[.agg #[.int .i64 (0), .string (⟨#[]⟩), .int .i64 (0)], .int .i64 (0)]) (by simp [results, Tryz.results56, go_sem, R0, R1, R2, F0]) rfl ⟨⟨0, ⟨#[]⟩, 0⟩, ?_, ?_, ?_⟩
      · rw [hT.out]; rfl
      · exact fun _ => congrArg Prod.fst (hT.out).symm
      · (repeat refine Ext.setCell ?_ (by omega) _)
        exact x1
  obtain ⟨d0, d1⟩ := dgt_iff.1 hq
  have hN : Hid (j + 1 <= digN L) := LH (by rw [hA.out, HDR.out, digN, if_pos hq]; omega)
  have HV : Hid (valF 0 (L.take (j + 1)) = valF 0 (L.take j) * 10 + (s[j].toNat - 48)) := LH (by rw [HTK.out, valF_append, valF_cons, valF_nil])
  have HR2 : Hid (∀ c, c ∈ L.take (j + 1) -> dgtB (c.toNat : Int) = true) := LH (by
   rw [HTK.out]; intro c hc
   rcases List.mem_append.1 hc with hc | hc
   · exact hR.out c hc
   · have hc := List.mem_singleton.1 hc; rw [hc]; exact hq)
  have HQ := LH hq; clear hq
  generalize valF 0 (L.take j) = V0 at *
  by_cases h10 : j < 10
  · have t9 : (j : Int) < 10 := by omega
    go_wp2_with fail
    refine (isDigit_any _ _ hb0 hb1).mono ?_
    rw [HQ.out]
    rintro e w' ⟨rfl, rfl⟩
    go_wp2_with fail
    go_round
    case rel => exact ⟨j + 1, by omega, by omega, by go_num, by rw [HV.out]; go_num, HR2⟩
    case measure => simp [intOf]; omega
  · have t9 : ¬ (j : Int) < 10 := by omega
    have t8 : (9 : Int) < j := by omega
    have hT : Hid (tokL L = noTok) := LH (by rw [HB.out, numT, if_pos (by have := hN.out; omega)])
    go_wp2_with fail
    refine (isDigit_any _ _ hb0 hb1).mono ?_
    rw [HQ.out]
    rintro e w' ⟨rfl, rfl⟩
    go_wp2_with fail
    refine bodyPost_ret (v := .tuple #[.agg #[.int .i64 (0), .string (⟨#[]⟩), .int .i64 (0)], .int .i64 (0)]) (by simp [results, Tryz.results56, go_sem, R0, R1, R2, F0]) rfl ⟨⟨0, ⟨#[]⟩, 0⟩, ?_, ?_, ?_⟩
    · rw [hT.out]; rfl
    · exact fun _ => congrArg Prod.fst (hT.out).symm
    · (repeat refine Ext.setCell ?_ (by omega) _)
      exact x1
theorem tokenAt_quo (s : ByteArray) (w : World) (hs : s.size <= 1048576) (h0 : 0 < s.size) (hl : ltrB (s[0].toNat : Int) = false) (hd : dgtB (s[0].toNat : Int) = false) (hq : s[0] = 39) :
 Calls Tryz.prog 56 #[.string s] w fun e w' => ∃ x : MToken, e = .returned (.tuple #[tokVal x, .int .i64 ((tokL s.data.toList).2 : Nat)]) /\ ((tokL s.data.toList).2 ≠ 0 -> x = (tokL s.data.toList).1) /\ Ext w w' := by
 have L0 : (0 : Nat) < s.size := h0
 obtain ⟨hb0, hb1⟩ := byte_bd s[0]
 have HT : Hid (tokL s.data.toList = tokC s[0] s.data.toList) := LH (by
  have e := drop_cons (s := s) (k := 0) h0
  rw [List.drop_zero] at e
  unfold tokL; congr 1; rw [e]; rfl)
 have HL := LH hl; clear hl
 have HD := LH hd; clear hd
 have nl : Hid (¬ ltrB (s[0].toNat : Int) = true) := LH (by rw [HL.out]; exact Bool.false_ne_true)
 have nd : Hid (¬ dgtB (s[0].toNat : Int) = true) := LH (by rw [HD.out]; exact Bool.false_ne_true)
 have t1 := u8_eq (n := 39) 39 rfl hq
 have HQ := LH hq; clear hq
 have HB : Hid (tokL s.data.toList = quoT s.data.toList) := LH (by rw [HT.out, tokC, if_neg nl.out, if_neg nd.out, if_pos HQ.out])
 obtain ⟨⟨T, n⟩, hX⟩ : ∃ X, quoL [] 1 (s.data.toList.drop 1) = X := ⟨_, rfl⟩
 have HX : Hid (quoT s.data.toList = if n = 0 then noTok else if textB 40 (mkB T) = true then (⟨4, mkB T, 0⟩, n) else noTok) := LH (by unfold quoT; rw [hX])
 have hTs : Hid (T.length <= s.size) := LH (by
  have := quo_len _ (s.data.toList.drop 1) [] 1 (Nat.le_refl _)
  rw [hX, List.length_drop] at this
  simp at this
  have e : s.data.size = s.size := rfl
  omega)
 have C : Hid (∀ W, Calls Tryz.prog 89 #[.string s] W fun e w' => e = .returned (.tuple #[.string (mkB T), .int .i64 (n : Nat)]) /\ Ext W w') := LH fun W => by
  have := quoted_any s W hs
  rw [hX] at this
  exact this
 clear hX
 go_enter Tryz.func56, Tryz.ntmps56
 go_wp2_with fail
 generalize hW : World.alloc w _ = W1
 have x1 : Ext w W1 := by rw [<- hW]; exact (XR w).alloc _
 have R0 : W1.cell? ⟨w.heap.size, 0, none⟩ = some (.int .i64 0) := by rw [<- hW]; simp
 have R1 : W1.cell? ⟨w.heap.size, 1, none⟩ = some (.string ⟨#[]⟩) := by rw [<- hW]; simp
 have R2 : W1.cell? ⟨w.heap.size, 2, none⟩ = some (.int .i64 0) := by rw [<- hW]; simp
 have F0 : ∀ o, W1.frozen? ⟨w.heap.size, o, none⟩ = false := fun o => by rw [<- hW]; simp
 clear hW
 refine (isLetter_any _ _ hb0 hb1).mono ?_
 rw [HL.out]
 rintro e w' ⟨rfl, rfl⟩
 go_wp2_with fail
 refine (isDigit_any _ _ hb0 hb1).mono ?_
 rw [HD.out]
 rintro e w' ⟨rfl, rfl⟩
 go_wp2_with fail
 refine (C.out _).mono ?_
 rintro e w5 ⟨rfl, hx5⟩
 have zz := lt_of_cell R0
 replace R0 := Ext.cell hx5 R0
 replace R1 := Ext.cell hx5 R1
 replace R2 := Ext.cell hx5 R2
 replace F0 := fun o => ((bcell hx5).2 w.heap.size o zz).trans (F0 o)
 clear zz
 have hTz : (mkB T).size <= 1048576 := by rw [mkB_size]; have := hTs.out; omega
 generalize mkB T = U at *
 go_wp2_with fail
 refine (plainText_any U _ (by omega)).mono ?_
 cases hp : textB 40 U
 · have HP : Hid (¬ textB 40 U = true) := LH (by rw [hp]; exact Bool.false_ne_true)
   clear hp
   have hN : Hid (tokL s.data.toList = noTok) := LH (by
    rw [HB.out, HX.out]
    by_cases h : n = 0
    · rw [if_pos h]
    · rw [if_neg h, if_neg HP.out])
   rintro e w' ⟨rfl, rfl⟩
   go_wp2_with fail
   refine bodyPost_ret (v := .tuple #[.agg #[.int .i64 (0), .string (⟨#[]⟩), .int .i64 (0)], .int .i64 (0)]) (by simp [results, Tryz.results56, go_sem, R0, R1, R2, F0]) rfl ⟨⟨0, ⟨#[]⟩, 0⟩, ?_, ?_, ?_⟩
   · rw [hN.out]; rfl
   · exact fun _ => congrArg Prod.fst (hN.out).symm
   · (repeat refine Ext.setCell ?_ (by omega) _)
     exact x1.trans hx5
 · have HP := LH hp; clear hp
   have hN : Hid ((tokL s.data.toList).2 = n) := LH (by
    rw [HB.out, HX.out]
    by_cases h : n = 0
    · rw [if_pos h, h]; rfl
    · rw [if_neg h, if_pos HP.out])
   have hN1 : Hid ((tokL s.data.toList).2 ≠ 0 -> (⟨4, U, 0⟩ : MToken) = (tokL s.data.toList).1) := LH (by
    rw [hN.out, HB.out, HX.out]
    intro h
    rw [if_neg h, if_pos HP.out])
   rintro e w' ⟨rfl, rfl⟩
   go_wp2_with fail
   refine bodyPost_ret (v := .tuple #[.agg #[.int .i64 4, .string U, .int .i64 0], .int .i64 n]) (by simp [results, Tryz.results56, go_sem, R0, R1, R2, F0]) rfl ⟨⟨4, U, 0⟩, ?_, hN1.out, ?_⟩
   · rw [hN.out]; rfl
   · (repeat refine Ext.setCell ?_ (by omega) _)
     exact x1.trans hx5
theorem tokenAt_sym (s : ByteArray) (w : World) (hs : s.size <= 1048576) (h0 : 0 < s.size) (hl : ltrB (s[0].toNat : Int) = false) (hd : dgtB (s[0].toNat : Int) = false) (hq : ¬ s[0] = 39) (hp : s[0] = 35) (hM : MaxOk w) :
 Calls Tryz.prog 56 #[.string s] w fun e w' => ∃ x : MToken, e = .returned (.tuple #[tokVal x, .int .i64 ((tokL s.data.toList).2 : Nat)]) /\ ((tokL s.data.toList).2 ≠ 0 -> x = (tokL s.data.toList).1) /\ Ext w w' := by
 have L0 : (0 : Nat) < s.size := h0
 obtain ⟨hb0, hb1⟩ := byte_bd s[0]
 have HT : Hid (tokL s.data.toList = tokC s[0] s.data.toList) := LH (by
  have e := drop_cons (s := s) (k := 0) h0
  rw [List.drop_zero] at e
  unfold tokL; congr 1; rw [e]; rfl)
 have HL := LH hl; clear hl
 have HD := LH hd; clear hd
 have nl : Hid (¬ ltrB (s[0].toNat : Int) = true) := LH (by rw [HL.out]; exact Bool.false_ne_true)
 have nd : Hid (¬ dgtB (s[0].toNat : Int) = true) := LH (by rw [HD.out]; exact Bool.false_ne_true)
 have t1 := u8_ne (n := 39) 39 rfl hq
 have t2 := u8_eq (n := 35) 35 rfl hp
 have HB : Hid (tokL s.data.toList = symT (s.data.toList.drop 1)) := LH (by rw [HT.out, tokC, if_neg nl.out, if_neg nd.out, if_neg hq, if_pos hp])
 clear hq hp
 have HX : Hid (symT (s.data.toList.drop 1) = if selB (symB (s.data.toList.drop 1)) = true then (⟨5, symB (s.data.toList.drop 1), 0⟩, (symB (s.data.toList.drop 1)).size + 1) else noTok) := LH (by
  unfold symT
  rw [sel_sym]
  cases hq : selB (symB (s.data.toList.drop 1))
  · rw [if_neg Bool.false_ne_true, if_neg Bool.false_ne_true]; rfl
  · rw [if_pos rfl, if_pos rfl, if_neg]
    intro h
    have := sel_ne hq
    exact this (size_zero h))
 have hz : (symB (s.data.toList.drop 1)).size <= 1048576 := by
  have := symB_le (s.data.toList.drop 1)
  rw [List.length_drop, show s.data.toList.length = s.size from by simp] at this
  omega
 have C : Hid (∀ W, Calls Tryz.prog 90 #[.string (s.extract 1 s.size)] W fun e w' => e = .returned (.string (symB (s.data.toList.drop 1))) /\ Ext W w') := LH fun W => by
  have := symbolAt_any (suf s 1) W (by unfold suf; simp; omega)
  rw [suf_data] at this
  exact this
 generalize symB (s.data.toList.drop 1) = U at *
 have hM1 := hM
 go_enter Tryz.func56, Tryz.ntmps56
 go_wp2_with fail
 generalize hW : World.alloc w _ = W1
 have x1 : Ext w W1 := by rw [<- hW]; exact (XR w).alloc _
 have R0 : W1.cell? ⟨w.heap.size, 0, none⟩ = some (.int .i64 0) := by rw [<- hW]; simp
 have R1 : W1.cell? ⟨w.heap.size, 1, none⟩ = some (.string ⟨#[]⟩) := by rw [<- hW]; simp
 have R2 : W1.cell? ⟨w.heap.size, 2, none⟩ = some (.int .i64 0) := by rw [<- hW]; simp
 have F0 : ∀ o, W1.frozen? ⟨w.heap.size, o, none⟩ = false := fun o => by rw [<- hW]; simp
 clear hW
 refine (isLetter_any _ _ hb0 hb1).mono ?_
 rw [HL.out]
 rintro e w' ⟨rfl, rfl⟩
 go_wp2_with fail
 refine (isDigit_any _ _ hb0 hb1).mono ?_
 rw [HD.out]
 rintro e w' ⟨rfl, rfl⟩
 go_wp2_with fail
 refine (C.out _).mono ?_
 rintro e w5 ⟨rfl, hx5⟩
 have zz := lt_of_cell R0
 replace R0 := Ext.cell hx5 R0
 replace R1 := Ext.cell hx5 R1
 replace R2 := Ext.cell hx5 R2
 replace F0 := fun o => ((bcell hx5).2 w.heap.size o zz).trans (F0 o)
 clear zz
 go_wp2_with fail
 refine (impl_IsSelector_any U _ hz (hM.ext (x1.trans hx5))).mono ?_
 cases hp : selB U
 · have HP : Hid (¬ selB U = true) := LH (by rw [hp]; exact Bool.false_ne_true)
   clear hp
   have hN : Hid (tokL s.data.toList = noTok) := LH (by rw [HB.out, HX.out, if_neg HP.out])
   rintro e w6 ⟨rfl, hx6⟩
   have zz := lt_of_cell R0
   replace R0 := Ext.cell hx6 R0
   replace R1 := Ext.cell hx6 R1
   replace R2 := Ext.cell hx6 R2
   replace F0 := fun o => ((bcell hx6).2 w.heap.size o zz).trans (F0 o)
   clear zz
   go_wp2_with fail
   refine bodyPost_ret (v := .tuple #[.agg #[.int .i64 (0), .string (⟨#[]⟩), .int .i64 (0)], .int .i64 (0)]) (by simp [results, Tryz.results56, go_sem, R0, R1, R2, F0]) rfl ⟨⟨0, ⟨#[]⟩, 0⟩, ?_, ?_, ?_⟩
   · rw [hN.out]; rfl
   · exact fun _ => congrArg Prod.fst (hN.out).symm
   · (repeat refine Ext.setCell ?_ (by omega) _)
     exact x1.trans (hx5.trans hx6)
 · have HP := LH hp; clear hp
   have hN : Hid (tokL s.data.toList = (⟨5, U, 0⟩, U.size + 1)) := LH (by rw [HB.out, HX.out, if_pos HP.out])
   rintro e w6 ⟨rfl, hx6⟩
   have zz := lt_of_cell R0
   replace R0 := Ext.cell hx6 R0
   replace R1 := Ext.cell hx6 R1
   replace R2 := Ext.cell hx6 R2
   replace F0 := fun o => ((bcell hx6).2 w.heap.size o zz).trans (F0 o)
   clear zz
   go_wp2_with fail
   refine bodyPost_ret (v := .tuple #[.agg #[.int .i64 (5), .string (U), .int .i64 (0)], .int .i64 (((U.size : Int) + 1))]) (by simp [results, Tryz.results56, go_sem, R0, R1, R2, F0]) rfl ⟨⟨5, U, 0⟩, ?_, ?_, ?_⟩
   · rw [hN.out]; rfl
   · exact fun _ => congrArg Prod.fst (hN.out).symm
   · (repeat refine Ext.setCell ?_ (by omega) _)
     exact x1.trans (hx5.trans hx6)
theorem tokenAt_op (s : ByteArray) (w : World) (hs : s.size <= 1048576) (h0 : 0 < s.size) (hl : ltrB (s[0].toNat : Int) = false) (hd : dgtB (s[0].toNat : Int) = false) (hq : ¬ s[0] = 39) (hp : ¬ s[0] = 35) :
 Calls Tryz.prog 56 #[.string s] w fun e w' => ∃ x : MToken, e = .returned (.tuple #[tokVal x, .int .i64 ((tokL s.data.toList).2 : Nat)]) /\ ((tokL s.data.toList).2 ≠ 0 -> x = (tokL s.data.toList).1) /\ Ext w w' := by
 have L0 : (0 : Nat) < s.size := h0
 obtain ⟨hb0, hb1⟩ := byte_bd s[0]
 have HT : Hid (tokL s.data.toList = tokC s[0] s.data.toList) := LH (by
  have e := drop_cons (s := s) (k := 0) h0
  rw [List.drop_zero] at e
  unfold tokL; congr 1; rw [e]; rfl)
 have HL := LH hl; clear hl
 have HD := LH hd; clear hd
 have nl : Hid (¬ ltrB (s[0].toNat : Int) = true) := LH (by rw [HL.out]; exact Bool.false_ne_true)
 have nd : Hid (¬ dgtB (s[0].toNat : Int) = true) := LH (by rw [HD.out]; exact Bool.false_ne_true)
 have t1 := u8_ne (n := 39) 39 rfl hq
 have t2 := u8_ne (n := 35) 35 rfl hp
 have HB : Hid (tokL s.data.toList = opT s.data.toList) := LH (by rw [HT.out, tokC, if_neg nl.out, if_neg nd.out, if_neg hq, if_neg hp])
 clear hq hp
 have HX : Hid (opT s.data.toList = if firstP opsL s = ⟨#[]⟩ then (if firstP marksL s = ⟨#[]⟩ then noTok else (⟨7, firstP marksL s, 0⟩, (firstP marksL s).size)) else (⟨6, firstP opsL s, 0⟩, (firstP opsL s).size)) := LH (by rw [opT, mkB_data])
 go_enter Tryz.func56, Tryz.ntmps56
 go_wp2_with fail
 generalize hW : World.alloc w _ = W1
 have x1 : Ext w W1 := by rw [<- hW]; exact (XR w).alloc _
 have R0 : W1.cell? ⟨w.heap.size, 0, none⟩ = some (.int .i64 0) := by rw [<- hW]; simp
 have R1 : W1.cell? ⟨w.heap.size, 1, none⟩ = some (.string ⟨#[]⟩) := by rw [<- hW]; simp
 have R2 : W1.cell? ⟨w.heap.size, 2, none⟩ = some (.int .i64 0) := by rw [<- hW]; simp
 have F0 : ∀ o, W1.frozen? ⟨w.heap.size, o, none⟩ = false := fun o => by rw [<- hW]; simp
 clear hW
 refine (isLetter_any _ _ hb0 hb1).mono ?_
 rw [HL.out]
 rintro e w' ⟨rfl, rfl⟩
 go_wp2_with fail
 refine (isDigit_any _ _ hb0 hb1).mono ?_
 rw [HD.out]
 rintro e w' ⟨rfl, rfl⟩
 go_wp2_with fail
 refine (operators_any _).mono ?_
 rintro e w1 ⟨ao, n, cap, fp, rfl, hr, hf, hxa⟩
 go_wp2_with fail
 refine (firstOf_any opsL s _ _ hr.rep).mono ?_
 rintro e w' ⟨rfl, rfl⟩
 have zz := lt_of_cell R0
 replace R0 := Ext.cell hxa R0
 replace R1 := Ext.cell hxa R1
 replace R2 := Ext.cell hxa R2
 replace F0 := fun o => ((bcell hxa).2 w.heap.size o zz).trans (F0 o)
 clear zz
 clear hr hf
 have hoz : (firstP opsL s).size <= 1048576 := by
  rcases firstP_mem opsL s with h | h
  · rw [h]; decide
  · exact ops_small _ h
 generalize firstP opsL s = op at *
 by_cases ho : op = ⟨#[]⟩
 rotate_left
 · have t3 := txt_ne ho
   have hN : Hid (tokL s.data.toList = (⟨6, op, 0⟩, op.size)) := LH (by rw [HB.out, HX.out, if_neg ho])
   clear ho
   go_wp2_with fail
   refine bodyPost_ret (v := .tuple #[.agg #[.int .i64 (6), .string (op), .int .i64 (0)], .int .i64 ((op.size : Int))]) (by simp [results, Tryz.results56, go_sem, R0, R1, R2, F0]) rfl ⟨⟨6, op, 0⟩, ?_, ?_, ?_⟩
   · rw [hN.out]; rfl
   · exact fun _ => congrArg Prod.fst (hN.out).symm
   · (repeat refine Ext.setCell ?_ (by omega) _)
     exact x1.trans hxa
 subst ho
 have HX2 : Hid (tokL s.data.toList = if firstP marksL s = ⟨#[]⟩ then noTok else (⟨7, firstP marksL s, 0⟩, (firstP marksL s).size)) := LH (by rw [HB.out, HX.out, if_pos rfl])
 clear HX
 go_wp2_with fail
 refine (markList_any _).mono ?_
 rintro e w2 ⟨ao, n, cap, fp, rfl, hr, hf, hxb⟩
 go_wp2_with fail
 refine (firstOf_any marksL s _ _ hr.rep).mono ?_
 rintro e w' ⟨rfl, rfl⟩
 have zz := lt_of_cell R0
 replace R0 := Ext.cell hxb R0
 replace R1 := Ext.cell hxb R1
 replace R2 := Ext.cell hxb R2
 replace F0 := fun o => ((bcell hxb).2 w.heap.size o zz).trans (F0 o)
 clear zz
 clear hr hf
 have hmz : (firstP marksL s).size <= 1048576 := by
  rcases firstP_mem marksL s with h | h
  · rw [h]; decide
  · exact marks_small _ h
 generalize firstP marksL s = mk at *
 have hN2 : Hid ((tokL s.data.toList).2 = mk.size) := LH (by
  rw [HX2.out]
  by_cases h : mk = ⟨#[]⟩
  · rw [if_pos h, h]; rfl
  · rw [if_neg h])
 have hN1 : Hid ((tokL s.data.toList).2 ≠ 0 -> (⟨7, mk, 0⟩ : MToken) = (tokL s.data.toList).1) := LH (by
  rw [hN2.out, HX2.out]
  intro h
  rw [if_neg fun e => h (by rw [e]; rfl)])
 go_wp2_with fail
 refine bodyPost_ret (v := .tuple #[.agg #[.int .i64 7, .string mk, .int .i64 0], .int .i64 mk.size]) (by simp [results, Tryz.results56, go_sem, R0, R1, R2, F0]) rfl ⟨⟨7, mk, 0⟩, ?_, hN1.out, ?_⟩
 · rw [hN2.out]; rfl
 · (repeat refine Ext.setCell ?_ (by omega) _)
   exact x1.trans (hxa.trans hxb)
theorem tokenAt_any (s : ByteArray) (w : World) (hs : s.size <= 1048576) (h0 : 0 < s.size) (hM : MaxOk w) :
 Calls Tryz.prog 56 #[.string s] w fun e w' => ∃ x : MToken, e = .returned (.tuple #[tokVal x, .int .i64 ((tokL s.data.toList).2 : Nat)]) /\ ((tokL s.data.toList).2 ≠ 0 -> x = (tokL s.data.toList).1) /\ Ext w w' := by
 cases hl : ltrB (s[0].toNat : Int)
 · cases hd : dgtB (s[0].toNat : Int)
   · by_cases hq : s[0] = 39
     · exact tokenAt_quo s w hs h0 hl hd hq
     · by_cases hp : s[0] = 35
       · exact tokenAt_sym s w hs h0 hl hd hq hp hM
       · exact tokenAt_op s w hs h0 hl hd hq hp
   · exact tokenAt_dgt s w hs h0 hl hd
 · exact tokenAt_ltr s w hs h0 hl
end Go.Proofs.YtndhpbjhkgdieaaGreatDoor
