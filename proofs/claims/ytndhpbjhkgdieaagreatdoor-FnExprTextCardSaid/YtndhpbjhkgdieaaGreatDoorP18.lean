/-
  CONTRACTS: the program's printer: the text of a message, of statements.
  Conditions: those that each lemma states.
-/
import Derived.Test.YtndhpbjhkgdieaaGreatDoorRows
import Derived.BigQuiet
import Derived.Test.YtndhpbjhkgdieaaGreatDoorP17
namespace Go.Proofs.YtndhpbjhkgdieaaGreatDoor
open Go.RowKit
set_option maxHeartbeats 8000000
set_option maxRecDepth 100000
set_option linter.unusedSimpArgs false
set_option linter.unusedVariables false
theorem wpList_append_strs_o {w : World} {ops : Array Oper} {rest : List Oper} {o : Oper} {a : Act} {Q : Exit -> Act -> World -> Prop} (hgd : o.guard = none) (s x : Operand)
 (ho : o.op = .call { callee := .builtin .append, args := #[s, x], argTypes := #[24, 24] })
 (B0 : Nat) (v : Value) (l : List ByteArray) (hs : a.eval s = v) (hacc : AccT B0 w v l)
 (ys : List ByteArray) (ao : Option Addr) (m c : Nat) (hx : a.eval x = .slice ao m c) (hr : Rep w (strs ys) [.slice ao m c])
 (hlen : l.length + ys.length <= 1073741824) (hbase : B0 <= w.heap.size)
 (h : ∀ ao' cap' w', AccT B0 w' (.slice ao' (l.length + ys.length) cap') (l ++ ys) -> w.grownBy w' v.ownBlock -> ((Value.slice ao' (l.length + ys.length) cap').ownBlock = v.ownBlock ∨ (Value.slice ao' (l.length + ys.length) cap').ownBlock = some w.heap.size) -> wpList Tryz.prog ops Q rest (a.put o.dst (.slice ao' (l.length + ys.length) cap')) w') : wpList Tryz.prog ops Q (o :: rest) a w := by
 obtain ⟨i0, hi, hz0, hz1, hz2⟩ := info_parts strInfo
 obtain ⟨gp, hr⟩ := hr
 have ht := hr.strs_tail
 obtain ⟨hm, hml, news, hnr, hsrc⟩ := hr.source
 rw [List.length_map] at hm
 subst hm
 have HACC := LH hacc
 unfold AccT Acc at hacc
 obtain ⟨xs, h1, h2, h3, h4⟩ := hacc
 rw [List.length_map] at h1
 refine wpList_plain hgd fun _ hK => ?_
 unfold Oper.wp execOp
 simp only [ho, resolve, invoke, builtin, Sem.run_bind, Sem.run_pure, Result.andThen_ok, List.map_toArray, List.map_cons, List.map_nil, hs, hx]
 rcases hsrc with ⟨rfl, h0, rfl, hy⟩ | ⟨ad, rfl, hcells⟩
 · have hy : ys = [] := by simpa using hy
   subst hy
   have hv : ∃ ao' cap', v = .slice ao' (l.length + ([] : List ByteArray).length) cap' := by
    rcases h1.2 with ⟨rfl, hn⟩ | ⟨g, cap, cur, rfl, _⟩
    · exact ⟨none, 0, by rw [hn]; rfl⟩
    · exact ⟨_, cap, rfl⟩
   obtain ⟨ao', cap', hv⟩ := hv
   have hrun : (Builtin.append_ #[24, 24] o.type #[v, .slice none ([] : List ByteArray).length 0]).run Tryz.prog w = .ok v w := run_append_owned_none (P := Tryz.prog) (w := w) B0 24 o.type 9 i0 1 Tryz.underlying24 hi v l.length xs h1
   rw [hrun]
   subst hv
   exact hK _ _ (h ao' cap' w (by rw [List.append_nil]; exact HACC.out) (World.grownBy.refl _ _) (Or.inl rfl))
 · obtain ⟨v', w', hrun, hown', hgrow, hnil, hat⟩ := run_append_own_at (P := Tryz.prog) w B0 24 o.type 9 i0 _ 1 16 Tryz.underlying24 hi hz0 hz1 hz2 rfl (by decide) v l.length xs h1 ad ys.length c news (by simpa using hnr.length) hcells (fun u hu => RepR.one_cell hnr u hu) (by simp only [maxLen]; omega) (by omega) hbase
   have hv : ∃ ao' cap', v' = .slice ao' (l.length + ys.length) cap' := by
    rcases hown'.2 with ⟨rfl, hn⟩ | ⟨g, cap, cur, rfl, _⟩
    · exact ⟨none, 0, by rw [hn]⟩
    · exact ⟨_, cap, rfl⟩
   obtain ⟨ao', cap', rfl⟩ := hv
   rw [hrun]
   refine hK _ _ (h ao' cap' w' ⟨xs ++ news, by rw [List.length_map, List.length_append]; exact hown', ?_, Fresh.nil _ _, by simp⟩ hgrow hat)
   rw [List.map_append]
   have := (h2.keep (w' := w') 1 (l.map D.str) (by simp)).append (hnr.keep (w' := w') 1 (ys.map D.str) (by rw [ht]; simp))
   rwa [ht] at this
theorem hd_append_keeps {w w' : World} {v : Value} {b : Nat} (hg : w.grownBy w' v.ownBlock) (hb : b < w.heap.size) (hn : v.ownBlock ≠ some b) : w'.heap[b]? = w.heap[b]? := hg.block b hb (fun e => hn e.symm)
theorem statementsText_any (n : Nat) (IH : Hid (TxtAt n)) (l : List MExpr) (v : Value) (w : World) (hz : Hid (∀ z, z ∈ l -> okR n true z)) (hb : wtL l <= 5000) (hm : MaxOk w) (ht : TabOk w) (rl : Rep w (MExprs l) [v]) :
 Calls Tryz.prog 36 #[v] w fun e w' => e = .returned (.string (mkB (jn [46, 32] (l.map (txE n))))) /\ Ext w w' := by
 have RL := LH rl
 obtain ⟨ao, ca, ba, oa, h1, hla, hma, pa, ha⟩ := Rep.slmap rl
 simp only [List.cons.injEq, and_true] at h1
 subst h1
 clear rl
 unfold maxLen at hma
 have HA := LH ha
 clear ha
 have hll : l.length <= wtL l := by unfold wtL; omega
 have hA0 : AccT w.heap.size (w.alloc (.cells #[] 9)) (.slice (some ⟨w.heap.size, 0, none⟩) 0 0) ((l.take 0).map fun z => mkB (txE n z)) := Acc.empty _ _ (Nat.le_refl _)
 have hy : Ext w (w.alloc (.cells #[] 9)) := (XR w).alloc _
 have CT : Hid (∀ z, z ∈ l -> ∀ (cz : List Value) (W : World), Ext w W -> Rep W z.d cz -> Calls Tryz.prog 16 #[.agg cz.toArray] W fun e w' => e = .returned (.string (mkB (txE n z))) /\ Ext W w') := LH fun z hzl cz W hW rz => IH.out z cz W (hz.out z hzl) (by have := wtL_mem hzl; omega) (hm.ext hW) (ht.ext hW) rz
 go_enter Tryz.func36, Tryz.ntmps36
 go_wp2_with fail
 go_loopw [3, 9] (fun pv iv wr => ∃ i : Nat, i <= l.length /\ iv = .int .i64 i /\ AccT w.heap.size wr pv ((l.take i).map fun z => mkB (txE n z)) /\ Ext w wr) (fun _ iv _ => l.length - (intOf iv).toNat)
 case atStart => exact ⟨0, Nat.zero_le _, rfl, hA0, hy⟩
 case round =>
  obtain ⟨i, hi, rfl, hacc, hx⟩ := hrel
  clear hA0 hy
  by_cases hlt : i < l.length
  · obtain rfl := pa (by omega)
    obtain ⟨ea, la, ca, ra⟩ := HA.out i l[i] (by simp [hlt])
    obtain ⟨na0, na1, na2, na3, rfl⟩ := mexpr_shut ra
    have a0 := hx.cell (show w.cell? ⟨ba, oa + i * 5, none⟩ = some _ from ca 0 (by omega))
    have a1 := hx.cell (show w.cell? ⟨ba, oa + i * 5 + 1, none⟩ = some _ from ca 1 (by omega))
    have a2 := hx.cell (show w.cell? ⟨ba, oa + i * 5 + 2, none⟩ = some _ from ca 2 (by omega))
    have a3 := hx.cell (show w.cell? ⟨ba, oa + i * 5 + 3, none⟩ = some _ from ca 3 (by omega))
    have a4 := hx.cell (show w.cell? ⟨ba, oa + i * 5 + 4, none⟩ = some _ from ca 4 (by omega))
    clear ca la
    have zq := lt_of_cell a0
    have HST : Hid (((l.take i).map fun z => mkB (txE n z)) ++ [mkB (txE n l[i])] = (l.take (i + 1)).map fun z => mkB (txE n z)) := LH (by rw [List.take_add_one, List.getElem?_eq_getElem hlt, List.map_append]; rfl)
    have hlen : ((l.take i).map fun z => mkB (txE n z)).length = i := by simp; omega
    have HM0 := LH (List.getElem_mem hlt)
    have RA := LH ra
    have hil : (i : Int) < l.length := by omega
    clear ra
    generalize hM0 : l[i] = M at *
    have C1 : Hid (∀ W, Ext wr W -> Calls Tryz.prog 16 #[.agg #[.int .i64 M.kind, .string M.text, .int .i64 M.number, .slice na0 M.names.length na1, .slice na2 M.kids.length na3]] W fun e w' => e = .returned (.string (mkB (txE n M))) /\ Ext W w') := LH fun W hW => CT.out M HM0.out _ W (hx.trans hW) (Rep.ext (hx.trans hW) RA.out)
    clear hM0
    generalize (l.take i).map (fun z => mkB (txE n z)) = P at *
    go_upto_region 5 with fail
    generalize hS : World.alloc wr _ = W1
    have x1 : Ext wr W1 := by rw [<- hS]; exact (XR _).alloc _
    have m0 : W1.cell? ⟨wr.heap.size, 0, none⟩ = some (.int .i64 M.kind) := by rw [<- hS]; simp <;> assumption
    have m1 : W1.cell? ⟨wr.heap.size, 1, none⟩ = some (.string M.text) := by rw [<- hS]; simp <;> assumption
    have m2 : W1.cell? ⟨wr.heap.size, 2, none⟩ = some (.int .i64 M.number) := by rw [<- hS]; simp <;> assumption
    have m3 : W1.cell? ⟨wr.heap.size, 3, none⟩ = some (.slice na0 M.names.length na1) := by rw [<- hS]; simp <;> assumption
    have m4 : W1.cell? ⟨wr.heap.size, 4, none⟩ = some (.slice na2 M.kids.length na3) := by rw [<- hS]; simp <;> assumption
    clear hS
    go_wp2_with fail
    refine (C1.out _ x1).mono ?_
    rintro e w5 ⟨rfl, hx5⟩
    have hac5 := (hacc.ext x1).ext hx5
    have hx45 := (hx.trans x1).trans hx5
    have hz5 := hx45.size
    go_wp2_with (at_builtin; refine wpList_append_strs rfl _ _ rfl w.heap.size _ P rfl (hac5.ext ((XR _).alloc _)) [mkB (txE n M)] _ _ _ rfl (rep_one _ _) (by first | omega | (simp; omega)) (by first | omega | (simp; omega)) ?_)
    intro ao3 cap3 w6 ac hg
    have hx6 : Ext w w6 := AccT.below (hac5.ext ((XR _).alloc (.cells #[.string (mkB (txE n M))] 9))) (hx45.alloc _) hg (by simp; omega)
    go_wp2_with fail
    go_roundw
    case rel => exact ⟨i + 1, by omega, by go_num, by rw [<- HST.out]; exact ac, hx6⟩
    case measure => simp [intOf]; omega
  · obtain rfl : i = l.length := by omega
    rw [List.take_length] at hacc
    obtain ⟨ao5, cap5, gp5, rfl, h5, -⟩ := hacc.rep
    rw [List.length_map] at h5 ⊢
    have H5 := LH h5.rep
    clear h5
    have HJ := LH (sep_len (f := txE n) l (fun z hzl => tx_len n z (hz.out z hzl)))
    have HB : Hid ((l.map fun z => mkB (txE n z)) = (l.map (txE n)).map mkB) := LH (by rw [List.map_map]; rfl)
    have HE : Hid (joinB (l.map fun z => mkB (txE n z)) ⟨#[46, 32]⟩ = mkB (jn [46, 32] (l.map (txE n)))) := LH (by
     have h := joinB_jn (sep := [46, 32]) (l := l.map (txE n)) (by have := HJ.out; omega)
     rw [<- HB.out] at h
     exact h)
    have HLN : Hid (Lib.lens ((l.map fun z => mkB (txE n z)).map (·.data.toList)) <= 1048576) := LH (by
     have h := jn_lens (sep := [46, 32]) (l.map (txE n))
     rw [HB.out, bsmk]
     have := HJ.out
     omega)
    have HJP : Hid ((jpart (l.map fun z => mkB (txE n z)) ⟨#[46, 32]⟩ (l.map fun z => mkB (txE n z)).length).length <= 1048576) := LH (by
     have h := jpart_jn [46, 32] (l.map (txE n))
     rw [<- HB.out] at h
     have := HJ.out
     rw [show (⟨#[46, 32]⟩ : ByteArray) = mkB [46, 32] from rfl, h]
     omega)
    go_wp2_with fail
    refine (strJoin_any (l.map fun z => mkB (txE n z)) ⟨#[46, 32]⟩ _ _ H5.out (by decide) (by simp; omega) HLN.out HJP.out).mono ?_
    rw [HE.out]
    rintro e w7 ⟨rfl, hx7⟩
    go_wp2_with fail
    go_ret
    exact ⟨rfl, hx.trans hx7⟩
def KeepC (w : World) (ps : List ByteArray) (b o : Nat) : Prop := ∀ (j : Nat) (x : ByteArray), ps[j]? = some x -> w.cell? ⟨b, o + j, none⟩ = some (.string x)
theorem kwY_length (f : YF) : ∀ (ps : List ByteArray) (l : List MExpr), ps.length = l.length -> (kwY f ps l).length = l.length
 | [], [], _ => rfl
 | p :: ps, a :: l, h => by rw [kwY, List.length_cons, List.length_cons, kwY_length f ps l (by simpa using h)]
theorem kwY_get (f : YF) : ∀ (ps : List ByteArray) (l : List MExpr) (i : Nat) (h1 : i < ps.length) (h2 : i < l.length), (kwY f ps l)[i]? = some (bs ps[i] ++ [58, 32] ++ partY f l[i] 2)
 | p :: ps, a :: l, 0, _, _ => rfl
 | p :: ps, a :: l, i + 1, h1, h2 => by
  rw [kwY, List.getElem?_cons_succ, kwY_get f ps l i (by simpa using h1) (by simpa using h2)]
  rfl
theorem messageText_any (n : Nat) (IH : Hid (TxtAt n)) (s : ByteArray) (l : List MExpr) (v : Value) (w : World) (hs : s.size <= 5000) (hz : Hid (∀ z, z ∈ l -> okR n false z)) (ha : (l.length : Int) = argsB s) (hb : wtL l <= 5000) (hm : MaxOk w) (ht : TabOk w) (rl : Rep w (MExprs l) [v]) :
 Calls Tryz.prog 33 #[.string s, v] w fun e w' => e = .returned (.string (mkB (msgY (txE n) s l))) /\ Ext w w' := by
 have HARGS := LH ha
 clear ha
 have RL := LH rl
 obtain ⟨ao, ca, ba, oa, h1, hla, hma, pa, ha⟩ := Rep.slmap rl
 simp only [List.cons.injEq, and_true] at h1
 subst h1
 clear rl
 unfold maxLen at hma
 have HA := LH ha
 clear ha
 have CP : Hid (∀ z, z ∈ l -> ∀ (need : Nat) (cz : List Value) (W : World), need <= 4 -> Ext w W -> Rep W z.d cz -> Calls Tryz.prog 66 #[.agg cz.toArray, .int .i64 need] W fun e w' => e = .returned (.string (mkB (partY (txE n) z need))) /\ Ext W w') := LH fun z hzl need cz W hn hW rz => part_any n IH z cz W need hn (okR_false.1 (hz.out z hzl)).2 (by have := wtL_mem hzl; omega) (hm.ext hW) (ht.ext hW) rz
 rcases bindM_cases s with hbm | hbm | hbm
 · have hkp := kw_parts hbm (by have := HARGS.out; omega)
   have HPL : Hid (((cutB 58 (stem s)).length : Int) = argsB s) := LH hkp.1
   have hpl : (cutB 58 (stem s)).length = l.length := by have := HARGS.out; omega
   have HV : Hid (msgY (txE n) s l = jn [32] (kwY (txE n) (cutB 58 (stem s)) l)) := LH (by unfold msgY; rw [if_neg (by omega), if_neg (by omega)])
   have hkb := hkp.2
   clear hkp
   go_enter Tryz.func33, Tryz.ntmps33
   go_wp2_with fail
   refine (messageBinding_any s _ (by omega) (hm.ext (XR _))).mono ?_
   rw [hbm]
   rintro e w2 ⟨rfl, hx2⟩
   go_wp2_with fail
   refine (partsOf_rep s _ hkb (by omega) (hm.ext (hx2.alloc _))).mono ?_
   rintro e w3 ⟨vp, rfl, hx3, rp⟩
   have hA0 : AccT w2.heap.size w3 (.slice (some ⟨w2.heap.size, 0, none⟩) 0 0) (((kwY (txE n) (cutB 58 (stem s)) l).take 0).map mkB) := AccT.ext (Acc.empty _ _ (Nat.le_refl _)) hx3
   have hy : Ext w2 w3 := ((XR w2).alloc _).trans hx3
   have hPS : Hid (∀ x, x ∈ cutB 58 (stem s) -> x.size <= 5000) := LH fun x h => by
    have := cutB_mem h
    have : (stem s).size <= s.size := by unfold stem; simp
    omega
   have HKL := LH (kwY_length (txE n) (cutB 58 (stem s)) l hpl)
   have HKG := LH (kwY_get (txE n) (cutB 58 (stem s)) l)
   have HML : Hid ((jn [32] (kwY (txE n) (cutB 58 (stem s)) l)).length <= 1000000) := LH (by
    have h := msg_len (f := txE n) (s := s) (l := l) HARGS.out (fun z hzl => tx_len n z (okR_false.1 (hz.out z hzl)).2)
    rw [HV.out] at h
    omega)
   have HVM : Hid (mkB (msgY (txE n) s l) = mkB (jn [32] (kwY (txE n) (cutB 58 (stem s)) l))) := LH (by rw [HV.out])
   have hll : l.length <= wtL l := by unfold wtL; omega
   obtain ⟨aop, cap0, bp, op, h1, hlp, hmp, pp, hap⟩ := Rep.strs rp
   simp only [List.cons.injEq, and_true] at h1
   subst h1
   unfold maxLen at hmp
   have HNB : Hid (0 < (cutB 58 (stem s)).length -> (Value.slice (some ⟨w2.heap.size, 0, none⟩) 0 0).ownBlock ≠ some bp) := LH fun h0 => by
    have hc := hap 0 _ (List.getElem?_eq_getElem h0)
    have hO : Own w3 w2.heap.size 9 #[] := (own_new w2 #[] 9).ext hx3
    intro e
    simp [Value.ownBlock] at e
    subst e
    rw [hO.cell] at hc
    simp at hc
   have HAP : Hid (KeepC w3 (cutB 58 (stem s)) bp op) := LH hap
   clear rp hap HV
   generalize hL0 : cutB 58 (stem s) = ps at *
   clear hL0
   rw [hpl]
   go_wp2_with fail
   go_loopw [5, 26] (fun pv iv wr => ∃ i : Nat, i <= l.length /\ iv = .int .i64 i /\ AccT w2.heap.size wr pv (((kwY (txE n) ps l).take i).map mkB) /\ Ext w2 wr /\ (0 < ps.length -> pv.ownBlock ≠ some bp) /\ KeepC wr ps bp op) (fun _ iv _ => l.length - (intOf iv).toNat)
   case atStart => exact ⟨0, Nat.zero_le _, rfl, hA0, hy, HNB.out, HAP.out⟩
   case round =>
    obtain ⟨i, hi, rfl, hacc, hx, hnb, hkc⟩ := hrel
    clear hA0 hy
    by_cases hlt : i < l.length
    · obtain rfl := pa (by omega)
      have hltp : i < ps.length := by omega
      obtain rfl := pp (by omega)
      have HNP := LH (hnb (by omega))
      have HKC := LH hkc
      clear hnb hkc
      have q0 := HKC.out i ps[i] (by simp [hltp])
      have hpz := hPS.out _ (List.getElem_mem hltp)
      have X := hx2.trans hx
      obtain ⟨ea, la, ca, ra⟩ := HA.out i l[i] (by simp [hlt])
      obtain ⟨na0, na1, na2, na3, rfl⟩ := mexpr_shut ra
      have a0 := X.cell (show w.cell? ⟨ba, oa + i * 5, none⟩ = some _ from ca 0 (by omega))
      have a1 := X.cell (show w.cell? ⟨ba, oa + i * 5 + 1, none⟩ = some _ from ca 1 (by omega))
      have a2 := X.cell (show w.cell? ⟨ba, oa + i * 5 + 2, none⟩ = some _ from ca 2 (by omega))
      have a3 := X.cell (show w.cell? ⟨ba, oa + i * 5 + 3, none⟩ = some _ from ca 3 (by omega))
      have a4 := X.cell (show w.cell? ⟨ba, oa + i * 5 + 4, none⟩ = some _ from ca 4 (by omega))
      clear ca la
      have zq := lt_of_cell a0
      have zp := lt_of_cell q0
      have HM0 := LH (List.getElem_mem hlt)
      have HST : Hid (((kwY (txE n) ps l).take i).map mkB ++ [ps[i] ++ ⟨#[58, 32]⟩ ++ mkB (partY (txE n) l[i] 2)] = ((kwY (txE n) ps l).take (i + 1)).map mkB) := LH (by
       rw [List.take_add_one, HKG.out i hltp hlt, List.map_append]
       simp only [Option.toList, List.map_cons, List.map_nil, mkB_app, mkB_bs]
       rfl)
      have hlen : (((kwY (txE n) ps l).take i).map mkB).length = i := by rw [List.length_map, List.length_take, HKL.out]; omega
      have HJZ : (mkB (partY (txE n) l[i] 2)).size <= 700000 := by
       have h1 := part_len (tx_len n l[i] (okR_false.1 (hz.out _ HM0.out)).2) 2
       have h2 := wtL_mem HM0.out
       rw [mkB_size]
       omega
      have RA := LH ra
      have hil : (i : Int) < l.length := by omega
      have hil2 : (i : Int) < ps.length := by omega
      clear ra
      have C1 : Hid (∀ W, Ext wr W -> Calls Tryz.prog 66 #[.agg #[.int .i64 l[i].kind, .string l[i].text, .int .i64 l[i].number, .slice na0 l[i].names.length na1, .slice na2 l[i].kids.length na3], .int .i64 2] W fun e w' => e = .returned (.string (mkB (partY (txE n) l[i] 2))) /\ Ext W w') := LH fun W hW => CP.out l[i] HM0.out 2 _ W (by decide) (X.trans hW) (Rep.ext (X.trans hW) RA.out)
      generalize mkB (partY (txE n) l[i] 2) = J at *
      generalize l[i] = M at *
      generalize ps[i] = p at *
      generalize ((kwY (txE n) ps l).take i).map mkB = P at *
      go_wp2_with fail
      refine (C1.out _ (XR _)).mono ?_
      rintro e w5 ⟨rfl, hx5⟩
      have hac5 := hacc.ext hx5
      have hx45 := hx.trans hx5
      have hz5 := hx45.size
      go_wp2_with (at_builtin; refine wpList_append_strs_o rfl _ _ rfl w2.heap.size _ P rfl (hac5.ext ((XR _).alloc _)) [p ++ ⟨#[58, 32]⟩ ++ J] _ _ _ rfl (rep_one _ _) (by first | omega | (simp; omega)) (by first | omega | (simp; omega)) ?_)
      intro ao3 cap3 w6 ac hg hat
      have hx6 : Ext w2 w6 := AccT.below (hac5.ext ((XR _).alloc (.cells #[.string (p ++ ⟨#[58, 32]⟩ ++ J)] 9))) (hx45.alloc _) hg (by simp; omega)
      have hz6 := hx5.size
      have hbp : bp < (w5.alloc (.cells #[.string (p ++ ⟨#[58, 32]⟩ ++ J)] 9)).heap.size := by simp; omega
      have hkp6 : KeepC w6 ps bp op := fun j x hj => by
       rw [World.cell?_of_block (a := ⟨bp, op + j, none⟩) (hd_append_keeps hg hbp HNP.out)]
       exact (hx5.alloc _).cell (HKC.out j x hj)
      have hnp6 : (Value.slice ao3 (i + 1) cap3).ownBlock ≠ some bp := by
       rcases hat with hat | hat
       · rw [hat]; exact HNP.out
       · rw [hat]; intro e; injection e with e; omega
      go_wp2_with fail
      go_roundw
      case rel => exact ⟨i + 1, by omega, by go_num, by rw [<- HST.out]; exact ac, hx6, fun _ => hnp6, hkp6⟩
      case measure => simp [intOf]; omega
    · obtain rfl : i = l.length := by omega
      rw [<- HKL.out, List.take_length] at hacc
      obtain ⟨ao5, cap5, gp5, rfl, h5, -⟩ := hacc.rep
      rw [List.length_map, HKL.out] at h5 ⊢
      have H5 := LH h5.rep
      clear h5
      have HE : Hid (joinB ((kwY (txE n) ps l).map mkB) ⟨#[32]⟩ = mkB (jn [32] (kwY (txE n) ps l))) := LH (joinB_jn (sep := [32]) (by have := HML.out; omega))
      have HLN : Hid (Lib.lens (((kwY (txE n) ps l).map mkB).map (·.data.toList)) <= 1048576) := LH (by
       have h := jn_lens (sep := [32]) (kwY (txE n) ps l)
       rw [bsmk]
       have := HML.out
       omega)
      have HJP : Hid ((jpart ((kwY (txE n) ps l).map mkB) ⟨#[32]⟩ ((kwY (txE n) ps l).map mkB).length).length <= 1048576) := LH (by
       have h := jpart_jn [32] (kwY (txE n) ps l)
       have := HML.out
       rw [show (⟨#[32]⟩ : ByteArray) = mkB [32] from rfl, h]
       omega)
      go_wp2_with fail
      refine (strJoin_any ((kwY (txE n) ps l).map mkB) ⟨#[32]⟩ _ _ H5.out (by decide) (by rw [List.length_map, HKL.out]; omega) HLN.out HJP.out).mono ?_
      rw [HE.out]
      rintro e w7 ⟨rfl, hx7⟩
      go_wp2_with fail
      go_ret
      exact ⟨by rw [HVM.out]; rfl, (hx2.trans hx).trans hx7⟩
 · have HV : Hid (msgY (txE n) s l = bs s ++ [32] ++ partY (txE n) (kidE l 0) 3) := LH (by unfold msgY; rw [if_neg (by omega), if_pos hbm])
   have hl1 : l.length = 1 := by have := (bindM_args.2.1 hbm).1; have := HARGS.out; omega
   have hlt : 0 < l.length := by omega
   obtain rfl := pa (by omega)
   obtain ⟨ea, la, ca, ra⟩ := HA.out 0 l[0] (by simp [hlt])
   obtain ⟨na0, na1, na2, na3, rfl⟩ := mexpr_shut ra
   have a0 := (XR w).cell (show w.cell? ⟨ba, oa + 0 * 5, none⟩ = some _ from ca 0 (by omega))
   have a1 := (XR w).cell (show w.cell? ⟨ba, oa + 0 * 5 + 1, none⟩ = some _ from ca 1 (by omega))
   have a2 := (XR w).cell (show w.cell? ⟨ba, oa + 0 * 5 + 2, none⟩ = some _ from ca 2 (by omega))
   have a3 := (XR w).cell (show w.cell? ⟨ba, oa + 0 * 5 + 3, none⟩ = some _ from ca 3 (by omega))
   have a4 := (XR w).cell (show w.cell? ⟨ba, oa + 0 * 5 + 4, none⟩ = some _ from ca 4 (by omega))
   clear ca la
   simp only [Nat.zero_mul, Nat.add_zero] at a0 a1 a2 a3 a4
   have K0 : Hid (kidE l 0 = l[0]) := LH (by unfold kidE; rw [List.getD, List.getElem?_eq_getElem hlt]; rfl)
   have HM0 := LH (List.getElem_mem hlt)
   have HV2 : Hid (mkB (msgY (txE n) s l) = s ++ ⟨#[32]⟩ ++ mkB (partY (txE n) l[0] 3)) := LH (by rw [HV.out, K0.out, mkB_app, mkB_app, mkB_bs]; rfl)
   have HJZ : (mkB (partY (txE n) l[0] 3)).size <= 700000 := by
    have h1 := part_len (tx_len n l[0] (okR_false.1 (hz.out _ HM0.out)).2) 3
    have h2 := wtL_mem HM0.out
    rw [mkB_size]
    omega
   have RA := LH ra
   clear ra
   have zq := lt_of_cell a0
   go_enter Tryz.func33, Tryz.ntmps33
   go_wp2_with fail
   refine (messageBinding_any s _ (by omega) (hm.ext (XR _))).mono ?_
   rw [hbm]
   rintro e w2 ⟨rfl, hx2⟩
   replace a0 := hx2.cell a0
   replace a1 := hx2.cell a1
   replace a2 := hx2.cell a2
   replace a3 := hx2.cell a3
   replace a4 := hx2.cell a4
   replace zq := lt_of_cell a0
   go_wp2_with fail
   refine (CP.out l[0] HM0.out 3 _ _ (by decide) (by first | exact hx2 | exact hx2.alloc _) (Rep.ext (by first | exact hx2 | exact hx2.alloc _) RA.out)).mono ?_
   generalize mkB (partY (txE n) l[0] 3) = J at *
   rintro e w3 ⟨rfl, hx3⟩
   go_wp2_with fail
   go_ret
   exact ⟨by rw [HV2.out]; rfl, by first | exact hx2.trans hx3 | exact (hx2.alloc _).trans hx3⟩
 · have HV : Hid (mkB (msgY (txE n) s l) = s) := LH (by unfold msgY; rw [if_pos hbm, mkB_bs])
   go_enter Tryz.func33, Tryz.ntmps33
   go_wp2_with fail
   refine (messageBinding_any s _ (by omega) (hm.ext (XR _))).mono ?_
   rw [hbm]
   rintro e w2 ⟨rfl, hx2⟩
   go_wp2_with fail
   go_ret
   exact ⟨by rw [HV.out]; rfl, hx2⟩
end Go.Proofs.YtndhpbjhkgdieaaGreatDoor
