/-
  CONTRACTS: the program's parser: block.
  Conditions: those that each lemma states.
-/
import Derived.Test.YtndhpbjhkgdieaaGreatDoorRows
import Derived.Test.YtndhpbjhkgdieaaGreatDoorP31
namespace Go.Proofs.YtndhpbjhkgdieaaGreatDoor
open Go.RowKit
set_option maxHeartbeats 8000000
set_option maxRecDepth 100000
set_option linter.unusedSimpArgs false
set_option linter.unusedVariables false
theorem Todo.call0 {α β : Type} {b0 b b' : Bool} {G F : Nat -> Option β} {f : Nat -> Option α} {g : Nat -> α -> Option β} {y : α} (h : Todo b0 G b F) (c : Got b f b' y) (hF : ∀ n, F n = (f n).bind (g n)) : Todo b0 G b' (fun n => g n y) := by
 have e : F = fun n => (f n).bind (g n) := funext hF
 subst e
 exact h.trans ⟨c.keep, fun e e2 => Ev.bind_none (c.no e e2), fun e e2 r hr => Ev.bind (c.yes e e2) hr⟩
theorem step_append_strs_at {w : World} {ops : Array Oper} {o : Oper} {a : Act} {K : Act -> World -> Prop} {Q : Exit -> Act -> World -> Prop} {E : Prop} (hgd : o.guard = none) (s x : Operand)
 (ho : o.op = .call { callee := .builtin .append, args := #[s, x], argTypes := #[24, 24] })
 (B0 : Nat) (v : Value) (l : List ByteArray) (hs : a.eval s = v) (hacc : AccT B0 w v l)
 (ys : List ByteArray) (ao : Option Addr) (m c : Nat) (hx : a.eval x = .slice ao m c) (hr : Rep w (strs ys) [.slice ao m c])
 (hlen : l.length + ys.length <= 1073741824) (hbase : B0 <= w.heap.size)
 (h : ∀ ao' cap' w', AccT B0 w' (.slice ao' (l.length + ys.length) cap') (l ++ ys) -> w.grownBy w' v.ownBlock -> ((Value.slice ao' (l.length + ys.length) cap').ownBlock = v.ownBlock ∨ (Value.slice ao' (l.length + ys.length) cap').ownBlock = some w.heap.size) -> K (a.put o.dst (.slice ao' (l.length + ys.length) cap')) w') : if Region.wanted o (yielded ops a.tmps) = true then Oper.wp Tryz.prog o a w K Q else E := by
 obtain ⟨i0, hi, hz0, hz1, hz2⟩ := info_parts strInfo
 obtain ⟨gp, hr⟩ := hr
 have ht := hr.strs_tail
 have hm : m = ys.length := by
  obtain ⟨_, _, h1, _⟩ := RepF.sl_iff.1 hr
  simp at h1; omega
 subst hm
 refine step_append_at hgd s x 24 ho B0 9 i0 _ 1 16 Tryz.underlying24 hi hz0 hz1 hz2 rfl (by decide) v (l.map .str) [] hs hacc (ys.map .str) ao ys.length c gp hx hr (by rw [ht]; exact Fresh.nil _ _) (by rw [ht]; simp) (by simp [maxLen]; omega) (by simp; omega) hbase ?_
 intro ao' cap' w' h2 h3 h4
 rw [ht] at h2
 simp only [List.length_map, List.append_nil, <- List.map_append] at h2 h4 ⊢
 exact h ao' cap' w' h2 h3 h4
theorem block_at {B tb to_ cap : Nat} {ao : Option Addr} {ts : List MToken} {a : Nat} (HST : ∀ a', a <= a' -> StmAt B tb to_ cap ao ts a') : BlockAt B tb to_ cap ao ts a := by
 intro w b h
 have HP := LH h
 have hln := h.len
 have hle := h.le
 have hrb := h.own.lt
 have HST := LH HST
 have H0 := LH (Todo.refl b (fun n => pPars ts n [] a))
 clear h
 go_enter Tryz.func130, Tryz.ntmps130
 go_upto_region 2 with fail
 generalize hS : World.alloc (World.alloc w _) _ = W1
 have R1 : Own W1 (w.heap.size + 1) 27 #[.int .i64 8, .string ⟨#[]⟩, .int .i64 0, .slice none 0 0, .slice none 0 0] /\ Own W1 w.heap.size 27 #[.int .i64 0, .string ⟨#[]⟩, .int .i64 0, .slice none 0 0, .slice none 0 0] /\ Ext w W1 := by
  rw [<- hS]
  have o1 := own_new w #[.int .i64 0, .string ⟨#[]⟩, .int .i64 0, .slice none 0 0, .slice none 0 0] 27
  have o2 := own_new (w.alloc (.cells #[.int .i64 0, .string ⟨#[]⟩, .int .i64 0, .slice none 0 0, .slice none 0 0] 27)) #[.int .i64 8, .string ⟨#[]⟩, .int .i64 0, .slice none 0 0, .slice none 0 0] 27
  simp at o2
  exact ⟨o2, o1.ext ((XR _).alloc _), ((XR w).alloc _).alloc _⟩
 have O1 := LH R1.1
 have OR1 := LH R1.2.1
 have x1 := R1.2.2
 have HP1 := LH (HP.out.ext x1)
 clear hS R1
 go_loopw [] (fun wr => ∃ (l : List ByteArray) (nv : Value) (j : Nat) (bj : Bool), Own wr (w.heap.size + 1) 27 #[.int .i64 8, .string ⟨#[]⟩, .int .i64 l.length, nv, .slice none 0 0] /\ Own wr w.heap.size 27 #[.int .i64 0, .string ⟨#[]⟩, .int .i64 0, .slice none 0 0, .slice none 0 0] /\ AccT (w.heap.size + 2) wr nv l /\ Prs 49 B tb to_ cap ao ts wr (j) bj /\ Hid (Todo b (fun n => pPars ts n [] a) bj (fun n => pPars ts n l j)) /\ l.length + a <= j /\ Touch w wr [B]) (fun wr => ts.length + 1 - placeOf B wr)
 case atStart => exact ⟨[], _, a, b, O1.out, OR1.out, Acc.nil _ _ _ _, HP1.out, H0, by simp, Touch.of_ext x1 _⟩
 case round =>
  clear O1 OR1 HP1 H0 x1
  obtain ⟨l, nv, j, bj, hO, hOR, hA, hp, HTD, hlj, hT⟩ := hrel
  have HO := LH hO
  have HR := LH hOR
  have HA := LH hA
  have HPM := LH hp
  have HT := LH hT
  have hjl := hp.le
  have hws := hT.size
  have hoz := hO.lt
  clear hO hOR hA hp hT
  cases hc : tkxB ts j 7 colM
  · have HE := LH (eat_no wr HPM.out 7 ⟨#[58]⟩ (by decide) hc)
    have HG : Hid (Got b (fun n => pPars ts n [] a) bj (l, j)) := LH (HTD.out.done (fun n => by rw [pPars, if_neg (by rw [hc]; decide)]))
    clear hc HTD
    go_wp2_with fail
    refine HE.out.mono ?_
    rintro e w1 ⟨rfl, K1, T1⟩
    have HO1 := LH (HO.out.touch' T1 (by simp; omega))
    have HR1 := LH (HR.out.touch' T1 (by simp; omega))
    have HA1 := LH (AccT.low HA.out T1 (fun k hk => by simp at hk; omega))
    have HT1 := LH (HT.out.trans T1)
    have HP1 := LH K1
    have hs1 := T1.size
    clear K1 T1 HO HR HA HT HE HPM
    have q2 : w1.cell? ⟨w.heap.size + 1, 2, none⟩ = some (.int .i64 l.length) := HO1.out.cell 2
    have qz := HO1.out.lt
    have HTD1 := LH ((Todo.refl b (fun n => pBody ts n a)).call HG.out (g := fun n p => if (p.1.length ≠ 0 /\ tkxB ts p.2 7 barM = false) then none else (pVars ts n (if p.1.length ≠ 0 then p.2 + 1 else p.2)).bind fun v => (pStmts ts n [] v.2).bind fun b => some (blockM p.1 v.1 b.1, b.2)) (fun n => by rw [pBody]))
    clear HG
    by_cases hl0 : l.length = 0
    · have hd : decide (0 < l.length) = false := decide_eq_false (by omega)
      have HTD2 : Hid (Todo b (fun n => pBody ts n a) bj (fun n => (pVars ts n j).bind fun v => (pStmts ts n [] v.2).bind fun b => some (blockM l v.1 b.1, b.2))) := LH (by
       have := HTD1.out
       simp only [hl0, ne_eq, not_true_eq_false, false_and, if_false] at this
       exact this)
      clear HTD1 hl0
      go_wp2_with fail
      have HP2 := LH HP1.out
      have HO2 := LH HO1.out
      have HR2 := LH HR1.out
      have HA2 := LH HA1.out
      have HT2 := LH HT1.out
      have hs2 := hs1
      generalize w1 = w2 at *
      have b3 : w2.cell? ⟨w.heap.size + 1, 3, none⟩ = some nv := HO2.out.cell 3
      have bz := HO2.out.lt
      have hjl2 := HP2.out.le
      have HC := LH (fun (W : World) (hW : Ext w2 W) => vars_any W (HP2.out.ext hW))
      have HOX := LH (fun (W : World) (w3 : World) (hW : Ext w2 W) (T : Touch W w3 [B]) => (HO2.out.ext hW).touch' T (by simp; omega))
      have HAX := LH (fun (W : World) (w3 : World) (hW : Ext w2 W) (T : Touch W w3 [B]) => AccT.low (AccT.ext HA2.out hW) T (fun k hk => by simp at hk; omega))
      have HSZ := LH (fun (W : World) (w3 : World) (hW : Ext w2 W) (T : Touch W w3 [B]) => Nat.le_trans hW.size T.size)
      have HGE : Hid (∀ k, k ∈ nv.ownBlock.toList -> w.heap.size + 2 <= k) := LH (fun k hk => (Acc.ge HA2.out (k := k) (by simpa using hk)).1)
      go_region_law ((first
       | (refine step_append_strs_at rfl _ _ rfl (w.heap.size + 2) nv l rfl (HAX.out _ w3 (Ext.drew (XR _)) T3) l3 _ _ _ rfl ⟨_, r3⟩ (by omega) (by have := HSZ.out _ w3 (Ext.drew (XR _)) T3; omega) ?_; intro ao2 cap2 w7 ac hg hloc; have TG : Touch _ w7 nv.ownBlock.toList := (Touch.of_ext (XR _) _).grown hg (fun k hk => Or.inl (by simp [hk])); have O7 := (HOX.out _ w3 (Ext.drew (XR _)) T3).touch' TG (fun hm => by have := HGE.out _ hm; omega); have c7 := O7.cell 3; have f7 := O7.f3; have z7 := O7.lt)
       | (go_simp; go_wp2_with ((refine (HC.out _ (by first | exact Ext.drew (XR _) | exact XR _)).mono ?_; rintro e w3 ⟨v3, l3, j3, b3', rfl, A3, K3, hg3, hj3, hl3, T3⟩; obtain ⟨ao3, cap3, gp3, rfl, r3, fr3⟩ := AccT.rep A3; have hj3k := K3.le; have b32 : w3.cell? ⟨w.heap.size + 1, 3, none⟩ = some nv := (HOX.out _ w3 (Ext.drew (XR _)) T3).cell 3; have bz2 := (HOX.out _ w3 (Ext.drew (XR _)) T3).lt)))))
      all_goals
       have hsz3 := HSZ.out _ w3 (Ext.drew (XR _)) T3
       have HTD3 := LH (HTD2.out.call0 hg3 (g := fun n v => (pStmts ts n [] v.2).bind fun b => some (blockM l v.1 b.1, b.2)) (fun n => rfl))
       generalize hv1 : Value.slice ao2 (l.length + l3.length) cap2 = v1 at *
       generalize hS : World.setCell w7 _ v1 = W9
       have Tb : Touch w7 W9 [w.heap.size + 1] := by rw [<- hS]; exact (Touch.of_ext (XR _) _).setCell (by simp) _
       have O9 : Own W9 (w.heap.size + 1) 27 #[.int .i64 8, .string ⟨#[]⟩, .int .i64 l.length, v1, .slice none 0 0] := by rw [<- hS]; exact O7.set 3 v1
       have A9 : AccT (w.heap.size + 2) W9 v1 (l ++ l3) := AccT.low ac Tb (fun k hk => by simp at hk; omega)
       have T7 : Touch w3 W9 ((w.heap.size + 1) :: nv.ownBlock.toList) := (TG.mono (fun k hk => List.mem_cons_of_mem _ hk)).trans (Tb.mono (fun k hk => by simp at hk; simp [hk]))
       have hF7 : ∀ k, k ∈ (w.heap.size + 1) :: nv.ownBlock.toList -> w.heap.size < k := fun k hk => by
        rcases List.mem_cons.1 hk with rfl | hk
        · omega
        · have := HGE.out k hk; omega
       have P9 := HP.out.late K3 T7 (fun k hk => by have := hF7 k hk; omega)
       have OR9 := ((HR2.out.ext (Ext.drew (XR _))).touch' T3 (by simp; omega)).touch' T7 (fun hm => by have := hF7 _ hm; omega)
       have T9 : Touch w W9 [B] := ((HT2.out.trans (Touch.of_ext (Ext.drew (XR _)) [B])).trans T3).late2 T7 (fun k hk => by have := hF7 k hk; omega)
       have HP9 := LH P9
       have HOR9 := LH OR9
       have HA9 := LH A9
       have HT9 := LH T9
       have HO9 := LH O9
       have h9z := O9.lt
       have HST9 := LH (HST.out j3 (by omega) W9 b3' P9)
       clear hS Tb O9 A9 T7 hF7 P9 OR9 T9 ac hg hloc TG O7 c7 f7 z7 K3 T3 b32 bz2 b3 bz HC HAX HOX HSZ HGE HO2 HR2 HA2 HT2 HP2 A3 r3 fr3 hg3 HTD2
       go_wp2_with fail
       refine HST9.out.mono ?_
       rintro e wA ⟨lk, vk, jA, bA, rfl, aA, pA, gA, hA, tA⟩
       have OA := HO9.out.touch' tA (by simp; omega)
       have ORA := HOR9.out.touch' tA (by simp; omega)
       obtain ⟨an, cn, gn, hvn, rn, fn⟩ := AccT.rep (AccT.low HA9.out tA (fun k hk => by simp at hk; omega))
       obtain ⟨ak, ck, gk, rfl, rk, fk⟩ := AccX.rep aA
       have HNA := LH rn
       have HFN := LH fn
       have HKA := LH rk
       have HFK := LH fk
       clear rn fn rk fk hv1
       subst hvn
       have HPA := LH pA
       have HTA := LH (HT9.out.trans tA)
       have hsA := tA.size
       have HGA := LH ((HTD3.out.call0 gA (g := fun n b => some (blockM l l3 b.1, b.2)) (fun n => rfl)).done (fun n => rfl))
       clear aA pA gA tA HO9 HOR9 HA9 HT9 HP9 HTD3 HST9
       have o0 := OA.k0
       have of0 := OA.f0
       have o1 := OA.k1
       have of1 := OA.f1
       have o2 := OA.k2
       have of2 := OA.f2
       have o3 := OA.k3
       have of3 := OA.f3
       have o4 := OA.k4
       have of4 := OA.f4
       have oz := OA.lt
       have r0 := ORA.k0
       have rf0 := ORA.f0
       have r1 := ORA.k1
       have rf1 := ORA.f1
       have r2 := ORA.k2
       have rf2 := ORA.f2
       have r3 := ORA.k3
       have rf3 := ORA.f3
       have r4 := ORA.k4
       have rf4 := ORA.f4
       have rz := ORA.lt
       go_wp2_with fail
       clear o0 of0 o1 of1 o2 of2 o3 of3 o4 of4 r0 rf0 r1 rf1 r2 rf2 r3 rf3 r4 rf4 oz rz
       generalize hW : World.setCell wA _ _ = wB
       have Tx : Touch wA wB [w.heap.size + 1] := by rw [<- hW]; exact (Touch.of_ext (XR _) _).setCell (by simp) _
       have ORB := ORA.touch' Tx (by simp)
       clear hW
       generalize hS : World.setCell (World.setCell (World.setCell (World.setCell (World.setCell wB _ _) _ _) _ _) _ _) _ _ = W5
       obtain ⟨O5, T5⟩ := own5 ORB (.int .i64 8) (.string ⟨#[]⟩) (.int .i64 l.length) (.slice an (l.length + l3.length) cn) (.slice ak lk.length ck)
       rw [hS] at O5 T5
       clear hS
       have p0 := O5.k0
       have p1 := O5.k1
       have p2 := O5.k2
       have p3 := O5.k3
       have p4 := O5.k4
       have pz := O5.lt
       have Ty : Touch wA W5 [w.heap.size + 1, w.heap.size] := (Tx.mono (by simp)).trans (T5.mono (by simp))
       have rn5 := HNA.out.touch Ty (fun k hk hm => by have := (HFN.out.ge k hk); simp at hm; omega)
       have rk5 := HKA.out.touch Ty (fun k hk hm => by have := (HFK.out k hk); simp at hm; omega)
       rw [List.length_append] at rn5
       have R5 := MExpr.shut (x := blockM l l3 lk) rn5 rk5
       rw [List.append_nil] at R5
       have FIN : EGot B tb to_ cap ao ts 0 w a b (fun n => pBody ts n a) (.returned (.agg #[.int .i64 8, .string ⟨#[]⟩, .int .i64 l.length, .slice an (l.length + l3.length) cn, .slice ak lk.length ck])) W5 := ⟨blockM l l3 lk, _, _, jA, bA, rfl, R5, fun k hk => by
        rcases List.mem_append.1 hk with hk | hk
        · have := HFN.out.ge k hk; omega
        · have := HFK.out k hk; omega, HP.out.late HPA.out Ty (fun k hk => by simp at hk; omega), HGA.out, ⟨by omega, fun _ => Or.inr rfl⟩, HTA.out.late2 Ty (fun k hk => by simp at hk; omega)⟩
       exact bodyPost_ret (v := .agg #[.int .i64 8, .string ⟨#[]⟩, .int .i64 l.length, .slice an (l.length + l3.length) cn, .slice ak lk.length ck]) (by simp [results, Tryz.results130, go_sem, p0, p1, p2, p3, p4, pz]) rfl FIN
    have hd : decide (0 < l.length) = true := decide_eq_true (by omega)
    cases hb : tkxB ts j 7 barM
    · have HTD2 : Hid (Todo b (fun n => pBody ts n a) true (fun n => (pVars ts n j).bind fun v => (pStmts ts n [] v.2).bind fun b => some (blockM l v.1 b.1, b.2))) := LH (HTD1.out.badly (fun n => by show (if _ then _ else _) = _; rw [if_pos ⟨hl0, hb⟩]))
      have HW2 := LH (want_no w1 HP1.out 7 ⟨#[124]⟩ (by decide) hb)
      clear HTD1 hl0 hb
      go_wp2_with fail
      refine HW2.out.mono ?_
      rintro e w2 ⟨rfl, K2, T2⟩
      have HP2 := LH K2
      have HO2 := LH (HO1.out.touch' T2 (by simp; omega))
      have HR2 := LH (HR1.out.touch' T2 (by simp; omega))
      have HA2 := LH (AccT.low HA1.out T2 (fun k hk => by simp at hk; omega))
      have HT2 := LH (HT1.out.trans T2)
      have hs2 := Nat.le_trans hs1 T2.size
      clear K2 T2 HW2
      go_wp2_with fail
      have b3 : w2.cell? ⟨w.heap.size + 1, 3, none⟩ = some nv := HO2.out.cell 3
      have bz := HO2.out.lt
      have hjl2 := HP2.out.le
      have HC := LH (fun (W : World) (hW : Ext w2 W) => vars_any W (HP2.out.ext hW))
      have HOX := LH (fun (W : World) (w3 : World) (hW : Ext w2 W) (T : Touch W w3 [B]) => (HO2.out.ext hW).touch' T (by simp; omega))
      have HAX := LH (fun (W : World) (w3 : World) (hW : Ext w2 W) (T : Touch W w3 [B]) => AccT.low (AccT.ext HA2.out hW) T (fun k hk => by simp at hk; omega))
      have HSZ := LH (fun (W : World) (w3 : World) (hW : Ext w2 W) (T : Touch W w3 [B]) => Nat.le_trans hW.size T.size)
      have HGE : Hid (∀ k, k ∈ nv.ownBlock.toList -> w.heap.size + 2 <= k) := LH (fun k hk => (Acc.ge HA2.out (k := k) (by simpa using hk)).1)
      go_region_law ((first
       | (refine step_append_strs_at rfl _ _ rfl (w.heap.size + 2) nv l rfl (HAX.out _ w3 (Ext.drew (XR _)) T3) l3 _ _ _ rfl ⟨_, r3⟩ (by omega) (by have := HSZ.out _ w3 (Ext.drew (XR _)) T3; omega) ?_; intro ao2 cap2 w7 ac hg hloc; have TG : Touch _ w7 nv.ownBlock.toList := (Touch.of_ext (XR _) _).grown hg (fun k hk => Or.inl (by simp [hk])); have O7 := (HOX.out _ w3 (Ext.drew (XR _)) T3).touch' TG (fun hm => by have := HGE.out _ hm; omega); have c7 := O7.cell 3; have f7 := O7.f3; have z7 := O7.lt)
       | (go_simp; go_wp2_with ((refine (HC.out _ (by first | exact Ext.drew (XR _) | exact XR _)).mono ?_; rintro e w3 ⟨v3, l3, j3, b3', rfl, A3, K3, hg3, hj3, hl3, T3⟩; obtain ⟨ao3, cap3, gp3, rfl, r3, fr3⟩ := AccT.rep A3; have hj3k := K3.le; have b32 : w3.cell? ⟨w.heap.size + 1, 3, none⟩ = some nv := (HOX.out _ w3 (Ext.drew (XR _)) T3).cell 3; have bz2 := (HOX.out _ w3 (Ext.drew (XR _)) T3).lt)))))
      all_goals
       have hsz3 := HSZ.out _ w3 (Ext.drew (XR _)) T3
       have HTD3 := LH (HTD2.out.call0 hg3 (g := fun n v => (pStmts ts n [] v.2).bind fun b => some (blockM l v.1 b.1, b.2)) (fun n => rfl))
       generalize hv1 : Value.slice ao2 (l.length + l3.length) cap2 = v1 at *
       generalize hS : World.setCell w7 _ v1 = W9
       have Tb : Touch w7 W9 [w.heap.size + 1] := by rw [<- hS]; exact (Touch.of_ext (XR _) _).setCell (by simp) _
       have O9 : Own W9 (w.heap.size + 1) 27 #[.int .i64 8, .string ⟨#[]⟩, .int .i64 l.length, v1, .slice none 0 0] := by rw [<- hS]; exact O7.set 3 v1
       have A9 : AccT (w.heap.size + 2) W9 v1 (l ++ l3) := AccT.low ac Tb (fun k hk => by simp at hk; omega)
       have T7 : Touch w3 W9 ((w.heap.size + 1) :: nv.ownBlock.toList) := (TG.mono (fun k hk => List.mem_cons_of_mem _ hk)).trans (Tb.mono (fun k hk => by simp at hk; simp [hk]))
       have hF7 : ∀ k, k ∈ (w.heap.size + 1) :: nv.ownBlock.toList -> w.heap.size < k := fun k hk => by
        rcases List.mem_cons.1 hk with rfl | hk
        · omega
        · have := HGE.out k hk; omega
       have P9 := HP.out.late K3 T7 (fun k hk => by have := hF7 k hk; omega)
       have OR9 := ((HR2.out.ext (Ext.drew (XR _))).touch' T3 (by simp; omega)).touch' T7 (fun hm => by have := hF7 _ hm; omega)
       have T9 : Touch w W9 [B] := ((HT2.out.trans (Touch.of_ext (Ext.drew (XR _)) [B])).trans T3).late2 T7 (fun k hk => by have := hF7 k hk; omega)
       have HP9 := LH P9
       have HOR9 := LH OR9
       have HA9 := LH A9
       have HT9 := LH T9
       have HO9 := LH O9
       have h9z := O9.lt
       have HST9 := LH (HST.out j3 (by omega) W9 b3' P9)
       clear hS Tb O9 A9 T7 hF7 P9 OR9 T9 ac hg hloc TG O7 c7 f7 z7 K3 T3 b32 bz2 b3 bz HC HAX HOX HSZ HGE HO2 HR2 HA2 HT2 HP2 A3 r3 fr3 hg3 HTD2
       go_wp2_with fail
       refine HST9.out.mono ?_
       rintro e wA ⟨lk, vk, jA, bA, rfl, aA, pA, gA, hA, tA⟩
       have OA := HO9.out.touch' tA (by simp; omega)
       have ORA := HOR9.out.touch' tA (by simp; omega)
       obtain ⟨an, cn, gn, hvn, rn, fn⟩ := AccT.rep (AccT.low HA9.out tA (fun k hk => by simp at hk; omega))
       obtain ⟨ak, ck, gk, rfl, rk, fk⟩ := AccX.rep aA
       have HNA := LH rn
       have HFN := LH fn
       have HKA := LH rk
       have HFK := LH fk
       clear rn fn rk fk hv1
       subst hvn
       have HPA := LH pA
       have HTA := LH (HT9.out.trans tA)
       have hsA := tA.size
       have HGA := LH ((HTD3.out.call0 gA (g := fun n b => some (blockM l l3 b.1, b.2)) (fun n => rfl)).done (fun n => rfl))
       clear aA pA gA tA HO9 HOR9 HA9 HT9 HP9 HTD3 HST9
       have o0 := OA.k0
       have of0 := OA.f0
       have o1 := OA.k1
       have of1 := OA.f1
       have o2 := OA.k2
       have of2 := OA.f2
       have o3 := OA.k3
       have of3 := OA.f3
       have o4 := OA.k4
       have of4 := OA.f4
       have oz := OA.lt
       have r0 := ORA.k0
       have rf0 := ORA.f0
       have r1 := ORA.k1
       have rf1 := ORA.f1
       have r2 := ORA.k2
       have rf2 := ORA.f2
       have r3 := ORA.k3
       have rf3 := ORA.f3
       have r4 := ORA.k4
       have rf4 := ORA.f4
       have rz := ORA.lt
       go_wp2_with fail
       clear o0 of0 o1 of1 o2 of2 o3 of3 o4 of4 r0 rf0 r1 rf1 r2 rf2 r3 rf3 r4 rf4 oz rz
       generalize hW : World.setCell wA _ _ = wB
       have Tx : Touch wA wB [w.heap.size + 1] := by rw [<- hW]; exact (Touch.of_ext (XR _) _).setCell (by simp) _
       have ORB := ORA.touch' Tx (by simp)
       clear hW
       generalize hS : World.setCell (World.setCell (World.setCell (World.setCell (World.setCell wB _ _) _ _) _ _) _ _) _ _ = W5
       obtain ⟨O5, T5⟩ := own5 ORB (.int .i64 8) (.string ⟨#[]⟩) (.int .i64 l.length) (.slice an (l.length + l3.length) cn) (.slice ak lk.length ck)
       rw [hS] at O5 T5
       clear hS
       have p0 := O5.k0
       have p1 := O5.k1
       have p2 := O5.k2
       have p3 := O5.k3
       have p4 := O5.k4
       have pz := O5.lt
       have Ty : Touch wA W5 [w.heap.size + 1, w.heap.size] := (Tx.mono (by simp)).trans (T5.mono (by simp))
       have rn5 := HNA.out.touch Ty (fun k hk hm => by have := (HFN.out.ge k hk); simp at hm; omega)
       have rk5 := HKA.out.touch Ty (fun k hk hm => by have := (HFK.out k hk); simp at hm; omega)
       rw [List.length_append] at rn5
       have R5 := MExpr.shut (x := blockM l l3 lk) rn5 rk5
       rw [List.append_nil] at R5
       have FIN : EGot B tb to_ cap ao ts 0 w a b (fun n => pBody ts n a) (.returned (.agg #[.int .i64 8, .string ⟨#[]⟩, .int .i64 l.length, .slice an (l.length + l3.length) cn, .slice ak lk.length ck])) W5 := ⟨blockM l l3 lk, _, _, jA, bA, rfl, R5, fun k hk => by
        rcases List.mem_append.1 hk with hk | hk
        · have := HFN.out.ge k hk; omega
        · have := HFK.out k hk; omega, HP.out.late HPA.out Ty (fun k hk => by simp at hk; omega), HGA.out, ⟨by omega, fun _ => Or.inr rfl⟩, HTA.out.late2 Ty (fun k hk => by simp at hk; omega)⟩
       exact bodyPost_ret (v := .agg #[.int .i64 8, .string ⟨#[]⟩, .int .i64 l.length, .slice an (l.length + l3.length) cn, .slice ak lk.length ck]) (by simp [results, Tryz.results130, go_sem, p0, p1, p2, p3, p4, pz]) rfl FIN
    have HTD2 : Hid (Todo b (fun n => pBody ts n a) bj (fun n => (pVars ts n (j + 1)).bind fun v => (pStmts ts n [] v.2).bind fun b => some (blockM l v.1 b.1, b.2))) := LH (by
     have := HTD1.out
     simp only [ne_eq, hl0, not_false_eq_true, true_and, hb, Bool.true_eq_false, if_false, if_true] at this
     exact this)
    have HW2 := LH (want_yes w1 HP1.out 7 ⟨#[124]⟩ (by decide) hb)
    clear HTD1 hl0 hb
    go_wp2_with fail
    refine HW2.out.mono ?_
    rintro e w2 ⟨rfl, K2, T2⟩
    have HP2 := LH K2
    have HO2 := LH (HO1.out.touch' T2 (by simp; omega))
    have HR2 := LH (HR1.out.touch' T2 (by simp; omega))
    have HA2 := LH (AccT.low HA1.out T2 (fun k hk => by simp at hk; omega))
    have HT2 := LH (HT1.out.trans T2)
    have hs2 := Nat.le_trans hs1 T2.size
    clear K2 T2 HW2
    go_wp2_with fail
    have b3 : w2.cell? ⟨w.heap.size + 1, 3, none⟩ = some nv := HO2.out.cell 3
    have bz := HO2.out.lt
    have hjl2 := HP2.out.le
    have HC := LH (fun (W : World) (hW : Ext w2 W) => vars_any W (HP2.out.ext hW))
    have HOX := LH (fun (W : World) (w3 : World) (hW : Ext w2 W) (T : Touch W w3 [B]) => (HO2.out.ext hW).touch' T (by simp; omega))
    have HAX := LH (fun (W : World) (w3 : World) (hW : Ext w2 W) (T : Touch W w3 [B]) => AccT.low (AccT.ext HA2.out hW) T (fun k hk => by simp at hk; omega))
    have HSZ := LH (fun (W : World) (w3 : World) (hW : Ext w2 W) (T : Touch W w3 [B]) => Nat.le_trans hW.size T.size)
    have HGE : Hid (∀ k, k ∈ nv.ownBlock.toList -> w.heap.size + 2 <= k) := LH (fun k hk => (Acc.ge HA2.out (k := k) (by simpa using hk)).1)
    go_region_law ((first
     | (refine step_append_strs_at rfl _ _ rfl (w.heap.size + 2) nv l rfl (HAX.out _ w3 (Ext.drew (XR _)) T3) l3 _ _ _ rfl ⟨_, r3⟩ (by omega) (by have := HSZ.out _ w3 (Ext.drew (XR _)) T3; omega) ?_; intro ao2 cap2 w7 ac hg hloc; have TG : Touch _ w7 nv.ownBlock.toList := (Touch.of_ext (XR _) _).grown hg (fun k hk => Or.inl (by simp [hk])); have O7 := (HOX.out _ w3 (Ext.drew (XR _)) T3).touch' TG (fun hm => by have := HGE.out _ hm; omega); have c7 := O7.cell 3; have f7 := O7.f3; have z7 := O7.lt)
     | (go_simp; go_wp2_with ((refine (HC.out _ (by first | exact Ext.drew (XR _) | exact XR _)).mono ?_; rintro e w3 ⟨v3, l3, j3, b3', rfl, A3, K3, hg3, hj3, hl3, T3⟩; obtain ⟨ao3, cap3, gp3, rfl, r3, fr3⟩ := AccT.rep A3; have hj3k := K3.le; have b32 : w3.cell? ⟨w.heap.size + 1, 3, none⟩ = some nv := (HOX.out _ w3 (Ext.drew (XR _)) T3).cell 3; have bz2 := (HOX.out _ w3 (Ext.drew (XR _)) T3).lt)))))
    all_goals
     have hsz3 := HSZ.out _ w3 (Ext.drew (XR _)) T3
     have HTD3 := LH (HTD2.out.call0 hg3 (g := fun n v => (pStmts ts n [] v.2).bind fun b => some (blockM l v.1 b.1, b.2)) (fun n => rfl))
     generalize hv1 : Value.slice ao2 (l.length + l3.length) cap2 = v1 at *
     generalize hS : World.setCell w7 _ v1 = W9
     have Tb : Touch w7 W9 [w.heap.size + 1] := by rw [<- hS]; exact (Touch.of_ext (XR _) _).setCell (by simp) _
     have O9 : Own W9 (w.heap.size + 1) 27 #[.int .i64 8, .string ⟨#[]⟩, .int .i64 l.length, v1, .slice none 0 0] := by rw [<- hS]; exact O7.set 3 v1
     have A9 : AccT (w.heap.size + 2) W9 v1 (l ++ l3) := AccT.low ac Tb (fun k hk => by simp at hk; omega)
     have T7 : Touch w3 W9 ((w.heap.size + 1) :: nv.ownBlock.toList) := (TG.mono (fun k hk => List.mem_cons_of_mem _ hk)).trans (Tb.mono (fun k hk => by simp at hk; simp [hk]))
     have hF7 : ∀ k, k ∈ (w.heap.size + 1) :: nv.ownBlock.toList -> w.heap.size < k := fun k hk => by
      rcases List.mem_cons.1 hk with rfl | hk
      · omega
      · have := HGE.out k hk; omega
     have P9 := HP.out.late K3 T7 (fun k hk => by have := hF7 k hk; omega)
     have OR9 := ((HR2.out.ext (Ext.drew (XR _))).touch' T3 (by simp; omega)).touch' T7 (fun hm => by have := hF7 _ hm; omega)
     have T9 : Touch w W9 [B] := ((HT2.out.trans (Touch.of_ext (Ext.drew (XR _)) [B])).trans T3).late2 T7 (fun k hk => by have := hF7 k hk; omega)
     have HP9 := LH P9
     have HOR9 := LH OR9
     have HA9 := LH A9
     have HT9 := LH T9
     have HO9 := LH O9
     have h9z := O9.lt
     have HST9 := LH (HST.out j3 (by omega) W9 b3' P9)
     clear hS Tb O9 A9 T7 hF7 P9 OR9 T9 ac hg hloc TG O7 c7 f7 z7 K3 T3 b32 bz2 b3 bz HC HAX HOX HSZ HGE HO2 HR2 HA2 HT2 HP2 A3 r3 fr3 hg3 HTD2
     go_wp2_with fail
     refine HST9.out.mono ?_
     rintro e wA ⟨lk, vk, jA, bA, rfl, aA, pA, gA, hA, tA⟩
     have OA := HO9.out.touch' tA (by simp; omega)
     have ORA := HOR9.out.touch' tA (by simp; omega)
     obtain ⟨an, cn, gn, hvn, rn, fn⟩ := AccT.rep (AccT.low HA9.out tA (fun k hk => by simp at hk; omega))
     obtain ⟨ak, ck, gk, rfl, rk, fk⟩ := AccX.rep aA
     have HNA := LH rn
     have HFN := LH fn
     have HKA := LH rk
     have HFK := LH fk
     clear rn fn rk fk hv1
     subst hvn
     have HPA := LH pA
     have HTA := LH (HT9.out.trans tA)
     have hsA := tA.size
     have HGA := LH ((HTD3.out.call0 gA (g := fun n b => some (blockM l l3 b.1, b.2)) (fun n => rfl)).done (fun n => rfl))
     clear aA pA gA tA HO9 HOR9 HA9 HT9 HP9 HTD3 HST9
     have o0 := OA.k0
     have of0 := OA.f0
     have o1 := OA.k1
     have of1 := OA.f1
     have o2 := OA.k2
     have of2 := OA.f2
     have o3 := OA.k3
     have of3 := OA.f3
     have o4 := OA.k4
     have of4 := OA.f4
     have oz := OA.lt
     have r0 := ORA.k0
     have rf0 := ORA.f0
     have r1 := ORA.k1
     have rf1 := ORA.f1
     have r2 := ORA.k2
     have rf2 := ORA.f2
     have r3 := ORA.k3
     have rf3 := ORA.f3
     have r4 := ORA.k4
     have rf4 := ORA.f4
     have rz := ORA.lt
     go_wp2_with fail
     clear o0 of0 o1 of1 o2 of2 o3 of3 o4 of4 r0 rf0 r1 rf1 r2 rf2 r3 rf3 r4 rf4 oz rz
     generalize hW : World.setCell wA _ _ = wB
     have Tx : Touch wA wB [w.heap.size + 1] := by rw [<- hW]; exact (Touch.of_ext (XR _) _).setCell (by simp) _
     have ORB := ORA.touch' Tx (by simp)
     clear hW
     generalize hS : World.setCell (World.setCell (World.setCell (World.setCell (World.setCell wB _ _) _ _) _ _) _ _) _ _ = W5
     obtain ⟨O5, T5⟩ := own5 ORB (.int .i64 8) (.string ⟨#[]⟩) (.int .i64 l.length) (.slice an (l.length + l3.length) cn) (.slice ak lk.length ck)
     rw [hS] at O5 T5
     clear hS
     have p0 := O5.k0
     have p1 := O5.k1
     have p2 := O5.k2
     have p3 := O5.k3
     have p4 := O5.k4
     have pz := O5.lt
     have Ty : Touch wA W5 [w.heap.size + 1, w.heap.size] := (Tx.mono (by simp)).trans (T5.mono (by simp))
     have rn5 := HNA.out.touch Ty (fun k hk hm => by have := (HFN.out.ge k hk); simp at hm; omega)
     have rk5 := HKA.out.touch Ty (fun k hk hm => by have := (HFK.out k hk); simp at hm; omega)
     rw [List.length_append] at rn5
     have R5 := MExpr.shut (x := blockM l l3 lk) rn5 rk5
     rw [List.append_nil] at R5
     have FIN : EGot B tb to_ cap ao ts 0 w a b (fun n => pBody ts n a) (.returned (.agg #[.int .i64 8, .string ⟨#[]⟩, .int .i64 l.length, .slice an (l.length + l3.length) cn, .slice ak lk.length ck])) W5 := ⟨blockM l l3 lk, _, _, jA, bA, rfl, R5, fun k hk => by
      rcases List.mem_append.1 hk with hk | hk
      · have := HFN.out.ge k hk; omega
      · have := HFK.out k hk; omega, HP.out.late HPA.out Ty (fun k hk => by simp at hk; omega), HGA.out, ⟨by omega, fun _ => Or.inr rfl⟩, HTA.out.late2 Ty (fun k hk => by simp at hk; omega)⟩
     exact bodyPost_ret (v := .agg #[.int .i64 8, .string ⟨#[]⟩, .int .i64 l.length, .slice an (l.length + l3.length) cn, .slice ak lk.length ck]) (by simp [results, Tryz.results130, go_sem, p0, p1, p2, p3, p4, pz]) rfl FIN
  have HE := LH (eat_yes wr HPM.out 7 ⟨#[58]⟩ (by decide) hc)
  have hjt := tok_lt (by decide) hc
  go_wp2_with fail
  refine HE.out.mono ?_
  rintro e w1 ⟨rfl, K1, T1⟩
  have HO1 := LH (HO.out.touch' T1 (by simp; omega))
  have HR1 := LH (HR.out.touch' T1 (by simp; omega))
  have HA1 := LH (AccT.low HA.out T1 (fun k hk => by simp at hk; omega))
  have HT1 := LH (HT.out.trans T1)
  have HP1 := LH K1
  have hs1 := T1.size
  clear K1 T1 HO HR HA HT HE
  go_wp2_with fail
  obtain ⟨tx, j2, bj2, HC, HTD2, hj2⟩ : ∃ (tx : ByteArray) (j2 : Nat) (bj2 : Bool), Hid (∀ W, Ext w1 W -> Calls Tryz.prog 95 #[.pointer (some ⟨B, 0, none⟩), .int .i64 1] W (fun e w' => e = .returned (.string tx) /\ Prs 49 B tb to_ cap ao ts w' (j2) bj2 /\ Touch W w' [B])) /\ Hid (Todo b (fun n => pPars ts n [] a) bj2 (fun n => pPars ts n (l ++ [tx]) j2)) /\ j + 1 <= j2 := by
   cases hb : tkB ts (j + 1) 1
   · exact ⟨⟨#[]⟩, j + 1, true, LH (fun W hW => take_no W (HP1.out.ext hW) 1 (by decide) hb), LH (HTD.out.badly (fun n => by rw [pPars, if_pos hc, if_neg (by rw [hb]; decide)])), Nat.le_refl _⟩
   · exact ⟨tkT ts (j + 1), j + 2, bj, LH (fun W hW => take_yes W (HP1.out.ext hW) 1 (by decide) hb), LH (HTD.out.step (fun n => by rw [pPars, if_pos hc, if_pos hb])), by omega⟩
  clear hc HTD
  have hh : w1.heap.size = w1.heap.size := rfl
  have b3 : w1.cell? ⟨w.heap.size + 1, 3, none⟩ = some nv := HO1.out.cell 3
  have bz := HO1.out.lt
  have HOX := LH (fun (W : World) (w2 : World) (hW : Ext w1 W) (T : Touch W w2 [B]) => (HO1.out.ext hW).touch' T (by simp; omega))
  have HAX := LH (fun (W : World) (w2 : World) (hW : Ext w1 W) (T : Touch W w2 [B]) => AccT.low (AccT.ext HA1.out hW) T (fun k hk => by simp at hk; omega))
  have HSZ := LH (fun (W : World) (w2 : World) (hW : Ext w1 W) (T : Touch W w2 [B]) => Nat.le_trans hW.size T.size)
  have HGE : Hid (∀ k, k ∈ nv.ownBlock.toList -> w.heap.size + 2 <= k) := LH (fun k hk => (Acc.ge HA1.out (k := k) (by simpa using hk)).1)
  go_region_law ((first
   | (refine step_append_strs_at rfl _ _ rfl (w.heap.size + 2) nv l rfl (AccT.ext (HAX.out _ w2 (Ext.drew (XR _)) T2) ((XR _).alloc _)) [tx] _ _ _ rfl (rep_one _ _) (by simp; omega) (by have := HSZ.out _ w2 (Ext.drew (XR _)) T2; simp; omega) ?_; intro ao2 cap2 w7 ac hg hloc; have TG : Touch _ w7 nv.ownBlock.toList := (Touch.of_ext (XR _) _).grown hg (fun k hk => Or.inl (by simp [hk])); have O7 := ((HOX.out _ w2 (Ext.drew (XR _)) T2).ext ((XR _).alloc _)).touch' TG (fun hm => by have := HGE.out _ hm; omega); have c7 := O7.cell 3; have f7 := O7.f3; have z7 := O7.lt)
   | (go_simp; go_wp2_with ((refine (HC.out _ (by first | exact Ext.drew (XR _) | exact XR _)).mono ?_; rintro e w2 ⟨rfl, K2, T2⟩; have b32 : w2.cell? ⟨w.heap.size + 1, 3, none⟩ = some nv := (HOX.out _ w2 (Ext.drew (XR _)) T2).cell 3; have bz2 := (HOX.out _ w2 (Ext.drew (XR _)) T2).lt)))))
  all_goals
   have hsz2 := HSZ.out _ w2 (Ext.drew (XR _)) T2
   have Ta : Touch w2 w7 nv.ownBlock.toList := (Touch.of_ext ((XR _).alloc _) _).trans TG
   generalize hv1 : Value.slice ao2 (l.length + [tx].length) cap2 = v1 at *
   generalize hS : World.setCell w7 _ v1 = W9
   have Tb : Touch w7 W9 [w.heap.size + 1] := by rw [<- hS]; exact (Touch.of_ext (XR _) _).setCell (by simp) _
   have O9 : Own W9 (w.heap.size + 1) 27 #[.int .i64 8, .string ⟨#[]⟩, .int .i64 l.length, v1, .slice none 0 0] := by rw [<- hS]; exact O7.set 3 v1
   have A9 : AccT (w.heap.size + 2) W9 v1 (l ++ [tx]) := AccT.low ac Tb (fun k hk => by simp at hk; omega)
   have T7 : Touch w2 W9 ((w.heap.size + 1) :: nv.ownBlock.toList) := (Ta.mono (fun k hk => List.mem_cons_of_mem _ hk)).trans (Tb.mono (fun k hk => by simp at hk; simp [hk]))
   have hF7 : ∀ k, k ∈ (w.heap.size + 1) :: nv.ownBlock.toList -> w.heap.size < k := fun k hk => by
    rcases List.mem_cons.1 hk with rfl | hk
    · omega
    · have := HGE.out k hk; omega
   have P9 := HP.out.late K2 T7 (fun k hk => by have := hF7 k hk; omega)
   have OR9 := ((HR1.out.ext (Ext.drew (XR _))).touch' T2 (by simp; omega)).touch' T7 (fun hm => by have := hF7 _ hm; omega)
   have T9 : Touch w W9 [B] := ((HT1.out.trans (Touch.of_ext (Ext.drew (XR _)) [B])).trans T2).late2 T7 (fun k hk => by have := hF7 k hk; omega)
   have HP9 := LH P9
   have HOR9 := LH OR9
   have HA9 := LH A9
   have HT9 := LH T9
   have HO9 := LH O9
   have q2 := O9.cell 2
   have qf := O9.f2
   have qz := O9.lt
   have hw1 : IntKind.i64.wrap ((l.length : Int) + 1) = (l.length : Int) + 1 := IntWalk.i64_in _ (by omega)
   have hjl2 := P9.le
   clear hS Ta Tb O9 A9 T7 hF7 P9 OR9 T9 ac hg hloc TG O7 c7 f7 z7 K2 T2 b32 bz2 b3 bz HC HAX HOX HSZ HGE HO1 HR1 HA1 HT1 HP1
   go_wp2_with fail
   refine ⟨⟨l ++ [tx], v1, j2, bj2, ?_, HOR9.out.touch' (fp := [w.heap.size + 1]) ((Touch.of_ext (XR _) _).setCell (by simp) _) (by simp), AccT.low HA9.out (fp := [w.heap.size + 1]) ((Touch.of_ext (XR _) _).setCell (by simp) _) (fun k hk => by simp at hk; omega), HP.out.late HP9.out (fp := [w.heap.size + 1]) ((Touch.of_ext (XR _) _).setCell (by simp) _) (fun k hk => by simp at hk; omega), HTD2, by simp; omega, HT9.out.late2 (gp := [w.heap.size + 1]) ((Touch.of_ext (XR _) _).setCell (by simp) _) (fun k hk => by simp at hk; omega)⟩, ?_⟩
   · have := HO9.out.set 2 (.int .i64 ((l.length : Int) + 1))
     rw [show (((l ++ [tx]).length : Nat) : Int) = (l.length : Int) + 1 by simp]
     exact this
   · rw [placeOf_eq HPM.out, placeOf_eq (HP.out.late HP9.out (fp := [w.heap.size + 1]) ((Touch.of_ext (XR _) _).setCell (by simp) _) (fun k hk => by simp at hk; omega))]; omega
end Go.Proofs.YtndhpbjhkgdieaaGreatDoor
