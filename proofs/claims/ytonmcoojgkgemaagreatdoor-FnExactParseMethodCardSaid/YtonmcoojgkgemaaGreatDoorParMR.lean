/-
  CONTRACTS: the reference's parser: a method's pattern, a method.
  Conditions: those that each lemma states.
-/
import Derived.Test.YtonmcoojgkgemaaGreatDoorRows
import Derived.Deep.DeepCutAuto
import Derived.Deep.RegionHeldLaw
import Derived.Test.YtonmcoojgkgemaaGreatDoorParMI
import Derived.Test.YtonmcoojgkgemaaGreatDoorParZe
namespace Go.Proofs.YtonmcoojgkgemaaGreatDoor
open Go.RowKit
set_option linter.unusedSimpArgs false
set_option linter.unusedVariables false

def PGot (B tb to_ cap : Nat) (ao : Option Addr) (ts : List MToken) (w : World) (a : Nat) (b : Bool) (e : Ending) (w' : World) : Prop :=
  ∃ (s : ByteArray) (ps : List ByteArray) (vp : Value) (a' : Nat) (b' : Bool), e = .returned (.agg #[.string s, .bool false, vp, .slice none 0 0, .slice none 0 0]) ∧ AccT w.heap.size w' vp ps ∧ Prs 48 B tb to_ cap ao ts w' (a') b' ∧ Got b (fun n => pSig ts n a) b' (s, ps, a') ∧ a ≤ a' ∧ Touch w w' [B]
def RMGot (B tb to_ cap : Nat) (ao : Option Addr) (ts : List MToken) (c : Bool) (w : World) (a : Nat) (b : Bool) (e : Ending) (w' : World) : Prop :=
  ∃ (m : MMethod) (cs : List Value) (fp : List Nat) (a' : Nat) (b' : Bool), e = .returned (.agg (List.toArray cs)) ∧ RepF w' m.d cs fp ∧ (∀ k, k ∈ fp → w.heap.size ≤ k) ∧ Prs 48 B tb to_ cap ao ts w' (a') b' ∧ Got b (fun n => pMRest ts n c a) b' (m, a') ∧ a ≤ a' ∧ Touch w w' [B]

set_option maxHeartbeats 8000000 in
set_option maxRecDepth 100000 in
theorem l5Pattern_any {B tb to_ cap : Nat} {ao : Option Addr} {ts : List MToken} {a : Nat} {b : Bool} (w : World) (h : Prs 48 B tb to_ cap ao ts w (a) b) : Calls Tryz.prog 71 #[.pointer (some ⟨B, 0, none⟩)] w (PGot B tb to_ cap ao ts w a b) := by
  have HP := Lib.hid h
  have hln := h.len
  have hle := h.le
  have hrb := h.own.lt
  have hwd := fun hk => h.words (i := a) hk
  clear h
  go_enter Tryz.func71, Tryz.ntmps71
  go_upto_block 0 with fail
  generalize hS : World.alloc (World.alloc w _) _ = W1
  have x1 : Ext w W1 := by rw [← hS]; exact ((Ext.refl _).alloc _).alloc _
  have OR : Own W1 w.heap.size 32 #[.string ⟨#[]⟩, .bool false, .slice none 0 0, .slice none 0 0, .slice none 0 0] := by rw [← hS]; exact (own_new w _ _).ext ((Ext.refl _).alloc _)
  have OM : Own W1 (w.heap.size + 1) 32 #[.string ⟨#[]⟩, .bool false, .slice none 0 0, .slice none 0 0, .slice none 0 0] := by rw [← hS]; exact own_new2 w _ _ _
  have HP1 := Lib.hid (HP.out.ext x1)
  have hs1 : w.heap.size + 2 ≤ W1.heap.size := by rw [← hS]; simp
  clear hS
  go_cut [] (fun wx => ∃ (s : ByteArray) (ps : List ByteArray) (vp : Value) (j2 : Nat) (b2 : Bool), Own wx (w.heap.size + 1) 32 #[.string s, .bool false, vp, .slice none 0 0, .slice none 0 0] ∧ AccT (w.heap.size + 2) wx vp ps ∧ Prs 48 B tb to_ cap ao ts wx (j2) b2 ∧ ((s.size ≠ 0 ∧ Got b (fun n => pSig ts n a) b2 (s, ps, j2)) ∨ (s = ⟨#[]⟩ ∧ Got b (fun n => pSig ts n a) true (s, ps, j2))) ∧ a ≤ j2 ∧ Own wx w.heap.size 32 #[.string ⟨#[]⟩, .bool false, .slice none 0 0, .slice none 0 0, .slice none 0 0] ∧ Touch w wx [B])
  case first =>
    cases hb1 : tkB ts a 1
    rotate_left
    · have hjt := kind_lt (by decide) hb1
      have hnz := hwd (Or.inl ((kind_eq (by decide)).1 hb1))
      have HI := risk_any W1 HP1.out 1 (by decide)
      rw [hb1] at HI
      have HI2 := Lib.hid HI
      have TB := Lib.hid hb1
      clear HI hb1
      go_wp2_with fail
      refine HI2.out.mono ?_
      rintro e w2 ⟨rfl, hx⟩
      have HC := Lib.hid (rneedk_yes w2 (HP1.out.ext hx) 1 (by decide) TB.out)
      have O2 := OR.ext hx
      have M2 := OM.ext hx
      have T02 := Touch.of_ext (x1.trans hx) [B]
      obtain ⟨tx, htx⟩ : ∃ t, tkT ts a = t := ⟨_, rfl⟩
      rw [htx] at HC hnz
      have HTX := Lib.hid htx
      clear htx HI2 hx OR OM HP1
      go_wp2_with fail
      refine HC.out.mono ?_
      rintro e w6 ⟨rfl, K6, T6⟩
      have OM6 := M2.touch' T6 (by simp; omega)
      have OR6 := O2.touch' T6 (by simp; omega)
      have m0 : w6.cell? ⟨w.heap.size + 1, 0, none⟩ = some (.string ⟨#[]⟩) := OM6.cell 0
      have mf0 := OM6.frozen 0
      have m1 : w6.cell? ⟨w.heap.size + 1, 1, none⟩ = some (.bool false) := OM6.cell 1
      have mf1 := OM6.frozen 1
      have m2 : w6.cell? ⟨w.heap.size + 1, 2, none⟩ = some (.slice none 0 0) := OM6.cell 2
      have mf2 := OM6.frozen 2
      have m3 : w6.cell? ⟨w.heap.size + 1, 3, none⟩ = some (.slice none 0 0) := OM6.cell 3
      have mf3 := OM6.frozen 3
      have m4 : w6.cell? ⟨w.heap.size + 1, 4, none⟩ = some (.slice none 0 0) := OM6.cell 4
      have mf4 := OM6.frozen 4
      have mz := OM6.lt
      go_wp2_with fail
      generalize hS : World.setCell w6 _ _ = w7
      have T7 : Touch w6 w7 [w.heap.size + 1] := by rw [← hS]; exact (Touch.of_ext (Ext.refl _) _).setCell (by simp) _
      have OM7 : Own w7 (w.heap.size + 1) 32 #[.string tx, .bool false, .slice none 0 0, .slice none 0 0, .slice none 0 0] := by rw [← hS]; exact OM6.set 0 _
      have OR7 := OR6.touch' T7 (by simp)
      have P7 := HP.out.late K6 T7 (fun k hk => by simp at hk; omega)
      have T07 := (T02.trans T6).late2 T7 (fun k hk => by simp at hk; omega)
      clear hS
      go_meet
      exact ⟨tx, [], .slice none 0 0, a + 1, b, OM7, Acc.nil _ _ _ _, P7, Or.inl ⟨hnz, Got.ok ⟨0, fun n _ => by show pSig ts n a = _; rw [pSig, if_pos TB.out, HTX.out]⟩⟩, by omega, OR7, T07⟩
    have NB1 := Lib.hid hb1
    have HI := risk_any W1 HP1.out 1 (by decide)
    rw [hb1] at HI
    have HI2 := Lib.hid HI
    clear HI hb1
    go_wp2_with fail
    refine HI2.out.mono ?_
    rintro e w2 ⟨rfl, hx⟩
    have HP2 := Lib.hid (HP1.out.ext hx)
    have O2 := OR.ext hx
    have M2 := OM.ext hx
    have HT2 := Lib.hid (Touch.of_ext (x1.trans hx) [B])
    have hs2 := hx.size
    clear HI2 hx OR OM HP1 x1
    cases hb6 : tkB ts a 6
    rotate_left
    · have hjt := kind_lt (by decide) hb6
      have hnz := hwd (Or.inr (Or.inr ((kind_eq (by decide)).1 hb6)))
      have HI := risk_any w2 HP2.out 6 (by decide)
      rw [hb6] at HI
      have HI2 := Lib.hid HI
      have TB := Lib.hid hb6
      clear HI hb6
      go_wp2_with fail
      refine HI2.out.mono ?_
      rintro e w5 ⟨rfl, hx⟩
      have HC0 := Lib.hid (rneedk_yes w5 (HP2.out.ext hx) 6 (by decide) TB.out)
      have O5 := O2.ext hx
      have M5 := M2.ext hx
      have HT5 := Lib.hid (HT2.out.trans (Touch.of_ext hx [B]))
      have hs5 := hx.size
      obtain ⟨s2, htx⟩ : ∃ t, tkT ts a = t := ⟨_, rfl⟩
      rw [htx] at HC0 hnz
      have HTX := Lib.hid htx
      clear htx HI2 hx O2 M2 HP2 HT2
      go_wp2_with fail
      refine HC0.out.mono ?_
      rintro e w6 ⟨rfl, K6, T6⟩
      have OM6 := M5.touch' T6 (by simp; omega)
      have OR6 := O5.touch' T6 (by simp; omega)
      have m0 : w6.cell? ⟨w.heap.size + 1, 0, none⟩ = some (.string ⟨#[]⟩) := OM6.cell 0
      have mf0 := OM6.frozen 0
      have m1 : w6.cell? ⟨w.heap.size + 1, 1, none⟩ = some (.bool false) := OM6.cell 1
      have mf1 := OM6.frozen 1
      have m2 : w6.cell? ⟨w.heap.size + 1, 2, none⟩ = some (.slice none 0 0) := OM6.cell 2
      have mf2 := OM6.frozen 2
      have m3 : w6.cell? ⟨w.heap.size + 1, 3, none⟩ = some (.slice none 0 0) := OM6.cell 3
      have mf3 := OM6.frozen 3
      have m4 : w6.cell? ⟨w.heap.size + 1, 4, none⟩ = some (.slice none 0 0) := OM6.cell 4
      have mf4 := OM6.frozen 4
      have mz := OM6.lt
      go_upto_region 9 with fail
      generalize hS : World.setCell w6 _ _ = w3
      have T7 : Touch w6 w3 [w.heap.size + 1] := by rw [← hS]; exact (Touch.of_ext (Ext.refl _) _).setCell (by simp) _
      obtain ⟨vp, hvp⟩ : ∃ v : Value, v = .slice none 0 0 := ⟨_, rfl⟩
      have OM3 : Own w3 (w.heap.size + 1) 32 #[.string s2, .bool false, vp, .slice none 0 0, .slice none 0 0] := by rw [← hS, hvp]; exact OM6.set 0 _
      have OR3 := OR6.touch' T7 (by simp)
      have HP3 := Lib.hid (HP.out.late K6 T7 (fun k hk => by simp at hk; omega))
      have HT3 := Lib.hid ((HT5.out.trans T6).late2 T7 (fun k hk => by simp at hk; omega))
      obtain ⟨ps, hps⟩ : ∃ l : List ByteArray, l = [] := ⟨_, rfl⟩
      have HA3 : Hid (AccT (w.heap.size + 2) w3 vp ps) := Lib.hid (by rw [hvp, hps]; exact Acc.nil _ _ _ _)
      have hpl0 : ps.length ≤ 1 := by rw [hps]; exact Nat.zero_le _
      have hs6 := T6.size
      have hs3 := T7.size
      clear hS T7 K6 T6 OM6 OR6 M5 O5 HT5 m0 mf0 m1 mf1 m2 mf2 m3 mf3 m4 mf4 mz HC0 hvp
      obtain ⟨ty3, j4, b4, HC, HG, hj4⟩ : ∃ (ty3 : ByteArray) (j4 : Nat) (b4 : Bool), Hid (∀ W, Ext w3 W → Calls Tryz.prog 36 #[.pointer (some ⟨B, 0, none⟩), .int .i64 1, .string ⟨#[]⟩] W (fun e w' => e = .returned (.string ty3) ∧ Prs 48 B tb to_ cap ao ts w' (j4) b4 ∧ Touch W w' [B])) ∧ Hid (Got b (fun n => pSig ts n a) b4 (s2, ps ++ [ty3], j4)) ∧ a + 1 ≤ j4 := by
        cases hb : tkB ts (a + 1) 1
        · exact ⟨⟨#[]⟩, a + 1, true, Lib.hid (fun W hW => rneedk_no W (HP3.out.ext hW) 1 (by decide) hb), Lib.hid (Got.bad _ ⟨0, fun n _ => by show pSig ts n a = _; rw [pSig, if_neg (by rw [NB1.out]; decide), if_pos TB.out, if_neg (by rw [hb]; decide)]⟩), Nat.le_refl _⟩
        · exact ⟨tkT ts (a + 1), a + 2, b, Lib.hid (fun W hW => rneedk_yes W (HP3.out.ext hW) 1 (by decide) hb), Lib.hid (Got.ok ⟨0, fun n _ => by show pSig ts n a = _; rw [pSig, if_neg (by rw [NB1.out]; decide), if_pos TB.out, if_pos hb, HTX.out, hps]; rfl⟩), by omega⟩
      clear hps
      have b3 : w3.cell? ⟨w.heap.size + 1, 2, none⟩ = some vp := OM3.cell 2
      have bz := OM3.lt
      have HOX := Lib.hid (fun (W : World) (w4 : World) (hW : Ext w3 W) (T : Touch W w4 [B]) => (OM3.ext hW).touch' T (by simp; omega))
      have HAX := Lib.hid (fun (W : World) (w4 : World) (hW : Ext w3 W) (T : Touch W w4 [B]) => AccT.low (AccT.ext HA3.out hW) T (fun k hk => by simp at hk; omega))
      have HSZ := Lib.hid (fun (W : World) (w4 : World) (hW : Ext w3 W) (T : Touch W w4 [B]) => Nat.le_trans hW.size T.size)
      have HGE : Hid (∀ k, k ∈ vp.ownBlock.toList → w.heap.size + 2 ≤ k) := Lib.hid (fun k hk => (Acc.ge HA3.out (k := k) (by simpa using hk)).1)
      go_region_law ((first
        | (refine step_append_strs_at rfl _ _ rfl (w.heap.size + 2) vp ps rfl (AccT.ext (HAX.out _ w4 (Ext.drew (Ext.refl _)) T4) ((Ext.refl _).alloc _)) [ty3] _ _ _ rfl (rep_one _ _) (by simp; omega) (by have := HSZ.out _ w4 (Ext.drew (Ext.refl _)) T4; simp; omega) ?_; intro ao2 cap2 w7 ac hg hloc; have TG : Touch _ w7 vp.ownBlock.toList := (Touch.of_ext (Ext.refl _) _).grown hg (fun k hk => Or.inl (by simp [hk])); have O7 := ((HOX.out _ w4 (Ext.drew (Ext.refl _)) T4).ext ((Ext.refl _).alloc _)).touch' TG (fun hm => by have := HGE.out _ hm; omega); have c7 := O7.cell 2; have f7 := O7.frozen 2; have z7 := O7.lt)
        | (go_simp; go_wp2_with ((refine (HC.out _ (by first | exact Ext.drew (Ext.refl _) | exact Ext.refl _)).mono ?_; rintro e w4 ⟨rfl, K4, T4⟩; have b42 : w4.cell? ⟨w.heap.size + 1, 2, none⟩ = some vp := (HOX.out _ w4 (Ext.drew (Ext.refl _)) T4).cell 2; have bz2 := (HOX.out _ w4 (Ext.drew (Ext.refl _)) T4).lt)))))
      all_goals
        have hsz4 := HSZ.out _ w4 (Ext.drew (Ext.refl _)) T4
        have Ta : Touch w4 w7 vp.ownBlock.toList := (Touch.of_ext ((Ext.refl _).alloc _) _).trans TG
        generalize hv1 : Value.slice ao2 (ps.length + [ty3].length) cap2 = v1 at *
        generalize hS : World.setCell w7 _ v1 = w9
        have Tb : Touch w7 w9 [w.heap.size + 1] := by rw [← hS]; exact (Touch.of_ext (Ext.refl _) _).setCell (by simp) _
        have O9 : Own w9 (w.heap.size + 1) 32 #[.string s2, .bool false, v1, .slice none 0 0, .slice none 0 0] := by rw [← hS]; exact O7.set 2 v1
        have A9 : AccT (w.heap.size + 2) w9 v1 (ps ++ [ty3]) := AccT.low ac Tb (fun k hk => by simp at hk; omega)
        have T7 : Touch w4 w9 ((w.heap.size + 1) :: vp.ownBlock.toList) := (Ta.mono (fun k hk => List.mem_cons_of_mem _ hk)).trans (Tb.mono (fun k hk => by simp at hk; simp [hk]))
        have hF7 : ∀ k, k ∈ (w.heap.size + 1) :: vp.ownBlock.toList → w.heap.size < k := fun k hk => by
          rcases List.mem_cons.1 hk with rfl | hk
          · omega
          · have := HGE.out k hk; omega
        have P9 := HP.out.late K4 T7 (fun k hk => by have := hF7 k hk; omega)
        have OR9 := ((OR3.ext (Ext.drew (Ext.refl _))).touch' T4 (by simp; omega)).touch' T7 (fun hm => by have := hF7 _ hm; omega)
        have T9 : Touch w w9 [B] := ((HT3.out.trans (Touch.of_ext (Ext.drew (Ext.refl _)) [B])).trans T4).late2 T7 (fun k hk => by have := hF7 k hk; omega)
        have HP9 := Lib.hid P9
        have HOR9 := Lib.hid OR9
        have HA9 := Lib.hid A9
        have HT9 := Lib.hid T9
        have HO9 := Lib.hid O9
        have hjl9 := P9.le
        clear hS Ta Tb O9 A9 T7 hF7 P9 OR9 T9 ac hg hloc TG O7 c7 f7 z7 K4 T4 b42 bz2 b3 bz HC HAX HOX HSZ HGE OM3 OR3 HA3 HT3 HP3
        go_wp2_with fail
        go_meet
        exact ⟨s2, ps ++ [ty3], v1, j4, b4, HO9.out, HA9.out, HP9.out, Or.inl ⟨hnz, HG.out⟩, by omega, HOR9.out, HT9.out⟩
    have NB6 := Lib.hid hb6
    have HI := risk_any w2 HP2.out 6 (by decide)
    rw [hb6] at HI
    have HI2 := Lib.hid HI
    clear HI hb6
    go_wp2_with fail
    refine HI2.out.mono ?_
    rintro e w5 ⟨rfl, hx⟩
    have HP5 := Lib.hid (HP2.out.ext hx)
    have O5 := O2.ext hx
    have M5 := M2.ext hx
    have HT5 := Lib.hid (HT2.out.trans (Touch.of_ext hx [B]))
    have hs5 := hx.size
    clear HI2 hx O2 M2 HP2 HT2
    go_wp2_with fail
    go_loopw [] (fun wr => ∃ (s : ByteArray) (ps : List ByteArray) (vp : Value) (j2 : Nat) (b2 : Bool), Own wr (w.heap.size + 1) 32 #[.string s, .bool false, vp, .slice none 0 0, .slice none 0 0] ∧ AccT (w.heap.size + 2) wr vp ps ∧ Prs 48 B tb to_ cap ao ts wr (j2) b2 ∧ Hid ((s = ⟨#[]⟩ ∧ ps = [] ∧ j2 = a ∧ b2 = b) ∨ (b = false ∧ s.size ≠ 0 ∧ Todo b (fun n => pSig ts n a) b2 (fun n => pKSig ts n s ps j2))) ∧ a ≤ j2 ∧ (ps.length + a ≤ j2 + 1 ∧ s.size ≤ 100000 * (j2 - a)) ∧ Own wr w.heap.size 32 #[.string ⟨#[]⟩, .bool false, .slice none 0 0, .slice none 0 0, .slice none 0 0] ∧ Touch w wr [B]) (fun wr => ts.length + 1 - placeOf B wr)
    case atStart => exact ⟨⟨#[]⟩, [], .slice none 0 0, a, b, M5, Acc.nil _ _ _ _, HP5.out, Lib.hid (Or.inl ⟨rfl, rfl, rfl, rfl⟩), Nat.le_refl _, ⟨by simp, Nat.zero_le _⟩, O5, HT5.out⟩
    case round =>
      clear M5 HP5 O5 HT5
      obtain ⟨s, ps, vp, j3, b3, hM, hA, hp, HTD3, hj3, ⟨hpl, hsz⟩, hR, hT⟩ := hrel
      have HAr := Lib.hid hA
      have HPr := Lib.hid hp
      have HPM := Lib.hid hp
      have HTr := Lib.hid hT
      obtain ⟨d0, d1, d2⟩ := hp.cells
      have zB := lt_of_cell d0
      have hjl3 := hp.le
      have hws := hT.size
      have hw3 := fun hk => hp.words (i := j3) hk
      clear hA hp hT
      cases b3
      rotate_left
      · have HG : Hid ((s.size ≠ 0 ∧ Got b (fun n => pSig ts n a) true (s, ps, j3)) ∨ (s = ⟨#[]⟩ ∧ Got b (fun n => pSig ts n a) true (s, ps, j3))) := Lib.hid (by
          rcases HTD3.out with ⟨h1, h2, h3, h4⟩ | ⟨h1, h2, h3⟩
          · refine Or.inr ⟨h1, ?_⟩
            rw [← h4]
            exact Got.dead _ _
          · exact Or.inl ⟨h2, h3.dead _⟩)
        clear HTD3
        go_wp2_with fail
        go_meet
        exact ⟨s, ps, vp, j3, true, hM, HAr.out, HPr.out, HG.out, hj3, hR, HTr.out⟩
      have HI := risk_any wr HPr.out 2 (by decide)
      cases hb : tkB ts j3 2
      · have HG : Hid ((s.size ≠ 0 ∧ Got b (fun n => pSig ts n a) false (s, ps, j3)) ∨ (s = ⟨#[]⟩ ∧ Got b (fun n => pSig ts n a) true (s, ps, j3))) := Lib.hid (by
          rcases HTD3.out with ⟨h1, h2, h3, h4⟩ | ⟨h1, h2, h3⟩
          · refine Or.inr ⟨h1, Got.bad _ ⟨0, fun n _ => ?_⟩⟩
            subst h3
            show pSig ts n j3 = _
            rw [pSig, if_neg (by rw [NB1.out]; decide), if_neg (by rw [NB6.out]; decide), if_neg (by rw [hb]; decide)]
          · exact Or.inl ⟨h2, h3.done (fun n => by rw [pKSig, if_neg (by rw [hb]; decide)])⟩)
        rw [hb] at HI
        have HI2 := Lib.hid HI
        clear HTD3 hb HI
        go_wp2_with fail
        refine HI2.out.mono ?_
        rintro e w1 ⟨rfl, hx⟩
        go_wp2_with fail
        go_meet
        exact ⟨s, ps, vp, j3, false, hM.ext hx, AccT.ext HAr.out hx, HPr.out.ext hx, HG.out, hj3, hR.ext hx, HTr.out.trans (Touch.of_ext hx _)⟩
      have hjt := kind_lt (by decide) hb
      have htz := HPr.out.txt j3
      have hnz := hw3 (Or.inr (Or.inl ((kind_eq (by decide)).1 hb)))
      have HTK := Lib.hid (fun (W : World) (hp : Prs 48 B tb to_ cap ao ts W (j3) false) => rneedk_yes W hp 2 (by decide) hb)
      have HTD4 : Hid (b = false ∧ Todo b (fun n => pSig ts n a) false (fun n => if tkB ts (j3 + 1) 1 = true then pKSig ts n (s ++ tkT ts j3) (ps ++ [tkT ts (j3 + 1)]) (j3 + 2) else none)) := Lib.hid (by
        rcases HTD3.out with ⟨h1, h2, h3, h4⟩ | ⟨h1, h2, h3⟩
        · subst h1 h2 h3
          refine ⟨h4.symm, ?_⟩
          rw [← h4]
          exact ((Todo.refl false (fun n => pSig ts n j3)).eq0 (H := fun n => pKSig ts n ⟨#[]⟩ [] j3) (fun n => by rw [pSig, if_neg (by rw [NB1.out]; decide), if_neg (by rw [NB6.out]; decide), if_pos hb])).step (fun n => by rw [pKSig, if_pos hb])
        · exact ⟨h1, h3.step (fun n => by rw [pKSig, if_pos hb])⟩)
      rw [hb] at HI
      have HI2 := Lib.hid HI
      clear HTD3 hb HI
      obtain ⟨tx3, htx3⟩ : ∃ x, tkT ts j3 = x := ⟨_, rfl⟩
      rw [htx3] at HTK HTD4 htz hnz
      clear htx3
      go_wp2_with fail
      refine HI2.out.mono ?_
      rintro e w1 ⟨rfl, hx⟩
      have hM1 := hM.ext hx
      have hR1 := hR.ext hx
      have HA1 := Lib.hid (AccT.ext HAr.out hx)
      have HP1 := Lib.hid (HPr.out.ext hx)
      have HT1 := Lib.hid (HTr.out.trans (Touch.of_ext hx [B]))
      have hs1_ := hx.size
      clear hM hR HAr HPr HTr hx d0 d1 d2 zB HI2
      go_upto_region 3 with fail
      have m0 : w1.cell? ⟨w.heap.size + 1, 0, none⟩ = some (.string s) := hM1.cell 0
      have mz := hM1.lt
      have hst : s.size ≤ 80200000 := by omega
      have hnc : ¬ 9223372036854775807 < s.size + tx3.size := by omega
      have HMQ : Hid (∀ W w2, Ext w1 W → Touch W w2 [B] → Own w2 (w.heap.size + 1) 32 #[.string s, .bool false, vp, .slice none 0 0, .slice none 0 0]) := Lib.hid fun W w2 hW hT => (hM1.ext hW).touch' hT (by simp; omega)
      have HRQ : Hid (∀ W w2, Ext w1 W → Touch W w2 [B] → Own w2 w.heap.size 32 #[.string ⟨#[]⟩, .bool false, .slice none 0 0, .slice none 0 0, .slice none 0 0]) := Lib.hid fun W w2 hW hT => (hR1.ext hW).touch' hT (by simp; omega)
      have HAQ : Hid (∀ W w2, Ext w1 W → Touch W w2 [B] → AccT (w.heap.size + 2) w2 vp ps) := Lib.hid fun W w2 hW hT => AccT.low (AccT.ext HA1.out hW) hT (fun k hk => by simp at hk; omega)
      have HTQ : Hid (∀ W w2, Ext w1 W → Touch W w2 [B] → Touch w w2 [B] ∧ w1.heap.size ≤ w2.heap.size) := Lib.hid fun W w2 hW hT => ⟨(HT1.out.trans (Touch.of_ext hW [B])).trans hT, Nat.le_trans hW.size hT.size⟩
      go_region_law ((go_simp; go_wp2_with ((refine (HTK.out _ (HP1.out.ext (by first | exact Ext.drew (Ext.refl _) | exact Ext.refl _))).mono ?_; rintro e w2 ⟨rfl, K2, T2⟩; have OM2 := HMQ.out _ _ (by first | exact Ext.drew (Ext.refl _) | exact Ext.refl _) T2; have OR2 := HRQ.out _ _ (by first | exact Ext.drew (Ext.refl _) | exact Ext.refl _) T2; have A2 := HAQ.out _ _ (by first | exact Ext.drew (Ext.refl _) | exact Ext.refl _) T2; have T02 := HTQ.out _ _ (by first | exact Ext.drew (Ext.refl _) | exact Ext.refl _) T2; have n0 : w2.cell? ⟨w.heap.size + 1, 0, none⟩ = some (.string s) := OM2.cell 0; have nf0 := OM2.frozen 0; have nz := OM2.lt))))
      all_goals
        obtain ⟨T02, hsz2⟩ := T02
        have hcat : (s ++ tx3).size = s.size + tx3.size := ByteArray.size_append
        obtain ⟨s2, hs2⟩ : ∃ x, s ++ tx3 = x := ⟨_, rfl⟩
        rw [hs2] at hcat HTD4 ⊢
        clear hs2
        generalize hS : World.setCell w2 _ _ = w3
        have T3 : Touch w2 w3 [w.heap.size + 1] := by rw [← hS]; exact (Touch.of_ext (Ext.refl _) _).setCell (by simp) _
        have OM3 : Own w3 (w.heap.size + 1) 32 #[.string s2, .bool false, vp, .slice none 0 0, .slice none 0 0] := by rw [← hS]; exact OM2.set 0 _
        have OR3 := OR2.touch' T3 (by simp)
        have HA3 := Lib.hid (AccT.low A2 T3 (fun k hk => by simp at hk; omega))
        have HP3 := Lib.hid (HP.out.late K2 T3 (fun k hk => by simp at hk; omega))
        have HT3 := Lib.hid (T02.late2 T3 (fun k hk => by simp at hk; omega))
        have hs3 := T3.size
        clear hS T3 OM2 OR2 A2 K2 T2 T02 HMQ HRQ HAQ HTQ m0 n0 nf0 nz mz hM1 hR1 HA1 HP1 HT1 HTK
        obtain ⟨ty3, j4, b4, HC, HTD5, hj4⟩ : ∃ (ty3 : ByteArray) (j4 : Nat) (b4 : Bool), Hid (∀ W, Ext w3 W → Calls Tryz.prog 36 #[.pointer (some ⟨B, 0, none⟩), .int .i64 1, .string ⟨#[]⟩] W (fun e w' => e = .returned (.string ty3) ∧ Prs 48 B tb to_ cap ao ts w' (j4) b4 ∧ Touch W w' [B])) ∧ Hid (b = false ∧ Todo b (fun n => pSig ts n a) b4 (fun n => pKSig ts n s2 (ps ++ [ty3]) j4)) ∧ j3 + 1 ≤ j4 := by
          cases hb : tkB ts (j3 + 1) 1
          · exact ⟨⟨#[]⟩, j3 + 1, true, Lib.hid (fun W hW => rneedk_no W (HP3.out.ext hW) 1 (by decide) hb), Lib.hid ⟨HTD4.out.1, HTD4.out.2.badly0 (fun n => by rw [if_neg (by rw [hb]; decide)])⟩, Nat.le_refl _⟩
          · exact ⟨tkT ts (j3 + 1), j3 + 2, false, Lib.hid (fun W hW => rneedk_yes W (HP3.out.ext hW) 1 (by decide) hb), Lib.hid ⟨HTD4.out.1, HTD4.out.2.eq0 (fun n => by rw [if_pos hb])⟩, by omega⟩
        clear HTD4
        go_upto_region 4 with fail
        have b3 : w3.cell? ⟨w.heap.size + 1, 2, none⟩ = some vp := OM3.cell 2
        have bz := OM3.lt
        have HOX := Lib.hid (fun (W : World) (w4 : World) (hW : Ext w3 W) (T : Touch W w4 [B]) => (OM3.ext hW).touch' T (by simp; omega))
        have HAX := Lib.hid (fun (W : World) (w4 : World) (hW : Ext w3 W) (T : Touch W w4 [B]) => AccT.low (AccT.ext HA3.out hW) T (fun k hk => by simp at hk; omega))
        have HSZ := Lib.hid (fun (W : World) (w4 : World) (hW : Ext w3 W) (T : Touch W w4 [B]) => Nat.le_trans hW.size T.size)
        have HGE : Hid (∀ k, k ∈ vp.ownBlock.toList → w.heap.size + 2 ≤ k) := Lib.hid (fun k hk => (Acc.ge HA3.out (k := k) (by simpa using hk)).1)
        go_region_law ((first
          | (refine step_append_strs_at rfl _ _ rfl (w.heap.size + 2) vp ps rfl (AccT.ext (HAX.out _ w4 (Ext.drew (Ext.refl _)) T4) ((Ext.refl _).alloc _)) [ty3] _ _ _ rfl (rep_one _ _) (by simp; omega) (by have := HSZ.out _ w4 (Ext.drew (Ext.refl _)) T4; simp; omega) ?_; intro ao2 cap2 w7 ac hg hloc; have TG : Touch _ w7 vp.ownBlock.toList := (Touch.of_ext (Ext.refl _) _).grown hg (fun k hk => Or.inl (by simp [hk])); have O7 := ((HOX.out _ w4 (Ext.drew (Ext.refl _)) T4).ext ((Ext.refl _).alloc _)).touch' TG (fun hm => by have := HGE.out _ hm; omega); have c7 := O7.cell 2; have f7 := O7.frozen 2; have z7 := O7.lt)
          | (go_simp; go_wp2_with ((refine (HC.out _ (by first | exact Ext.drew (Ext.refl _) | exact Ext.refl _)).mono ?_; rintro e w4 ⟨rfl, K4, T4⟩; have b42 : w4.cell? ⟨w.heap.size + 1, 2, none⟩ = some vp := (HOX.out _ w4 (Ext.drew (Ext.refl _)) T4).cell 2; have bz2 := (HOX.out _ w4 (Ext.drew (Ext.refl _)) T4).lt)))))
        all_goals
          have hsz4 := HSZ.out _ w4 (Ext.drew (Ext.refl _)) T4
          have Ta : Touch w4 w7 vp.ownBlock.toList := (Touch.of_ext ((Ext.refl _).alloc _) _).trans TG
          generalize hv1 : Value.slice ao2 (ps.length + [ty3].length) cap2 = v1 at *
          generalize hS : World.setCell w7 _ v1 = w9
          have Tb : Touch w7 w9 [w.heap.size + 1] := by rw [← hS]; exact (Touch.of_ext (Ext.refl _) _).setCell (by simp) _
          have O9 : Own w9 (w.heap.size + 1) 32 #[.string s2, .bool false, v1, .slice none 0 0, .slice none 0 0] := by rw [← hS]; exact O7.set 2 v1
          have A9 : AccT (w.heap.size + 2) w9 v1 (ps ++ [ty3]) := AccT.low ac Tb (fun k hk => by simp at hk; omega)
          have T7 : Touch w4 w9 ((w.heap.size + 1) :: vp.ownBlock.toList) := (Ta.mono (fun k hk => List.mem_cons_of_mem _ hk)).trans (Tb.mono (fun k hk => by simp at hk; simp [hk]))
          have hF7 : ∀ k, k ∈ (w.heap.size + 1) :: vp.ownBlock.toList → w.heap.size < k := fun k hk => by
            rcases List.mem_cons.1 hk with rfl | hk
            · omega
            · have := HGE.out k hk; omega
          have P9 := HP.out.late K4 T7 (fun k hk => by have := hF7 k hk; omega)
          have OR9 := ((OR3.ext (Ext.drew (Ext.refl _))).touch' T4 (by simp; omega)).touch' T7 (fun hm => by have := hF7 _ hm; omega)
          have T9 : Touch w w9 [B] := ((HT3.out.trans (Touch.of_ext (Ext.drew (Ext.refl _)) [B])).trans T4).late2 T7 (fun k hk => by have := hF7 k hk; omega)
          have HP9 := Lib.hid P9
          have HOR9 := Lib.hid OR9
          have HA9 := Lib.hid A9
          have HT9 := Lib.hid T9
          have HO9 := Lib.hid O9
          have hjl9 := P9.le
          clear hS Ta Tb O9 A9 T7 hF7 P9 OR9 T9 ac hg hloc TG O7 c7 f7 z7 K4 T4 b42 bz2 b3 bz HC HAX HOX HSZ HGE OM3 OR3 HA3 HT3 HP3
          go_wp2_with fail
          refine ⟨⟨s2, ps ++ [ty3], v1, j4, b4, HO9.out, HA9.out, HP9.out, Lib.hid (Or.inr ⟨HTD5.out.1, by omega, HTD5.out.2⟩), by omega, ⟨by simp; omega, by omega⟩, HOR9.out, HT9.out⟩, ?_⟩
          rw [placeOf_eq HPM.out, placeOf_eq HP9.out]; omega
  case rest =>
    obtain ⟨s, ps, vp, j2, b2, OM6, A6, hp6, hor, hj2, OR6, hT6⟩ := hcut
    obtain ⟨va, vc, gv, rfl, -, -⟩ := AccT.rep A6
    obtain ⟨wk, hwk⟩ : ∃ W, W = wc := ⟨_, rfl⟩
    subst hwk
    have HA6 := Lib.hid A6
    have HP6 := Lib.hid hp6
    have HT6 := Lib.hid hT6
    have hs6 := hT6.size
    clear A6 hp6 hT6 OM OR HP1 x1
    have m0 : wk.cell? ⟨w.heap.size + 1, 0, none⟩ = some (.string s) := OM6.cell 0
    have mf0 := OM6.frozen 0
    have m1 : wk.cell? ⟨w.heap.size + 1, 1, none⟩ = some (.bool false) := OM6.cell 1
    have mf1 := OM6.frozen 1
    have m2 : wk.cell? ⟨w.heap.size + 1, 2, none⟩ = some (.slice va ps.length vc) := OM6.cell 2
    have mf2 := OM6.frozen 2
    have m3 : wk.cell? ⟨w.heap.size + 1, 3, none⟩ = some (.slice none 0 0) := OM6.cell 3
    have mf3 := OM6.frozen 3
    have m4 : wk.cell? ⟨w.heap.size + 1, 4, none⟩ = some (.slice none 0 0) := OM6.cell 4
    have mf4 := OM6.frozen 4
    have mz := OM6.lt
    by_cases hse : s = ⟨#[]⟩
    · have HG : Hid (Got b (fun n => pSig ts n a) true (s, ps, j2)) := Lib.hid (by
        rcases hor with ⟨h1, h2⟩ | ⟨h1, h2⟩
        · rw [hse] at h1; exact absurd rfl h1
        · exact h2)
      have hs0 : (s.toList == []) = true := str_eq' (l := []) hse
      clear hse hor
      obtain ⟨d0, d1, d2⟩ := HP6.out.cells
      have f2 := HP6.out.own.frozen 2
      have zB := lt_of_cell d0
      go_upto_region 12 with fail
      obtain ⟨K7, T7⟩ := HP6.out.setBad
      generalize hS2 : World.setCell wk _ _ = w7 at *
      have OM7 := OM6.touch' T7 (by simp; omega)
      have OR7 := OR6.touch' T7 (by simp; omega)
      have HA7 := Lib.hid (AccT.low HA6.out T7 (fun k hk => by simp at hk; omega))
      have HP7 := Lib.hid K7
      have HT7 := Lib.hid (HT6.out.trans T7)
      have hs7 := T7.size
      clear hS2 K7 T7 d0 d1 d2 f2 zB OM6 OR6 HA6 HP6 HT6 m0 mf0 m1 mf1 m2 mf2 m3 mf3 m4 mf4 mz
      have m0 : w7.cell? ⟨w.heap.size + 1, 0, none⟩ = some (.string s) := OM7.cell 0
      have mf0 := OM7.frozen 0
      have m1 : w7.cell? ⟨w.heap.size + 1, 1, none⟩ = some (.bool false) := OM7.cell 1
      have mf1 := OM7.frozen 1
      have m2 : w7.cell? ⟨w.heap.size + 1, 2, none⟩ = some (.slice va ps.length vc) := OM7.cell 2
      have mf2 := OM7.frozen 2
      have m3 : w7.cell? ⟨w.heap.size + 1, 3, none⟩ = some (.slice none 0 0) := OM7.cell 3
      have mf3 := OM7.frozen 3
      have m4 : w7.cell? ⟨w.heap.size + 1, 4, none⟩ = some (.slice none 0 0) := OM7.cell 4
      have mf4 := OM7.frozen 4
      have mz := OM7.lt
      have r0 : w7.cell? ⟨w.heap.size, 0, none⟩ = some (.string ⟨#[]⟩) := OR7.cell 0
      have rf0 := OR7.frozen 0
      have r1 : w7.cell? ⟨w.heap.size, 1, none⟩ = some (.bool false) := OR7.cell 1
      have rf1 := OR7.frozen 1
      have r2 : w7.cell? ⟨w.heap.size, 2, none⟩ = some (.slice none 0 0) := OR7.cell 2
      have rf2 := OR7.frozen 2
      have r3 : w7.cell? ⟨w.heap.size, 3, none⟩ = some (.slice none 0 0) := OR7.cell 3
      have rf3 := OR7.frozen 3
      have r4 : w7.cell? ⟨w.heap.size, 4, none⟩ = some (.slice none 0 0) := OR7.cell 4
      have rf4 := OR7.frozen 4
      have rz := OR7.lt
      go_wp2_with fail
      generalize hS : World.setCell (World.setCell (World.setCell (World.setCell (World.setCell w7 _ _) _ _) _ _) _ _) _ _ = W9
      obtain ⟨O9, T9⟩ := own5m OR7 (.string s) (.bool false) (.slice va ps.length vc) (.slice none 0 0) (.slice none 0 0)
      rw [hS] at O9 T9
      clear hS
      have p0 : W9.cell? ⟨w.heap.size, 0, none⟩ = some (.string s) := O9.cell 0
      have p1 : W9.cell? ⟨w.heap.size, 1, none⟩ = some (.bool false) := O9.cell 1
      have p2 : W9.cell? ⟨w.heap.size, 2, none⟩ = some (.slice va ps.length vc) := O9.cell 2
      have p3 : W9.cell? ⟨w.heap.size, 3, none⟩ = some (.slice none 0 0) := O9.cell 3
      have p4 : W9.cell? ⟨w.heap.size, 4, none⟩ = some (.slice none 0 0) := O9.cell 4
      have pz := O9.lt
      have FIN : PGot B tb to_ cap ao ts w a b (.returned (.agg #[.string s, .bool false, .slice va ps.length vc, .slice none 0 0, .slice none 0 0])) W9 := ⟨s, ps, _, j2, true, rfl, AccT.base (AccT.low HA7.out T9 (fun k hk => by simp at hk; omega)) (by omega), HP.out.late HP7.out T9 (fun k hk => by simp at hk; omega), HG.out, hj2, HT7.out.late2 T9 (fun k hk => by simp at hk; omega)⟩
      exact bodyPost_ret (v := .agg #[.string s, .bool false, .slice va ps.length vc, .slice none 0 0, .slice none 0 0]) (by simp [results, Tryz.results71, go_sem, p0, p1, p2, p3, p4, pz]) rfl FIN
    have HG : Hid (Got b (fun n => pSig ts n a) b2 (s, ps, j2)) := Lib.hid (by
      rcases hor with ⟨h1, h2⟩ | ⟨h1, h2⟩
      · exact h2
      · exact absurd h1 hse)
    have hs0 : (s.toList == []) = false := str_ne' (l := []) hse
    clear hse hor
    have r0 : wk.cell? ⟨w.heap.size, 0, none⟩ = some (.string ⟨#[]⟩) := OR6.cell 0
    have rf0 := OR6.frozen 0
    have r1 : wk.cell? ⟨w.heap.size, 1, none⟩ = some (.bool false) := OR6.cell 1
    have rf1 := OR6.frozen 1
    have r2 : wk.cell? ⟨w.heap.size, 2, none⟩ = some (.slice none 0 0) := OR6.cell 2
    have rf2 := OR6.frozen 2
    have r3 : wk.cell? ⟨w.heap.size, 3, none⟩ = some (.slice none 0 0) := OR6.cell 3
    have rf3 := OR6.frozen 3
    have r4 : wk.cell? ⟨w.heap.size, 4, none⟩ = some (.slice none 0 0) := OR6.cell 4
    have rf4 := OR6.frozen 4
    have rz := OR6.lt
    go_wp2_with fail
    generalize hS : World.setCell (World.setCell (World.setCell (World.setCell (World.setCell wk _ _) _ _) _ _) _ _) _ _ = W9
    obtain ⟨O9, T9⟩ := own5m OR6 (.string s) (.bool false) (.slice va ps.length vc) (.slice none 0 0) (.slice none 0 0)
    rw [hS] at O9 T9
    clear hS
    have p0 : W9.cell? ⟨w.heap.size, 0, none⟩ = some (.string s) := O9.cell 0
    have p1 : W9.cell? ⟨w.heap.size, 1, none⟩ = some (.bool false) := O9.cell 1
    have p2 : W9.cell? ⟨w.heap.size, 2, none⟩ = some (.slice va ps.length vc) := O9.cell 2
    have p3 : W9.cell? ⟨w.heap.size, 3, none⟩ = some (.slice none 0 0) := O9.cell 3
    have p4 : W9.cell? ⟨w.heap.size, 4, none⟩ = some (.slice none 0 0) := O9.cell 4
    have pz := O9.lt
    have FIN : PGot B tb to_ cap ao ts w a b (.returned (.agg #[.string s, .bool false, .slice va ps.length vc, .slice none 0 0, .slice none 0 0])) W9 := ⟨s, ps, _, j2, b2, rfl, AccT.base (AccT.low HA6.out T9 (fun k hk => by simp at hk; omega)) (by omega), HP.out.late HP6.out T9 (fun k hk => by simp at hk; omega), HG.out, hj2, HT6.out.late2 T9 (fun k hk => by simp at hk; omega)⟩
    exact bodyPost_ret (v := .agg #[.string s, .bool false, .slice va ps.length vc, .slice none 0 0, .slice none 0 0]) (by simp [results, Tryz.results71, go_sem, p0, p1, p2, p3, p4, pz]) rfl FIN

set_option maxHeartbeats 8000000 in
set_option maxRecDepth 100000 in
theorem l5Method_any {B tb to_ cap : Nat} {ao : Option Addr} {ts : List MToken} {a : Nat} {b : Bool} (w : World) (c : Bool) (h : Prs 48 B tb to_ cap ao ts w (a) b) : Calls Tryz.prog 37 #[.pointer (some ⟨B, 0, none⟩), .bool c] w (RMGot B tb to_ cap ao ts c w a b) := by
  have HP := Lib.hid h
  have hrb := h.own.lt
  clear h
  go_enter Tryz.func37, Tryz.ntmps37
  go_upto_region 1 with fail
  generalize hS : World.alloc w _ = W1
  have x1 : Ext w W1 := by rw [← hS]; exact (Ext.refl _).alloc _
  have OR : Own W1 w.heap.size 32 #[.string ⟨#[]⟩, .bool false, .slice none 0 0, .slice none 0 0, .slice none 0 0] := by rw [← hS]; exact own_new w _ _
  have hro := OR.lt
  have HPT := Lib.hid (l5Pattern_any W1 (HP.out.ext x1))
  clear hS
  go_wp2_with fail
  refine HPT.out.mono ?_
  rintro e w2 ⟨s, ps, vp, j, bj, rfl, A2, K2, g2, hj, T2⟩
  obtain ⟨va, vc, gv, rfl, rp, fp_⟩ := AccT.rep A2
  have OR2 := OR.touch' T2 (by simp; omega)
  have HRP := Lib.hid rp
  have HFP := Lib.hid fp_
  have hgl := fun k (hk : k ∈ gv) => fp_.lt hk
  have HGL := Lib.hid hgl
  have HP2 := Lib.hid K2
  have HG2 := Lib.hid g2
  have HT2 := Lib.hid ((Touch.of_ext x1 [B]).trans T2)
  have hs2 := T2.size
  clear A2 K2 g2 T2 rp fp_ hgl OR HPT x1
  go_upto_region 2 with fail
  generalize hS : World.alloc w2 _ = w3
  have x3 : Ext w2 w3 := by rw [← hS]; exact (Ext.refl _).alloc _
  have OM3 : Own w3 w2.heap.size 32 #[.string s, .bool false, .slice va ps.length vc, .slice none 0 0, .slice none 0 0] := by rw [← hS]; exact own_new w2 _ _
  have OR3 := OR2.ext x3
  have HRP3 := Lib.hid (HRP.out.ext x3)
  have HP3 := Lib.hid (HP2.out.ext x3)
  have HT3 := Lib.hid (HT2.out.trans (Touch.of_ext x3 [B]))
  have hs3 := x3.size
  have hmbr : w.heap.size < w2.heap.size := OR2.lt
  clear hS x3 OR2 HRP HP2 HT2
  generalize hmb : w2.heap.size = mb at *
  clear hmb
  have hmz3 := OM3.lt
  have m0 : w3.cell? ⟨mb, 0, none⟩ = some (.string s) := OM3.cell 0
  have mf0 := OM3.frozen 0
  have m1 : w3.cell? ⟨mb, 1, none⟩ = some (.bool false) := OM3.cell 1
  have mf1 := OM3.frozen 1
  have m2 : w3.cell? ⟨mb, 2, none⟩ = some (.slice va ps.length vc) := OM3.cell 2
  have mf2 := OM3.frozen 2
  have m3 : w3.cell? ⟨mb, 3, none⟩ = some (.slice none 0 0) := OM3.cell 3
  have mf3 := OM3.frozen 3
  have m4 : w3.cell? ⟨mb, 4, none⟩ = some (.slice none 0 0) := OM3.cell 4
  have mf4 := OM3.frozen 4
  have mz := OM3.lt
  go_upto_region 3 with fail
  generalize hS : World.setCell w3 _ _ = w4
  have T4 : Touch w3 w4 [mb] := by rw [← hS]; exact (Touch.of_ext (Ext.refl _) _).setCell (by simp) _
  have OM4 : Own w4 mb 32 #[.string s, .bool c, .slice va ps.length vc, .slice none 0 0, .slice none 0 0] := by rw [← hS]; exact OM3.set 1 _
  have OR4 := OR3.touch' T4 (by simp; omega)
  have HRP4 := Lib.hid (HRP3.out.touch T4 (fun k hk hm => by have := HGL.out k hk; simp at hm; omega))
  have HP4 := Lib.hid (HP.out.late HP3.out T4 (fun k hk => by simp at hk; omega))
  have HT4 := Lib.hid (HT3.out.late2 T4 (fun k hk => by simp at hk; omega))
  have hs4 := T4.size
  clear hS T4 OM3 OR3 HRP3 HP3 HT3 m0 mf0 m1 mf1 m2 mf2 m3 mf3 m4 mf4 mz
  go_wp2_with fail
  refine (rnames_any w4 HP4.out).mono ?_
  rintro e w5 ⟨vt, lt, j5, b5, rfl, A5_, K5, g5, hj5, hl5, T5⟩
  obtain ⟨vt1, vt2, gt, rfl, rt, ft⟩ := AccT.rep A5_
  have OM5 := OM4.touch' T5 (by simp; omega)
  have OR5 := OR4.touch' T5 (by simp; omega)
  have HRP5 := Lib.hid (HRP4.out.touch T5 (fun k hk hm => by have := HFP.out.ge k hk; simp at hm; omega))
  have HRT5 := Lib.hid rt
  have HFT := Lib.hid ft
  have HP5 := Lib.hid K5
  have HT5 := Lib.hid (HT4.out.trans T5)
  have hs5 := T5.size
  have HG5 := Lib.hid g5
  clear A5_ K5 g5 T5 rt ft OM4 OR4 HRP4 HP4 HT4
  have m0 : w5.cell? ⟨mb, 0, none⟩ = some (.string s) := OM5.cell 0
  have mf0 := OM5.frozen 0
  have m1 : w5.cell? ⟨mb, 1, none⟩ = some (.bool c) := OM5.cell 1
  have mf1 := OM5.frozen 1
  have m2 : w5.cell? ⟨mb, 2, none⟩ = some (.slice va ps.length vc) := OM5.cell 2
  have mf2 := OM5.frozen 2
  have m3 : w5.cell? ⟨mb, 3, none⟩ = some (.slice none 0 0) := OM5.cell 3
  have mf3 := OM5.frozen 3
  have m4 : w5.cell? ⟨mb, 4, none⟩ = some (.slice none 0 0) := OM5.cell 4
  have mf4 := OM5.frozen 4
  have mz := OM5.lt
  go_upto_region 4 with fail
  generalize hS : World.setCell w5 _ _ = w6
  have T6 : Touch w5 w6 [mb] := by rw [← hS]; exact (Touch.of_ext (Ext.refl _) _).setCell (by simp) _
  have OM6 : Own w6 mb 32 #[.string s, .bool c, .slice va ps.length vc, .slice vt1 lt.length vt2, .slice none 0 0] := by rw [← hS]; exact OM5.set 3 _
  have OR6 := OR5.touch' T6 (by simp; omega)
  have HRP6 := Lib.hid (HRP5.out.touch T6 (fun k hk hm => by have := HGL.out k hk; simp at hm; omega))
  have HRT6 := Lib.hid (HRT5.out.touch T6 (fun k hk hm => by have := HFT.out.ge k hk; simp at hm; omega))
  have HP6 := Lib.hid (HP.out.late HP5.out T6 (fun k hk => by simp at hk; omega))
  have HT6 := Lib.hid (HT5.out.late2 T6 (fun k hk => by simp at hk; omega))
  have hs6 := T6.size
  clear hS T6 OM5 OR5 HRP5 HRT5 HP5 HT5 m0 mf0 m1 mf1 m2 mf2 m3 mf3 m4 mf4 mz
  go_wp2_with fail
  refine (rstms_all j5 w6 b5 HP6.out).mono ?_
  rintro e w7 ⟨lb, vb, j7, b7, rfl, A7, K7, g7, hl7, hj7, T7⟩
  obtain ⟨vb1, vb2, gb, rfl, rb, fb⟩ := AccX.rep A7
  have OM7 := OM6.touch' T7 (by simp; omega)
  have OR7 := OR6.touch' T7 (by simp; omega)
  have HRP7 := Lib.hid (HRP6.out.touch T7 (fun k hk hm => by have := HFP.out.ge k hk; simp at hm; omega))
  have HRT7 := Lib.hid (HRT6.out.touch T7 (fun k hk hm => by have := HFT.out.ge k hk; simp at hm; omega))
  have HRB7 := Lib.hid rb
  have HFB := Lib.hid fb
  have HP7 := Lib.hid K7
  have HT7 := Lib.hid (HT6.out.trans T7)
  have hs7 := T7.size
  have HGG := Lib.hid (((((Todo.refl b (fun n => pMRest ts n c a)).eq0 (H := fun n => (pSig ts n a).bind fun g => (pVS ts n g.2.2).bind fun v => some (⟨g.1, c, g.2.1, v.1, v.2.1⟩, v.2.2)) (fun n => by rw [pMRest])).call0 HG2.out (g := fun n g => (pVS ts n g.2.2).bind fun v => some (⟨g.1, c, g.2.1, v.1, v.2.1⟩, v.2.2)) (fun n => rfl)).call0 (((Todo.refl bj (fun n => pVS ts n j)).call0 HG5.out (g := fun n v => (pStmts ts n [] v.2).bind fun b => some (v.1, b.1, b.2)) (fun n => rfl)).call0 g7 (g := fun n b => some (lt, b.1, b.2)) (fun n => rfl) |>.done0 (y := (lt, lb, j7)) (fun n => rfl)) (g := fun n v => some ((⟨s, c, ps, v.1, v.2.1⟩ : MMethod), v.2.2)) (fun n => rfl)).done0 (y := ((⟨s, c, ps, lt, lb⟩ : MMethod), j7)) (fun n => rfl))
  clear A7 K7 g7 T7 rb fb OM6 OR6 HRP6 HRT6 HP6 HT6 HG2 HG5
  have m0 : w7.cell? ⟨mb, 0, none⟩ = some (.string s) := OM7.cell 0
  have mf0 := OM7.frozen 0
  have m1 : w7.cell? ⟨mb, 1, none⟩ = some (.bool c) := OM7.cell 1
  have mf1 := OM7.frozen 1
  have m2 : w7.cell? ⟨mb, 2, none⟩ = some (.slice va ps.length vc) := OM7.cell 2
  have mf2 := OM7.frozen 2
  have m3 : w7.cell? ⟨mb, 3, none⟩ = some (.slice vt1 lt.length vt2) := OM7.cell 3
  have mf3 := OM7.frozen 3
  have m4 : w7.cell? ⟨mb, 4, none⟩ = some (.slice none 0 0) := OM7.cell 4
  have mf4 := OM7.frozen 4
  have mz := OM7.lt
  go_upto_region 5 with fail
  generalize hS : World.setCell w7 _ _ = w8
  have T8 : Touch w7 w8 [mb] := by rw [← hS]; exact (Touch.of_ext (Ext.refl _) _).setCell (by simp) _
  have OM8 : Own w8 mb 32 #[.string s, .bool c, .slice va ps.length vc, .slice vt1 lt.length vt2, .slice vb1 lb.length vb2] := by rw [← hS]; exact OM7.set 4 _
  have OR8 := OR7.touch' T8 (by simp; omega)
  clear hS OM7 OR7 m0 mf0 m1 mf1 m2 mf2 m3 mf3 m4 mf4 mz
  have m0 : w8.cell? ⟨mb, 0, none⟩ = some (.string s) := OM8.cell 0
  have mf0 := OM8.frozen 0
  have m1 : w8.cell? ⟨mb, 1, none⟩ = some (.bool c) := OM8.cell 1
  have mf1 := OM8.frozen 1
  have m2 : w8.cell? ⟨mb, 2, none⟩ = some (.slice va ps.length vc) := OM8.cell 2
  have mf2 := OM8.frozen 2
  have m3 : w8.cell? ⟨mb, 3, none⟩ = some (.slice vt1 lt.length vt2) := OM8.cell 3
  have mf3 := OM8.frozen 3
  have m4 : w8.cell? ⟨mb, 4, none⟩ = some (.slice vb1 lb.length vb2) := OM8.cell 4
  have mf4 := OM8.frozen 4
  have mz := OM8.lt
  have r0 : w8.cell? ⟨w.heap.size, 0, none⟩ = some (.string ⟨#[]⟩) := OR8.cell 0
  have rf0 := OR8.frozen 0
  have r1 : w8.cell? ⟨w.heap.size, 1, none⟩ = some (.bool false) := OR8.cell 1
  have rf1 := OR8.frozen 1
  have r2 : w8.cell? ⟨w.heap.size, 2, none⟩ = some (.slice none 0 0) := OR8.cell 2
  have rf2 := OR8.frozen 2
  have r3 : w8.cell? ⟨w.heap.size, 3, none⟩ = some (.slice none 0 0) := OR8.cell 3
  have rf3 := OR8.frozen 3
  have r4 : w8.cell? ⟨w.heap.size, 4, none⟩ = some (.slice none 0 0) := OR8.cell 4
  have rf4 := OR8.frozen 4
  have rz := OR8.lt
  go_wp2_with fail
  generalize hS : World.setCell (World.setCell (World.setCell (World.setCell (World.setCell w8 _ _) _ _) _ _) _ _) _ _ = W9
  obtain ⟨O9, T9⟩ := own5m OR8 (.string s) (.bool c) (.slice va ps.length vc) (.slice vt1 lt.length vt2) (.slice vb1 lb.length vb2)
  rw [hS] at O9 T9
  clear hS
  have p0 : W9.cell? ⟨w.heap.size, 0, none⟩ = some (.string s) := O9.cell 0
  have p1 : W9.cell? ⟨w.heap.size, 1, none⟩ = some (.bool c) := O9.cell 1
  have p2 : W9.cell? ⟨w.heap.size, 2, none⟩ = some (.slice va ps.length vc) := O9.cell 2
  have p3 : W9.cell? ⟨w.heap.size, 3, none⟩ = some (.slice vt1 lt.length vt2) := O9.cell 3
  have p4 : W9.cell? ⟨w.heap.size, 4, none⟩ = some (.slice vb1 lb.length vb2) := O9.cell 4
  have pz := O9.lt
  have T89 : Touch w7 W9 [mb, w.heap.size] := (T8.mono (by simp)).trans (T9.mono (by simp))
  have RN := HRP7.out.touch T89 (fun k hk hm => by have h1 := HGL.out k hk; have h2 := HFP.out.ge k hk; simp at hm; omega)
  have RT := HRT7.out.touch T89 (fun k hk hm => by have := HFT.out.ge k hk; simp at hm; omega)
  have RB := HRB7.out.touch T89 (fun k hk hm => by have := HFB.out k hk; simp at hm; omega)
  have R9 := MMethod.shut (x := ⟨s, c, ps, lt, lb⟩) RN RT RB
  rw [List.append_nil] at R9
  have FIN : RMGot B tb to_ cap ao ts c w a b (.returned (.agg #[.string s, .bool c, .slice va ps.length vc, .slice vt1 lt.length vt2, .slice vb1 lb.length vb2])) W9 := ⟨⟨s, c, ps, lt, lb⟩, _, gv ++ (gt ++ gb), j7, b7, rfl, R9, fun k hk => by
    rcases List.mem_append.1 hk with hk | hk
    · have := HFP.out.ge k hk; omega
    · rcases List.mem_append.1 hk with hk | hk
      · have := HFT.out.ge k hk; omega
      · have := HFB.out k hk; omega, HP.out.late HP7.out T89 (fun k hk => by simp at hk; omega), HGG.out, by omega, HT7.out.late2 T89 (fun k hk => by simp at hk; omega)⟩
  exact bodyPost_ret (v := .agg #[.string s, .bool c, .slice va ps.length vc, .slice vt1 lt.length vt2, .slice vb1 lb.length vb2]) (by simp [results, Tryz.results37, go_sem, p0, p1, p2, p3, p4, pz]) rfl FIN

end Go.Proofs.YtonmcoojgkgemaaGreatDoor
