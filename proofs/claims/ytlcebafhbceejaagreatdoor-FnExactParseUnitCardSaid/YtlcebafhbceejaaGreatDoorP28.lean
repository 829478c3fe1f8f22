/-
  SEVERAL TEXTS IN ONE: CONTRACTS: the reference's parser: a method's pattern, a method; CONTRACTS: the reference's parser: a class; CONTRACTS: the program's parser: done.
  Conditions: those that each lemma states.
-/
import Derived.Test.YtlcebafhbceejaaGreatDoorRows
import Derived.Deep.DeepCutAuto
import Derived.Deep.RegionHeldLaw
import Derived.Test.YtlcebafhbceejaaGreatDoorP21
import Derived.Test.YtlcebafhbceejaaGreatDoorP27
import Derived.Test.YtlcebafhbceejaaGreatDoorP23
import Derived.Test.YtlcebafhbceejaaGreatDoorP18
namespace Go.Proofs.YtlcebafhbceejaaGreatDoor
open Go.RowKit
set_option maxHeartbeats 8000000
set_option maxRecDepth 100000
set_option linter.unusedSimpArgs false
set_option linter.unusedVariables false
def PGot (B tb to_ cap : Nat) (ao : Option Addr) (ts : List MToken) (w : World) (a : Nat) (b : Bool) (e : Ending) (w' : World) : Prop :=
 ∃ (s : ByteArray) (ps : List ByteArray) (vp : Value) (a' : Nat) (b' : Bool), e = .returned (.agg #[.string s, .bool false, vp, .slice none 0 0, .slice none 0 0]) /\ AccT w.heap.size w' vp ps /\ Prs 38 B tb to_ cap ao ts w' (a') b' /\ Got b (fun n => pSig ts n a) b' (s, ps, a') /\ a <= a' /\ Touch w w' [B]
def RMGot (B tb to_ cap : Nat) (ao : Option Addr) (ts : List MToken) (c : Bool) (w : World) (a : Nat) (b : Bool) (e : Ending) (w' : World) : Prop :=
 ∃ (m : MMethod) (cs : List Value) (fp : List Nat) (a' : Nat) (b' : Bool), e = .returned (.agg (List.toArray cs)) /\ RepF w' m.d cs fp /\ (∀ k, k ∈ fp -> w.heap.size <= k) /\ Prs 38 B tb to_ cap ao ts w' (a') b' /\ Got b (fun n => pMRest ts n c a) b' (m, a') /\ a <= a' /\ Touch w w' [B]
theorem l5Pattern_any {B tb to_ cap : Nat} {ao : Option Addr} {ts : List MToken} {a : Nat} {b : Bool} (w : World) (h : Prs 38 B tb to_ cap ao ts w (a) b) : Calls Tryz.prog 70 #[.pointer (some ⟨B, 0, none⟩)] w (PGot B tb to_ cap ao ts w a b) := by
 have HP := LH h
 have hln := h.len
 have hle := h.le
 have hrb := h.own.lt
 have hwd := fun hk => h.words (i := a) hk
 clear h
 go_enter Tryz.func70, Tryz.ntmps70
 go_upto_block 0 with fail
 generalize hS : World.alloc (World.alloc w _) _ = W1
 have x1 : Ext w W1 := by rw [<- hS]; exact ((XR _).alloc _).alloc _
 have OR : Own W1 w.heap.size 26 #[.string ⟨#[]⟩, .bool false, .slice none 0 0, .slice none 0 0, .slice none 0 0] := by rw [<- hS]; exact (own_new w _ _).ext ((XR _).alloc _)
 have OM : Own W1 (w.heap.size + 1) 26 #[.string ⟨#[]⟩, .bool false, .slice none 0 0, .slice none 0 0, .slice none 0 0] := by rw [<- hS]; exact own_new2 w _ _ _
 have HP1 := LH (HP.out.ext x1)
 have hs1 : w.heap.size + 2 <= W1.heap.size := by rw [<- hS]; simp
 clear hS
 go_cut [] (fun wx => ∃ (s : ByteArray) (ps : List ByteArray) (vp : Value) (j2 : Nat) (b2 : Bool), Own wx (w.heap.size + 1) 26 #[.string s, .bool false, vp, .slice none 0 0, .slice none 0 0] /\ AccT (w.heap.size + 2) wx vp ps /\ Prs 38 B tb to_ cap ao ts wx (j2) b2 /\ ((s.size ≠ 0 /\ Got b (fun n => pSig ts n a) b2 (s, ps, j2)) ∨ (s = ⟨#[]⟩ /\ Got b (fun n => pSig ts n a) true (s, ps, j2))) /\ a <= j2 /\ Own wx w.heap.size 26 #[.string ⟨#[]⟩, .bool false, .slice none 0 0, .slice none 0 0, .slice none 0 0] /\ Touch w wx [B])
 case first =>
  cases hb1 : tkB ts a 1
  rotate_left
  · have hjt := kind_lt (by decide) hb1
    have hnz := hwd (Or.inl ((kind_eq (by decide)).1 hb1))
    have HI := risk_any W1 HP1.out 1 (by decide)
    rw [hb1] at HI
    have HI2 := LH HI
    have TB := LH hb1
    clear HI hb1
    go_wp2_with fail
    refine HI2.out.mono ?_
    rintro e w2 ⟨rfl, hx⟩
    have HC := LH (rneedk_yes w2 (HP1.out.ext hx) 1 (by decide) TB.out)
    have O2 := OR.ext hx
    have M2 := OM.ext hx
    have T02 := Touch.of_ext (x1.trans hx) [B]
    obtain ⟨tx, htx⟩ : ∃ t, tkT ts a = t := ⟨_, rfl⟩
    rw [htx] at HC hnz
    have HTX := LH htx
    clear htx HI2 hx OR OM HP1
    go_wp2_with fail
    refine HC.out.mono ?_
    rintro e w6 ⟨rfl, K6, T6⟩
    have OM6 := M2.touch' T6 (by simp; omega)
    have OR6 := O2.touch' T6 (by simp; omega)
    have m0 := OM6.k0
    have mf0 := OM6.f0
    have m1 := OM6.k1
    have mf1 := OM6.f1
    have m2 := OM6.k2
    have mf2 := OM6.f2
    have m3 := OM6.k3
    have mf3 := OM6.f3
    have m4 := OM6.k4
    have mf4 := OM6.f4
    have mz := OM6.lt
    go_wp2_with fail
    generalize hS : World.setCell w6 _ _ = w7
    have T7 : Touch w6 w7 [w.heap.size + 1] := by rw [<- hS]; exact (Touch.of_ext (XR _) _).setCell (by simp) _
    have OM7 : Own w7 (w.heap.size + 1) 26 #[.string tx, .bool false, .slice none 0 0, .slice none 0 0, .slice none 0 0] := by rw [<- hS]; exact OM6.set 0 _
    have OR7 := OR6.touch' T7 (by simp)
    have P7 := HP.out.late K6 T7 (fun k hk => by simp at hk; omega)
    have T07 := (T02.trans T6).late2 T7 (fun k hk => by simp at hk; omega)
    clear hS
    go_meet
    exact ⟨tx, [], .slice none 0 0, a + 1, b, OM7, Acc.nil _ _ _ _, P7, Or.inl ⟨hnz, Got.ok ⟨0, fun n _ => by show pSig ts n a = _; rw [pSig, if_pos TB.out, HTX.out]⟩⟩, by omega, OR7, T07⟩
  have NB1 := LH hb1
  have HI := risk_any W1 HP1.out 1 (by decide)
  rw [hb1] at HI
  have HI2 := LH HI
  clear HI hb1
  go_wp2_with fail
  refine HI2.out.mono ?_
  rintro e w2 ⟨rfl, hx⟩
  have HP2 := LH (HP1.out.ext hx)
  have O2 := OR.ext hx
  have M2 := OM.ext hx
  have HT2 := LH (Touch.of_ext (x1.trans hx) [B])
  have hs2 := hx.size
  clear HI2 hx OR OM HP1 x1
  cases hb6 : tkB ts a 6
  rotate_left
  · have hjt := kind_lt (by decide) hb6
    have hnz := hwd (Or.inr (Or.inr ((kind_eq (by decide)).1 hb6)))
    have HI := risk_any w2 HP2.out 6 (by decide)
    rw [hb6] at HI
    have HI2 := LH HI
    have TB := LH hb6
    clear HI hb6
    go_wp2_with fail
    refine HI2.out.mono ?_
    rintro e w5 ⟨rfl, hx⟩
    have HC0 := LH (rneedk_yes w5 (HP2.out.ext hx) 6 (by decide) TB.out)
    have O5 := O2.ext hx
    have M5 := M2.ext hx
    have HT5 := LH (HT2.out.trans (Touch.of_ext hx [B]))
    have hs5 := hx.size
    obtain ⟨s2, htx⟩ : ∃ t, tkT ts a = t := ⟨_, rfl⟩
    rw [htx] at HC0 hnz
    have HTX := LH htx
    clear htx HI2 hx O2 M2 HP2 HT2
    go_wp2_with fail
    refine HC0.out.mono ?_
    rintro e w6 ⟨rfl, K6, T6⟩
    have OM6 := M5.touch' T6 (by simp; omega)
    have OR6 := O5.touch' T6 (by simp; omega)
    have m0 := OM6.k0
    have mf0 := OM6.f0
    have m1 := OM6.k1
    have mf1 := OM6.f1
    have m2 := OM6.k2
    have mf2 := OM6.f2
    have m3 := OM6.k3
    have mf3 := OM6.f3
    have m4 := OM6.k4
    have mf4 := OM6.f4
    have mz := OM6.lt
    go_upto_region 9 with fail
    generalize hS : World.setCell w6 _ _ = w3
    have T7 : Touch w6 w3 [w.heap.size + 1] := by rw [<- hS]; exact (Touch.of_ext (XR _) _).setCell (by simp) _
    obtain ⟨vp, hvp⟩ : ∃ v : Value, v = .slice none 0 0 := ⟨_, rfl⟩
    have OM3 : Own w3 (w.heap.size + 1) 26 #[.string s2, .bool false, vp, .slice none 0 0, .slice none 0 0] := by rw [<- hS, hvp]; exact OM6.set 0 _
    have OR3 := OR6.touch' T7 (by simp)
    have HP3 := LH (HP.out.late K6 T7 (fun k hk => by simp at hk; omega))
    have HT3 := LH ((HT5.out.trans T6).late2 T7 (fun k hk => by simp at hk; omega))
    obtain ⟨ps, hps⟩ : ∃ l : List ByteArray, l = [] := ⟨_, rfl⟩
    have HA3 : Hid (AccT (w.heap.size + 2) w3 vp ps) := LH (by rw [hvp, hps]; exact Acc.nil _ _ _ _)
    have hpl0 : ps.length <= 1 := by rw [hps]; exact Nat.zero_le _
    have hs6 := T6.size
    have hs3 := T7.size
    clear hS T7 K6 T6 OM6 OR6 M5 O5 HT5 m0 mf0 m1 mf1 m2 mf2 m3 mf3 m4 mf4 mz HC0 hvp
    obtain ⟨ty3, j4, b4, HC, HG, hj4⟩ : ∃ (ty3 : ByteArray) (j4 : Nat) (b4 : Bool), Hid (∀ W, Ext w3 W -> Calls Tryz.prog 12 #[.pointer (some ⟨B, 0, none⟩), .int .i64 1, .string ⟨#[]⟩] W (fun e w' => e = .returned (.string ty3) /\ Prs 38 B tb to_ cap ao ts w' (j4) b4 /\ Touch W w' [B])) /\ Hid (Got b (fun n => pSig ts n a) b4 (s2, ps ++ [ty3], j4)) /\ a + 1 <= j4 := by
     cases hb : tkB ts (a + 1) 1
     · exact ⟨⟨#[]⟩, a + 1, true, LH (fun W hW => rneedk_no W (HP3.out.ext hW) 1 (by decide) hb), LH (Got.bad _ ⟨0, fun n _ => by show pSig ts n a = _; rw [pSig, if_neg (by rw [NB1.out]; decide), if_pos TB.out, if_neg (by rw [hb]; decide)]⟩), Nat.le_refl _⟩
     · exact ⟨tkT ts (a + 1), a + 2, b, LH (fun W hW => rneedk_yes W (HP3.out.ext hW) 1 (by decide) hb), LH (Got.ok ⟨0, fun n _ => by show pSig ts n a = _; rw [pSig, if_neg (by rw [NB1.out]; decide), if_pos TB.out, if_pos hb, HTX.out, hps]; rfl⟩), by omega⟩
    clear hps
    have b3 := OM3.k2
    have bz := OM3.lt
    have HOX := LH (fun (W : World) (w4 : World) (hW : Ext w3 W) (T : Touch W w4 [B]) => (OM3.ext hW).touch' T (by simp; omega))
    have HAX := LH (fun (W : World) (w4 : World) (hW : Ext w3 W) (T : Touch W w4 [B]) => AccT.low (AccT.ext HA3.out hW) T (fun k hk => by simp at hk; omega))
    have HSZ := LH (fun (W : World) (w4 : World) (hW : Ext w3 W) (T : Touch W w4 [B]) => Nat.le_trans hW.size T.size)
    have HGE : Hid (∀ k, k ∈ vp.ownBlock.toList -> w.heap.size + 2 <= k) := LH (fun k hk => (Acc.ge HA3.out (k := k) (by simpa using hk)).1)
    go_region_law ((first
     | (refine step_append_strs_at rfl _ _ rfl (w.heap.size + 2) vp ps rfl (AccT.ext (HAX.out _ w4 (Ext.drew (XR _)) T4) ((XR _).alloc _)) [ty3] _ _ _ rfl (rep_one _ _) (by simp; omega) (by have := HSZ.out _ w4 (Ext.drew (XR _)) T4; simp; omega) ?_; intro ao2 cap2 w7 ac hg hloc; have TG : Touch _ w7 vp.ownBlock.toList := (Touch.of_ext (XR _) _).grown hg (fun k hk => Or.inl (by simp [hk])); have O7 := ((HOX.out _ w4 (Ext.drew (XR _)) T4).ext ((XR _).alloc _)).touch' TG (fun hm => by have := HGE.out _ hm; omega); have c7 := O7.cell 2; have f7 := O7.f2; have z7 := O7.lt)
     | (go_simp; go_wp2_with ((refine (HC.out _ (by first | exact Ext.drew (XR _) | exact XR _)).mono ?_; rintro e w4 ⟨rfl, K4, T4⟩; have b42 : w4.cell? ⟨w.heap.size + 1, 2, none⟩ = some vp := (HOX.out _ w4 (Ext.drew (XR _)) T4).cell 2; have bz2 := (HOX.out _ w4 (Ext.drew (XR _)) T4).lt)))))
    all_goals
     have hsz4 := HSZ.out _ w4 (Ext.drew (XR _)) T4
     have Ta : Touch w4 w7 vp.ownBlock.toList := (Touch.of_ext ((XR _).alloc _) _).trans TG
     generalize hv1 : Value.slice ao2 (ps.length + [ty3].length) cap2 = v1 at *
     generalize hS : World.setCell w7 _ v1 = w9
     have Tb : Touch w7 w9 [w.heap.size + 1] := by rw [<- hS]; exact (Touch.of_ext (XR _) _).setCell (by simp) _
     have O9 : Own w9 (w.heap.size + 1) 26 #[.string s2, .bool false, v1, .slice none 0 0, .slice none 0 0] := by rw [<- hS]; exact O7.set 2 v1
     have A9 : AccT (w.heap.size + 2) w9 v1 (ps ++ [ty3]) := AccT.low ac Tb (fun k hk => by simp at hk; omega)
     have T7 : Touch w4 w9 ((w.heap.size + 1) :: vp.ownBlock.toList) := (Ta.mono (fun k hk => List.mem_cons_of_mem _ hk)).trans (Tb.mono (fun k hk => by simp at hk; simp [hk]))
     have hF7 : ∀ k, k ∈ (w.heap.size + 1) :: vp.ownBlock.toList -> w.heap.size < k := fun k hk => by
      rcases List.mem_cons.1 hk with rfl | hk
      · omega
      · have := HGE.out k hk; omega
     have P9 := HP.out.late K4 T7 (fun k hk => by have := hF7 k hk; omega)
     have OR9 := ((OR3.ext (Ext.drew (XR _))).touch' T4 (by simp; omega)).touch' T7 (fun hm => by have := hF7 _ hm; omega)
     have T9 : Touch w w9 [B] := ((HT3.out.trans (Touch.of_ext (Ext.drew (XR _)) [B])).trans T4).late2 T7 (fun k hk => by have := hF7 k hk; omega)
     have HP9 := LH P9
     have HOR9 := LH OR9
     have HA9 := LH A9
     have HT9 := LH T9
     have HO9 := LH O9
     have hjl9 := P9.le
     clear hS Ta Tb O9 A9 T7 hF7 P9 OR9 T9 ac hg hloc TG O7 c7 f7 z7 K4 T4 b42 bz2 b3 bz HC HAX HOX HSZ HGE OM3 OR3 HA3 HT3 HP3
     go_wp2_with fail
     go_meet
     exact ⟨s2, ps ++ [ty3], v1, j4, b4, HO9.out, HA9.out, HP9.out, Or.inl ⟨hnz, HG.out⟩, by omega, HOR9.out, HT9.out⟩
  have NB6 := LH hb6
  have HI := risk_any w2 HP2.out 6 (by decide)
  rw [hb6] at HI
  have HI2 := LH HI
  clear HI hb6
  go_wp2_with fail
  refine HI2.out.mono ?_
  rintro e w5 ⟨rfl, hx⟩
  have HP5 := LH (HP2.out.ext hx)
  have O5 := O2.ext hx
  have M5 := M2.ext hx
  have HT5 := LH (HT2.out.trans (Touch.of_ext hx [B]))
  have hs5 := hx.size
  clear HI2 hx O2 M2 HP2 HT2
  go_wp2_with fail
  go_loopw [] (fun wr => ∃ (s : ByteArray) (ps : List ByteArray) (vp : Value) (j2 : Nat) (b2 : Bool), Own wr (w.heap.size + 1) 26 #[.string s, .bool false, vp, .slice none 0 0, .slice none 0 0] /\ AccT (w.heap.size + 2) wr vp ps /\ Prs 38 B tb to_ cap ao ts wr (j2) b2 /\ Hid ((s = ⟨#[]⟩ /\ ps = [] /\ j2 = a /\ b2 = b) ∨ (b = false /\ s.size ≠ 0 /\ Todo b (fun n => pSig ts n a) b2 (fun n => pKSig ts n s ps j2))) /\ a <= j2 /\ (ps.length + a <= j2 + 1 /\ s.size <= 100000 * (j2 - a)) /\ Own wr w.heap.size 26 #[.string ⟨#[]⟩, .bool false, .slice none 0 0, .slice none 0 0, .slice none 0 0] /\ Touch w wr [B]) (fun wr => ts.length + 1 - placeOf B wr)
  case atStart => exact ⟨⟨#[]⟩, [], .slice none 0 0, a, b, M5, Acc.nil _ _ _ _, HP5.out, LH (Or.inl ⟨rfl, rfl, rfl, rfl⟩), Nat.le_refl _, ⟨by simp, Nat.zero_le _⟩, O5, HT5.out⟩
  case round =>
   clear M5 HP5 O5 HT5
   obtain ⟨s, ps, vp, j3, b3, hM, hA, hp, HTD3, hj3, ⟨hpl, hsz⟩, hR, hT⟩ := hrel
   have HAr := LH hA
   have HPr := LH hp
   have HPM := LH hp
   have HTr := LH hT
   obtain ⟨d0, d1, d2⟩ := hp.cells
   have zB := lt_of_cell d0
   have hjl3 := hp.le
   have hws := hT.size
   have hw3 := fun hk => hp.words (i := j3) hk
   clear hA hp hT
   cases b3
   rotate_left
   · have HG : Hid ((s.size ≠ 0 /\ Got b (fun n => pSig ts n a) true (s, ps, j3)) ∨ (s = ⟨#[]⟩ /\ Got b (fun n => pSig ts n a) true (s, ps, j3))) := LH (by
      rcases HTD3.out with ⟨h1, h2, h3, h4⟩ | ⟨h1, h2, h3⟩
      · refine Or.inr ⟨h1, ?_⟩
        rw [<- h4]
        exact Got.dead _ _
      · exact Or.inl ⟨h2, h3.dead _⟩)
     clear HTD3
     go_wp2_with fail
     go_meet
     exact ⟨s, ps, vp, j3, true, hM, HAr.out, HPr.out, HG.out, hj3, hR, HTr.out⟩
   have HI := risk_any wr HPr.out 2 (by decide)
   cases hb : tkB ts j3 2
   · have HG : Hid ((s.size ≠ 0 /\ Got b (fun n => pSig ts n a) false (s, ps, j3)) ∨ (s = ⟨#[]⟩ /\ Got b (fun n => pSig ts n a) true (s, ps, j3))) := LH (by
      rcases HTD3.out with ⟨h1, h2, h3, h4⟩ | ⟨h1, h2, h3⟩
      · refine Or.inr ⟨h1, Got.bad _ ⟨0, fun n _ => ?_⟩⟩
        subst h3
        show pSig ts n j3 = _
        rw [pSig, if_neg (by rw [NB1.out]; decide), if_neg (by rw [NB6.out]; decide), if_neg (by rw [hb]; decide)]
      · exact Or.inl ⟨h2, h3.done (fun n => by rw [pKSig, if_neg (by rw [hb]; decide)])⟩)
     rw [hb] at HI
     have HI2 := LH HI
     clear HTD3 hb HI
     go_wp2_with fail
     refine HI2.out.mono ?_
     rintro e w1 ⟨rfl, hx⟩
     go_wp2_with fail
     go_meet
     exact ⟨s, ps, vp, j3, false, hM.ext hx, AccT.ext HAr.out hx, HPr.out.ext hx, HG.out, hj3, hR.ext hx, HTr.out.trans (Touch.of_ext hx _)⟩
   have hjt := kind_lt (by decide) hb
   have htz := HPr.out.txt j3
   have hnz := hw3 (Or.inr (Or.inl ((kind_eq (by decide)).1 hb)))
   have HTK := LH (fun (W : World) (hp : Prs 38 B tb to_ cap ao ts W (j3) false) => rneedk_yes W hp 2 (by decide) hb)
   have HTD4 : Hid (b = false /\ Todo b (fun n => pSig ts n a) false (fun n => if tkB ts (j3 + 1) 1 = true then pKSig ts n (s ++ tkT ts j3) (ps ++ [tkT ts (j3 + 1)]) (j3 + 2) else none)) := LH (by
    rcases HTD3.out with ⟨h1, h2, h3, h4⟩ | ⟨h1, h2, h3⟩
    · subst h1 h2 h3
      refine ⟨h4.symm, ?_⟩
      rw [<- h4]
      exact ((Todo.refl false (fun n => pSig ts n j3)).eq0 (H := fun n => pKSig ts n ⟨#[]⟩ [] j3) (fun n => by rw [pSig, if_neg (by rw [NB1.out]; decide), if_neg (by rw [NB6.out]; decide), if_pos hb])).step (fun n => by rw [pKSig, if_pos hb])
    · exact ⟨h1, h3.step (fun n => by rw [pKSig, if_pos hb])⟩)
   rw [hb] at HI
   have HI2 := LH HI
   clear HTD3 hb HI
   obtain ⟨tx3, htx3⟩ : ∃ x, tkT ts j3 = x := ⟨_, rfl⟩
   rw [htx3] at HTK HTD4 htz hnz
   clear htx3
   go_wp2_with fail
   refine HI2.out.mono ?_
   rintro e w1 ⟨rfl, hx⟩
   have hM1 := hM.ext hx
   have hR1 := hR.ext hx
   have HA1 := LH (AccT.ext HAr.out hx)
   have HP1 := LH (HPr.out.ext hx)
   have HT1 := LH (HTr.out.trans (Touch.of_ext hx [B]))
   have hs1_ := hx.size
   clear hM hR HAr HPr HTr hx d0 d1 d2 zB HI2
   go_upto_region 3 with fail
   have m0 := hM1.k0
   have mz := hM1.lt
   have hst : s.size <= 80200000 := by omega
   have hnc : ¬ 9223372036854775807 < s.size + tx3.size := by omega
   have HMQ : Hid (∀ W w2, Ext w1 W -> Touch W w2 [B] -> Own w2 (w.heap.size + 1) 26 #[.string s, .bool false, vp, .slice none 0 0, .slice none 0 0]) := LH fun W w2 hW hT => (hM1.ext hW).touch' hT (by simp; omega)
   have HRQ : Hid (∀ W w2, Ext w1 W -> Touch W w2 [B] -> Own w2 w.heap.size 26 #[.string ⟨#[]⟩, .bool false, .slice none 0 0, .slice none 0 0, .slice none 0 0]) := LH fun W w2 hW hT => (hR1.ext hW).touch' hT (by simp; omega)
   have HAQ : Hid (∀ W w2, Ext w1 W -> Touch W w2 [B] -> AccT (w.heap.size + 2) w2 vp ps) := LH fun W w2 hW hT => AccT.low (AccT.ext HA1.out hW) hT (fun k hk => by simp at hk; omega)
   have HTQ : Hid (∀ W w2, Ext w1 W -> Touch W w2 [B] -> Touch w w2 [B] /\ w1.heap.size <= w2.heap.size) := LH fun W w2 hW hT => ⟨(HT1.out.trans (Touch.of_ext hW [B])).trans hT, Nat.le_trans hW.size hT.size⟩
   go_region_law ((go_simp; go_wp2_with ((refine (HTK.out _ (HP1.out.ext (by first | exact Ext.drew (XR _) | exact XR _))).mono ?_; rintro e w2 ⟨rfl, K2, T2⟩; have OM2 := HMQ.out _ _ (by first | exact Ext.drew (XR _) | exact XR _) T2; have OR2 := HRQ.out _ _ (by first | exact Ext.drew (XR _) | exact XR _) T2; have A2 := HAQ.out _ _ (by first | exact Ext.drew (XR _) | exact XR _) T2; have T02 := HTQ.out _ _ (by first | exact Ext.drew (XR _) | exact XR _) T2; have n0 : w2.cell? ⟨w.heap.size + 1, 0, none⟩ = some (.string s) := OM2.cell 0; have nf0 := OM2.f0; have nz := OM2.lt))))
   all_goals
    obtain ⟨T02, hsz2⟩ := T02
    have hcat : (s ++ tx3).size = s.size + tx3.size := ByteArray.size_append
    obtain ⟨s2, hs2⟩ : ∃ x, s ++ tx3 = x := ⟨_, rfl⟩
    rw [hs2] at hcat HTD4 ⊢
    clear hs2
    generalize hS : World.setCell w2 _ _ = w3
    have T3 : Touch w2 w3 [w.heap.size + 1] := by rw [<- hS]; exact (Touch.of_ext (XR _) _).setCell (by simp) _
    have OM3 : Own w3 (w.heap.size + 1) 26 #[.string s2, .bool false, vp, .slice none 0 0, .slice none 0 0] := by rw [<- hS]; exact OM2.set 0 _
    have OR3 := OR2.touch' T3 (by simp)
    have HA3 := LH (AccT.low A2 T3 (fun k hk => by simp at hk; omega))
    have HP3 := LH (HP.out.late K2 T3 (fun k hk => by simp at hk; omega))
    have HT3 := LH (T02.late2 T3 (fun k hk => by simp at hk; omega))
    have hs3 := T3.size
    clear hS T3 OM2 OR2 A2 K2 T2 T02 HMQ HRQ HAQ HTQ m0 n0 nf0 nz mz hM1 hR1 HA1 HP1 HT1 HTK
    obtain ⟨ty3, j4, b4, HC, HTD5, hj4⟩ : ∃ (ty3 : ByteArray) (j4 : Nat) (b4 : Bool), Hid (∀ W, Ext w3 W -> Calls Tryz.prog 12 #[.pointer (some ⟨B, 0, none⟩), .int .i64 1, .string ⟨#[]⟩] W (fun e w' => e = .returned (.string ty3) /\ Prs 38 B tb to_ cap ao ts w' (j4) b4 /\ Touch W w' [B])) /\ Hid (b = false /\ Todo b (fun n => pSig ts n a) b4 (fun n => pKSig ts n s2 (ps ++ [ty3]) j4)) /\ j3 + 1 <= j4 := by
     cases hb : tkB ts (j3 + 1) 1
     · exact ⟨⟨#[]⟩, j3 + 1, true, LH (fun W hW => rneedk_no W (HP3.out.ext hW) 1 (by decide) hb), LH ⟨HTD4.out.1, HTD4.out.2.badly0 (fun n => by rw [if_neg (by rw [hb]; decide)])⟩, Nat.le_refl _⟩
     · exact ⟨tkT ts (j3 + 1), j3 + 2, false, LH (fun W hW => rneedk_yes W (HP3.out.ext hW) 1 (by decide) hb), LH ⟨HTD4.out.1, HTD4.out.2.eq0 (fun n => by rw [if_pos hb])⟩, by omega⟩
    clear HTD4
    go_upto_region 4 with fail
    have b3 := OM3.k2
    have bz := OM3.lt
    have HOX := LH (fun (W : World) (w4 : World) (hW : Ext w3 W) (T : Touch W w4 [B]) => (OM3.ext hW).touch' T (by simp; omega))
    have HAX := LH (fun (W : World) (w4 : World) (hW : Ext w3 W) (T : Touch W w4 [B]) => AccT.low (AccT.ext HA3.out hW) T (fun k hk => by simp at hk; omega))
    have HSZ := LH (fun (W : World) (w4 : World) (hW : Ext w3 W) (T : Touch W w4 [B]) => Nat.le_trans hW.size T.size)
    have HGE : Hid (∀ k, k ∈ vp.ownBlock.toList -> w.heap.size + 2 <= k) := LH (fun k hk => (Acc.ge HA3.out (k := k) (by simpa using hk)).1)
    go_region_law ((first
     | (refine step_append_strs_at rfl _ _ rfl (w.heap.size + 2) vp ps rfl (AccT.ext (HAX.out _ w4 (Ext.drew (XR _)) T4) ((XR _).alloc _)) [ty3] _ _ _ rfl (rep_one _ _) (by simp; omega) (by have := HSZ.out _ w4 (Ext.drew (XR _)) T4; simp; omega) ?_; intro ao2 cap2 w7 ac hg hloc; have TG : Touch _ w7 vp.ownBlock.toList := (Touch.of_ext (XR _) _).grown hg (fun k hk => Or.inl (by simp [hk])); have O7 := ((HOX.out _ w4 (Ext.drew (XR _)) T4).ext ((XR _).alloc _)).touch' TG (fun hm => by have := HGE.out _ hm; omega); have c7 := O7.cell 2; have f7 := O7.f2; have z7 := O7.lt)
     | (go_simp; go_wp2_with ((refine (HC.out _ (by first | exact Ext.drew (XR _) | exact XR _)).mono ?_; rintro e w4 ⟨rfl, K4, T4⟩; have b42 : w4.cell? ⟨w.heap.size + 1, 2, none⟩ = some vp := (HOX.out _ w4 (Ext.drew (XR _)) T4).cell 2; have bz2 := (HOX.out _ w4 (Ext.drew (XR _)) T4).lt)))))
    all_goals
     have hsz4 := HSZ.out _ w4 (Ext.drew (XR _)) T4
     have Ta : Touch w4 w7 vp.ownBlock.toList := (Touch.of_ext ((XR _).alloc _) _).trans TG
     generalize hv1 : Value.slice ao2 (ps.length + [ty3].length) cap2 = v1 at *
     generalize hS : World.setCell w7 _ v1 = w9
     have Tb : Touch w7 w9 [w.heap.size + 1] := by rw [<- hS]; exact (Touch.of_ext (XR _) _).setCell (by simp) _
     have O9 : Own w9 (w.heap.size + 1) 26 #[.string s2, .bool false, v1, .slice none 0 0, .slice none 0 0] := by rw [<- hS]; exact O7.set 2 v1
     have A9 : AccT (w.heap.size + 2) w9 v1 (ps ++ [ty3]) := AccT.low ac Tb (fun k hk => by simp at hk; omega)
     have T7 : Touch w4 w9 ((w.heap.size + 1) :: vp.ownBlock.toList) := (Ta.mono (fun k hk => List.mem_cons_of_mem _ hk)).trans (Tb.mono (fun k hk => by simp at hk; simp [hk]))
     have hF7 : ∀ k, k ∈ (w.heap.size + 1) :: vp.ownBlock.toList -> w.heap.size < k := fun k hk => by
      rcases List.mem_cons.1 hk with rfl | hk
      · omega
      · have := HGE.out k hk; omega
     have P9 := HP.out.late K4 T7 (fun k hk => by have := hF7 k hk; omega)
     have OR9 := ((OR3.ext (Ext.drew (XR _))).touch' T4 (by simp; omega)).touch' T7 (fun hm => by have := hF7 _ hm; omega)
     have T9 : Touch w w9 [B] := ((HT3.out.trans (Touch.of_ext (Ext.drew (XR _)) [B])).trans T4).late2 T7 (fun k hk => by have := hF7 k hk; omega)
     have HP9 := LH P9
     have HOR9 := LH OR9
     have HA9 := LH A9
     have HT9 := LH T9
     have HO9 := LH O9
     have hjl9 := P9.le
     clear hS Ta Tb O9 A9 T7 hF7 P9 OR9 T9 ac hg hloc TG O7 c7 f7 z7 K4 T4 b42 bz2 b3 bz HC HAX HOX HSZ HGE OM3 OR3 HA3 HT3 HP3
     go_wp2_with fail
     refine ⟨⟨s2, ps ++ [ty3], v1, j4, b4, HO9.out, HA9.out, HP9.out, LH (Or.inr ⟨HTD5.out.1, by omega, HTD5.out.2⟩), by omega, ⟨by simp; omega, by omega⟩, HOR9.out, HT9.out⟩, ?_⟩
     rw [placeOf_eq HPM.out, placeOf_eq HP9.out]; omega
 case rest =>
  obtain ⟨s, ps, vp, j2, b2, OM6, A6, hp6, hor, hj2, OR6, hT6⟩ := hcut
  obtain ⟨va, vc, gv, rfl, -, -⟩ := AccT.rep A6
  obtain ⟨wk, hwk⟩ : ∃ W, W = wc := ⟨_, rfl⟩
  subst hwk
  have HA6 := LH A6
  have HP6 := LH hp6
  have HT6 := LH hT6
  have hs6 := hT6.size
  clear A6 hp6 hT6 OM OR HP1 x1
  have m0 := OM6.k0
  have mf0 := OM6.f0
  have m1 := OM6.k1
  have mf1 := OM6.f1
  have m2 := OM6.k2
  have mf2 := OM6.f2
  have m3 := OM6.k3
  have mf3 := OM6.f3
  have m4 := OM6.k4
  have mf4 := OM6.f4
  have mz := OM6.lt
  by_cases hse : s = ⟨#[]⟩
  · have HG : Hid (Got b (fun n => pSig ts n a) true (s, ps, j2)) := LH (by
     rcases hor with ⟨h1, h2⟩ | ⟨h1, h2⟩
     · rw [hse] at h1; exact absurd rfl h1
     · exact h2)
    have hs0 : (s.toList == []) = true := str_eq' (l := []) hse
    clear hse hor
    obtain ⟨d0, d1, d2⟩ := HP6.out.cells
    have f2 := HP6.out.own.f2
    have zB := lt_of_cell d0
    go_upto_region 12 with fail
    obtain ⟨K7, T7⟩ := HP6.out.setBad
    generalize hS2 : World.setCell wk _ _ = w7 at *
    have OM7 := OM6.touch' T7 (by simp; omega)
    have OR7 := OR6.touch' T7 (by simp; omega)
    have HA7 := LH (AccT.low HA6.out T7 (fun k hk => by simp at hk; omega))
    have HP7 := LH K7
    have HT7 := LH (HT6.out.trans T7)
    have hs7 := T7.size
    clear hS2 K7 T7 d0 d1 d2 f2 zB OM6 OR6 HA6 HP6 HT6 m0 mf0 m1 mf1 m2 mf2 m3 mf3 m4 mf4 mz
    have m0 := OM7.k0
    have mf0 := OM7.f0
    have m1 := OM7.k1
    have mf1 := OM7.f1
    have m2 := OM7.k2
    have mf2 := OM7.f2
    have m3 := OM7.k3
    have mf3 := OM7.f3
    have m4 := OM7.k4
    have mf4 := OM7.f4
    have mz := OM7.lt
    have r0 := OR7.k0
    have rf0 := OR7.f0
    have r1 := OR7.k1
    have rf1 := OR7.f1
    have r2 := OR7.k2
    have rf2 := OR7.f2
    have r3 := OR7.k3
    have rf3 := OR7.f3
    have r4 := OR7.k4
    have rf4 := OR7.f4
    have rz := OR7.lt
    go_wp2_with fail
    generalize hS : World.setCell (World.setCell (World.setCell (World.setCell (World.setCell w7 _ _) _ _) _ _) _ _) _ _ = W9
    obtain ⟨O9, T9⟩ := own5m OR7 (.string s) (.bool false) (.slice va ps.length vc) (.slice none 0 0) (.slice none 0 0)
    rw [hS] at O9 T9
    clear hS
    have p0 := O9.k0
    have p1 := O9.k1
    have p2 := O9.k2
    have p3 := O9.k3
    have p4 := O9.k4
    have pz := O9.lt
    have FIN : PGot B tb to_ cap ao ts w a b (.returned (.agg #[.string s, .bool false, .slice va ps.length vc, .slice none 0 0, .slice none 0 0])) W9 := ⟨s, ps, _, j2, true, rfl, AccT.base (AccT.low HA7.out T9 (fun k hk => by simp at hk; omega)) (by omega), HP.out.late HP7.out T9 (fun k hk => by simp at hk; omega), HG.out, hj2, HT7.out.late2 T9 (fun k hk => by simp at hk; omega)⟩
    exact bodyPost_ret (v := .agg #[.string s, .bool false, .slice va ps.length vc, .slice none 0 0, .slice none 0 0]) (by simp [results, Tryz.results70, go_sem, p0, p1, p2, p3, p4, pz]) rfl FIN
  have HG : Hid (Got b (fun n => pSig ts n a) b2 (s, ps, j2)) := LH (by
   rcases hor with ⟨h1, h2⟩ | ⟨h1, h2⟩
   · exact h2
   · exact absurd h1 hse)
  have hs0 : (s.toList == []) = false := str_ne' (l := []) hse
  clear hse hor
  have r0 := OR6.k0
  have rf0 := OR6.f0
  have r1 := OR6.k1
  have rf1 := OR6.f1
  have r2 := OR6.k2
  have rf2 := OR6.f2
  have r3 := OR6.k3
  have rf3 := OR6.f3
  have r4 := OR6.k4
  have rf4 := OR6.f4
  have rz := OR6.lt
  go_wp2_with fail
  generalize hS : World.setCell (World.setCell (World.setCell (World.setCell (World.setCell wk _ _) _ _) _ _) _ _) _ _ = W9
  obtain ⟨O9, T9⟩ := own5m OR6 (.string s) (.bool false) (.slice va ps.length vc) (.slice none 0 0) (.slice none 0 0)
  rw [hS] at O9 T9
  clear hS
  have p0 := O9.k0
  have p1 := O9.k1
  have p2 := O9.k2
  have p3 := O9.k3
  have p4 := O9.k4
  have pz := O9.lt
  have FIN : PGot B tb to_ cap ao ts w a b (.returned (.agg #[.string s, .bool false, .slice va ps.length vc, .slice none 0 0, .slice none 0 0])) W9 := ⟨s, ps, _, j2, b2, rfl, AccT.base (AccT.low HA6.out T9 (fun k hk => by simp at hk; omega)) (by omega), HP.out.late HP6.out T9 (fun k hk => by simp at hk; omega), HG.out, hj2, HT6.out.late2 T9 (fun k hk => by simp at hk; omega)⟩
  exact bodyPost_ret (v := .agg #[.string s, .bool false, .slice va ps.length vc, .slice none 0 0, .slice none 0 0]) (by simp [results, Tryz.results70, go_sem, p0, p1, p2, p3, p4, pz]) rfl FIN
theorem l5Method_any {B tb to_ cap : Nat} {ao : Option Addr} {ts : List MToken} {a : Nat} {b : Bool} (w : World) (c : Bool) (h : Prs 38 B tb to_ cap ao ts w (a) b) : Calls Tryz.prog 32 #[.pointer (some ⟨B, 0, none⟩), .bool c] w (RMGot B tb to_ cap ao ts c w a b) := by
 have HP := LH h
 have hrb := h.own.lt
 clear h
 go_enter Tryz.func32, Tryz.ntmps32
 go_upto_region 1 with fail
 generalize hS : World.alloc w _ = W1
 have x1 : Ext w W1 := by rw [<- hS]; exact (XR _).alloc _
 have OR : Own W1 w.heap.size 26 #[.string ⟨#[]⟩, .bool false, .slice none 0 0, .slice none 0 0, .slice none 0 0] := by rw [<- hS]; exact own_new w _ _
 have hro := OR.lt
 have HPT := LH (l5Pattern_any W1 (HP.out.ext x1))
 clear hS
 go_wp2_with fail
 refine HPT.out.mono ?_
 rintro e w2 ⟨s, ps, vp, j, bj, rfl, A2, K2, g2, hj, T2⟩
 obtain ⟨va, vc, gv, rfl, rp, fp_⟩ := AccT.rep A2
 have OR2 := OR.touch' T2 (by simp; omega)
 have HRP := LH rp
 have HFP := LH fp_
 have hgl := fun k (hk : k ∈ gv) => fp_.lt hk
 have HGL := LH hgl
 have HP2 := LH K2
 have HG2 := LH g2
 have HT2 := LH ((Touch.of_ext x1 [B]).trans T2)
 have hs2 := T2.size
 clear A2 K2 g2 T2 rp fp_ hgl OR HPT x1
 go_upto_region 2 with fail
 generalize hS : World.alloc w2 _ = w3
 have x3 : Ext w2 w3 := by rw [<- hS]; exact (XR _).alloc _
 have OM3 : Own w3 w2.heap.size 26 #[.string s, .bool false, .slice va ps.length vc, .slice none 0 0, .slice none 0 0] := by rw [<- hS]; exact own_new w2 _ _
 have OR3 := OR2.ext x3
 have HRP3 := LH (HRP.out.ext x3)
 have HP3 := LH (HP2.out.ext x3)
 have HT3 := LH (HT2.out.trans (Touch.of_ext x3 [B]))
 have hs3 := x3.size
 have hmbr : w.heap.size < w2.heap.size := OR2.lt
 clear hS x3 OR2 HRP HP2 HT2
 generalize hmb : w2.heap.size = mb at *
 clear hmb
 have hmz3 := OM3.lt
 have m0 := OM3.k0
 have mf0 := OM3.f0
 have m1 := OM3.k1
 have mf1 := OM3.f1
 have m2 := OM3.k2
 have mf2 := OM3.f2
 have m3 := OM3.k3
 have mf3 := OM3.f3
 have m4 := OM3.k4
 have mf4 := OM3.f4
 have mz := OM3.lt
 go_upto_region 3 with fail
 generalize hS : World.setCell w3 _ _ = w4
 have T4 : Touch w3 w4 [mb] := by rw [<- hS]; exact (Touch.of_ext (XR _) _).setCell (by simp) _
 have OM4 : Own w4 mb 26 #[.string s, .bool c, .slice va ps.length vc, .slice none 0 0, .slice none 0 0] := by rw [<- hS]; exact OM3.set 1 _
 have OR4 := OR3.touch' T4 (by simp; omega)
 have HRP4 := LH (HRP3.out.touch T4 (fun k hk hm => by have := HGL.out k hk; simp at hm; omega))
 have HP4 := LH (HP.out.late HP3.out T4 (fun k hk => by simp at hk; omega))
 have HT4 := LH (HT3.out.late2 T4 (fun k hk => by simp at hk; omega))
 have hs4 := T4.size
 clear hS T4 OM3 OR3 HRP3 HP3 HT3 m0 mf0 m1 mf1 m2 mf2 m3 mf3 m4 mf4 mz
 go_wp2_with fail
 refine (rnames_any w4 HP4.out).mono ?_
 rintro e w5 ⟨vt, lt, j5, b5, rfl, A5_, K5, g5, hj5, hl5, T5⟩
 obtain ⟨vt1, vt2, gt, rfl, rt, ft⟩ := AccT.rep A5_
 have OM5 := OM4.touch' T5 (by simp; omega)
 have OR5 := OR4.touch' T5 (by simp; omega)
 have HRP5 := LH (HRP4.out.touch T5 (fun k hk hm => by have := HFP.out.ge k hk; simp at hm; omega))
 have HRT5 := LH rt
 have HFT := LH ft
 have HP5 := LH K5
 have HT5 := LH (HT4.out.trans T5)
 have hs5 := T5.size
 have HG5 := LH g5
 clear A5_ K5 g5 T5 rt ft OM4 OR4 HRP4 HP4 HT4
 have m0 := OM5.k0
 have mf0 := OM5.f0
 have m1 := OM5.k1
 have mf1 := OM5.f1
 have m2 := OM5.k2
 have mf2 := OM5.f2
 have m3 := OM5.k3
 have mf3 := OM5.f3
 have m4 := OM5.k4
 have mf4 := OM5.f4
 have mz := OM5.lt
 go_upto_region 4 with fail
 generalize hS : World.setCell w5 _ _ = w6
 have T6 : Touch w5 w6 [mb] := by rw [<- hS]; exact (Touch.of_ext (XR _) _).setCell (by simp) _
 have OM6 : Own w6 mb 26 #[.string s, .bool c, .slice va ps.length vc, .slice vt1 lt.length vt2, .slice none 0 0] := by rw [<- hS]; exact OM5.set 3 _
 have OR6 := OR5.touch' T6 (by simp; omega)
 have HRP6 := LH (HRP5.out.touch T6 (fun k hk hm => by have := HGL.out k hk; simp at hm; omega))
 have HRT6 := LH (HRT5.out.touch T6 (fun k hk hm => by have := HFT.out.ge k hk; simp at hm; omega))
 have HP6 := LH (HP.out.late HP5.out T6 (fun k hk => by simp at hk; omega))
 have HT6 := LH (HT5.out.late2 T6 (fun k hk => by simp at hk; omega))
 have hs6 := T6.size
 clear hS T6 OM5 OR5 HRP5 HRT5 HP5 HT5 m0 mf0 m1 mf1 m2 mf2 m3 mf3 m4 mf4 mz
 go_wp2_with fail
 refine (rstms_all j5 w6 b5 HP6.out).mono ?_
 rintro e w7 ⟨lb, vb, j7, b7, rfl, A7, K7, g7, hl7, hj7, T7⟩
 obtain ⟨vb1, vb2, gb, rfl, rb, fb⟩ := AccX.rep A7
 have OM7 := OM6.touch' T7 (by simp; omega)
 have OR7 := OR6.touch' T7 (by simp; omega)
 have HRP7 := LH (HRP6.out.touch T7 (fun k hk hm => by have := HFP.out.ge k hk; simp at hm; omega))
 have HRT7 := LH (HRT6.out.touch T7 (fun k hk hm => by have := HFT.out.ge k hk; simp at hm; omega))
 have HRB7 := LH rb
 have HFB := LH fb
 have HP7 := LH K7
 have HT7 := LH (HT6.out.trans T7)
 have hs7 := T7.size
 have HGG := LH (((((Todo.refl b (fun n => pMRest ts n c a)).eq0 (H := fun n => (pSig ts n a).bind fun g => (pVS ts n g.2.2).bind fun v => some (⟨g.1, c, g.2.1, v.1, v.2.1⟩, v.2.2)) (fun n => by rw [pMRest])).call0 HG2.out (g := fun n g => (pVS ts n g.2.2).bind fun v => some (⟨g.1, c, g.2.1, v.1, v.2.1⟩, v.2.2)) (fun n => rfl)).call0 (((Todo.refl bj (fun n => pVS ts n j)).call0 HG5.out (g := fun n v => (pStmts ts n [] v.2).bind fun b => some (v.1, b.1, b.2)) (fun n => rfl)).call0 g7 (g := fun n b => some (lt, b.1, b.2)) (fun n => rfl) |>.done0 (y := (lt, lb, j7)) (fun n => rfl)) (g := fun n v => some ((⟨s, c, ps, v.1, v.2.1⟩ : MMethod), v.2.2)) (fun n => rfl)).done0 (y := ((⟨s, c, ps, lt, lb⟩ : MMethod), j7)) (fun n => rfl))
 clear A7 K7 g7 T7 rb fb OM6 OR6 HRP6 HRT6 HP6 HT6 HG2 HG5
 have m0 := OM7.k0
 have mf0 := OM7.f0
 have m1 := OM7.k1
 have mf1 := OM7.f1
 have m2 := OM7.k2
 have mf2 := OM7.f2
 have m3 := OM7.k3
 have mf3 := OM7.f3
 have m4 := OM7.k4
 have mf4 := OM7.f4
 have mz := OM7.lt
 go_upto_region 5 with fail
 generalize hS : World.setCell w7 _ _ = w8
 have T8 : Touch w7 w8 [mb] := by rw [<- hS]; exact (Touch.of_ext (XR _) _).setCell (by simp) _
 have OM8 : Own w8 mb 26 #[.string s, .bool c, .slice va ps.length vc, .slice vt1 lt.length vt2, .slice vb1 lb.length vb2] := by rw [<- hS]; exact OM7.set 4 _
 have OR8 := OR7.touch' T8 (by simp; omega)
 clear hS OM7 OR7 m0 mf0 m1 mf1 m2 mf2 m3 mf3 m4 mf4 mz
 have m0 := OM8.k0
 have mf0 := OM8.f0
 have m1 := OM8.k1
 have mf1 := OM8.f1
 have m2 := OM8.k2
 have mf2 := OM8.f2
 have m3 := OM8.k3
 have mf3 := OM8.f3
 have m4 := OM8.k4
 have mf4 := OM8.f4
 have mz := OM8.lt
 have r0 := OR8.k0
 have rf0 := OR8.f0
 have r1 := OR8.k1
 have rf1 := OR8.f1
 have r2 := OR8.k2
 have rf2 := OR8.f2
 have r3 := OR8.k3
 have rf3 := OR8.f3
 have r4 := OR8.k4
 have rf4 := OR8.f4
 have rz := OR8.lt
 go_wp2_with fail
 generalize hS : World.setCell (World.setCell (World.setCell (World.setCell (World.setCell w8 _ _) _ _) _ _) _ _) _ _ = W9
 obtain ⟨O9, T9⟩ := own5m OR8 (.string s) (.bool c) (.slice va ps.length vc) (.slice vt1 lt.length vt2) (.slice vb1 lb.length vb2)
 rw [hS] at O9 T9
 clear hS
 have p0 := O9.k0
 have p1 := O9.k1
 have p2 := O9.k2
 have p3 := O9.k3
 have p4 := O9.k4
 have pz := O9.lt
 have T89 : Touch w7 W9 [mb, w.heap.size] := (T8.mono (by simp)).trans (T9.mono (by simp))
 have RN := HRP7.out.touch T89 (fun k hk hm => by have h1 := HGL.out k hk; have h2 := HFP.out.ge k hk; simp at hm; omega)
 have RT := HRT7.out.touch T89 (fun k hk hm => by have := HFT.out.ge k hk; simp at hm; omega)
 have RB := HRB7.out.touch T89 (fun k hk hm => by have := HFB.out k hk; simp at hm; omega)
 have R9 := MMethod.shut (x := ⟨s, c, ps, lt, lb⟩) RN RT RB
 rw [List.append_nil] at R9
 have FIN : RMGot B tb to_ cap ao ts c w a b (.returned (.agg #[.string s, .bool c, .slice va ps.length vc, .slice vt1 lt.length vt2, .slice vb1 lb.length vb2])) W9 := ⟨⟨s, c, ps, lt, lb⟩, _, gv ++ (gt ++ gb), j7, b7, rfl, R9, fun k hk => by
  rcases List.mem_append.1 hk with hk | hk
  · have := HFP.out.ge k hk; omega
  · rcases List.mem_append.1 hk with hk | hk
    · have := HFT.out.ge k hk; omega
    · have := HFB.out k hk; omega, HP.out.late HP7.out T89 (fun k hk => by simp at hk; omega), HGG.out, by omega, HT7.out.late2 T89 (fun k hk => by simp at hk; omega)⟩
 exact bodyPost_ret (v := .agg #[.string s, .bool c, .slice va ps.length vc, .slice vt1 lt.length vt2, .slice vb1 lb.length vb2]) (by simp [results, Tryz.results32, go_sem, p0, p1, p2, p3, p4, pz]) rfl FIN
theorem ex_ne : (exW.toList == []) = false := str_ne' (l := []) (fun h => by injection h with h; cases h)
theorem fi_ne : (fiW.toList == []) = false := str_ne' (l := []) (fun h => by injection h with h; cases h)
theorem en_ne : (enW.toList == []) = false := str_ne' (l := []) (fun h => by injection h with h; cases h)
theorem cl_ne : (clW.toList == []) = false := str_ne' (l := []) (fun h => by injection h with h; cases h)
theorem ma_ne : (maW.toList == []) = false := str_ne' (l := []) (fun h => by injection h with h; cases h)
theorem cm_ne : (cmW.toList == []) = false := str_ne' (l := []) (fun h => by injection h with h; cases h)
theorem me_ne : (meW.toList == []) = false := str_ne' (l := []) (fun h => by injection h with h; cases h)
def RCGot (B tb to_ cap : Nat) (ao : Option Addr) (ts : List MToken) (w : World) (a : Nat) (b : Bool) (e : Ending) (w' : World) : Prop :=
 ∃ (c : MClassDef) (cs : List Value) (fp : List Nat) (a' : Nat) (b' : Bool), e = .returned (.agg (List.toArray cs)) /\ RepF w' c.d cs fp /\ (∀ k, k ∈ fp -> w.heap.size <= k) /\ Prs 38 B tb to_ cap ao ts w' (a') b' /\ Got b (fun n => pClass ts n a) b' (c, a') /\ a <= a' /\ Touch w w' [B]
theorem l5Class_any {B tb to_ cap : Nat} {ao : Option Addr} {ts : List MToken} {a : Nat} {b : Bool} (w : World) (h : Prs 38 B tb to_ cap ao ts w (a) b) : Calls Tryz.prog 11 #[.pointer (some ⟨B, 0, none⟩)] w (RCGot B tb to_ cap ao ts w a b) := by
 have HP := LH h
 have hln := h.len
 have hrb := h.own.lt
 obtain ⟨t1, j1, b1, HC1, HTD1, hj1⟩ : ∃ (t1 : ByteArray) (j1 : Nat) (b1 : Bool), Hid (∀ W, Prs 38 B tb to_ cap ao ts W (a) b -> Calls Tryz.prog 12 #[.pointer (some ⟨B, 0, none⟩), .int .i64 1, .string ⟨#[]⟩] W (fun e w' => e = .returned (.string t1) /\ Prs 38 B tb to_ cap ao ts w' (j1) b1 /\ Touch W w' [B])) /\ Hid (Todo b (fun n => pClass ts n a) b1 (fun n => if tkxB ts j1 8 exW = true then (if tkB ts (j1 + 1) 1 = true then (pFM ts n (j1 + 2)).bind fun f => some (⟨t1, tkT ts (j1 + 1), f.1.1, f.1.2⟩, f.2) else none) else none)) /\ a <= j1 := by
  cases hb : tkB ts a 1
  · exact ⟨⟨#[]⟩, a, true, LH (fun W hW => rneedk_no W hW 1 (by decide) hb), LH ((Todo.refl b _).badly0 (fun n => by unfold pClass; rw [if_neg (by rw [hb]; decide)])), Nat.le_refl _⟩
  · exact ⟨tkT ts a, a + 1, b, LH (fun W hW => rneedk_yes W hW 1 (by decide) hb), LH ((Todo.refl b _).eq0 (fun n => by unfold pClass; exact if_pos hb)), by omega⟩
 obtain ⟨t0, j2, b2, HC2, HTD2, hj2⟩ : ∃ (t0 : Value) (j2 : Nat) (b2 : Bool), Hid (∀ W, Prs 38 B tb to_ cap ao ts W (j1) b1 -> Calls Tryz.prog 12 #[.pointer (some ⟨B, 0, none⟩), .int .i64 8, .string exW] W (fun e w' => e = .returned t0 /\ Prs 38 B tb to_ cap ao ts w' (j2) b2 /\ Touch W w' [B])) /\ Hid (Todo b (fun n => pClass ts n a) b2 (fun n => if tkB ts j2 1 = true then (pFM ts n (j2 + 1)).bind fun f => some (⟨t1, tkT ts j2, f.1.1, f.1.2⟩, f.2) else none)) /\ j1 <= j2 := by
  cases hb : tkxB ts j1 8 exW
  · exact ⟨_, j1, true, LH (fun W hW => rneedx_no W hW 8 exW (by decide) ex_ne hb), LH (HTD1.out.badly0 (fun n => by rw [if_neg (by rw [hb]; decide)])), Nat.le_refl _⟩
  · exact ⟨_, j1 + 1, b1, LH (fun W hW => rneedx_yes W hW 8 exW (by decide) ex_ne hb), LH (HTD1.out.eq0 (fun n => if_pos hb)), by omega⟩
 obtain ⟨t2, j3, b3, HC3, HTD3, hj3⟩ : ∃ (t2 : ByteArray) (j3 : Nat) (b3 : Bool), Hid (∀ W, Prs 38 B tb to_ cap ao ts W (j2) b2 -> Calls Tryz.prog 12 #[.pointer (some ⟨B, 0, none⟩), .int .i64 1, .string ⟨#[]⟩] W (fun e w' => e = .returned (.string t2) /\ Prs 38 B tb to_ cap ao ts w' (j3) b3 /\ Touch W w' [B])) /\ Hid (Todo b (fun n => pClass ts n a) b3 (fun n => (pFields ts n j3).bind fun f => kC ts t1 t2 f.1 n [] f.2)) /\ j2 <= j3 := by
  cases hb : tkB ts j2 1
  · exact ⟨⟨#[]⟩, j2, true, LH (fun W hW => rneedk_no W hW 1 (by decide) hb), LH (HTD2.out.badly0 (fun n => by rw [if_neg (by rw [hb]; decide)])), Nat.le_refl _⟩
  · exact ⟨tkT ts j2, j2 + 1, b2, LH (fun W hW => rneedk_yes W hW 1 (by decide) hb), LH (HTD2.out.eq0 (fun n => by
     refine (if_pos hb).trans ?_
     unfold pFM kC
     cases pFields ts n (j2 + 1) with
     | none => rfl
     | some f =>
      show ((pMs ts n [] f.2).bind _).bind _ = (pMs ts n [] f.2).bind _
      cases pMs ts n [] f.2 <;> rfl)), by omega⟩
 clear HTD1 HTD2
 clear h
 go_enter Tryz.func11, Tryz.ntmps11
 go_upto_region 1 with fail
 generalize hS : World.alloc w _ = W1
 have x1 : Ext w W1 := by rw [<- hS]; exact (XR _).alloc _
 have OR : Own W1 w.heap.size 43 #[.string ⟨#[]⟩, .string ⟨#[]⟩, .slice none 0 0, .slice none 0 0] := by rw [<- hS]; exact own_new w _ _
 have hro := OR.lt
 have hs1 := x1.size
 clear hS
 go_wp2_with fail
 refine (HC1.out _ (HP.out.ext x1)).mono ?_
 rintro e w2 ⟨rfl, K2, T2⟩
 have OR2 := OR.touch' T2 (by simp; omega)
 have HP2 := LH K2
 have HT2 := LH ((Touch.of_ext x1 [B]).trans T2)
 have hs2 := T2.size
 clear K2 T2 OR x1
 go_upto_region 2 with fail
 generalize hS : World.alloc w2 _ = w3
 have x3 : Ext w2 w3 := by rw [<- hS]; exact (XR _).alloc _
 have OC3 : Own w3 w2.heap.size 43 #[.string t1, .string ⟨#[]⟩, .slice none 0 0, .slice none 0 0] := by rw [<- hS]; exact own_new w2 _ _
 have OR3 := OR2.ext x3
 have HP3 := LH (HP2.out.ext x3)
 have HT3 := LH (HT2.out.trans (Touch.of_ext x3 [B]))
 have hs3 := x3.size
 clear hS x3 OR2 HP2 HT2
 generalize hcb : w2.heap.size = cb at *
 clear hcb
 have hcz := OC3.lt
 go_wp2_with fail
 refine (HC2.out _ HP3.out).mono ?_
 rintro e w4 ⟨rfl, K4, T4⟩
 have OC4 := OC3.touch' T4 (by simp; omega)
 have OR4 := OR3.touch' T4 (by simp; omega)
 have HP4 := LH K4
 have HT4 := LH (HT3.out.trans T4)
 have hs4 := T4.size
 clear K4 T4 OC3 OR3 HP3 HT3
 go_wp2_with fail
 refine (HC3.out _ HP4.out).mono ?_
 rintro e w5 ⟨rfl, K5, T5⟩
 have OC5 := OC4.touch' T5 (by simp; omega)
 have OR5 := OR4.touch' T5 (by simp; omega)
 have HP5 := LH K5
 have HT5 := LH (HT4.out.trans T5)
 have hs5 := T5.size
 clear K5 T5 OC4 OR4 HP4 HT4
 have m0 := OC5.k0
 have mf0 := OC5.f0
 have m1 := OC5.k1
 have mf1 := OC5.f1
 have m2 := OC5.k2
 have mf2 := OC5.f2
 have m3 := OC5.k3
 have mf3 := OC5.f3
 have mz := OC5.lt
 go_upto_region 4 with fail
 generalize hS : World.setCell w5 _ _ = w6
 have T6 : Touch w5 w6 [cb] := by rw [<- hS]; exact (Touch.of_ext (XR _) _).setCell (by simp) _
 have OC6 : Own w6 cb 43 #[.string t1, .string t2, .slice none 0 0, .slice none 0 0] := by rw [<- hS]; exact OC5.set 1 _
 have OR6 := OR5.touch' T6 (by simp; omega)
 have HP6 := LH (HP.out.late HP5.out T6 (fun k hk => by simp at hk; omega))
 have HT6 := LH (HT5.out.late2 T6 (fun k hk => by simp at hk; omega))
 have hs6 := T6.size
 clear hS T6 OC5 OR5 HP5 HT5 m0 mf0 m1 mf1 m2 mf2 m3 mf3 mz HC1 HC2 HC3
 obtain ⟨c4, hc4⟩ : ∃ c, tkxB ts j3 8 fiW = c := ⟨_, rfl⟩
 have HC4 := LH hc4
 clear hc4
 go_cut [14] (fun v wx => v = .bool c4 /\ Prs 38 B tb to_ cap ao ts wx (bif c4 then j3 + 1 else j3) b3 /\ Own wx w.heap.size 43 #[.string ⟨#[]⟩, .string ⟨#[]⟩, .slice none 0 0, .slice none 0 0] /\ Own wx cb 43 #[.string t1, .string t2, .slice none 0 0, .slice none 0 0] /\ cb < wx.heap.size /\ Touch w wx [B])
 case first =>
  cases c4
  · have HE := LH (rtake_no w6 HP6.out 8 fiW (by decide) fi_ne HC4.out)
    go_wp2_with fail
    refine HE.out.mono ?_
    rintro e w7 ⟨rfl, x7⟩
    have O7 := OR6.ext x7
    have O7c := OC6.ext x7
    have hs7 := x7.size
    have K7 := HP6.out.ext x7
    go_wp2_with fail
    go_meet
    exact ⟨rfl, K7, O7, O7c, by omega, HT6.out.trans (Touch.of_ext x7 _)⟩
  · have HE := LH (rtake_yes w6 HP6.out 8 fiW (by decide) fi_ne HC4.out)
    go_wp2_with fail
    refine HE.out.mono ?_
    rintro e w7 ⟨rfl, K7, T7⟩
    have O7 := OR6.touch' T7 (by simp; omega)
    have O7c := OC6.touch' T7 (by simp; omega)
    have hs7 := T7.size
    go_wp2_with fail
    go_meet
    exact ⟨rfl, K7, O7, O7c, by omega, HT6.out.trans T7⟩
 case rest =>
  obtain ⟨rfl, K7, O7, O7c, hcw, T7⟩ := hcut
  have HK7 := LH K7
  have HT7 := LH T7
  clear K7 T7 OR6 OC6 HP6 HT6
  go_upto_if 14 with fail
  go_cut [] (fun wx => ∃ (lf : List ByteArray) (vf : Value) (jf : Nat), Own wx cb 43 #[.string t1, .string t2, vf, .slice none 0 0] /\ AccT (cb + 1) wx vf lf /\ Prs 38 B tb to_ cap ao ts wx (jf) b3 /\ Todo b (fun n => pClass ts n a) b3 (fun n => kC ts t1 t2 lf n [] jf) /\ a <= jf /\ Own wx w.heap.size 43 #[.string ⟨#[]⟩, .string ⟨#[]⟩, .slice none 0 0, .slice none 0 0] /\ Touch w wx [B])
  case first =>
   cases c4
   · have HK7 : Hid (Prs 38 B tb to_ cap ao ts wc (j3) b3) := HK7
     go_wp2_with fail
     go_meet
     exact ⟨[], .slice none 0 0, j3, O7c, Acc.nil _ _ _ _, HK7.out, HTD3.out.call0 (Got.ok ⟨0, fun n _ => by show pFields ts n j3 = _; unfold pFields; rw [if_neg (by rw [HC4.out]; decide)]⟩) (g := fun n (f : List ByteArray × Nat) => kC ts t1 t2 f.1 n [] f.2) (fun n => rfl), by omega, O7, HT7.out⟩
   · have HK7 : Hid (Prs 38 B tb to_ cap ao ts wc (j3 + 1) b3) := HK7
     go_wp2_with fail
     go_loopw [] (fun wr => ∃ (lf : List ByteArray) (vp : Value) (j : Nat), Own wr cb 43 #[.string t1, .string t2, vp, .slice none 0 0] /\ AccT (cb + 1) wr vp lf /\ Prs 38 B tb to_ cap ao ts wr (j) b3 /\ Hid (Todo b3 (fun n => pFields ts n j3) b3 (fun n => pNames ts n lf j)) /\ (j3 <= j /\ lf.length <= j) /\ Own wr w.heap.size 43 #[.string ⟨#[]⟩, .string ⟨#[]⟩, .slice none 0 0, .slice none 0 0] /\ Touch w wr [B]) (fun wr => ts.length + 1 - placeOf B wr)
     case atStart => exact ⟨[], .slice none 0 0, j3 + 1, O7c, Acc.nil _ _ _ _, HK7.out, LH ((Todo.refl b3 (fun n => pFields ts n j3)).eq0 (fun n => by unfold pFields; rw [if_pos HC4.out])), ⟨by omega, by simp⟩, O7, HT7.out⟩
     case round =>
      clear O7c HK7 O7 HT7
      obtain ⟨lf, vp, j, hC, hA, hp, HTDj, ⟨hj3j, hlf⟩, hR, hT⟩ := hrel
      have HAr := LH hA
      have HPr := LH hp
      have HPM := LH hp
      have HTr := LH hT
      have hjl3 := hp.le
      have hws := hT.size
      have hcbr := hC.lt
      obtain ⟨d0, d1, d2⟩ := hp.cells
      have zB := lt_of_cell d0
      have HI := risk_any wr HPr.out 1 (by decide)
      clear hA hp hT
      cases hb : tkB ts j 1
      · have HTD4 : Hid (Todo b (fun n => pClass ts n a) b3 (fun n => kC ts t1 t2 lf n [] j)) := LH (HTD3.out.call0 (HTDj.out.done (fun n => by rw [pNames, if_neg (by rw [hb]; decide)])) (g := fun n (f : List ByteArray × Nat) => kC ts t1 t2 f.1 n [] f.2) (fun n => rfl))
        rw [hb] at HI
        have HI2 := LH HI
        clear hb HI HTDj
        go_wp2_with fail
        refine HI2.out.mono ?_
        rintro e w1 ⟨rfl, hx⟩
        go_wp2_with fail
        go_meet
        exact ⟨lf, vp, j, hC.ext hx, AccT.ext HAr.out hx, HPr.out.ext hx, HTD4.out, by omega, hR.ext hx, HTr.out.trans (Touch.of_ext hx _)⟩
      · have hjt := kind_lt (by decide) hb
        have HTD5 : Hid (Todo b3 (fun n => pFields ts n j3) b3 (fun n => pNames ts n (lf ++ [tkT ts j]) (j + 1))) := LH (HTDj.out.step (fun n => by rw [pNames, if_pos hb]))
        have HC := LH (fun (W : World) (hW : Ext wr W) => rneedk_yes W (HPr.out.ext hW) 1 (by decide) hb)
        rw [hb] at HI
        have HI2 := LH HI
        obtain ⟨ty3, hty⟩ : ∃ t, tkT ts j = t := ⟨_, rfl⟩
        rw [hty] at HTD5 HC
        clear hb HI HTDj hty
        go_wp2_with fail
        refine HI2.out.mono ?_
        rintro e w3 ⟨rfl, hx⟩
        have OM3 := hC.ext hx
        have OR3 := hR.ext hx
        have HA3 := LH (AccT.ext HAr.out hx)
        have HT3 := LH (HTr.out.trans (Touch.of_ext hx [B]))
        have HC := LH (fun (W : World) (hW : Ext w3 W) => HC.out W (hx.trans hW))
        have hs3 := hx.size
        clear hC hR HAr HTr hx HI2 d0 d1 d2 zB
        go_upto_region 6 with fail
        have b3_ := OM3.k2
        have bz := OM3.lt
        have HOX := LH (fun (W : World) (w4 : World) (hW : Ext w3 W) (T : Touch W w4 [B]) => (OM3.ext hW).touch' T (by simp; omega))
        have HAX := LH (fun (W : World) (w4 : World) (hW : Ext w3 W) (T : Touch W w4 [B]) => AccT.low (AccT.ext HA3.out hW) T (fun k hk => by simp at hk; omega))
        have HSZ := LH (fun (W : World) (w4 : World) (hW : Ext w3 W) (T : Touch W w4 [B]) => Nat.le_trans hW.size T.size)
        have HGE : Hid (∀ k, k ∈ vp.ownBlock.toList -> cb + 1 <= k) := LH (fun k hk => (Acc.ge HA3.out (k := k) (by simpa using hk)).1)
        go_region_law ((first
         | (refine step_append_strs_at rfl _ _ rfl (cb + 1) vp lf rfl (AccT.ext (HAX.out _ w4 (Ext.drew (XR _)) T4) ((XR _).alloc _)) [ty3] _ _ _ rfl (rep_one _ _) (by simp; omega) (by have := HSZ.out _ w4 (Ext.drew (XR _)) T4; simp; omega) ?_; intro ao2 cap2 w7 ac hg hloc; have TG : Touch _ w7 vp.ownBlock.toList := (Touch.of_ext (XR _) _).grown hg (fun k hk => Or.inl (by simp [hk])); have O7 := ((HOX.out _ w4 (Ext.drew (XR _)) T4).ext ((XR _).alloc _)).touch' TG (fun hm => by have := HGE.out _ hm; omega); have c7 := O7.cell 2; have f7 := O7.f2; have z7 := O7.lt)
         | (go_simp; go_wp2_with ((refine (HC.out _ (by first | exact Ext.drew (XR _) | exact XR _)).mono ?_; rintro e w4 ⟨rfl, K4, T4⟩; have b42 : w4.cell? ⟨cb, 2, none⟩ = some vp := (HOX.out _ w4 (Ext.drew (XR _)) T4).cell 2; have bz2 := (HOX.out _ w4 (Ext.drew (XR _)) T4).lt)))))
        all_goals
         have hsz4 := HSZ.out _ w4 (Ext.drew (XR _)) T4
         have Ta : Touch w4 w7 vp.ownBlock.toList := (Touch.of_ext ((XR _).alloc _) _).trans TG
         generalize hv1 : Value.slice ao2 (lf.length + [ty3].length) cap2 = v1 at *
         generalize hS : World.setCell w7 _ v1 = w9
         have Tb : Touch w7 w9 [cb] := by rw [<- hS]; exact (Touch.of_ext (XR _) _).setCell (by simp) _
         have O9 : Own w9 cb 43 #[.string t1, .string t2, v1, .slice none 0 0] := by rw [<- hS]; exact O7.set 2 v1
         have A9 : AccT (cb + 1) w9 v1 (lf ++ [ty3]) := AccT.low ac Tb (fun k hk => by simp at hk; omega)
         have T7 : Touch w4 w9 (cb :: vp.ownBlock.toList) := (Ta.mono (fun k hk => List.mem_cons_of_mem _ hk)).trans (Tb.mono (fun k hk => by simp at hk; simp [hk]))
         have hF7 : ∀ k, k ∈ cb :: vp.ownBlock.toList -> w.heap.size < k := fun k hk => by
          rcases List.mem_cons.1 hk with rfl | hk
          · omega
          · have := HGE.out k hk; omega
         have P9 := HP.out.late K4 T7 (fun k hk => by have := hF7 k hk; omega)
         have OR9 := ((OR3.ext (Ext.drew (XR _))).touch' T4 (by simp; omega)).touch' T7 (fun hm => by have := hF7 _ hm; omega)
         have T9 : Touch w w9 [B] := ((HT3.out.trans (Touch.of_ext (Ext.drew (XR _)) [B])).trans T4).late2 T7 (fun k hk => by have := hF7 k hk; omega)
         have HP9 := LH P9
         have HOR9 := LH OR9
         have HA9 := LH A9
         have HT9 := LH T9
         have HO9 := LH O9
         have hjl9 := P9.le
         clear hS Ta Tb O9 A9 T7 hF7 P9 OR9 T9 ac hg hloc TG O7 c7 f7 z7 K4 T4 b42 bz2 b3_ bz HC HAX HOX HSZ HGE OM3 OR3 HA3 HT3
         go_wp2_with fail
         refine ⟨⟨lf ++ [ty3], v1, j + 1, HO9.out, HA9.out, HP9.out, HTD5, ⟨by omega, by simp; omega⟩, HOR9.out, HT9.out⟩, ?_⟩
         rw [placeOf_eq HPM.out, placeOf_eq HP9.out]; omega
  case rest =>
   obtain ⟨lf, vf, jf, OC10, A10, K10, HTD4, hjf, OR10, T10⟩ := hcut
   obtain ⟨va, vc, gf, rfl, rf, ff⟩ := AccT.rep A10
   have HA10 := LH rf
   have HFF : Hid (∀ k, k ∈ gf -> cb < k /\ k < wc.heap.size) := LH (fun k hk => ⟨ff.ge k hk, ff.lt hk⟩)
   have hcm := OC10.lt
   have hmw := Nat.le_refl wc.heap.size
   clear rf ff
   generalize hmb : wc.heap.size = mb at HFF hcm
   rw [hmb] at hmw
   have HK10 := LH K10
   have HTD := LH HTD4
   have HT10 := LH T10
   clear A10 K10 HTD4 T10 O7 O7c HK7 HT7 HTD3
   go_upto_block 2 with fail
   go_cut [] (fun wx => ∃ (l : List MMethod) (vm : Value) (j : Nat) (bj : Bool), Own wx cb 43 #[.string t1, .string t2, .slice va lf.length vc, vm] /\ RepF wx (strs lf) [.slice va lf.length vc] gf /\ AccM mb wx vm l /\ Prs 38 B tb to_ cap ao ts wx (j) bj /\ Got b (fun n => pClass ts n a) bj (⟨t1, t2, lf, l⟩, j) /\ a <= j /\ Own wx w.heap.size 43 #[.string ⟨#[]⟩, .string ⟨#[]⟩, .slice none 0 0, .slice none 0 0] /\ Touch w wx [B] /\ mb <= wx.heap.size)
   case first =>
    go_wp2_with fail
    go_loopw [] (fun wr => ∃ (l : List MMethod) (vm : Value) (j : Nat) (bj : Bool), Own wr cb 43 #[.string t1, .string t2, .slice va lf.length vc, vm] /\ RepF wr (strs lf) [.slice va lf.length vc] gf /\ AccM mb wr vm l /\ Prs 38 B tb to_ cap ao ts wr (j) bj /\ Hid (Todo b (fun n => pClass ts n a) bj (fun n => kC ts t1 t2 lf n l j)) /\ (a <= j /\ l.length <= 802 /\ (bj = false -> l.length <= j)) /\ Own wr w.heap.size 43 #[.string ⟨#[]⟩, .string ⟨#[]⟩, .slice none 0 0, .slice none 0 0] /\ Touch w wr [B] /\ mb <= wr.heap.size) (fun wr => leftOf B ts.length wr)
    case atStart => exact ⟨[], .slice none 0 0, jf, b3, OC10, HA10.out, Acw.nil _ _ _ _, HK10.out, HTD, ⟨by omega, by simp, by simp⟩, OR10, HT10.out, by omega⟩
    case round =>
     clear OC10 HA10 HK10 HTD OR10 HT10
     obtain ⟨l, vm, j, bj, hC, hA, hM, hp, HTDj, ⟨haj, hl2, hlj⟩, hR, hT, hmr⟩ := hrel
     have HA := LH hA
     have HM := LH hM
     have HPj := LH hp
     have HPM := LH hp
     have HT := LH hT
     obtain ⟨d0, d1, d2⟩ := hp.cells
     have zB := lt_of_cell d0
     have hws := hT.size
     have hcwr := hC.lt
     clear hA hM hp hT
     cases bj
     rotate_left
     · have HG := LH (HTDj.out.dead (⟨t1, t2, lf, l⟩, j))
       clear HTDj
       go_wp2_with fail
       go_meet
       exact ⟨l, vm, j, true, hC, HA.out, HM.out, HPj.out, HG.out, haj, hR, HT.out, hmr⟩
     have hjl := HPj.out.ok rfl
     have hlj := hlj rfl
     cases hen : tkxB ts j 8 enW
     rotate_left
     · have HG : Hid (Got b (fun n => pClass ts n a) false (⟨t1, t2, lf, l⟩, j + 1)) := LH (HTDj.out.done (fun n => by unfold kC; rw [pMs, if_pos hen]; rfl))
       have HI := LH (rtake_yes wr HPj.out 8 enW (by decide) en_ne hen)
       clear HTDj hen
       go_wp2_with fail
       refine HI.out.mono ?_
       rintro e w1 ⟨rfl, K1, T1⟩
       have hs1 := T1.size
       go_wp2_with fail
       go_meet
       exact ⟨l, vm, j + 1, false, hC.touch' T1 (by simp; omega), HA.out.touch T1 (fun k hk hm => by have := HFF.out k hk; simp at hm; omega), Acw.touch HM.out T1 (fun k hk => by simp at hk; omega), K1, HG.out, by omega, hR.touch' T1 (by simp; omega), HT.out.trans T1, by omega⟩
     have HI := LH (rtake_no wr HPj.out 8 enW (by decide) en_ne hen)
     have HTD2 : Hid (Todo b (fun n => pClass ts n a) false (fun n => (pMeth ts n j).bind fun m => kC ts t1 t2 lf n (l ++ [m.1]) m.2)) := LH (HTDj.out.step (fun n => by
      unfold kC
      rw [pMs, if_neg (by rw [hen]; decide)]
      cases pMeth ts n j <;> rfl))
     clear HTDj hen
     go_wp2_with fail
     refine HI.out.mono ?_
     rintro e w0 ⟨rfl, x0⟩
     obtain ⟨c, hc⟩ : ∃ c, tkxB ts j 8 cmW = c := ⟨_, rfl⟩
     have HI1 := risx_any w0 (HPj.out.ext x0) 8 cmW (by decide) cm_ne
     rw [hc] at HI1
     have HI2 := LH HI1
     have HCc := LH hc
     clear hc HI1 HI
     go_wp2_with fail
     refine HI2.out.mono ?_
     rintro e w1 ⟨rfl, x2⟩
     have hx := x0.trans x2
     have HO1 := LH (hC.ext hx)
     have HR1 := LH (hR.ext hx)
     have HA1 := LH (HA.out.ext hx)
     have HM1 := LH (Acw.ext HM.out hx)
     have HP1 := LH (HPj.out.ext hx)
     have HT1 := LH (HT.out.trans (Touch.of_ext hx [B]))
     have hs1 := hx.size
     clear hC hR HA HM HPj HT hx d0 d1 d2 zB x0 x2 HI2
     obtain ⟨e0, e1, e2⟩ := HP1.out.cells
     have ze := lt_of_cell e0
     go_upto_region 9 with fail
     go_cut [37] (fun v wx => v = .bool (!c) /\ wx = w1)
     case first =>
      go_wp2_with fail
      go_meet
      exact ⟨rfl, rfl⟩
     case rest =>
      obtain ⟨rfl, rfl⟩ := hcut
      go_upto_if 37 with fail
      go_cut [] (fun wx => ∃ (j1 : Nat) (b1 : Bool), Own wx cb 43 #[.string t1, .string t2, .slice va lf.length vc, vm] /\ RepF wx (strs lf) [.slice va lf.length vc] gf /\ AccM mb wx vm l /\ Prs 38 B tb to_ cap ao ts wx (j1) b1 /\ Hid (Todo b (fun n => pClass ts n a) b1 (fun n => (pMRest ts n c j1).bind fun m => kC ts t1 t2 lf n (l ++ [m.1]) m.2)) /\ (j <= j1 /\ (b1 = false -> j < j1)) /\ Own wx w.heap.size 43 #[.string ⟨#[]⟩, .string ⟨#[]⟩, .slice none 0 0, .slice none 0 0] /\ Touch w wx [B] /\ mb <= wx.heap.size)
      case first =>
       cases c
       · obtain ⟨m, hm⟩ : ∃ m, tkxB ts j 8 meW = m := ⟨_, rfl⟩
         cases m
         · have HI := LH (rneedx_no wc HP1.out 8 meW (by decide) me_ne hm)
           have HTD3 : Hid (Todo b (fun n => pClass ts n a) true (fun n => (pMRest ts n false j).bind fun m => kC ts t1 t2 lf n (l ++ [m.1]) m.2)) := LH (HTD2.out.badly0 (fun n => by unfold pMeth; rw [if_neg (by rw [HCc.out]; decide), if_neg (by rw [hm]; decide)]; rfl))
           clear hm HTD2
           go_wp2_with fail
           refine HI.out.mono ?_
           rintro e w2 ⟨rfl, K2, T2⟩
           go_wp2_with fail
           go_meet
           exact ⟨j, true, HO1.out.touch' T2 (by simp; omega), HA1.out.touch T2 (fun k hk hm => by have := HFF.out k hk; simp at hm; omega), Acw.touch HM1.out T2 (fun k hk => by simp at hk; omega), K2, HTD3, ⟨by omega, fun h => nomatch h⟩, HR1.out.touch' T2 (by simp; omega), HT1.out.trans T2, by have := T2.size; omega⟩
         · have HI := LH (rneedx_yes wc HP1.out 8 meW (by decide) me_ne hm)
           have HTD3 : Hid (Todo b (fun n => pClass ts n a) false (fun n => (pMRest ts n false (j + 1)).bind fun m => kC ts t1 t2 lf n (l ++ [m.1]) m.2)) := LH (HTD2.out.eq0 (fun n => by show (pMeth ts n j).bind _ = _; unfold pMeth; rw [if_neg (by rw [HCc.out]; decide), if_pos hm]))
           clear hm HTD2
           go_wp2_with fail
           refine HI.out.mono ?_
           rintro e w2 ⟨rfl, K2, T2⟩
           go_wp2_with fail
           go_meet
           exact ⟨j + 1, false, HO1.out.touch' T2 (by simp; omega), HA1.out.touch T2 (fun k hk hm => by have := HFF.out k hk; simp at hm; omega), Acw.touch HM1.out T2 (fun k hk => by simp at hk; omega), K2, HTD3, ⟨by omega, fun _ => by omega⟩, HR1.out.touch' T2 (by simp; omega), HT1.out.trans T2, by have := T2.size; omega⟩
       · have HTD3 : Hid (Todo b (fun n => pClass ts n a) false (fun n => (pMRest ts n true (j + 1)).bind fun m => kC ts t1 t2 lf n (l ++ [m.1]) m.2)) := LH (HTD2.out.eq0 (fun n => by show (pMeth ts n j).bind _ = _; unfold pMeth; rw [if_pos HCc.out]))
         have hjt := tok_lt (by decide) HCc.out
         obtain ⟨K2, T2⟩ := HP1.out.setAt (j + 1) (by omega) (fun _ => by omega)
         have HK2 := LH K2
         have HT2 := LH T2
         have ef := HP1.out.own.f1
         clear K2 T2
         go_wp2_with fail
         go_meet
         exact ⟨j + 1, false, HO1.out.touch' HT2.out (by simp; omega), HA1.out.touch HT2.out (fun k hk hm => by have := HFF.out k hk; simp at hm; omega), Acw.touch HM1.out HT2.out (fun k hk => by simp at hk; omega), HK2.out, HTD3, ⟨by omega, fun _ => by omega⟩, HR1.out.touch' HT2.out (by simp; omega), HT1.out.trans HT2.out, Nat.le_trans (show mb <= wc.heap.size by omega) HT2.out.size⟩
      case rest =>
       obtain ⟨j1, b1, hC, hA, hM, hp, HTD3, ⟨hj1, hjj⟩, hR, hT, hmr2⟩ := hcut
       obtain ⟨w1, hw1⟩ : ∃ W, W = wc := ⟨_, rfl⟩
       subst hw1
       have HO1 := LH hC
       have HR1 := LH hR
       have HA1 := LH hA
       have HM1 := LH hM
       have HP1 := LH hp
       have HT1 := LH hT
       have hs1 := hT.size
       obtain ⟨d0, d1, d2⟩ := hp.cells
       have zB := lt_of_cell d0
       clear hC hR hA hM hp hT e0 e1 e2 ze HTD2 HCc
       cases b1
       rotate_left
       · go_wp2_with fail
         refine ⟨⟨l, vm, j1, true, HO1.out, HA1.out, HM1.out, HP1.out, LH HTD3.out.bad, ⟨by omega, hl2, fun h => nomatch h⟩, HR1.out, HT1.out, hmr2⟩, ?_⟩
         rw [left_ok HPM.out, left_bad HP1.out]; omega
       have hjj := hjj rfl
       have HTD2 := HTD3
       go_upto_region 13 with fail
       clear d0 d1 d2 zB HTD3
       have b4 : w1.cell? ⟨cb, 3, none⟩ = some vm := HO1.out.cell 3
       have bz := HO1.out.lt
       have HC := LH (fun (W : World) (hW : Ext w1 W) => l5Method_any W c (HP1.out.ext hW))
       have HOX := LH (fun (W : World) (w2 : World) (hW : Ext w1 W) (T : Touch W w2 [B]) => (HO1.out.ext hW).touch' T (by simp; omega))
       have HMX := LH (fun (W : World) (w2 : World) (hW : Ext w1 W) (T : Touch W w2 [B]) => Acw.touch (Acw.ext HM1.out hW) T (fun k hk => by simp at hk; omega))
       have HSZ := LH (fun (W : World) (w2 : World) (hW : Ext w1 W) (T : Touch W w2 [B]) => Nat.le_trans hW.size T.size)
       have HFX : Hid (∀ W : World, Ext w1 W -> ∀ k, W.heap.size <= k -> mb <= k) := LH (fun W hW k hk => by have := hW.size; omega)
       have HOB : Hid (∀ k, vm.ownBlock = some k -> mb <= k /\ k < w1.heap.size) := LH (fun k hk => Acw.ge HM1.out hk)
       go_region_law ((first
        | (refine step_append_m rfl _ _ rfl mb vm l rfl (Acw.ext (HMX.out _ w2 (Ext.drew (XR _)) T2) ((XR _).alloc _)) [y] _ _ _ (w2.heap.size :: gp) rfl (one_of (R2.ext ((XR _).alloc _)) rfl (own_new w2 _ _) (by decide)) (fun k hk => HFX.out _ (Ext.drew (XR _)) k (F2 k hk)) (fun k hk hm => by have h1 := (HOB.out k hk).2; have h2 := F2 k hm; have h3 := (Ext.drew (XR w1)).size; omega) (by simp; omega) (by have h2 := HSZ.out _ w2 (Ext.drew (XR _)) T2; have h3 := (XR w2).alloc (Obj.cells #[.string y.selector, .bool y.cls, .slice z1 y.params.length z2, .slice z3 y.temps.length z4, .slice z5 y.body.length z6] 26); have h4 := h3.size; omega) ?_; intro ao2 cap2 w7 ac hg hloc; have TG : Touch _ w7 vm.ownBlock.toList := (Touch.of_ext (XR _) _).grown hg (fun k hk => Or.inl (by simp [hk])); have O7 := ((HOX.out _ w2 (Ext.drew (XR _)) T2).ext ((XR _).alloc _)).touch' TG (fun hm => by have := (HOB.out cb (by simpa using hm)).1; omega); have c7 := O7.cell 3; have f7 := O7.f3; have z7 := O7.lt)
        | (go_simp; go_wp2_with ((refine (HC.out _ (by first | exact Ext.drew (XR _) | exact XR _)).mono ?_; rintro e w2 ⟨y, ds, gp, j2, bj2, rfl, R2, F2, K2, g2, m2, T2⟩; obtain ⟨z1, z2, z3, z4, z5, z6, rfl⟩ := fld5m R2; have b42 : w2.cell? ⟨cb, 3, none⟩ = some vm := (HOX.out _ w2 (Ext.drew (XR _)) T2).cell 3; have bz2 := (HOX.out _ w2 (Ext.drew (XR _)) T2).lt)))))
       all_goals
        have hsz2 := HSZ.out _ w2 (Ext.drew (XR _)) T2
        have HTD3 := LH (HTD2.out.call0 g2 (g := fun n m => kC ts t1 t2 lf n (l ++ [m.1]) m.2) (fun n => rfl))
        have Ta : Touch w2 w7 vm.ownBlock.toList := (Touch.of_ext ((XR _).alloc _) _).trans TG
        generalize hv1 : Value.slice ao2 (l.length + [y].length) cap2 = v1 at *
        generalize hS : World.setCell w7 _ v1 = W9
        have Tb : Touch w7 W9 [cb] := by rw [<- hS]; exact (Touch.of_ext (XR _) _).setCell (by simp) _
        have O9 : Own W9 cb 43 #[.string t1, .string t2, .slice va lf.length vc, v1] := by rw [<- hS]; exact O7.set 3 v1
        have M9 : AccM mb W9 v1 (l ++ [y]) := Acw.touch ac Tb (fun k hk => by simp at hk; omega)
        have T7 : Touch w2 W9 (cb :: vm.ownBlock.toList) := (Ta.mono (fun k hk => List.mem_cons_of_mem _ hk)).trans (Tb.mono (fun k hk => by simp at hk; simp [hk]))
        have hF7 : ∀ k, k ∈ cb :: vm.ownBlock.toList -> cb <= k := fun k hk => by
         rcases List.mem_cons.1 hk with rfl | hk
         · exact Nat.le_refl _
         · have := (HOB.out k (by simpa using hk)).1; omega
        have P9 := HP.out.late K2 T7 (fun k hk => by have := hF7 k hk; omega)
        have OR9 := ((HR1.out.ext (Ext.drew (XR _))).touch' T2 (by simp; omega)).touch' T7 (fun hm => by have := hF7 _ hm; omega)
        have A9 : RepF W9 (strs lf) [.slice va lf.length vc] gf := ((HA1.out.ext (Ext.drew (XR _))).touch T2 (fun k hk hm => by have := HFF.out k hk; simp at hm; omega)).touch T7 (fun k hk hm => by
         have h1 := HFF.out k hk
         rcases List.mem_cons.1 hm with rfl | hm
         · omega
         · have := (HOB.out k (by simpa using hm)).1; omega)
        have hsz9 := T7.size
        have T9 : Touch w W9 [B] := ((HT1.out.trans (Touch.of_ext (Ext.drew (XR _)) [B])).trans T2).late2 T7 (fun k hk => by have := hF7 k hk; omega)
        have HP9 := LH P9
        have HOR9 := LH OR9
        have HA9 := LH A9
        have HM9 := LH M9
        have HT9 := LH T9
        have HO9 := LH O9
        clear hS Ta Tb O9 A9 M9 T7 hF7 P9 OR9 T9 ac hg hloc TG O7 c7 f7 z7 K2 T2 b42 bz2 b4 bz HC HMX HOX HSZ HFX HOB HO1 HR1 HA1 HM1 HT1 HP1 R2 F2 g2 HTD2 hv1
        go_wp2_with fail
        refine ⟨⟨l ++ [y], v1, j2, bj2, HO9.out, HA9.out, HM9.out, HP9.out, HTD3, ⟨by omega, by simp; omega, fun h => by subst h; simp; omega⟩, HOR9.out, HT9.out, by omega⟩, ?_⟩
        rw [left_ok HPM.out]
        cases bj2
        · rw [left_ok HP9.out]; have := HP9.out.le; omega
        · rw [left_bad HP9.out]; omega
   case rest =>
    obtain ⟨l, vm, j9, b9, OC9, RF, M_, K9, HG9, hj9, OR9, T_, hmr⟩ := hcut
    obtain ⟨w9, hw9⟩ : ∃ W, W = wc := ⟨_, rfl⟩
    subst hw9
    obtain ⟨vma, vmc, gm, rfl, rm, fm⟩ := AccM.rep M_
    have HRF9 := LH RF
    have HRM9 := LH rm
    have HFM := LH fm
    have HP9 := LH K9
    have HT9 := LH T_
    have HG9 := LH HG9
    have hs9 := T_.size
    clear RF rm fm M_ K9 T_ OC10 OR10 HA10 HK10 HTD HT10
    have m0 := OC9.k0
    have mf0 := OC9.f0
    have m1 := OC9.k1
    have mf1 := OC9.f1
    have m2 := OC9.k2
    have mf2 := OC9.f2
    have m3 := OC9.k3
    have mf3 := OC9.f3
    have mz := OC9.lt
    have r0 := OR9.k0
    have rf0 := OR9.f0
    have r1 := OR9.k1
    have rf1 := OR9.f1
    have r2 := OR9.k2
    have rf2 := OR9.f2
    have r3 := OR9.k3
    have rf3 := OR9.f3
    have rz := OR9.lt
    go_wp2_with fail
    generalize hS : World.setCell (World.setCell (World.setCell (World.setCell w9 _ _) _ _) _ _) _ _ = W9
    obtain ⟨O9, T9⟩ := own4c OR9 (.string t1) (.string t2) (.slice va lf.length vc) (.slice vma l.length vmc)
    rw [hS] at O9 T9
    clear hS
    have p0 := O9.k0
    have p1 := O9.k1
    have p2 := O9.k2
    have p3 := O9.k3
    have pz := O9.lt
    have RN := HRF9.out.touch T9 (fun k hk hm => by have := HFF.out k hk; simp at hm; omega)
    have RM := HRM9.out.touch T9 (fun k hk hm => by have := HFM.out k hk; simp at hm; omega)
    have R9 := MClassDef.shut (x := ⟨t1, t2, lf, l⟩) RN RM
    rw [List.append_nil] at R9
    have FIN : RCGot B tb to_ cap ao ts w a b (.returned (.agg #[.string t1, .string t2, .slice va lf.length vc, .slice vma l.length vmc])) W9 := ⟨⟨t1, t2, lf, l⟩, _, gf ++ gm, j9, b9, rfl, R9, fun k hk => by
     rcases List.mem_append.1 hk with hk | hk
     · have := HFF.out k hk; omega
     · have := HFM.out k hk; omega, HP.out.late HP9.out T9 (fun k hk => by simp at hk; omega), HG9.out, by omega, HT9.out.late2 T9 (fun k hk => by simp at hk; omega)⟩
    exact bodyPost_ret (v := .agg #[.string t1, .string t2, .slice va lf.length vc, .slice vma l.length vmc]) (by simp [results, Tryz.results11, go_sem, p0, p1, p2, p3, pz]) rfl FIN
theorem done_any {B tb to_ cap : Nat} {ao : Option Addr} {ts : List MToken} {a : Nat} {b : Bool} (w : World) (h : Prs 51 B tb to_ cap ao ts w (a) b) : Calls Tryz.prog 21 #[.pointer (some ⟨B, 0, none⟩)] w (fun e w' => e = .returned (.bool (!b && decide (a = ts.length))) /\ Ext w w') := by
 obtain ⟨c0, c1, c2⟩ := h.cells
 have zB := lt_of_cell c0
 clear h
 obtain ⟨V, hV⟩ : ∃ V, (!b && decide (a = ts.length)) = V := ⟨_, rfl⟩
 rw [hV]
 cases b
 · by_cases hl : a = ts.length
   · subst hl
     have hv : V = true := by rw [<- hV]; simp
     subst hv
     clear hV
     go_enter Tryz.func21, Tryz.ntmps21
     go_wp2_with fail
     have gc0 := reg (XR _) c0
     have gc1 := reg (XR _) c1
     have gc2 := reg (XR _) c2
     refine wp_region_quiet_below (by kernel_rfl) (by kernel_rfl) ?_
     repeat (go_big_quiet_step ((fail)))
     refine wpQuiet_nil ?_
     clear gc0 gc1 gc2
     intro _ hw'
     obtain ⟨pw, hw''⟩ := hw'
     subst hw''
     have xW2 := regx w pw
     generalize hWR : «Sort».grow (redrawn w pw.d) pw.os = W2 at *
     clear hWR
     replace c0 := xW2.cell c0
     replace c1 := xW2.cell c1
     replace c2 := xW2.cell c2
     go_wp2_with fail
     go_ret
     exact ⟨rfl, by first | exact xW2 | exact xW2.alloc _⟩
   have hn : decide ((a : Int) = (ts.length : Int)) = false := decide_eq_false (by omega)
   have hn2 : ((a : Int) == (ts.length : Int)) = false := by simp; omega
   have hv : V = false := by rw [<- hV]; simp [hl]
   subst hv
   clear hV
   go_enter Tryz.func21, Tryz.ntmps21
   go_wp2_with fail
   have gc0 := reg (XR _) c0
   have gc1 := reg (XR _) c1
   have gc2 := reg (XR _) c2
   refine wp_region_quiet_below (by kernel_rfl) (by kernel_rfl) ?_
   repeat (go_big_quiet_step ((fail)))
   refine wpQuiet_nil ?_
   clear gc0 gc1 gc2
   intro _ hw'
   obtain ⟨pw, hw''⟩ := hw'
   subst hw''
   have xW2 := regx w pw
   generalize hWR : «Sort».grow (redrawn w pw.d) pw.os = W2 at *
   clear hWR
   replace c0 := xW2.cell c0
   replace c1 := xW2.cell c1
   replace c2 := xW2.cell c2
   go_wp2_with fail
   go_ret
   exact ⟨rfl, by first | exact xW2 | exact xW2.alloc _⟩
 have hv : V = false := by rw [<- hV]; simp
 subst hv
 clear hV
 go_enter Tryz.func21, Tryz.ntmps21
 go_wp2_with fail
 have gc0 := reg (XR _) c0
 have gc1 := reg (XR _) c1
 have gc2 := reg (XR _) c2
 refine wp_region_quiet_below (by kernel_rfl) (by kernel_rfl) ?_
 repeat (go_big_quiet_step ((fail)))
 refine wpQuiet_nil ?_
 clear gc0 gc1 gc2
 intro _ hw'
 obtain ⟨pw, hw''⟩ := hw'
 subst hw''
 have xW2 := regx w pw
 generalize hWR : «Sort».grow (redrawn w pw.d) pw.os = W2 at *
 clear hWR
 replace c0 := xW2.cell c0
 replace c1 := xW2.cell c1
 replace c2 := xW2.cell c2
 go_wp2_with fail
 go_ret
 exact ⟨rfl, by first | exact xW2 | exact xW2.alloc _⟩
end Go.Proofs.YtlcebafhbceejaaGreatDoor
