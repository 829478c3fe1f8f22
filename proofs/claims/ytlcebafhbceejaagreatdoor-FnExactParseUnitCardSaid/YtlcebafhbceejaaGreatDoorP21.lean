/-
  CONTRACTS: the program's parser: the body of a method, a method.
  Conditions: those that each lemma states.
-/
import Derived.Test.YtlcebafhbceejaaGreatDoorRows
import Derived.Deep.DeepCutAuto
import Derived.Deep.RegionHeldLaw
import Derived.Test.YtlcebafhbceejaaGreatDoorP19
import Derived.Test.YtlcebafhbceejaaGreatDoorP20
namespace Go.Proofs.YtlcebafhbceejaaGreatDoor
open Go.RowKit
set_option maxHeartbeats 8000000
set_option maxRecDepth 100000
set_option linter.unusedSimpArgs false
set_option linter.unusedVariables false
def BGot (B tb to_ cap : Nat) (ao : Option Addr) (ts : List MToken) (mb : Nat) (c0 c1 c2 : Value) (w : World) (a : Nat) (b : Bool) (e : Ending) (w' : World) : Prop :=
 ∃ (lt : List ByteArray) (lb : List MExpr) (vt vb : Value) (a' : Nat) (b' : Bool), e = .returned (.tuple #[]) /\ Own w' mb 26 #[c0, c1, c2, vt, vb] /\ AccT w.heap.size w' vt lt /\ AccX w.heap.size w' vb lb /\ Prs 51 B tb to_ cap ao ts w' (a') b' /\ Got b (fun n => pVS ts n a) b' (lt, lb, a') /\ a <= a' /\ lt.length + a <= a' /\ Touch w w' [B, mb]
def MGot (B tb to_ cap : Nat) (ao : Option Addr) (ts : List MToken) (w : World) (a : Nat) (b : Bool) (e : Ending) (w' : World) : Prop :=
 ∃ (m : MMethod) (cs : List Value) (fp : List Nat) (a' : Nat) (b' : Bool), e = .returned (.agg (List.toArray cs)) /\ RepF w' m.d cs fp /\ (∀ k, k ∈ fp -> w.heap.size <= k) /\ Prs 51 B tb to_ cap ao ts w' (a') b' /\ Got b (fun n => pMeth ts n a) b' (m, a') /\ a <= a' /\ Touch w w' [B]
theorem AccT.one {B0 nb : Nat} {w : World} {x : ByteArray} (hO : Own w nb 9 #[.string x]) (hB : B0 <= nb) : AccT B0 w (.slice (some ⟨nb, 0, none⟩) 1 1) [x] :=
 ⟨[.string x], ⟨rfl, Or.inr ⟨nb, 1, #[.string x], rfl, hB, hO, Nat.le_refl _, by unfold maxLen; omega, rfl, rfl⟩⟩, RepR.one (show RepF w (.str x) [.string x] [] from by simp [RepF]) rfl, Fresh.nil _ _, fun k _ hm => nomatch hm⟩
theorem body_any {B tb to_ cap : Nat} {ao : Option Addr} {ts : List MToken} {mb a : Nat} {b : Bool} {c0 c1 c2 c3 c4 : Value} (w : World) (h : Prs 51 B tb to_ cap ao ts w (a) b) (OM : Own w mb 26 #[c0, c1, c2, c3, c4]) (hmB : mb ≠ B) (hmt : 0 < ts.length -> tb ≠ mb) :
 Calls Tryz.prog 20 #[.pointer (some ⟨B, 0, none⟩), .pointer (some ⟨mb, 0, none⟩)] w (BGot B tb to_ cap ao ts mb c0 c1 c2 w a b) := by
 have HP := LH h
 have hrb := h.own.lt
 have hmz := OM.lt
 have HV := LH (vars_any w h)
 clear h
 go_enter Tryz.func20, Tryz.ntmps20
 go_wp2_with fail
 refine HV.out.mono ?_
 rintro e w1 ⟨v1, l1, j1, b1, rfl, A1, K1, g1, hj1, hl1, T1⟩
 obtain ⟨va, vc, gv, rfl, -, -⟩ := AccT.rep A1
 have OM1 := OM.touch' T1 (by simpa using hmB)
 have m3 := OM1.k3
 have mf := OM1.f3
 have mz := OM1.lt
 have HA1 := LH A1
 have HP1 := LH K1
 have HT1 := LH T1
 have hs1 := T1.size
 have HG1 := LH g1
 clear A1 K1 g1 T1 HV OM
 go_upto_region 1 with fail
 generalize hS : World.setCell w1 _ _ = w2
 have T2 : Touch w1 w2 [mb] := by rw [<- hS]; exact (Touch.of_ext (XR _) _).setCell (by simp) _
 have OM2 : Own w2 mb 26 #[c0, c1, c2, .slice va l1.length vc, c4] := by rw [<- hS]; exact OM1.set 3 _
 have HA2 := LH (AccT.low HA1.out T2 (fun k hk => by simp at hk; omega))
 have HP2 := LH (HP1.out.touch T2 (by simpa using hmB.symm) (fun h0 => by simpa using hmt h0))
 have HT2 := LH ((HT1.out.mono (gp := [B, mb]) (fun k hk => by simp at hk; simp [hk])).trans (T2.mono (gp := [B, mb]) (fun k hk => by simp at hk; simp [hk])))
 have hs2 := T2.size
 clear hS T2 OM1 HA1 HP1 HT1 m3 mf mz
 go_wp2_with fail
 refine (stms_all j1 w2 b1 HP2.out).mono ?_
 rintro e w3 ⟨l3, v3, j3, b3, rfl, A3, K3, g3, hl3, T3⟩
 obtain ⟨vx, vy, gx, rfl, -, -⟩ := AccX.rep A3
 have OM3 := OM2.touch' T3 (by simpa using hmB)
 have m4 := OM3.k4
 have mf := OM3.f4
 have mz := OM3.lt
 have HA3 := LH (AccT.low HA2.out T3 (fun k hk => by simp at hk; omega))
 have HB3 := LH (Acw.base (B0 := w.heap.size) A3 (by omega))
 have HP3 := LH K3
 have HT3 := LH (HT2.out.trans (T3.mono (gp := [B, mb]) (fun k hk => by simp at hk; simp [hk])))
 have HG3 := LH ((((Todo.refl b (fun n => pVS ts n a)).call0 HG1.out (g := fun n v => (pStmts ts n [] v.2).bind fun b => some (v.1, b.1, b.2)) (fun n => rfl)).call0 g3 (g := fun n b => some (l1, b.1, b.2)) (fun n => rfl)).done0 (y := (l1, l3, j3)) (fun n => rfl))
 clear A3 K3 g3 T3 OM2 HA2 HP2 HT2 HG1
 go_wp2_with fail
 generalize hS : World.setCell w3 _ _ = w4
 have T4 : Touch w3 w4 [mb] := by rw [<- hS]; exact (Touch.of_ext (XR _) _).setCell (by simp) _
 have OM4 : Own w4 mb 26 #[c0, c1, c2, .slice va l1.length vc, .slice vx l3.length vy] := by rw [<- hS]; exact OM3.set 4 _
 have FIN : BGot B tb to_ cap ao ts mb c0 c1 c2 w a b (.returned (.tuple #[])) w4 := ⟨l1, l3, _, _, j3, b3, rfl, OM4, AccT.low HA3.out T4 (fun k hk => by simp at hk; omega), Acw.touch HB3.out T4 (fun k hk => by simp at hk; omega), HP3.out.touch T4 (by simpa using hmB.symm) (fun h0 => by simpa using hmt h0), HG3.out, by omega, by omega, HT3.out.trans (T4.mono (gp := [B, mb]) (fun k hk => by simp at hk; simp [hk]))⟩
 go_end0
 exact FIN
theorem own5m {w : World} {r : Nat} {c0 c1 c2 c3 c4 : Value} (h : Own w r 26 #[c0, c1, c2, c3, c4]) (v0 v1 v2 v3 v4 : Value) :
 Own (((((w.setCell ⟨r, 0, none⟩ v0).setCell ⟨r, 1, none⟩ v1).setCell ⟨r, 2, none⟩ v2).setCell ⟨r, 3, none⟩ v3).setCell ⟨r, 4, none⟩ v4) r 26 #[v0, v1, v2, v3, v4] /\
 Touch w (((((w.setCell ⟨r, 0, none⟩ v0).setCell ⟨r, 1, none⟩ v1).setCell ⟨r, 2, none⟩ v2).setCell ⟨r, 3, none⟩ v3).setCell ⟨r, 4, none⟩ v4) [r] :=
 ⟨((((h.set 0 v0).set 1 v1).set 2 v2).set 3 v3).set 4 v4, ((((((Touch.of_ext (XR w) [r]).setCell (by simp) v0).setCell (by simp) v1).setCell (by simp) v2).setCell (by simp) v3).setCell (by simp) v4)⟩
theorem nil_app (s : ByteArray) : (⟨#[]⟩ : ByteArray) ++ s = s := by
 apply ByteArray.ext
 show (ByteArray.append _ _).data = _
 simp
theorem method_any {B tb to_ cap : Nat} {ao : Option Addr} {ts : List MToken} {a : Nat} {b : Bool} (w : World) (h : Prs 51 B tb to_ cap ao ts w (a) b) : Calls Tryz.prog 44 #[.pointer (some ⟨B, 0, none⟩)] w (MGot B tb to_ cap ao ts w a b) := by
 have HP := LH h
 have hln := h.len
 have hle := h.le
 have hrb := h.own.lt
 have htl := fun h0 => h.tl h0
 obtain ⟨c1, hc1⟩ : ∃ c, tkxB ts a 8 cmW = c := ⟨_, rfl⟩
 have HC1 := LH hc1
 clear h hc1
 go_enter Tryz.func44, Tryz.ntmps44
 go_upto_region 2 with fail
 generalize hS : World.alloc (World.alloc w _) _ = W1
 have x1 : Ext w W1 := by rw [<- hS]; exact ((XR _).alloc _).alloc _
 have OR : Own W1 w.heap.size 26 #[.string ⟨#[]⟩, .bool false, .slice none 0 0, .slice none 0 0, .slice none 0 0] := by rw [<- hS]; exact (own_new w _ _).ext ((XR _).alloc _)
 have OM : Own W1 (w.heap.size + 1) 26 #[.string ⟨#[]⟩, .bool false, .slice none 0 0, .slice none 0 0, .slice none 0 0] := by rw [<- hS]; exact own_new2 w _ _ _
 have HP1 := LH (HP.out.ext x1)
 clear hS
 go_cut [6] (fun v wx => v = .bool c1 /\ Prs 51 B tb to_ cap ao ts wx (if c1 = true then a + 1 else a) b /\ Own wx w.heap.size 26 #[.string ⟨#[]⟩, .bool false, .slice none 0 0, .slice none 0 0, .slice none 0 0] /\ Own wx (w.heap.size + 1) 26 #[.string ⟨#[]⟩, .bool false, .slice none 0 0, .slice none 0 0, .slice none 0 0] /\ Touch w wx [B])
 case first =>
  cases c1
  · have HE := LH (eat_no W1 HP1.out 8 cmW (by decide) HC1.out)
    go_wp2_with fail
    refine HE.out.mono ?_
    rintro e w2 ⟨rfl, K2, T2⟩
    have O2 := OR.touch' T2 (by simp; omega)
    have O2m := OM.touch' T2 (by simp; omega)
    go_wp2_with fail
    go_meet
    exact ⟨rfl, K2, O2, O2m, (Touch.of_ext x1 [B]).trans T2⟩
  · have hjt := tok_lt (by decide) HC1.out
    have HE := LH (eat_yes W1 HP1.out 8 cmW (by decide) HC1.out)
    go_wp2_with fail
    refine HE.out.mono ?_
    rintro e w2 ⟨rfl, K2, T2⟩
    have O2 := OR.touch' T2 (by simp; omega)
    have O2m := OM.touch' T2 (by simp; omega)
    go_wp2_with fail
    go_meet
    exact ⟨rfl, K2, O2, O2m, (Touch.of_ext x1 [B]).trans T2⟩
 case rest =>
  obtain ⟨rfl, K2, O2, O2m, T2⟩ := hcut
  have HK2 := LH K2
  have HT2 := LH T2
  clear K2 T2 OR OM HP1 x1
  go_upto_if 6 with fail
  go_cut [] (fun wx => ∃ (j : Nat) (bj : Bool), Own wx (w.heap.size + 1) 26 #[.string ⟨#[]⟩, .bool c1, .slice none 0 0, .slice none 0 0, .slice none 0 0] /\ Prs 51 B tb to_ cap ao ts wx (j) bj /\ Todo b (fun n => pMeth ts n a) bj (fun n => pMRest ts n c1 j) /\ a <= j /\ Own wx w.heap.size 26 #[.string ⟨#[]⟩, .bool false, .slice none 0 0, .slice none 0 0, .slice none 0 0] /\ Touch w wx [B])
  case first =>
   cases c1
   rotate_left
   · skip
     have q1 := O2m.cell 1
     have qf1 := O2m.f1
     have qz := O2m.lt
     go_wp2_with fail
     generalize hS : World.setCell wc _ _ = w3
     have T3 : Touch wc w3 [w.heap.size + 1] := by rw [<- hS]; exact (Touch.of_ext (XR _) _).setCell (by simp) _
     have O3m : Own w3 (w.heap.size + 1) 26 #[.string ⟨#[]⟩, .bool true, .slice none 0 0, .slice none 0 0, .slice none 0 0] := by rw [<- hS]; exact O2m.set 1 _
     have O3 := O2.touch' T3 (by simp)
     have P3 := HP.out.late HK2.out T3 (fun k hk => by simp at hk; omega)
     have T03 := HT2.out.late2 T3 (fun k hk => by simp at hk; omega)
     clear hS
     go_meet
     exact ⟨a + 1, b, O3m, P3, (Todo.refl b (fun n => pMeth ts n a)).eq0 (fun n => by rw [pMeth, if_pos HC1.out]), by omega, O3, T03⟩
   · cases hw : tkxB ts a 8 meW
     · have HE := LH (want_no _ HK2.out 8 meW (by decide) hw)
       have HTD : Hid (Todo b (fun n => pMeth ts n a) true (fun n => pMRest ts n false a)) := LH ((Todo.refl b (fun n => pMeth ts n a)).badly0 (fun n => by rw [pMeth, if_neg (by rw [HC1.out]; decide), if_neg (by rw [hw]; decide)]))
       clear hw
       go_wp2_with fail
       refine HE.out.mono ?_
       rintro e w3 ⟨rfl, K3, T3⟩
       have O3 := O2.touch' T3 (by simp; omega)
       have O3m := O2m.touch' T3 (by simp; omega)
       go_wp2_with fail
       go_meet
       exact ⟨a, true, O3m, K3, HTD.out, Nat.le_refl _, O3, HT2.out.trans T3⟩
     · have HE := LH (want_yes _ HK2.out 8 meW (by decide) hw)
       have hjt := tok_lt (by decide) hw
       have HTD : Hid (Todo b (fun n => pMeth ts n a) b (fun n => pMRest ts n false (a + 1))) := LH ((Todo.refl b (fun n => pMeth ts n a)).eq0 (fun n => by rw [pMeth, if_neg (by rw [HC1.out]; decide), if_pos hw]))
       clear hw
       go_wp2_with fail
       refine HE.out.mono ?_
       rintro e w3 ⟨rfl, K3, T3⟩
       have O3 := O2.touch' T3 (by simp; omega)
       have O3m := O2m.touch' T3 (by simp; omega)
       go_wp2_with fail
       go_meet
       exact ⟨a + 1, b, O3m, K3, HTD.out, by omega, O3, HT2.out.trans T3⟩
  case rest =>
   obtain ⟨j, bj, OM3, hp, hTD, haj, OR3, hT⟩ := hcut
   have HPj := LH hp
   have HTD := LH hTD
   have HT3 := LH hT
   have hs3 := hT.size
   have hjl := hp.le
   have hwj := fun hk => hp.words (i := j) hk
   clear hp hTD hT HK2 HT2 HC1 O2 O2m
   obtain ⟨kd, hkd⟩ : ∃ x, tkK ts j = x := ⟨_, rfl⟩
   have HKD := LH hkd
   go_upto_region 5 with fail
   go_cut [12] (fun v wx => v = .int .i64 kd /\ Ext wc wx)
   case first =>
    have hpk := peek_any _ HPj.out
    rw [hkd] at hpk
    have hf := fld0 kd (tkN ts j) (tkT ts j)
    go_wp2_with fail
    refine hpk.mono ?_
    rintro e w5 ⟨rfl, hx⟩
    go_wp2_with fail
    go_meet
    exact ⟨rfl, hx⟩
   case rest =>
    obtain ⟨rfl, x5⟩ := hcut
    have OM5 := OM3.ext x5
    have OR5 := OR3.ext x5
    have HP5 := LH (HPj.out.ext x5)
    have HT5 := LH (HT3.out.trans (Touch.of_ext x5 [B]))
    have hs5 := x5.size
    clear x5 OM3 OR3 HPj HT3 hkd
    go_upto_block 0 with fail
    go_cut [] (fun wx => ∃ (s : ByteArray) (ps : List ByteArray) (vp : Value) (j2 : Nat) (b2 : Bool), Own wx (w.heap.size + 1) 26 #[.string s, .bool c1, vp, .slice none 0 0, .slice none 0 0] /\ AccT (w.heap.size + 2) wx vp ps /\ Prs 51 B tb to_ cap ao ts wx (j2) b2 /\ Got bj (fun n => pSig ts n j) b2 (s, ps, j2) /\ j <= j2 /\ ps.length + j <= j2 + 1 /\ Own wx w.heap.size 26 #[.string ⟨#[]⟩, .bool false, .slice none 0 0, .slice none 0 0, .slice none 0 0] /\ Touch w wx [B])
    case first =>
     by_cases k1 : kd = 1
     · have TB : Hid (tkB ts j 1 = true) := LH ((kind_eq (by decide)).2 (by rw [HKD.out]; exact k1))
       have hjt := kind_lt (by decide) TB.out
       have s1 := int_eq k1
       clear k1
       have HTK := LH (take_yes wc HP5.out 1 (by decide) TB.out)
       obtain ⟨tx, htx⟩ : ∃ x, tkT ts j = x := ⟨_, rfl⟩
       rw [htx] at HTK
       have HTX := LH htx
       clear htx
       go_wp2_with fail
       refine HTK.out.mono ?_
       rintro e w6 ⟨rfl, K6, T6⟩
       have OM6 := OM5.touch' T6 (by simp; omega)
       have OR6 := OR5.touch' T6 (by simp; omega)
       have hs6 := T6.size
       have m0 := OM6.k0
       have mf0 := OM6.f0
       have m1 := OM6.k1
       have mf1 := OM6.f1
       have m2 := OM6.k2
       have mf2 := OM6.f2
       have m3 := OM6.k3
       have mf3 := OM6.f3
       have m4 := OM6.k4
       have mf4 := OM6.f4
       have mz := OM6.lt
       go_wp2_with fail
       generalize hS : World.setCell w6 _ _ = w7
       have T7 : Touch w6 w7 [w.heap.size + 1] := by rw [<- hS]; exact (Touch.of_ext (XR _) _).setCell (by simp) _
       have OM7 : Own w7 (w.heap.size + 1) 26 #[.string tx, .bool c1, .slice none 0 0, .slice none 0 0, .slice none 0 0] := by rw [<- hS]; exact OM6.set 0 _
       have OR7 := OR6.touch' T7 (by simp)
       have P7 := HP.out.late K6 T7 (fun k hk => by simp at hk; omega)
       have T07 := (HT5.out.trans T6).late2 T7 (fun k hk => by simp at hk; omega)
       have hs7 := T7.size
       clear hS T7 K6 T6 OM6 OR6 OM5 OR5 HT5 HP5 m0 mf0 m1 mf1 m2 mf2 m3 mf3 m4 mf4 mz
       go_meet
       exact ⟨tx, [], .slice none 0 0, j + 1, bj, OM7, Acc.nil _ _ _ _, P7, Got.ok ⟨0, fun n _ => by show pSig ts n j = _; rw [pSig, if_pos TB.out, HTX.out]⟩, by omega, by simp; omega, OR7, T07⟩
     have s1 := int_ne k1
     have NB1 : Hid (tkB ts j 1 = false) := LH (by
      cases hh : tkB ts j 1
      · rfl
      · exact absurd (by rw [<- HKD.out]; exact (kind_eq (by decide)).1 hh) k1)
     clear k1
     by_cases k6 : kd = 6
     · have TB : Hid (tkB ts j 6 = true) := LH ((kind_eq (by decide)).2 (by rw [HKD.out]; exact k6))
       have hjt := kind_lt (by decide) TB.out
       have s6 := int_eq k6
       clear k6
       have HTK := LH (take_yes wc HP5.out 6 (by decide) TB.out)
       obtain ⟨tx, htx⟩ : ∃ x, tkT ts j = x := ⟨_, rfl⟩
       rw [htx] at HTK
       have HTX := LH htx
       clear htx
       go_wp2_with fail
       refine HTK.out.mono ?_
       rintro e w6 ⟨rfl, K6, T6⟩
       have OM6 := OM5.touch' T6 (by simp; omega)
       have OR6 := OR5.touch' T6 (by simp; omega)
       have hs6 := T6.size
       have m0 := OM6.k0
       have mf0 := OM6.f0
       have m1 := OM6.k1
       have mf1 := OM6.f1
       have m2 := OM6.k2
       have mf2 := OM6.f2
       have m3 := OM6.k3
       have mf3 := OM6.f3
       have m4 := OM6.k4
       have mf4 := OM6.f4
       have mz := OM6.lt
       go_upto_region 15 with fail
       generalize hS : World.setCell w6 _ _ = w7
       have T7 : Touch w6 w7 [w.heap.size + 1] := by rw [<- hS]; exact (Touch.of_ext (XR _) _).setCell (by simp) _
       have OM7 : Own w7 (w.heap.size + 1) 26 #[.string tx, .bool c1, .slice none 0 0, .slice none 0 0, .slice none 0 0] := by rw [<- hS]; exact OM6.set 0 _
       have OR7 := OR6.touch' T7 (by simp)
       have P7 := HP.out.late K6 T7 (fun k hk => by simp at hk; omega)
       have T07 := (HT5.out.trans T6).late2 T7 (fun k hk => by simp at hk; omega)
       have hs7 := T7.size
       clear hS T7 K6 T6 OM6 OR6 OM5 OR5 HT5 HP5 m0 mf0 m1 mf1 m2 mf2 m3 mf3 m4 mf4 mz
       obtain ⟨ty, j2, b2, HC, HG, hj2⟩ : ∃ (ty : ByteArray) (j2 : Nat) (b2 : Bool), Hid (Calls Tryz.prog 42 #[.pointer (some ⟨B, 0, none⟩), .int .i64 1] w7 (fun e w' => e = .returned (.string ty) /\ Prs 51 B tb to_ cap ao ts w' (j2) b2 /\ Touch w7 w' [B])) /\ Hid (Got bj (fun n => pSig ts n j) b2 (tx, [ty], j2)) /\ j + 1 <= j2 := by
        cases hb : tkB ts (j + 1) 1
        · exact ⟨⟨#[]⟩, j + 1, true, LH (take_no w7 P7 1 (by decide) hb), LH (Got.bad _ ⟨0, fun n _ => by show pSig ts n j = _; rw [pSig, if_neg (by rw [NB1.out]; decide), if_pos TB.out, if_neg (by rw [hb]; decide)]⟩), Nat.le_refl _⟩
        · exact ⟨tkT ts (j + 1), j + 2, bj, LH (take_yes w7 P7 1 (by decide) hb), LH (Got.ok ⟨0, fun n _ => by show pSig ts n j = _; rw [pSig, if_neg (by rw [NB1.out]; decide), if_pos TB.out, if_pos hb, HTX.out]⟩), by omega⟩
       go_wp2_with fail
       refine HC.out.mono ?_
       rintro e w8 ⟨rfl, K8, T8⟩
       have OM8 := OM7.touch' T8 (by simp; omega)
       have OR8 := OR7.touch' T8 (by simp; omega)
       have hs8 := T8.size
       have m0 := OM8.k0
       have mf0 := OM8.f0
       have m1 := OM8.k1
       have mf1 := OM8.f1
       have m2 := OM8.k2
       have mf2 := OM8.f2
       have m3 := OM8.k3
       have mf3 := OM8.f3
       have m4 := OM8.k4
       have mf4 := OM8.f4
       have mz := OM8.lt
       go_wp2_with fail
       generalize hS : World.alloc (World.setCell w8 _ _) _ = w9
       have hz8 : (w8.setCell ⟨w.heap.size + 1, 2, none⟩ (.slice (some ⟨w8.heap.size, 0, none⟩) 1 1)).heap.size = w8.heap.size := by simp [World.setCell]
       have T9 : Touch w8 w9 [w.heap.size + 1] := by rw [<- hS]; exact ((Touch.of_ext (XR _) _).setCell (by simp) _).trans (Touch.of_ext ((XR _).alloc _) _)
       have OM9 : Own w9 (w.heap.size + 1) 26 #[.string tx, .bool c1, .slice (some ⟨w8.heap.size, 0, none⟩) 1 1, .slice none 0 0, .slice none 0 0] := by rw [<- hS]; exact (OM8.set 2 _).ext ((XR _).alloc _)
       have ON9 : Own w9 w8.heap.size 9 #[.string ty] := by rw [<- hS]; have h := own_new (w8.setCell ⟨w.heap.size + 1, 2, none⟩ (.slice (some ⟨w8.heap.size, 0, none⟩) 1 1)) #[.string ty] 9; rw [hz8] at h; exact h
       have OR9 := OR8.touch' T9 (by simp)
       have A9 : AccT (w.heap.size + 2) w9 (.slice (some ⟨w8.heap.size, 0, none⟩) 1 1) [ty] := AccT.one ON9 (by omega)
       have P9 := HP.out.late K8 T9 (fun k hk => by simp at hk; omega)
       have T09 := (T07.trans T8).late2 T9 (fun k hk => by simp at hk; omega)
       clear hS hz8 T9 K8 T8 OM8 OR8 OM7 OR7 T07 P7 ON9 HC m0 mf0 m1 mf1 m2 mf2 m3 mf3 m4 mf4 mz
       go_meet
       exact ⟨tx, [ty], _, j2, b2, OM9, A9, P9, HG.out, by omega, by simp; omega, OR9, T09⟩
     have s6 := int_ne k6
     have NB6 : Hid (tkB ts j 6 = false) := LH (by
      cases hh : tkB ts j 6
      · rfl
      · exact absurd (by rw [<- HKD.out]; exact (kind_eq (by decide)).1 hh) k6)
     clear k6
     obtain ⟨tx, j1, b1, HC, HTD1, hj1⟩ : ∃ (tx : ByteArray) (j1 : Nat) (b1 : Bool), Hid (Calls Tryz.prog 42 #[.pointer (some ⟨B, 0, none⟩), .int .i64 2] wc (fun e w' => e = .returned (.string tx) /\ Prs 51 B tb to_ cap ao ts w' (j1) b1 /\ Touch wc w' [B])) /\ Hid (Todo bj (fun n => pSig ts n j) b1 (fun n => if tkB ts j1 1 = true then pKSig ts n tx [tkT ts j1] (j1 + 1) else none)) /\ (j <= j1 /\ tx.size <= 100000 * (j1 - j)) := by
      cases hb : tkB ts j 2
      · exact ⟨⟨#[]⟩, j, true, LH (take_no wc HP5.out 2 (by decide) hb), LH ((Todo.refl bj (fun n => pSig ts n j)).badly0 (fun n => by rw [pSig, if_neg (by rw [NB1.out]; decide), if_neg (by rw [NB6.out]; decide), if_neg (by rw [hb]; decide)])), Nat.le_refl _, Nat.zero_le _⟩
      · refine ⟨tkT ts j, j + 1, bj, LH (take_yes wc HP5.out 2 (by decide) hb), LH (((Todo.refl bj (fun n => pSig ts n j)).eq0 (H := fun n => pKSig ts n ⟨#[]⟩ [] j) (fun n => by rw [pSig, if_neg (by rw [NB1.out]; decide), if_neg (by rw [NB6.out]; decide), if_pos hb])).step (fun n => by rw [pKSig, if_pos hb, nil_app]; rfl)), by omega, ?_⟩
        have := HP5.out.txt j
        omega
     go_wp2_with fail
     refine HC.out.mono ?_
     rintro e w6 ⟨rfl, K6, T6⟩
     have OM6 := OM5.touch' T6 (by simp; omega)
     have OR6 := OR5.touch' T6 (by simp; omega)
     have hs6 := T6.size
     have m0 := OM6.k0
     have mf0 := OM6.f0
     have m1 := OM6.k1
     have mf1 := OM6.f1
     have m2 := OM6.k2
     have mf2 := OM6.f2
     have m3 := OM6.k3
     have mf3 := OM6.f3
     have m4 := OM6.k4
     have mf4 := OM6.f4
     have mz := OM6.lt
     go_upto_region 7 with fail
     generalize hS : World.setCell w6 _ _ = w7
     have T7 : Touch w6 w7 [w.heap.size + 1] := by rw [<- hS]; exact (Touch.of_ext (XR _) _).setCell (by simp) _
     have OM7 : Own w7 (w.heap.size + 1) 26 #[.string tx, .bool c1, .slice none 0 0, .slice none 0 0, .slice none 0 0] := by rw [<- hS]; exact OM6.set 0 _
     have OR7 := OR6.touch' T7 (by simp)
     have P7 := HP.out.late K6 T7 (fun k hk => by simp at hk; omega)
     have T07 := (HT5.out.trans T6).late2 T7 (fun k hk => by simp at hk; omega)
     have hs7 := T7.size
     clear hS T7 K6 T6 OM6 OR6 OM5 OR5 HT5 HP5 m0 mf0 m1 mf1 m2 mf2 m3 mf3 m4 mf4 mz
     clear HC
     obtain ⟨ty, j2, b2, HC, HTD2, hj2⟩ : ∃ (ty : ByteArray) (j2 : Nat) (b2 : Bool), Hid (Calls Tryz.prog 42 #[.pointer (some ⟨B, 0, none⟩), .int .i64 1] w7 (fun e w' => e = .returned (.string ty) /\ Prs 51 B tb to_ cap ao ts w' (j2) b2 /\ Touch w7 w' [B])) /\ Hid (Todo bj (fun n => pSig ts n j) b2 (fun n => pKSig ts n tx [ty] j2)) /\ j1 <= j2 := by
      cases hb : tkB ts j1 1
      · exact ⟨⟨#[]⟩, j1, true, LH (take_no w7 P7 1 (by decide) hb), LH (HTD1.out.badly0 (fun n => by rw [if_neg (by rw [hb]; decide)])), Nat.le_refl _⟩
      · exact ⟨tkT ts j1, j1 + 1, b1, LH (take_yes w7 P7 1 (by decide) hb), LH (HTD1.out.eq0 (fun n => by rw [if_pos hb])), by omega⟩
     clear HTD1
     go_wp2_with fail
     refine HC.out.mono ?_
     rintro e w8 ⟨rfl, K8, T8⟩
     have OM8 := OM7.touch' T8 (by simp; omega)
     have OR8 := OR7.touch' T8 (by simp; omega)
     have hs8 := T8.size
     have m0 := OM8.k0
     have mf0 := OM8.f0
     have m1 := OM8.k1
     have mf1 := OM8.f1
     have m2 := OM8.k2
     have mf2 := OM8.f2
     have m3 := OM8.k3
     have mf3 := OM8.f3
     have m4 := OM8.k4
     have mf4 := OM8.f4
     have mz := OM8.lt
     go_upto_block 1 with fail
     generalize hS : World.alloc (World.setCell w8 _ _) _ = w9
     have hz8 : (w8.setCell ⟨w.heap.size + 1, 2, none⟩ (.slice (some ⟨w8.heap.size, 0, none⟩) 1 1)).heap.size = w8.heap.size := by simp [World.setCell]
     have T9 : Touch w8 w9 [w.heap.size + 1] := by rw [<- hS]; exact ((Touch.of_ext (XR _) _).setCell (by simp) _).trans (Touch.of_ext ((XR _).alloc _) _)
     have OM9 : Own w9 (w.heap.size + 1) 26 #[.string tx, .bool c1, .slice (some ⟨w8.heap.size, 0, none⟩) 1 1, .slice none 0 0, .slice none 0 0] := by rw [<- hS]; exact (OM8.set 2 _).ext ((XR _).alloc _)
     have ON9 : Own w9 w8.heap.size 9 #[.string ty] := by rw [<- hS]; have h := own_new (w8.setCell ⟨w.heap.size + 1, 2, none⟩ (.slice (some ⟨w8.heap.size, 0, none⟩) 1 1)) #[.string ty] 9; rw [hz8] at h; exact h
     have OR9 := OR8.touch' T9 (by simp)
     have A9 : AccT (w.heap.size + 2) w9 (.slice (some ⟨w8.heap.size, 0, none⟩) 1 1) [ty] := AccT.one ON9 (by omega)
     have P9 := HP.out.late K8 T9 (fun k hk => by simp at hk; omega)
     have T09 := (T07.trans T8).late2 T9 (fun k hk => by simp at hk; omega)
     clear hS hz8 T9 K8 T8 OM8 OR8 OM7 OR7 T07 P7 ON9 HC m0 mf0 m1 mf1 m2 mf2 m3 mf3 m4 mf4 mz
     have HA9 := LH A9
     have HP9 := LH P9
     have HT9 := LH T09
     obtain ⟨hj1a, hj1b⟩ := hj1
     clear A9 P9 T09
     go_wp2_with fail
     go_loopw [] (fun wr => ∃ (s : ByteArray) (ps : List ByteArray) (vp : Value) (j2 : Nat) (b2 : Bool), Own wr (w.heap.size + 1) 26 #[.string s, .bool c1, vp, .slice none 0 0, .slice none 0 0] /\ AccT (w.heap.size + 2) wr vp ps /\ Prs 51 B tb to_ cap ao ts wr (j2) b2 /\ Hid (Todo bj (fun n => pSig ts n j) b2 (fun n => pKSig ts n s ps j2)) /\ j <= j2 /\ (ps.length + j <= j2 + 1 /\ s.size <= 100000 * (j2 - j)) /\ Own wr w.heap.size 26 #[.string ⟨#[]⟩, .bool false, .slice none 0 0, .slice none 0 0, .slice none 0 0] /\ Touch w wr [B]) (fun wr => ts.length + 1 - placeOf B wr)
     case atStart => exact ⟨tx, [ty], _, j2, b2, OM9, HA9.out, HP9.out, HTD2, by omega, ⟨by simp; omega, by omega⟩, OR9, HT9.out⟩
     case round =>
      clear OM9 HA9 HP9 HTD2 OR9 HT9
      obtain ⟨s, ps, vp, j3, b3, hM, hA, hp, HTD3, hj3, ⟨hpl, hsz⟩, hR, hT⟩ := hrel
      have HAr := LH hA
      have HPr := LH hp
      have HPM := LH hp
      have HTr := LH hT
      obtain ⟨d0, d1, d2⟩ := hp.cells
      have zB := lt_of_cell d0
      have hjl3 := hp.le
      have hws := hT.size
      clear hA hp hT
      cases b3
      rotate_left
      · have HG : Hid (Got bj (fun n => pSig ts n j) true (s, ps, j3)) := LH (HTD3.out.dead _)
        clear HTD3
        go_wp2_with fail
        go_meet
        exact ⟨s, ps, vp, j3, true, hM, HAr.out, HPr.out, HG.out, hj3, hpl, hR, HTr.out⟩
      have hpk := peek_any _ HPr.out
      have hff := fld0 (tkK ts j3) (tkN ts j3) (tkT ts j3)
      have htz := HPr.out.txt j3
      cases hb : tkB ts j3 2
      · have s1 : (tkK ts j3 == 2) = false := by rw [<- tkB_eq (by decide)]; exact hb
        have HG : Hid (Got bj (fun n => pSig ts n j) false (s, ps, j3)) := LH (HTD3.out.done (fun n => by rw [pKSig, if_neg (by rw [hb]; decide)]))
        clear HTD3 hb
        generalize tkK ts j3 = kd3 at *
        generalize tkT ts j3 = tx3 at *
        generalize tkN ts j3 = nm3 at *
        go_wp2_with fail
        refine hpk.mono ?_
        rintro e w1 ⟨rfl, hx⟩
        go_wp2_with fail
        go_meet
        exact ⟨s, ps, vp, j3, false, hM.ext hx, AccT.ext HAr.out hx, HPr.out.ext hx, HG.out, hj3, hpl, hR.ext hx, HTr.out.trans (Touch.of_ext hx _)⟩
      have s1 : (tkK ts j3 == 2) = true := by rw [<- tkB_eq (by decide)]; exact hb
      have hjt := kind_lt (by decide) hb
      have HTK := LH (fun (W : World) (hp : Prs 51 B tb to_ cap ao ts W (j3) false) => take_yes W hp 2 (by decide) hb)
      have HTD4 : Hid (Todo bj (fun n => pSig ts n j) false (fun n => if tkB ts (j3 + 1) 1 = true then pKSig ts n (s ++ tkT ts j3) (ps ++ [tkT ts (j3 + 1)]) (j3 + 2) else none)) := LH (HTD3.out.step (fun n => by rw [pKSig, if_pos hb]))
      clear HTD3 hb
      obtain ⟨tx3, htx3⟩ : ∃ x, tkT ts j3 = x := ⟨_, rfl⟩
      rw [htx3] at HTK HTD4 htz hpk hff
      clear htx3
      generalize tkK ts j3 = kd3 at *
      generalize tkN ts j3 = nm3 at *
      go_wp2_with fail
      refine hpk.mono ?_
      rintro e w1 ⟨rfl, hx⟩
      have hM1 := hM.ext hx
      have hR1 := hR.ext hx
      have HA1 := LH (AccT.ext HAr.out hx)
      have HP1 := LH (HPr.out.ext hx)
      have HT1 := LH (HTr.out.trans (Touch.of_ext hx [B]))
      have hs1 := hx.size
      clear hM hR HAr HPr HTr hx d0 d1 d2 zB hpk
      go_upto_region 9 with fail
      have m0 := hM1.k0
      have mz := hM1.lt
      have hst : s.size <= 80200000 := by omega
      have hnc : ¬ 9223372036854775807 < s.size + tx3.size := by omega
      have hnc2 : s.size + tx3.size <= 9223372036854775807 := by omega
      have HMQ : Hid (∀ W w2, Ext w1 W -> Touch W w2 [B] -> Own w2 (w.heap.size + 1) 26 #[.string s, .bool c1, vp, .slice none 0 0, .slice none 0 0]) := LH fun W w2 hW hT => (hM1.ext hW).touch' hT (by simp; omega)
      have HRQ : Hid (∀ W w2, Ext w1 W -> Touch W w2 [B] -> Own w2 w.heap.size 26 #[.string ⟨#[]⟩, .bool false, .slice none 0 0, .slice none 0 0, .slice none 0 0]) := LH fun W w2 hW hT => (hR1.ext hW).touch' hT (by simp; omega)
      have HAQ : Hid (∀ W w2, Ext w1 W -> Touch W w2 [B] -> AccT (w.heap.size + 2) w2 vp ps) := LH fun W w2 hW hT => AccT.low (AccT.ext HA1.out hW) hT (fun k hk => by simp at hk; omega)
      have HTQ : Hid (∀ W w2, Ext w1 W -> Touch W w2 [B] -> Touch w w2 [B] /\ w1.heap.size <= w2.heap.size) := LH fun W w2 hW hT => ⟨(HT1.out.trans (Touch.of_ext hW [B])).trans hT, Nat.le_trans hW.size hT.size⟩
      go_region_law ((go_simp; go_wp2_with ((refine (HTK.out _ (HP1.out.ext (by first | exact Ext.drew (XR _) | exact XR _))).mono ?_; rintro e w2 ⟨rfl, K2, T2⟩; have OM2 := HMQ.out _ _ (by first | exact Ext.drew (XR _) | exact XR _) T2; have OR2 := HRQ.out _ _ (by first | exact Ext.drew (XR _) | exact XR _) T2; have A2 := HAQ.out _ _ (by first | exact Ext.drew (XR _) | exact XR _) T2; have T02 := HTQ.out _ _ (by first | exact Ext.drew (XR _) | exact XR _) T2; have n0 : w2.cell? ⟨w.heap.size + 1, 0, none⟩ = some (.string s) := OM2.cell 0; have nf0 := OM2.f0; have nz := OM2.lt))))
      all_goals
       obtain ⟨T02, hsz2⟩ := T02
       have hcat : (s ++ tx3).size = s.size + tx3.size := ByteArray.size_append
       obtain ⟨s2, hs2⟩ : ∃ x, s ++ tx3 = x := ⟨_, rfl⟩
       rw [hs2] at hcat HTD4 ⊢
       clear hs2
       generalize hS : World.setCell w2 _ _ = w3
       have T3 : Touch w2 w3 [w.heap.size + 1] := by rw [<- hS]; exact (Touch.of_ext (XR _) _).setCell (by simp) _
       have OM3 : Own w3 (w.heap.size + 1) 26 #[.string s2, .bool c1, vp, .slice none 0 0, .slice none 0 0] := by rw [<- hS]; exact OM2.set 0 _
       have OR3 := OR2.touch' T3 (by simp)
       have HA3 := LH (AccT.low A2 T3 (fun k hk => by simp at hk; omega))
       have HP3 := LH (HP.out.late K2 T3 (fun k hk => by simp at hk; omega))
       have HT3 := LH (T02.late2 T3 (fun k hk => by simp at hk; omega))
       have hs3 := T3.size
       clear hS T3 OM2 OR2 A2 K2 T2 T02 HMQ HRQ HAQ HTQ m0 n0 nf0 nz mz hM1 hR1 HA1 HP1 HT1 HTK
       obtain ⟨ty3, j4, b4, HC, HTD5, hj4⟩ : ∃ (ty3 : ByteArray) (j4 : Nat) (b4 : Bool), Hid (∀ W, Ext w3 W -> Calls Tryz.prog 42 #[.pointer (some ⟨B, 0, none⟩), .int .i64 1] W (fun e w' => e = .returned (.string ty3) /\ Prs 51 B tb to_ cap ao ts w' (j4) b4 /\ Touch W w' [B])) /\ Hid (Todo bj (fun n => pSig ts n j) b4 (fun n => pKSig ts n s2 (ps ++ [ty3]) j4)) /\ j3 + 1 <= j4 := by
        cases hb : tkB ts (j3 + 1) 1
        · exact ⟨⟨#[]⟩, j3 + 1, true, LH (fun W hW => take_no W (HP3.out.ext hW) 1 (by decide) hb), LH (HTD4.out.badly0 (fun n => by rw [if_neg (by rw [hb]; decide)])), Nat.le_refl _⟩
        · exact ⟨tkT ts (j3 + 1), j3 + 2, false, LH (fun W hW => take_yes W (HP3.out.ext hW) 1 (by decide) hb), LH (HTD4.out.eq0 (fun n => by rw [if_pos hb])), by omega⟩
       clear HTD4
       go_upto_region 10 with fail
       have b3 := OM3.k2
       have bz := OM3.lt
       have HOX := LH (fun (W : World) (w4 : World) (hW : Ext w3 W) (T : Touch W w4 [B]) => (OM3.ext hW).touch' T (by simp; omega))
       have HAX := LH (fun (W : World) (w4 : World) (hW : Ext w3 W) (T : Touch W w4 [B]) => AccT.low (AccT.ext HA3.out hW) T (fun k hk => by simp at hk; omega))
       have HSZ := LH (fun (W : World) (w4 : World) (hW : Ext w3 W) (T : Touch W w4 [B]) => Nat.le_trans hW.size T.size)
       have HGE : Hid (∀ k, k ∈ vp.ownBlock.toList -> w.heap.size + 2 <= k) := LH (fun k hk => (Acc.ge HA3.out (k := k) (by simpa using hk)).1)
       go_region_law ((first
        | (refine step_append_strs_at rfl _ _ rfl (w.heap.size + 2) vp ps rfl (AccT.ext (HAX.out _ w4 (Ext.drew (XR _)) T4) ((XR _).alloc _)) [ty3] _ _ _ rfl (rep_one _ _) (by simp; omega) (by have := HSZ.out _ w4 (Ext.drew (XR _)) T4; simp; omega) ?_; intro ao2 cap2 w7 ac hg hloc; have TG : Touch _ w7 vp.ownBlock.toList := (Touch.of_ext (XR _) _).grown hg (fun k hk => Or.inl (by simp [hk])); have O7 := ((HOX.out _ w4 (Ext.drew (XR _)) T4).ext ((XR _).alloc _)).touch' TG (fun hm => by have := HGE.out _ hm; omega); have c7 := O7.cell 2; have f7 := O7.f2; have z7 := O7.lt)
        | (go_simp; go_wp2_with ((refine (HC.out _ (by first | exact Ext.drew (XR _) | exact XR _)).mono ?_; rintro e w4 ⟨rfl, K4, T4⟩; have b42 : w4.cell? ⟨w.heap.size + 1, 2, none⟩ = some vp := (HOX.out _ w4 (Ext.drew (XR _)) T4).cell 2; have bz2 := (HOX.out _ w4 (Ext.drew (XR _)) T4).lt)))))
       all_goals
        have hsz4 := HSZ.out _ w4 (Ext.drew (XR _)) T4
        have Ta : Touch w4 w7 vp.ownBlock.toList := (Touch.of_ext ((XR _).alloc _) _).trans TG
        generalize hv1 : Value.slice ao2 (ps.length + [ty3].length) cap2 = v1 at *
        generalize hS : World.setCell w7 _ v1 = w9
        have Tb : Touch w7 w9 [w.heap.size + 1] := by rw [<- hS]; exact (Touch.of_ext (XR _) _).setCell (by simp) _
        have O9 : Own w9 (w.heap.size + 1) 26 #[.string s2, .bool c1, v1, .slice none 0 0, .slice none 0 0] := by rw [<- hS]; exact O7.set 2 v1
        have A9 : AccT (w.heap.size + 2) w9 v1 (ps ++ [ty3]) := AccT.low ac Tb (fun k hk => by simp at hk; omega)
        have T7 : Touch w4 w9 ((w.heap.size + 1) :: vp.ownBlock.toList) := (Ta.mono (fun k hk => List.mem_cons_of_mem _ hk)).trans (Tb.mono (fun k hk => by simp at hk; simp [hk]))
        have hF7 : ∀ k, k ∈ (w.heap.size + 1) :: vp.ownBlock.toList -> w.heap.size < k := fun k hk => by
         rcases List.mem_cons.1 hk with rfl | hk
         · omega
         · have := HGE.out k hk; omega
        have P9 := HP.out.late K4 T7 (fun k hk => by have := hF7 k hk; omega)
        have OR9 := ((OR3.ext (Ext.drew (XR _))).touch' T4 (by simp; omega)).touch' T7 (fun hm => by have := hF7 _ hm; omega)
        have T9 : Touch w w9 [B] := ((HT3.out.trans (Touch.of_ext (Ext.drew (XR _)) [B])).trans T4).late2 T7 (fun k hk => by have := hF7 k hk; omega)
        have HP9 := LH P9
        have HOR9 := LH OR9
        have HA9 := LH A9
        have HT9 := LH T9
        have HO9 := LH O9
        have hjl9 := P9.le
        clear hS Ta Tb O9 A9 T7 hF7 P9 OR9 T9 ac hg hloc TG O7 c7 f7 z7 K4 T4 b42 bz2 b3 bz HC HAX HOX HSZ HGE OM3 OR3 HA3 HT3 HP3
        go_wp2_with fail
        refine ⟨⟨s2, ps ++ [ty3], v1, j4, b4, HO9.out, HA9.out, HP9.out, HTD5, by omega, ⟨by simp; omega, by omega⟩, HOR9.out, HT9.out⟩, ?_⟩
        rw [placeOf_eq HPM.out, placeOf_eq HP9.out]; omega
    case rest =>
     obtain ⟨s, ps, vp, j2, b2, OM6, A6, hp6, hg6, hj2, hpl, OR6, hT6⟩ := hcut
     obtain ⟨va, vc, gp, rfl, rp, fp_⟩ := AccT.rep A6
     have HRP := LH rp
     have HFP := LH fp_
     have HG6 := LH hg6
     have HT6 := LH hT6
     have hs6 := hT6.size
     have HBO := LH (body_any _ hp6 OM6 (by omega) (fun h0 => by have := htl h0; omega))
     have hmz := OM6.lt
     clear OM6 A6 hp6 hg6 hT6 rp fp_ OM5 HP5 HT5 OR5
     go_wp2_with fail
     refine HBO.out.mono ?_
     rintro e w8 ⟨lt, lb, vt, vb, a', b', rfl, OM8, A8, B8, K8, G8, h1, h2, T8⟩
     obtain ⟨vt1, vt2, gt, rfl, rt, ft⟩ := AccT.rep A8
     obtain ⟨vb1, vb2, gb, rfl, rb, fb⟩ := AccX.rep B8
     have OR8 := OR6.touch' T8 (by simp; omega)
     have HRP8 := LH (HRP.out.touch T8 (fun k hk hm => by have := HFP.out.ge k hk; simp at hm; omega))
     have HRT8 := LH rt
     have HRB8 := LH rb
     have HFT := LH ft
     have HFB := LH fb
     have HP8 := LH K8
     have HT8 := LH (HT6.out.trans' T8 (fun k hk => by simp at hk; simp; omega))
     have HGG := LH (((((HTD.out.eq0 (H := fun n => (pSig ts n j).bind fun g => (pVS ts n g.2.2).bind fun v => some (⟨g.1, c1, g.2.1, v.1, v.2.1⟩, v.2.2)) (fun n => by rw [pMRest])).call0 HG6.out (g := fun n g => (pVS ts n g.2.2).bind fun v => some (⟨g.1, c1, g.2.1, v.1, v.2.1⟩, v.2.2)) (fun n => rfl)).call0 G8 (g := fun n v => some ((⟨s, c1, ps, v.1, v.2.1⟩ : MMethod), v.2.2)) (fun n => rfl)).done0 (y := ((⟨s, c1, ps, lt, lb⟩ : MMethod), a')) (fun n => rfl)))
     have hs8 := T8.size
     clear rt rb ft fb A8 B8 K8 G8 T8 HRP HT6 HG6 OR6 HBO HTD
     have m0 := OM8.k0
     have mf0 := OM8.f0
     have m1 := OM8.k1
     have mf1 := OM8.f1
     have m2 := OM8.k2
     have mf2 := OM8.f2
     have m3 := OM8.k3
     have mf3 := OM8.f3
     have m4 := OM8.k4
     have mf4 := OM8.f4
     have mz := OM8.lt
     have r0 := OR8.k0
     have rf0 := OR8.f0
     have r1 := OR8.k1
     have rf1 := OR8.f1
     have r2 := OR8.k2
     have rf2 := OR8.f2
     have r3 := OR8.k3
     have rf3 := OR8.f3
     have r4 := OR8.k4
     have rf4 := OR8.f4
     have rz := OR8.lt
     go_wp2_with fail
     generalize hS : World.setCell (World.setCell (World.setCell (World.setCell (World.setCell w8 _ _) _ _) _ _) _ _) _ _ = W9
     obtain ⟨O9, T9⟩ := own5m OR8 (.string s) (.bool c1) (.slice va ps.length vc) (.slice vt1 lt.length vt2) (.slice vb1 lb.length vb2)
     rw [hS] at O9 T9
     clear hS
     have p0 := O9.k0
     have p1 := O9.k1
     have p2 := O9.k2
     have p3 := O9.k3
     have p4 := O9.k4
     have pz := O9.lt
     have RN := HRP8.out.touch T9 (fun k hk hm => by have := HFP.out.ge k hk; simp at hm; omega)
     have RT := HRT8.out.touch T9 (fun k hk hm => by have := HFT.out.ge k hk; simp at hm; omega)
     have RB := HRB8.out.touch T9 (fun k hk hm => by have := HFB.out k hk; simp at hm; omega)
     have R9 := MMethod.shut (x := ⟨s, c1, ps, lt, lb⟩) RN RT RB
     rw [List.append_nil] at R9
     have FIN : MGot B tb to_ cap ao ts w a b (.returned (.agg #[.string s, .bool c1, .slice va ps.length vc, .slice vt1 lt.length vt2, .slice vb1 lb.length vb2])) W9 := ⟨⟨s, c1, ps, lt, lb⟩, _, gp ++ (gt ++ gb), a', b', rfl, R9, fun k hk => by
      rcases List.mem_append.1 hk with hk | hk
      · have := HFP.out.ge k hk; omega
      · rcases List.mem_append.1 hk with hk | hk
        · have := HFT.out.ge k hk; omega
        · have := HFB.out k hk; omega, HP.out.late HP8.out T9 (fun k hk => by simp at hk; omega), HGG.out, by omega, HT8.out.late2 T9 (fun k hk => by simp at hk; omega)⟩
     exact bodyPost_ret (v := .agg #[.string s, .bool c1, .slice va ps.length vc, .slice vt1 lt.length vt2, .slice vb1 lb.length vb2]) (by simp [results, Tryz.results44, go_sem, p0, p1, p2, p3, p4, pz]) rfl FIN
end Go.Proofs.YtlcebafhbceejaaGreatDoor
