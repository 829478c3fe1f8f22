/-
  SEVERAL TEXTS IN ONE: CONTRACTS: IsSystem: plain; CONTRACTS: the compilers between routines.
  Conditions: those that each lemma states.
-/
import Derived.Test.YtlaclfeljimffaaGreatDoorRows
import Derived.Test.YtlaclfeljimffaaGreatDoorP15
import Derived.Test.YtlaclfeljimffaaGreatDoorP18
import Derived.Test.YtlaclfeljimffaaGreatDoorP17
import Derived.Test.YtlaclfeljimffaaGreatDoorP16
namespace Go.Proofs.YtlaclfeljimffaaGreatDoor
open Go.RowKit
set_option maxHeartbeats 8000000
set_option maxRecDepth 100000
set_option linter.unusedSimpArgs false
set_option linter.unusedVariables false
def RoutAt (K : Int) (R : List MRoutine) (i : Nat) (r : MRoutine) : Prop :=
 argsB r.selector = r.params /\ (16 <= r.owner /\ r.owner <= K - 1) /\ routP K r /\ ∀ k e, k < i -> R[k]? = some e -> ¬ (e.selector = r.selector /\ e.owner = r.owner /\ e.cls = r.cls)
def mainT : ByteArray := ⟨#[109, 97, 105, 110]⟩
def SysP (x : MSystem) : Prop :=
 clsB x.classes = true /\ (x.main.selector = mainT /\ x.main.owner = -1 /\ x.main.cls = false /\ x.main.params = 0) /\ routP x.classes.length x.main /\ x.routines.length <= 96 /\ ∀ i r, x.routines[i]? = some r -> RoutAt x.classes.length x.routines i r
def SysSz (x : MSystem) : Prop := (∀ c, c ∈ x.classes -> c.name.size <= 1048576 /\ ∀ s, s ∈ c.fields -> s.size <= 1048576) /\ (x.main.selector.size <= 1048576 /\ x.main.body.d.bulk <= 1048576) /\ (∀ r, r ∈ x.routines -> r.selector.size <= 1048576 /\ r.body.d.bulk <= 1048576) /\ x.routines.length <= 1048576
theorem bulk_routine {x : MRoutine} {n : Nat} (h : x.d.bulk <= n) : x.selector.size <= n /\ x.body.d.bulk <= n := by
 rw [MRoutine.d_eq] at h
 simp only [D.bulk, D.bulkL] at h
 omega
theorem bulk_system {x : MSystem} (h : x.d.bulk <= 1048576) : SysSz x := by
 rw [MSystem.d_eq] at h
 simp only [D.bulk, D.bulkL, MClassInfos, MRoutines, List.length_map] at h
 refine ⟨fun c hc => ?_, bulk_routine (by omega), fun r hr => ?_, by omega⟩
 · have h1 := D.bulkL_mem (List.mem_map_of_mem (f := MClassInfo.d) hc)
   have h2 : c.d.bulk <= 1048576 := by omega
   rw [MClassInfo.d_eq] at h2
   simp only [D.bulk, D.bulkL, strs, List.length_map] at h2
   refine ⟨by omega, fun s hs => ?_⟩
   have h3 := D.bulkL_mem (List.mem_map_of_mem (f := D.str) hs)
   simp only [D.bulk] at h3
   omega
 · have h1 := D.bulkL_mem (List.mem_map_of_mem (f := MRoutine.d) hr)
   exact bulk_routine (by omega)
def RoutI : Prop := ∀ (r : MRoutine) (cr : List Value) (K : Int) (w : World), Rep w r.d cr -> r.body.d.bulk <= 1048576 -> 0 <= K -> K <= 1000 -> MaxOk w -> Calls Tryz.prog 50 #[.agg cr.toArray, .int .i64 K] w fun e w' => e = .returned (.bool (prB (routP K r))) /\ Ext w w'
def RoutS : Prop := ∀ (r : MRoutine) (cr : List Value) (K : Int) (w : World), Rep w r.d cr -> r.body.d.bulk <= 1048576 -> 0 <= K -> K <= 1000 -> Calls Tryz.prog 41 #[.agg cr.toArray, .int .i64 K] w fun e w' => e = .returned (.bool (prB (routP K r))) /\ Ext w w'
theorem inR_ff {a b n : Int} (h : inR a b n = false) : ¬ (a <= n /\ n <= b) := fun g => by rw [inR_iff.2 g] at h; cases h
theorem entInfo : (Tryz.prog.info? 95).map (fun i => (i.zero, i.size, i.bytes)) = some (some (.agg #[.int .i64 0, .bool false, .string ByteArray.empty, .int .i64 0]), 4, 40) := by kernel_rfl
theorem Acc.rep2 {B0 : Nat} {w : World} {e : TypeId} {size : Nat} {v : Value} {ds : List D} {fp : List Nat} (h : Acc B0 w e size v ds fp) :
 ∃ ao cap gp, v = .slice ao ds.length cap /\ RepF w (.sl size ds) [.slice ao ds.length cap] gp /\ Fresh w B0 gp /\ ∀ k, k ∈ gp -> v.ownBlock = some k ∨ k ∈ fp := by
 obtain ⟨xs, ⟨h1, h2⟩, h3, h4, h5⟩ := h
 rcases h2 with ⟨rfl, hn⟩ | ⟨g, cap, cur, rfl, hg, hh, hnc, hcm, hcs, htk⟩
 · have : ds = [] := List.length_eq_zero_iff.1 hn
   subst this
   exact ⟨none, 0, [], rfl, RepF.sl_iff.2 ⟨_, _, rfl, by simp, by simp, by simp, Or.inl ⟨rfl, rfl⟩⟩, Fresh.nil _ _, fun k hk => nomatch hk⟩
 · by_cases hd : ds = []
   · subst hd
     exact ⟨_, cap, [], rfl, RepF.sl_iff.2 ⟨_, _, rfl, by simp, hcm, by simp, Or.inl ⟨rfl, rfl⟩⟩, Fresh.nil _ _, fun k hk => nomatch hk⟩
   · have hO : Own w g e cur := hh
     refine ⟨_, cap, g :: fp, rfl, RepF.sl_iff.2 ⟨_, _, rfl, hnc, hcm, by simp, Or.inr ⟨g, 0, xs, fp, hd, rfl, rfl, hO.lt, fun j c hj => ?_, h3⟩⟩, ⟨List.nodup_cons.2 ⟨h5 g rfl, h4.nodup⟩, fun b hb => ?_, fun b hb => ?_⟩, fun k hk => ?_⟩
     · rw [Nat.zero_add, hO.cell]
       rw [<- htk, List.getElem?_take] at hj
       split at hj
       · simpa using hj
       · cases hj
     · rcases List.mem_cons.1 hb with rfl | hb
       · exact hg
       · exact h4.ge b hb
     · rcases List.mem_cons.1 hb with rfl | hb
       · exact ⟨_, _, hO⟩
       · exact h4.own b hb
     · rcases List.mem_cons.1 hk with rfl | hk
       · exact Or.inl rfl
       · exact Or.inr hk
theorem ent_row {w : World} {b : Nat} {x : MEntry} (hO : Own w b 95 #[.int .i64 x.owner, .bool x.cls, .string x.selector, .int .i64 x.code]) : RepF w (.sl 4 [x.d]) [.slice (some ⟨b, 0, none⟩) 1 1] [b] := by
 have h1 := MEntry.shut (w := w) (x := x)
 exact RepF.sl_iff.2 ⟨_, 1, by simp, by simp, by unfold maxLen; omega, by simp, Or.inr ⟨b, 0, _, [], by simp, rfl, rfl, hO.lt, fun j c hj => by
  rw [Nat.zero_add, hO.cell]
  simpa using hj, RepR.one h1 rfl⟩⟩
open Classical in
noncomputable def compV (x : MSystem) : MCodeBase := if SysP x /\ BaseOk (baseF (cmp 40) x) then baseF (cmp 40) x else zBase
theorem compV_yes {x : MSystem} (h : SysP x) (g : BaseOk (baseF (cmp 40) x)) : compV x = baseF (cmp 40) x := if_pos ⟨h, g⟩
theorem compV_no {x : MSystem} (h : ¬ (SysP x /\ BaseOk (baseF (cmp 40) x))) : compV x = zBase := if_neg h
theorem RowsC.boxes {B0 : Nat} {L L' : List Nat} {m : Rw} {w : World} {s : CS} (h : RowsC B0 L m w s) (g : ∀ k, k ∈ L' -> k ∈ L ∨ (k ∉ m.own /\ k ∉ m.fp /\ B0 <= k /\ k < w.heap.size)) : RowsC B0 L' m w s :=
 ⟨h.li, h.lc, h.sep, fun k hk => (g k hk).elim (h.box k) fun e => ⟨e.1, e.2.1⟩, fun k hk => (g k hk).elim (h.base k) fun e => e.2.2⟩
structure CompS (t : Nat) (Q : List Value -> Prop) (B0 cb bb : Nat) (gC : List Nat) (vC ve : Value) (m : Rw) (w0 w : World) (cls : List MClassInfo) (s : CE) : Prop where
 st : ∃ r : List Value, Q r /\ Own w cb t (m.vc :: r).toArray
 bx : Own w bb 36 #[vC, .slice none 0 0, ve, .int .i64 0]
 rows : RowsC B0 (cb :: bb :: (gC ++ ve.ownBlock.toList)) m w (s.1, [])
 nd : (cb :: bb :: (gC ++ ve.ownBlock.toList)).Nodup
 vl : m.vl = .slice none 0 0
 es : Acc B0 w 95 4 ve (s.2.map MEntry.d) []
 cl : RepF w (MClassInfos cls) [vC] gC
 fr : Fresh w B0 gC
 ext : Ext w0 w
 base : w0.heap.size <= B0
theorem CompS.touch {t B0 cb bb : Nat} {Q : List Value -> Prop} {gC : List Nat} {vC ve : Value} {m m' : Rw} {w0 w w' : World} {cls : List MClassInfo} {s : CE} {cs : List MCode} (h : CompS t Q B0 cb bb gC vC ve m w0 w cls s) (h1 : ∃ r : List Value, Q r /\ Own w' cb t (m'.vc :: r).toArray) (h2 : m'.vl = m.vl) (h3 : RowsC B0 (cb :: bb :: (gC ++ ve.ownBlock.toList)) m' w' (cs, [])) (T : Touch w w' (cb :: m.vc.ownBlock.toList)) : CompS t Q B0 cb bb gC vC ve m' w0 w' cls (cs, s.2) := by
 have hn : ∀ k, k ∈ bb :: (gC ++ ve.ownBlock.toList) -> k ∉ cb :: m.vc.ownBlock.toList := fun k hk hm => by
  rcases List.mem_cons.1 hm with rfl | hm
  · exact (List.nodup_cons.1 h.nd).1 hk
  · exact (h.rows.box k (List.mem_cons_of_mem _ hk)).1 (Rw.mem_own.2 (Or.inr (by simpa using hm)))
 have hC : ∀ k, k ∈ gC -> k ∉ cb :: m.vc.ownBlock.toList := fun k hk => hn k (by simp [hk])
 refine ⟨h1, h.bx.touch' T (hn bb (by simp)), h3, h.nd, h2.trans h.vl, Acc.touch h.es T (fun k hk => hn k (by simp [hk])) (fun k hk => nomatch hk), h.cl.touch T hC, h.fr.touch T hC, Touch.ext h.ext T (fun k hk => ?_), h.base⟩
 have hb := h.base
 rcases List.mem_cons.1 hk with rfl | hk
 · have := (h.rows.base k (by simp)).1; omega
 · have := (Acc.ge h.rows.lc (by simpa using hk)).1; omega
theorem CompS.after {t B0 cb bb : Nat} {Q : List Value -> Prop} {gC : List Nat} {vC ve : Value} {m : Rw} {w0 w w' : World} {cls : List MClassInfo} {s : CE} (h : CompS t Q B0 cb bb gC vC ve m w0 w cls s) (x : Ext w w') : CompS t Q B0 cb bb gC vC ve m w0 w' cls s := by
 obtain ⟨r, hr, hO⟩ := h.st
 exact h.touch ⟨r, hr, hO.ext x⟩ rfl (h.rows.touch (Touch.of_ext x []) (fun k hk => nomatch hk)) (Touch.of_ext x _)
theorem CompS.entry {t B0 cb bb : Nat} {Q : List Value -> Prop} {gC : List Nat} {vC ve v1 : Value} {m : Rw} {w0 w W w7 w9 : World} {cls : List MClassInfo} {s : CE} {e : MEntry} (h : CompS t Q B0 cb bb gC vC ve m w0 w cls s) (x : Ext w W) (TG : Touch W w7 ve.ownBlock.toList) (ac : Acc B0 w7 95 4 v1 ((s.2 ++ [e]).map MEntry.d) []) (hloc : v1.ownBlock = ve.ownBlock ∨ v1.ownBlock = some W.heap.size) (h9 : w9 = w7.setCell ⟨bb, 2, none⟩ v1) : CompS t Q B0 cb bb gC vC v1 m w0 w9 cls (s.1, s.2 ++ [e]) := by
 have hW := h.after x
 obtain ⟨r, hr, hO⟩ := hW.st
 have nd := h.nd
 simp only [List.nodup_cons, List.mem_cons, List.mem_append, not_or] at nd
 obtain ⟨⟨n1, n2, n3⟩, ⟨n4, n5⟩, n6⟩ := nd
 have n7 := List.nodup_append.1 n6
 have T9 : Touch w7 w9 [bb] := by rw [h9]; exact (Touch.of_ext (XR _) _).setCell (by simp) _
 have TT : Touch W w9 (bb :: ve.ownBlock.toList) := (TG.mono (fun k hk => List.mem_cons_of_mem _ hk)).trans (T9.mono (fun k hk => by obtain rfl := List.mem_singleton.1 hk; simp))
 have hs7 := TG.size
 have hs9 := T9.size
 have hbz := hW.bx.lt
 have hv1 : ∀ k, k ∈ v1.ownBlock.toList -> k ∈ ve.ownBlock.toList ∨ k = W.heap.size := fun k hk => by
  rcases hloc with e | e
  · rw [e] at hk; exact Or.inl hk
  · rw [e] at hk; exact Or.inr (by simpa using hk)
 have hcz := (hW.rows.base cb (by simp)).2
 have hgz : ∀ k, k ∈ gC -> k < W.heap.size := fun k hk => hW.fr.lt hk
 have hN : ∀ k, k ∈ cb :: (gC : List Nat) -> k ∉ bb :: ve.ownBlock.toList := fun k hk hm => by
  rcases List.mem_cons.1 hk with rfl | hk
  · rcases List.mem_cons.1 hm with e | hm
    · exact n1 e
    · exact n3 hm
  · rcases List.mem_cons.1 hm with rfl | hm
    · exact n4 hk
    · exact n7.2.2 k hk k hm rfl
 have hv1b : ∀ k, k ∈ v1.ownBlock.toList -> k ≠ bb := fun k hk e => by
  rcases hv1 k hk with g | g
  · rw [e] at g; exact n5 g
  · omega
 refine ⟨⟨r, hr, hO.touch' TT (hN cb (by simp))⟩, ?_, ?_, ?_, h.vl, ?_, hW.cl.touch TT (fun k hk => hN k (by simp [hk])), hW.fr.touch TT (fun k hk => hN k (by simp [hk])), Touch.ext hW.ext TT (fun k hk => ?_), h.base⟩
 · rw [h9]
   exact (hW.bx.touch' TG n5).set 2 v1
 · refine ((hW.rows.touch TT (fun k hk => Or.inl (by rcases List.mem_cons.1 hk with rfl | hk <;> simp_all))).boxes fun k hk => ?_)
   rcases List.mem_cons.1 hk with rfl | hk
   · exact Or.inl (by simp)
   rcases List.mem_cons.1 hk with rfl | hk
   · exact Or.inl (by simp)
   rcases List.mem_append.1 hk with hk | hk
   · exact Or.inl (by simp [hk])
   · rcases hv1 k hk with g | rfl
     · exact Or.inl (by simp only [List.mem_cons, List.mem_append]; exact Or.inr (Or.inr (Or.inr g)))
     · refine Or.inr ⟨fun hm => ?_, fun hm => ?_, ?_, ?_⟩
       · have := (hW.rows.ge (List.mem_append_right _ hm)).2; omega
       · have := hW.rows.fresh.lt hm; omega
       · have := (hW.rows.base cb (by simp)).1; omega
       · have := (Acc.ge ac (by simpa using hk)).2; omega
 · simp only [List.nodup_cons, List.mem_cons, List.mem_append, not_or]
   refine ⟨⟨n1, n2, fun hm => ?_⟩, ⟨n4, fun hm => hv1b _ hm rfl⟩, List.nodup_append.2 ⟨n7.1, by cases v1.ownBlock <;> simp, fun a ha b hb e => ?_⟩⟩
   · rcases hv1 _ hm with g | g
     · exact n3 g
     · omega
   · subst e
     rcases hv1 _ hb with g | g
     · exact n7.2.2 a ha a g rfl
     · have := hgz a ha; omega
 · exact Acc.touch ac T9 (fun k hk hm => hv1b k (by simp [hk]) (List.mem_singleton.1 hm)) (fun k hk => nomatch hk)
 · have hb := h.base
   rcases List.mem_cons.1 hk with rfl | hk
   · have := (hW.rows.base k (by simp)).1; omega
   · have := (Acc.ge hW.es (by simpa using hk)).1; omega
theorem CompS.fin {t B0 cb bb : Nat} {Q : List Value -> Prop} {gC : List Nat} {vC ve : Value} {m : Rw} {w0 w : World} {cls : List MClassInfo} {s : CE} (h : CompS t Q B0 cb bb gC vC ve m w0 w cls s) (k : Int) : ∃ a0 c0 a1 c1 a2 c2 fp, vC = .slice a0 cls.length c0 /\ m.vc = .slice a1 s.1.length c1 /\ ve = .slice a2 s.2.length c2 /\ RepF w (MCodeBase.mk cls s.1 s.2 k).d [.slice a0 cls.length c0, .slice a1 s.1.length c1, .slice a2 s.2.length c2, .int .i64 k] fp /\ Fresh w B0 fp /\ cb ∉ fp /\ bb ∉ fp := by
 have nd := h.nd
 simp only [List.nodup_cons, List.mem_cons, List.mem_append, not_or] at nd
 obtain ⟨⟨n1, n2, n3⟩, ⟨n4, n5⟩, n6⟩ := nd
 have n7 := List.nodup_append.1 n6
 obtain ⟨a1, c1, g1, e1, r1, f1, o1⟩ := Acc.rep2 h.rows.lc
 obtain ⟨a2, c2, g2, e2, r2, f2, o2⟩ := Acc.rep2 h.es
 obtain ⟨a0, c0, _, _, e0, -⟩ := Rep.slmap h.cl.rep
 simp only [List.cons.injEq, and_true, List.length_map] at e0
 rw [List.length_map] at e1 r1 e2 r2
 have hc := h.cl
 rw [e0] at hc
 have hr := MCodeBase.shut (x := MCodeBase.mk cls s.1 s.2 k) hc r1 r2
 rw [List.append_nil] at hr
 have hbx := h.rows.box
 have d1 : ∀ k, k ∈ g1 -> k ∈ cb :: bb :: (gC ++ ve.ownBlock.toList) -> False := fun k hk hm => by
  rcases o1 k hk with e | e
  · exact (hbx k hm).1 (Rw.mem_own.2 (Or.inr e))
  · exact (hbx k hm).2 e
 have d2 : ∀ k, k ∈ g2 -> k ∈ ve.ownBlock.toList := fun k hk => by
  rcases o2 k hk with e | e
  · simp [e]
  · cases e
 refine ⟨a0, c0, a1, c1, a2, c2, _, e0, e1, e2, hr, ⟨?_, fun b hb => ?_, fun b hb => ?_⟩, fun hm => ?_, fun hm => ?_⟩
 · refine List.nodup_append.2 ⟨h.fr.nodup, List.nodup_append.2 ⟨f1.nodup, f2.nodup, fun a ha b hb e => ?_⟩, fun a ha b hb e => ?_⟩
   · subst e; exact d1 a ha (by have := d2 a hb; simp [this])
   · subst e
     rcases List.mem_append.1 hb with hb | hb
     · exact d1 a hb (by simp [ha])
     · exact n7.2.2 a ha a (d2 a hb) rfl
 · rcases List.mem_append.1 hb with hb | hb
   · exact h.fr.ge b hb
   · rcases List.mem_append.1 hb with hb | hb
     · exact f1.ge b hb
     · exact f2.ge b hb
 · rcases List.mem_append.1 hb with hb | hb
   · exact h.fr.own b hb
   · rcases List.mem_append.1 hb with hb | hb
     · exact f1.own b hb
     · exact f2.own b hb
 · rcases List.mem_append.1 hm with hb | hb
   · exact n2 hb
   · rcases List.mem_append.1 hb with hb | hb
     · exact d1 _ hb (by simp)
     · exact n3 (d2 _ hb)
 · rcases List.mem_append.1 hm with hb | hb
   · exact n4 hb
   · rcases List.mem_append.1 hb with hb | hb
     · exact d1 _ hb (by simp)
     · exact n5 (d2 _ hb)
end Go.Proofs.YtlaclfeljimffaaGreatDoor
