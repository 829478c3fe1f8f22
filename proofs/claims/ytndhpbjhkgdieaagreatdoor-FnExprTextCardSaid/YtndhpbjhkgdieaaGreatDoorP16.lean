/-
  PLAIN: the tokens of a right expression are parsed as that expression.
  Conditions: those that each lemma states.
-/
import Derived.Test.YtndhpbjhkgdieaaGreatDoorRows
import Derived.Test.YtndhpbjhkgdieaaGreatDoorP14
import Derived.Test.YtndhpbjhkgdieaaGreatDoorP15
import Derived.Test.YtndhpbjhkgdieaaGreatDoorP10
namespace Go.Proofs.YtndhpbjhkgdieaaGreatDoor
open Go.RowKit
set_option maxHeartbeats 8000000
set_option maxRecDepth 100000
set_option linter.unusedSimpArgs false
set_option linter.unusedVariables false
def tk1 (k : Int) (s : ByteArray) : MToken := ⟨k, s, 0⟩
def zE : MExpr := ⟨0, ⟨#[]⟩, 0, [], []⟩
noncomputable def bindM (s : ByteArray) : Nat := if hasB opsL s = true then 2 else if argsB s = 0 then 3 else 1
noncomputable def bindE (e : MExpr) : Nat := if e.kind = 5 ∨ e.kind = 7 ∨ e.kind = 9 then 0 else if e.kind = 6 then bindM e.text else 4
abbrev TF := MExpr -> List MToken
noncomputable def partE (f : TF) (e : MExpr) (need : Nat) : List MToken := if bindE e < need then tk1 7 lparM :: (f e ++ [tk1 7 rparM]) else f e
def colS (p : ByteArray) : ByteArray := p ++ ⟨#[58]⟩
noncomputable def kwT (f : TF) : List ByteArray -> List MExpr -> List MToken
 | p :: ps, a :: l => tk1 2 (colS p) :: (partE f a 2 ++ kwT f ps l)
 | _, _ => []
def kidE (l : List MExpr) (i : Nat) : MExpr := l.getD i zE
noncomputable def msgT (f : TF) (s : ByteArray) (args : List MExpr) : List MToken :=
 if bindM s = 3 then [tk1 1 s] else if bindM s = 2 then tk1 6 s :: partE f (kidE args 0) 3 else kwT f (cutB 58 (stem s)) args
noncomputable def recvT (f : TF) (e : MExpr) (s : ByteArray) : List MToken := partE f e (if bindM s = 3 then 3 else 2)
noncomputable def sepT (f : TF) : List MExpr -> List MToken
 | [] => []
 | [x] => f x
 | x :: y :: l => f x ++ tk1 7 dotM :: sepT f (y :: l)
noncomputable def msgsT (f : TF) : List MExpr -> List MToken
 | [] => []
 | m :: l => tk1 7 semiM :: (msgT f m.text m.kids ++ msgsT f l)
def parsT : List ByteArray -> List MToken
 | [] => []
 | s :: l => tk1 7 colM :: tk1 1 s :: parsT l
def varsT (l : List ByteArray) : List MToken := if l = [] then [] else tk1 7 barM :: (l.map (tk1 1) ++ [tk1 7 barM])
noncomputable def sendT (f : TF) (k0 : MExpr) (s : ByteArray) (args : List MExpr) : List MToken := recvT f k0 s ++ msgT f s args
noncomputable def blockT (f : TF) (e : MExpr) : List MToken :=
 tk1 7 lbrM :: (parsT (e.names.take e.number.toNat) ++ ((if e.number = 0 then [] else [tk1 7 barM]) ++ (varsT (e.names.drop e.number.toNat) ++ (sepT f e.kids ++ [tk1 7 rbrM]))))
noncomputable def stepT (f : TF) (e : MExpr) : List MToken :=
 if e.kind = 1 then [⟨3, ⟨#[]⟩, e.number⟩]
 else if e.kind = 2 then [tk1 4 e.text]
 else if e.kind = 3 then [tk1 5 e.text]
 else if e.kind = 5 then tk1 1 e.text :: tk1 7 asgM :: f (kidE e.kids 0)
 else if e.kind = 6 then sendT f (kidE e.kids 0) e.text e.kids.tail
 else if e.kind = 7 then sendT f (kidE e.kids 0) (kidE e.kids 1).text (kidE e.kids 1).kids ++ msgsT f (e.kids.drop 2)
 else if e.kind = 8 then blockT f e
 else if e.kind = 9 then tk1 7 retM :: f (kidE e.kids 0)
 else [tk1 1 e.text]
noncomputable def tkE : Nat -> TF
 | 0 => fun _ => []
 | n + 1 => stepT (tkE n)
section
variable {ts : List MToken} {a : Nat}
theorem dr_get {t : MToken} {r : List MToken} (h : ts.drop a = t :: r) : ts[a]? = some t /\ ts.drop (a + 1) = r := by
 have h1 : ts[a]? = some t := by rw [<- List.head?_drop, h]; rfl
 exact ⟨h1, by rw [<- List.tail_drop, h]; rfl⟩
theorem dr_app {l r : List MToken} (h : ts.drop a = l ++ r) : ts.drop (a + l.length) = r := by
 rw [<- List.drop_drop, h, List.drop_left]
theorem k_at {t : MToken} {r : List MToken} (h : ts.drop a = t :: r) : tkK ts a = t.kind /\ tkT ts a = t.text /\ tkN ts a = t.number := tkK_some (dr_get h).1
theorem b_at {t : MToken} {r : List MToken} (h : ts.drop a = t :: r) (k : Int) : tkB ts a k = (t.kind == k) := by
 unfold tkB
 rw [(dr_get h).1]
theorem x_at {t : MToken} {r : List MToken} (h : ts.drop a = t :: r) (k : Int) (s : ByteArray) : tkxB ts a k s = (t.kind == k && eqB t.text s) := by
 unfold tkxB
 rw [(dr_get h).1]
theorem kind_eq' {k : Int} (hk : k ≠ 0) : tkB ts a k = true ↔ tkK ts a = k := by rw [tkB_eq hk]; simp
theorem b_nil (h : ts.drop a = []) (k : Int) : tkB ts a k = false := by
 unfold tkB
 rw [List.getElem?_eq_none (by simpa using h)]
theorem x_nil (h : ts.drop a = []) (k : Int) (s : ByteArray) : tkxB ts a k s = false := by
 unfold tkxB
 rw [List.getElem?_eq_none (by simpa using h)]
end
structure Fo (ts : List MToken) (j : Nat) : Prop where
 n : tkB ts j 1 = false
 o : tkB ts j 6 = false
 k : tkB ts j 2 = false
 a : tkxB ts j 7 asgM = false
theorem Fo.mark {ts : List MToken} {j : Nat} {s : ByteArray} {r : List MToken} (h : ts.drop j = tk1 7 s :: r) (hs : s ≠ asgM) : Fo ts j :=
 ⟨by rw [b_at h]; rfl, by rw [b_at h]; rfl, by rw [b_at h]; rfl, by rw [x_at h]; simp only [tk1, eqB_ff hs]; rfl⟩
theorem Fo.nil {ts : List MToken} {j : Nat} (h : ts.drop j = []) : Fo ts j := ⟨b_nil h _, b_nil h _, b_nil h _, x_nil h _ _⟩
theorem xm_yes {ts : List MToken} {j : Nat} {s : ByteArray} {r : List MToken} (h : ts.drop j = tk1 7 s :: r) : tkxB ts j 7 s = true := by rw [x_at h]; simp only [tk1, eqB_tt]; rfl
theorem xm_no {ts : List MToken} {j : Nat} {s u : ByteArray} {r : List MToken} (h : ts.drop j = tk1 7 s :: r) (hs : s ≠ u) : tkxB ts j 7 u = false := by rw [x_at h]; simp only [tk1, eqB_ff hs]; rfl
theorem xk_no {ts : List MToken} {j : Nat} {t : MToken} {u : ByteArray} {r : List MToken} (h : ts.drop j = t :: r) (hk : t.kind ≠ 7) : tkxB ts j 7 u = false := by
 rw [x_at h]
 have : (t.kind == (7 : Int)) = false := by simpa using hk
 rw [this]
 rfl
def headK (l : List MToken) : Prop := ∃ t r, l = t :: r /\ (t.kind = 1 ∨ t.kind = 6 ∨ t.kind = 2)
theorem bindM_cases (s : ByteArray) : bindM s = 1 ∨ bindM s = 2 ∨ bindM s = 3 := by
 unfold bindM
 split
 · exact Or.inr (Or.inl rfl)
 split
 · exact Or.inr (Or.inr rfl)
 · exact Or.inl rfl
theorem bindM_args {s : ByteArray} : (bindM s = 3 -> argsB s = 0 /\ hasB opsL s = false) /\ (bindM s = 2 -> argsB s = 1 /\ hasB opsL s = true) /\ (bindM s = 1 -> hasB opsL s = false /\ argsB s ≠ 0) := by
 unfold bindM
 by_cases h : hasB opsL s = true
 · rw [if_pos h]
   exact ⟨fun e => by omega, fun _ => ⟨by unfold argsB; rw [if_pos h], h⟩, fun e => by omega⟩
 · rw [if_neg h]
   have h2 : hasB opsL s = false := by simpa using h
   by_cases h0 : argsB s = 0
   · rw [if_pos h0]; exact ⟨fun _ => ⟨h0, h2⟩, fun e => by omega, fun e => by omega⟩
   · rw [if_neg h0]; exact ⟨fun e => by omega, fun e => by omega, fun _ => ⟨h2, h0⟩⟩
theorem kw_parts {s : ByteArray} (h : bindM s = 1) (ha : 0 <= argsB s) : ((cutB 58 (stem s)).length : Int) = argsB s /\ kwB s = true := by
 obtain ⟨h1, h2⟩ := bindM_args.2.2 h
 unfold argsB at *
 rw [if_neg (by rw [h1]; decide)] at *
 split at h2
 · omega
 · rename_i hn
   rw [if_neg hn] at ha ⊢
   split at ha
   · rename_i hk
     rw [if_pos hk]
     exact ⟨rfl, hk⟩
   · omega
theorem cutGo_join (c : UInt8) : ∀ (l cur : List UInt8), (cutGo c cur l).flatMap (fun p => p ++ [c]) = cur ++ l ++ [c]
 | [], cur => by simp [cutGo]
 | b :: t, cur => by
  by_cases h : b = c
  · subst h
    simp [cutGo, cutGo_join b t []]
  · simp only [cutGo, h, if_false]
    rw [cutGo_join c t (cur ++ [b])]
    simp
def catS : List ByteArray -> ByteArray
 | [] => ⟨#[]⟩
 | p :: l => colS p ++ catS l
theorem catS_data : ∀ l : List ByteArray, (catS l).data.toList = (l.map (·.data.toList)).flatMap (fun p => p ++ [58])
 | [] => rfl
 | p :: l => by
  have := catS_data l
  simp only [catS, colS, ByteArray.data_append, Array.toList_append, this, List.map_cons, List.flatMap_cons]
theorem kw_cat {s : ByteArray} (h : kwB s = true) : catS (cutB 58 (stem s)) = s := by
 simp only [kwB, Bool.and_eq_true] at h
 obtain ⟨l, hl⟩ := colB_iff.1 h.1
 have hs := stem_of hl
 have h2 := catS_data (cutB 58 (stem s))
 have h3 : ((cutB 58 (stem s)).map (·.data.toList)) = cutGo 58 [] l := by
  unfold cutB
  rw [hs, List.map_map]
  conv => rhs; rw [<- List.map_id (cutGo 58 [] l)]
  apply List.map_congr_left
  intro x _
  exact data_mkB x
 rw [h3, cutGo_join] at h2
 apply ByteArray.ext
 apply Array.ext'
 rw [h2, hl]
 rfl
theorem app_assocB (a b c : ByteArray) : a ++ b ++ c = a ++ (b ++ c) := by
 apply ByteArray.ext
 simp [ByteArray.data_append, Array.append_assoc]
theorem msgT_head {f : TF} {s : ByteArray} {args : List MExpr} (hl : (args.length : Int) = argsB s) : headK (msgT f s args) := by
 unfold msgT
 rcases bindM_cases s with h | h | h
 · rw [if_neg (by omega), if_neg (by omega)]
   have h1 := (kw_parts h (by omega)).1
   have h0 := (bindM_args.2.2 h).2
   match hp : cutB 58 (stem s), args, hl with
   | [], _, _ => rw [hp] at h1; simp at h1; omega
   | p :: ps, [], hl => simp at hl; omega
   | p :: ps, a :: l, _ => exact ⟨_, _, rfl, Or.inr (Or.inr rfl)⟩
 · rw [if_neg (by omega), if_pos h]; exact ⟨_, _, rfl, Or.inr (Or.inl rfl)⟩
 · rw [if_pos h]; exact ⟨_, _, rfl, Or.inl rfl⟩
def startK (t : MToken) : Prop := (t.kind = 1 ∨ t.kind = 3 ∨ t.kind = 4 ∨ t.kind = 5) ∨ t = tk1 7 lparM ∨ t = tk1 7 lbrM
def Starts (l : List MToken) : Prop := ∃ t r, l = t :: r /\ startK t
def NoAsg (l : List MToken) : Prop := ∃ t r, l = t :: r /\ startK t /\ (t.kind = 1 -> r = [] ∨ ∃ u v, r = u :: v /\ u.kind ≠ 7)
theorem NoAsg.starts {l : List MToken} (h : NoAsg l) : Starts l := by obtain ⟨t, r, h1, h2, -⟩ := h; exact ⟨t, r, h1, h2⟩
theorem NoAsg.app {l k : List MToken} (h : NoAsg l) (hk : headK k) : NoAsg (l ++ k) := by
 obtain ⟨t, r, rfl, h2, h3⟩ := h
 refine ⟨t, r ++ k, rfl, h2, fun e => Or.inr ?_⟩
 rcases h3 e with rfl | ⟨u, v, rfl, hu⟩
 · obtain ⟨u, v, rfl, hu⟩ := hk
   exact ⟨u, v, rfl, by omega⟩
 · exact ⟨u, v ++ k, rfl, hu⟩
theorem NoAsg.app' {l k : List MToken} (h : NoAsg l) (hn : 2 <= l.length ∨ ∀ t r, l = t :: r -> t.kind ≠ 1) : NoAsg (l ++ k) := by
 obtain ⟨t, r, rfl, h2, h3⟩ := h
 refine ⟨t, r ++ k, rfl, h2, fun e => ?_⟩
 rcases h3 e with rfl | ⟨u, v, rfl, hu⟩
 · rcases hn with hn | hn
   · simp at hn
   · exact absurd e (hn t [] rfl)
 · exact Or.inr ⟨u, v ++ k, rfl, hu⟩
theorem partE_noasg {f : TF} {e : MExpr} {need : Nat} (hn : 1 <= need) (h : e.kind ≠ 5 -> e.kind ≠ 9 -> NoAsg (f e)) : NoAsg (partE f e need) := by
 unfold partE
 split
 · exact ⟨_, _, rfl, Or.inr (Or.inl rfl), fun e => by simp [tk1] at e⟩
 · rename_i hb
   refine h (fun e5 => hb ?_) (fun e9 => hb ?_)
   · unfold bindE; rw [if_pos (Or.inl e5)]; omega
   · unfold bindE; rw [if_pos (Or.inr (Or.inr e9))]; omega
theorem sendT_noasg {f : TF} {k0 : MExpr} {s : ByteArray} {args : List MExpr} (hl : (args.length : Int) = argsB s) (h : k0.kind ≠ 5 -> k0.kind ≠ 9 -> NoAsg (f k0)) : NoAsg (sendT f k0 s args) :=
 (partE_noasg (by split <;> omega) h).app (msgT_head hl)
theorem send_two {f : TF} {k0 : MExpr} {s : ByteArray} {args : List MExpr} (hl : (args.length : Int) = argsB s) (h : NoAsg (recvT f k0 s)) : 2 <= (sendT f k0 s args).length := by
 obtain ⟨t, r, h1, -⟩ := h
 obtain ⟨u, v, h2, -⟩ := msgT_head (f := f) hl
 unfold sendT
 rw [h1, h2]
 simp
 omega
theorem send_ok {n : Nat} {e : MExpr} (h6 : e.kind = 6) (h : okR (n + 1) true e) : ∃ k0 l, e = ⟨6, e.text, 0, [], k0 :: l⟩ /\ (l.length : Int) = argsB e.text /\ okR n false k0 /\ ∀ z, z ∈ l -> okR n false z := by
 obtain ⟨h1, h2⟩ := (okR_plain (by omega) (by omega)).1 h
 obtain ⟨n1, n2, -, -, -, -, -, -, n6, -⟩ := h1
 obtain ⟨ha, hp⟩ := n6 h6
 have hnm : e.names = [] := by rcases n1 with h | h <;> first | exact h | omega
 have hnu : e.number = 0 := by rcases n2 with h | h | h <;> first | exact h | omega
 obtain ⟨k, t, nu, nm, kids⟩ := e
 simp only at *
 subst h6 hnm hnu
 cases kids with
 | nil => simp at hp
 | cons k0 l => exact ⟨k0, l, rfl, by simp at ha; omega, h2 _ (by simp), fun z hz => h2 z (by simp [hz])⟩
theorem casc_ok {n : Nat} {e : MExpr} (h7 : e.kind = 7) (h : okR (n + 1) true e) : ∃ k0 m l, e = eCasc (k0 :: m :: l) /\ l ≠ [] /\ okR n false k0 /\ ∀ x, x ∈ m :: l -> x = eMsg x.text x.kids /\ (x.kids.length : Int) = argsB x.text /\ ∀ z, z ∈ x.kids -> okR n false z := by
 obtain ⟨h1, h2, h3⟩ := (okR_casc h7).1 h
 obtain ⟨n1, n2, -, -, -, -, -, -, -, n7, -⟩ := h1
 obtain ⟨ht, hl⟩ := n7 h7
 have hnm : e.names = [] := by rcases n1 with h | h <;> first | exact h | omega
 have hnu : e.number = 0 := by rcases n2 with h | h | h <;> first | exact h | omega
 obtain ⟨k, t, nu, nm, kids⟩ := e
 simp only at *
 subst h7 hnm hnu ht
 match kids, hl with
 | k0 :: m :: y :: l, _ =>
  refine ⟨k0, m, y :: l, rfl, by simp, h3 _ (by simp), fun x hx => ?_⟩
  obtain ⟨⟨a1, a2, a3, a4, a5⟩, a6⟩ := h2 x (by simpa using hx)
  refine ⟨?_, a5, a6⟩
  obtain ⟨k, t, nu, nm, kids⟩ := x
  simp only at *
  subst a1 a2 a3
  rfl
theorem tk_noasg : ∀ (n : Nat) (e : MExpr), okR n true e -> e.kind ≠ 5 -> e.kind ≠ 9 -> NoAsg (tkE n e)
 | 0, e, h, _, _ => absurd h id
 | n + 1, e, h, h5, h9 => by
  have hb : 1 <= e.kind /\ e.kind <= 9 := by
   obtain ⟨⟨⟨_, _, h, _⟩, _⟩, _⟩ := okR_succ.1 h
   exact h
  show NoAsg (stepT (tkE n) e)
  unfold stepT
  by_cases h1 : e.kind = 1
  · rw [if_pos h1]; exact ⟨_, _, rfl, Or.inl (Or.inr (Or.inl rfl)), fun e => by simp at e⟩
  rw [if_neg h1]
  by_cases h2 : e.kind = 2
  · rw [if_pos h2]; exact ⟨_, _, rfl, Or.inl (Or.inr (Or.inr (Or.inl rfl))), fun e => by simp [tk1] at e⟩
  rw [if_neg h2]
  by_cases h3 : e.kind = 3
  · rw [if_pos h3]; exact ⟨_, _, rfl, Or.inl (Or.inr (Or.inr (Or.inr rfl))), fun e => by simp [tk1] at e⟩
  rw [if_neg h3, if_neg h5]
  by_cases h6 : e.kind = 6
  · rw [if_pos h6]
    obtain ⟨k0, l, he, hl, hk, -⟩ := send_ok h6 h
    rw [he]
    exact sendT_noasg (by simpa using hl) (fun a b => tk_noasg n k0 (okR_false.1 hk).2 a b)
  rw [if_neg h6]
  by_cases h7 : e.kind = 7
  · rw [if_pos h7]
    obtain ⟨k0, m, l, he, -, hk, hm⟩ := casc_ok h7 h
    rw [he]
    obtain ⟨-, hl, -⟩ := hm m (by simp)
    have hr : NoAsg (recvT (tkE n) k0 m.text) := partE_noasg (by split <;> omega) (fun a b => tk_noasg n k0 (okR_false.1 hk).2 a b)
    exact NoAsg.app' (sendT_noasg hl (fun a b => tk_noasg n k0 (okR_false.1 hk).2 a b)) (Or.inl (send_two hl hr))
  rw [if_neg h7]
  by_cases h8 : e.kind = 8
  · rw [if_pos h8]; exact ⟨_, _, rfl, Or.inr (Or.inr rfl), fun e => by simp [tk1] at e⟩
  rw [if_neg h8, if_neg h9]
  exact ⟨_, _, rfl, Or.inl (Or.inl rfl), fun _ => Or.inl rfl⟩
section
variable {ts : List MToken}
theorem un_stop {e : MExpr} {s : Bool} {j : Nat} (h : tkB ts j 1 = false) : Ev (fun k => pUn ts k e s j) (some (e, s, j)) :=
 Ev.step (g := fun _ => some (e, s, j)) (fun n => by rw [pUn, if_neg (by rw [h]; decide)]) (Ev.const _)
theorem bin_stop {e : MExpr} {s : Bool} {j : Nat} (h : tkB ts j 6 = false) : Ev (fun k => pBin ts k e s j) (some (e, s, j)) :=
 Ev.step (g := fun _ => some (e, s, j)) (fun n => by rw [pBin, if_neg (by rw [h]; decide)]) (Ev.const _)
theorem bin_of {a : Nat} {y : MExpr × Bool × Nat} {res : Option (MExpr × Bool × Nat)} (h : Ev (fun k => pUnary ts k a) (some y)) (k : Ev (fun k => pBin ts k y.1 y.2.1 y.2.2) res) : Ev (fun k => pBinary ts k a) res :=
 Ev.step (g := fun n => (pUnary ts n a).bind fun r => pBin ts n r.1 r.2.1 r.2.2) (fun n => by rw [pBinary]) (Ev.bind (g := fun n (r : MExpr × Bool × Nat) => pBin ts n r.1 r.2.1 r.2.2) h k)
theorem un_of {a : Nat} {y : MExpr × Nat} {res : Option (MExpr × Bool × Nat)} (h : Ev (fun k => pPrim ts k a) (some y)) (k : Ev (fun k => pUn ts k y.1 false y.2) res) : Ev (fun k => pUnary ts k a) res :=
 Ev.step (g := fun n => (pPrim ts n a).bind fun r => pUn ts n r.1 false r.2) (fun n => by rw [pUnary]) (Ev.bind (g := fun n (r : MExpr × Nat) => pUn ts n r.1 false r.2) h k)
theorem word_stop {e : MExpr} {s : Bool} {j : Nat} {res : Option (MExpr × Nat)} (h : tkB ts j 2 = false) (k : Ev (fun k => pSemi ts k e s j) res) : Ev (fun k => pWord ts k e s j) res :=
 Ev.step (g := fun n => pSemi ts n e s j) (fun n => by rw [pWord, if_neg (by rw [h]; decide)]) k
theorem semi_stop {e : MExpr} {s : Bool} {j : Nat} (h : tkxB ts j 7 semiM = false) : Ev (fun k => pSemi ts k e s j) (some (e, j)) :=
 Ev.step (g := fun _ => some (e, j)) (fun n => by rw [pSemi, if_neg (by rw [h]; decide)]) (Ev.const _)
theorem expr_of {a : Nat} {y : MExpr × Bool × Nat} {res : Option (MExpr × Nat)} (hn : (tkB ts a 1 && tkxB ts (a + 1) 7 asgM) = false) (h : Ev (fun k => pBinary ts k a) (some y)) (k : Ev (fun k => pWord ts k y.1 y.2.1 y.2.2) res) : Ev (fun k => pExpr ts k a) res :=
 Ev.step (g := fun n => (pBinary ts n a).bind fun r => pWord ts n r.1 r.2.1 r.2.2) (fun n => by rw [pExpr, if_neg (by rw [hn]; decide)]) (Ev.bind (g := fun n (r : MExpr × Bool × Nat) => pWord ts n r.1 r.2.1 r.2.2) h k)
theorem noasg_at {a j : Nat} {l r : List MToken} (hl : NoAsg l) (h : ts.drop a = l ++ r) (hj : j = a + l.length) (ha : tkxB ts j 7 asgM = false) : (tkB ts a 1 && tkxB ts (a + 1) 7 asgM) = false := by
 obtain ⟨t, u, rfl, -, h2⟩ := hl
 have h0 : ts.drop a = t :: (u ++ r) := h
 rw [b_at h0]
 by_cases hk : t.kind = 1
 · rcases h2 hk with rfl | ⟨v, x, rfl, hv⟩
   · subst hj
     have : a + [t].length = a + 1 := rfl
     rw [this] at ha
     rw [ha]; simp
   · rw [xk_no (dr_get h0).2 hv]; simp
 · have : (t.kind == (1 : Int)) = false := by simpa using hk
   rw [this]; rfl
end
structure RT (f : TF) (e : MExpr) : Prop where
 p : bindE e = 4 -> ∀ {ts : List MToken} {a j : Nat} {r : List MToken}, ts.drop a = f e ++ r -> j = a + (f e).length -> Ev (fun k => pPrim ts k a) (some (e, j))
 u : 3 <= bindE e -> ∀ {ts : List MToken} {a j : Nat} {r : List MToken}, ts.drop a = f e ++ r -> j = a + (f e).length -> ∃ s, ∀ res, Ev (fun k => pUn ts k e s j) res -> Ev (fun k => pUnary ts k a) res
 b : 2 <= bindE e -> ∀ {ts : List MToken} {a j : Nat} {r : List MToken}, ts.drop a = f e ++ r -> j = a + (f e).length -> tkB ts j 1 = false -> ∃ s, ∀ res, Ev (fun k => pBin ts k e s j) res -> Ev (fun k => pBinary ts k a) res
 x : e.kind ≠ 9 -> ∀ {ts : List MToken} {a j : Nat} {r : List MToken}, ts.drop a = f e ++ r -> j = a + (f e).length -> Fo ts j -> tkxB ts j 7 semiM = false -> Ev (fun k => pExpr ts k a) (some (e, j))
 q : e.kind = 9 -> ∀ {ts : List MToken} {a j : Nat} {r : List MToken}, ts.drop a = f e ++ r -> j = a + (f e).length -> Fo ts j -> tkxB ts j 7 semiM = false -> ∃ z, e = eRet z /\ tkxB ts a 7 retM = true /\ Ev (fun k => pExpr ts k (a + 1)) (some (z, j))
 h : ∃ t r, f e = t :: r /\ (t = tk1 7 retM ∨ startK t) /\ (e.kind ≠ 9 -> startK t)
section
variable {f : TF} {ts : List MToken}
theorem par_at {e : MExpr} (R : RT f e) (h9 : e.kind ≠ 9) {a j : Nat} {r : List MToken} (h : ts.drop a = tk1 7 lparM :: (f e ++ [tk1 7 rparM]) ++ r) (hj : j = a + (f e).length + 2) : Ev (fun k => pPrim ts k a) (some (e, j)) := by
 have h0 : ts.drop a = tk1 7 lparM :: (f e ++ (tk1 7 rparM :: r)) := by rw [h]; simp
 have h1 := (dr_get h0).2
 have h2 := dr_app h1
 subst hj
 refine Ev.step (g := fun n => (pExpr ts n (a + 1)).bind fun r => if tkxB ts r.2 7 rparM = true then some (r.1, r.2 + 1) else none) (fun n => ?_) (Ev.bind (g := fun n (r : MExpr × Nat) => if tkxB ts r.2 7 rparM = true then some (r.1, r.2 + 1) else none) (R.x h9 h1 rfl (Fo.mark h2 (by decide)) (xm_no h2 (by decide))) ⟨0, fun _ _ => ?_⟩)
 · rw [pPrim, if_neg (by rw [b_at h0]; decide), if_neg (by rw [b_at h0]; decide), if_neg (by rw [b_at h0]; decide), if_neg (by rw [b_at h0]; decide), if_pos (xm_yes h0)]
 · show (if tkxB ts (a + 1 + (f e).length) 7 rparM = true then _ else _) = _
   rw [if_pos (xm_yes h2)]
   show some (e, a + 1 + (f e).length + 1) = some (e, a + (f e).length + 2)
   congr 2
   omega
theorem part3 {e : MExpr} (R : RT f e) (h9 : e.kind ≠ 9) {a j : Nat} {r : List MToken} (h : ts.drop a = partE f e 3 ++ r) (hj : j = a + (partE f e 3).length) : ∃ s, ∀ res, Ev (fun k => pUn ts k e s j) res -> Ev (fun k => pUnary ts k a) res := by
 unfold partE at h hj
 split at h
 · rename_i hb
   rw [if_pos hb] at hj
   exact ⟨false, fun res hr => un_of (par_at R h9 h rfl) (by rw [show a + (f e).length + 2 = j by rw [hj]; simp; omega]; exact hr)⟩
 · rename_i hb
   rw [if_neg hb] at hj
   exact R.u (by omega) h hj
theorem part2 {e : MExpr} (R : RT f e) (h9 : e.kind ≠ 9) {a j : Nat} {r : List MToken} (h : ts.drop a = partE f e 2 ++ r) (hj : j = a + (partE f e 2).length) (hn : tkB ts j 1 = false) : ∃ s, ∀ res, Ev (fun k => pBin ts k e s j) res -> Ev (fun k => pBinary ts k a) res := by
 unfold partE at h hj
 split at h
 · rename_i hb
   rw [if_pos hb] at hj
   have hj2 : a + (f e).length + 2 = j := by rw [hj]; simp; omega
   exact ⟨false, fun res hr => bin_of (un_of (par_at R h9 h rfl) (by rw [hj2]; exact un_stop hn)) hr⟩
 · rename_i hb
   rw [if_neg hb] at hj
   exact R.b (by omega) h hj hn
theorem arg3 {e : MExpr} (R : RT f e) (h9 : e.kind ≠ 9) {a j : Nat} {r : List MToken} (h : ts.drop a = partE f e 3 ++ r) (hj : j = a + (partE f e 3).length) (hn : tkB ts j 1 = false) : ∃ s, Ev (fun k => pUnary ts k a) (some (e, s, j)) := by
 obtain ⟨s, hs⟩ := part3 R h9 h hj
 exact ⟨s, hs _ (un_stop hn)⟩
theorem arg2 {e : MExpr} (R : RT f e) (h9 : e.kind ≠ 9) {a j : Nat} {r : List MToken} (h : ts.drop a = partE f e 2 ++ r) (hj : j = a + (partE f e 2).length) (hn : tkB ts j 1 = false) (ho : tkB ts j 6 = false) : ∃ s, Ev (fun k => pBinary ts k a) (some (e, s, j)) := by
 obtain ⟨s, hs⟩ := part2 R h9 h hj hn
 exact ⟨s, hs _ (bin_stop ho)⟩
theorem kw_at : ∀ (ps : List ByteArray) (l : List MExpr) (s : ByteArray) (acc : List MExpr) {a j : Nat} {r : List MToken}, ps.length = l.length -> (∀ z, z ∈ l -> RT f z /\ z.kind ≠ 9) -> ts.drop a = kwT f ps l ++ r -> j = a + (kwT f ps l).length -> tkB ts j 1 = false -> tkB ts j 6 = false -> tkB ts j 2 = false -> Ev (fun k => pKeys ts k s acc a) (some (s ++ catS ps, acc ++ l, j))
 | [], [], s, acc, a, j, r, _, _, h, hj, h1, h6, h2 => by
  obtain rfl : j = a := hj
  refine Ev.step (g := fun _ => some (s ++ catS [], acc ++ [], j)) (fun n => ?_) (Ev.const _)
  rw [pKeys, if_neg (by rw [h2]; decide)]
  have e1 : s ++ catS [] = s := by apply ByteArray.ext; simp [catS]
  rw [e1, List.append_nil]
 | p :: ps, z :: l, s, acc, a, j, r, hl, hz, h, hj, h1, h6, h2 => by
  have h0 : ts.drop a = tk1 2 (colS p) :: (partE f z 2 ++ (kwT f ps l ++ r)) := by rw [h]; simp [kwT]
  have k1 := (dr_get h0).2
  have k2 := dr_app k1
  obtain ⟨R, h9⟩ := hz z (by simp)
  have hj2 : j = a + 1 + (partE f z 2).length + (kwT f ps l).length := by rw [hj]; simp [kwT]; omega
  have hnx : tkB ts (a + 1 + (partE f z 2).length) 1 = false /\ tkB ts (a + 1 + (partE f z 2).length) 6 = false := by
   match ps, l, hl with
   | [], [], _ =>
    have : j = a + 1 + (partE f z 2).length := by rw [hj2]; simp [kwT]
    rw [<- this]; exact ⟨h1, h6⟩
   | q :: qs, y :: k, _ =>
    have k3 : ts.drop (a + 1 + (partE f z 2).length) = tk1 2 (colS q) :: (partE f y 2 ++ kwT f qs k ++ r) := by rw [k2]; simp [kwT]
    exact ⟨by rw [b_at k3]; rfl, by rw [b_at k3]; rfl⟩
  obtain ⟨sb, ha⟩ := arg2 R h9 k1 rfl hnx.1 hnx.2
  have IH := kw_at ps l (s ++ colS p) (acc ++ [z]) (by simpa using hl) (fun y hy => hz y (by simp [hy])) k2 hj2 h1 h6 h2
  have hT : tkT ts a = colS p := (k_at h0).2.1
  refine Ev.step (g := fun n => (pBinary ts n (a + 1)).bind fun r => pKeys ts n (s ++ tkT ts a) (acc ++ [r.1]) r.2.2) (fun n => by rw [pKeys, if_pos (by rw [b_at h0]; rfl)]) (Ev.bind (g := fun n (r : MExpr × Bool × Nat) => pKeys ts n (s ++ tkT ts a) (acc ++ [r.1]) r.2.2) ha ?_)
  show Ev (fun k => pKeys ts k (s ++ tkT ts a) (acc ++ [z]) (a + 1 + (partE f z 2).length)) _
  rw [hT]
  have e1 : s ++ catS (p :: ps) = s ++ colS p ++ catS ps := by rw [app_assocB]; rfl
  have e2 : acc ++ z :: l = acc ++ [z] ++ l := by simp
  rw [e1, e2]
  exact IH
 | [], _ :: _, _, _, _, _, _, hl, _, _, _, _, _, _ => by simp at hl
 | _ :: _, [], _, _, _, _, _, hl, _, _, _, _, _, _ => by simp at hl
theorem nil_catB (s : ByteArray) : (⟨#[]⟩ : ByteArray) ++ s = s := by apply ByteArray.ext; simp
theorem keys_at {s : ByteArray} {l : List MExpr} (hb : bindM s = 1) (hl : (l.length : Int) = argsB s) (hz : ∀ z, z ∈ l -> RT f z /\ z.kind ≠ 9) {a j : Nat} {r : List MToken} (h : ts.drop a = msgT f s l ++ r) (hj : j = a + (msgT f s l).length) (h1 : tkB ts j 1 = false) (h6 : tkB ts j 6 = false) (h2 : tkB ts j 2 = false) :
 tkB ts a 2 = true /\ Ev (fun k => pKeys ts k ⟨#[]⟩ [] a) (some (s, l, j)) := by
 obtain ⟨hp, hk⟩ := kw_parts hb (by omega)
 have e : msgT f s l = kwT f (cutB 58 (stem s)) l := by unfold msgT; rw [if_neg (by omega), if_neg (by omega)]
 rw [e] at h hj
 have := kw_at (cutB 58 (stem s)) l ⟨#[]⟩ [] (by omega) hz h hj h1 h6 h2
 rw [kw_cat hk, nil_catB, List.nil_append] at this
 refine ⟨?_, this⟩
 have h0 := (bindM_args.2.2 hb).2
 generalize cutB 58 (stem s) = ps at *
 cases ps with
 | nil => simp at hp; omega
 | cons p ps =>
  cases l with
  | nil => simp at hl; omega
  | cons y k =>
   have h3 : ts.drop a = tk1 2 (colS p) :: (partE f y 2 ++ kwT f ps k ++ r) := by rw [h]; simp [kwT]
   rw [b_at h3]; rfl
theorem op_tok {s : ByteArray} {l : List MExpr} (hb : bindM s = 2) (hl : (l.length : Int) = argsB s) : ∃ z, l = [z] /\ msgT f s l = tk1 6 s :: partE f z 3 := by
 have := (bindM_args.2.1 hb).1
 match l, hl with
 | [], hl => simp at hl; omega
 | [z], _ => exact ⟨z, rfl, by unfold msgT; rw [if_neg (by omega), if_pos hb]; rfl⟩
 | _ :: _ :: _, hl => simp at hl; omega
theorem un_tok {s : ByteArray} {l : List MExpr} (hb : bindM s = 3) (hl : (l.length : Int) = argsB s) : l = [] /\ msgT f s l = [tk1 1 s] := by
 have := (bindM_args.1 hb).1
 refine ⟨List.length_eq_zero_iff.1 (by omega), by unfold msgT; rw [if_pos hb]⟩
theorem msg_at {s : ByteArray} {l : List MExpr} (hl : (l.length : Int) = argsB s) (hz : ∀ z, z ∈ l -> RT f z /\ z.kind ≠ 9) {a j : Nat} {r : List MToken} (h : ts.drop a = msgT f s l ++ r) (hj : j = a + (msgT f s l).length) (h1 : tkB ts j 1 = false) (h6 : tkB ts j 6 = false) (h2 : tkB ts j 2 = false) : Ev (fun k => pMsg ts k a) (some (eMsg s l, j)) := by
 rcases bindM_cases s with hb | hb | hb
 · obtain ⟨k2, hk⟩ := keys_at hb hl hz h hj h1 h6 h2
   have hh : tkB ts a 1 = false /\ tkB ts a 6 = false := by
    have := (kind_eq' (ts := ts) (a := a) (k := 2) (by decide)).1 k2
    exact ⟨by rw [tkB_eq (by decide), this]; rfl, by rw [tkB_eq (by decide), this]; rfl⟩
   exact Ev.step (g := fun n => (pKeys ts n ⟨#[]⟩ [] a).bind fun r => some (eMsg r.1 r.2.1, r.2.2)) (fun n => by rw [pMsg, if_neg (by rw [hh.1]; decide), if_neg (by rw [hh.2]; decide), if_pos k2]) (Ev.bind (g := fun n (r : ByteArray × List MExpr × Nat) => some (eMsg r.1 r.2.1, r.2.2)) hk (Ev.const _))
 · obtain ⟨z, rfl, e⟩ := op_tok (f := f) hb hl
   rw [e] at h hj
   have h0 : ts.drop a = tk1 6 s :: (partE f z 3 ++ r) := h
   obtain ⟨R, h9⟩ := hz z (by simp)
   obtain ⟨sb, hk⟩ := arg3 (j := j) R h9 (dr_get h0).2 (by rw [hj]; simp; omega) h1
   have hT : tkT ts a = s := (k_at h0).2.1
   exact Ev.step (g := fun n => (pUnary ts n (a + 1)).bind fun r => some (eMsg (tkT ts a) [r.1], r.2.2)) (fun n => by rw [pMsg, if_neg (by rw [b_at h0]; simp [tk1]), if_pos (by rw [b_at h0]; rfl)]) (Ev.bind (g := fun n (r : MExpr × Bool × Nat) => some (eMsg (tkT ts a) [r.1], r.2.2)) hk (by rw [hT]; exact Ev.const _))
 · obtain ⟨rfl, e⟩ := un_tok (f := f) hb hl
   rw [e] at h hj
   have h0 : ts.drop a = tk1 1 s :: r := h
   have hT : tkT ts a = s := (k_at h0).2.1
   obtain rfl : j = a + 1 := hj
   exact Ev.step (g := fun _ => some (eMsg s [], a + 1)) (fun n => by rw [pMsg, if_pos (by rw [b_at h0]; rfl), hT]) (Ev.const _)
end
section
variable {f : TF} {ts : List MToken} {k0 : MExpr} {s : ByteArray} {l : List MExpr}
structure SR (f : TF) (k0 : MExpr) (s : ByteArray) (l : List MExpr) : Prop where
 n : (l.length : Int) = argsB s
 r : RT f k0 /\ k0.kind ≠ 9
 z : ∀ z, z ∈ l -> RT f z /\ z.kind ≠ 9
theorem send_u (R : SR f k0 s l) (hb : bindM s = 3) {a j : Nat} {r : List MToken} (h : ts.drop a = sendT f k0 s l ++ r) (hj : j = a + (sendT f k0 s l).length) : ∀ res, Ev (fun k => pUn ts k (eMsg s (k0 :: l)) true j) res -> Ev (fun k => pUnary ts k a) res := by
 obtain ⟨rfl, e⟩ := un_tok (f := f) hb R.n
 unfold sendT recvT at h hj
 rw [e, if_pos hb] at h hj
 rw [List.append_assoc] at h
 obtain ⟨sb, hs⟩ := part3 R.r.1 R.r.2 h rfl
 have h2 := dr_app h
 have hT : tkT ts (a + (partE f k0 3).length) = s := (k_at h2).2.1
 intro res hr
 refine hs res (Ev.step (g := fun n => pUn ts n (eMsg (tkT ts (a + (partE f k0 3).length)) [k0]) true (a + (partE f k0 3).length + 1)) (fun n => by rw [pUn, if_pos (by rw [b_at h2]; rfl)]) ?_)
 rw [hT, show a + (partE f k0 3).length + 1 = j by rw [hj]; simp; omega]
 exact hr
theorem send_b (R : SR f k0 s l) (hb : 2 <= bindM s) {a j : Nat} {r : List MToken} (h : ts.drop a = sendT f k0 s l ++ r) (hj : j = a + (sendT f k0 s l).length) (hn : tkB ts j 1 = false) : ∀ res, Ev (fun k => pBin ts k (eMsg s (k0 :: l)) true j) res -> Ev (fun k => pBinary ts k a) res := by
 intro res hr
 rcases bindM_cases s with hb2 | hb2 | hb2
 · omega
 · obtain ⟨z, rfl, e⟩ := op_tok (f := f) hb2 R.n
   unfold sendT recvT at h hj
   rw [e, if_neg (by omega)] at h hj
   rw [List.append_assoc] at h
   have h2 : ts.drop (a + (partE f k0 2).length) = tk1 6 s :: (partE f z 3 ++ r) := dr_app h
   obtain ⟨sb, hs⟩ := part2 R.r.1 R.r.2 h rfl (by rw [b_at h2]; rfl)
   obtain ⟨Rz, z9⟩ := R.z z (by simp)
   have hj2 : j = a + (partE f k0 2).length + 1 + (partE f z 3).length := by rw [hj]; simp; omega
   obtain ⟨sz, hk⟩ := arg3 Rz z9 (dr_get h2).2 hj2 hn
   have hT : tkT ts (a + (partE f k0 2).length) = s := (k_at h2).2.1
   refine hs res (Ev.step (g := fun n => (pUnary ts n (a + (partE f k0 2).length + 1)).bind fun r => pBin ts n (eMsg (tkT ts (a + (partE f k0 2).length)) [k0, r.1]) true r.2.2) (fun n => by rw [pBin, if_pos (by rw [b_at h2]; rfl)]) (Ev.bind (g := fun n (r : MExpr × Bool × Nat) => pBin ts n (eMsg (tkT ts (a + (partE f k0 2).length)) [k0, r.1]) true r.2.2) hk ?_))
   rw [hT]
   exact hr
 · have hu := send_u R hb2 h hj
   exact bin_of (hu _ (un_stop hn)) hr
theorem send_w (R : SR f k0 s l) {a j : Nat} {r : List MToken} (h : ts.drop a = sendT f k0 s l ++ r) (hj : j = a + (sendT f k0 s l).length) (hF : Fo ts j) (hA : NoAsg (sendT f k0 s l)) : ∀ res, Ev (fun k => pSemi ts k (eMsg s (k0 :: l)) true j) res -> Ev (fun k => pExpr ts k a) res := by
 intro res hr
 have hno := noasg_at hA h hj hF.a
 by_cases hb : 2 <= bindM s
 · exact expr_of hno (send_b R hb h hj hF.n _ (bin_stop hF.o)) (word_stop hF.k hr)
 · have hb1 : bindM s = 1 := by rcases bindM_cases s with h | h | h <;> omega
   unfold sendT recvT at h hj
   rw [if_neg (by omega)] at h hj
   rw [List.append_assoc] at h
   have h2 := dr_app h
   have hj2 : j = a + (partE f k0 2).length + (msgT f s l).length := by rw [hj]; simp; omega
   obtain ⟨k2, hk⟩ := keys_at hb1 R.n R.z h2 hj2 hF.n hF.o hF.k
   have hh : tkB ts (a + (partE f k0 2).length) 1 = false /\ tkB ts (a + (partE f k0 2).length) 6 = false := by
    have := (kind_eq' (ts := ts) (a := a + (partE f k0 2).length) (k := 2) (by decide)).1 k2
    exact ⟨by rw [tkB_eq (by decide), this]; rfl, by rw [tkB_eq (by decide), this]; rfl⟩
   obtain ⟨sb, hs⟩ := arg2 R.r.1 R.r.2 h rfl hh.1 hh.2
   refine expr_of hno hs (Ev.step (g := fun n => (pKeys ts n ⟨#[]⟩ [] (a + (partE f k0 2).length)).bind fun r => pSemi ts n (eMsg r.1 (k0 :: r.2.1)) true r.2.2) (fun n => by rw [pWord, if_pos k2]) (Ev.bind (g := fun n (r : ByteArray × List MExpr × Nat) => pSemi ts n (eMsg r.1 (k0 :: r.2.1)) true r.2.2) hk hr))
theorem casc_at : ∀ (l acc : List MExpr) {a j : Nat} {r : List MToken}, (∀ x, x ∈ l -> x = eMsg x.text x.kids /\ (x.kids.length : Int) = argsB x.text /\ ∀ z, z ∈ x.kids -> RT f z /\ z.kind ≠ 9) -> ts.drop a = msgsT f l ++ r -> j = a + (msgsT f l).length -> Fo ts j -> tkxB ts j 7 semiM = false -> Ev (fun k => pCasc ts k acc a) (some (eCasc (acc ++ l), j))
 | [], acc, a, j, r, _, h, hj, hF, hs => by
  obtain rfl : j = a := hj
  exact Ev.step (g := fun _ => some (eCasc (acc ++ []), j)) (fun n => by rw [pCasc, if_neg (by rw [hs]; decide), List.append_nil]) (Ev.const _)
 | m :: l, acc, a, j, r, hm, h, hj, hF, hs => by
  obtain ⟨e1, e2, e3⟩ := hm m (by simp)
  have h0 : ts.drop a = tk1 7 semiM :: (msgT f m.text m.kids ++ (msgsT f l ++ r)) := by rw [h]; simp [msgsT]
  have h1 := (dr_get h0).2
  have h2 := dr_app h1
  have hj2 : j = a + 1 + (msgT f m.text m.kids).length + (msgsT f l).length := by rw [hj]; simp [msgsT]; omega
  have hF2 : Fo ts (a + 1 + (msgT f m.text m.kids).length) := by
   cases l with
   | nil =>
    have : j = a + 1 + (msgT f m.text m.kids).length := by rw [hj2]; simp [msgsT]
    rw [<- this]; exact hF
   | cons y k => exact Fo.mark (show ts.drop _ = tk1 7 semiM :: (msgT f y.text y.kids ++ msgsT f k ++ r) by rw [h2]; simp [msgsT]) (by decide)
  have IH := casc_at l (acc ++ [m]) (fun x hx => hm x (by simp [hx])) h2 hj2 hF hs
  have hk := msg_at e2 e3 h1 rfl hF2.n hF2.o hF2.k
  rw [<- e1] at hk
  refine Ev.step (g := fun n => (pMsg ts n (a + 1)).bind fun r => pCasc ts n (acc ++ [r.1]) r.2) (fun n => by rw [pCasc, if_pos (xm_yes h0)]) (Ev.bind (g := fun n (r : MExpr × Nat) => pCasc ts n (acc ++ [r.1]) r.2) hk ?_)
  show Ev (fun k => pCasc ts k (acc ++ [m]) (a + 1 + (msgT f m.text m.kids).length)) _
  rw [show acc ++ m :: l = acc ++ [m] ++ l by simp]
  exact IH
theorem pars_at : ∀ (l acc : List ByteArray) {a j : Nat} {r : List MToken}, ts.drop a = parsT l ++ r -> j = a + (parsT l).length -> tkxB ts j 7 colM = false -> Ev (fun k => pPars ts k acc a) (some (acc ++ l, j))
 | [], acc, a, j, r, h, hj, hs => by
  obtain rfl : j = a := hj
  exact Ev.step (g := fun _ => some (acc ++ [], j)) (fun n => by rw [pPars, if_neg (by rw [hs]; decide), List.append_nil]) (Ev.const _)
 | m :: l, acc, a, j, r, h, hj, hs => by
  have h0 : ts.drop a = tk1 7 colM :: tk1 1 m :: (parsT l ++ r) := by rw [h]; rfl
  have h1 := (dr_get h0).2
  have h2 := (dr_get h1).2
  have IH := pars_at l (acc ++ [m]) h2 (by rw [hj]; simp [parsT]; omega) hs
  have hT : tkT ts (a + 1) = m := (k_at h1).2.1
  refine Ev.step (g := fun n => pPars ts n (acc ++ [tkT ts (a + 1)]) (a + 2)) (fun n => by rw [pPars, if_pos (xm_yes h0), if_pos (by rw [b_at h1]; rfl)]) ?_
  rw [hT, show acc ++ m :: l = acc ++ [m] ++ l by simp]
  exact IH
theorem names_at : ∀ (l acc : List ByteArray) {a j : Nat} {r : List MToken}, ts.drop a = l.map (tk1 1) ++ r -> j = a + l.length -> tkB ts j 1 = false -> Ev (fun k => pNames ts k acc a) (some (acc ++ l, j))
 | [], acc, a, j, r, h, hj, hs => by
  obtain rfl : j = a := hj
  exact Ev.step (g := fun _ => some (acc ++ [], j)) (fun n => by rw [pNames, if_neg (by rw [hs]; decide), List.append_nil]) (Ev.const _)
 | m :: l, acc, a, j, r, h, hj, hs => by
  have h0 : ts.drop a = tk1 1 m :: (l.map (tk1 1) ++ r) := by rw [h]; rfl
  have IH := names_at l (acc ++ [m]) (dr_get h0).2 (by rw [hj]; simp; omega) hs
  have hT : tkT ts a = m := (k_at h0).2.1
  refine Ev.step (g := fun n => pNames ts n (acc ++ [tkT ts a]) (a + 1)) (fun n => by rw [pNames, if_pos (by rw [b_at h0]; rfl)]) ?_
  rw [hT, show acc ++ m :: l = acc ++ [m] ++ l by simp]
  exact IH
theorem vars_at (l : List ByteArray) {a j : Nat} {r : List MToken} (h : ts.drop a = varsT l ++ r) (hj : j = a + (varsT l).length) (hb : tkxB ts j 7 barM = false) : Ev (fun k => pVars ts k a) (some (l, j)) := by
 unfold varsT at h hj
 split at h
 · rename_i hl
   rw [if_pos hl] at hj
   obtain rfl : j = a := hj
   subst hl
   exact ⟨0, fun n _ => by show pVars ts n j = _; unfold pVars; rw [if_neg (by rw [hb]; decide)]⟩
 · rename_i hl
   rw [if_neg hl] at hj
   have h0 : ts.drop a = tk1 7 barM :: (l.map (tk1 1) ++ (tk1 7 barM :: r)) := by rw [h]; simp
   have h1 := (dr_get h0).2
   have h2 := dr_app h1
   rw [List.length_map] at h2
   have hk := names_at l [] h1 rfl (by rw [b_at h2]; rfl)
   obtain ⟨n0, hk⟩ := hk
   refine ⟨n0, fun n hn => ?_⟩
   show pVars ts n a = _
   unfold pVars
   have hkn : pNames ts n [] (a + 1) = some ([] ++ l, a + 1 + l.length) := hk n hn
   rw [if_pos (xm_yes h0), hkn]
   show (if tkxB ts (a + 1 + l.length) 7 barM = true then some ([] ++ l, a + 1 + l.length + 1) else none) = _
   rw [if_pos (xm_yes h2), List.nil_append, hj]
   congr 2
   simp
   omega
theorem start_at {x : MExpr} (R : RT f x) (h9 : x.kind ≠ 9) {a : Nat} {r : List MToken} (h : ts.drop a = f x ++ r) : tkxB ts a 7 retM = false /\ beginsB ts a = true := by
 obtain ⟨t, u, e, -, hs⟩ := R.h
 have h0 : ts.drop a = t :: (u ++ r) := by rw [h, e]; rfl
 unfold beginsB
 rcases hs h9 with hk | rfl | rfl
 · refine ⟨xk_no h0 (by omega), ?_⟩
   rw [b_at h0, b_at h0, b_at h0, b_at h0]
   rcases hk with hk | hk | hk | hk <;> rw [hk] <;> simp
 · exact ⟨xm_no h0 (by decide), by rw [xm_yes h0]; simp⟩
 · exact ⟨xm_no h0 (by decide), by rw [xm_yes (s := lbrM) h0]; simp⟩
theorem stms_at : ∀ (l acc : List MExpr) {a j : Nat} {r : List MToken}, (∀ x, x ∈ l -> RT f x) -> (∀ x, x ∈ l.take (l.length - 1) -> x.kind ≠ 9) -> ts.drop a = sepT f l ++ tk1 7 rbrM :: r -> j = a + (sepT f l).length -> Ev (fun k => pStmts ts k acc a) (some (acc ++ l, j))
 | [], acc, a, j, r, _, _, h, hj => by
  obtain rfl : j = a := hj
  have h0 : ts.drop j = tk1 7 rbrM :: r := h
  refine Ev.step (g := fun _ => some (acc ++ [], j)) (fun n => ?_) (Ev.const _)
  rw [pStmts, if_neg (by rw [xm_no h0 (by decide)]; decide), if_neg, List.append_nil]
  unfold beginsB
  rw [b_at h0, b_at h0, b_at h0, b_at h0, xm_no h0 (by decide), xm_no h0 (by decide)]
  decide
 | [x], acc, a, j, r, hR, _, h, hj => by
  have R := hR x (by simp)
  have h0 : ts.drop a = f x ++ tk1 7 rbrM :: r := h
  have h1 := dr_app h0
  have hj2 : j = a + (f x).length := hj
  rw [<- hj2] at h1
  by_cases h9 : x.kind = 9
  · obtain ⟨z, rfl, hret, hk⟩ := R.q h9 h0 hj2 (Fo.mark h1 (by decide)) (xm_no h1 (by decide))
    refine Ev.step (g := fun n => (pExpr ts n (a + 1)).bind fun r => some (acc ++ [eRet r.1], if tkxB ts r.2 7 dotM = true then r.2 + 1 else r.2)) (fun n => by rw [pStmts, if_pos hret]) (Ev.bind (g := fun n (r : MExpr × Nat) => some (acc ++ [eRet r.1], if tkxB ts r.2 7 dotM = true then r.2 + 1 else r.2)) hk ⟨0, fun _ _ => ?_⟩)
    show some (acc ++ [eRet z], if tkxB ts j 7 dotM = true then j + 1 else j) = _
    rw [if_neg (by rw [xm_no h1 (by decide)]; decide)]
  · obtain ⟨hr, hb⟩ := start_at R h9 h0
    refine Ev.step (g := fun n => (pExpr ts n a).bind fun r => if tkxB ts r.2 7 dotM = true then pStmts ts n (acc ++ [r.1]) (r.2 + 1) else some (acc ++ [r.1], r.2)) (fun n => by rw [pStmts, if_neg (by rw [hr]; decide), if_pos hb]) (Ev.bind (g := fun n (r : MExpr × Nat) => if tkxB ts r.2 7 dotM = true then pStmts ts n (acc ++ [r.1]) (r.2 + 1) else some (acc ++ [r.1], r.2)) (R.x h9 h0 hj2 (Fo.mark h1 (by decide)) (xm_no h1 (by decide))) ⟨0, fun _ _ => ?_⟩)
    show (if tkxB ts j 7 dotM = true then _ else _) = _
    rw [if_neg (by rw [xm_no h1 (by decide)]; decide)]
 | x :: y :: l, acc, a, j, r, hR, h9s, h, hj => by
  have R := hR x (by simp)
  have h9 : x.kind ≠ 9 := h9s x (by simp)
  have h0 : ts.drop a = f x ++ tk1 7 dotM :: (sepT f (y :: l) ++ tk1 7 rbrM :: r) := by rw [h]; simp [sepT]
  have h1 := dr_app h0
  have h2 := (dr_get h1).2
  have IH := stms_at (j := j) (y :: l) (acc ++ [x]) (fun z hz => hR z (by simp at hz ⊢; exact Or.inr hz)) (fun z hz => h9s z (by simp at hz ⊢; exact Or.inr hz)) h2 (by rw [hj]; simp [sepT]; omega)
  obtain ⟨hr, hb⟩ := start_at R h9 h0
  refine Ev.step (g := fun n => (pExpr ts n a).bind fun r => if tkxB ts r.2 7 dotM = true then pStmts ts n (acc ++ [r.1]) (r.2 + 1) else some (acc ++ [r.1], r.2)) (fun n => by rw [pStmts, if_neg (by rw [hr]; decide), if_pos hb]) (Ev.bind (g := fun n (r : MExpr × Nat) => if tkxB ts r.2 7 dotM = true then pStmts ts n (acc ++ [r.1]) (r.2 + 1) else some (acc ++ [r.1], r.2)) (R.x h9 h0 rfl (Fo.mark h1 (by decide)) (xm_no h1 (by decide))) ?_)
  rw [show acc ++ x :: y :: l = acc ++ [x] ++ y :: l by simp]
  obtain ⟨n0, hn0⟩ := IH
  exact ⟨n0, fun n hn => by
   show (if tkxB ts (a + (f x).length) 7 dotM = true then pStmts ts n (acc ++ [x]) (a + (f x).length + 1) else _) = _
   rw [if_pos (xm_yes h1)]
   exact hn0 n hn⟩
end
theorem RT.of_prim {f : TF} {e : MExpr} (h5 : e.kind ≠ 5) (h6 : e.kind ≠ 6) (h7 : e.kind ≠ 7) (h9 : e.kind ≠ 9) (hA : NoAsg (f e)) (hp : ∀ {ts : List MToken} {a j : Nat} {r : List MToken}, ts.drop a = f e ++ r -> j = a + (f e).length -> Ev (fun k => pPrim ts k a) (some (e, j))) : RT f e := by
 refine ⟨fun _ => hp, fun _ {ts a j r} h hj => ⟨false, fun res hr => un_of (hp h hj) hr⟩, fun _ {ts a j r} h hj hn => ⟨false, fun res hr => bin_of (un_of (hp h hj) (un_stop hn)) hr⟩, fun _ {ts a j r} h hj hF hs => ?_, fun h => absurd h h9, ?_⟩
 · exact expr_of (noasg_at hA h hj hF.a) (bin_of (un_of (hp h hj) (un_stop hF.n)) (bin_stop hF.o)) (word_stop hF.k (semi_stop hs))
 · obtain ⟨t, r, h1, h2⟩ := hA.starts
   exact ⟨t, r, h1, Or.inr h2, fun _ => h2⟩
theorem bindE_send {e : MExpr} (h : e.kind = 6) : bindE e = bindM e.text := by unfold bindE; rw [if_neg (by omega), if_pos h]
theorem bindE_zero {e : MExpr} (h : e.kind = 5 ∨ e.kind = 7 ∨ e.kind = 9) : bindE e = 0 := if_pos h
theorem RT.of_send {f : TF} {k0 : MExpr} {s : ByteArray} {l : List MExpr} (R : SR f k0 s l) (g : TF) (hg : g (eMsg s (k0 :: l)) = sendT f k0 s l) (hA : NoAsg (sendT f k0 s l)) : RT g (eMsg s (k0 :: l)) := by
 have hb : bindE (eMsg s (k0 :: l)) = bindM s := bindE_send rfl
 have hbd : bindM s <= 3 := by rcases bindM_cases s with h | h | h <;> omega
 refine ⟨fun h4 => by omega, fun h3 {ts a j r} h hj => ⟨true, ?_⟩, fun h2 {ts a j r} h hj hn => ⟨true, ?_⟩, fun _ {ts a j r} h hj hF hs => ?_, fun h => absurd (show (6 : Int) = 9 from h) (by decide), ?_⟩
 · rw [hg] at h hj; exact send_u R (by omega) h hj
 · rw [hg] at h hj; exact send_b R (by omega) h hj hn
 · rw [hg] at h hj; exact send_w R h hj hF hA _ (semi_stop hs)
 · rw [hg]
   obtain ⟨t, r, h1, h2⟩ := hA.starts
   exact ⟨t, r, h1, Or.inr h2, fun _ => h2⟩
theorem first_ne {f : TF} : ∀ (l : List MExpr) {ts : List MToken} {a : Nat} {r : List MToken}, (∀ x, x ∈ l -> RT f x) -> ts.drop a = sepT f l ++ tk1 7 rbrM :: r -> tkxB ts a 7 colM = false /\ tkxB ts a 7 barM = false
 | [], ts, a, r, _, h => ⟨xm_no (show ts.drop a = tk1 7 rbrM :: r from h) (by decide), xm_no (show ts.drop a = tk1 7 rbrM :: r from h) (by decide)⟩
 | x :: l, ts, a, r, hR, h => by
  obtain ⟨t, u, e, hs, -⟩ := (hR x (by simp)).h
  have h0 : ∃ v, ts.drop a = t :: v := by
   cases l with
   | nil => exact ⟨_, by rw [h]; show f x ++ _ = _; rw [e]; rfl⟩
   | cons y l => exact ⟨_, by rw [h]; show (f x ++ _) ++ _ = _; rw [e]; rfl⟩
  obtain ⟨v, h0⟩ := h0
  rcases hs with rfl | hk | rfl | rfl
  · exact ⟨xm_no h0 (by decide), xm_no h0 (by decide)⟩
  · exact ⟨xk_no h0 (by omega), xk_no h0 (by omega)⟩
  · exact ⟨xm_no h0 (by decide), xm_no h0 (by decide)⟩
  · exact ⟨xm_no h0 (by decide), xm_no h0 (by decide)⟩
theorem vars_first {f : TF} {l : List ByteArray} {k : List MExpr} {ts : List MToken} {a : Nat} {r : List MToken} (hR : ∀ x, x ∈ k -> RT f x) (h : ts.drop a = varsT l ++ (sepT f k ++ tk1 7 rbrM :: r)) : tkxB ts a 7 colM = false := by
 unfold varsT at h
 split at h
 · exact (first_ne k hR h).1
 · exact xm_no (show ts.drop a = tk1 7 barM :: (l.map (tk1 1) ++ [tk1 7 barM] ++ (sepT f k ++ tk1 7 rbrM :: r)) by rw [h]; rfl) (by decide)
theorem rt_block_at {f : TF} {e : MExpr} (h8 : e.kind = 8) (ht : e.text = ⟨#[]⟩) (h0 : 0 <= e.number) (h1 : e.number <= (e.names.length : Int)) (hR : ∀ x, x ∈ e.kids -> RT f x) (h9 : ∀ x, x ∈ e.kids.take (e.kids.length - 1) -> x.kind ≠ 9) {ts : List MToken} {a j : Nat} {r : List MToken} (h : ts.drop a = blockT f e ++ r) (hj : j = a + (blockT f e).length) : Ev (fun k => pPrim ts k a) (some (e, j)) := by
 obtain ⟨m, hm⟩ : ∃ m : Nat, e.number = m := ⟨e.number.toNat, by omega⟩
 have hmt : e.number.toNat = m := by omega
 have hP : (e.names.take m).length = m := by rw [List.length_take]; omega
 unfold blockT at h hj
 rw [hmt] at h hj
 have hA : ts.drop a = tk1 7 lbrM :: (parsT (e.names.take m) ++ ((if e.number = 0 then [] else [tk1 7 barM]) ++ (varsT (e.names.drop m) ++ (sepT f e.kids ++ (tk1 7 rbrM :: r))))) := by rw [h]; simp
 have k1 := (dr_get hA).2
 have k2 := dr_app k1
 obtain ⟨a2, ha2⟩ : ∃ n, a + 1 + (parsT (e.names.take m)).length = n := ⟨_, rfl⟩
 rw [ha2] at k2
 obtain ⟨a3, ha3⟩ : ∃ n, (if e.number = 0 then a2 else a2 + 1) = n := ⟨_, rfl⟩
 have k3 : ts.drop a3 = varsT (e.names.drop m) ++ (sepT f e.kids ++ (tk1 7 rbrM :: r)) := by
  by_cases hz : e.number = 0
  · rw [if_pos hz] at k2 ha3; rw [<- ha3]; exact k2
  · rw [if_neg hz] at k2 ha3; rw [<- ha3]; exact (dr_get k2).2
 have k4 := dr_app k3
 obtain ⟨a4, ha4⟩ : ∃ n, a3 + (varsT (e.names.drop m)).length = n := ⟨_, rfl⟩
 rw [ha4] at k4
 have k5 := dr_app k4
 have hcol : tkxB ts a2 7 colM = false := by
  by_cases hz : e.number = 0
  · rw [if_pos hz] at ha3
    subst ha3
    exact vars_first hR k3
  · rw [if_neg hz] at k2
    exact xm_no (show ts.drop a2 = tk1 7 barM :: _ from k2) (by decide)
 have hbar : m ≠ 0 -> tkxB ts a2 7 barM = true := fun hz => by
  rw [if_neg (by omega)] at k2
  exact xm_yes (show ts.drop a2 = tk1 7 barM :: _ from k2)
 have E1 := pars_at (e.names.take m) [] k1 ha2.symm hcol
 have E2 := vars_at (e.names.drop m) k3 ha4.symm (first_ne e.kids hR k4).2
 have E3 := stms_at e.kids [] hR h9 k4 rfl
 rw [List.nil_append] at E1 E3
 have hblk : blockM (e.names.take m) (e.names.drop m) e.kids = e := by
  unfold blockM
  rw [hP, List.take_append_drop]
  obtain ⟨k, t, nu, nm, kids⟩ := e
  simp only at *
  subst h8 ht hm
  rfl
 have hjj : a4 + (sepT f e.kids).length + 1 = j := by
  rw [hj]
  by_cases hz : e.number = 0
  · rw [if_pos hz] at ha3 ⊢; simp; omega
  · rw [if_neg hz] at ha3 ⊢; simp; omega
 have EB : Ev (fun k => pBody ts k (a + 1)) (some (e, a4 + (sepT f e.kids).length)) := by
  refine Ev.step (g := fun n => (pPars ts n [] (a + 1)).bind fun p => if (p.1.length ≠ 0 /\ tkxB ts p.2 7 barM = false) then none else (pVars ts n (if p.1.length ≠ 0 then p.2 + 1 else p.2)).bind fun v => (pStmts ts n [] v.2).bind fun b => some (blockM p.1 v.1 b.1, b.2)) (fun n => by rw [pBody]) (Ev.bind (g := fun n (p : List ByteArray × Nat) => if (p.1.length ≠ 0 /\ tkxB ts p.2 7 barM = false) then none else (pVars ts n (if p.1.length ≠ 0 then p.2 + 1 else p.2)).bind fun v => (pStmts ts n [] v.2).bind fun b => some (blockM p.1 v.1 b.1, b.2)) E1 ?_)
  have e3 : (if (e.names.take m).length ≠ 0 then a2 + 1 else a2) = a3 := by
   rw [hP, <- ha3]
   by_cases hz : m = 0
   · rw [if_neg (by omega), if_pos (by omega)]
   · rw [if_pos hz, if_neg (by omega)]
  have e4 : ¬ ((e.names.take m).length ≠ 0 /\ tkxB ts a2 7 barM = false) := fun hh => by rw [hP] at hh; have := hbar hh.1; rw [hh.2] at this; cases this
  have E4 : Ev (fun n => (pVars ts n a3).bind fun v => (pStmts ts n [] v.2).bind fun b => some (blockM (e.names.take m) v.1 b.1, b.2)) (some (e, a4 + (sepT f e.kids).length)) := by
   refine Ev.bind (g := fun n (v : List ByteArray × Nat) => (pStmts ts n [] v.2).bind fun b => some (blockM (e.names.take m) v.1 b.1, b.2)) E2 (Ev.bind (g := fun n (b : List MExpr × Nat) => some (blockM (e.names.take m) (e.names.drop m) b.1, b.2)) E3 ⟨0, fun _ _ => ?_⟩)
   show some (blockM (e.names.take m) (e.names.drop m) e.kids, a4 + (sepT f e.kids).length) = _
   rw [hblk]
  obtain ⟨n0, hn0⟩ := E4
  refine ⟨n0, fun n hn => ?_⟩
  show (if ((e.names.take m).length ≠ 0 /\ tkxB ts a2 7 barM = false) then none else (pVars ts n (if (e.names.take m).length ≠ 0 then a2 + 1 else a2)).bind fun v => (pStmts ts n [] v.2).bind fun b => some (blockM (e.names.take m) v.1 b.1, b.2)) = _
  rw [if_neg e4, e3]
  exact hn0 n hn
 refine Ev.step (g := fun n => pBlock ts n (a + 1)) (fun n => ?_) (Ev.step (g := fun n => (pBody ts n (a + 1)).bind fun r => if tkxB ts r.2 7 rbrM = true then some (r.1, r.2 + 1) else none) (fun n => by rw [pBlock]) (Ev.bind (g := fun n (r : MExpr × Nat) => if tkxB ts r.2 7 rbrM = true then some (r.1, r.2 + 1) else none) EB ⟨0, fun _ _ => ?_⟩))
 · rw [pPrim, if_neg (by rw [b_at hA]; decide), if_neg (by rw [b_at hA]; decide), if_neg (by rw [b_at hA]; decide), if_neg (by rw [b_at hA]; decide), if_neg (by rw [xm_no hA (by decide)]; decide), if_pos (xm_yes hA)]
 · show (if tkxB ts (a4 + (sepT f e.kids).length) 7 rbrM = true then _ else _) = _
   rw [if_pos (xm_yes k5), hjj]
theorem rt_all : ∀ (n : Nat) (e : MExpr), okR n true e -> RT (tkE n) e
 | 0, e, h => absurd h id
 | n + 1, e, h => by
  have hhd := (okR_succ.1 h).1.1
  obtain ⟨n1, n2, hbd, c1, c2, c3, c4, c5, c6, c7, c8, c9⟩ := hhd
  have IH : ∀ z, okR n false z -> RT (tkE n) z /\ z.kind ≠ 9 := fun z hz => ⟨rt_all n z (okR_false.1 hz).2, (okR_false.1 hz).1⟩
  have hA := tk_noasg (n + 1) e h
  have hst : tkE (n + 1) e = stepT (tkE n) e := rfl
  by_cases h6 : e.kind = 6
  · obtain ⟨k0, l, he, hl, hk, hz⟩ := send_ok h6 h
    have hts : tkE (n + 1) e = sendT (tkE n) k0 e.text l := by
     rw [hst]
     unfold stepT
     rw [if_neg (by omega), if_neg (by omega), if_neg (by omega), if_neg (by omega), if_pos h6]
     rw [he]; rfl
    have hA2 := hA (by omega) (by omega)
    rw [hts] at hA2
    have he2 : e = eMsg e.text (k0 :: l) := he
    rw [he2] at hts ⊢
    exact RT.of_send ⟨hl, IH k0 hk, fun z hz2 => IH z (hz z hz2)⟩ _ hts hA2
  by_cases h7 : e.kind = 7
  · obtain ⟨k0, m, l, he, hne, hk, hm⟩ := casc_ok h7 h
    obtain ⟨em, hl, hz⟩ := hm m (by simp)
    have R : SR (tkE n) k0 m.text m.kids := ⟨hl, IH k0 hk, fun z hz2 => IH z (hz z hz2)⟩
    have hts : tkE (n + 1) e = sendT (tkE n) k0 m.text m.kids ++ msgsT (tkE n) l := by
     rw [hst]
     unfold stepT
     rw [if_neg (by omega), if_neg (by omega), if_neg (by omega), if_neg (by omega), if_neg (by omega), if_pos h7]
     rw [he]; rfl
    have hA1 : NoAsg (sendT (tkE n) k0 m.text m.kids) := sendT_noasg hl (fun a b => tk_noasg n k0 (okR_false.1 hk).2 a b)
    refine ⟨fun h4 => by have := bindE_zero (e := e) (Or.inr (Or.inl h7)); omega, fun h4 => by have := bindE_zero (e := e) (Or.inr (Or.inl h7)); omega, fun h4 => by have := bindE_zero (e := e) (Or.inr (Or.inl h7)); omega, fun _ {ts a j r} hd hj hF hs => ?_, fun h => by omega, ?_⟩
    · rw [hts] at hd hj
      rw [List.append_assoc] at hd
      have d2 := dr_app hd
      obtain ⟨a1, ha1⟩ : ∃ x, a + (sendT (tkE n) k0 m.text m.kids).length = x := ⟨_, rfl⟩
      rw [ha1] at d2
      have hsemi : tkxB ts a1 7 semiM = true /\ Fo ts a1 := by
       cases l with
       | nil => exact absurd rfl hne
       | cons y k =>
        have d3 : ts.drop a1 = tk1 7 semiM :: (msgT (tkE n) y.text y.kids ++ msgsT (tkE n) k ++ r) := by rw [d2]; simp [msgsT]
        exact ⟨xm_yes d3, Fo.mark d3 (by decide)⟩
      have hc := casc_at (f := tkE n) (ts := ts) (j := j) l [k0, m] (fun x hx => by
       obtain ⟨x1, x2, x3⟩ := hm x (by simp [hx])
       exact ⟨x1, x2, fun z hz2 => IH z (x3 z hz2)⟩) d2 (by rw [hj, <- ha1]; simp; omega) hF hs
      refine send_w R hd ha1.symm hsemi.2 hA1 _ (Ev.step (g := fun n_ => pCasc ts n_ ((eMsg m.text (k0 :: m.kids)).kids.take 1 ++ [eMsg (eMsg m.text (k0 :: m.kids)).text ((eMsg m.text (k0 :: m.kids)).kids.drop 1)]) a1) (fun n_ => by rw [pSemi, if_pos hsemi.1, if_pos rfl]) ?_)
      have e1 : (eMsg m.text (k0 :: m.kids)).kids.take 1 ++ [eMsg (eMsg m.text (k0 :: m.kids)).text ((eMsg m.text (k0 :: m.kids)).kids.drop 1)] = [k0, m] := by
       show [k0, eMsg m.text m.kids] = [k0, m]
       rw [<- em]
      rw [e1, he]
      exact hc
    · obtain ⟨t, r, h1, h2⟩ := (hA (by omega) (by omega)).starts
      exact ⟨t, r, h1, Or.inr h2, fun _ => h2⟩
  by_cases h5 : e.kind = 5
  · obtain ⟨-, hlen⟩ := c5 h5
    have hk1 := (okR_plain (by omega) (by omega)).1 h
    obtain ⟨z, hz⟩ : ∃ z, e.kids = [z] := List.length_eq_one_iff.1 hlen
    obtain ⟨R, z9⟩ := IH z (hk1.2 z (by rw [hz]; simp))
    have he : e = eAsg e.text z := by
     have hnm : e.names = [] := by rcases n1 with h | h <;> first | exact h | omega
     have hnu : e.number = 0 := by rcases n2 with h | h | h <;> first | exact h | omega
     obtain ⟨k, t, nu, nm, kids⟩ := e
     simp only at *
     subst h5 hnm hnu hz
     rfl
    have hts : tkE (n + 1) e = tk1 1 e.text :: tk1 7 asgM :: tkE n z := by
     rw [hst]
     unfold stepT
     rw [if_neg (by omega), if_neg (by omega), if_neg (by omega), if_pos h5, hz]
     rfl
    refine ⟨fun h4 => by have := bindE_zero (e := e) (Or.inl h5); omega, fun h4 => by have := bindE_zero (e := e) (Or.inl h5); omega, fun h4 => by have := bindE_zero (e := e) (Or.inl h5); omega, fun _ {ts a j r} hd hj hF hs => ?_, fun h => by omega, ⟨_, _, hts, Or.inr (Or.inl (Or.inl rfl)), fun _ => Or.inl (Or.inl rfl)⟩⟩
    rw [hts] at hd hj
    have d0 : ts.drop a = tk1 1 e.text :: tk1 7 asgM :: (tkE n z ++ r) := hd
    have d1 := (dr_get d0).2
    have d2 := (dr_get d1).2
    have hT : tkT ts a = e.text := (k_at d0).2.1
    have hx := R.x z9 (j := j) d2 (by rw [hj]; simp; omega) hF hs
    refine Ev.step (g := fun n_ => (pExpr ts n_ (a + 2)).bind fun r => some (eAsg (tkT ts a) r.1, r.2)) (fun n_ => by rw [pExpr, if_pos (by rw [b_at d0, xm_yes d1]; rfl)]) (Ev.bind (g := fun n_ (r : MExpr × Nat) => some (eAsg (tkT ts a) r.1, r.2)) hx ⟨0, fun _ _ => ?_⟩)
    show some (eAsg (tkT ts a) z, j) = _
    rw [hT, <- he]
  by_cases h9 : e.kind = 9
  · obtain ⟨ht, hlen⟩ := c9 h9
    have hk1 := (okR_plain (by omega) (by omega)).1 h
    obtain ⟨z, hz⟩ : ∃ z, e.kids = [z] := List.length_eq_one_iff.1 hlen
    obtain ⟨R, z9⟩ := IH z (hk1.2 z (by rw [hz]; simp))
    have he : e = eRet z := by
     have hnm : e.names = [] := by rcases n1 with h | h <;> first | exact h | omega
     have hnu : e.number = 0 := by rcases n2 with h | h | h <;> first | exact h | omega
     obtain ⟨k, t, nu, nm, kids⟩ := e
     simp only at *
     subst h9 hnm hnu hz ht
     rfl
    have hts : tkE (n + 1) e = tk1 7 retM :: tkE n z := by
     rw [hst]
     unfold stepT
     rw [if_neg (by omega), if_neg (by omega), if_neg (by omega), if_neg (by omega), if_neg (by omega), if_neg (by omega), if_neg (by omega), if_pos h9, hz]
     rfl
    refine ⟨fun h4 => by have := bindE_zero (e := e) (Or.inr (Or.inr h9)); omega, fun h4 => by have := bindE_zero (e := e) (Or.inr (Or.inr h9)); omega, fun h4 => by have := bindE_zero (e := e) (Or.inr (Or.inr h9)); omega, fun h => absurd h9 h, fun _ {ts a j r} hd hj hF hs => ?_, ⟨_, _, hts, Or.inl rfl, fun h => absurd h9 h⟩⟩
    rw [hts] at hd hj
    have d0 : ts.drop a = tk1 7 retM :: (tkE n z ++ r) := hd
    exact ⟨z, he, xm_yes d0, R.x z9 (dr_get d0).2 (by rw [hj]; simp; omega) hF hs⟩
  refine RT.of_prim h5 h6 h7 h9 (hA h5 h9) (fun {ts a j r} hd hj => ?_)
  rw [hst] at hd hj
  unfold stepT at hd hj
  have hnm : e.kind ≠ 8 -> e.names = [] := fun h8 => by rcases n1 with h | h <;> first | exact h | omega
  by_cases h1 : e.kind = 1
  · rw [if_pos h1] at hd hj
    obtain ⟨x1, -, x3⟩ := c1 h1
    have hN : tkN ts a = e.number := (k_at (show ts.drop a = _ :: r from hd)).2.2
    have hn8 := hnm (by omega)
    obtain rfl : j = a + 1 := hj
    refine Ev.step (g := fun _ => some (e, a + 1)) (fun n_ => ?_) (Ev.const _)
    rw [pPrim, if_neg (by rw [b_at (show ts.drop a = _ :: r from hd)]; simp), if_pos (by rw [b_at (show ts.drop a = _ :: r from hd)]; simp), hN]
    obtain ⟨k, t, nu, nm, kids⟩ := e
    simp only at *
    subst h1 x1 x3 hn8
    rfl
  rw [if_neg h1] at hd hj
  have hnu : e.kind ≠ 8 -> e.number = 0 := fun h8 => by rcases n2 with h | h | h <;> first | exact h | omega
  by_cases h2 : e.kind = 2
  · rw [if_pos h2] at hd hj
    obtain ⟨-, x3⟩ := c2 h2
    have d0 : ts.drop a = tk1 4 e.text :: r := hd
    have hT : tkT ts a = e.text := (k_at d0).2.1
    have hn8 := hnm (by omega)
    have hu8 := hnu (by omega)
    obtain rfl : j = a + 1 := hj
    refine Ev.step (g := fun _ => some (e, a + 1)) (fun n_ => ?_) (Ev.const _)
    rw [pPrim, if_neg (by rw [b_at d0]; simp [tk1]), if_neg (by rw [b_at d0]; simp [tk1]), if_pos (by rw [b_at d0]; rfl), hT]
    obtain ⟨k, t, nu, nm, kids⟩ := e
    simp only at *
    subst h2 x3 hn8 hu8
    rfl
  rw [if_neg h2] at hd hj
  by_cases h3 : e.kind = 3
  · rw [if_pos h3] at hd hj
    obtain ⟨-, x3⟩ := c3 h3
    have d0 : ts.drop a = tk1 5 e.text :: r := hd
    have hT : tkT ts a = e.text := (k_at d0).2.1
    have hn8 := hnm (by omega)
    have hu8 := hnu (by omega)
    obtain rfl : j = a + 1 := hj
    refine Ev.step (g := fun _ => some (e, a + 1)) (fun n_ => ?_) (Ev.const _)
    rw [pPrim, if_neg (by rw [b_at d0]; simp [tk1]), if_neg (by rw [b_at d0]; simp [tk1]), if_neg (by rw [b_at d0]; simp [tk1]), if_pos (by rw [b_at d0]; rfl), hT]
    obtain ⟨k, t, nu, nm, kids⟩ := e
    simp only at *
    subst h3 x3 hn8 hu8
    rfl
  rw [if_neg h3, if_neg h5, if_neg h6, if_neg h7] at hd hj
  by_cases h8 : e.kind = 8
  · rw [if_pos h8] at hd hj
    obtain ⟨-, b1, b2⟩ := (okR_block h8).1 h
    obtain ⟨-, y1, y2, y3⟩ := c8 h8
    refine rt_block_at h8 y1 y2 y3 (fun x hx => ?_) (fun x hx => (okR_false.1 (b1 x hx)).1) hd hj
    obtain ⟨i, hi, rfl⟩ := List.mem_iff_getElem.1 hx
    by_cases hl : i + 1 < e.kids.length
    · exact (IH _ (b1 _ (List.mem_iff_getElem.2 ⟨i, by rw [List.length_take]; omega, by simp⟩))).1
    · have : i = e.kids.length - 1 := by omega
      subst this
      exact rt_all n _ (b2 (by omega))
  rw [if_neg h8, if_neg h9] at hd hj
  have h4 : e.kind = 4 := by omega
  obtain ⟨-, x3⟩ := c4 h4
  have d0 : ts.drop a = tk1 1 e.text :: r := hd
  have hT : tkT ts a = e.text := (k_at d0).2.1
  have hn8 := hnm (by omega)
  have hu8 := hnu (by omega)
  obtain rfl : j = a + 1 := hj
  refine Ev.step (g := fun _ => some (e, a + 1)) (fun n_ => ?_) (Ev.const _)
  rw [pPrim, if_pos (by rw [b_at d0]; rfl), hT]
  obtain ⟨k, t, nu, nm, kids⟩ := e
  simp only at *
  subst h4 x3 hn8 hu8
  rfl
theorem parse_tk {n : Nat} {e : MExpr} (h : okR n true e) (h9 : e.kind ≠ 9) : Ev (fun k => pExpr (tkE n e) k 0) (some (e, (tkE n e).length)) := by
 have hd : (tkE n e).drop 0 = tkE n e ++ [] := by simp
 have hn : (tkE n e).drop (tkE n e).length = [] := by simp
 exact (rt_all n e h).x h9 hd (by simp) (Fo.nil hn) (x_nil hn _ _)
end Go.Proofs.YtndhpbjhkgdieaaGreatDoor
