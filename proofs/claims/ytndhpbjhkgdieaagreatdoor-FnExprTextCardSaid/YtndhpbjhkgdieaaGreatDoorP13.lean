/-
  CONTRACTS: FormatToken, of the program and of the reference.
  Conditions: those that each lemma states.
-/
import Derived.Test.YtndhpbjhkgdieaaGreatDoorRows
import Derived.Lib.Replace
import Derived.Laws.AppendOwn
import Derived.Test.YtndhpbjhkgdieaaGreatDoorP07
import Derived.Test.YtndhpbjhkgdieaaGreatDoorP06
import Derived.Test.YtndhpbjhkgdieaaGreatDoorP03
import Derived.Test.YtndhpbjhkgdieaaGreatDoorP10
namespace Go.Proofs.YtndhpbjhkgdieaaGreatDoor
open Go.RowKit Go.Joins
set_option maxHeartbeats 8000000
set_option maxRecDepth 100000
set_option linter.unusedSimpArgs false
set_option linter.unusedVariables false
def subL (c : UInt8) (new : List UInt8) : List UInt8 -> List UInt8
 | [] => []
 | b :: t => if b = c then new ++ subL c new t else b :: subL c new t
theorem subL_snoc (c : UInt8) (new : List UInt8) (b : UInt8) : ∀ l : List UInt8, subL c new (l ++ [b]) = subL c new l ++ (if b = c then new else [b])
 | [] => by by_cases h : b = c <;> simp [subL, h]
 | a :: t => by
  by_cases h : a = c <;> simp [subL, h, subL_snoc c new b t, List.append_assoc]
theorem subL_len (c : UInt8) (l : List UInt8) : (subL c [c, c] l).length <= 2 * l.length := by
 induction l with
 | nil => simp [subL]
 | cons b t ih => by_cases h : b = c <;> simp [subL, h] <;> omega
theorem replaceK_ne (c b : UInt8) (new : List UInt8) (hb : b ≠ c) : ∀ (k : Nat) (t : List UInt8), Lib.replaceK [c] new k (b :: t) = b :: Lib.replaceK [c] new k t
 | 0, t => rfl
 | k + 1, t => by
  have hp : ([c] : List UInt8).isPrefixOf (b :: t) = false := by simp [List.isPrefixOf, Ne.symm hb]
  have hix : Lib.index (b :: t) [c] = if Lib.index t [c] == -1 then -1 else Lib.index t [c] + 1 := by rw [Lib.index, hp]; simp
  by_cases hm : Lib.index t [c] = -1
  · simp [Lib.replaceK, hix, hm]
  · have hge := Lib.index_ge t [c]
    obtain ⟨j, hj⟩ : ∃ j : Nat, Lib.index t [c] = j := ⟨(Lib.index t [c]).toNat, by omega⟩
    have h1 : ((j : Int) == -1) = false := by simp <;> omega
    have h2 : ((j : Int) + 1 == -1) = false := by simp <;> omega
    have h3 : ((j : Int) + 1).toNat = j + 1 := by omega
    simp [Lib.replaceK, hix, hj, h1, h2, h3]
theorem replaceK_sub (c : UInt8) (new : List UInt8) : ∀ l : List UInt8, Lib.replaceK [c] new (Lib.count l [c]) l = subL c new l
 | [] => by rw [Lib.count_miss (by simp [Lib.index])]; simp [Lib.replaceK, subL]
 | b :: t => by
  by_cases h : b = c
  · subst h
    rw [Lib.count_cons_eq, Nat.add_comm]
    have hix : Lib.index (b :: t) [b] = ((0 : Nat) : Int) := by rw [Lib.index]; simp [List.isPrefixOf]
    rw [Lib.replaceK_hit _ _ _ _ 0 hix]
    simp [subL, replaceK_sub b new t]
  · rw [Lib.count_cons_ne b c t h, replaceK_ne c b new h, replaceK_sub c new t]
    simp [subL, h]
theorem replaceAll_sub (c : UInt8) (l : List UInt8) : Lib.replaceAll l [c] [c, c] = subL c [c, c] l := by
 have h : ¬ (([c] : List UInt8) == [c, c]) = true := by simp
 rw [Lib.replaceAll, Lib.replace, if_neg h, Lib.replaceNum, if_pos (Or.inl (by omega)), replaceK_sub]
theorem countB_le (s : ByteArray) (c : UInt8) : Lib.countB s ⟨#[c]⟩ <= s.size := by
 have h1 := countB_cut c s
 have h2 := cutB_le c s
 omega
def quoteB (s : ByteArray) : ByteArray := ⟨(39 :: (subL 39 [39, 39] s.data.toList ++ [39])).toArray⟩
def tokB (x : MToken) : ByteArray := if x.kind = 3 then itoaB x.number else if x.kind = 4 then quoteB x.text else if x.kind = 5 then ⟨#[35]⟩ ++ x.text else x.text
theorem tok_ok {x : MToken} (h : x.d.ok) : -9223372036854775808 <= x.number /\ x.number <= 9223372036854775807 := by
 rw [MToken.d_eq] at h
 simp only [D.ok, D.okL] at h
 exact h.2.2.1
theorem tok_bulk {x : MToken} (h : x.d.bulk <= 1048576) : x.text.size <= 1048576 := by
 rw [MToken.d_eq] at h
 simp only [D.bulk, D.bulkL] at h
 omega
theorem impl_FormatToken_any (x : MToken) (cx : List Value) (w : World) (rx : Rep w x.d cx) (hb : x.d.bulk <= 1048576) (ox : x.d.ok) (hm : TabOk w) (hM : MaxOk w) :
 Calls Tryz.prog 31 #[.agg cx.toArray] w fun e w' => e = .returned (.string (tokB x)) /\ Ext w w' := by
 obtain rfl := MToken.op_en rx
 clear rx
 obtain ⟨o0, o1⟩ := tok_ok ox
 have ht := tok_bulk hb
 clear hb ox
 obtain ⟨K, t, num⟩ := x
 simp only at *
 have E1 : ∀ o : Obj, Ext w (w.alloc o) := fun o => (XR w).alloc _
 by_cases h3 : K = 3
 · subst h3
   have hp : Hid (tokB ⟨3, t, num⟩ = itoaB num) := LH (by simp [tokB])
   go_enter Tryz.func31, Tryz.ntmps31
   go_wp2_with fail
   refine (impl_FormatInt_any num _ o0 o1 (hm.ext (E1 _))).mono ?_
   rintro e w1 ⟨rfl, hx⟩
   go_wp2_with fail
   go_ret
   exact ⟨ret_str (by rw [hp.out]), (E1 _).trans hx⟩
 have e3 := int_ne h3
 by_cases h4 : K = 4
 · subst h4
   have hp : Hid (tokB ⟨4, t, num⟩ = quoteB t) := LH (by simp [tokB])
   have hsz : (⟨(subL 39 [39, 39] t.data.toList).toArray⟩ : ByteArray).size <= 2097152 := by
    have := subL_len 39 t.data.toList
    have e : t.data.toList.length = t.size := by simp
    simp only [ByteArray.size, List.size_toArray]
    omega
   have hcount := countB_le t 39
   obtain ⟨m, hm0⟩ := hM
   have hr : Hid (⟨(Lib.replaceAll t.data.toList (⟨#[39]⟩ : ByteArray).data.toList (⟨#[39, 39]⟩ : ByteArray).data.toList).toArray⟩ = (⟨(subL 39 [39, 39] t.data.toList).toArray⟩ : ByteArray)) := LH (by
    rw [show (⟨#[39]⟩ : ByteArray).data.toList = [39] from rfl, show (⟨#[39, 39]⟩ : ByteArray).data.toList = [39, 39] from rfl, replaceAll_sub])
   have hfin : Hid ((⟨#[39]⟩ : ByteArray) ++ (⟨(subL 39 [39, 39] t.data.toList).toArray⟩ : ByteArray) ++ ⟨#[39]⟩ = quoteB t) := LH (by apply ByteArray.ext; simp [quoteB])
   generalize hRR : (⟨(subL 39 [39, 39] t.data.toList).toArray⟩ : ByteArray) = R at *
   clear hRR
   go_enter Tryz.func31, Tryz.ntmps31
   go_wp2_with fail
   refine (Tryz.strings_ReplaceAll t ⟨#[39]⟩ ⟨#[39, 39]⟩ m _ (by omega) (Ext.cell (E1 _) hm0) (by decide) (by rw [show (⟨#[39, 39]⟩ : ByteArray).size = 2 from rfl]; omega)).mono ?_
   rw [hr.out]
   rintro e w1 ⟨rfl, hx⟩
   go_wp2_with fail
   go_ret
   exact ⟨ret_str (by rw [hp.out, <- hfin.out]), (E1 _).trans hx⟩
 have e4 := int_ne h4
 by_cases h5 : K = 5
 · subst h5
   have hp : Hid (tokB ⟨5, t, num⟩ = ⟨#[35]⟩ ++ t) := LH (by simp [tokB])
   go_enter Tryz.func31, Tryz.ntmps31
   go_wp2_with fail
   go_ret
   exact ⟨ret_str (by rw [hp.out]), E1 _⟩
 have e5 := int_ne h5
 have hp : Hid (tokB ⟨K, t, num⟩ = t) := LH (by simp [tokB, h3, h4, h5])
 clear h3 h4 h5
 go_enter Tryz.func31, Tryz.ntmps31
 go_wp2_with fail
 go_ret
 exact ⟨ret_str (by rw [hp.out]), E1 _⟩
end Go.Proofs.YtndhpbjhkgdieaaGreatDoor
