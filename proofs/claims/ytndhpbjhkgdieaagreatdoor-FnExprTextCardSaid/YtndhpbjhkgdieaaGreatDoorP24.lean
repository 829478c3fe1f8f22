/-
  SEVERAL TEXTS IN ONE: THE LAWS' MARKS: a result's memory is written over and read again; CONTRACTS: the cursor of draws; DrawIsSelector gives one of a few texts; CONTRACTS: the draws of numbers and of texts to part; A SLICE THAT A CALL GATHERS: where it lies behind an append; PLAIN: what marks make of any datum in memory ('mkD', 'mtD'), and a row of structs while its marks are stored; A SLICE THAT A CALL GATHERS, its elements' own rows anywhere since a block (they may be shared: nothing writes into them); THE PARSERS IN MEMORY: a struct of three fields: the tokens, the place, whether something was wrong; APPENDS of texts, and where the row lies then; CONTRACTS: BuiltinClasses, of the program and of the reference; CONTRACTS: the small functions of the reference's parser.
  Conditions: those that each lemma states.
-/
import Derived.Test.YtndhpbjhkgdieaaGreatDoorRows
import Derived.Laws.Bits128
import Derived.Lib.QuietBelow
import Derived.Deep.RegionHeld3
import Derived.BigQuiet
import Derived.Deep.QuietTactic
import Derived.Test.YtndhpbjhkgdieaaGreatDoorP02
import Derived.Test.YtndhpbjhkgdieaaGreatDoorP09
import Derived.Test.YtndhpbjhkgdieaaGreatDoorP04
import Derived.Test.YtndhpbjhkgdieaaGreatDoorP14
namespace Go.Proofs.YtndhpbjhkgdieaaGreatDoor
open Go.RowKit
set_option maxHeartbeats 8000000
set_option maxRecDepth 100000
set_option linter.unusedSimpArgs false
set_option linter.unusedVariables false
structure Touch (w w' : World) (fp : List Nat) : Prop where
 os : w'.os = w.os
 tape : w'.tape = w.tape
 output : w'.output = w.output
 size : w.heap.size <= w'.heap.size
 block : ∀ k, k < w.heap.size -> k ∉ fp -> w'.heap[k]? = w.heap[k]?
theorem Touch.of_ext {w w' : World} (h : Ext w w') (fp : List Nat) : Touch w w' fp := ⟨h.os, h.tape, h.output, h.size, fun k hk _ => h.block k hk⟩
theorem Touch.trans {a b c : World} {fp : List Nat} (h : Touch a b fp) (k : Touch b c fp) : Touch a c fp :=
 ⟨k.os.trans h.os, k.tape.trans h.tape, k.output.trans h.output, Nat.le_trans h.size k.size, fun i hi hn => (k.block i (Nat.lt_of_lt_of_le hi h.size) hn).trans (h.block i hi hn)⟩
theorem Touch.setCell {a w : World} {fp : List Nat} (h : Touch a w fp) {b o : Nat} (hb : b ∈ fp) (v : Value) : Touch a (w.setCell ⟨b, o, none⟩ v) fp :=
 h.trans ⟨rfl, rfl, rfl, by simp [World.setCell], fun k hk hn => heap_setCell_other w ⟨b, o, none⟩ k v (show k ≠ b from fun e => hn (e ▸ hb))⟩
theorem Touch.ext {w w1 w2 : World} {fp : List Nat} (h : Ext w w1) (k : Touch w1 w2 fp) (hf : ∀ b, b ∈ fp -> w.heap.size <= b) : Ext w w2 :=
 ⟨k.os.trans h.os, k.tape.trans h.tape, k.output.trans h.output, Nat.le_trans h.size k.size, fun i hi => (k.block i (Nat.lt_of_lt_of_le hi h.size) fun hm => by have := hf i hm; omega).trans (h.block i hi)⟩
theorem RepF.touch {w w' : World} {d : D} {cs : List Value} {fp gp : List Nat} (h : RepF w d cs gp) (k : Touch w w' fp) (hd : ∀ b, b ∈ gp -> b ∉ fp) : RepF w' d cs gp :=
 h.keep d fun b hb => k.block b (h.lt d b hb) (hd b hb)
theorem i64_and255 (n : Int) : bits .and .i64 n 255 = n % 256 := by
 have h255 : (BitVec.ofInt 64 255).toNat = 2 ^ 8 - 1 := by decide
 have key : (BitVec.ofInt 64 n &&& BitVec.ofInt 64 255).toNat = (n % ((2 ^ 64 : Nat) : Int)).toNat % 2 ^ 8 := by
  rw [BitVec.toNat_and, BitVec.toNat_ofInt, h255, Nat.and_two_pow_sub_one_eq_mod]
 show IntKind.i64.wrap ((BitVec.ofInt 64 n &&& BitVec.ofInt 64 255).toNat : Nat) = n % 256
 rw [key, IntKind.wrap_i64]
 omega
theorem addr_zero (a : Addr) : a.add 0 = a := by unfold Addr.add; split <;> simp_all
def Bytes (w : World) (v : Value) : Prop := ∃ ao n cap, v = .slice ao n cap /\ n <= 9223372036854775807 /\ (n = 0 ∨ ∃ a, ao = some a /\ ∀ k, k < n -> ∃ z, w.cell? (a.add k) = some (.int .u8 z) /\ 0 <= z /\ z <= 255)
theorem Bytes.ext {w w' : World} {v : Value} (h : Bytes w v) (hx : Ext w w') : Bytes w' v := by
 obtain ⟨ao, n, cap, hv, hn, hc⟩ := h
 refine ⟨ao, n, cap, hv, hn, hc.imp id fun ⟨a, ha, h⟩ => ⟨a, ha, fun k hk => ?_⟩⟩
 obtain ⟨z, h1, h2⟩ := h k hk
 exact ⟨z, Ext.cell hx h1, h2⟩
theorem Touch.cell {w w' : World} {fp : List Nat} {a : Addr} {v : Value} (h : Touch w w' fp) (ha : a.block ∉ fp) (hc : w.cell? a = some v) : w'.cell? a = some v := by
 have hb := h.block a.block (lt_of_cell hc) ha
 unfold World.cell? at hc ⊢
 rw [hb]; exact hc
theorem l1New_any (v : Value) (w : World) (hc : Bytes w v) :
 Calls Tryz.prog 15 #[v] w fun e w' => ∃ B, e = .returned (.pointer (some ⟨B, 0, none⟩)) /\ w.heap.size <= B /\ (∃ h, Own w' B 59 #[v, .int .i64 0, .int .i64 h]) /\ Ext w w' := by
 obtain ⟨ao, n, cap, rfl, hn, hz⟩ := hc
 go_enter Tryz.func15, Tryz.ntmps15
 go_wp2_with fail
 go_loop [3, 4] (fun hv iv => ∃ (h : Int) (k : Nat), hv = .int .i64 h /\ iv = .int .i64 k /\ k <= n /\ k <= 4000) (fun _ iv => n - (intOf iv).toNat)
 case atStart => exact ⟨_, 0, rfl, rfl, Nat.zero_le _, Nat.zero_le _⟩
 case round =>
  obtain ⟨h, k, rfl, rfl, hk, hk4⟩ := hrel
  by_cases hlt : k < n
  · by_cases h4 : k < 4000
    · rcases hz with rfl | ⟨a, rfl, hz⟩
      · omega
      obtain ⟨z, hz1, hz2, hz3⟩ := hz k hlt
      go_wp2_with fail
      go_round
      case rel => exact ⟨_, k + 1, rfl, by go_num, by omega, by omega⟩
      case measure => simp [intOf]; omega
    · have f1 : (4000 : Int) <= k := by omega
      go_wp2_with fail
      go_ret
      exact ⟨_, rfl, Nat.le_refl _, ⟨_, own_new _ _ _⟩, (XR w).alloc _⟩
  · go_wp2_with fail
    go_ret
    exact ⟨_, rfl, Nat.le_refl _, ⟨_, own_new _ _ _⟩, (XR w).alloc _⟩
def Cur (w : World) (B : Nat) (v : Value) : Prop := ∃ (i : Nat) (h : Int), i <= 9223372036854775807 /\ Own w B 59 #[v, .int .i64 i, .int .i64 h]
theorem Cur.ext {w w' : World} {B : Nat} {v : Value} (h : Cur w B v) (hx : Ext w w') : Cur w' B v := let ⟨i, q, hi, hO⟩ := h; ⟨i, q, hi, hO.ext hx⟩
theorem Cur.lt {w : World} {B : Nat} {v : Value} (h : Cur w B v) : B < w.heap.size := let ⟨_, _, _, hO⟩ := h; hO.lt
def Off (v : Value) (B : Nat) : Prop := ∀ (a : Addr) (n cap : Nat), 0 < n -> v = .slice (some a) n cap -> a.block ≠ B
theorem Bytes.touch {w w' : World} {v : Value} {B : Nat} (h : Bytes w v) (ht : Touch w w' [B]) (hB : Off v B) : Bytes w' v := by
 obtain ⟨ao, n, cap, rfl, hn, hc⟩ := h
 refine ⟨ao, n, cap, rfl, hn, ?_⟩
 rcases hc with rfl | ⟨a, rfl, hz⟩
 · exact Or.inl rfl
 · refine Or.inr ⟨a, rfl, fun k hk => ?_⟩
   obtain ⟨z, h1, h2⟩ := hz k hk
   have e : (a.add k).block = a.block := by unfold Addr.add; split <;> rfl
   exact ⟨z, ht.cell (by rw [e]; have := hB a n cap (by omega) rfl; simp [this]) h1, h2⟩
theorem l1Byte_gen (B : Nat) (v : Value) (i : Nat) (h : Int) (w : World) (hi : i <= 9223372036854775807) (hO : Own w B 59 #[v, .int .i64 i, .int .i64 h]) (hc : Bytes w v) (hB : ∀ (a : Addr) (n cap : Nat), 0 < n -> v = .slice (some a) n cap -> a.block ≠ B) :
 Calls Tryz.prog 62 #[.pointer (some ⟨B, 0, none⟩)] w fun e w' => (∃ x : Int, e = .returned (.int .i64 x) /\ 0 <= x /\ x <= 255) /\ Touch w w' [B] /\ Cur w' B v := by
 obtain ⟨ao, n, cap, rfl, hn, hz⟩ := hc
 have c0 : w.cell? ⟨B, 0, none⟩ = some (.slice ao n cap) := by rw [hO.cell]; rfl
 have c1 : w.cell? ⟨B, 1, none⟩ = some (.int .i64 i) := by rw [hO.cell]; rfl
 have c2 : w.cell? ⟨B, 2, none⟩ = some (.int .i64 h) := by rw [hO.cell]; rfl
 have z2 := hO.f2
 go_enter Tryz.func62, Tryz.ntmps62
 go_wp2_with fail
 generalize hW : World.setCell w _ _ = W1
 obtain ⟨h1, hO1⟩ : ∃ h1, Own W1 B 59 #[.slice ao n cap, .int .i64 i, .int .i64 h1] := ⟨_, by rw [<- hW]; exact hO.set 2 _⟩
 have T1 : Touch w W1 [B] := by rw [<- hW]; exact (Touch.of_ext (XR w) [B]).setCell (by simp) _
 clear hW c0 c1 c2 z2 hO
 have c0 : W1.cell? ⟨B, 0, none⟩ = some (.slice ao n cap) := by rw [hO1.cell]; rfl
 have c1 : W1.cell? ⟨B, 1, none⟩ = some (.int .i64 i) := by rw [hO1.cell]; rfl
 have c2 : W1.cell? ⟨B, 2, none⟩ = some (.int .i64 h1) := by rw [hO1.cell]; rfl
 have g2 := reg (XR _) c2
 refine wp_region_quiet_below (by kernel_rfl) (by kernel_rfl) ?_
 repeat (quiet_step (fail))
 refine wpQuiet_nil ?_
 clear g2
 intro _ hw'
 obtain ⟨pw, hw''⟩ := hw'
 subst hw''
 generalize hX : bits .and .i64 _ 255 = x
 rw [i64_and255] at hX
 have hx0 : 0 <= x := by omega
 have hx1 : x <= 255 := by omega
 clear hX
 have X1 := regx W1 pw
 generalize hW : «Sort».grow (redrawn W1 pw.d) pw.os = W2 at *
 clear hW
 have hO2 := hO1.ext X1
 have T2 := T1.trans (Touch.of_ext X1 [B])
 clear X1 T1 hO1 c0 c1 c2
 have c0 : W2.cell? ⟨B, 0, none⟩ = some (.slice ao n cap) := by rw [hO2.cell]; rfl
 have c1 : W2.cell? ⟨B, 1, none⟩ = some (.int .i64 i) := by rw [hO2.cell]; rfl
 have g0 := reg (XR _) c0
 have g1 := reg (XR _) c1
 by_cases hn0 : n <= i
 · have f0 : (n : Int) <= i := by omega
   have f1 : ((i : Int) < (n : Int)) = False := by simp; omega
   go_wp2_with fail
   refine wp_region_quiet_below (by kernel_rfl) (by kernel_rfl) ?_
   repeat (quiet_step (fail))
   refine wpQuiet_nil ?_
   clear g0 g1 c0 c1
   intro _ hw'
   obtain ⟨pw, hw''⟩ := hw'
   subst hw''
   have X2 := regx W2 pw
   generalize hW : «Sort».grow (redrawn W2 pw.d) pw.os = W3 at *
   go_wp2_with fail
   go_ret
   exact ⟨⟨x, rfl, hx0, hx1⟩, T2.trans (Touch.of_ext X2 [B]), ⟨i, _, hi, hO2.ext X2⟩⟩
 · have f0 : (i : Int) < (n : Int) := by omega
   rcases hz with rfl | ⟨a, rfl, hz⟩
   · omega
   obtain ⟨z, hz1, hz2, hz3⟩ := hz i (by omega)
   have hz1 := T2.cell (a := a.add i) (by
    have := hB a n cap (by omega) rfl
    have e : (a.add i).block = a.block := by unfold Addr.add; split <;> rfl
    rw [e]; simp [this]) hz1
   go_wp2_with fail
   refine wp_region_quiet_below (by kernel_rfl) (by kernel_rfl) ?_
   repeat (quiet_step (fail))
   refine wpQuiet_nil ?_
   clear g0 g1 c0 c1
   intro _ hw'
   obtain ⟨pw, hw''⟩ := hw'
   subst hw''
   have X2 := regx W2 pw
   generalize hW : «Sort».grow (redrawn W2 pw.d) pw.os = W3 at *
   clear hW
   have hO3 := hO2.ext X2
   have T3 := T2.trans (Touch.of_ext X2 [B])
   have hz1 := X2.cell hz1
   clear X2 T2 hO2
   have c0 : W3.cell? ⟨B, 0, none⟩ = some (.slice (some a) n cap) := by rw [hO3.cell]; rfl
   have c1 : W3.cell? ⟨B, 1, none⟩ = some (.int .i64 i) := by rw [hO3.cell]; rfl
   have g0 := reg (XR _) c0
   have g1 := reg (XR _) c1
   have gz := reg (XR _) hz1
   go_wp2_with fail
   refine wp_region_quiet_below (by kernel_rfl) (by kernel_rfl) ?_
   repeat (quiet_step (fail))
   refine wpQuiet_nil ?_
   clear g0 g1 c0 c1 gz
   intro _ hw'
   obtain ⟨pw, hw''⟩ := hw'
   subst hw''
   generalize hX : bits .and .i64 _ 255 = y
   rw [i64_and255] at hX
   have hy0 : 0 <= y := by omega
   have hy1 : y <= 255 := by omega
   clear hX
   have X3 := regx W3 pw
   generalize hW : «Sort».grow (redrawn W3 pw.d) pw.os = W4 at *
   clear hW
   have hO4 := hO3.ext X3
   have T4 := T3.trans (Touch.of_ext X3 [B])
   have c1 : W4.cell? ⟨B, 1, none⟩ = some (.int .i64 i) := by rw [hO4.cell]; rfl
   have z1 := hO4.f1
   go_wp2_with fail
   go_ret
   exact ⟨⟨y, rfl, hy0, hy1⟩, T4.setCell (by simp) _, ⟨i + 1, _, by omega, by have := hO4.set 1 (.int .i64 ((i : Int) + 1)); simpa using this⟩⟩
theorem l1Byte_cur (B : Nat) (v : Value) (w : World) (hC : Cur w B v) (hc : Bytes w v) (hB : Off v B) :
 Calls Tryz.prog 62 #[.pointer (some ⟨B, 0, none⟩)] w fun e w' => (∃ x : Int, e = .returned (.int .i64 x) /\ 0 <= x /\ x <= 255) /\ Touch w w' [B] /\ Cur w' B v := by
 obtain ⟨i, h, hi, hO⟩ := hC
 exact l1Byte_gen B v i h w hi hO hc hB
theorem l1Below_cur (B : Nat) (v : Value) (n : Nat) (w : World) (hC : Cur w B v) (hc : Bytes w v) (hB : Off v B) (h0 : 0 < n) (h1 : n <= 4294967296) :
 Calls Tryz.prog 29 #[.pointer (some ⟨B, 0, none⟩), .int .i64 n] w fun e w' => (∃ m : Nat, e = .returned (.int .i64 m) /\ m < n) /\ Touch w w' [B] /\ Cur w' B v := by
 have g0 : (0 : Int) < n := by omega
 have hnz : (n : Int) ≠ 0 := by omega
 have hne : ¬ n = 0 := by omega
 by_cases hs : n <= 256
 · have g1 : (n : Int) <= 256 := by omega
   go_enter Tryz.func29, Tryz.ntmps29
   go_wp2_with fail
   refine (l1Byte_cur B v w hC hc hB).mono ?_
   rintro e w1 ⟨⟨x, rfl, hx0, hx1⟩, hT, hC1⟩
   have hr0 : 0 <= x % (n : Int) := Int.emod_nonneg _ hnz
   have hr1 : x % (n : Int) < n := Int.emod_lt_of_pos _ g0
   go_wp2_with fail
   go_ret
   exact ⟨⟨(x % (n : Int)).toNat, by rw [Int.toNat_of_nonneg hr0]; rfl, by omega⟩, hT, hC1⟩
 · have g1 : (256 : Int) < n := by omega
   go_enter Tryz.func29, Tryz.ntmps29
   go_wp2_with fail
   refine (l1Byte_cur B v w hC hc hB).mono ?_
   rintro e w1 ⟨⟨x, rfl, hx0, hx1⟩, hT, hC1⟩
   go_wp2_with fail
   refine (l1Byte_cur B v w1 hC1 (hc.touch hT hB) hB).mono ?_
   rintro e w2 ⟨⟨y, rfl, hy0, hy1⟩, hT2, hC2⟩
   replace hT := hT.trans hT2
   go_wp2_with fail
   refine (l1Byte_cur B v w2 hC2 (hc.touch hT hB) hB).mono ?_
   rintro e w3 ⟨⟨z, rfl, hz0, hz1⟩, hT3, hC3⟩
   replace hT := hT.trans hT3
   go_wp2_with fail
   refine (l1Byte_cur B v w3 hC3 (hc.touch hT hB) hB).mono ?_
   rintro e w4 ⟨⟨u, rfl, hu0, hu1⟩, hT4, hC4⟩
   replace hT := hT.trans hT4
   have hr0 : 0 <= (x * 16777216 + y * 65536 + z * 256 + u) % (n : Int) := Int.emod_nonneg _ hnz
   have hr1 : (x * 16777216 + y * 65536 + z * 256 + u) % (n : Int) < n := Int.emod_lt_of_pos _ g0
   go_wp2_with fail
   go_ret
   exact ⟨⟨((x * 16777216 + y * 65536 + z * 256 + u) % (n : Int)).toNat, by rw [Int.toNat_of_nonneg hr0]; rfl, by omega⟩, hT, hC4⟩
theorem l1Pick_cur (B : Nat) (v : Value) (l : List ByteArray) (b cap : Nat) (w : World) (hC : Cur w B v) (hc : Bytes w v) (hB : Off v B) (h0 : 0 < l.length) (h1 : l.length <= 1000) (hb : b ≠ B) (ha : ∀ i s, l[i]? = some s -> w.cell? ⟨b, i, none⟩ = some (.string s)) :
 Calls Tryz.prog 30 #[.pointer (some ⟨B, 0, none⟩), .slice (some ⟨b, 0, none⟩) l.length cap] w fun e w' => (∃ s, e = .returned (.string s) /\ s ∈ l) /\ Touch w w' [B] /\ Cur w' B v := by
 go_enter Tryz.func30, Tryz.ntmps30
 go_wp2_with fail
 refine (l1Below_cur B v l.length w hC hc hB h0 (by omega)).mono ?_
 rintro e w1 ⟨⟨m, rfl, hm⟩, hT, hC1⟩
 have a0 := hT.cell (by simpa using hb) (ha m l[m] (by simp [hm]))
 clear ha
 go_wp2_with fail
 go_ret
 exact ⟨⟨_, rfl, List.getElem_mem hm⟩, hT, hC1⟩
theorem l1PickInt_cur (B : Nat) (v : Value) (l : List Int) (b cap : Nat) (w : World) (hC : Cur w B v) (hc : Bytes w v) (hB : Off v B) (h0 : 0 < l.length) (h1 : l.length <= 1000) (hb : b ≠ B) (ha : ∀ i z, l[i]? = some z -> w.cell? ⟨b, i, none⟩ = some (.int .i64 z)) :
 Calls Tryz.prog 58 #[.pointer (some ⟨B, 0, none⟩), .slice (some ⟨b, 0, none⟩) l.length cap] w fun e w' => (∃ z, e = .returned (.int .i64 z) /\ z ∈ l) /\ Touch w w' [B] /\ Cur w' B v := by
 go_enter Tryz.func58, Tryz.ntmps58
 go_wp2_with fail
 refine (l1Below_cur B v l.length w hC hc hB h0 (by omega)).mono ?_
 rintro e w1 ⟨⟨m, rfl, hm⟩, hT, hC1⟩
 have a0 := hT.cell (by simpa using hb) (ha m l[m] (by simp [hm]))
 clear ha
 go_wp2_with fail
 go_ret
 exact ⟨⟨_, rfl, List.getElem_mem hm⟩, hT, hC1⟩
theorem lit_ints (w : World) (l : List Int) (e : TypeId) : ∀ i z, l[i]? = some z -> (w.alloc (.cells (l.map (Value.int .i64)).toArray e)).cell? ⟨w.heap.size, i, none⟩ = some (.int .i64 z) := fun i z h => by
 rw [(own_new w _ e).cell]; simp [h]
theorem lit_strs (w : World) (l : List ByteArray) (e : TypeId) : ∀ i z, l[i]? = some z -> (w.alloc (.cells (l.map Value.string).toArray e)).cell? ⟨w.heap.size, i, none⟩ = some (.string z) := fun i z h => by
 rw [(own_new w _ e).cell]; simp [h]
theorem off_new {v : Value} {w : World} {B : Nat} (hc : Bytes w v) (hB : w.heap.size <= B) : Off v B := fun a n cap hn hv e => by
 obtain ⟨ao, n', cap', hv', hn', hz⟩ := hc
 rw [hv'] at hv
 simp only [Value.slice.injEq] at hv
 obtain ⟨rfl, rfl, rfl⟩ := hv
 rcases hz with rfl | ⟨a', ha', hz⟩
 · omega
 · obtain rfl : a = a' := by simpa using ha'
   obtain ⟨z, hz1, -⟩ := hz 0 hn
   rw [addr_zero] at hz1
   have := lt_of_cell hz1
   omega
theorem run_append_at {P : Program} {w : World} (t ty : TypeId) (B0 : Nat) (e : TypeId) (i : TypeInfo) (z : Value) (size bytes : Nat) (ht : P.underlying t = some (.slice e)) (hi : P.info? e = some i) (hz : i.zero = some z)
 (hsize : i.size = size) (hby : i.bytes = bytes) (hzs : z.cells.size = size) (hsz : 0 < size)
 (v : Value) (ds : List D) (fp : List Nat) (hacc : Acc B0 w e size v ds fp) (ys : List D) (ao : Option Addr) (m c : Nat) (gp : List Nat) (hr : RepF w (.sl size ys) [.slice ao m c] gp)
 (hF : Fresh w B0 (fp ++ gp.tail)) (hown : ∀ k, v.ownBlock = some k -> k ∉ gp.tail)
 (h63 : ds.length + m <= maxLen) (hbytes : (ds.length + m) * bytes <= 140737488355328) (hbase : B0 <= w.heap.size) :
 ∃ ao' cap' w', (Builtin.append_ #[t, t] ty #[v, .slice ao m c]).run P w = .ok (.slice ao' (ds.length + m) cap') w' /\ Acc B0 w' e size (.slice ao' (ds.length + m) cap') (ds ++ ys) (fp ++ gp.tail) /\ w.grownBy w' v.ownBlock /\ ((Value.slice ao' (ds.length + m) cap').ownBlock = v.ownBlock ∨ (Value.slice ao' (ds.length + m) cap').ownBlock = some w.heap.size) := by
 obtain ⟨xs, h1, h2, h3, h4⟩ := hacc
 obtain ⟨hm, hml, news, hnr, hsrc⟩ := hr.source
 rcases hsrc with ⟨rfl, rfl, rfl, rfl⟩ | ⟨ad, rfl, hcells⟩
 · have hgp : gp.tail = [] := by
    simp only [RepR] at hnr; exact hnr.2
   have hv : ∃ ao' cap', v = .slice ao' (ds.length + 0) cap' := by
    rcases h1.2 with ⟨rfl, hn⟩ | ⟨g, cap, cur, rfl, _⟩
    · exact ⟨none, 0, by rw [hn]⟩
    · exact ⟨_, cap, by rw [Nat.add_zero]⟩
   obtain ⟨ao', cap', hv⟩ := hv
   refine ⟨ao', cap', w, ?_, ⟨xs, by rw [<- hv]; simpa using h1, by rw [hgp]; simpa using h2, by rw [hgp]; simpa using h3, by rw [<- hv, hgp]; simpa using h4⟩, World.grownBy.refl _ _, Or.inl (by rw [<- hv])⟩
   rw [<- hv]
   exact run_append_owned_none (P := P) (w := w) B0 t ty e i size ht hi v ds.length xs h1
 · obtain ⟨v', w', hrun, hown', hgrow, hnil, hat⟩ := run_append_own_at (P := P) w B0 t ty e i z size bytes ht hi hz hsize hby hzs hsz v ds.length xs h1 ad m c news (by rw [hm]; exact hnr.length) hcells (fun u hu => RepR.one_cell hnr u hu) h63 hbytes hbase
   have hv : ∃ ao' cap', v' = .slice ao' (ds.length + m) cap' := by
    rcases hown'.2 with ⟨rfl, hn⟩ | ⟨g, cap, cur, rfl, _⟩
    · exact ⟨none, 0, by rw [hn]⟩
    · exact ⟨_, cap, rfl⟩
   have hkeep : ∀ k, k ∈ fp ++ gp.tail -> w'.heap[k]? = w.heap[k]? := fun k hk => grown_keep hgrow (hF.lt hk) (fun e => by
    rcases List.mem_append.1 hk with hk | hk
    · exact h4 k e hk
    · exact hown k e hk)
   obtain ⟨ao', cap', rfl⟩ := hv
   refine ⟨ao', cap', w', hrun, ⟨xs ++ news, by rw [List.length_append, <- hm]; exact hown', (h2.keep size ds fun k hk => hkeep k (List.mem_append_left _ hk)).append (hnr.keep size ys fun k hk => hkeep k (List.mem_append_right _ hk)),
    ⟨hF.nodup, hF.ge, fun b hb => let ⟨C, e', hO⟩ := hF.own b hb; ⟨C, e', (hkeep b hb).trans hO⟩⟩, fun k hk hkm => ?_⟩, hgrow, hat⟩
   rcases hat with hat | hat
   · rw [hat] at hk
     rcases List.mem_append.1 hkm with hkm | hkm
     · exact h4 k hk hkm
     · exact hown k hk hkm
   · have := hF.lt hkm
     rw [hat] at hk; injection hk with hk; omega
theorem wp_append_at {P : Program} {w : World} {o : Oper} {a : Act} {K : Act -> World -> Prop} {Q : Exit -> Act -> World -> Prop} (s x : Operand) (t : TypeId)
 (ho : o.op = .call { callee := .builtin .append, args := #[s, x], argTypes := #[t, t] })
 (B0 : Nat) (e : TypeId) (i : TypeInfo) (z : Value) (size bytes : Nat) (ht : P.underlying t = some (.slice e)) (hi : P.info? e = some i) (hz : i.zero = some z)
 (hsize : i.size = size) (hby : i.bytes = bytes) (hzs : z.cells.size = size) (hsz : 0 < size)
 (v : Value) (ds : List D) (fp : List Nat) (hs : a.eval s = v) (hacc : Acc B0 w e size v ds fp)
 (ys : List D) (ao : Option Addr) (m c : Nat) (gp : List Nat) (hx : a.eval x = .slice ao m c) (hr : RepF w (.sl size ys) [.slice ao m c] gp)
 (hF : Fresh w B0 (fp ++ gp.tail)) (hown : ∀ k, v.ownBlock = some k -> k ∉ gp.tail)
 (h63 : ds.length + m <= maxLen) (hbytes : (ds.length + m) * bytes <= 140737488355328) (hbase : B0 <= w.heap.size)
 (h : ∀ ao' cap' w', Acc B0 w' e size (.slice ao' (ds.length + m) cap') (ds ++ ys) (fp ++ gp.tail) -> w.grownBy w' v.ownBlock -> ((Value.slice ao' (ds.length + m) cap').ownBlock = v.ownBlock ∨ (Value.slice ao' (ds.length + m) cap').ownBlock = some w.heap.size) -> K (a.put o.dst (.slice ao' (ds.length + m) cap')) w') : o.wp P a w K Q := by
 obtain ⟨ao', cap', w', hrun, h2, h3, h4⟩ := run_append_at (P := P) t o.type B0 e i z size bytes ht hi hz hsize hby hzs hsz v ds fp hacc ys ao m c gp hr hF hown h63 hbytes hbase
 unfold Oper.wp execOp
 simp only [ho, resolve, invoke, builtin, Sem.run_bind, Sem.run_pure, Result.andThen_ok, List.map_toArray, List.map_cons, List.map_nil, hs, hx, hrun]
 exact h ao' cap' w' h2 h3 h4
theorem wpList_append_at {P : Program} {w : World} {ops : Array Oper} {rest : List Oper} {o : Oper} {a : Act} {Q : Exit -> Act -> World -> Prop} (hgd : o.guard = none) (s x : Operand) (t : TypeId)
 (ho : o.op = .call { callee := .builtin .append, args := #[s, x], argTypes := #[t, t] })
 (B0 : Nat) (e : TypeId) (i : TypeInfo) (z : Value) (size bytes : Nat) (ht : P.underlying t = some (.slice e)) (hi : P.info? e = some i) (hz : i.zero = some z)
 (hsize : i.size = size) (hby : i.bytes = bytes) (hzs : z.cells.size = size) (hsz : 0 < size)
 (v : Value) (ds : List D) (fp : List Nat) (hs : a.eval s = v) (hacc : Acc B0 w e size v ds fp)
 (ys : List D) (ao : Option Addr) (m c : Nat) (gp : List Nat) (hx : a.eval x = .slice ao m c) (hr : RepF w (.sl size ys) [.slice ao m c] gp)
 (hF : Fresh w B0 (fp ++ gp.tail)) (hown : ∀ k, v.ownBlock = some k -> k ∉ gp.tail)
 (h63 : ds.length + m <= maxLen) (hbytes : (ds.length + m) * bytes <= 140737488355328) (hbase : B0 <= w.heap.size)
 (h : ∀ ao' cap' w', Acc B0 w' e size (.slice ao' (ds.length + m) cap') (ds ++ ys) (fp ++ gp.tail) -> w.grownBy w' v.ownBlock -> ((Value.slice ao' (ds.length + m) cap').ownBlock = v.ownBlock ∨ (Value.slice ao' (ds.length + m) cap').ownBlock = some w.heap.size) -> wpList P ops Q rest (a.put o.dst (.slice ao' (ds.length + m) cap')) w') : wpList P ops Q (o :: rest) a w :=
 wpList_plain hgd fun _ hK => wp_append_at s x t ho B0 e i z size bytes ht hi hz hsize hby hzs hsz v ds fp hs hacc ys ao m c gp hx hr hF hown h63 hbytes hbase fun ao' cap' w' h2 h3 h4 => hK _ _ (h ao' cap' w' h2 h3 h4)
theorem step_append_at {P : Program} {w : World} {ops : Array Oper} {o : Oper} {a : Act} {K : Act -> World -> Prop} {Q : Exit -> Act -> World -> Prop} {E : Prop} (hgd : o.guard = none) (s x : Operand) (t : TypeId)
 (ho : o.op = .call { callee := .builtin .append, args := #[s, x], argTypes := #[t, t] })
 (B0 : Nat) (e : TypeId) (i : TypeInfo) (z : Value) (size bytes : Nat) (ht : P.underlying t = some (.slice e)) (hi : P.info? e = some i) (hz : i.zero = some z)
 (hsize : i.size = size) (hby : i.bytes = bytes) (hzs : z.cells.size = size) (hsz : 0 < size)
 (v : Value) (ds : List D) (fp : List Nat) (hs : a.eval s = v) (hacc : Acc B0 w e size v ds fp)
 (ys : List D) (ao : Option Addr) (m c : Nat) (gp : List Nat) (hx : a.eval x = .slice ao m c) (hr : RepF w (.sl size ys) [.slice ao m c] gp)
 (hF : Fresh w B0 (fp ++ gp.tail)) (hown : ∀ k, v.ownBlock = some k -> k ∉ gp.tail)
 (h63 : ds.length + m <= maxLen) (hbytes : (ds.length + m) * bytes <= 140737488355328) (hbase : B0 <= w.heap.size)
 (h : ∀ ao' cap' w', Acc B0 w' e size (.slice ao' (ds.length + m) cap') (ds ++ ys) (fp ++ gp.tail) -> w.grownBy w' v.ownBlock -> ((Value.slice ao' (ds.length + m) cap').ownBlock = v.ownBlock ∨ (Value.slice ao' (ds.length + m) cap').ownBlock = some w.heap.size) -> K (a.put o.dst (.slice ao' (ds.length + m) cap')) w') :
 if Region.wanted o (yielded ops a.tmps) = true then Oper.wp P o a w K Q else E := by
 have hw : Region.wanted o (yielded ops a.tmps) = true := by simp [Region.wanted, hgd]
 rw [if_pos hw]
 exact wp_append_at s x t ho B0 e i z size bytes ht hi hz hsize hby hzs hsz v ds fp hs hacc ys ao m c gp hx hr hF hown h63 hbytes hbase h
theorem Touch.cellAt {w w' : World} {fp : List Nat} {a : Addr} {v : Value} (h : Touch w w' fp) (ha : a.block ∉ fp) (hc : w.cell? a = some v) : w'.cell? a = some v := by
 have hb := h.block a.block (lt_of_cell hc) ha
 unfold World.cell? at hc ⊢
 rw [hb]; exact hc
theorem Touch.grown {w0 w w' : World} {row : Option Nat} {fp : List Nat} (h : Touch w0 w fp) (hg : w.grownBy w' row) (hr : ∀ k, row = some k -> k ∈ fp ∨ w0.heap.size <= k) : Touch w0 w' fp :=
 ⟨hg.os.trans h.os, hg.tape.trans h.tape, hg.output.trans h.output, Nat.le_trans h.size hg.size, fun k hk hn => by
  rw [grown_keep hg (Nat.lt_of_lt_of_le hk h.size) fun e => by
   rcases hr k e with h1 | h1
   · exact hn h1
   · omega]
  exact h.block k hk hn⟩
theorem Own.touch' {w w' : World} {B : Nat} {e : TypeId} {C : Array Value} {fp : List Nat} (h : Own w B e C) (ht : Touch w w' fp) (hB : B ∉ fp) : Own w' B e C := (ht.block B h.lt hB).trans h
theorem Touch.mono {w w' : World} {fp gp : List Nat} (h : Touch w w' fp) (hs : ∀ b, b ∈ fp -> b ∈ gp) : Touch w w' gp :=
 ⟨h.os, h.tape, h.output, h.size, fun k hk hn => h.block k hk fun hm => hn (hs k hm)⟩
theorem Fresh.touch {w w' : World} {B0 : Nat} {fp gp : List Nat} (h : Fresh w B0 gp) (ht : Touch w w' fp) (hd : ∀ b, b ∈ gp -> b ∉ fp) : Fresh w' B0 gp :=
 ⟨h.nodup, h.ge, fun b hb => let ⟨C, e, ho⟩ := h.own b hb; ⟨C, e, ho.touch' ht (hd b hb)⟩⟩
def Acw (B0 : Nat) (w : World) (e : TypeId) (size : Nat) (v : Value) (ds : List D) : Prop :=
 ∃ xs fp, w.ownsRow B0 e size v ds.length xs /\ RepR w size ds xs fp /\ (∀ k, k ∈ fp -> B0 <= k) /\ ∀ k, v.ownBlock = some k -> k ∉ fp
theorem Acw.touch {B0 : Nat} {w w' : World} {e : TypeId} {size : Nat} {v : Value} {ds : List D} {gp : List Nat} (h : Acw B0 w e size v ds) (ht : Touch w w' gp) (hg : ∀ k, k ∈ gp -> k < B0) : Acw B0 w' e size v ds := by
 obtain ⟨xs, fp, ⟨k1, k2⟩, h2, h3, h4⟩ := h
 refine ⟨xs, fp, ⟨k1, ?_⟩, h2.keep _ _ fun k hk => ht.block k (h2.lt _ _ k hk) (fun hm => by have := hg k hm; have := h3 k hk; omega), h3, h4⟩
 rcases k2 with k2 | ⟨g, cap, cur, rfl, hg2, hh, r⟩
 · exact Or.inl k2
 · exact Or.inr ⟨g, cap, cur, rfl, hg2, (ht.block g (Array.getElem?_eq_some_iff.1 hh).1 (fun hm => by have := hg g hm; omega)).trans hh, r⟩
theorem Acw.ext {B0 : Nat} {w w' : World} {e : TypeId} {size : Nat} {v : Value} {ds : List D} (h : Acw B0 w e size v ds) (hx : Ext w w') : Acw B0 w' e size v ds := h.touch (Touch.of_ext hx []) (fun k hk => nomatch hk)
theorem Acw.nil (B0 : Nat) (w : World) (e : TypeId) (size : Nat) : Acw B0 w e size (.slice none 0 0) [] := ⟨[], [], World.ownsRow_nil _ _ _ _, by simp [RepR], (fun k hk => nomatch hk), (fun k hk => nomatch hk)⟩
theorem Acw.of {B0 : Nat} {w : World} {e : TypeId} {size : Nat} {v : Value} {ds : List D} {fp : List Nat} (h : Acc B0 w e size v ds fp) : Acw B0 w e size v ds := by
 obtain ⟨xs, h1, h2, h3, h4⟩ := h
 exact ⟨xs, fp, h1, h2, h3.ge, h4⟩
theorem Acw.ge {B0 : Nat} {w : World} {e : TypeId} {size : Nat} {v : Value} {ds : List D} (h : Acw B0 w e size v ds) {k : Nat} (hk : v.ownBlock = some k) : B0 <= k /\ k < w.heap.size := by
 obtain ⟨xs, fp, ⟨_, h2⟩, _⟩ := h
 rcases h2 with ⟨rfl, _⟩ | ⟨g, cap, cur, rfl, hg, hh, _⟩
 · cases hk
 · simp [Value.ownBlock] at hk
   subst hk
   exact ⟨hg, (Array.getElem?_eq_some_iff.1 hh).1⟩
theorem Acw.base {B0 B1 : Nat} {w : World} {e : TypeId} {size : Nat} {v : Value} {ds : List D} (h : Acw B1 w e size v ds) (hB : B0 <= B1) : Acw B0 w e size v ds := by
 obtain ⟨xs, fp, ⟨k1, k2⟩, h2, h3, h4⟩ := h
 refine ⟨xs, fp, ⟨k1, ?_⟩, h2, fun k hk => Nat.le_trans hB (h3 k hk), h4⟩
 rcases k2 with k2 | ⟨g, cap, cur, hv, hg, r⟩
 · exact Or.inl k2
 · exact Or.inr ⟨g, cap, cur, hv, Nat.le_trans hB hg, r⟩
theorem Acw.rep {B0 : Nat} {w : World} {e : TypeId} {size : Nat} {v : Value} {ds : List D} (h : Acw B0 w e size v ds) (hsz : 0 < size) : ∃ ao cap gp, v = .slice ao ds.length cap /\ RepF w (.sl size ds) [.slice ao ds.length cap] gp /\ ∀ k, k ∈ gp -> B0 <= k := by
 obtain ⟨xs, fp, ⟨k1, k2⟩, h2, h3, h4⟩ := h
 rcases k2 with ⟨rfl, hn⟩ | ⟨g, cap, cur, rfl, hg, hh, hc, hm, hcs, htk⟩
 · have : ds = [] := List.length_eq_zero_iff.1 hn
   subst this
   exact ⟨none, 0, [], rfl, RepF.sl_iff.2 ⟨none, 0, rfl, by simp, by unfold maxLen; omega, by simp, Or.inl ⟨rfl, rfl⟩⟩, fun k hk => nomatch hk⟩
 · by_cases h0 : ds = []
   · subst h0
     exact ⟨_, cap, [], rfl, RepF.sl_iff.2 ⟨_, cap, rfl, hc, hm, by simp, Or.inl ⟨rfl, rfl⟩⟩, fun k hk => nomatch hk⟩
   · refine ⟨_, cap, g :: fp, rfl, RepF.sl_iff.2 ⟨_, cap, rfl, hc, hm, by simp, Or.inr ⟨g, 0, xs, fp, h0, rfl, rfl, (Array.getElem?_eq_some_iff.1 hh).1, fun j c hj => ?_, h2⟩⟩, fun k hk => ?_⟩
     · rw [Nat.zero_add, cell_of_row w g j cur e (0, 0) hh]
       rw [<- htk] at hj
       have hjl := (List.getElem?_eq_some_iff.1 hj).1
       rw [List.getElem?_take_of_lt (by rw [List.length_take] at hjl; omega)] at hj
       simpa using hj
     · rcases List.mem_cons.1 hk with rfl | hk
       · exact hg
       · exact h3 k hk
theorem run_append_w {P : Program} {w : World} (t ty : TypeId) (B0 : Nat) (e : TypeId) (i : TypeInfo) (z : Value) (size bytes : Nat) (ht : P.underlying t = some (.slice e)) (hi : P.info? e = some i) (hz : i.zero = some z)
 (hsize : i.size = size) (hby : i.bytes = bytes) (hzs : z.cells.size = size) (hsz : 0 < size)
 (v : Value) (ds : List D) (hacc : Acw B0 w e size v ds) (ys : List D) (ao : Option Addr) (m c : Nat) (gp : List Nat) (hr : RepF w (.sl size ys) [.slice ao m c] gp)
 (hF : ∀ k, k ∈ gp.tail -> B0 <= k) (hown : ∀ k, v.ownBlock = some k -> k ∉ gp.tail)
 (h63 : ds.length + m <= maxLen) (hbytes : (ds.length + m) * bytes <= 140737488355328) (hbase : B0 <= w.heap.size) :
 ∃ ao' cap' w', (Builtin.append_ #[t, t] ty #[v, .slice ao m c]).run P w = .ok (.slice ao' (ds.length + m) cap') w' /\ Acw B0 w' e size (.slice ao' (ds.length + m) cap') (ds ++ ys) /\ w.grownBy w' v.ownBlock /\ ((Value.slice ao' (ds.length + m) cap').ownBlock = v.ownBlock ∨ (Value.slice ao' (ds.length + m) cap').ownBlock = some w.heap.size) := by
 obtain ⟨xs, fp, h1, h2, h3, h4⟩ := hacc
 obtain ⟨hm, hml, news, hnr, hsrc⟩ := hr.source
 rcases hsrc with ⟨rfl, rfl, rfl, rfl⟩ | ⟨ad, rfl, hcells⟩
 · have hv : ∃ ao' cap', v = .slice ao' (ds.length + 0) cap' := by
    rcases h1.2 with ⟨rfl, hn⟩ | ⟨g, cap, cur, rfl, _⟩
    · exact ⟨none, 0, by rw [hn]⟩
    · exact ⟨_, cap, by rw [Nat.add_zero]⟩
   obtain ⟨ao', cap', hv⟩ := hv
   refine ⟨ao', cap', w, ?_, ⟨xs, fp, by rw [<- hv]; simpa using h1, by simpa using h2, h3, by rw [<- hv]; exact h4⟩, World.grownBy.refl _ _, Or.inl (by rw [<- hv])⟩
   rw [<- hv]
   exact run_append_owned_none (P := P) (w := w) B0 t ty e i size ht hi v ds.length xs h1
 · obtain ⟨v', w', hrun, hown', hgrow, hnil, hat⟩ := run_append_own_at (P := P) w B0 t ty e i z size bytes ht hi hz hsize hby hzs hsz v ds.length xs h1 ad m c news (by rw [hm]; exact hnr.length) hcells (fun u hu => RepR.one_cell hnr u hu) h63 hbytes hbase
   have hv : ∃ ao' cap', v' = .slice ao' (ds.length + m) cap' := by
    rcases hown'.2 with ⟨rfl, hn⟩ | ⟨g, cap, cur, rfl, _⟩
    · exact ⟨none, 0, by rw [hn]⟩
    · exact ⟨_, cap, rfl⟩
   have hlt : ∀ k, k ∈ fp ++ gp.tail -> k < w.heap.size := fun k hk => by
    rcases List.mem_append.1 hk with hk | hk
    · exact h2.lt _ _ k hk
    · exact hnr.lt _ _ k hk
   have hkeep : ∀ k, k ∈ fp ++ gp.tail -> w'.heap[k]? = w.heap[k]? := fun k hk => grown_keep hgrow (hlt k hk) (fun e => by
    rcases List.mem_append.1 hk with hk | hk
    · exact h4 k e hk
    · exact hown k e hk)
   obtain ⟨ao', cap', rfl⟩ := hv
   refine ⟨ao', cap', w', hrun, ⟨xs ++ news, fp ++ gp.tail, by rw [List.length_append, <- hm]; exact hown', (h2.keep size ds fun k hk => hkeep k (List.mem_append_left _ hk)).append (hnr.keep size ys fun k hk => hkeep k (List.mem_append_right _ hk)),
    fun k hk => (List.mem_append.1 hk).elim (h3 k) (hF k), fun k hk hkm => ?_⟩, hgrow, hat⟩
   rcases hat with hat | hat
   · rw [hat] at hk
     rcases List.mem_append.1 hkm with hkm | hkm
     · exact h4 k hk hkm
     · exact hown k hk hkm
   · have := hlt k hkm
     rw [hat] at hk; injection hk with hk; omega
theorem wp_append_w {P : Program} {w : World} {o : Oper} {a : Act} {K : Act -> World -> Prop} {Q : Exit -> Act -> World -> Prop} (s x : Operand) (t : TypeId)
 (ho : o.op = .call { callee := .builtin .append, args := #[s, x], argTypes := #[t, t] })
 (B0 : Nat) (e : TypeId) (i : TypeInfo) (z : Value) (size bytes : Nat) (ht : P.underlying t = some (.slice e)) (hi : P.info? e = some i) (hz : i.zero = some z)
 (hsize : i.size = size) (hby : i.bytes = bytes) (hzs : z.cells.size = size) (hsz : 0 < size)
 (v : Value) (ds : List D) (hs : a.eval s = v) (hacc : Acw B0 w e size v ds)
 (ys : List D) (ao : Option Addr) (m c : Nat) (gp : List Nat) (hx : a.eval x = .slice ao m c) (hr : RepF w (.sl size ys) [.slice ao m c] gp)
 (hF : ∀ k, k ∈ gp.tail -> B0 <= k) (hown : ∀ k, v.ownBlock = some k -> k ∉ gp.tail)
 (h63 : ds.length + m <= maxLen) (hbytes : (ds.length + m) * bytes <= 140737488355328) (hbase : B0 <= w.heap.size)
 (h : ∀ ao' cap' w', Acw B0 w' e size (.slice ao' (ds.length + m) cap') (ds ++ ys) -> w.grownBy w' v.ownBlock -> ((Value.slice ao' (ds.length + m) cap').ownBlock = v.ownBlock ∨ (Value.slice ao' (ds.length + m) cap').ownBlock = some w.heap.size) -> K (a.put o.dst (.slice ao' (ds.length + m) cap')) w') : o.wp P a w K Q := by
 obtain ⟨ao', cap', w', hrun, h2, h3, h4⟩ := run_append_w (P := P) t o.type B0 e i z size bytes ht hi hz hsize hby hzs hsz v ds hacc ys ao m c gp hr hF hown h63 hbytes hbase
 unfold Oper.wp execOp
 simp only [ho, resolve, invoke, builtin, Sem.run_bind, Sem.run_pure, Result.andThen_ok, List.map_toArray, List.map_cons, List.map_nil, hs, hx, hrun]
 exact h ao' cap' w' h2 h3 h4
theorem exprInfo : (Tryz.prog.info? 27).map (fun i => (i.zero, i.size, i.bytes)) = some (some (.agg #[.int .i64 0, .string ByteArray.empty, .int .i64 0, .slice none 0 0, .slice none 0 0]), 5, 80) := by kernel_rfl
def AccX (B0 : Nat) (w : World) (v : Value) (l : List MExpr) : Prop := Acw B0 w 27 5 v (l.map MExpr.d)
theorem AccX.rep {B0 : Nat} {w : World} {v : Value} {l : List MExpr} (h : AccX B0 w v l) : ∃ ao cap gp, v = .slice ao l.length cap /\ RepF w (MExprs l) [.slice ao l.length cap] gp /\ ∀ k, k ∈ gp -> B0 <= k := by
 obtain ⟨ao, cap, gp, h1, h2, h3⟩ := Acw.rep h (by decide)
 simp only [List.length_map] at h1 h2
 exact ⟨ao, cap, gp, h1, h2, h3⟩
theorem wp_append_x {w : World} {o : Oper} {a : Act} {K : Act -> World -> Prop} {Q : Exit -> Act -> World -> Prop} (s y : Operand)
 (ho : o.op = .call { callee := .builtin .append, args := #[s, y], argTypes := #[25, 25] })
 (B0 : Nat) (v : Value) (l : List MExpr) (hs : a.eval s = v) (hacc : AccX B0 w v l)
 (ys : List MExpr) (ao : Option Addr) (m c : Nat) (gp : List Nat) (hx : a.eval y = .slice ao m c) (hr : RepF w (MExprs ys) [.slice ao m c] gp)
 (hF : ∀ k, k ∈ gp.tail -> B0 <= k) (hown : ∀ k, v.ownBlock = some k -> k ∉ gp.tail) (hlen : l.length + ys.length <= 1073741824) (hbase : B0 <= w.heap.size)
 (h : ∀ ao' cap' w', AccX B0 w' (.slice ao' (l.length + ys.length) cap') (l ++ ys) -> w.grownBy w' v.ownBlock -> ((Value.slice ao' (l.length + ys.length) cap').ownBlock = v.ownBlock ∨ (Value.slice ao' (l.length + ys.length) cap').ownBlock = some w.heap.size) -> K (a.put o.dst (.slice ao' (l.length + ys.length) cap')) w') : o.wp Tryz.prog a w K Q := by
 obtain ⟨i0, hi, hz0, hz1, hz2⟩ := info_parts exprInfo
 have hm : m = ys.length := by
  obtain ⟨_, _, h1, _⟩ := RepF.sl_iff.1 hr
  simp at h1; omega
 subst hm
 refine wp_append_w s y 25 ho B0 27 i0 _ 5 80 Tryz.underlying25 hi hz0 hz1 hz2 rfl (by decide) v (l.map MExpr.d) hs hacc (ys.map MExpr.d) ao ys.length c gp hx hr hF hown (by simp [maxLen]; omega) (by simp; omega) hbase ?_
 intro ao' cap' w' h2 h3 h4
 simp only [List.length_map, <- List.map_append] at h2 h4 ⊢
 exact h ao' cap' w' h2 h3 h4
theorem wpList_append_x {w : World} {ops : Array Oper} {rest : List Oper} {o : Oper} {a : Act} {Q : Exit -> Act -> World -> Prop} (hgd : o.guard = none) (s y : Operand)
 (ho : o.op = .call { callee := .builtin .append, args := #[s, y], argTypes := #[25, 25] })
 (B0 : Nat) (v : Value) (l : List MExpr) (hs : a.eval s = v) (hacc : AccX B0 w v l)
 (ys : List MExpr) (ao : Option Addr) (m c : Nat) (gp : List Nat) (hx : a.eval y = .slice ao m c) (hr : RepF w (MExprs ys) [.slice ao m c] gp)
 (hF : ∀ k, k ∈ gp.tail -> B0 <= k) (hown : ∀ k, v.ownBlock = some k -> k ∉ gp.tail) (hlen : l.length + ys.length <= 1073741824) (hbase : B0 <= w.heap.size)
 (h : ∀ ao' cap' w', AccX B0 w' (.slice ao' (l.length + ys.length) cap') (l ++ ys) -> w.grownBy w' v.ownBlock -> ((Value.slice ao' (l.length + ys.length) cap').ownBlock = v.ownBlock ∨ (Value.slice ao' (l.length + ys.length) cap').ownBlock = some w.heap.size) -> wpList Tryz.prog ops Q rest (a.put o.dst (.slice ao' (l.length + ys.length) cap')) w') : wpList Tryz.prog ops Q (o :: rest) a w :=
 wpList_plain hgd fun _ hK => wp_append_x s y ho B0 v l hs hacc ys ao m c gp hx hr hF hown hlen hbase fun ao' cap' w' h2 h3 h4 => hK _ _ (h ao' cap' w' h2 h3 h4)
theorem one_expr {w : World} {x : MExpr} {cs : List Value} {fp : List Nat} {b : Nat} {e : TypeId} (h : RepF w x.d cs fp) (hO : Own w b e cs.toArray) : RepF w (MExprs [x]) [.slice (some ⟨b, 0, none⟩) 1 1] (b :: fp) := by
 have hl : cs.length = 5 := by
  obtain ⟨_, _, _, _, rfl, -, -⟩ := MExpr.op_en h.rep
  rfl
 refine RepF.sl_iff.2 ⟨_, 1, by simp, by simp, by unfold maxLen; omega, by simp, Or.inr ⟨b, 0, cs, fp, by simp, rfl, rfl, hO.lt, fun j c hj => ?_, ?_⟩⟩
 · rw [Nat.zero_add, hO.cell]; simpa using hj
 · exact RepR.one h hl
structure Prs (ty : TypeId) (B tb to_ cap : Nat) (ao : Option Addr) (ts : List MToken) (w : World) (a : Nat) (b : Bool) : Prop where
 own : Own w B ty #[.slice ao ts.length cap, .int .i64 a, .bool b]
 pa : 0 < ts.length -> ao = some ⟨tb, to_, none⟩
 tk : ∀ (i : Nat) (t : MToken), ts[i]? = some t -> w.cell? ⟨tb, to_ + i * 3, none⟩ = some (.int .i64 t.kind) /\ w.cell? ⟨tb, to_ + i * 3 + 1, none⟩ = some (.string t.text) /\ w.cell? ⟨tb, to_ + i * 3 + 2, none⟩ = some (.int .i64 t.number)
 ne : 0 < ts.length -> tb ≠ B
 cp : ts.length <= cap /\ cap <= 9223372036854775807
 len : ts.length <= 800
 sz : ∀ t, t ∈ ts -> t.text.size <= 100000
 tq : ∀ t, t ∈ ts -> (t.kind ≠ 3 -> t.number = 0) /\ ((t.kind = 1 ∨ t.kind = 2 ∨ t.kind = 6) -> t.text.size ≠ 0)
 le : a <= ts.length + 1
 ok : b = false -> a <= ts.length
section
variable {ty : TypeId} {B tb to_ cap : Nat} {ao : Option Addr} {ts : List MToken} {w w' : World} {a : Nat} {b : Bool}
theorem Prs.tl (h : Prs ty B tb to_ cap ao ts w a b) (h0 : 0 < ts.length) : tb < w.heap.size := lt_of_cell (h.tk 0 _ (List.getElem?_eq_getElem h0)).1
theorem Prs.touch {fp : List Nat} (h : Prs ty B tb to_ cap ao ts w a b) (T : Touch w w' fp) (hB : B ∉ fp) (ht : 0 < ts.length -> tb ∉ fp) : Prs ty B tb to_ cap ao ts w' a b :=
 ⟨h.own.touch' T hB, h.pa, fun i t hi => by
  have h0 : 0 < ts.length := by have := (List.getElem?_eq_some_iff.1 hi).1; omega
  obtain ⟨h1, h2, h3⟩ := h.tk i t hi
  exact ⟨T.cellAt (ht h0) h1, T.cellAt (ht h0) h2, T.cellAt (ht h0) h3⟩, h.ne, h.cp, h.len, h.sz, h.tq, h.le, h.ok⟩
theorem Prs.ext (h : Prs ty B tb to_ cap ao ts w a b) (x : Ext w w') : Prs ty B tb to_ cap ao ts w' a b := h.touch (Touch.of_ext x []) (by simp) (fun _ => by simp)
theorem Prs.late {w0 : World} {fp : List Nat} {a0 : Nat} {b0 : Bool} (h0 : Prs ty B tb to_ cap ao ts w0 a0 b0) (h : Prs ty B tb to_ cap ao ts w a b) (T : Touch w w' fp) (hf : ∀ k, k ∈ fp -> w0.heap.size <= k) : Prs ty B tb to_ cap ao ts w' a b :=
 h.touch T (fun hm => by have := hf B hm; have := h0.own.lt; omega) (fun hp hm => by have := hf tb hm; have := h0.tl hp; omega)
theorem Prs.setAt (h : Prs ty B tb to_ cap ao ts w a b) (a' : Nat) (hl : a' <= ts.length + 1) (hk : b = false -> a' <= ts.length) : Prs ty B tb to_ cap ao ts (w.setCell ⟨B, 1, none⟩ (.int .i64 a')) a' b /\ Touch w (w.setCell ⟨B, 1, none⟩ (.int .i64 a')) [B] := by
 have T : Touch w (w.setCell ⟨B, 1, none⟩ (.int .i64 a')) [B] := (Touch.of_ext (XR w) [B]).setCell (by simp) _
 refine ⟨⟨h.own.set 1 _, h.pa, fun i t hi => ?_, h.ne, h.cp, h.len, h.sz, h.tq, hl, hk⟩, T⟩
 have h0 : 0 < ts.length := by have := (List.getElem?_eq_some_iff.1 hi).1; omega
 have hn : tb ∉ [B] := by simpa using h.ne h0
 obtain ⟨h1, h2, h3⟩ := h.tk i t hi
 exact ⟨T.cellAt hn h1, T.cellAt hn h2, T.cellAt hn h3⟩
theorem Prs.setBad (h : Prs ty B tb to_ cap ao ts w a b) : Prs ty B tb to_ cap ao ts (w.setCell ⟨B, 2, none⟩ (.bool true)) a true /\ Touch w (w.setCell ⟨B, 2, none⟩ (.bool true)) [B] := by
 have T : Touch w (w.setCell ⟨B, 2, none⟩ (.bool true)) [B] := (Touch.of_ext (XR w) [B]).setCell (by simp) _
 refine ⟨⟨h.own.set 2 _, h.pa, fun i t hi => ?_, h.ne, h.cp, h.len, h.sz, h.tq, h.le, fun e => (by cases e)⟩, T⟩
 have h0 : 0 < ts.length := by have := (List.getElem?_eq_some_iff.1 hi).1; omega
 have hn : tb ∉ [B] := by simpa using h.ne h0
 obtain ⟨h1, h2, h3⟩ := h.tk i t hi
 exact ⟨T.cellAt hn h1, T.cellAt hn h2, T.cellAt hn h3⟩
theorem Prs.setBoth (h : Prs ty B tb to_ cap ao ts w a b) (a' : Nat) (hl : a' <= ts.length + 1) : Prs ty B tb to_ cap ao ts ((w.setCell ⟨B, 1, none⟩ (.int .i64 a')).setCell ⟨B, 2, none⟩ (.bool true)) a' true /\ Touch w ((w.setCell ⟨B, 1, none⟩ (.int .i64 a')).setCell ⟨B, 2, none⟩ (.bool true)) [B] := by
 have T : Touch w ((w.setCell ⟨B, 1, none⟩ (.int .i64 a')).setCell ⟨B, 2, none⟩ (.bool true)) [B] := ((Touch.of_ext (XR w) [B]).setCell (by simp) _).setCell (by simp) _
 refine ⟨⟨(h.own.set 1 _).set 2 _, h.pa, fun i t hi => ?_, h.ne, h.cp, h.len, h.sz, h.tq, hl, fun e => (by cases e)⟩, T⟩
 have h0 : 0 < ts.length := by have := (List.getElem?_eq_some_iff.1 hi).1; omega
 have hn : tb ∉ [B] := by simpa using h.ne h0
 obtain ⟨h1, h2, h3⟩ := h.tk i t hi
 exact ⟨T.cellAt hn h1, T.cellAt hn h2, T.cellAt hn h3⟩
theorem Prs.num0 (h : Prs ty B tb to_ cap ao ts w a b) {i : Nat} (hk : tkK ts i ≠ 3) : tkN ts i = 0 := by
 unfold tkK at hk
 unfold tkN
 cases hi : ts[i]? with
 | none => rfl
 | some t => rw [hi] at hk; exact (h.tq t (List.mem_of_getElem? hi)).1 hk
theorem Prs.cells (h : Prs ty B tb to_ cap ao ts w a b) : w.cell? ⟨B, 0, none⟩ = some (.slice ao ts.length cap) /\ w.cell? ⟨B, 1, none⟩ = some (.int .i64 a) /\ w.cell? ⟨B, 2, none⟩ = some (.bool b) := ⟨h.own.cell 0, h.own.cell 1, h.own.cell 2⟩
theorem Prs.txt (h : Prs ty B tb to_ cap ao ts w a b) (i : Nat) : (tkT ts i).size <= 100000 := by
 unfold tkT
 cases hi : ts[i]? with
 | none => exact Nat.zero_le _
 | some t => exact h.sz t (List.mem_of_getElem? hi)
theorem Prs.at (h : Prs ty B tb to_ cap ao ts w a b) {i : Nat} (hi : i < ts.length) : ao = some ⟨tb, to_, none⟩ /\ w.cell? ⟨tb, to_ + i * 3, none⟩ = some (.int .i64 (tkK ts i)) /\ w.cell? ⟨tb, to_ + i * 3 + 1, none⟩ = some (.string (tkT ts i)) /\ w.cell? ⟨tb, to_ + i * 3 + 2, none⟩ = some (.int .i64 (tkN ts i)) := by
 have hg := List.getElem?_eq_getElem hi
 obtain ⟨e1, e2, e3⟩ := tkK_some hg
 rw [e1, e2, e3]
 exact ⟨h.pa (by omega), h.tk i _ hg⟩
end
theorem Touch.trans' {a b c : World} {fp gp : List Nat} (h : Touch a b fp) (k : Touch b c gp) (hg : ∀ x, x ∈ gp -> x ∈ fp ∨ a.heap.size <= x) : Touch a c fp :=
 ⟨k.os.trans h.os, k.tape.trans h.tape, k.output.trans h.output, Nat.le_trans h.size k.size, fun i hi hn => (k.block i (Nat.lt_of_lt_of_le hi h.size) (fun hm => (hg i hm).elim hn (fun h => by omega))).trans (h.block i hi hn)⟩
theorem Acc.touch {B0 : Nat} {w w' : World} {e : TypeId} {size : Nat} {v : Value} {ds : List D} {fp gp : List Nat} (h : Acc B0 w e size v ds gp) (ht : Touch w w' fp) (hv : ∀ k, v.ownBlock = some k -> k ∉ fp) (hg : ∀ k, k ∈ gp -> k ∉ fp) : Acc B0 w' e size v ds gp := by
 obtain ⟨xs, h1, h2, h3, h4⟩ := h
 refine ⟨xs, ?_, h2.keep _ _ fun k hk => ht.block k (h3.lt hk) (hg k hk), h3.touch ht hg, h4⟩
 obtain ⟨k1, k2⟩ := h1
 refine ⟨k1, ?_⟩
 rcases k2 with k2 | ⟨g, cap, cur, rfl, hg, hh, r⟩
 · exact Or.inl k2
 · exact Or.inr ⟨g, cap, cur, rfl, hg, (ht.block g (Array.getElem?_eq_some_iff.1 hh).1 (hv g rfl)).trans hh, r⟩
theorem Acc.ge {B0 : Nat} {w : World} {e : TypeId} {size : Nat} {v : Value} {ds : List D} {fp : List Nat} (h : Acc B0 w e size v ds fp) {k : Nat} (hk : v.ownBlock = some k) : B0 <= k /\ k < w.heap.size := by
 obtain ⟨xs, ⟨_, h2⟩, _⟩ := h
 rcases h2 with ⟨rfl, _⟩ | ⟨g, cap, cur, rfl, hg, hh, _⟩
 · cases hk
 · simp [Value.ownBlock] at hk
   subst hk
   exact ⟨hg, (Array.getElem?_eq_some_iff.1 hh).1⟩
theorem wpList_append_strs_at {w : World} {ops : Array Oper} {rest : List Oper} {o : Oper} {a : Act} {Q : Exit -> Act -> World -> Prop} (hgd : o.guard = none) (s x : Operand)
 (ho : o.op = .call { callee := .builtin .append, args := #[s, x], argTypes := #[24, 24] })
 (B0 : Nat) (v : Value) (l : List ByteArray) (hs : a.eval s = v) (hacc : AccT B0 w v l)
 (ys : List ByteArray) (ao : Option Addr) (m c : Nat) (hx : a.eval x = .slice ao m c) (hr : Rep w (strs ys) [.slice ao m c])
 (hlen : l.length + ys.length <= 1073741824) (hbase : B0 <= w.heap.size)
 (h : ∀ ao' cap' w', AccT B0 w' (.slice ao' (l.length + ys.length) cap') (l ++ ys) -> w.grownBy w' v.ownBlock -> ((Value.slice ao' (l.length + ys.length) cap').ownBlock = v.ownBlock ∨ (Value.slice ao' (l.length + ys.length) cap').ownBlock = some w.heap.size) -> wpList Tryz.prog ops Q rest (a.put o.dst (.slice ao' (l.length + ys.length) cap')) w') : wpList Tryz.prog ops Q (o :: rest) a w := by
 obtain ⟨i0, hi, hz0, hz1, hz2⟩ := info_parts strInfo
 obtain ⟨gp, hr⟩ := hr
 have ht := hr.strs_tail
 have hm : m = ys.length := by
  obtain ⟨_, _, h1, _⟩ := RepF.sl_iff.1 hr
  simp at h1; omega
 subst hm
 refine wpList_append_at hgd s x 24 ho B0 9 i0 _ 1 16 Tryz.underlying24 hi hz0 hz1 hz2 rfl (by decide) v (l.map .str) [] hs hacc (ys.map .str) ao ys.length c gp hx hr (by rw [ht]; exact Fresh.nil _ _) (by rw [ht]; simp) (by simp [maxLen]; omega) (by simp; omega) hbase ?_
 intro ao' cap' w' h2 h3 h4
 rw [ht] at h2
 simp only [List.length_map, List.append_nil, <- List.map_append] at h2 h4 ⊢
 exact h ao' cap' w' h2 h3 h4
theorem AccT.base {B0 B1 : Nat} {w : World} {v : Value} {l : List ByteArray} (h : AccT B1 w v l) (hB : B0 <= B1) : AccT B0 w v l := by
 obtain ⟨xs, ⟨k1, k2⟩, h2, h3, h4⟩ := h
 refine ⟨xs, ⟨k1, ?_⟩, h2, h3.mono hB, h4⟩
 rcases k2 with k2 | ⟨g, cap, cur, hv, hg, r⟩
 · exact Or.inl k2
 · exact Or.inr ⟨g, cap, cur, hv, Nat.le_trans hB hg, r⟩
theorem AccT.low {B0 : Nat} {w w' : World} {v : Value} {l : List ByteArray} {fp : List Nat} (h : AccT B0 w v l) (T : Touch w w' fp) (hf : ∀ k, k ∈ fp -> k < B0) : AccT B0 w' v l :=
 Acc.touch h T (fun k hk hm => by have := (Acc.ge h hk).1; have := hf k hm; omega) (fun k hk => nomatch hk)

theorem tok_eq {ts : List MToken} {a : Nat} {k : Int} {s : ByteArray} (hk : k ≠ 0) : tkxB ts a k s = true ↔ tkK ts a = k /\ tkT ts a = s := by
 rw [tkxB_eq hk, Bool.and_eq_true, eqB_iff, beq_iff_eq]
theorem kind_eq {ts : List MToken} {a : Nat} {k : Int} (hk : k ≠ 0) : tkB ts a k = true ↔ tkK ts a = k := by
 rw [tkB_eq hk, beq_iff_eq]
theorem tok_lt {ts : List MToken} {a : Nat} {k : Int} {s : ByteArray} (hk : k ≠ 0) (h : tkxB ts a k s = true) : a < ts.length := tkK_lt (by rw [((tok_eq hk).1 h).1]; exact hk)
theorem kind_lt {ts : List MToken} {a : Nat} {k : Int} (hk : k ≠ 0) (h : tkB ts a k = true) : a < ts.length := tkK_lt (by rw [(kind_eq hk).1 h]; exact hk)
end Go.Proofs.YtndhpbjhkgdieaaGreatDoor
