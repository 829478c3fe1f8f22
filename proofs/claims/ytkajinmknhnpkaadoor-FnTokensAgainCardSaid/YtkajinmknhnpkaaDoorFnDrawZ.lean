/-
  CONTRACTS: draws, told to the byte: the same code draws the same.
  Conditions: those that each lemma states.
-/
import Derived.Test.YtkajinmknhnpkaaDoorRows
import Derived.Test.YtkajinmknhnpkaaDoorFnDrawsD
namespace Go.Proofs.YtkajinmknhnpkaaDoor
open Go.RowKit
set_option linter.unusedSimpArgs false
set_option linter.unusedVariables false

/-- The bytes of a code, told. -/
def BytesZ (w : World) (v : Value) (n : Nat) (z : Nat → Int) : Prop := ∃ ao cap, v = .slice ao n cap ∧ n ≤ 9223372036854775807 ∧ (n = 0 ∨ ∃ a, ao = some a ∧ ∀ k, k < n → w.cell? (a.add k) = some (.int .u8 (z k)) ∧ 0 ≤ z k ∧ z k ≤ 255)
theorem Bytes.told {w : World} {v : Value} (h : Bytes w v) : ∃ n z, BytesZ w v n z := by
  obtain ⟨ao, n, cap, rfl, hn, hz⟩ := h
  rcases hz with rfl | ⟨a, rfl, hz⟩
  · exact ⟨0, fun _ => 0, ao, cap, rfl, hn, Or.inl rfl⟩
  · classical
    refine ⟨n, fun k => if h : k < n then (hz k h).choose else 0, some a, cap, rfl, hn, Or.inr ⟨a, rfl, fun k hk => ?_⟩⟩
    simp only [hk, dif_pos]
    exact (hz k hk).choose_spec
theorem BytesZ.bytes {w : World} {v : Value} {n : Nat} {z : Nat → Int} (h : BytesZ w v n z) : Bytes w v := by
  obtain ⟨ao, cap, rfl, hn, hz⟩ := h
  exact ⟨ao, n, cap, rfl, hn, hz.imp id fun ⟨a, e, h⟩ => ⟨a, e, fun k hk => ⟨z k, h k hk⟩⟩⟩
theorem BytesZ.ext {w w' : World} {v : Value} {n : Nat} {z : Nat → Int} (h : BytesZ w v n z) (hx : Ext w w') : BytesZ w' v n z := by
  obtain ⟨ao, cap, rfl, hn, hz⟩ := h
  exact ⟨ao, cap, rfl, hn, hz.imp id fun ⟨a, e, h⟩ => ⟨a, e, fun k hk => ⟨hx.cell (h k hk).1, (h k hk).2⟩⟩⟩
theorem BytesZ.touch {w w' : World} {v : Value} {n : Nat} {z : Nat → Int} {B : Nat} (h : BytesZ w v n z) (ht : Touch w w' [B]) (hB : Off v B) : BytesZ w' v n z := by
  obtain ⟨ao, cap, rfl, hn, hz⟩ := h
  refine ⟨ao, cap, rfl, hn, ?_⟩
  rcases hz with hz | ⟨a, rfl, hz⟩
  · exact Or.inl hz
  · refine Or.inr ⟨a, rfl, fun k hk => ⟨ht.cell ?_ (hz k hk).1, (hz k hk).2⟩⟩
    have := hB a n cap (by omega) rfl
    have e : (a.add k).block = a.block := by unfold Addr.add; split <;> rfl
    rw [e]; simp [this]
def hashN (n : Nat) (z : Nat → Int) : Nat → Int
  | 0 => 124929 + n
  | k + 1 => bits .and .i64 (wrap64 (wrap64 (wrap64 (hashN n z k * 131) + z k) + 7)) 1073741823
def hash (n : Nat) (z : Nat → Int) : Int := hashN n z (min n 4000)
def nextH (h : Int) : Int := wrap64 (wrap64 (h * 6364136223846793005) + 1442695040888963407)
def rawX (h : Int) : Int := bits .xor .i64 (h / 8589934592) (h / 35184372088832) % 256
def byteX (n : Nat) (z : Nat → Int) (i : Nat) (h : Int) : Int := if i < n then IntKind.i64.wrap (rawX (nextH h) + IntKind.i64.wrap (z i)) % 256 else rawX (nextH h)
def byteI (n i : Nat) : Nat := if i < n then i + 1 else i
theorem byteX_bd (n : Nat) (z : Nat → Int) (i : Nat) (h : Int) : 0 ≤ byteX n z i h ∧ byteX n z i h ≤ 255 := by
  unfold byteX rawX
  split <;> omega
def CurZ (w : World) (B : Nat) (v : Value) (i : Nat) (h : Int) : Prop := i ≤ 9223372036854775807 ∧ Own w B 50 #[v, .int .i64 i, .int .i64 h]
theorem CurZ.ext {w w' : World} {B : Nat} {v : Value} {i : Nat} {h : Int} (c : CurZ w B v i h) (hx : Ext w w') : CurZ w' B v i h := ⟨c.1, c.2.ext hx⟩
theorem CurZ.lt {w : World} {B : Nat} {v : Value} {i : Nat} {h : Int} (c : CurZ w B v i h) : B < w.heap.size := c.2.lt

set_option maxRecDepth 20000 in
set_option maxHeartbeats 1000000 in
theorem l1New_told (v : Value) (n : Nat) (z : Nat → Int) (w : World) (hc : BytesZ w v n z) (hs : n ≤ 1048576) :
    Calls Tryd.prog 12 #[v] w fun e w' => ∃ B, e = .returned (.pointer (some ⟨B, 0, none⟩)) ∧ w.heap.size ≤ B ∧ CurZ w' B v 0 (hash n z) ∧ Ext w w' := by
  obtain ⟨ao, cap, rfl, hn, hz⟩ := hc
  go_enter Tryd.func12, Tryd.ntmps12
  go_wp2_with fail
  go_loop [3, 4] (fun hv iv => ∃ (k : Nat), hv = .int .i64 (hashN n z k) ∧ iv = .int .i64 k ∧ k ≤ n ∧ k ≤ 4000) (fun _ iv => n - (intOf iv).toNat)
  case atStart => exact ⟨0, rfl, rfl, Nat.zero_le _, Nat.zero_le _⟩
  case round =>
    obtain ⟨k, rfl, rfl, hk, hk4⟩ := hrel
    by_cases hlt : k < n
    · by_cases h4 : k < 4000
      · rcases hz with rfl | ⟨a, rfl, hz⟩
        · omega
        obtain ⟨hz1, hz2, hz3⟩ := hz k hlt
        have HS : Hid (hashN n z (k + 1) = bits .and .i64 (wrap64 (wrap64 (wrap64 (hashN n z k * 131) + z k) + 7)) 1073741823) := Lib.hid rfl
        generalize hashN n z k = h at *
        go_wp2_with fail
        go_round
        case rel => exact ⟨k + 1, by rw [HS.out], by go_num, by omega, by omega⟩
        case measure => simp [intOf]; omega
      · have f1 : (4000 : Int) ≤ k := by omega
        have HE : Hid (hashN n z k = hash n z) := Lib.hid (by unfold hash; congr 1; omega)
        generalize hashN n z k = h at *
        go_wp2_with fail
        go_ret
        exact ⟨_, rfl, Nat.le_refl _, ⟨Nat.zero_le _, by rw [← HE.out]; exact own_new _ _ _⟩, (Ext.refl w).alloc _⟩
    · have HE : Hid (hashN n z k = hash n z) := Lib.hid (by unfold hash; congr 1; omega)
      generalize hashN n z k = h at *
      go_wp2_with fail
      go_ret
      exact ⟨_, rfl, Nat.le_refl _, ⟨Nat.zero_le _, by rw [← HE.out]; exact own_new _ _ _⟩, (Ext.refl w).alloc _⟩

set_option maxRecDepth 20000 in
set_option maxHeartbeats 2000000 in
theorem l1Byte_told (B : Nat) (v : Value) (n : Nat) (z : Nat → Int) (i : Nat) (h : Int) (w : World) (hC : CurZ w B v i h) (hc : BytesZ w v n z) (hB : Off v B) :
    Calls Tryd.prog 54 #[.pointer (some ⟨B, 0, none⟩)] w fun e w' => e = .returned (.int .i64 (byteX n z i h)) ∧ Touch w w' [B] ∧ CurZ w' B v (byteI n i) (nextH h) := by
  obtain ⟨hi, hO⟩ := hC
  obtain ⟨ao, cap, rfl, hn, hz⟩ := hc
  have c0 : w.cell? ⟨B, 0, none⟩ = some (.slice ao n cap) := by rw [hO.cell]; rfl
  have c1 : w.cell? ⟨B, 1, none⟩ = some (.int .i64 i) := by rw [hO.cell]; rfl
  have c2 : w.cell? ⟨B, 2, none⟩ = some (.int .i64 h) := by rw [hO.cell]; rfl
  have z2 := hO.frozen 2
  go_enter Tryd.func54, Tryd.ntmps54
  go_wp2_with fail
  generalize hW : World.setCell w _ _ = W1
  have hO1 : Own W1 B 50 #[.slice ao n cap, .int .i64 i, .int .i64 (nextH h)] := by rw [← hW]; exact hO.set 2 _
  have T1 : Touch w W1 [B] := by rw [← hW]; exact (Touch.of_ext (Ext.refl w) [B]).setCell (by simp) _
  clear hW c0 c1 c2 z2 hO
  have c0 : W1.cell? ⟨B, 0, none⟩ = some (.slice ao n cap) := by rw [hO1.cell]; rfl
  have c1 : W1.cell? ⟨B, 1, none⟩ = some (.int .i64 i) := by rw [hO1.cell]; rfl
  have c2 : W1.cell? ⟨B, 2, none⟩ = some (.int .i64 (nextH h)) := by rw [hO1.cell]; rfl
  obtain ⟨h1, hh1⟩ : ∃ h1, nextH h = h1 := ⟨_, rfl⟩
  rw [hh1] at c2 hO1
  have g2 := reg (Ext.refl _) c2
  refine wp_region_quiet_below (by kernel_rfl) (by kernel_rfl) ?_
  repeat (quiet_step (fail))
  refine wpQuiet_nil ?_
  clear g2
  intro _ hw'
  obtain ⟨pw, hw''⟩ := hw'
  subst hw''
  generalize hX : bits .and .i64 _ 255 = x
  rw [i64_and255] at hX
  have hx0 : 0 ≤ x := by omega
  have hx1 : x ≤ 255 := by omega
  have HX : Hid (rawX (nextH h) = x) := Lib.hid (by rw [hh1]; exact hX)
  have HH := Lib.hid hh1
  clear hX hh1
  have X1 := regx W1 pw
  generalize hW : «Sort».grow (redrawn W1 pw.d) pw.os = W2 at *
  clear hW
  have hO2 := hO1.ext X1
  have T2 := T1.trans (Touch.of_ext X1 [B])
  clear X1 T1 hO1 c0 c1 c2
  have c0 : W2.cell? ⟨B, 0, none⟩ = some (.slice ao n cap) := by rw [hO2.cell]; rfl
  have c1 : W2.cell? ⟨B, 1, none⟩ = some (.int .i64 i) := by rw [hO2.cell]; rfl
  have g0 := reg (Ext.refl _) c0
  have g1 := reg (Ext.refl _) c1
  by_cases hn0 : n ≤ i
  · have f0 : (n : Int) ≤ i := by omega
    have f1 : ((i : Int) < (n : Int)) = False := by simp; omega
    go_wp2_with fail
    refine wp_region_quiet_below (by kernel_rfl) (by kernel_rfl) ?_
    repeat (quiet_step (fail))
    refine wpQuiet_nil ?_
    clear g0 g1 c0 c1
    intro _ hw'
    obtain ⟨pw, hw''⟩ := hw'
    subst hw''
    have X2 := regx W2 pw
    generalize hW : «Sort».grow (redrawn W2 pw.d) pw.os = W3 at *
    go_wp2_with fail
    go_ret
    refine ⟨by rw [byteX, if_neg (by omega), HX.out]; rfl, T2.trans (Touch.of_ext X2 [B]), by rw [byteI, if_neg (by omega)]; exact hi, ?_⟩
    rw [byteI, if_neg (by omega), HH.out]
    exact hO2.ext X2
  · have f0 : (i : Int) < (n : Int) := by omega
    rcases hz with rfl | ⟨a, rfl, hz⟩
    · omega
    obtain ⟨hz1, hz2, hz3⟩ := hz i (by omega)
    obtain ⟨zi, hzi⟩ : ∃ q, z i = q := ⟨_, rfl⟩
    rw [hzi] at hz1 hz2 hz3
    have HZI := Lib.hid hzi; clear hzi
    have hz1 := T2.cell (a := a.add i) (by
      have := hB a n cap (by omega) rfl
      have e : (a.add i).block = a.block := by unfold Addr.add; split <;> rfl
      rw [e]; simp [this]) hz1
    go_wp2_with fail
    refine wp_region_quiet_below (by kernel_rfl) (by kernel_rfl) ?_
    repeat (quiet_step (fail))
    refine wpQuiet_nil ?_
    clear g0 g1 c0 c1
    intro _ hw'
    obtain ⟨pw, hw''⟩ := hw'
    subst hw''
    have X2 := regx W2 pw
    generalize hW : «Sort».grow (redrawn W2 pw.d) pw.os = W3 at *
    clear hW
    have hO3 := hO2.ext X2
    have T3 := T2.trans (Touch.of_ext X2 [B])
    have hz1 := X2.cell hz1
    clear X2 T2 hO2
    have c0 : W3.cell? ⟨B, 0, none⟩ = some (.slice (some a) n cap) := by rw [hO3.cell]; rfl
    have c1 : W3.cell? ⟨B, 1, none⟩ = some (.int .i64 i) := by rw [hO3.cell]; rfl
    have g0 := reg (Ext.refl _) c0
    have g1 := reg (Ext.refl _) c1
    have gz := reg (Ext.refl _) hz1
    go_wp2_with fail
    refine wp_region_quiet_below (by kernel_rfl) (by kernel_rfl) ?_
    repeat (quiet_step (fail))
    refine wpQuiet_nil ?_
    clear g0 g1 c0 c1 gz
    intro _ hw'
    obtain ⟨pw, hw''⟩ := hw'
    subst hw''
    generalize hX : bits .and .i64 _ 255 = y
    rw [i64_and255] at hX
    have HY : Hid (byteX n z i h = y) := Lib.hid (by rw [byteX, if_pos (by omega), HX.out, HZI.out]; exact hX)
    clear hX
    have X3 := regx W3 pw
    generalize hW : «Sort».grow (redrawn W3 pw.d) pw.os = W4 at *
    clear hW
    have hO4 := hO3.ext X3
    have T4 := T3.trans (Touch.of_ext X3 [B])
    have c1 : W4.cell? ⟨B, 1, none⟩ = some (.int .i64 i) := by rw [hO4.cell]; rfl
    have z1 := hO4.frozen 1
    go_wp2_with fail
    go_ret
    refine ⟨by rw [HY.out]; rfl, T4.setCell (by simp) _, by rw [byteI, if_pos (by omega)]; omega, ?_⟩
    rw [byteI, if_pos (by omega), HH.out]
    have := hO4.set 1 (.int .i64 ((i : Int) + 1))
    simpa using this


set_option maxHeartbeats 1000000 in
theorem l1Below_told (B : Nat) (v : Value) (n : Nat) (z : Nat → Int) (i : Nat) (h : Int) (m : Nat) (w : World) (hC : CurZ w B v i h) (hc : BytesZ w v n z) (hB : Off v B) (h0 : 0 < m) (h1 : m ≤ 256) :
    Calls Tryd.prog 31 #[.pointer (some ⟨B, 0, none⟩), .int .i64 m] w fun e w' => e = .returned (.int .i64 (byteX n z i h % m)) ∧ Touch w w' [B] ∧ CurZ w' B v (byteI n i) (nextH h) := by
  have g0 : (0 : Int) < m := by omega
  have hnz : (m : Int) ≠ 0 := by omega
  have hne : ¬ m = 0 := by omega
  have g1 : (m : Int) ≤ 256 := by omega
  go_enter Tryd.func31, Tryd.ntmps31
  go_wp2_with fail
  refine (l1Byte_told B v n z i h w hC hc hB).mono ?_
  obtain ⟨hx0, hx1⟩ := byteX_bd n z i h
  obtain ⟨x, hx⟩ : ∃ x, byteX n z i h = x := ⟨_, rfl⟩
  have HX := Lib.hid hx
  rw [hx] at hx0 hx1
  rintro e w1 ⟨he, hT, hC1⟩
  rw [hx] at he
  subst he
  clear hx
  have hr0 : 0 ≤ x % (m : Int) := Int.emod_nonneg _ hnz
  have hr1 : x % (m : Int) < m := Int.emod_lt_of_pos _ g0
  go_wp2_with fail
  go_ret
  exact ⟨by rw [HX.out]; rfl, hT, hC1⟩

set_option maxHeartbeats 1000000 in
theorem l1Pick_told (B : Nat) (v : Value) (n : Nat) (z : Nat → Int) (i : Nat) (h : Int) (l : List ByteArray) (b cap : Nat) (w : World) (hC : CurZ w B v i h) (hc : BytesZ w v n z) (hB : Off v B) (h0 : 0 < l.length) (h1 : l.length ≤ 256) (hb : b ≠ B) (ha : ∀ i s, l[i]? = some s → w.cell? ⟨b, i, none⟩ = some (.string s)) :
    Calls Tryd.prog 32 #[.pointer (some ⟨B, 0, none⟩), .slice (some ⟨b, 0, none⟩) l.length cap] w fun e w' => e = .returned (.string (l.getD (byteX n z i h % (l.length : Int)).toNat ⟨#[]⟩)) ∧ Touch w w' [B] ∧ CurZ w' B v (byteI n i) (nextH h) := by
  go_enter Tryd.func32, Tryd.ntmps32
  go_wp2_with fail
  refine (l1Below_told B v n z i h l.length w hC hc hB h0 h1).mono ?_
  have hr0 : 0 ≤ byteX n z i h % (l.length : Int) := Int.emod_nonneg _ (by omega)
  have hr1 : byteX n z i h % (l.length : Int) < l.length := Int.emod_lt_of_pos _ (by omega)
  obtain ⟨m, hmx⟩ : ∃ m : Nat, byteX n z i h % (l.length : Int) = m := ⟨(byteX n z i h % (l.length : Int)).toNat, by omega⟩
  have hm : m < l.length := by omega
  rintro e w1 ⟨he, hT, hC1⟩
  rw [hmx] at he
  subst he
  have HV : Hid (l.getD (byteX n z i h % (l.length : Int)).toNat ⟨#[]⟩ = l[m]) := Lib.hid (by rw [hmx]; simp [List.getD, hm])
  clear hmx hr0 hr1
  have a0 := hT.cell (by simpa using hb) (ha m l[m] (by simp [hm]))
  clear ha
  go_wp2_with fail
  go_ret
  exact ⟨by rw [HV.out]; rfl, hT, hC1⟩

set_option maxHeartbeats 1000000 in
theorem l1Once_told (B : Nat) (v : Value) (n : Nat) (z : Nat → Int) (i : Nat) (h : Int) (m : Nat) (w : World) (hC : CurZ w B v i h) (hc : BytesZ w v n z) (hB : Off v B) (h0 : 0 < m) (h1 : m ≤ 256) :
    Calls Tryd.prog 33 #[.pointer (some ⟨B, 0, none⟩), .int .i64 m] w fun e w' => e = .returned (.bool (byteX n z i h % m == 0)) ∧ Touch w w' [B] ∧ CurZ w' B v (byteI n i) (nextH h) := by
  go_enter Tryd.func33, Tryd.ntmps33
  go_wp2_with fail
  refine (l1Below_told B v n z i h m w hC hc hB h0 h1).mono ?_
  rintro e w1 ⟨rfl, hT, hC1⟩
  go_wp2_with fail
  go_ret
  exact ⟨rfl, hT, hC1⟩

def tokPieces : List ByteArray := [⟨#[120]⟩, ⟨#[97, 116, 58]⟩, ⟨#[49, 50]⟩, ⟨#[39, 105, 116, 39, 39, 115, 39]⟩, ⟨#[35, 97, 116, 58, 112, 117, 116, 58]⟩, ⟨#[35, 43]⟩, ⟨#[43]⟩, ⟨#[47, 47]⟩, ⟨#[58, 61]⟩, ⟨#[94]⟩, ⟨#[46]⟩, ⟨#[91]⟩, ⟨#[93]⟩, ⟨#[58]⟩, ⟨#[99, 108, 97, 115, 115]⟩, ⟨#[101, 110, 100]⟩, ⟨#[124]⟩, ⟨#[32]⟩, ⟨#[10]⟩, ⟨#[34, 110, 111, 116, 101, 34]⟩, ⟨#[61, 61]⟩, ⟨#[57, 57, 57, 57, 57, 57, 57, 57, 57]⟩, ⟨#[49, 48, 48, 48, 48, 48, 48, 48, 48, 48]⟩, ⟨#[39]⟩, ⟨#[35]⟩, ⟨#[92, 92]⟩, ⟨#[97, 98, 99, 100, 101, 102, 103, 104, 105, 106, 107, 108, 109, 110, 111, 112, 113, 114, 115, 116, 117]⟩, ⟨#[49, 97]⟩, ⟨#[59]⟩, ⟨#[40]⟩, ⟨#[120, 58, 61]⟩, ⟨#[60, 61]⟩]
def drawT (n : Nat) (z : Nat → Int) : Nat → Nat → Int → ByteArray → ByteArray
  | 0, _, _, out => out
  | r + 1, i, h, out => drawT n z r (byteI n (byteI n i)) (nextH (nextH h)) (if (byteX n z (byteI n i) (nextH h) % 4 == 0) = true then out ++ tokPieces.getD (byteX n z i h % 32).toNat ⟨#[]⟩ else out ++ tokPieces.getD (byteX n z i h % 32).toNat ⟨#[]⟩ ++ ⟨#[32]⟩)
/-- The text that DrawTokens draws of a code. -/
def drawTok (n : Nat) (z : Nat → Int) : ByteArray := drawT n z (byteX n z 0 (hash n z) % 14).toNat (byteI n 0) (nextH (hash n z)) ⟨#[]⟩
theorem piece_size (k : Nat) : (tokPieces.getD k ⟨#[]⟩).size ≤ 21 := by
  by_cases h : k < tokPieces.length
  · have : ∀ k, k < tokPieces.length → (tokPieces.getD k ⟨#[]⟩).size ≤ 21 := by decide
    exact this k h
  · rw [List.getD, List.getElem?_eq_none (by omega)]; exact Nat.zero_le _
theorem drawT_size (n : Nat) (z : Nat → Int) : ∀ (r i : Nat) (h : Int) (out : ByteArray), (drawT n z r i h out).size ≤ out.size + 22 * r
  | 0, _, _, out => by simp [drawT]
  | r + 1, i, h, out => by
    rw [drawT]
    have h1 := piece_size (byteX n z i h % 32).toNat
    have e : (⟨#[32]⟩ : ByteArray).size = 1 := rfl
    split
    · have := drawT_size n z r (byteI n (byteI n i)) (nextH (nextH h)) (out ++ tokPieces.getD (byteX n z i h % 32).toNat ⟨#[]⟩)
      rw [ByteArray.size_append] at this; omega
    · have := drawT_size n z r (byteI n (byteI n i)) (nextH (nextH h)) (out ++ tokPieces.getD (byteX n z i h % 32).toNat ⟨#[]⟩ ++ ⟨#[32]⟩)
      rw [ByteArray.size_append, ByteArray.size_append] at this; omega
theorem drawTok_size (n : Nat) (z : Nat → Int) : (drawTok n z).size ≤ 1000 := by
  have h := drawT_size n z (byteX n z 0 (hash n z) % 14).toNat (byteI n 0) (nextH (hash n z)) ⟨#[]⟩
  have h2 : (byteX n z 0 (hash n z) % 14).toNat < 14 := by omega
  have e : (⟨#[]⟩ : ByteArray).size = 0 := rfl
  unfold drawTok
  omega

set_option maxRecDepth 20000 in
set_option maxHeartbeats 4000000 in
theorem l2Draw_told (B : Nat) (v : Value) (n : Nat) (z : Nat → Int) (w : World) (hC : CurZ w B v 0 (hash n z)) (hc : BytesZ w v n z) (hB : Off v B) :
    Calls Tryd.prog 13 #[.pointer (some ⟨B, 0, none⟩)] w fun e w' => e = .returned (.string (drawTok n z)) ∧ Touch w w' [B] := by
  go_enter Tryd.func13, Tryd.ntmps13
  have x1 : Ext w (w.alloc (.cells (tokPieces.map Value.string).toArray 9)) := (Ext.refl w).alloc _
  have hlt := hC.lt
  have hne : w.heap.size ≠ B := by omega
  have hLS : Hid (∀ i s, tokPieces[i]? = some s → (w.alloc (.cells (tokPieces.map Value.string).toArray 9)).cell? ⟨w.heap.size, i, none⟩ = some (.string s)) := Lib.hid (lit_strs w tokPieces _)
  have HN : Hid (drawTok n z = drawT n z (byteX n z 0 (hash n z) % 14).toNat (byteI n 0) (nextH (hash n z)) ⟨#[]⟩) := Lib.hid rfl
  go_wp2_with fail
  refine (l1Below_told B v n z 0 (hash n z) 14 _ (hC.ext x1) (hc.ext x1) hB (by omega) (by omega)).mono ?_
  have hr0 : 0 ≤ byteX n z 0 (hash n z) % (14 : Int) := Int.emod_nonneg _ (by omega)
  have hr1 : byteX n z 0 (hash n z) % (14 : Int) < 14 := Int.emod_lt_of_pos _ (by omega)
  rintro e w2 ⟨rfl, hT2, hC2⟩
  have hT := (Touch.of_ext x1 [B]).trans hT2
  have hls : Hid (∀ i s, tokPieces[i]? = some s → w2.cell? ⟨w.heap.size, i, none⟩ = some (.string s)) := Lib.hid fun i s h => hT2.cell (by simpa using hne) (hLS.out i s h)
  have hc2 := hc.touch hT hB
  have HN2 : Hid (∀ q : Nat, byteX n z 0 (hash n z) % (14 : Int) = q → drawT n z q (byteI n 0) (nextH (hash n z)) ⟨#[]⟩ = drawTok n z) := Lib.hid fun q h => by rw [HN.out, h]; rfl
  clear HN hLS hT2 x1 hC hc
  generalize byteX n z 0 (hash n z) % (14 : Int) = q0 at *
  obtain ⟨q, rfl⟩ : ∃ q : Nat, q0 = q := ⟨q0.toNat, by omega⟩
  have HN := Lib.hid (HN2.out q rfl)
  generalize byteI n 0 = i0 at *
  generalize nextH (hash n z) = h0 at *
  clear HN2
  go_wp2_with fail
  go_loopw [4, 6] (fun ov iv wr => ∃ (j i : Nat) (h : Int) (s : ByteArray), j ≤ q ∧ iv = .int .i64 j ∧ ov = .string s ∧ s.size ≤ 22 * j ∧ CurZ wr B v i h ∧ Touch w2 wr [B] ∧ Hid (drawT n z (q - j) i h s = drawTok n z)) (fun _ iv _ => q - (intOf iv).toNat)
  case atStart => exact ⟨0, i0, h0, ⟨#[]⟩, Nat.zero_le _, rfl, rfl, Nat.zero_le _, hC2, Touch.of_ext (Ext.refl _) _, HN⟩
  case round =>
    obtain ⟨j, i, h, s, hj, rfl, rfl, hs, hCr, hTr, hR⟩ := hrel
    by_cases hlt2 : j < q
    rotate_left
    · have HE : Hid (s = drawTok n z) := Lib.hid (by have := hR.out; rw [show q - j = 0 by omega] at this; exact this)
      go_wp2_with fail
      go_ret
      exact ⟨by rw [HE.out]; rfl, hT.trans hTr⟩
    have HS : Hid (drawT n z (q - (j + 1)) (byteI n (byteI n i)) (nextH (nextH h)) (if (byteX n z (byteI n i) (nextH h) % 4 == 0) = true then s ++ tokPieces.getD (byteX n z i h % 32).toNat ⟨#[]⟩ else s ++ tokPieces.getD (byteX n z i h % 32).toNat ⟨#[]⟩ ++ ⟨#[32]⟩) = drawTok n z) := Lib.hid (by
      have := hR.out
      rw [show q - j = (q - (j + 1)) + 1 by omega, drawT] at this
      exact this)
    have hji : (j : Int) < q := by omega
    clear hR
    go_wp2_with fail
    refine (l1Pick_told B v n z i h tokPieces w.heap.size 32 wr hCr (hc2.touch hTr hB) hB (by decide) (by decide) hne (fun i s h => hTr.cell (by simpa using hne) (hls.out i s h))).mono ?_
    have hps := piece_size (byteX n z i h % ((tokPieces.length : Nat) : Int)).toNat
    have HP : Hid (tokPieces.getD (byteX n z i h % ((tokPieces.length : Nat) : Int)).toNat ⟨#[]⟩ = tokPieces.getD (byteX n z i h % 32).toNat ⟨#[]⟩) := Lib.hid rfl
    generalize tokPieces.getD (byteX n z i h % ((tokPieces.length : Nat) : Int)).toNat ⟨#[]⟩ = p at *
    rintro e w3 ⟨rfl, hT3, hC3⟩
    have hT23 := hTr.trans hT3
    rw [← HP.out] at HS
    clear HP
    have hps2 : p.size ≤ 21 := hps
    go_wp2_with fail
    refine (l1Once_told B v n z (byteI n i) (nextH h) 4 w3 hC3 (hc2.touch hT23 hB) hB (by omega) (by omega)).mono ?_
    have hTT : Hid (Touch w2 w3 [B]) := Lib.hid hT23
    clear hT3 hT23 hCr hTr hps
    generalize hbb : (byteX n z (byteI n i) (nextH h) % ((4 : Nat) : Int) == 0) = bb
    rw [show (byteX n z (byteI n i) (nextH h) % 4 == 0) = bb from hbb] at HS
    clear hbb
    rintro e w4 ⟨rfl, hT4, hC4⟩
    have hT24 := hTT.out.trans hT4
    cases bb
    · have HS2 : Hid (drawT n z (q - (j + 1)) (byteI n (byteI n i)) (nextH (nextH h)) (s ++ p ++ ⟨#[32]⟩) = drawTok n z) := HS
      clear HS
      go_wp2_with fail
      go_roundw
      case rel => exact ⟨j + 1, _, _, s ++ p ++ ⟨#[32]⟩, by omega, by go_num, rfl, by rw [ByteArray.size_append, ByteArray.size_append]; have e : (⟨#[32]⟩ : ByteArray).size = 1 := rfl; omega, hC4, hT24, HS2⟩
      case measure => simp [intOf]; omega
    · have HS2 : Hid (drawT n z (q - (j + 1)) (byteI n (byteI n i)) (nextH (nextH h)) (s ++ p) = drawTok n z) := HS
      clear HS
      go_wp2_with fail
      go_roundw
      case rel => exact ⟨j + 1, _, _, s ++ p, by omega, by go_num, rfl, by rw [ByteArray.size_append]; omega, hC4, hT24, HS2⟩
      case measure => simp [intOf]; omega

set_option maxHeartbeats 1000000 in
theorem DrawTokens_told (v : Value) (n : Nat) (z : Nat → Int) (w : World) (hc : BytesZ w v n z) (hs : n ≤ 1048576) :
    Calls Tryd.prog 6 #[v] w fun e w' => e = .returned (.string (drawTok n z)) ∧ Ext w w' := by
  go_enter Tryd.func6, Tryd.ntmps6
  go_wp2_with fail
  refine (l1New_told v n z w hc hs).mono ?_
  rintro e w1 ⟨B, rfl, hB, hC, hx1⟩
  have hof : Off v B := off_new hc.bytes hB
  go_wp2_with fail
  refine (l2Draw_told B v n z w1 hC (hc.ext hx1) hof).mono ?_
  rintro e w2 ⟨rfl, hT⟩
  go_wp2_with fail
  go_ret
  exact ⟨rfl, hT.ext hx1 (by simpa using hB)⟩

end Go.Proofs.YtkajinmknhnpkaaDoor
