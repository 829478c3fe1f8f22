/-
  CONTRACTS: a right node of a core tree, of the reference.
  Conditions: those that each lemma states.
-/
import Derived.Test.YtlaclfeljimffaaGreatDoorRows
import Derived.Test.YtlaclfeljimffaaGreatDoorP34
import Derived.Test.YtlaclfeljimffaaGreatDoorP35
import Derived.Test.YtlaclfeljimffaaGreatDoorP36
import Derived.Test.YtlaclfeljimffaaGreatDoorP37
namespace Go.Proofs.YtlaclfeljimffaaGreatDoor
open Go.RowKit
set_option maxHeartbeats 8000000
set_option maxRecDepth 100000
set_option linter.unusedSimpArgs false
set_option linter.unusedVariables false
theorem l8Right_node (n : Nat) (IH : Hid (CoreAtS n)) (kd : Int) (t : ByteArray) (nu de : Int) (kids : List MCore) (ak : Option Addr) (ck : Nat) (K : Int) (F : Fr) (vs vp : Value) (w : World)
 (hd : (MCore.mk kd t nu de kids).deep <= n + 1) (hF : F.length + (n + 1) <= 1000) (hFo : FrOk F) (hK0 : 0 <= K) (hK1 : K <= 1000) (hb : (MCore.mk kd t nu de kids).d.bulk <= 1048576)
 (rk : Rep w (MCores kids) [.slice ak kids.length ck]) (rs : Rep w (slD F) [vs]) (rp : Rep w (paD F) [vp]) (h15 : kd ≠ 15) :
 Calls Tryz.prog 73 #[.agg #[.int .i64 kd, .string t, .int .i64 nu, .int .i64 de, .slice ak kids.length ck], .int .i64 K, vs, vp] w fun e w' => e = .returned (.bool (prB (okN (n + 1) K F ⟨kd, t, nu, de, kids⟩))) /\ Ext w w' := by
 by_cases h1 : 1 <= kd /\ kd <= 8
 · exact l8Right_a n IH kd t nu de kids ak ck K F vs vp w hd hF hFo hK0 hK1 hb rk rs rp h15 h1
 by_cases h2 : kd = 16
 · cases h3 : inR 0 de nu
   · exact l8Right_c n IH kd t nu de kids ak ck K F vs vp w hd hF hFo hK0 hK1 hb rk rs rp h15 ⟨h2, h3⟩
   · exact l8Right_d n IH kd t nu de kids ak ck K F vs vp w hd hF hFo hK0 hK1 hb rk rs rp h15 ⟨h2, h3⟩
 exact l8Right_b n IH kd t nu de kids ak ck K F vs vp w hd hF hFo hK0 hK1 hb rk rs rp h15 ⟨h1, h2⟩
end Go.Proofs.YtlaclfeljimffaaGreatDoor
