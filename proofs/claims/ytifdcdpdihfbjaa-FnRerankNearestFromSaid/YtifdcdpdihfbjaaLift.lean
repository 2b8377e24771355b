/- What every law's last step leans on: the program's closed facts, and the code that came in. -/
import Derived.Test.YtifdcdpdihfbjaaRows
import Derived.ProofKit
import Derived.OpenShut
import Derived.ShutString
import Derived.ChangeOld
import Derived.Below
import Derived.Lib.SmallJoins
import Derived.Test.YtifdcdpdihfbjaaRead
namespace Go.Proofs.Ytifdcdpdihfbjaa
open Go.ChangeShapes Go.WideShapes Go.ChangeAt Go.RowKit Go.Joins
set_option linter.unusedVariables false
theorem own : ownKnob Try.prog.godebug = none := by kernel_rfl
theorem laidOut : laidOutB Try.prog = true := by kernel_rfl
theorem code_nil (W : World) : Code W W.heap.size none 0 0 := ⟨Nat.le_refl _, by omega, fun h => absurd h (by omega)⟩
theorem code_row {W : World} {x : Addr} {len cap : Nat} {zs : List Int} (hl : len ≤ cap) (hm : cap ≤ maxLen) (hz : zs.length = cap) (hcell : ∀ i, i < zs.length → W.cell? (x.add i) = some (.int .u8 (zs.getD i 0))) (hwz : ∀ n ∈ zs, (Lit.int .u8 n).wf = true) :
    Code W W.heap.size (some x) len cap := by
  refine ⟨hl, by unfold maxLen at hm; omega, fun hn => ?_⟩
  obtain ⟨b, off, spot⟩ := x
  have hc := hcell 0 (by omega)
  have hspot : spot = none := by simpa [Addr.add] using World.cell?_spot hc
  subst hspot
  have hc0 : W.cell? ⟨b, off, none⟩ = some (.int .u8 (zs.getD 0 0)) := by simpa [Addr.add] using hc
  refine ⟨b, off, rfl, cell_lt hc0, fun k hk => ⟨zs.getD k 0, ?_, ?_, ?_⟩⟩
  · have hx := hwz (zs.getD k 0) (by rw [List.getD_eq_getElem?_getD, List.getElem?_eq_getElem (by omega)]; simp)
    simp [Lit.wf, IntKind.min, IntKind.max, IntKind.signed, IntKind.bits] at hx
    simp only [List.getD_eq_getElem?_getD]
    omega
  · have hx := hwz (zs.getD k 0) (by rw [List.getD_eq_getElem?_getD, List.getElem?_eq_getElem (by omega)]; simp)
    simp [Lit.wf, IntKind.min, IntKind.max, IntKind.signed, IntKind.bits] at hx
    simp only [List.getD_eq_getElem?_getD]
    omega
  · have h := hcell k (by omega)
    rw [← h]
    unfold Addr.add
    by_cases h0 : k = 0 <;> simp [h0]
end Go.Proofs.Ytifdcdpdihfbjaa
