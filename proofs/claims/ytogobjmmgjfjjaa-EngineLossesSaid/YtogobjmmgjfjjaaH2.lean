/- What is proved: what the example answers, in plain Lean. Conditions: none. -/
import Derived.Test.YtogobjmmgjfjjaaH1
namespace Go.Proofs.Ytogobjmmgjfjjaa
open Go.RowKit

theorem exP_ok (never : Bool) : plantB (exP never) = true := by
  cases never with
  | false => kernel_rfl
  | true => kernel_rfl
def exS : Sys := tickB (tickB (orderB (orderB (putB (startB (exP false)) 0 80 0).2 0 true).2 1 true).2)
set_option maxRecDepth 100000 in
theorem exS_put : (putB (startB (exP false)) 0 80 0).1 = 0 := by kernel_rfl
set_option maxRecDepth 100000 in
theorem exS_a : numberB exS 0 0 = (50, 0) := by kernel_rfl
set_option maxRecDepth 100000 in
theorem exS_b : numberB exS 0 1 = (30, 0) := by kernel_rfl
set_option maxRecDepth 100000 in
theorem exS_c : numberB exS 1 0 = (200, 0) := by kernel_rfl
theorem exT_1 : (orderB (startB (exP true)) 0 true).1 = 0 := by kernel_rfl
theorem exT_2 : (orderB (orderB (startB (exP true)) 0 true).2 1 true).1 = 9 := by kernel_rfl
theorem exLoss : lossB 100 60 0 30 1 2 = (6, 14, 0) := by kernel_rfl
set_option maxRecDepth 100000 in
theorem exPath1 : pathB (exP false) [⟨0, true⟩] = ([⟨0, true⟩], 0) := by kernel_rfl
set_option maxRecDepth 100000 in
theorem exPath2 : pathB (exP true) [⟨0, true⟩, ⟨1, true⟩] = ([], 7) := by kernel_rfl
end Go.Proofs.Ytogobjmmgjfjjaa
