/-
  What the chapter's two words that tell that addresses live are, plain. Conditions: none.
-/
import Derived.Test.YtlepbooegofoeaaGreatDoorUrK
import Derived.WalkKit
namespace Urly
set_option maxRecDepth 100000
theorem lives_res : resolve [104, 116, 116, 112, 58, 47, 47, 65, 46, 98, 58, 56, 48, 47, 120, 47, 121, 63, 113, 35, 102] [46, 46, 47, 122] = .ok [104, 116, 116, 112, 58, 47, 47, 97, 46, 98, 47, 122] := by kernel_rfl
theorem lives_par : parse [104, 116, 116, 112, 115, 58, 47, 47, 104, 47, 97, 37, 50, 102, 98] = .ok ⟨[104, 116, 116, 112, 115], [104], 0, [[97, 47, 98]], [], false, [], false⟩ := by kernel_rfl
theorem lives_enc : enc [97, 32, 98] = [97, 37, 50, 48, 98] := by kernel_rfl
end Urly
