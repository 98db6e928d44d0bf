/- The plain law of ValueLogic: whatever two values are, the program's logic answers as the document's. No Go and no memory in it. -/
import Derived.Test.YthfialcaddjjaaaDoorPValueLogicx6
namespace Go.Proofs.YthfialcaddjjaaaDoor.Pure
open Go.RowKit Go.Proofs.YthfialcaddjjaaaDoor.PValueLogic Go.Proofs.YthfialcaddjjaaaDoorW.PrintWords
theorem logic_parts (k n : Int) (s : ByteArray) : (value_logic.f k n s = some (-1) ∧ marqueeref01_logic.f k n s = some 0) ∨ (value_logic.f k n s = some 1 ∧ marqueeref01_logic.f k n s = some 1) ∨ (value_logic.f k n s = some 0 ∧ marqueeref01_logic.f k n s = some 2) := by
  unfold value_logic.f marqueeref01_logic.f
  by_cases hk : k = 1
  · by_cases hn : n = 0
    · exact .inl (by simp [hk, hn])
    · exact .inr (.inl (by simp [hk, hn]))
  · exact .inr (.inr (by simp [hk]))
theorem ValueLogic (a0_0 a0_1 : Int) (a0_2 : ByteArray) (a1_0 a1_1 : Int) (a1_2 : ByteArray) (_ : (Lit.int .i64 a0_0).wf = true) (_ : (Lit.int .i64 a0_1).wf = true) (_ : a0_2.size ≤ maxLen) (_ : (Lit.int .i64 a1_0).wf = true) (_ : (Lit.int .i64 a1_1).wf = true) (_ : a1_2.size ≤ maxLen) :
    ∃ k, marqueelaw01_ValueLogic.f k a0_0 a0_1 a0_2 a1_0 a1_1 a1_2 = some true := by
  refine ⟨2, ?_⟩
  unfold marqueelaw01_ValueLogic.f value_Not.f marqueeref01_Not.f value_And.f marqueeref01_And.f value_Or.f marqueeref01_Or.f value_True.f marqueeref01_True.f
  rcases logic_parts a0_0 a0_1 a0_2 with ⟨h1, h2⟩ | ⟨h1, h2⟩ | ⟨h1, h2⟩
  all_goals rcases logic_parts a1_0 a1_1 a1_2 with ⟨h3, h4⟩ | ⟨h3, h4⟩ | ⟨h3, h4⟩
  all_goals
    rw [h1, h2, h3, h4]
    kernel_rfl
end Go.Proofs.YthfialcaddjjaaaDoor.Pure
