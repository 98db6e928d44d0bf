/- The plain law of ValueLaws. No Go and no memory in it. -/
import Derived.Test.YthfialcaddjjaaaDoorPValueLawsx0
import Derived.Test.YthfialcaddjjaaaDoorPValueLawsx1
import Derived.Test.YthfialcaddjjaaaDoorPValueLawsx2
import Derived.Test.YthfialcaddjjaaaDoorPValueLawsx3
import Derived.Test.YthfialcaddjjaaaDoorPValueLawsxL
import Derived.DataShut
import Derived.Lib.TrimUEq
import Derived.Lib.ValidLaws
import Derived.Lib.MapLaws
namespace Go.Proofs.YthfialcaddjjaaaDoor.Pure
set_option linter.unusedSimpArgs false
set_option maxRecDepth 4000
open Go.RowKit Go.Proofs.YthfialcaddjjaaaDoor.PValueLaws Go.Proofs.YthfialcaddjjaaaDoorW.PrintWords Go.WideShapes
/-- What the program makes of a level of truth. -/
def V (p : Int) : Int × Int × ByteArray := if p = 0 then (0, 0, ⟨#[]⟩) else if p > 0 then (1, 1, ⟨#[]⟩) else (1, 0, ⟨#[]⟩)
/-- The level of truth of a value. -/
def lv (k n : Int) : Int := if k = 1 then (if n = 0 then -1 else 1) else 0
def lvV (v : Int × Int × ByteArray) : Int := lv v.1 v.2.1
def isL (p : Int) : Prop := p = -1 ∨ p = 0 ∨ p = 1
theorem lv_is (k n : Int) : isL (lv k n) := by
  unfold lv isL
  repeat' split
  all_goals omega
theorem lv_V {p : Int} (h : isL p) : lvV (V p) = p := by rcases h with rfl | rfl | rfl <;> rfl
theorem logic_eq (k n : Int) (s : ByteArray) : value_logic.f k n s = some (lv k n) := by
  unfold value_logic.f lv
  repeat' split
  all_goals rfl
theorem of_eq (p : Int) : value_of.f p = some (V p) := by
  unfold value_of.f V
  by_cases h : p = 0
  · simp [h]
  · by_cases h2 : p > 0
    · simp [h, h2, value_truth.f]
    · simp [h, h2, value_truth.f]
theorem not_eq (k n : Int) (s : ByteArray) : value_Not.f k n s = some (V (-lv k n)) := by
  unfold value_Not.f
  rw [logic_eq, Option.bind_some]
  have e : wrap64 (-lv k n) = -lv k n := by
    have := lv_is k n
    unfold isL at this
    unfold wrap64; omega
  rw [e, of_eq]; rfl
theorem and_eq (k n : Int) (s : ByteArray) (k' n' : Int) (s' : ByteArray) : value_And.f k n s k' n' s' = some (V (mn (lv k n) (lv k' n'))) := by
  unfold value_And.f
  rw [logic_eq, Option.bind_some, logic_eq, Option.bind_some, of_eq]; rfl
theorem or_eq (k n : Int) (s : ByteArray) (k' n' : Int) (s' : ByteArray) : value_Or.f k n s k' n' s' = some (V (mx (lv k n) (lv k' n'))) := by
  unfold value_Or.f
  rw [logic_eq, Option.bind_some, logic_eq, Option.bind_some, of_eq]; rfl
theorem ValueLaws (a0_0 a0_1 : Int) (a0_2 : ByteArray) (a0_3 a0_4 : Int) (a0_5 : ByteArray) (a0_6 a0_7 : Int) (a0_8 : ByteArray) (_ : (Lit.int .i64 a0_0).wf = true) (_ : (Lit.int .i64 a0_1).wf = true) (_ : a0_2.size ≤ maxLen) (_ : (Lit.int .i64 a0_3).wf = true) (_ : (Lit.int .i64 a0_4).wf = true) (_ : a0_5.size ≤ maxLen) (_ : (Lit.int .i64 a0_6).wf = true) (_ : (Lit.int .i64 a0_7).wf = true) (_ : a0_8.size ≤ maxLen) :
    marqueelaw01_ValueLaws.f a0_0 a0_1 a0_2 a0_3 a0_4 a0_5 a0_6 a0_7 a0_8 = some true := by
  refine if_pos ?_
  unfold marqueelaw01_ValueLaws.Says
  simp only [not_eq, and_eq, or_eq, Option.some.injEq]
  have hx := lv_is a0_0 a0_1
  have hy := lv_is a0_3 a0_4
  have hz := lv_is a0_6 a0_7
  generalize lv a0_0 a0_1 = x at *
  generalize lv a0_3 a0_4 = y at *
  generalize lv a0_6 a0_7 = z at *
  refine ⟨(V (mn x y)).1, (V (mn x y)).2.1, (V (mn x y)).2.2, (V (-(mn x y))).1, (V (-(mn x y))).2.1, (V (-(mn x y))).2.2, (V (-x)).1, (V (-x)).2.1, (V (-x)).2.2, (V (-y)).1, (V (-y)).2.1, (V (-y)).2.2, (V (mx x y)).1, (V (mx x y)).2.1, (V (mx x y)).2.2, (V (-(mx x y))).1, (V (-(mx x y))).2.1, (V (-(mx x y))).2.2, (V (mn y z)).1, (V (mn y z)).2.1, (V (mn y z)).2.2, (V (mn x (mn y z))).1, (V (mn x (mn y z))).2.1, (V (mn x (mn y z))).2.2, (V (mx y z)).1, (V (mx y z)).2.1, (V (mx y z)).2.2, (V (mn x (mx y z))).1, (V (mn x (mx y z))).2.1, (V (mn x (mx y z))).2.2, (V (mn x z)).1, (V (mn x z)).2.1, (V (mn x z)).2.2, ?_⟩
  rcases hx with rfl | rfl | rfl <;> rcases hy with rfl | rfl | rfl <;> rcases hz with rfl | rfl | rfl
  all_goals exact ⟨by kernel_rfl, by kernel_rfl, by kernel_rfl, by kernel_rfl, by kernel_rfl, by kernel_rfl, by kernel_rfl, by kernel_rfl, by kernel_rfl, by kernel_rfl, by kernel_rfl, by kernel_rfl, by kernel_rfl, by kernel_rfl, by kernel_rfl, by kernel_rfl, by kernel_rfl⟩
end Go.Proofs.YthfialcaddjjaaaDoor.Pure
