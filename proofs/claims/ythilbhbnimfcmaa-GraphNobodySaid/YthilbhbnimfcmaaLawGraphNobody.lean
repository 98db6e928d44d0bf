/- marquee/marqueelaw24.GraphNobody: the row. For every input that the law's parameters' kinds let in the call answers true and leaves its arguments as they were. Conditions: those of the given row. -/
import Derived.Test.YthilbhbnimfcmaaRunGraphNobody
namespace Go.Proofs.Ythilbhbnimfcmaa.graphNobody
open Go.ChangeShapes Go.WideShapes Go.ChangeAt Go.RowKit Go.Joins Go.Proofs.YthilbhbnimfcmaaDx
set_option linter.unusedVariables false
noncomputable def startWorld (os : Os) : World := World.holding Try.prog os ⟨#[], #[], []⟩
theorem laid_met (os : Os) (args : Array Value) : laidMetH Try.prog Rows.graphNobodyRow.laid ((startWorld os).forCall (fun _ _ => 0) ⟨#[], args, []⟩).memory := by
  show laidMet Try.prog [] _
  exact laidMet_nil _ _
theorem reads (os : Os) {H : Type} (enc : TypeId × Value → H) : ∃ places, DataW.whole enc Try.prog ((startWorld os).forCall (fun _ _ => 0) ⟨#[], #[.agg #[.bool false, .int .i64 0, .slice none 0 0, .string ByteArray.empty]], []⟩).memory Try.f4.params.toList Rows.graphNobodySpec.vars false (#[.agg #[.bool false, .int .i64 0, .slice none 0 0, .string ByteArray.empty]] : Array Value).toList 8 = some ([.agg [.lit (.bool false), .lit (.int .i64 0), .nil, .lit (.string [])]], [], places) := by
  have hw : (DataW.whole enc Try.prog ((startWorld os).forCall (fun _ _ => 0) ⟨#[], #[.agg #[.bool false, .int .i64 0, .slice none 0 0, .string ByteArray.empty]], []⟩).memory Try.f4.params.toList Rows.graphNobodySpec.vars false (#[.agg #[.bool false, .int .i64 0, .slice none 0 0, .string ByteArray.empty]] : Array Value).toList 8).map (fun x => (x.1, x.2.1)) = some ([.agg [.lit (.bool false), .lit (.int .i64 0), .nil, .lit (.string [])]], []) := by kernel_rfl
  obtain ⟨⟨x1, x2, x3⟩, hx, hx1⟩ := Option.map_eq_some_iff.1 hw
  simp only [Prod.mk.injEq] at hx1
  obtain ⟨rfl, rfl⟩ := hx1
  exact ⟨x3, hx⟩
set_option maxRecDepth 100000 in
set_option maxHeartbeats 4000000 in
theorem lifted (os : Os) (started : os.Started) (H : Type) (enc : TypeId × Value → H) (F : Stop.Interp) :
    ReturnsInHanded {} Try.checked os 4 .any ((OpenSpec.ofChange Rows.graphNobodySpec).preRow enc Try.prog Try.f4 Rows.graphNobodyRow.domain false Rows.graphNobodyRow.laid) (((OpenSpec.ofChange Rows.graphNobodySpec).at F).post enc Try.prog Try.f4 false true false false) := by
  obtain ⟨places, hx⟩ := reads os enc
  refine returnsInHanded_of_row (C := Try.checked) (s := (OpenSpec.ofChange Rows.graphNobodySpec)) own started (by kernel_rfl) Try.func4
    (witness_row_at (enc := enc) (C := Try.checked) false (startWorld os) #[.agg #[.bool false, .int .i64 0, .slice none 0 0, .string ByteArray.empty]] rfl (by kernel_rfl) (by kernel_rfl) (by kernel_rfl)
      (OpenSpec.preRow_of_cond 8 hx (by kernel_rfl) (fun k hk => by cases hk) (by kernel_rfl) (laid_met os _))) ?_
  intro W base args ds gs before hval hW _ _ _ _ _ _
  exact contract H enc W base args ds gs before hval hW
theorem said : Rows.GraphNobodySaid :=
  OpenClaim.holds_of_cond 4 Try.f4 rfl rfl rfl rfl rfl rfl rfl ⟨rfl, rfl, rfl, rfl, rfl⟩ rfl rfl rfl rfl rfl (by kernel_rfl) Try.func4 (by kernel_rfl)
    (of_decide_eq_true (by kernel_rfl)) (by unfold Func.isWrapper; first | (rw [if_pos (by decide +kernel)]; kernel_rfl) | (rw [if_neg (by decide +kernel)]; exact ⟨rfl, rfl⟩))
    (fun os started H enc _ F => by rw [OpenClaim.pre_eq_preRow]; exact lifted os started H enc F)
#print axioms said
end Go.Proofs.Ythilbhbnimfcmaa.graphNobody
namespace Go.Proofs.Ythilbhbnimfcmaa
/-- What is claimed, under a short name. -/
theorem graphNobody_said : Rows.GraphNobodySaid := graphNobody.said
end Go.Proofs.Ythilbhbnimfcmaa
