/- marquee/marqueelaw21.PatternNone: the row. For every input that the law's parameter's kind lets in the call answers true and leaves its argument as it was. Conditions: those of the given row. -/
import Derived.Test.YtjchiiohpdphbaaGreatRunPatternNone
namespace Go.Proofs.YtjchiiohpdphbaaGreat.patternNone
open Go.ChangeShapes Go.WideShapes Go.ChangeAt Go.RowKit Go.Joins Go.Proofs.YtjchiiohpdphbaaGreatDx
noncomputable def startWorld (os : Os) : World := World.holding Tryz.prog os ⟨#[], #[], []⟩
theorem reads (os : Os) {H : Type} (enc : TypeId × Value → H) : ∃ places, DataW.whole enc Tryz.prog ((startWorld os).forCall (fun _ _ => 0) ⟨#[], #[.agg #[.bool false, .int .i64 0, .string ByteArray.empty, .slice none 0 0]], []⟩).memory Tryz.f6.params.toList Rows.patternNoneSpec.vars false (#[.agg #[.bool false, .int .i64 0, .string ByteArray.empty, .slice none 0 0]] : Array Value).toList 8 = some ([.agg [.lit (.bool false), .lit (.int .i64 0), .agg [.lit (.string []), .nil]]], [], places) := by
  have hw : (DataW.whole enc Tryz.prog ((startWorld os).forCall (fun _ _ => 0) ⟨#[], #[.agg #[.bool false, .int .i64 0, .string ByteArray.empty, .slice none 0 0]], []⟩).memory Tryz.f6.params.toList Rows.patternNoneSpec.vars false (#[.agg #[.bool false, .int .i64 0, .string ByteArray.empty, .slice none 0 0]] : Array Value).toList 8).map (fun x => (x.1, x.2.1)) = some ([.agg [.lit (.bool false), .lit (.int .i64 0), .agg [.lit (.string []), .nil]]], []) := by kernel_rfl
  obtain ⟨⟨x1, x2, x3⟩, hx, hx1⟩ := Option.map_eq_some_iff.1 hw
  simp only [Prod.mk.injEq] at hx1
  obtain ⟨rfl, rfl⟩ := hx1
  exact ⟨x3, hx⟩
theorem laid_met {W : World} : laidMetH Tryz.prog Rows.patternNoneRow.laid W := by
  show laidMet Tryz.prog [] W
  exact laidMet_nil _ _
set_option maxRecDepth 100000 in
set_option maxHeartbeats 4000000 in
theorem lifted (os : Os) (started : os.Started) (H : Type) (enc : TypeId × Value → H) (F : Stop.Interp) :
    ReturnsInHanded {} Tryz.checked os 6 .any ((OpenSpec.ofChange Rows.patternNoneSpec).preRow enc Tryz.prog Tryz.f6 Rows.patternNoneRow.domain false Rows.patternNoneRow.laid) (((OpenSpec.ofChange Rows.patternNoneSpec).at F).post enc Tryz.prog Tryz.f6 false true false false) := by
  obtain ⟨places, hx⟩ := reads os enc
  refine returnsInHanded_of_row (C := Tryz.checked) (s := (OpenSpec.ofChange Rows.patternNoneSpec)) own started (by kernel_rfl) Tryz.func6
    (witness_row_at (enc := enc) (C := Tryz.checked) false (startWorld os) #[.agg #[.bool false, .int .i64 0, .string ByteArray.empty, .slice none 0 0]] rfl (by kernel_rfl) (by kernel_rfl) (by kernel_rfl)
      (OpenSpec.preRow_of_cond 8 hx (by kernel_rfl) (fun k hk => by cases hk) (by kernel_rfl) laid_met)) ?_
  intro W base args ds gs before hval hW _ _ _ _ _ _
  exact contract H enc W base args ds gs before hval hW
theorem said : Rows.PatternNoneSaid :=
  OpenClaim.holds_of_cond 6 Tryz.f6 rfl rfl rfl rfl rfl rfl rfl ⟨rfl, rfl, rfl, rfl, rfl⟩ rfl rfl rfl rfl rfl (by kernel_rfl) Tryz.func6 (by kernel_rfl)
    (of_decide_eq_true (by kernel_rfl)) (by unfold Func.isWrapper; first | (rw [if_pos (by decide +kernel)]; kernel_rfl) | (rw [if_neg (by decide +kernel)]; exact ⟨rfl, rfl⟩))
    (fun os started H enc _ F => by rw [OpenClaim.pre_eq_preRow]; exact lifted os started H enc F)
#print axioms said
end Go.Proofs.YtjchiiohpdphbaaGreat.patternNone
namespace Go.Proofs.YtjchiiohpdphbaaGreat
/-- The row, under a short name. -/
theorem patternNone_said : Rows.PatternNoneSaid := patternNone.said
end Go.Proofs.YtjchiiohpdphbaaGreat
