/- A part of the proof of this claim. No condition beyond those that each theorem names. -/
import Derived.Test.YtchbodpkaiengaaGreatDoorRows
import Derived.Test.YtchbodpkaiengaaGreatDoorXDxE2
namespace Go.Proofs.YtchbodpkaiengaaGreatDoor.sure
open Go Go.Proofs Go.Proofs.YtchbodpkaiengaaGreatDoorDx
set_option linter.unusedVariables false
noncomputable def cfg : Cfg := cfgOf Tryz.prog 8 8 (eqsOf Tryz.prog) (fun _ _ => none) (fun _ _ => none)
theorem cfg_ok [Eta] : CfgOk cfg := cfgOf_ok _ _ _ _ _ _ fun t h => eqsOf_ok h
theorem known_ok [Eta] {W : World} : PrimOk cfg W.heap.size (fun _ => True) := PrimOk.still fun f args v hp h => by cases h
theorem names : ∀ f fn, cfg.fns f = some fn → (fn.name == "runtime.NumGoroutine") = false := by
  have h : (Tryz.prog.funcs.toList.all fun fn => !(fn.name == "runtime.NumGoroutine")) = true := by kernel_rfl
  intro f fn hf
  have hm : fn ∈ Tryz.prog.funcs.toList := by
    have hf' : Tryz.prog.funcs[f]? = some fn := hf
    simpa using Array.mem_of_getElem? hf'
  simpa using List.all_eq_true.1 h fn hm
noncomputable def tables : List (Nat × IntKind × List Int) := [(6, .u8, [0, 1, 28, 2, 29, 14, 24, 3, 30, 22, 20, 15, 25, 17, 4, 8, 31, 27, 13, 23, 21, 19, 16, 7, 26, 12, 18, 6, 11, 5, 10, 9]), (7, .u8, [0, 1, 56, 2, 57, 49, 28, 3, 61, 58, 42, 50, 38, 29, 17, 4, 62, 47, 59, 36, 45, 43, 51, 22, 53, 39, 33, 30, 24, 18, 12, 5, 63, 55, 48, 27, 60, 41, 37, 16, 46, 35, 44, 21, 52, 32, 23, 11, 54, 26, 40, 15, 34, 20, 31, 10, 25, 14, 19, 9, 13, 8, 7, 6]), (5, .u64, [1, 10, 100, 1000, 10000, 100000, 1000000, 10000000, 100000000, 1000000000, 10000000000, 100000000000, 1000000000000, 10000000000000, 100000000000000, 1000000000000000, 10000000000000000, 100000000000000000, 1000000000000000000, 10000000000000000000]), (1, .u8, [128, 191, 160, 191, 128, 159, 144, 191, 128, 143, 0, 0, 0, 0, 0, 0, 0, 0, 0, 0, 0, 0, 0, 0, 0, 0, 0, 0, 0, 0, 0, 0]), (0, .u8, Go.Lib.firstTab)]
set_option maxRecDepth 1000000 in
theorem runs : saysD true (callD cfg 100 (.fn 12) [] ⟨tabsH tables, 8⟩) = true := by kernel_rfl
theorem at_laid_math_bits_deBruijn32tab {W : World} (h : laidMet Tryz.prog Rows.funcsKindsRow.laid W) : Cells W 6 (([0, 1, 28, 2, 29, 14, 24, 3, 30, 22, 20, 15, 25, 17, 4, 8, 31, 27, 13, 23, 21, 19, 16, 7, 26, 12, 18, 6, 11, 5, 10, 9] : List Int).map (Value.int .u8)).toArray :=
  laid_cells (d := Rows.laid_math_bits_deBruijn32tab) h List.mem_cons_self rfl (by kernel_rfl) (by kernel_rfl) (Tryz.underlying159) (Tryz.underlying5) (by kernel_rfl) (by kernel_rfl) (by simp)
theorem at_laid_math_bits_deBruijn64tab {W : World} (h : laidMet Tryz.prog Rows.funcsKindsRow.laid W) : Cells W 7 (([0, 1, 56, 2, 57, 49, 28, 3, 61, 58, 42, 50, 38, 29, 17, 4, 62, 47, 59, 36, 45, 43, 51, 22, 53, 39, 33, 30, 24, 18, 12, 5, 63, 55, 48, 27, 60, 41, 37, 16, 46, 35, 44, 21, 52, 32, 23, 11, 54, 26, 40, 15, 34, 20, 31, 10, 25, 14, 19, 9, 13, 8, 7, 6] : List Int).map (Value.int .u8)).toArray :=
  laid_cells (d := Rows.laid_math_bits_deBruijn64tab) h (List.mem_cons_of_mem _ List.mem_cons_self) rfl (by kernel_rfl) (by kernel_rfl) (Tryz.underlying160) (Tryz.underlying5) (by kernel_rfl) (by kernel_rfl) (by simp)
theorem at_laid_internal_strconv_uint64pow10 {W : World} (h : laidMet Tryz.prog Rows.funcsKindsRow.laid W) : Cells W 5 (([1, 10, 100, 1000, 10000, 100000, 1000000, 10000000, 100000000, 1000000000, 10000000000, 100000000000, 1000000000000, 10000000000000, 100000000000000, 1000000000000000, 10000000000000000, 100000000000000000, 1000000000000000000, 10000000000000000000] : List Int).map (Value.int .u64)).toArray :=
  laid_cells (d := Rows.laid_internal_strconv_uint64pow10) h (List.mem_cons_of_mem _ (List.mem_cons_of_mem _ List.mem_cons_self)) rfl (by kernel_rfl) (by kernel_rfl) (Tryz.underlying151) (Tryz.underlying106) (by kernel_rfl) (by kernel_rfl) (by simp)
theorem at_laid_unicode_utf8_acceptRanges {W : World} (h : laidMet Tryz.prog Rows.funcsKindsRow.laid W) : Cells W 1 (([128, 191, 160, 191, 128, 159, 144, 191, 128, 143, 0, 0, 0, 0, 0, 0, 0, 0, 0, 0, 0, 0, 0, 0, 0, 0, 0, 0, 0, 0, 0, 0] : List Int).map (Value.int .u8)).toArray :=
  laid_structs (d := Rows.laid_unicode_utf8_acceptRanges) (zss := [[128, 191], [160, 191], [128, 159], [144, 191], [128, 143], [0, 0], [0, 0], [0, 0], [0, 0], [0, 0], [0, 0], [0, 0], [0, 0], [0, 0], [0, 0], [0, 0]]) h (List.mem_cons_of_mem _ (List.mem_cons_of_mem _ (List.mem_cons_of_mem _ List.mem_cons_self))) rfl (by kernel_rfl) (by kernel_rfl) (Tryz.underlying84) (Tryz.underlying83) (fun i f hf => by
    match i, hf with
    | 0, hf => simp at hf; subst hf; exact ⟨Tryz.underlying5, rfl, by kernel_rfl⟩
    | 1, hf => simp at hf; subst hf; exact ⟨Tryz.underlying5, rfl, by kernel_rfl⟩
    | i + 2, hf => simp at hf) (by kernel_rfl) (by kernel_rfl) rfl (by simp)
theorem at_laid_unicode_utf8_first {W : World} (h : laidMet Tryz.prog Rows.funcsKindsRow.laid W) : Cells W 0 ((Go.Lib.firstTab : List Int).map (Value.int .u8)).toArray :=
  laid_cells (d := Rows.laid_unicode_utf8_first) h (List.mem_cons_of_mem _ (List.mem_cons_of_mem _ (List.mem_cons_of_mem _ (List.mem_cons_of_mem _ List.mem_cons_self)))) (by kernel_rfl) (by kernel_rfl) (by kernel_rfl) (Tryz.underlying81) (Tryz.underlying5) (by kernel_rfl) (by kernel_rfl) (by unfold Go.Lib.firstTab; simp)
def Laid (W : World) : Prop := 8 ≤ W.heap.size ∧ ∀ x ∈ tables, x.1 < 8 ∧ Cells W x.1 (x.2.2.map (Value.int x.2.1)).toArray
theorem Laid.of_met {W : World} (h : laidMet Tryz.prog Rows.funcsKindsRow.laid W) : Laid W := by
  refine ⟨cells_size (at_laid_math_bits_deBruijn64tab h), fun x hx => ?_⟩
  simp only [tables, List.mem_cons, List.not_mem_nil, or_false] at hx
  rcases hx with rfl | rfl | rfl | rfl | rfl
  · exact ⟨by show _ < 8; decide, at_laid_math_bits_deBruijn32tab h⟩
  · exact ⟨by show _ < 8; decide, at_laid_math_bits_deBruijn64tab h⟩
  · exact ⟨by show _ < 8; decide, at_laid_internal_strconv_uint64pow10 h⟩
  · exact ⟨by show _ < 8; decide, at_laid_unicode_utf8_acceptRanges h⟩
  · exact ⟨by show _ < 8; decide, at_laid_unicode_utf8_first h⟩
theorem Laid.below {w w' : World} (h : Laid w) (hb : RowKit.Below w.heap.size w w') : Laid w' := by
  refine ⟨Nat.le_trans h.1 hb.size, fun x hx => ?_⟩
  obtain ⟨h1, el, fr, h2, h3⟩ := h.2 x hx
  exact ⟨h1, el, fr, (hb.block _ (Nat.lt_of_lt_of_le h1 h.1)).trans h2, h3⟩
theorem calls [Eta] {W : World} (h : Laid W) : Calls Tryz.prog 12 #[] W fun e W' => e = .returned (.bool true) ∧ RowKit.Below W.heap.size W W' :=
  topG (c := cfg) rfl (by decide) cfg_ok (by kernel_rfl) names known_ok (args := []) (args' := []) VRL.nil tables h.1 h.2 runs
theorem calls0 {W : World} (h : Laid W) : Calls Tryz.prog 12 #[] W fun e W' => e = .returned (.bool true) ∧ RowKit.Below W.heap.size W W' := @calls ⟨fun _ => undef⟩ W h
#print axioms calls0
end Go.Proofs.YtchbodpkaiengaaGreatDoor.sure
