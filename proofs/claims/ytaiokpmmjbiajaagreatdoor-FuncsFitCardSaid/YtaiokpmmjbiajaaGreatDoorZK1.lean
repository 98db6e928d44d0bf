/- A part of the proof of this claim. No condition beyond those that each theorem names. -/
import Derived.Test.YtaiokpmmjbiajaaGreatDoorZK0
import Derived.Test.YtaiokpmmjbiajaaGreatDoorProg
import Derived.KernelRfl
import Derived.Lib.ValidLaws
import Derived.Lib.TrimUEq
import Derived.Lib.MapLaws
import Derived.Lib.RuneCount
import Derived.Laws.Cover4
import Derived.WideShapes
import Derived.Lib.ItoaNum
import Derived.Lib.Repeat
import Derived.Lib.TrimByte
import Derived.Lib.Replace
import Derived.Test.YtaiokpmmjbiajaaGreatDoorZLeaf0
import Derived.Test.YtaiokpmmjbiajaaGreatDoorZPLeafx1
import Derived.Lib.CountLaws
import Derived.Lib.ReplaceLaws
section
namespace Go.Proofs.YtaiokpmmjbiajaaGreatDoorDx
set_option linter.unusedSimpArgs false
set_option linter.unusedVariables false
open Go Go.Proofs
set_option linter.unusedVariables false
namespace A79
def T (k0 n0 : Int) (s0 : ByteArray) : GT Value := let x1 := IntKind.wrap .i64 (0 - n0); (.br ((k0 == 2)) (.br ((k0 == 0)) (.out (.tuple ([.agg ([.int .i64 0, .int .i64 0, .string ⟨([]).toArray⟩]).toArray, .int .i64 0]).toArray)) (.br ((n0 != x1)) (.out (.tuple ([.agg ([.int .i64 k0, .int .i64 x1, .string ⟨([]).toArray⟩]).toArray, .int .i64 0]).toArray)) (.br ((!(n0 == 0))) (.out (.tuple ([.agg ([.int .i64 0, .int .i64 0, .string ⟨([]).toArray⟩]).toArray, .int .i64 20]).toArray)) (.out (.tuple ([.agg ([.int .i64 k0, .int .i64 x1, .string ⟨([]).toArray⟩]).toArray, .int .i64 0]).toArray))))) (.br ((!(k0 == 3))) (.br ((k0 != 0)) (.out (.tuple ([.agg ([.int .i64 0, .int .i64 0, .string ⟨([]).toArray⟩]).toArray, .int .i64 22]).toArray)) (.br ((k0 == 0)) (.out (.tuple ([.agg ([.int .i64 0, .int .i64 0, .string ⟨([]).toArray⟩]).toArray, .int .i64 0]).toArray)) (.br ((n0 != x1)) (.out (.tuple ([.agg ([.int .i64 k0, .int .i64 x1, .string ⟨([]).toArray⟩]).toArray, .int .i64 0]).toArray)) (.br ((!(n0 == 0))) (.out (.tuple ([.agg ([.int .i64 0, .int .i64 0, .string ⟨([]).toArray⟩]).toArray, .int .i64 20]).toArray)) (.out (.tuple ([.agg ([.int .i64 k0, .int .i64 x1, .string ⟨([]).toArray⟩]).toArray, .int .i64 0]).toArray)))))) (.br ((k0 == 0)) (.out (.tuple ([.agg ([.int .i64 0, .int .i64 0, .string ⟨([]).toArray⟩]).toArray, .int .i64 0]).toArray)) (.br ((n0 != x1)) (.out (.tuple ([.agg ([.int .i64 k0, .int .i64 x1, .string ⟨([]).toArray⟩]).toArray, .int .i64 0]).toArray)) (.br ((!(n0 == 0))) (.out (.tuple ([.agg ([.int .i64 0, .int .i64 0, .string ⟨([]).toArray⟩]).toArray, .int .i64 20]).toArray)) (.out (.tuple ([.agg ([.int .i64 k0, .int .i64 x1, .string ⟨([]).toArray⟩]).toArray, .int .i64 0]).toArray)))))))
set_option maxRecDepth 1000000 in
theorem run (k0 n0 : Int) (s0 : ByteArray) : callK (cfgK Tryz.prog 4 (gpT []) (ltT 4 [])) (gpT []) (ltT 4 []) 12 (.fn 79) (absVs 0 [.v (.agg #[.int .i64 k0, .int .i64 n0, .string s0])]) ⟨absH 0 [.v (.agg #[.int .i64 k0, .int .i64 n0, .string s0])], 4⟩ (fun o => some o.1) = (T k0 n0 s0).eval := by kernel_rfl
theorem flat (k0 n0 : Int) (s0 : ByteArray) : (T k0 n0 s0).allB (pfd 3) = true := by kernel_rfl
def negV (k n : Int) : V3 × Int := if k = 0 then (v0, 0) else if k = 2 ∨ k = 3 then (if n = IntKind.wrap .i64 (0 - n) ∧ n ≠ 0 then (v0, 20) else ((k, IntKind.wrap .i64 (0 - n), ⟨#[]⟩), 0)) else (v0, 22)
theorem T_ok (k n : Int) (s : ByteArray) : (T k n s).eval = some (ve (negV k n)) := by
  unfold negV
  by_cases h0 : k = 0
  · subst h0; simp [T, GT.eval, ve, vv, v0]
  · by_cases h1 : n = IntKind.wrap .i64 (0 - n)
    · have e1 : (n != IntKind.wrap .i64 (0 - n)) = false := bne_eq_false_iff_eq.mpr h1
      by_cases hn : n = 0
      · have e2 : (n == 0) = true := beq_iff_eq.mpr hn
        rw [if_neg h0, if_neg (show ¬ (n = IntKind.wrap .i64 (0 - n) ∧ n ≠ 0) from fun h => h.2 hn)]
        by_cases h2 : k = 2
        · subst h2; simp only [T, GT.eval, e1, e2]; rfl
        · by_cases h3 : k = 3
          · subst h3; simp only [T, GT.eval, e1, e2]; rfl
          · simp [T, GT.eval, ve, vv, v0, h0, h2, h3, beq_eq_false_iff_ne.mpr h2, beq_eq_false_iff_ne.mpr h3, bne_iff_ne.mpr h0]
      · have e2 : (n == 0) = false := beq_eq_false_iff_ne.mpr hn
        rw [if_neg h0, if_pos (show n = IntKind.wrap .i64 (0 - n) ∧ n ≠ 0 from ⟨h1, hn⟩)]
        by_cases h2 : k = 2
        · subst h2; simp only [T, GT.eval, e1, e2]; rfl
        · by_cases h3 : k = 3
          · subst h3; simp only [T, GT.eval, e1, e2]; rfl
          · simp [T, GT.eval, ve, vv, v0, h0, h2, h3, beq_eq_false_iff_ne.mpr h2, beq_eq_false_iff_ne.mpr h3, bne_iff_ne.mpr h0]
    · have e1 : (n != IntKind.wrap .i64 (0 - n)) = true := bne_iff_ne.mpr h1
      rw [if_neg h0, if_neg (show ¬ (n = IntKind.wrap .i64 (0 - n) ∧ n ≠ 0) from fun h => h1 h.1)]
      by_cases h2 : k = 2
      · subst h2; simp only [T, GT.eval, e1]; rfl
      · by_cases h3 : k = 3
        · subst h3; simp only [T, GT.eval, e1]; rfl
        · simp [T, GT.eval, ve, vv, v0, h0, h2, h3, beq_eq_false_iff_ne.mpr h2, beq_eq_false_iff_ne.mpr h3, bne_iff_ne.mpr h0]
def spec : Spec := fun aa => match aa with
  | [a] => (vOf a).bind fun x => some (.out (ve (negV x.1 x.2.1)))
  | _ => none
theorem spec_ok : SpecOk Tryz.prog La 79 spec := ⟨fnOk_ok (by kernel_rfl), fun aa t v h e => by
  unfold spec at h
  split at h
  · rename_i a
    obtain ⟨⟨k0, n0, s0⟩, h1, h⟩ := opt_bind h
    cases h
    rw [vOf_ok h1]
    cases e
    refine ⟨rfl, callT La_below prog_mix prog_names ?_ (by simp) (by decide) (by simp) rfl ((run k0 n0 s0).trans (T_ok k0 n0 s0))⟩
    intro p hp
    simp only [List.mem_cons, List.not_mem_nil, or_false] at hp
  · cases h⟩
end A79
end Go.Proofs.YtaiokpmmjbiajaaGreatDoorDx
end
section
namespace Go.Proofs.YtaiokpmmjbiajaaGreatDoorDx
set_option linter.unusedSimpArgs false
set_option linter.unusedVariables false
open Go Go.Proofs
set_option linter.unusedVariables false
namespace A80
def T (s0 : ByteArray) (k1 n1 : Int) (s1 : ByteArray) : GT Value := let x1 := IntKind.wrap .i64 (Int.tdiv n1 10000); let x3 := IntKind.wrap .i64 (x1 - 1); let x4 := Int.tmod n1 10000; let x2 := IntKind.wrap .i64 (0 - x4); let x5 := IntKind.wrap .i64 (x1 + 1); (.br ((k1 == 2)) (.out (.tuple ([.agg ([.int .i64 k1, .int .i64 n1, .string s1]).toArray, .int .i64 0]).toArray)) (.br (eqU (s0).data.toList [99, 101, 105, 108]) (.br (decide (x4 > 0)) (.out (.tuple ([.agg ([.int .i64 2, .int .i64 x5, .string ⟨([]).toArray⟩]).toArray, .int .i64 0]).toArray)) (.br (eqU (s0).data.toList [114, 111, 117, 110, 100]) (.br (decide (x4 ≥ 5000)) (.out (.tuple ([.agg ([.int .i64 2, .int .i64 x5, .string ⟨([]).toArray⟩]).toArray, .int .i64 0]).toArray)) (.br (eqU (s0).data.toList [102, 108, 111, 111, 114]) (.br (decide (x4 < 0)) (.out (.tuple ([.agg ([.int .i64 2, .int .i64 x3, .string ⟨([]).toArray⟩]).toArray, .int .i64 0]).toArray)) (.br (eqU (s0).data.toList [114, 111, 117, 110, 100]) (.br (decide (x2 ≥ 5000)) (.out (.tuple ([.agg ([.int .i64 2, .int .i64 x3, .string ⟨([]).toArray⟩]).toArray, .int .i64 0]).toArray)) (.out (.tuple ([.agg ([.int .i64 2, .int .i64 x1, .string ⟨([]).toArray⟩]).toArray, .int .i64 0]).toArray))) (.out (.tuple ([.agg ([.int .i64 2, .int .i64 x1, .string ⟨([]).toArray⟩]).toArray, .int .i64 0]).toArray)))) (.br (eqU (s0).data.toList [114, 111, 117, 110, 100]) (.br (decide (x2 ≥ 5000)) (.out (.tuple ([.agg ([.int .i64 2, .int .i64 x3, .string ⟨([]).toArray⟩]).toArray, .int .i64 0]).toArray)) (.out (.tuple ([.agg ([.int .i64 2, .int .i64 x1, .string ⟨([]).toArray⟩]).toArray, .int .i64 0]).toArray))) (.out (.tuple ([.agg ([.int .i64 2, .int .i64 x1, .string ⟨([]).toArray⟩]).toArray, .int .i64 0]).toArray))))) (.br (eqU (s0).data.toList [102, 108, 111, 111, 114]) (.br (decide (x4 < 0)) (.out (.tuple ([.agg ([.int .i64 2, .int .i64 x3, .string ⟨([]).toArray⟩]).toArray, .int .i64 0]).toArray)) (.br (eqU (s0).data.toList [114, 111, 117, 110, 100]) (.br (decide (x2 ≥ 5000)) (.out (.tuple ([.agg ([.int .i64 2, .int .i64 x3, .string ⟨([]).toArray⟩]).toArray, .int .i64 0]).toArray)) (.out (.tuple ([.agg ([.int .i64 2, .int .i64 x1, .string ⟨([]).toArray⟩]).toArray, .int .i64 0]).toArray))) (.out (.tuple ([.agg ([.int .i64 2, .int .i64 x1, .string ⟨([]).toArray⟩]).toArray, .int .i64 0]).toArray)))) (.br (eqU (s0).data.toList [114, 111, 117, 110, 100]) (.br (decide (x2 ≥ 5000)) (.out (.tuple ([.agg ([.int .i64 2, .int .i64 x3, .string ⟨([]).toArray⟩]).toArray, .int .i64 0]).toArray)) (.out (.tuple ([.agg ([.int .i64 2, .int .i64 x1, .string ⟨([]).toArray⟩]).toArray, .int .i64 0]).toArray))) (.out (.tuple ([.agg ([.int .i64 2, .int .i64 x1, .string ⟨([]).toArray⟩]).toArray, .int .i64 0]).toArray)))))) (.br (eqU (s0).data.toList [114, 111, 117, 110, 100]) (.br (decide (x4 ≥ 5000)) (.out (.tuple ([.agg ([.int .i64 2, .int .i64 x5, .string ⟨([]).toArray⟩]).toArray, .int .i64 0]).toArray)) (.br (eqU (s0).data.toList [102, 108, 111, 111, 114]) (.br (decide (x4 < 0)) (.out (.tuple ([.agg ([.int .i64 2, .int .i64 x3, .string ⟨([]).toArray⟩]).toArray, .int .i64 0]).toArray)) (.br (eqU (s0).data.toList [114, 111, 117, 110, 100]) (.br (decide (x2 ≥ 5000)) (.out (.tuple ([.agg ([.int .i64 2, .int .i64 x3, .string ⟨([]).toArray⟩]).toArray, .int .i64 0]).toArray)) (.out (.tuple ([.agg ([.int .i64 2, .int .i64 x1, .string ⟨([]).toArray⟩]).toArray, .int .i64 0]).toArray))) (.out (.tuple ([.agg ([.int .i64 2, .int .i64 x1, .string ⟨([]).toArray⟩]).toArray, .int .i64 0]).toArray)))) (.br (eqU (s0).data.toList [114, 111, 117, 110, 100]) (.br (decide (x2 ≥ 5000)) (.out (.tuple ([.agg ([.int .i64 2, .int .i64 x3, .string ⟨([]).toArray⟩]).toArray, .int .i64 0]).toArray)) (.out (.tuple ([.agg ([.int .i64 2, .int .i64 x1, .string ⟨([]).toArray⟩]).toArray, .int .i64 0]).toArray))) (.out (.tuple ([.agg ([.int .i64 2, .int .i64 x1, .string ⟨([]).toArray⟩]).toArray, .int .i64 0]).toArray))))) (.br (eqU (s0).data.toList [102, 108, 111, 111, 114]) (.br (decide (x4 < 0)) (.out (.tuple ([.agg ([.int .i64 2, .int .i64 x3, .string ⟨([]).toArray⟩]).toArray, .int .i64 0]).toArray)) (.br (eqU (s0).data.toList [114, 111, 117, 110, 100]) (.br (decide (x2 ≥ 5000)) (.out (.tuple ([.agg ([.int .i64 2, .int .i64 x3, .string ⟨([]).toArray⟩]).toArray, .int .i64 0]).toArray)) (.out (.tuple ([.agg ([.int .i64 2, .int .i64 x1, .string ⟨([]).toArray⟩]).toArray, .int .i64 0]).toArray))) (.out (.tuple ([.agg ([.int .i64 2, .int .i64 x1, .string ⟨([]).toArray⟩]).toArray, .int .i64 0]).toArray)))) (.br (eqU (s0).data.toList [114, 111, 117, 110, 100]) (.br (decide (x2 ≥ 5000)) (.out (.tuple ([.agg ([.int .i64 2, .int .i64 x3, .string ⟨([]).toArray⟩]).toArray, .int .i64 0]).toArray)) (.out (.tuple ([.agg ([.int .i64 2, .int .i64 x1, .string ⟨([]).toArray⟩]).toArray, .int .i64 0]).toArray))) (.out (.tuple ([.agg ([.int .i64 2, .int .i64 x1, .string ⟨([]).toArray⟩]).toArray, .int .i64 0]).toArray)))))))
set_option maxRecDepth 1000000 in
theorem run (s0 : ByteArray) (k1 n1 : Int) (s1 : ByteArray) : callK (cfgK Tryz.prog 4 (gpT []) (ltT 4 [])) (gpT []) (ltT 4 []) 12 (.fn 80) (absVs 0 [.v (.string s0), .v (.agg #[.int .i64 k1, .int .i64 n1, .string s1])]) ⟨absH 0 [.v (.string s0), .v (.agg #[.int .i64 k1, .int .i64 n1, .string s1])], 4⟩ (fun o => some o.1) = (T s0 k1 n1 s1).eval := by kernel_rfl
theorem flat (s0 : ByteArray) (k1 n1 : Int) (s1 : ByteArray) : (T s0 k1 n1 s1).allB (pfd 3) = true := by kernel_rfl
def rnd (s : ByteArray) (n : Int) : Int :=
  bif (eqU s.data.toList [99, 101, 105, 108] && decide (Int.tmod n 10000 > 0)) || (eqU s.data.toList [114, 111, 117, 110, 100] && decide (Int.tmod n 10000 ≥ 5000)) then IntKind.wrap .i64 (IntKind.wrap .i64 (Int.tdiv n 10000) + 1) else
  bif (eqU s.data.toList [102, 108, 111, 111, 114] && decide (Int.tmod n 10000 < 0)) || (eqU s.data.toList [114, 111, 117, 110, 100] && decide (IntKind.wrap .i64 (0 - Int.tmod n 10000) ≥ 5000)) then IntKind.wrap .i64 (IntKind.wrap .i64 (Int.tdiv n 10000) - 1) else
  IntKind.wrap .i64 (Int.tdiv n 10000)
def rounded (s : ByteArray) (k1 n1 : Int) (s1 : ByteArray) : Value :=
  bif k1 == 2 then .tuple #[.agg #[.int .i64 k1, .int .i64 n1, .string s1], .int .i64 0] else .tuple #[.agg #[.int .i64 2, .int .i64 (rnd s n1), .string ⟨#[]⟩], .int .i64 0]
theorem rounded_flat (s : ByteArray) (k1 n1 : Int) (s1 : ByteArray) : pfd 3 (rounded s k1 n1 s1) = true := by
  unfold rounded
  cases k1 == 2 <;> rfl
theorem T_ok (s0 : ByteArray) (k1 n1 : Int) (s1 : ByteArray) : (T s0 k1 n1 s1).eval = some (rounded s0 k1 n1 s1) := by
  unfold rounded rnd T
  dsimp only
  generalize eqU s0.data.toList [99, 101, 105, 108] = a
  generalize eqU s0.data.toList [114, 111, 117, 110, 100] = b
  generalize eqU s0.data.toList [102, 108, 111, 111, 114] = c
  generalize decide (Int.tmod n1 10000 > 0) = d
  generalize decide (Int.tmod n1 10000 ≥ 5000) = e
  generalize decide (Int.tmod n1 10000 < 0) = f
  generalize decide (IntKind.wrap .i64 (0 - Int.tmod n1 10000) ≥ 5000) = g
  generalize (k1 == 2) = h
  cases h <;> cases a <;> cases b <;> cases c <;> cases d <;> cases e <;> cases f <;> cases g <;> rfl
def spec : Spec := fun aa => match aa with
  | [.v (.string s), a] => (vOf a).bind fun x => some (.out (rounded s x.1 x.2.1 x.2.2))
  | _ => none
theorem spec_ok : SpecOk Tryz.prog La 80 spec := ⟨fnOk_ok (by kernel_rfl), fun aa t v h e => by
  unfold spec at h
  split at h
  · rename_i s a
    obtain ⟨⟨k0, n0, s0⟩, h1, h⟩ := opt_bind h
    cases h; cases e
    rw [vOf_ok h1]
    exact ⟨rounded_flat _ _ _ _, callT (l := []) (L := []) (n0 := 4) (k := 12) La_below prog_mix prog_names (by simp) (by simp) (by decide) (by simp) (rounded_flat _ _ _ _) ((run s k0 n0 s0).trans (T_ok _ _ _ _))⟩
  · cases h⟩
end A80
end Go.Proofs.YtaiokpmmjbiajaaGreatDoorDx
end
section
namespace Go.Proofs.YtaiokpmmjbiajaaGreatDoorDx
set_option linter.unusedSimpArgs false
set_option linter.unusedVariables false
open Go Go.Proofs
set_option linter.unusedVariables false
namespace A82
def T (k0 n0 : Int) (s0 : ByteArray) : GT Value := let x1 := IntKind.wrap .i64 (Int.tdiv n0 10000); (.br ((k0 == 2)) (.br ((k0 == 0)) (.out (.tuple ([.agg ([.int .i64 0, .int .i64 0, .string ⟨([]).toArray⟩]).toArray, .int .i64 0]).toArray)) (.br ((k0 == 3)) (.out (.tuple ([.agg ([.int .i64 2, .int .i64 x1, .string ⟨([]).toArray⟩]).toArray, .int .i64 0]).toArray)) (.out (.tuple ([.agg ([.int .i64 2, .int .i64 n0, .string ⟨([]).toArray⟩]).toArray, .int .i64 0]).toArray)))) (.br ((!(k0 == 3))) (.br ((k0 != 0)) (.out (.tuple ([.agg ([.int .i64 0, .int .i64 0, .string ⟨([]).toArray⟩]).toArray, .int .i64 22]).toArray)) (.br ((k0 == 0)) (.out (.tuple ([.agg ([.int .i64 0, .int .i64 0, .string ⟨([]).toArray⟩]).toArray, .int .i64 0]).toArray)) (.br ((k0 == 3)) (.out (.tuple ([.agg ([.int .i64 2, .int .i64 x1, .string ⟨([]).toArray⟩]).toArray, .int .i64 0]).toArray)) (.out (.tuple ([.agg ([.int .i64 2, .int .i64 n0, .string ⟨([]).toArray⟩]).toArray, .int .i64 0]).toArray))))) (.br ((k0 == 0)) (.out (.tuple ([.agg ([.int .i64 0, .int .i64 0, .string ⟨([]).toArray⟩]).toArray, .int .i64 0]).toArray)) (.br ((k0 == 3)) (.out (.tuple ([.agg ([.int .i64 2, .int .i64 x1, .string ⟨([]).toArray⟩]).toArray, .int .i64 0]).toArray)) (.out (.tuple ([.agg ([.int .i64 2, .int .i64 n0, .string ⟨([]).toArray⟩]).toArray, .int .i64 0]).toArray))))))
set_option maxRecDepth 1000000 in
theorem run (k0 n0 : Int) (s0 : ByteArray) : callK (cfgK Tryz.prog 4 (gpT []) (ltT 4 [])) (gpT []) (ltT 4 []) 12 (.fn 82) (absVs 0 [.v (.agg #[.int .i64 k0, .int .i64 n0, .string s0])]) ⟨absH 0 [.v (.agg #[.int .i64 k0, .int .i64 n0, .string s0])], 4⟩ (fun o => some o.1) = (T k0 n0 s0).eval := by kernel_rfl
theorem flat (k0 n0 : Int) (s0 : ByteArray) : (T k0 n0 s0).allB (pfd 3) = true := by kernel_rfl
def intV (k n : Int) : V3 × Int := if k = 0 then (v0, 0) else if k = 3 then ((2, IntKind.wrap .i64 (Int.tdiv n 10000), ⟨#[]⟩), 0) else if k = 2 then ((2, n, ⟨#[]⟩), 0) else (v0, 22)
theorem T_ok (k n : Int) (s : ByteArray) : (T k n s).eval = some (ve (intV k n)) := by
  unfold intV
  by_cases h0 : k = 0
  · subst h0; simp [T, GT.eval, ve, vv, v0]
  · by_cases h2 : k = 2
    · subst h2; simp [T, GT.eval, ve, vv, v0]
    · by_cases h3 : k = 3
      · subst h3; simp [T, GT.eval, ve, vv, v0]
      · simp [T, GT.eval, ve, vv, v0, h0, h2, h3, beq_eq_false_iff_ne.mpr h2, beq_eq_false_iff_ne.mpr h3, bne_iff_ne.mpr h0]
def spec : Spec := fun aa => match aa with
  | [a] => (vOf a).bind fun x => some (.out (ve (intV x.1 x.2.1)))
  | _ => none
theorem spec_ok : SpecOk Tryz.prog La 82 spec := ⟨fnOk_ok (by kernel_rfl), fun aa t v h e => by
  unfold spec at h
  split at h
  · rename_i a
    obtain ⟨⟨k0, n0, s0⟩, h1, h⟩ := opt_bind h
    cases h
    rw [vOf_ok h1]
    cases e
    refine ⟨rfl, callT La_below prog_mix prog_names ?_ (by simp) (by decide) (by simp) rfl ((run k0 n0 s0).trans (T_ok k0 n0 s0))⟩
    intro p hp
    simp only [List.mem_cons, List.not_mem_nil, or_false] at hp
  · cases h⟩
end A82
end Go.Proofs.YtaiokpmmjbiajaaGreatDoorDx
end
section
namespace Go.Proofs.YtaiokpmmjbiajaaGreatDoorDx
set_option linter.unusedSimpArgs false
set_option linter.unusedVariables false
open Go Go.Proofs
set_option linter.unusedVariables false
namespace A37L0
noncomputable def cfg : Cfg := cfgK Tryz.prog 4 (gpT []) (ltT 4 [])
def stA (n : Nat) (e : Int) (s : ByteArray) (i : Int) : KX := ⟨[(4, .pointer (some ⟨4, 0, none⟩)), (5, .int .i64 e), (8, .string s), (125, .slice (some ⟨1, 0, none⟩) n 3), (126, .int .i64 (Int.ofNat n)), (127, .int .i64 i)], []⟩
def stExit (e : Int) (s : ByteArray) : KX := ⟨[(4, .pointer (some ⟨4, 0, none⟩)), (5, .int .i64 e), (8, .string s)], []⟩
def kp : Ex → List Nat
  | .normal => [4, 5, 8, 125, 126, 127]
  | _ => [4, 5, 8]
def catB (s t : ByteArray) : ByteArray := ⟨(s.data.toList ++ t.data.toList).toArray⟩
set_option maxRecDepth 1000000 in
theorem round (n : Nat) (e : Int) (s : ByteArray) (i : Int) (cs : List Value) : codeK cfg (gpT []) (callK cfg (gpT []) (ltT 4 []) 12) (fun _ _ => none) false 1000 (loopAt Tryz.prog 37 0) (stK 140 6 [(1, cs)] (stA n e s i)) (endK 6 100 140 kp (fun _ _ => [])) =
  (let x := 0 + ((i).toNat * 3); bif decide (i < (Int.ofNat n)) then (bif decide (0 ≤ i) then (bif Nat.blt (i).toNat n then (bif isL cs x [(.i .i64), (.i .i64), .s] then (bif Nat.ble (((s).data.toList).length + ((rdS cs (x + 1 + 1)).data.toList).length) 9223372036854775807 then (some (.normal, stA n e (catB s (rdS cs (x + 1 + 1))) (IntKind.wrap .i64 (i + 1)))) else none) else none) else none) else none) else (some (.exit 1, stExit e s))) := by kernel_rfl
def cat (l : List W3) : ByteArray := l.foldl (fun s v => catB s v.2.2) ⟨#[]⟩
theorem cat_succ (l : List W3) {j : Nat} (h : j < l.length) : cat (l.take (j + 1)) = catB (cat (l.take j)) l[j].2.2 := by
  unfold cat
  rw [← List.take_append_getElem h, List.foldl_append]; rfl
theorem cat_len (l : List W3) (hs : ∀ v ∈ l, v.2.2.data.toList.length ≤ 1024) : ∀ j, j ≤ l.length → (cat (l.take j)).data.toList.length ≤ 1024 * j
  | 0, _ => by rw [List.take_zero]; exact Nat.le_refl _
  | j + 1, h => by
    have h1 := cat_len l hs j (by omega)
    have h2 := hs _ (List.getElem_mem (show j < l.length by omega))
    rw [cat_succ l (show j < l.length by omega)]
    show ((cat (l.take j)).data.toList ++ (l[j].2.2).data.toList).toArray.toList.length ≤ _
    rw [List.toList_toArray, List.length_append]
    omega
def shortT (v : W3) : Bool := Nat.ble v.2.2.data.toList.length 1024
def D : KD := ⟨140, 6, 100, [4, 5, 8, 125, 126, 127], [1], fun _ => [], fun x ro => match x.vs, x.cars, ro with
  | [(4, .pointer (some ⟨4, 0, none⟩)), (5, .int .i64 e), (8, .string ⟨⟨[]⟩⟩), (125, .slice (some ⟨1, 0, none⟩) n 3), (126, .int .i64 m), (127, .int .i64 0)], [], [(1, cs)] =>
    .need (rowW n m cs && (valsOf cs).all shortT) (.out (.exit 1, stExit e (cat (valsOf cs))))
  | _, _, _ => .no⟩
def lp : LpK := ⟨37, 41, 0, D⟩
theorem lp_fine : LpFine Tryz.prog La 4 lp := by
  refine ⟨by kernel_rfl, fun c base I hP hn hG hI hIL x ro ex y e => ?_⟩
  obtain ⟨vs, cars⟩ := x
  simp only [lp, D] at e ⊢
  split at e
  · rename_i e0 n m cs
    obtain ⟨g1, g2⟩ := GT.need_eval e
    simp only [Bool.and_eq_true] at g1
    obtain ⟨rfl, hn2, h4, h5⟩ := rowW_ok g1.1
    have hsh := g1.2
    generalize valsOf cs = l at h4 h5 g2 hsh
    subst h4 h5
    have hs : ∀ v ∈ l, v.2.2.data.toList.length ≤ 1024 := fun v hv => Nat.le_of_ble_eq_true (List.all_eq_true.1 hsh v hv)
    have key := scan_from (Step := @StepK (etaB base) c base I (loopAt Tryz.prog 37 0) 140 6 100 [(1, vals l)]) (step := fun (_ : Unit) (v : W3) => .inl ()) (fin := fun _ => (.exit 1, stExit e0 (cat l))) (st := fun _ j => stA l.length e0 (cat (l.take j)) j) (l := l) (fun s => by simp) (fun s a r h => by cases h) (fun _ j hj => by
        have h1 : decide ((j : Int) < Int.ofNat l.length) = true := decide_eq_true (by show (j : Int) < (l.length : Int); omega)
        have h2 : decide ((0 : Int) ≤ j) = true := decide_eq_true (by omega)
        have h3 : Nat.blt ((j : Int)).toNat l.length = true := by rw [Nat.blt_eq]; simpa using hj
        have h4 : (0 + ((j : Int)).toNat * 3) = j * 3 := by simp
        have h5 : IntKind.wrap .i64 ((j : Int) + 1) = ((j + 1 : Nat) : Int) := by rw [wrap_in (by omega) (by omega)]; omega
        have hr1 : rdS (vals l) (j * 3 + 1 + 1) = l[j].2.2 := rdS_vals l hj
        have h6 := cat_len l hs j (by omega)
        have h7 := hs _ (List.getElem_mem hj)
        have h8 : Nat.ble ((cat (l.take j)).data.toList.length + l[j].2.2.data.toList.length) 9223372036854775807 = true := by rw [Nat.ble_eq]; omega
        have hr := round l.length e0 (cat (l.take j)) j (vals l)
        simp only [h1, h2, h3, h4, h5, isL_vals l hj, hr1, h8, cond_true] at hr
        rw [← cat_succ l hj] at hr
        exact stepT prog_mix prog_names (by simp) (by simp) hP hn hG hI hIL hr) (fun _ => by
        have h1 : decide ((l.length : Int) < Int.ofNat l.length) = false := decide_eq_false (by show ¬ (l.length : Int) < (l.length : Int); omega)
        have hr := round l.length e0 (cat (l.take l.length)) l.length (vals l)
        simp only [h1, cond_false] at hr
        have e1 : cat l = cat (l.take l.length) := by rw [List.take_length]
        show @StepK (etaB base) c base I (loopAt Tryz.prog 37 0) 140 6 100 [(1, vals l)] (stA l.length e0 (cat (l.take l.length)) l.length) (.exit 1) (stExit e0 (cat l))
        rw [e1]
        exact stepT prog_mix prog_names (by simp) (by simp) hP hn hG hI hIL hr) l.length 0 () (by omega)
    rw [List.drop_zero, scanF_fold] at key
    cases g2
    exact key
  · cases e
end A37L0
end Go.Proofs.YtaiokpmmjbiajaaGreatDoorDx
end
section
namespace Go.Proofs.YtaiokpmmjbiajaaGreatDoorDx
set_option linter.unusedSimpArgs false
set_option linter.unusedVariables false
open Go Go.Proofs
set_option linter.unusedVariables false
namespace A10L0
noncomputable def cfg : Cfg := cfgK Tryz.prog 4 (gpT []) (ltT 4 [])
def stN (nm : ByteArray) (n : Nat) (e i : Int) (nl : Bool) : KX := ⟨[(0, .string nm), (1, .slice (some ⟨1, 0, none⟩) n 3), (4, .pointer (some ⟨4, 0, none⟩)), (5, .int .i64 e), (6, .slice none 0 0), (7, .bool nl), (14, .slice (some ⟨1, 0, none⟩) n 3), (15, .int .i64 (Int.ofNat n)), (16, .int .i64 i)], []⟩
def stR (nm : ByteArray) (n : Nat) (e i : Int) (nl : Bool) (k : Nat) (row : List Value) : KX := ⟨[(0, .string nm), (1, .slice (some ⟨1, 0, none⟩) n 3), (4, .pointer (some ⟨4, 0, none⟩)), (5, .int .i64 e), (6, .slice (some ⟨5, 0, none⟩) k 1), (7, .bool nl), (14, .slice (some ⟨1, 0, none⟩) n 3), (15, .int .i64 (Int.ofNat n)), (16, .int .i64 i)], [row]⟩
def exN (nm : ByteArray) (n : Nat) (e : Int) (nl : Bool) : KX := ⟨[(0, .string nm), (1, .slice (some ⟨1, 0, none⟩) n 3), (4, .pointer (some ⟨4, 0, none⟩)), (5, .int .i64 e), (6, .slice none 0 0), (7, .bool nl)], []⟩
def exR (nm : ByteArray) (n : Nat) (e : Int) (nl : Bool) (k : Nat) (row : List Value) : KX := ⟨[(0, .string nm), (1, .slice (some ⟨1, 0, none⟩) n 3), (4, .pointer (some ⟨4, 0, none⟩)), (5, .int .i64 e), (6, .slice (some ⟨5, 0, none⟩) k 1), (7, .bool nl)], [row]⟩
def kp : Ex → List Nat
  | .normal => [0, 1, 4, 5, 6, 7, 14, 15, 16]
  | _ => [0, 1, 4, 5, 6, 7]
def cr : Ex → St → List (Nat × Bool) := fun _ s => match s.T.get 6 with
  | some (.slice (some p) _ _) => [(p.block, true)]
  | _ => []
set_option maxRecDepth 1000000 in
theorem roundN (nm : ByteArray) (n : Nat) (e i : Int) (nl : Bool) (cs : List Value) : codeK cfg (gpT []) (callK cfg (gpT []) (ltT 4 []) 12) (fun _ _ => none) false 1000 (loopAt Tryz.prog 10 0) (stK 84 5 [(1, cs)] (stN nm n e i nl)) (endK 5 100 84 kp cr) =
  (let x := rdI cs (0 + ((i).toNat * 3)); bif decide (i < (Int.ofNat n)) then (bif decide (0 ≤ i) then (bif Nat.blt (i).toNat n then (bif isL cs (0 + ((i).toNat * 3)) [(.i .i64), (.i .i64), .s] then (bif nl then (some (.normal, stR nm n e (IntKind.wrap .i64 (i + 1)) true 1 [.int .i64 x])) else (some (.normal, stR nm n e (IntKind.wrap .i64 (i + 1)) (x == 0) 1 [.int .i64 x]))) else none) else none) else none) else (some (.exit 0, exN nm n e nl))) := by kernel_rfl
set_option maxRecDepth 1000000 in
theorem roundR (nm : ByteArray) (n : Nat) (e i : Int) (nl : Bool) (k : Nat) (row : List Value) (cs : List Value) : codeK cfg (gpT []) (callK cfg (gpT []) (ltT 4 []) 12) (fun _ _ => none) false 1000 (loopAt Tryz.prog 10 0) (stK 84 5 [(1, cs)] (stR nm n e i nl k row)) (endK 5 100 84 kp cr) =
  (let x := rdI cs (0 + ((i).toNat * 3)); let r2 := (((row).drop 0).take (k * 1)) ++ [.int .i64 x]; bif decide (i < (Int.ofNat n)) then (bif decide (0 ≤ i) then (bif Nat.blt (i).toNat n then (bif isL cs (0 + ((i).toNat * 3)) [(.i .i64), (.i .i64), .s] then (bif Nat.ble (k + 1) 140737488355328 then (bif Nat.ble ((k + 1) * 8) 140737488355328 then (bif Nat.ble (0 + (k * 1)) (row).length then (bif nl then (bif r2.all scalV && true then (some (.normal, stR nm n e (IntKind.wrap .i64 (i + 1)) true (k + 1) r2)) else none) else (bif r2.all scalV && true then (some (.normal, stR nm n e (IntKind.wrap .i64 (i + 1)) (x == 0) (k + 1) r2)) else none)) else none) else none) else none) else none) else none) else none) else (bif row.all scalV && true then (some (.exit 0, exR nm n e nl k row)) else none)) := by kernel_rfl
def row (l : List W3) (j : Nat) : List Int := (l.take j).map (·.1)
theorem row_succ (l : List W3) {j : Nat} (h : j < l.length) : row l (j + 1) = row l j ++ [l[j].1] := by
  unfold row
  rw [← List.take_append_getElem h, List.map_append]; rfl
theorem row_len (l : List W3) {j : Nat} (h : j ≤ l.length) : (row l j).length = j := by
  unfold row
  rw [List.length_map, List.length_take]; omega
def nl (l : List W3) (j : Nat) : Bool := (row l j).any (· == 0)
theorem nl_succ (l : List W3) {j : Nat} (h : j < l.length) : nl l (j + 1) = (nl l j || l[j].1 == 0) := by
  unfold nl
  rw [row_succ l h, List.any_append]; simp
def st (nm : ByteArray) (n : Nat) (e : Int) (l : List W3) (j : Nat) : KX := bif Nat.beq j 0 then stN nm n e j false else stR nm n e j (nl l j) j (ints .i64 (row l j))
def fin (nm : ByteArray) (n : Nat) (e : Int) (l : List W3) : KX := bif Nat.beq n 0 then exN nm n e false else exR nm n e ((l.map (·.1)).any (· == 0)) n (ints .i64 (l.map (·.1)))
def D : KD := ⟨84, 5, 100, [0, 1, 4, 5, 6, 7, 14, 15, 16], [1], fun _ => [], fun x ro => match x.vs, x.cars, ro with
  | [(0, .string nm), (1, .slice (some ⟨1, 0, none⟩) n 3), (4, .pointer (some ⟨4, 0, none⟩)), (5, .int .i64 e), (6, .slice none 0 0), (7, .bool false), (14, .slice (some ⟨1, 0, none⟩) n' 3), (15, .int .i64 m), (16, .int .i64 0)], [], [(1, cs)] =>
    .need (Nat.beq n' n && rowW n m cs) (.br (Nat.beq n 0) (.out (.exit 0, exN nm n e false)) (.out (.exit 0, exR nm n e (((valsOf cs).map (·.1)).any (· == 0)) n (ints .i64 ((valsOf cs).map (·.1))))))
  | _, _, _ => .no⟩
def lp : LpK := ⟨10, 4, 0, D⟩
theorem lp_fine : LpFine Tryz.prog La 4 lp := by
  refine ⟨by kernel_rfl, fun c base I hP hn hG hI hIL x ro ex y e => ?_⟩
  obtain ⟨vs, cars⟩ := x
  simp only [lp, D] at e ⊢
  split at e
  · rename_i nm n e0 n' m cs
    obtain ⟨g1, g2⟩ := GT.need_eval e
    simp only [Bool.and_eq_true] at g1
    obtain rfl := Nat.eq_of_beq_eq_true g1.1
    obtain ⟨rfl, hn2, h4, h5⟩ := rowW_ok g1.2
    generalize valsOf cs = l at h4 h5 g2
    subst h4 h5
    have key := scan_from (Step := @StepK (etaB base) c base I (loopAt Tryz.prog 10 0) 84 5 100 [(1, vals l)]) (step := fun (_ : Unit) (_ : W3) => .inl ()) (fin := fun _ => (.exit 0, fin nm l.length e0 l)) (st := fun _ j => st nm l.length e0 l j) (l := l) (fun s => by simp) (fun s a r h => by cases h) (fun _ j hj => by
        have h1 : decide ((j : Int) < Int.ofNat l.length) = true := decide_eq_true (by show (j : Int) < (l.length : Int); omega)
        have h2 : decide ((0 : Int) ≤ j) = true := decide_eq_true (by omega)
        have h3 : Nat.blt ((j : Int)).toNat l.length = true := by rw [Nat.blt_eq]; simpa using hj
        have h4 : (0 + ((j : Int)).toNat * 3) = j * 3 := by simp
        have h5 : IntKind.wrap .i64 ((j : Int) + 1) = ((j + 1 : Nat) : Int) := by rw [wrap_in (by omega) (by omega)]; omega
        show @StepK (etaB base) c base I (loopAt Tryz.prog 10 0) 84 5 100 [(1, vals l)] (st nm l.length e0 l j) .normal (st nm l.length e0 l (j + 1))
        cases j with
        | zero =>
          have hr := roundN nm l.length e0 ((0 : Nat) : Int) false (vals l)
          simp only [h1, h2, h3, h4, h5, isL_vals l hj, rdI_vals l hj, cond_true] at hr
          have e1 : st nm l.length e0 l 0 = stN nm l.length e0 ((0 : Nat) : Int) false := rfl
          have e2 : st nm l.length e0 l (0 + 1) = stR nm l.length e0 ((0 + 1 : Nat) : Int) (l[0].1 == 0) 1 [.int .i64 l[0].1] := by
            show stR nm l.length e0 ((0 + 1 : Nat) : Int) (nl l (0 + 1)) (0 + 1) (ints .i64 (row l (0 + 1))) = _
            rw [nl_succ l hj, row_succ l hj]; rfl
          rw [e1, e2]
          exact stepT prog_mix prog_names (by simp) (by simp) hP hn hG hI hIL hr
        | succ j =>
          have hk := row_len l (Nat.le_of_lt hj)
          have hr := roundR nm l.length e0 ((j + 1 : Nat) : Int) (nl l (j + 1)) (j + 1) (ints .i64 (row l (j + 1))) (vals l)
          have q1 : ((ints .i64 (row l (j + 1))).drop 0).take ((j + 1) * 1) ++ [.int .i64 (l[j + 1]).1] = ints .i64 (row l (j + 1 + 1)) := by
            rw [List.drop_zero, Nat.mul_one, List.take_of_length_le (by rw [ints_len, hk]; exact Nat.le_refl _), row_succ l hj]
            unfold ints
            rw [List.map_append]; rfl
          have q2 : Nat.ble (j + 1 + 1) 140737488355328 = true := by rw [Nat.ble_eq]; omega
          have q3 : Nat.ble ((j + 1 + 1) * 8) 140737488355328 = true := by rw [Nat.ble_eq]; omega
          have q4 : Nat.ble (0 + (j + 1) * 1) (ints .i64 (row l (j + 1))).length = true := by rw [Nat.ble_eq, ints_len, hk]; omega
          simp only [h1, h2, h3, h4, h5, isL_vals l hj, rdI_vals l hj, q1, q2, q3, q4, ints_scal, Bool.and_true, cond_true] at hr
          have e1 : st nm l.length e0 l (j + 1) = stR nm l.length e0 ((j + 1 : Nat) : Int) (nl l (j + 1)) (j + 1) (ints .i64 (row l (j + 1))) := rfl
          have e2 : st nm l.length e0 l (j + 1 + 1) = stR nm l.length e0 ((j + 1 + 1 : Nat) : Int) (nl l (j + 1) || l[j + 1].1 == 0) (j + 1 + 1) (ints .i64 (row l (j + 1 + 1))) := by rw [← nl_succ l hj]; rfl
          rw [e1, e2]
          cases hz : nl l (j + 1) <;> rw [hz] at hr <;> exact stepT prog_mix prog_names (by simp) (by simp) hP hn hG hI hIL hr) (fun _ => by
        have h1 : decide ((l.length : Int) < Int.ofNat l.length) = false := decide_eq_false (by show ¬ (l.length : Int) < (l.length : Int); omega)
        show @StepK (etaB base) c base I (loopAt Tryz.prog 10 0) 84 5 100 [(1, vals l)] (st nm l.length e0 l l.length) (.exit 0) (fin nm l.length e0 l)
        cases hl : l.length with
        | zero =>
          have hr := roundN nm l.length e0 (l.length : Int) false (vals l)
          simp only [h1, cond_false] at hr
          rw [hl] at hr
          exact stepT prog_mix prog_names (by simp) (by simp) hP hn hG hI hIL hr
        | succ j =>
          have hr := roundR nm l.length e0 (l.length : Int) (nl l l.length) l.length (ints .i64 (row l l.length)) (vals l)
          simp only [h1, cond_false, ints_scal, Bool.and_true, cond_true] at hr
          have e3 : row l l.length = l.map (·.1) := by unfold row; rw [List.take_length]
          have e4 : nl l l.length = (l.map (·.1)).any (· == 0) := by unfold nl; rw [e3]
          rw [hl] at hr e3 e4
          have e1 : st nm (j + 1) e0 l (j + 1) = stR nm (j + 1) e0 ((j + 1 : Nat) : Int) (nl l (j + 1)) (j + 1) (ints .i64 (row l (j + 1))) := rfl
          have e2 : fin nm (j + 1) e0 l = exR nm (j + 1) e0 ((l.map (·.1)).any (· == 0)) (j + 1) (ints .i64 (l.map (·.1))) := rfl
          rw [e1, e2, ← e4, ← e3]
          exact stepT prog_mix prog_names (by simp) (by simp) hP hn hG hI hIL hr) l.length 0 () (by omega)
    rw [List.drop_zero, scanF_fold] at key
    cases hb : Nat.beq l.length 0 with
    | true => rw [GT.eval, hb] at g2; cases g2; unfold fin at key; rw [hb] at key; exact key
    | false => rw [GT.eval, hb] at g2; cases g2; unfold fin at key; rw [hb] at key; exact key
  · cases e
end A10L0
end Go.Proofs.YtaiokpmmjbiajaaGreatDoorDx
end
section
namespace Go.Proofs.YtaiokpmmjbiajaaGreatDoorDx
set_option linter.unusedSimpArgs false
set_option linter.unusedVariables false
open Go Go.Proofs
set_option linter.unusedVariables false
namespace A10L1
noncomputable def cfg : Cfg := cfgK Tryz.prog 4 (gpT [(33, A33.spec)]) (ltT 4 [])
def stA (nm : ByteArray) (n : Nat) (e : Int) (nl : Bool) (i : Int) : KX := ⟨[(0, .string nm), (1, .slice (some ⟨1, 0, none⟩) n 3), (4, .pointer (some ⟨105, 0, none⟩)), (5, .int .i64 e), (7, .bool nl), (42, .slice (some ⟨1, 0, none⟩) n 3), (43, .int .i64 (Int.ofNat n)), (44, .int .i64 i)], [[.int .i64 0, .int .i64 0, .string ⟨#[]⟩]]⟩
def stExit (nm : ByteArray) (n : Nat) (e : Int) (nl : Bool) : KX := ⟨[(0, .string nm), (1, .slice (some ⟨1, 0, none⟩) n 3), (4, .pointer (some ⟨105, 0, none⟩)), (5, .int .i64 e), (7, .bool nl)], [[.int .i64 0, .int .i64 0, .string ⟨#[]⟩]]⟩
def stRet (e : Int) : KX := ⟨[(4, .pointer (some ⟨105, 0, none⟩)), (5, .int .i64 e)], [[.int .i64 0, .int .i64 0, .string ⟨#[]⟩]]⟩
def kp : Ex → List Nat
  | .normal => [0, 1, 4, 5, 7, 42, 43, 44]
  | .ret => [4, 5]
  | _ => [0, 1, 4, 5, 7]
def cr : Ex → St → List (Nat × Bool) := fun _ s => [(105, true)]
set_option maxRecDepth 1000000 in
theorem round (nm : ByteArray) (n : Nat) (e : Int) (nl : Bool) (i : Int) (cs : List Value) : codeK cfg (gpT [(33, A33.spec)]) (callK cfg (gpT [(33, A33.spec)]) (ltT 4 []) 12) (fun _ _ => none) false 1000 (loopAt Tryz.prog 10 1) (stK 84 105 [(1, cs)] (stA nm n e nl i)) (endK 105 100 84 kp cr) =
  (let x := 0 + ((i).toNat * 3); bif decide (i < (Int.ofNat n)) then (bif decide (0 ≤ i) then (bif Nat.blt (i).toNat n then (bif isL cs x [(.i .i64), (.i .i64), .s] then (bif ((bif A33.okv (rdI cs x) (rdI cs (x + 1)) (rdS cs (x + 1 + 1)) then (0 : Int) else 1) != 0) then (some (.ret, stRet 22)) else (some (.normal, stA nm n e nl (IntKind.wrap .i64 (i + 1))))) else none) else none) else none) else (some (.exit 2, stExit nm n e nl))) := by kernel_rfl
def bad (v : W3) : Bool := !A33.okv v.1 v.2.1 v.2.2
theorem bad_eq (b : Bool) : ((bif b then (0 : Int) else 1) != 0) = !b := by cases b <;> rfl
def D : KD := ⟨84, 105, 100, [0, 1, 4, 5, 7, 42, 43, 44], [1], fun _ => [(4, true)], fun x ro => match x.vs, x.cars, ro with
  | [(0, .string nm), (1, .slice (some ⟨1, 0, none⟩) n 3), (4, .pointer (some ⟨105, 0, none⟩)), (5, .int .i64 e), (7, .bool nl), (42, .slice (some ⟨1, 0, none⟩) n' 3), (43, .int .i64 m), (44, .int .i64 0)], [[.int .i64 0, .int .i64 0, .string ⟨⟨[]⟩⟩]], [(1, cs)] =>
    .need (Nat.beq n' n && rowW n m cs) (.br ((valsOf cs).any bad) (.out (.ret, stRet 22)) (.out (.exit 2, stExit nm n e nl)))
  | _, _, _ => .no⟩
def lp : LpK := ⟨10, 13, 1, D⟩
theorem sp_ok : ∀ p ∈ [((33 : FuncId), A33.spec)], SpecOk Tryz.prog La p.1 p.2 := by simpa using A33.spec_ok
theorem lp_fine : LpFine Tryz.prog La 4 lp := by
  refine ⟨by kernel_rfl, fun c base I hP hn hG hI hIL x ro ex y e => ?_⟩
  obtain ⟨vs, cars⟩ := x
  simp only [lp, D] at e ⊢
  split at e
  · rename_i nm n e0 nl n' m cs
    obtain ⟨g1, g2⟩ := GT.need_eval e
    simp only [Bool.and_eq_true] at g1
    obtain rfl := Nat.eq_of_beq_eq_true g1.1
    obtain ⟨rfl, hn2, h4, h5⟩ := rowW_ok g1.2
    generalize valsOf cs = l at h4 h5 g2
    subst h4 h5
    have key := scan_from (Step := @StepK (etaB base) c base I (loopAt Tryz.prog 10 1) 84 105 100 [(1, vals l)]) (step := fun (_ : Unit) (v : W3) => bif bad v then .inr (.ret, stRet 22) else .inl ()) (fin := fun _ => (.exit 2, stExit nm l.length e0 nl)) (st := fun _ j => stA nm l.length e0 nl j) (l := l) (fun s => by simp) (fun s a r h => by
        cases hb : bad a <;> rw [hb] at h <;> cases h; simp) (fun _ j hj => by
        have h1 : decide ((j : Int) < Int.ofNat l.length) = true := decide_eq_true (by show (j : Int) < (l.length : Int); omega)
        have h2 : decide ((0 : Int) ≤ j) = true := decide_eq_true (by omega)
        have h3 : Nat.blt ((j : Int)).toNat l.length = true := by rw [Nat.blt_eq]; simpa using hj
        have h4 : (0 + ((j : Int)).toNat * 3) = j * 3 := by simp
        have h5 : IntKind.wrap .i64 ((j : Int) + 1) = ((j + 1 : Nat) : Int) := by rw [wrap_in (by omega) (by omega)]; omega
        have hs : rdS (vals l) (j * 3 + 1 + 1) = l[j].2.2 := rdS_vals l hj
        have hr := round nm l.length e0 nl j (vals l)
        simp only [h1, h2, h3, h4, h5, isL_vals l hj, rdI_vals l hj, rdI_vals1 l hj, hs, cond_true, bad_eq] at hr
        unfold bad
        cases hb : A33.okv l[j].1 l[j].2.1 l[j].2.2 <;> rw [hb] at hr <;> exact stepT prog_mix prog_names sp_ok (by simp) hP hn hG hI hIL hr) (fun _ => by
        have h1 : decide ((l.length : Int) < Int.ofNat l.length) = false := decide_eq_false (by show ¬ (l.length : Int) < (l.length : Int); omega)
        have hr := round nm l.length e0 nl l.length (vals l)
        simp only [h1, cond_false] at hr
        exact stepT prog_mix prog_names sp_ok (by simp) hP hn hG hI hIL hr) l.length 0 () (by omega)
    rw [List.drop_zero, scanF_any] at key
    cases hb : l.any bad with
    | true => rw [hb] at key; rw [GT.eval, hb] at g2; cases g2; exact key
    | false => rw [hb] at key; rw [GT.eval, hb] at g2; cases g2; exact key
  · cases e
end A10L1
end Go.Proofs.YtaiokpmmjbiajaaGreatDoorDx
end
section
namespace Go.Proofs.YtaiokpmmjbiajaaGreatDoorU8
open Go Go.Lib
set_option linter.unusedVariables false
set_option linter.unusedSimpArgs false
def Scal (n : Int) : Prop := (0 ≤ n ∧ n < 55296) ∨ (57344 ≤ n ∧ n ≤ 1114111)
def enc (n : Int) : List UInt8 := (Utf8.encode n).data.toList
def u8s (l : List Int) : List UInt8 := l.flatMap enc
theorem u8s_nil : u8s [] = [] := rfl
theorem u8s_cons (n : Int) (l : List Int) : u8s (n :: l) = enc n ++ u8s l := rfl
theorem u8s_append (a b : List Int) : u8s (a ++ b) = u8s a ++ u8s b := by simp [u8s]
theorem enc_eq {n : Int} (h : Scal n) : enc n =
    if n < 128 then [UInt8.ofNat n.toNat]
    else if n < 2048 then [UInt8.ofNat (192 + n.toNat / 64), UInt8.ofNat (128 + n.toNat % 64)]
    else if n < 65536 then [UInt8.ofNat (224 + n.toNat / 4096), UInt8.ofNat (128 + n.toNat / 64 % 64), UInt8.ofNat (128 + n.toNat % 64)]
    else [UInt8.ofNat (240 + n.toNat / 262144), UInt8.ofNat (128 + n.toNat / 4096 % 64), UInt8.ofNat (128 + n.toNat / 64 % 64), UInt8.ofNat (128 + n.toNat % 64)] := by
  unfold enc Utf8.encode
  have hv : Utf8.valid n = true := by
    unfold Utf8.valid
    unfold Scal at h
    simp only [Bool.or_eq_true, Bool.and_eq_true, decide_eq_true_eq]
    omega
  simp only [hv, if_true]
  unfold Scal at h
  by_cases h1 : n < 128
  · rw [if_pos h1, if_pos (by omega)]
  by_cases h2 : n < 2048
  · rw [if_neg h1, if_pos h2, if_neg (by omega), if_pos (by omega)]
  by_cases h3 : n < 65536
  · rw [if_neg h1, if_neg h2, if_pos h3, if_neg (by omega), if_neg (by omega), if_pos (by omega)]
  · rw [if_neg h1, if_neg h2, if_neg h3, if_neg (by omega), if_neg (by omega), if_neg (by omega)]
theorem tn {n : Nat} (h : n < 256) : (UInt8.ofNat n).toNat = n := by simp; omega
theorem dec_enc {n : Int} (h : Scal n) (t : List UInt8) : decodeL (enc n ++ t) = (n.toNat, (enc n).length) := by
  rw [decodeL_N, enc_eq h]
  unfold Scal at h
  obtain ⟨m, rfl⟩ : ∃ m : Nat, n = m := ⟨n.toNat, by omega⟩
  simp only [Int.toNat_natCast]
  by_cases h1 : m < 128
  · rw [if_pos (by omega)]
    simp only [List.cons_append, List.nil_append, List.getD_cons_zero, tn (show m < 256 by omega), List.length_cons, List.length_nil]
    unfold decodeN
    rw [if_pos h1]
  by_cases h2 : m < 2048
  · rw [if_neg (by omega), if_pos (by omega)]
    simp only [List.cons_append, List.nil_append, List.getD_cons_zero, List.getD_cons_succ, tn (show 192 + m / 64 < 256 by omega), tn (show 128 + m % 64 < 256 by omega), List.length_cons, List.length_nil]
    unfold decodeN
    rw [if_neg (by omega), if_pos ⟨by omega, by omega, by omega⟩, if_pos (by omega)]
    congr 1; omega
  by_cases h3 : m < 65536
  · rw [if_neg (by omega), if_neg (by omega), if_pos (by omega)]
    simp only [List.cons_append, List.nil_append, List.getD_cons_zero, List.getD_cons_succ, tn (show 224 + m / 4096 < 256 by omega), tn (show 128 + m / 64 % 64 < 256 by omega), tn (show 128 + m % 64 < 256 by omega), List.length_cons, List.length_nil]
    have e : (224 + m / 4096) % 16 * 4096 + (128 + m / 64 % 64) % 64 * 64 + (128 + m % 64) % 64 = m := by omega
    unfold decodeN
    rw [if_neg (by omega), if_neg (by omega), if_pos ⟨by omega, ⟨by omega, by omega⟩, by omega, by omega⟩, e, if_pos (by omega)]
  · rw [if_neg (by omega), if_neg (by omega), if_neg (by omega)]
    simp only [List.cons_append, List.nil_append, List.getD_cons_zero, List.getD_cons_succ, tn (show 240 + m / 262144 < 256 by omega), tn (show 128 + m / 4096 % 64 < 256 by omega), tn (show 128 + m / 64 % 64 < 256 by omega), tn (show 128 + m % 64 < 256 by omega), List.length_cons, List.length_nil]
    have e : (240 + m / 262144) % 8 * 262144 + (128 + m / 4096 % 64) % 64 * 4096 + (128 + m / 64 % 64) % 64 * 64 + (128 + m % 64) % 64 = m := by omega
    unfold decodeN
    rw [if_neg (by omega), if_neg (by omega), if_neg (by omega), if_pos ⟨by omega, ⟨by omega, by omega⟩, ⟨by omega, by omega⟩, by omega, by omega⟩, e, if_pos (by omega)]
theorem enc_len {n : Int} (h : Scal n) : 1 ≤ (enc n).length ∧ (enc n).length ≤ 4 ∧ ((enc n).length = 1 → n < 128) := by
  rw [enc_eq h]
  by_cases h1 : n < 128
  · simp [h1]
  by_cases h2 : n < 2048
  · simp [h1, h2]
  by_cases h3 : n < 65536
  · simp [h1, h2, h3]
  · simp [h1, h2, h3]
theorem valid_u8s : ∀ (l : List Int), (∀ n ∈ l, Scal n) → validD (u8s l) = true
  | [], _ => rfl
  | n :: l, h => by
    have hn := h n List.mem_cons_self
    have hl := enc_len hn
    rw [u8s_cons, validD_step _ (by intro e; have := congrArg List.length e; simp at this; simp [this.1] at hl), dec_enc hn]
    rw [if_neg (by
      rintro ⟨h1, h2⟩
      have := hl.2.2 h2
      unfold Scal at hn
      simp only at h1
      omega)]
    simp only [List.drop_left]
    exact valid_u8s l fun m hm => h m (List.mem_cons_of_mem _ hm)
theorem of_tn {b : UInt8} {n : Nat} (h : n = b.toNat) : UInt8.ofNat n = b := by subst h; simp
theorem enc_dec (l : List UInt8) (hne : l ≠ []) (h : ¬ ((decodeL l).1 = 65533 ∧ (decodeL l).2 = 1)) : Scal ((decodeL l).1 : Int) ∧ enc ((decodeL l).1 : Int) ++ l.drop (decodeL l).2 = l := by
  rw [decodeL_N] at h ⊢
  have hb : ∀ b : UInt8, b.toNat < 256 := fun b => b.toNat_lt
  match l, hne with
  | b0 :: t, _ =>
  have q0 := hb b0
  unfold decodeN at h ⊢
  simp only [List.getD_cons_zero, List.getD_cons_succ] at h ⊢
  by_cases h0 : b0.toNat < 128
  · rw [if_pos h0] at h ⊢
    simp only
    have hs : Scal (b0.toNat : Int) := by unfold Scal; omega
    refine ⟨hs, ?_⟩
    rw [enc_eq hs, if_pos (by omega)]
    simp
  rw [if_neg h0] at h ⊢
  cases t with
  | nil =>
    rw [if_neg (by simp), if_neg (by simp), if_neg (by simp)] at h
    simp at h
  | cons b1 t =>
  have q1 := hb b1
  simp only [List.getD_cons_zero, List.getD_cons_succ, List.length_cons] at h ⊢
  by_cases c1 : b0.toNat / 32 = 6 ∧ (1 < t.length + 1 + 1 ∧ b1.toNat / 64 = 2)
  · rw [if_pos c1] at h ⊢
    by_cases d : b0.toNat % 32 * 64 + b1.toNat % 64 ≥ 128
    · rw [if_pos d] at h ⊢
      simp only
      have hs : Scal ((b0.toNat % 32 * 64 + b1.toNat % 64 : Nat) : Int) := by unfold Scal; omega
      refine ⟨hs, ?_⟩
      rw [enc_eq hs, if_neg (by omega), if_pos (by omega), Int.toNat_natCast]
      simp only [List.cons_append, List.nil_append, List.drop_succ_cons, List.drop_zero]
      rw [of_tn (b := b0) (by omega), of_tn (b := b1) (by omega)]
    · rw [if_neg d] at h; simp at h
  rw [if_neg c1] at h ⊢
  cases t with
  | nil =>
    rw [if_neg (by simp), if_neg (by simp)] at h
    simp at h
  | cons b2 t =>
  have q2 := hb b2
  simp only [List.getD_cons_zero, List.getD_cons_succ, List.length_cons] at h ⊢
  by_cases c2 : b0.toNat / 16 = 14 ∧ (1 < t.length + 1 + 1 + 1 ∧ b1.toNat / 64 = 2) ∧ (2 < t.length + 1 + 1 + 1 ∧ b2.toNat / 64 = 2)
  · rw [if_pos c2] at h ⊢
    generalize hm : b0.toNat % 16 * 4096 + b1.toNat % 64 * 64 + b2.toNat % 64 = m at h ⊢
    by_cases d : m ≥ 2048 ∧ (m < 55296 ∨ (57344 ≤ m ∧ m ≤ 1114111))
    · rw [if_pos d] at h ⊢
      simp only
      have hs : Scal (m : Int) := by unfold Scal; omega
      refine ⟨hs, ?_⟩
      rw [enc_eq hs, if_neg (by omega), if_neg (by omega), if_pos (by omega), Int.toNat_natCast]
      simp only [List.cons_append, List.nil_append, List.drop_succ_cons, List.drop_zero]
      rw [of_tn (b := b0) (by omega), of_tn (b := b1) (by omega), of_tn (b := b2) (by omega)]
    · rw [if_neg d] at h; simp at h
  rw [if_neg c2] at h ⊢
  cases t with
  | nil =>
    rw [if_neg (by simp)] at h
    simp at h
  | cons b3 t =>
  have q3 := hb b3
  simp only [List.getD_cons_zero, List.getD_cons_succ, List.length_cons] at h ⊢
  by_cases c3 : b0.toNat / 8 = 30 ∧ (1 < t.length + 1 + 1 + 1 + 1 ∧ b1.toNat / 64 = 2) ∧ (2 < t.length + 1 + 1 + 1 + 1 ∧ b2.toNat / 64 = 2) ∧ (3 < t.length + 1 + 1 + 1 + 1 ∧ b3.toNat / 64 = 2)
  · rw [if_pos c3] at h ⊢
    generalize hm : b0.toNat % 8 * 262144 + b1.toNat % 64 * 4096 + b2.toNat % 64 * 64 + b3.toNat % 64 = m at h ⊢
    by_cases d : m ≥ 65536 ∧ (m < 55296 ∨ (57344 ≤ m ∧ m ≤ 1114111))
    · rw [if_pos d] at h ⊢
      simp only
      have hs : Scal (m : Int) := by unfold Scal; omega
      refine ⟨hs, ?_⟩
      rw [enc_eq hs, if_neg (by omega), if_neg (by omega), if_neg (by omega), Int.toNat_natCast]
      simp only [List.cons_append, List.nil_append, List.drop_succ_cons, List.drop_zero]
      rw [of_tn (b := b0) (by omega), of_tn (b := b1) (by omega), of_tn (b := b2) (by omega), of_tn (b := b3) (by omega)]
    · rw [if_neg d] at h; simp at h
  rw [if_neg c3] at h
  simp at h
theorem valid_split : ∀ (n : Nat) (l : List UInt8), l.length ≤ n → validD l = true → ∃ p : List Int, (∀ x ∈ p, Scal x) ∧ l = u8s p
  | 0, l, hl, _ => ⟨[], fun x h => by (cases h), by cases l with | nil => rfl | cons => simp at hl⟩
  | n + 1, l, hl, hv => by
    by_cases hne : l = []
    · exact ⟨[], fun x h => by (cases h), hne⟩
    rw [validD_step l hne] at hv
    by_cases hd : (decodeL l).1 = 65533 ∧ (decodeL l).2 = 1
    · rw [if_pos hd] at hv; cases hv
    rw [if_neg hd] at hv
    obtain ⟨h1, h2⟩ := enc_dec l hne hd
    have h3 := enc_len h1
    have h4 := congrArg List.length h2
    have h5 := decodeL_le l hne
    have h6 := decodeL_width l
    simp only [List.length_append, List.length_drop] at h4
    obtain ⟨p, h7, h8⟩ := valid_split n (l.drop (decodeL l).2) (by simp; omega) hv
    exact ⟨(decodeL l).1 :: p, fun x hx => by
      rcases List.mem_cons.1 hx with rfl | hx
      · exact h1
      · exact h7 x hx, by rw [u8s_cons, ← h8, h2]⟩
theorem runes_u8s (l : List Int) : runesBytes l = ⟨(u8s l).toArray⟩ := by
  have : ∀ (l : List Int) (b : ByteArray), l.foldl (fun r n => r ++ Utf8.encode n) b = ⟨(b.data.toList ++ u8s l).toArray⟩ := by
    intro l
    induction l with
    | nil => intro b; obtain ⟨a⟩ := b; simp [u8s]
    | cons n l ih => intro b; rw [List.foldl_cons, ih, u8s_cons]; simp [enc]
  rw [runesBytes, this]
  rfl
end Go.Proofs.YtaiokpmmjbiajaaGreatDoorU8
end
section
namespace Go.Proofs.YtaiokpmmjbiajaaGreatDoorTxt
set_option linter.unusedSimpArgs false
set_option linter.unusedVariables false
set_option maxRecDepth 4000
open Go.Proofs.YtaiokpmmjbiajaaGreatDoorU8 Go.Lib
open Go.WideShapes (bytes_inj)
def pts (s : ByteArray) : Nat → Nat → List Int
  | 0, _ => []
  | n + 1, i => if i < s.size then Int.ofNat (Utf8.decode s i).1 :: pts s n (i + (Utf8.decode s i).2) else []
def from_ (l : List Int) (a1 : Int) : Nat := (min (max a1 0) (l.length : Int)).toNat
def cnt (l : List Int) (a1 a2 : Int) : Nat := (min (max a2 0) ((l.length : Int) - min (max a1 0) (l.length : Int))).toNat
def pieceB (s : ByteArray) (a1 a2 : Int) : ByteArray :=
  runesBytes (((pts s s.size 0).drop (from_ (pts s s.size 0) a1)).take (cnt (pts s s.size 0) a1 a2))
def one (lo hi d : Int) (c : UInt8) : UInt8 := if lo ≤ (c.toNat : Int) ∧ (c.toNat : Int) ≤ hi then UInt8.ofNat (((c.toNat : Int) + d) % 256).toNat else c
def casedB (lo hi d : Int) (s : ByteArray) : ByteArray := ⟨(s.data.toList.map (one lo hi d)).toArray⟩
def frac (r : Nat) : List UInt8 := if Lib.trimRightB (Lib.repeatL [48] (4 - (Lib.decDigits r).length) ++ Lib.decDigits r) 48 = [] then [48] else Lib.trimRightB (Lib.repeatL [48] (4 - (Lib.decDigits r).length) ++ Lib.decDigits r) 48
def decText (n : Int) : List UInt8 := (if n < 0 then [45] else []) ++ Lib.decDigits (n.natAbs / 10000) ++ [46] ++ frac (n.natAbs % 10000)
def T (p : List Int) : ByteArray := ⟨(u8s p).toArray⟩
theorem T_size (p : List Int) : (T p).size = (u8s p).length := by simp [T, ByteArray.size]
theorem T_data (p : List Int) : (T p).data.toList = u8s p := by simp [T]
theorem dec_at (p q : List Int) (n : Int) (hn : Scal n) : Utf8.decode (T (p ++ n :: q)) (u8s p).length = (n.toNat, (enc n).length) := by
  rw [← decodeL_drop, T_data, u8s_append, List.drop_left, u8s_cons]
  exact dec_enc hn _
theorem pts_at : ∀ (q p : List Int) (k : Nat), (∀ x ∈ p ++ q, Scal x) → (u8s q).length ≤ k → pts (T (p ++ q)) k (u8s p).length = q
  | [], p, 0, h, hk => rfl
  | [], p, k + 1, h, hk => by
    rw [pts, if_neg (by rw [T_size]; simp)]
  | n :: q, p, 0, h, hk => by
    have := enc_len (h n (by simp))
    rw [u8s_cons, List.length_append] at hk
    omega
  | n :: q, p, k + 1, h, hk => by
    have hn := h n (by simp)
    have hl := enc_len hn
    rw [u8s_cons, List.length_append] at hk
    rw [pts, if_pos (by rw [T_size, u8s_append, u8s_cons]; simp; omega), dec_at p q n hn]
    have e : p ++ n :: q = (p ++ [n]) ++ q := by simp
    have e2 : (u8s p).length + (enc n).length = (u8s (p ++ [n])).length := by rw [u8s_append, u8s_cons]; simp [u8s_nil]
    simp only
    rw [e, e2, pts_at q (p ++ [n]) k (by rw [← e]; exact h) (by omega)]
    congr 1
    have : 0 ≤ n := by unfold Scal at hn; omega
    show ((n.toNat : Nat) : Int) = n
    omega
theorem pts_eq (p : List Int) (h : ∀ x ∈ p, Scal x) : pts (T p) (T p).size 0 = p := pts_at p [] _ h (by rw [T_size]; exact Nat.le_refl _)
theorem piece_eq (p : List Int) (h : ∀ x ∈ p, Scal x) (a n : Int) : pieceB (T p) a n = T ((p.drop (from_ p a)).take (cnt p a n)) := by
  unfold pieceB
  rw [pts_eq p h, runes_u8s]; rfl
def Ok (p : List Int) : Prop := (∀ x ∈ p, Scal x) ∧ (u8s p).length ≤ 1024
theorem u8s_take (p : List Int) (n : Nat) : (u8s (p.take n)).length ≤ (u8s p).length := by
  have e : u8s p = u8s (p.take n) ++ u8s (p.drop n) := by rw [← u8s_append, List.take_append_drop]
  rw [e]; simp
theorem u8s_drop (p : List Int) (n : Nat) : (u8s (p.drop n)).length ≤ (u8s p).length := by
  have e : u8s p = u8s (p.take n) ++ u8s (p.drop n) := by rw [← u8s_append, List.take_append_drop]
  rw [e]; simp
theorem Ok.part {p : List Int} (h : Ok p) (i n : Nat) : Ok ((p.drop i).take n) :=
  ⟨fun x hx => h.1 x (List.mem_of_mem_drop (List.mem_of_mem_take hx)), Nat.le_trans (u8s_take _ _) (Nat.le_trans (u8s_drop _ _) h.2)⟩
theorem Ok.left {p q : List Int} (h : Ok (p ++ q)) : Ok p := ⟨fun x hx => h.1 x (by simp [hx]), by have := h.2; rw [u8s_append] at this; simp at this; omega⟩
theorem Ok.right {p q : List Int} (h : Ok (p ++ q)) : Ok q := ⟨fun x hx => h.1 x (by simp [hx]), by have := h.2; rw [u8s_append] at this; simp at this; omega⟩
def turn (lo hi d n : Int) : Int := if lo ≤ n ∧ n ≤ hi then n + d else n
theorem one_high (lo hi d : Int) (hh : hi < 128) (k : Nat) (h : 128 ≤ k) (hk : k < 256) : one lo hi d (UInt8.ofNat k) = UInt8.ofNat k := by
  unfold one
  rw [tn hk, if_neg (by omega)]
theorem enc_turn (lo hi d : Int) (hl : 0 ≤ lo) (hh : hi < 128) (h1 : 0 ≤ lo + d) (h2 : hi + d < 128) (n : Int) (hn : Scal n) : (enc n).map (one lo hi d) = enc (turn lo hi d n) ∧ Scal (turn lo hi d n) ∧ (enc (turn lo hi d n)).length = (enc n).length := by
  by_cases hlt : n < 128
  · have h0 : 0 ≤ n := by unfold Scal at hn; omega
    have hs : Scal (turn lo hi d n) := by unfold turn Scal; split <;> omega
    have ht : turn lo hi d n < 128 := by unfold turn; split <;> omega
    refine ⟨?_, hs, ?_⟩
    · rw [enc_eq hn, enc_eq hs, if_pos hlt, if_pos ht]
      simp only [List.map]
      unfold one turn
      rw [tn (by omega)]
      by_cases c : lo ≤ n ∧ n ≤ hi
      · rw [if_pos (by omega), if_pos c]
        congr 2; omega
      · rw [if_neg (by omega), if_neg c]
    · rw [enc_eq hn, enc_eq hs, if_pos hlt, if_pos ht]; rfl
  · have e : turn lo hi d n = n := by unfold turn; rw [if_neg (by omega)]
    rw [e]
    refine ⟨?_, hn, rfl⟩
    unfold Scal at hn
    rw [enc_eq hn, if_neg hlt]
    by_cases c2 : n < 2048
    · rw [if_pos c2]
      simp only [List.map]
      rw [one_high lo hi d hh _ (by omega) (by omega), one_high lo hi d hh _ (by omega) (by omega)]
    by_cases c3 : n < 65536
    · rw [if_neg c2, if_pos c3]
      simp only [List.map]
      rw [one_high lo hi d hh _ (by omega) (by omega), one_high lo hi d hh _ (by omega) (by omega), one_high lo hi d hh _ (by omega) (by omega)]
    · rw [if_neg c2, if_neg c3]
      simp only [List.map]
      rw [one_high lo hi d hh _ (by omega) (by omega), one_high lo hi d hh _ (by omega) (by omega), one_high lo hi d hh _ (by omega) (by omega), one_high lo hi d hh _ (by omega) (by omega)]
theorem u8s_turn (lo hi d : Int) (hl : 0 ≤ lo) (hh : hi < 128) (h1 : 0 ≤ lo + d) (h2 : hi + d < 128) : ∀ (p : List Int), (∀ x ∈ p, Scal x) → (u8s p).map (one lo hi d) = u8s (p.map (turn lo hi d)) ∧ (∀ x ∈ p.map (turn lo hi d), Scal x) ∧ (u8s (p.map (turn lo hi d))).length = (u8s p).length
  | [], _ => ⟨rfl, (fun x h => by cases h), rfl⟩
  | n :: p, h => by
    obtain ⟨a1, a2, a3⟩ := enc_turn lo hi d hl hh h1 h2 n (h n (by simp))
    obtain ⟨b1, b2, b3⟩ := u8s_turn lo hi d hl hh h1 h2 p fun x hx => h x (by simp [hx])
    refine ⟨by rw [u8s_cons, List.map_append, a1, b1]; rfl, fun x hx => ?_, by rw [List.map_cons, u8s_cons, u8s_cons, List.length_append, List.length_append, a3, b3]⟩
    rcases List.mem_cons.1 hx with rfl | hx
    · exact a2
    · exact b2 x hx
theorem enc_ends (n : Int) (h : Scal n) (h32 : n ≠ 32) : ∃ a b l l', enc n = a :: l ∧ enc n = l' ++ [b] ∧ a ≠ 32 ∧ b ≠ 32 := by
  have ne : ∀ k : Nat, k < 256 → k ≠ 32 → UInt8.ofNat k ≠ 32 := fun k hk h e => h (by have := congrArg UInt8.toNat e; rw [tn hk] at this; simpa using this)
  have h0 : 0 ≤ n := by unfold Scal at h; omega
  rw [enc_eq h]
  unfold Scal at h
  by_cases c1 : n < 128
  · rw [if_pos c1]
    exact ⟨_, _, [], [], rfl, rfl, ne _ (by omega) (by omega), ne _ (by omega) (by omega)⟩
  by_cases c2 : n < 2048
  · rw [if_neg c1, if_pos c2]
    exact ⟨_, _, _, [_], rfl, rfl, ne _ (by omega) (by omega), ne _ (by omega) (by omega)⟩
  by_cases c3 : n < 65536
  · rw [if_neg c1, if_neg c2, if_pos c3]
    exact ⟨_, _, _, [_, _], rfl, rfl, ne _ (by omega) (by omega), ne _ (by omega) (by omega)⟩
  · rw [if_neg c1, if_neg c2, if_neg c3]
    exact ⟨_, _, _, [_, _, _], rfl, rfl, ne _ (by omega) (by omega), ne _ (by omega) (by omega)⟩
theorem enc32 : enc 32 = [32] := by rw [enc_eq (by unfold Scal; omega)]; rfl
theorem left_T : ∀ (p : List Int), (∀ x ∈ p, Scal x) → ∃ k, trimLeftB (u8s p) 32 = u8s (p.drop k)
  | [], _ => ⟨0, rfl⟩
  | n :: p, h => by
    by_cases c : n = 32
    · subst c
      obtain ⟨k, hk⟩ := left_T p fun x hx => h x (by simp [hx])
      refine ⟨k + 1, ?_⟩
      rw [u8s_cons, enc32]
      exact hk
    · obtain ⟨a, b, l, l', e1, e2, h1, h2⟩ := enc_ends n (h n (by simp)) c
      refine ⟨0, ?_⟩
      rw [List.drop_zero, u8s_cons, e1]
      unfold trimLeftB
      rw [List.cons_append, List.dropWhile_cons_of_neg (by simpa using h1)]
theorem right_T : ∀ (q : List Int), (∀ x ∈ q, Scal x) → ∃ k, trimRightB (u8s q.reverse) 32 = u8s (q.reverse.take k)
  | [], _ => ⟨0, rfl⟩
  | n :: q, h => by
    by_cases c : n = 32
    · subst c
      obtain ⟨k, hk⟩ := right_T q fun x hx => h x (by simp [hx])
      refine ⟨min k q.length, ?_⟩
      have e : u8s (32 :: q).reverse = u8s q.reverse ++ [32] := by rw [List.reverse_cons, u8s_append, u8s_cons, enc32]; rfl
      rw [e]
      unfold trimRightB
      rw [List.reverse_append]
      have : (u8s (q.reverse.take k)) = u8s (((32 : Int) :: q).reverse.take (min k q.length)) := by
        rw [List.reverse_cons, List.take_append_of_le_length (by simp; omega)]
        congr 1
        rw [List.take_eq_take_iff]
        simp
      rw [← this, ← hk]
      rfl
    · obtain ⟨a, b, l, l', e1, e2, h1, h2⟩ := enc_ends n (h n (by simp)) c
      refine ⟨(n :: q).length, ?_⟩
      rw [List.take_of_length_le (by simp)]
      have e : u8s (n :: q).reverse = (u8s q.reverse ++ l') ++ [b] := by rw [List.reverse_cons, u8s_append, u8s_cons, e2]; simp [u8s_nil]
      rw [e]
      unfold trimRightB
      rw [List.reverse_append, List.reverse_singleton, List.singleton_append, List.dropWhile_cons_of_neg (by simpa using h2)]
      simp
theorem trim_T (p : List Int) (h : Ok p) : ∃ q, Ok q ∧ trimB (u8s p) 32 = u8s q := by
  obtain ⟨k, hk⟩ := right_T p.reverse (fun x hx => h.1 x (by simpa using hx))
  rw [List.reverse_reverse] at hk
  have h1 : Ok (p.take k) := by have := Ok.part h 0 k; simpa using this
  obtain ⟨j, hj⟩ := left_T (p.take k) h1.1
  refine ⟨(p.take k).drop j, ?_, ?_⟩
  · have := Ok.part h1 j (p.take k).length
    rwa [List.take_of_length_le (by simp)] at this
  · unfold trimB
    rw [hk, hj]
theorem valid_pts {l : List UInt8} (h : validD l = true) : ∃ p : List Int, (∀ x ∈ p, Scal x) ∧ l = u8s p := valid_split l.length l (Nat.le_refl _) h
theorem ascii_u8s : ∀ l : List UInt8, (∀ c ∈ l, c.toNat < 128) → ∃ p : List Int, (∀ x ∈ p, Scal x) ∧ l = u8s p
  | [], _ => ⟨[], (fun x h => by cases h), rfl⟩
  | b :: l, h => by
    obtain ⟨p, h1, h2⟩ := ascii_u8s l fun c hc => h c (by simp [hc])
    have hb := h b (by simp)
    have hs : Scal (b.toNat : Int) := by unfold Scal; omega
    refine ⟨(b.toNat : Int) :: p, fun x hx => ?_, ?_⟩
    · rcases List.mem_cons.1 hx with rfl | hx
      · exact hs
      · exact h1 x hx
    · rw [u8s_cons, ← h2, enc_eq hs, if_pos (by omega)]
      simp
theorem ascii_valid {l : List UInt8} (h : ∀ c ∈ l, c.toNat < 128) : validD l = true := by
  obtain ⟨p, h1, rfl⟩ := ascii_u8s l h
  exact valid_u8s p h1
theorem dec_ascii : ∀ (u : Nat), ∀ c ∈ decDigits u, c.toNat < 128 := by
  intro u
  induction u using Nat.strongRecOn with
  | _ u ih =>
    intro c hc
    rw [decDigits] at hc
    split at hc
    · rw [List.mem_singleton] at hc
      subst hc
      rw [tn (by omega)]; omega
    · rcases List.mem_append.1 hc with hc | hc
      · exact ih _ (by omega) c hc
      · rw [List.mem_singleton] at hc
        subst hc
        rw [tn (by omega)]; omega
theorem itoa_ascii (n : Int) : ∀ c ∈ itoa n, c.toNat < 128 := by
  intro c hc
  unfold itoa at hc
  split at hc
  · rcases List.mem_cons.1 hc with rfl | hc
    · decide
    · exact dec_ascii _ c hc
  · exact dec_ascii _ c hc
theorem rep_mem (l : List UInt8) : ∀ (n : Nat) (c : UInt8), c ∈ repeatL l n → c ∈ l
  | 0, c, h => by cases h
  | n + 1, c, h => by
    rw [repeatL] at h
    rcases List.mem_append.1 h with h | h
    · exact h
    · exact rep_mem l n c h
theorem trimR_mem (l : List UInt8) (b c : UInt8) (h : c ∈ trimRightB l b) : c ∈ l := by
  unfold trimRightB at h
  have := (List.dropWhile_suffix _).mem (List.mem_reverse.1 h)
  exact List.mem_reverse.1 this
theorem decText_ascii (n : Int) : ∀ c ∈ decText n, c.toNat < 128 := by
  intro c hc
  unfold decText at hc
  simp only [List.mem_append] at hc
  rcases hc with ((hc | hc) | hc) | hc
  · split at hc
    · rw [List.mem_singleton] at hc; subst hc; decide
    · cases hc
  · exact dec_ascii _ c hc
  · rw [List.mem_singleton] at hc; subst hc; decide
  · unfold frac at hc
    split at hc
    · rw [List.mem_singleton] at hc; subst hc; decide
    · have := trimR_mem _ _ _ hc
      rcases List.mem_append.1 this with h | h
      · have := rep_mem _ _ _ h
        rw [List.mem_singleton] at this; subst this; decide
      · exact dec_ascii _ c h
theorem append_valid {a b : List UInt8} (ha : validD a = true) (hb : validD b = true) : validD (a ++ b) = true := by
  obtain ⟨p, h1, rfl⟩ := valid_pts ha
  obtain ⟨q, h2, rfl⟩ := valid_pts hb
  rw [← u8s_append]
  exact valid_u8s _ fun x hx => (List.mem_append.1 hx).elim (h1 x) (h2 x)
theorem cased_valid (lo hi d : Int) (hl : 0 ≤ lo) (hh : hi < 128) (h1 : 0 ≤ lo + d) (h2 : hi + d < 128) (s : ByteArray) (h : validD s.data.toList = true) : validD (casedB lo hi d s).data.toList = true := by
  obtain ⟨p, a, b⟩ := valid_pts h
  obtain ⟨c1, c2, _⟩ := u8s_turn lo hi d hl hh h1 h2 p a
  show validD (s.data.toList.map (one lo hi d)).toArray.toList = true
  rw [List.toList_toArray, b, c1]
  exact valid_u8s _ c2
theorem trim_valid (s : List UInt8) (hs : s.length ≤ 1024) (h : validD s = true) : validD (trimB s 32) = true := by
  obtain ⟨p, a, rfl⟩ := valid_pts h
  obtain ⟨q, h1, h2⟩ := trim_T p ⟨a, hs⟩
  rw [h2]
  exact valid_u8s _ h1.1
theorem data_T {s : ByteArray} {p : List Int} (h : s.data.toList = u8s p) : s = T p := by
  apply bytes_inj
  rw [T_data]; exact h
theorem piece_valid (s : ByteArray) (h : validD s.data.toList = true) (a n : Int) : validD (pieceB s a n).data.toList = true := by
  obtain ⟨p, h1, h2⟩ := valid_pts h
  rw [data_T h2, piece_eq p h1, T_data]
  exact valid_u8s _ fun x hx => h1 x (List.mem_of_mem_drop (List.mem_of_mem_take hx))
end Go.Proofs.YtaiokpmmjbiajaaGreatDoorTxt
end
section
namespace Go.Proofs.YtaiokpmmjbiajaaGreatDoorDx.Fit
open Go
set_option linter.unusedVariables false
set_option linter.unusedSimpArgs false
abbrev is (s : ByteArray) (l : List UInt8) : Bool := eqU s.data.toList l
def textV (t : ByteArray) : W3 × Int := bif decide (Int.ofNat t.data.toList.length > 1024) then (v0, 20) else ((4, 0, t), 0)
def rndP (s : ByteArray) (v : W3) : W3 × Int := bif v.1 == 2 then (v, 0) else ((2, A80.rnd s v.2.1, ⟨#[]⟩), 0)
def chosenP (s : ByteArray) (l : List W3) : W3 × Int := bif (A34.best s l).1 != 0 then (v0, (A34.best s l).1) else ((A34.best s l).2, 0)
def signI (n : Int) : Int := bif decide (n < 0) then -1 else bif decide (n > 0) then 1 else 0
def textL (k n : Int) (s : ByteArray) : List UInt8 :=
  bif !A33.okv k n s then [] else bif k == 0 then [110, 117, 108, 108] else bif k == 1 then (bif n == 1 then [116, 114, 117, 101] else [102, 97, 108, 115, 101])
  else bif k == 2 then Lib.itoa n else bif k == 3 then _root_.Go.Proofs.YtaiokpmmjbiajaaGreatDoorTxt.decText n else [39] ++ Lib.replaceAll s.data.toList [39] [39, 39] ++ [39]
def showB (k n : Int) (s : ByteArray) : ByteArray := ⟨(textL k n s).toArray⟩
def callV (s : ByteArray) (l : List W3) : W3 × Int :=
  let v := l.headD v0
  bif is s [97, 98, 115] then (bif decide (v.2.1 < 0) then A79.negV v.1 v.2.1 else (v, 0)) else
  bif is s [99, 101, 105, 108] then rndP s v else
  bif is s [102, 108, 111, 111, 114] then rndP s v else
  bif is s [114, 111, 117, 110, 100] then rndP s v else
  bif is s [115, 105, 103, 110] then ((2, signI v.2.1, ⟨#[]⟩), 0) else
  bif is s [116, 111, 105, 110, 116] then A82.intV v.1 v.2.1 else
  bif is s [116, 111, 100, 101, 99] then A75.decV v.1 v.2.1 else
  bif is s [103, 114, 101, 97, 116, 101, 115, 116] then chosenP s l else
  bif is s [108, 101, 97, 115, 116] then chosenP s l else
  bif is s [108, 101, 110, 103, 116, 104] then ((2, Int.ofNat (Lib.runeCount v.2.2), ⟨#[]⟩), 0) else
  bif is s [108, 111, 119, 101, 114] then textV (_root_.Go.Proofs.YtaiokpmmjbiajaaGreatDoorTxt.casedB 65 90 32 v.2.2) else
  bif is s [117, 112, 112, 101, 114] then textV (_root_.Go.Proofs.YtaiokpmmjbiajaaGreatDoorTxt.casedB 97 122 (-32) v.2.2) else
  bif is s [116, 114, 105, 109] then textV ⟨(Lib.trimB v.2.2.data.toList 32).toArray⟩ else
  bif is s [115, 117, 98, 115, 116, 114] then textV (_root_.Go.Proofs.YtaiokpmmjbiajaaGreatDoorTxt.pieceB v.2.2 (l.getD 1 v0).2.1 (l.getD 2 v0).2.1) else
  bif is s [116, 111, 116, 101, 120, 116] then (bif v.1 == 4 then (v, 0) else textV (showB v.1 v.2.1 v.2.2)) else
  textV (A37L0.cat l)
def rP (b : Bool) (k : Int) : Int × Int := bif b then (k, 0) else (0, 100)
def kindP (s : ByteArray) (l : List Int) : Int × Int :=
  bif l.any A14L0.bad then rP false 0 else
  bif eqU s.data.toList [97, 98, 115] then rP (A14.num l) (l.headD 0) else
  bif eqU s.data.toList [99, 101, 105, 108] then rP (A14.num l) 2 else
  bif eqU s.data.toList [102, 108, 111, 111, 114] then rP (A14.num l) 2 else
  bif eqU s.data.toList [114, 111, 117, 110, 100] then rP (A14.num l) 2 else
  bif eqU s.data.toList [115, 105, 103, 110] then rP (A14.num l) 2 else
  bif eqU s.data.toList [116, 111, 105, 110, 116] then rP (A14.num l) 2 else
  bif eqU s.data.toList [116, 111, 100, 101, 99] then rP (A14.num l) 3 else
  bif eqU s.data.toList [99, 111, 97, 108, 101, 115, 99, 101] then rP ((A53.res l).2 && decide (Int.ofNat l.length ≥ 1)) (A53.res l).1 else
  bif eqU s.data.toList [103, 114, 101, 97, 116, 101, 115, 116] then rP ((A53.res l).2 && decide (Int.ofNat l.length ≥ 1)) (A53.res l).1 else
  bif eqU s.data.toList [108, 101, 97, 115, 116] then rP ((A53.res l).2 && decide (Int.ofNat l.length ≥ 1)) (A53.res l).1 else
  bif eqU s.data.toList [110, 117, 108, 108, 105, 102] then rP (Int.ofNat l.length == 2 && (A53.res l).2) (l.headD 0) else
  bif eqU s.data.toList [99, 111, 110, 99, 97, 116] then rP (l.foldl (fun b k => b && A14L1.ok1 k) (decide (Int.ofNat l.length ≥ 1))) 4 else
  bif eqU s.data.toList [108, 101, 110, 103, 116, 104] then rP (A14.txt l) 2 else
  bif eqU s.data.toList [108, 111, 119, 101, 114] then rP (A14.txt l) 4 else
  bif eqU s.data.toList [117, 112, 112, 101, 114] then rP (A14.txt l) 4 else
  bif eqU s.data.toList [116, 114, 105, 109] then rP (A14.txt l) 4 else
  bif eqU s.data.toList [116, 111, 116, 101, 120, 116] then rP (Int.ofNat l.length == 1) 4 else
  bif eqU s.data.toList [115, 117, 98, 115, 116, 114] then rP (A14.sub l) 4 else
  rP false 0
def two (p : Int × Int) : Value := .tuple #[.int .i64 p.1, .int .i64 p.2]
theorem two_r (b : Bool) (k : Int) : two (rP b k) = A14.r b k := by cases b <;> rfl
theorem kindV_two (s : ByteArray) (l : List Int) : A14.kindV s l = two (kindP s l) := by
  unfold kindP A14.kindV
  simp only [Bool.apply_cond two, two_r]
def CallV (s : ByteArray) (l : List W3) : W3 × Int :=
  bif (kindP s (l.map (·.1))).2 != 0 then (v0, (kindP s (l.map (·.1))).2) else
  bif l.any A10L1.bad then (v0, 22) else
  bif is s [99, 111, 97, 108, 101, 115, 99, 101] then chosenP s l else
  bif is s [110, 117, 108, 108, 105, 102] then
    (bif A35.tru (bif (l.headD v0).1 == 0 || (l.getD 1 v0).1 == 0 then 0 else 1) (bif (A76.compare (l.headD v0).1 (l.headD v0).2.1 (l.headD v0).2.2 (l.getD 1 v0).1 (l.getD 1 v0).2.1 (l.getD 1 v0).2.2).2 && (A76.compare (l.headD v0).1 (l.headD v0).2.1 (l.headD v0).2.2 (l.getD 1 v0).1 (l.getD 1 v0).2.1 (l.getD 1 v0).2.2).1 == 0 then 1 else 0) then (v0, 0) else (l.headD v0, 0)) else
  bif (l.map (·.1)).any (· == 0) then (v0, 0) else callV s l
end Go.Proofs.YtaiokpmmjbiajaaGreatDoorDx.Fit
end
section
namespace Go.Proofs.YtaiokpmmjbiajaaGreatDoorDx
set_option linter.unusedSimpArgs false
set_option linter.unusedVariables false
open Go Go.Proofs
set_option linter.unusedVariables false
theorem SpecOk.to {P : Program} {La : World → Prop} {f : FuncId} {sp sp' : Spec} (h : SpecOk P La f sp) (e : ∀ aa t' v, sp' aa = some t' → t'.eval = some v → ∃ t, sp aa = some t ∧ t.eval = some v) : SpecOk P La f sp' :=
  ⟨h.1, fun aa t' v h1 h2 => by
    obtain ⟨t, h3, h4⟩ := e aa t' v h1 h2
    exact h.2 aa t v h3 h4⟩
def spec85 : Spec := fun aa => match aa with
  | [.v (.string s), .v (.int .u8 a), .v (.int .u8 b), .v (.int .i64 d)] => some (.need (Nat.ble s.data.toList.length 9223372036854775807 && (decide (-1000 ≤ d) && decide (d ≤ 1000))) (.out (.string (_root_.Go.Proofs.YtaiokpmmjbiajaaGreatDoorTxt.casedB a b d s))))
  | _ => none
def spec87 : Spec := fun aa => match aa with
  | [.v (.string s), .v (.int .i64 a), .v (.int .i64 b)] => some (.need (Nat.ble s.data.toList.length 70368744177664 && (inR a && inR b)) (.out (.string (_root_.Go.Proofs.YtaiokpmmjbiajaaGreatDoorTxt.pieceB s a b))))
  | _ => none
def spec88 : Spec := fun aa => match aa with
  | [a] => (vOf a).bind fun x => some (.need (Nat.ble x.2.2.data.toList.length 9223372036854775807 && inR x.2.1) (.out (.string (Fit.showB x.1 x.2.1 x.2.2))))
  | _ => none
namespace A83
def rc (s : ByteArray) : Int := Int.ofNat (Lib.runeCount s)
def spec : Spec := fun aa => match aa with
  | [.v (.string a)] => some (.need (Nat.blt a.data.toList.length 9223372036854775807) (.out (.int .i64 (rc a))))
  | _ => none
theorem spec_ok : SpecOk Tryz.prog La 83 spec := spec83_ok.to fun aa t' v h1 h2 => by
  unfold spec at h1
  split at h1
  · cases h1; exact ⟨_, rfl, h2⟩
  · cases h1
end A83
namespace A80
theorem rounded_ve (s : ByteArray) (k n : Int) (t : ByteArray) : rounded s k n t = ve (Fit.rndP s (k, n, t)) := by
  unfold rounded Fit.rndP
  cases h : k == 2
  · rfl
  · rfl
def specP : Spec := fun aa => match aa with
  | [.v (.string s), a] => (vOf a).bind fun x => some (.out (ve (Fit.rndP s x)))
  | _ => none
theorem specP_ok : SpecOk Tryz.prog La 80 specP := spec_ok.to fun aa t' v h1 h2 => by
  unfold specP at h1
  split at h1
  · rename_i s a
    obtain ⟨x, h3, h4⟩ := opt_bind h1
    cases h4
    refine ⟨.out (rounded s x.1 x.2.1 x.2.2), ?_, ?_⟩
    · show ((vOf a).bind fun x => some (GT.out (rounded s x.1 x.2.1 x.2.2))) = _
      rw [h3]; rfl
    · rw [rounded_ve]; exact h2
  · cases h1
end A80
namespace A34
theorem chosen_ve (s : ByteArray) (l : List W3) : chosenV s l = ve (Fit.chosenP s l) := by
  unfold chosenV Fit.chosenP
  cases h : (best s l).1 != 0 <;> rfl
def specP : Spec := fun aa => match aa with
  | [.v (.string s), .sl n 3 cs] => some (.need (rowW n (Int.ofNat n) cs && (valsOf cs).all (fun v => inR v.2.1)) (.out (ve (Fit.chosenP s (valsOf cs)))))
  | _ => none
theorem specP_ok : SpecOk Tryz.prog La 34 specP := spec_ok.to fun aa t' v h1 h2 => by
  unfold specP at h1
  split at h1
  · rename_i s n cs
    cases h1
    rw [← chosen_ve] at h2
    exact ⟨_, rfl, h2⟩
  · cases h1
end A34
namespace A36
def eqK (a b : W3) : Int := bif a.1 == 0 || b.1 == 0 then 0 else 1
def eqN (a b : W3) : Int := bif a.1 == 0 || b.1 == 0 then 0 else bif (A76.compare a.1 a.2.1 a.2.2 b.1 b.2.1 b.2.2).2 && (A76.compare a.1 a.2.1 a.2.2 b.1 b.2.1 b.2.2).1 == 0 then 1 else 0
theorem eqv_eq (a b : W3) : eqv a.1 a.2.1 a.2.2 b.1 b.2.1 b.2.2 = .agg #[.int .i64 (eqK a b), .int .i64 (eqN a b), .string ⟨#[]⟩] := by
  unfold eqv eqK eqN
  cases a.1 == 0 || b.1 == 0
  · cases (A76.compare a.1 a.2.1 a.2.2 b.1 b.2.1 b.2.2).2 && (A76.compare a.1 a.2.1 a.2.2 b.1 b.2.1 b.2.2).1 == 0 <;> rfl
  · rfl
def specP : Spec := fun aa => match aa with
  | [a, b] => (vOf a).bind fun x => (vOf b).bind fun y => some (.out (.agg #[.int .i64 (eqK x y), .int .i64 (eqN x y), .string ⟨#[]⟩]))
  | _ => none
theorem specP_ok : SpecOk Tryz.prog La 36 specP := spec_ok.to fun aa t' v h1 h2 => by
  unfold specP at h1
  split at h1
  · rename_i a b
    obtain ⟨x, h3, h1⟩ := opt_bind h1
    obtain ⟨y, h4, h1⟩ := opt_bind h1
    cases h1
    refine ⟨.out (eqv x.1 x.2.1 x.2.2 y.1 y.2.1 y.2.2), ?_, ?_⟩
    · show ((vOf a).bind fun x => (vOf b).bind fun y => some (GT.out (eqv x.1 x.2.1 x.2.2 y.1 y.2.1 y.2.2))) = _
      rw [h3, h4]; rfl
    · rw [eqv_eq]; exact h2
  · cases h1
end A36
namespace A14
def specP : Spec := fun aa => match aa with
  | [.v (.string s), .sl n 1 cs] => some (.need (rowI n (Int.ofNat n) cs) (.out (Fit.two (Fit.kindP s (cs.map valI)))))
  | [.v (.string s), .nil] => some (.out (Fit.two (0, 100)))
  | _ => none
theorem specP_ok : SpecOk Tryz.prog La 14 specP := spec_ok.to fun aa t' v h1 h2 => by
  unfold specP at h1
  split at h1
  · cases h1
    rw [← Fit.kindV_two] at h2
    exact ⟨_, rfl, h2⟩
  · cases h1
    exact ⟨_, rfl, h2⟩
  · cases h1
end A14
end Go.Proofs.YtaiokpmmjbiajaaGreatDoorDx
end
section
namespace Go.Proofs.YtaiokpmmjbiajaaGreatDoorDx.Fit
open Go
set_option linter.unusedVariables false
set_option linter.unusedSimpArgs false
theorem eqU_eq : ∀ {a b : List UInt8}, eqU a b = true → a = b
  | [], [], _ => rfl
  | [], _ :: _, h => by cases h
  | _ :: _, [], h => by cases h
  | x :: a, y :: b, h => by
    unfold eqU at h
    simp only [Bool.and_eq_true] at h
    rw [UInt8.toNat_inj.1 (Nat.eq_of_beq_eq_true h.1), eqU_eq h.2]
theorem is_eq {s : ByteArray} {l : List UInt8} (h : is s l = true) : s = ⟨l.toArray⟩ := by
  obtain ⟨a⟩ := s
  have := eqU_eq h
  simp only at this
  rw [← this]
theorem okv_text {s : ByteArray} : A33.okv 4 0 s = (decide (s.data.toList.length ≤ 1024) && Lib.validD s.data.toList) := rfl
theorem okv_num {k n : Int} (h : k = 2 ∨ k = 3) : A33.okv k n ⟨#[]⟩ = true := by rcases h with rfl | rfl <;> rfl
theorem okv_numS {k n : Int} {s : ByteArray} (h : k = 2 ∨ k = 3) (ho : A33.okv k n s = true) : s = ⟨#[]⟩ := by
  rcases h with rfl | rfl <;> exact is_eq (l := []) ho
theorem okv_textS {n : Int} {s : ByteArray} (ho : A33.okv 4 n s = true) : n = 0 ∧ s.data.toList.length ≤ 1024 ∧ Lib.validD s.data.toList = true := by
  have h : (n == 0 && (decide (s.data.toList.length ≤ 1024) && Lib.validD s.data.toList)) = true := ho
  simp only [Bool.and_eq_true, decide_eq_true_eq, beq_iff_eq] at h
  exact ⟨h.1, h.2.1, h.2.2⟩
def Fits (kind : Int) (p : W3 × Int) : Prop := if p.2 = 0 then A33.okv p.1.1 p.1.2.1 p.1.2.2 = true ∧ (p.1.1 = 0 ∨ p.1.1 = kind) else p.1 = v0
theorem fits_err {kind e : Int} (h : e ≠ 0) : Fits kind (v0, e) := by unfold Fits; rw [if_neg h]
theorem fits_null {kind : Int} : Fits kind (v0, 0) := by unfold Fits; rw [if_pos rfl]; exact ⟨rfl, .inl rfl⟩
theorem fits_num {kind n : Int} (h : kind = 2 ∨ kind = 3) : Fits kind ((kind, n, ⟨#[]⟩), 0) := by unfold Fits; rw [if_pos rfl]; exact ⟨okv_num h, .inr rfl⟩
theorem fits_val {kind : Int} {v : W3} (h : A33.okv v.1 v.2.1 v.2.2 = true) (hk : v.1 = kind) : Fits kind (v, 0) := by unfold Fits; rw [if_pos rfl]; exact ⟨h, .inr hk⟩
theorem fits_text {t : ByteArray} (h : Lib.validD t.data.toList = true) : Fits 4 (textV t) := by
  unfold textV
  cases hb : decide (Int.ofNat t.data.toList.length > 1024)
  · have hl : ¬ (t.data.toList.length : Int) > 1024 := of_decide_eq_false hb
    refine fits_val (v := (4, 0, t)) ?_ rfl
    show A33.okv 4 0 t = true
    rw [okv_text, h, decide_eq_true (by omega)]; rfl
  · exact fits_err (by decide)
theorem num_of {l : List Int} (h : A14.num l = true) : ∃ k, l = [k] ∧ (k = 0 ∨ k = 2 ∨ k = 3) := by
  unfold A14.num at h
  split at h
  · rename_i a
    simp only [Bool.or_eq_true, beq_iff_eq] at h
    exact ⟨a, rfl, h⟩
  · cases h
theorem txt_of {l : List Int} (h : A14.txt l = true) : ∃ k, l = [k] ∧ (k = 0 ∨ k = 4) := by
  unfold A14.txt at h
  split at h
  · rename_i a
    simp only [Bool.or_eq_true, beq_iff_eq] at h
    exact ⟨a, rfl, h⟩
  · cases h
theorem sub_of {l : List Int} (h : A14.sub l = true) : ∃ a b c, l = [a, b, c] ∧ (a = 0 ∨ a = 4) := by
  unfold A14.sub at h
  split at h
  · rename_i a b c
    simp only [Bool.or_eq_true, Bool.and_eq_true, beq_iff_eq] at h
    exact ⟨a, b, c, rfl, h.1⟩
  · cases h
theorem map_one {l : List W3} {k : Int} (h : l.map (·.1) = [k]) : ∃ v, l = [v] ∧ v.1 = k := by
  match l, h with
  | [v], h => exact ⟨v, rfl, by simpa using h⟩
def Ok5 (k : Int) : Prop := k = 0 ∨ k = 1 ∨ k = 2 ∨ k = 3 ∨ k = 4
def Inv (p : Int × Bool × Bool) (l : List Int) : Prop := Ok5 p.1 ∧ (p.2.1 = true → ∀ k ∈ l, k = 0 ∨ k = p.1) ∧ (p.2.2 = true → (p.1 = 0 ∨ p.1 = 2 ∨ p.1 = 3) ∧ ∀ k ∈ l, k = 0 ∨ ((k = 2 ∨ k = 3) ∧ k ≤ p.1)) ∧ (p.1 = 0 → ∀ k ∈ l, k = 0)
theorem step_inv {p : Int × Bool × Bool} {l : List Int} {k : Int} (h : Inv p l) (hk : Ok5 k) : Inv (A53.step p k) (l ++ [k]) := by
  obtain ⟨a, b, c⟩ := p
  obtain ⟨h1, h2, h3, h4⟩ := h
  simp only at h1 h2 h3 h4
  unfold A53.step
  cases hz : k == 0
  · have hz : k ≠ 0 := beq_eq_false_iff_ne.1 hz
    simp only [cond_false]
    have hm : (if k > a then k else a) ≥ k ∧ (if k > a then k else a) ≥ a ∧ ((if k > a then k else a) = k ∨ (if k > a then k else a) = a) := by split <;> omega
    generalize (if k > a then k else a) = m at hm
    unfold Ok5 at hk h1
    refine ⟨?_, fun h => ?_, fun h => ?_, fun h => ?_⟩
    · show Ok5 m; unfold Ok5; omega
    · simp only [Bool.and_eq_true, Bool.or_eq_true, beq_iff_eq] at h
      obtain ⟨hb, he⟩ := h
      intro x hx
      show x = 0 ∨ x = m
      rcases List.mem_append.1 hx with hx | hx
      · rcases h2 hb x hx with e | e
        · exact .inl e
        · rcases he with e2 | e2 <;> omega
      · rw [List.mem_singleton] at hx
        rcases he with e2 | e2 <;> omega
    · simp only [Bool.and_eq_true, Bool.or_eq_true, beq_iff_eq] at h
      obtain ⟨hb, he⟩ := h
      obtain ⟨g1, g2⟩ := h3 hb
      refine ⟨by show m = 0 ∨ m = 2 ∨ m = 3; omega, fun x hx => ?_⟩
      show x = 0 ∨ ((x = 2 ∨ x = 3) ∧ x ≤ m)
      rcases List.mem_append.1 hx with hx | hx
      · rcases g2 x hx with e | e
        · exact .inl e
        · right; omega
      · rw [List.mem_singleton] at hx
        subst hx
        exact .inr ⟨he, hm.1⟩
    · exact absurd h (by show ¬ m = 0; omega)
  · have hz : k = 0 := beq_iff_eq.1 hz
    subst hz
    simp only [cond_true]
    refine ⟨h1, fun h x hx => ?_, fun h => ⟨(h3 h).1, fun x hx => ?_⟩, fun h x hx => ?_⟩
    · rcases List.mem_append.1 hx with hx | hx
      · exact h2 h x hx
      · rw [List.mem_singleton] at hx; exact .inl hx
    · rcases List.mem_append.1 hx with hx | hx
      · exact (h3 h).2 x hx
      · rw [List.mem_singleton] at hx; exact .inl hx
    · rcases List.mem_append.1 hx with hx | hx
      · exact h4 h x hx
      · rw [List.mem_singleton] at hx; exact hx
theorem fold_inv : ∀ (r l : List Int) (p : Int × Bool × Bool), Inv p l → (∀ k ∈ r, Ok5 k) → Inv (r.foldl A53.step p) (l ++ r)
  | [], l, p, h, _ => by rw [List.append_nil]; exact h
  | k :: r, l, p, h, hr => by
    have := fold_inv r (l ++ [k]) (A53.step p k) (step_inv h (hr k (by simp))) fun x hx => hr x (by simp [hx])
    rw [List.append_assoc] at this
    exact this
theorem alike_fit {l : List Int} (h5 : ∀ k ∈ l, Ok5 k) (h : (A53.res l).2 = true) : ∀ k ∈ l, k = 0 ∨ k = (A53.res l).1 ∨ ((A53.res l).1 = 3 ∧ (k = 2 ∨ k = 3)) := by
  have hi : Inv (A53.alike l) l := fold_inv l [] (0, true, true) ⟨.inl rfl, (fun _ k hk => by cases hk), (fun _ => ⟨.inl rfl, fun k hk => by cases hk⟩), (fun _ k hk => by cases hk)⟩ h5
  obtain ⟨h1, h2, h3, h4⟩ := hi
  unfold A53.res at h ⊢
  simp only [Bool.or_eq_true] at h
  intro k hk
  rcases h with h | h
  · rcases h2 h k hk with e | e
    · exact .inl e
    · exact .inr (.inl e)
  · obtain ⟨g1, g2⟩ := h3 h
    rcases g2 k hk with e | ⟨e1, e2⟩
    · exact .inl e
    · show k = 0 ∨ k = (A53.alike l).1 ∨ ((A53.alike l).1 = 3 ∧ (k = 2 ∨ k = 3))
      omega
theorem decV_fit {k n : Int} (h : k = 2 ∨ k = 3) : (A75.decV k n).2 = 0 → (A75.decV k n).1.1 = 3 ∧ (A75.decV k n).1.2.2 = ⟨#[]⟩ := by
  unfold A75.decV
  rw [if_neg (by omega), if_pos h]
  split
  · intro _; exact ⟨rfl, rfl⟩
  · intro h; cases h
theorem go_fit (s : ByteArray) (kind : Int) : ∀ (l : List W3) (p : Bool × W3), (∀ v ∈ l, A33.okv v.1 v.2.1 v.2.2 = true ∧ (v.1 = 0 ∨ v.1 = kind ∨ (kind = 3 ∧ (v.1 = 2 ∨ v.1 = 3)))) → (p.2 = v0 ∨ A33.okv p.2.1 p.2.2.1 p.2.2.2 = true ∧ p.2.1 = kind) → (A34L1.go s kind p l).1 = 0 →
    ((A34L1.go s kind p l).2 = v0 ∨ A33.okv (A34L1.go s kind p l).2.1 (A34L1.go s kind p l).2.2.1 (A34L1.go s kind p l).2.2.2 = true ∧ (A34L1.go s kind p l).2.1 = kind)
  | [], p, h, hp, _ => hp
  | v :: l, p, h, hp, he => by
    have hl : ∀ v ∈ l, A33.okv v.1 v.2.1 v.2.2 = true ∧ (v.1 = 0 ∨ v.1 = kind ∨ (kind = 3 ∧ (v.1 = 2 ∨ v.1 = 3))) := fun x hx => h x (by simp [hx])
    obtain ⟨hv, hk⟩ := h v (by simp)
    have pk : ∀ (q : Bool × W3) (u : W3), (q.2 = v0 ∨ A33.okv q.2.1 q.2.2.1 q.2.2.2 = true ∧ q.2.1 = kind) → A33.okv u.1 u.2.1 u.2.2 = true → u.1 = kind → ((A34L1.pick s q u).2 = v0 ∨ A33.okv (A34L1.pick s q u).2.1 (A34L1.pick s q u).2.2.1 (A34L1.pick s q u).2.2.2 = true ∧ (A34L1.pick s q u).2.1 = kind) := by
      intro q u hq h1 h2
      unfold A34L1.pick
      cases A34L1.better s q.1 (A76.compare u.1 u.2.1 u.2.2 q.2.1 q.2.2.1 q.2.2.2).1
      · exact hq
      · exact .inr ⟨h1, h2⟩
    rw [A34L1.go] at he ⊢
    cases hz : v.1 == 0
    · rw [hz] at he
      simp only [cond_false] at he ⊢
      have hz := beq_eq_false_iff_ne.1 hz
      cases h3 : kind == 3
      · rw [h3] at he
        simp only [cond_false] at he ⊢
        have h3 := beq_eq_false_iff_ne.1 h3
        exact go_fit s kind l _ hl (pk p v hp hv (by omega)) he
      · rw [h3] at he
        have h3 := beq_iff_eq.1 h3
        simp only [cond_true] at he ⊢
        have hk2 : v.1 = 2 ∨ v.1 = 3 := by omega
        cases hd : (A75.decV v.1 v.2.1).2 != 0
        · rw [hd] at he
          simp only [cond_false] at he ⊢
          have hd := bne_eq_false_iff_eq.1 hd
          obtain ⟨d1, d2⟩ := decV_fit hk2 hd
          exact go_fit s kind l _ hl (pk p _ hp (by rw [d1, d2]; rfl) (by rw [d1, h3])) he
        · rw [hd] at he
          simp only [cond_true] at he
          rw [he] at hd
          cases hd
    · rw [hz] at he
      simp only [cond_true] at he ⊢
      exact go_fit s kind l p hl hp he
theorem chosen_fit (s : ByteArray) (l : List W3) (hok : ∀ v ∈ l, A33.okv v.1 v.2.1 v.2.2 = true) (h5 : ∀ k ∈ l.map (·.1), Ok5 k) (hr : (A53.res (l.map (·.1))).2 = true) : Fits (A53.res (l.map (·.1))).1 (chosenP s l) := by
  unfold chosenP
  cases hb : (A34.best s l).1 != 0
  · have hb := bne_eq_false_iff_eq.1 hb
    have := go_fit s (A53.res (l.map fun v : W3 => v.1)).1 l (false, 0, 0, ⟨#[]⟩) (fun v hv => ⟨hok v hv, alike_fit h5 hr v.1 (List.mem_map_of_mem hv)⟩) (.inl rfl) hb
    rcases this with h | ⟨h1, h2⟩
    · show Fits _ ((A34.best s l).2, 0)
      rw [show (A34.best s l).2 = v0 from h]
      exact fits_null
    · exact fits_val h1 h2
  · exact fits_err (bne_iff_ne.1 hb)
theorem catB_data (a b : ByteArray) : (A37L0.catB a b).data.toList = a.data.toList ++ b.data.toList := by unfold A37L0.catB; rw [List.toList_toArray]
theorem cat_valid : ∀ (l : List W3) (a : ByteArray), Lib.validD a.data.toList = true → (∀ v ∈ l, Lib.validD v.2.2.data.toList = true) → Lib.validD (l.foldl (fun s v => A37L0.catB s v.2.2) a).data.toList = true
  | [], a, h, _ => h
  | v :: l, a, h, hl => cat_valid l _ (by rw [catB_data]; exact _root_.Go.Proofs.YtaiokpmmjbiajaaGreatDoorTxt.append_valid h (hl v (by simp))) fun x hx => hl x (by simp [hx])
theorem fold_ok1 : ∀ (l : List Int) (b : Bool), l.foldl (fun b k => b && A14L1.ok1 k) b = true → b = true ∧ ∀ k ∈ l, k = 0 ∨ k = 4
  | [], b, h => ⟨h, fun k hk => by cases hk⟩
  | k :: l, b, h => by
    obtain ⟨h1, h2⟩ := fold_ok1 l _ h
    simp only [Bool.and_eq_true] at h1
    refine ⟨h1.1, fun x hx => ?_⟩
    rcases List.mem_cons.1 hx with rfl | hx
    · have := h1.2
      unfold A14L1.ok1 at this
      simpa using this
    · exact h2 x hx
theorem asc (l : List UInt8) (h : l.all (fun c => decide (c.toNat < 128)) = true) : ∀ c ∈ l, c.toNat < 128 := fun c hc => of_decide_eq_true (List.all_eq_true.1 h c hc)
theorem text_valid (k n : Int) (s : ByteArray) (h4 : k ≠ 4) : Lib.validD (showB k n s).data.toList = true := by
  show Lib.validD (textL k n s).toArray.toList = true
  rw [List.toList_toArray]
  refine _root_.Go.Proofs.YtaiokpmmjbiajaaGreatDoorTxt.ascii_valid fun c hc => ?_
  unfold textL at hc
  cases ho : A33.okv k n s
  · rw [ho] at hc; cases hc
  · have hk : k = 0 ∨ k = 1 ∨ k = 2 ∨ k = 3 := by
      unfold A33.okv at ho
      cases e0 : k == 0
      · cases e1 : k == 1
        · cases e2 : k == 2 || k == 3
          · simp [e0, e1, e2, beq_eq_false_iff_ne.2 h4] at ho
          · simp only [Bool.or_eq_true, beq_iff_eq] at e2; omega
        · simp only [beq_iff_eq] at e1; omega
      · simp only [beq_iff_eq] at e0; omega
    rw [ho] at hc
    rcases hk with rfl | rfl | rfl | rfl
    · exact asc [110, 117, 108, 108] (by decide) c hc
    · have hc : c ∈ (bif n == 1 then ([116, 114, 117, 101] : List UInt8) else [102, 97, 108, 115, 101]) := hc
      cases hn : n == 1
      · rw [hn] at hc; exact asc [102, 97, 108, 115, 101] (by decide) c hc
      · rw [hn] at hc; exact asc [116, 114, 117, 101] (by decide) c hc
    · exact _root_.Go.Proofs.YtaiokpmmjbiajaaGreatDoorTxt.itoa_ascii n c hc
    · exact _root_.Go.Proofs.YtaiokpmmjbiajaaGreatDoorTxt.decText_ascii n c hc
theorem Ok5_of {l : List Int} (h : l.any A14L0.bad = false) : ∀ k ∈ l, Ok5 k := by
  intro k hk
  have := (List.any_eq_false.1 h) k hk
  unfold A14L0.bad at this
  unfold Ok5
  simp at this
  omega
theorem okv_of {l : List W3} (h : l.any A10L1.bad = false) : ∀ v ∈ l, A33.okv v.1 v.2.1 v.2.2 = true := by
  intro v hv
  have := (List.any_eq_false.1 h) v hv
  unfold A10L1.bad at this
  simpa using this
theorem nonnull {l : List W3} (h : (l.map (fun v : W3 => v.1)).any (· == 0) = false) : ∀ v ∈ l, v.1 ≠ 0 := by
  intro v hv e
  have := (List.any_eq_false.1 h) v.1 (List.mem_map_of_mem hv)
  rw [e] at this
  exact this rfl
theorem rP0 {b : Bool} {k : Int} (h : (rP b k).2 = 0) : b = true ∧ (rP b k).1 = k := by
  cases b
  · cases h
  · exact ⟨rfl, rfl⟩
abbrev ks (l : List W3) : List Int := l.map (fun v : W3 => v.1)
section
variable {l : List W3} (hok : ∀ v ∈ l, A33.okv v.1 v.2.1 v.2.2 = true)
include hok
theorem one_num (hn : A14.num (ks l) = true) (hz : (ks l).any (· == 0) = false) : ∃ v, l = [v] ∧ (v.1 = 2 ∨ v.1 = 3) ∧ v.2.2 = ⟨#[]⟩ := by
  obtain ⟨k, e, hk⟩ := num_of hn
  obtain ⟨v, rfl, rfl⟩ := map_one e
  have h0 := nonnull hz v (by simp)
  have h2 : v.1 = 2 ∨ v.1 = 3 := by omega
  exact ⟨v, rfl, h2, okv_numS h2 (hok v (by simp))⟩
theorem one_txt (hn : A14.txt (ks l) = true) (hz : (ks l).any (· == 0) = false) : ∃ v, l = [v] ∧ v.1 = 4 ∧ v.2.2.data.toList.length ≤ 1024 ∧ Lib.validD v.2.2.data.toList = true := by
  obtain ⟨k, e, hk⟩ := txt_of hn
  obtain ⟨v, rfl, rfl⟩ := map_one e
  have h0 := nonnull hz v (by simp)
  have h4 : v.1 = 4 := by omega
  have ho := hok v (by simp)
  rw [h4] at ho
  exact ⟨v, rfl, h4, (okv_textS ho).2⟩
theorem fit_abs (hn : A14.num (ks l) = true) (hz : (ks l).any (· == 0) = false) : Fits ((ks l).headD 0) (bif decide ((l.headD v0).2.1 < 0) then A79.negV (l.headD v0).1 (l.headD v0).2.1 else (l.headD v0, 0)) := by
  obtain ⟨v, rfl, h2, hs⟩ := one_num hok hn hz
  show Fits v.1 (bif decide (v.2.1 < 0) then A79.negV v.1 v.2.1 else (v, 0))
  cases decide (v.2.1 < 0)
  · exact fits_val (hok v (by simp)) rfl
  · show Fits v.1 (A79.negV v.1 v.2.1)
    unfold A79.negV
    rw [if_neg (by omega), if_pos h2]
    split
    · exact fits_err (by decide)
    · exact fits_num h2
theorem fit_rnd (s : ByteArray) (hn : A14.num (ks l) = true) (hz : (ks l).any (· == 0) = false) : Fits 2 (rndP s (l.headD v0)) := by
  obtain ⟨v, rfl, h2, hs⟩ := one_num hok hn hz
  show Fits 2 (rndP s v)
  unfold rndP
  cases h : v.1 == 2
  · exact fits_num (.inl rfl)
  · exact fits_val (hok v (by simp)) (beq_iff_eq.1 h)
theorem fit_int (hn : A14.num (ks l) = true) (hz : (ks l).any (· == 0) = false) : Fits 2 (A82.intV (l.headD v0).1 (l.headD v0).2.1) := by
  obtain ⟨v, rfl, h2, hs⟩ := one_num hok hn hz
  show Fits 2 (A82.intV v.1 v.2.1)
  unfold A82.intV
  rw [if_neg (by omega)]
  split
  · exact fits_num (.inl rfl)
  · rw [if_pos (by omega)]; exact fits_num (.inl rfl)
theorem fit_dec (hn : A14.num (ks l) = true) (hz : (ks l).any (· == 0) = false) : Fits 3 (A75.decV (l.headD v0).1 (l.headD v0).2.1) := by
  obtain ⟨v, rfl, h2, hs⟩ := one_num hok hn hz
  show Fits 3 (A75.decV v.1 v.2.1)
  unfold A75.decV
  rw [if_neg (by omega), if_pos h2]
  split
  · exact fits_num (.inr rfl)
  · exact fits_err (by decide)
end
theorem fit (s : ByteArray) (l : List W3) (hk : (kindP s (l.map (·.1))).2 = 0) : Fits (kindP s (l.map (·.1))).1 (CallV s l) := by
  unfold CallV
  rw [hk]
  simp only [bne_self_eq_false, cond_false]
  cases hbad : l.any A10L1.bad
  · have hok := okv_of hbad
    simp only [cond_false]
    have h5 : ∀ k ∈ l.map (fun v : W3 => v.1), Ok5 k := by
      refine Ok5_of ?_
      cases hb : (l.map (fun v : W3 => v.1)).any A14L0.bad
      · rfl
      · unfold kindP at hk
        rw [hb] at hk
        cases hk
    have hb5 : (l.map (fun v : W3 => v.1)).any A14L0.bad = false := by
      cases hb : (l.map (fun v : W3 => v.1)).any A14L0.bad
      · rfl
      · unfold kindP at hk
        rw [hb] at hk
        cases hk
    have hkind := hk
    unfold kindP at hkind ⊢
    rw [hb5] at hkind ⊢
    simp only [cond_false] at hkind ⊢
    unfold callV is
    dsimp only []
    cases h_abs : eqU s.data.toList [97, 98, 115]
    rotate_left
    · obtain rfl := is_eq h_abs
      have hkind : (rP (A14.num (ks l)) ((ks l).headD 0)).2 = 0 := hkind
      obtain ⟨hn, hkd⟩ := rP0 hkind
      show Fits (rP (A14.num (ks l)) ((ks l).headD 0)).1 (bif (ks l).any (· == 0) then (v0, 0) else (bif decide ((l.headD v0).2.1 < 0) then A79.negV (l.headD v0).1 (l.headD v0).2.1 else (l.headD v0, 0)))
      rw [hkd]
      clear hkd hkind hk h_abs
      cases hz : (ks l).any (· == 0)
      rotate_left
      · exact fits_null
      exact fit_abs hok hn hz
    simp only [h_abs, cond_false] at hkind ⊢
    cases h_ceil : eqU s.data.toList [99, 101, 105, 108]
    rotate_left
    · obtain rfl := is_eq h_ceil
      have hkind : (rP (A14.num (ks l)) 2).2 = 0 := hkind
      obtain ⟨hn, hkd⟩ := rP0 hkind
      show Fits (rP (A14.num (ks l)) 2).1 (bif (ks l).any (· == 0) then (v0, 0) else rndP ⟨[99, 101, 105, 108].toArray⟩ (l.headD v0))
      rw [hkd]
      clear hkd hkind hk h_ceil
      cases hz : (ks l).any (· == 0)
      rotate_left
      · exact fits_null
      exact fit_rnd hok _ hn hz
    simp only [h_ceil, cond_false] at hkind ⊢
    cases h_floor : eqU s.data.toList [102, 108, 111, 111, 114]
    rotate_left
    · obtain rfl := is_eq h_floor
      have hkind : (rP (A14.num (ks l)) 2).2 = 0 := hkind
      obtain ⟨hn, hkd⟩ := rP0 hkind
      show Fits (rP (A14.num (ks l)) 2).1 (bif (ks l).any (· == 0) then (v0, 0) else rndP ⟨[102, 108, 111, 111, 114].toArray⟩ (l.headD v0))
      rw [hkd]
      clear hkd hkind hk h_floor
      cases hz : (ks l).any (· == 0)
      rotate_left
      · exact fits_null
      exact fit_rnd hok _ hn hz
    simp only [h_floor, cond_false] at hkind ⊢
    cases h_round : eqU s.data.toList [114, 111, 117, 110, 100]
    rotate_left
    · obtain rfl := is_eq h_round
      have hkind : (rP (A14.num (ks l)) 2).2 = 0 := hkind
      obtain ⟨hn, hkd⟩ := rP0 hkind
      show Fits (rP (A14.num (ks l)) 2).1 (bif (ks l).any (· == 0) then (v0, 0) else rndP ⟨[114, 111, 117, 110, 100].toArray⟩ (l.headD v0))
      rw [hkd]
      clear hkd hkind hk h_round
      cases hz : (ks l).any (· == 0)
      rotate_left
      · exact fits_null
      exact fit_rnd hok _ hn hz
    simp only [h_round, cond_false] at hkind ⊢
    cases h_sign : eqU s.data.toList [115, 105, 103, 110]
    rotate_left
    · obtain rfl := is_eq h_sign
      have hkind : (rP (A14.num (ks l)) 2).2 = 0 := hkind
      obtain ⟨hn, hkd⟩ := rP0 hkind
      show Fits (rP (A14.num (ks l)) 2).1 (bif (ks l).any (· == 0) then (v0, 0) else ((2, signI (l.headD v0).2.1, ⟨#[]⟩), 0))
      rw [hkd]
      clear hkd hkind hk h_sign
      cases hz : (ks l).any (· == 0)
      rotate_left
      · exact fits_null
      exact fits_num (.inl rfl)
    simp only [h_sign, cond_false] at hkind ⊢
    cases h_toint : eqU s.data.toList [116, 111, 105, 110, 116]
    rotate_left
    · obtain rfl := is_eq h_toint
      have hkind : (rP (A14.num (ks l)) 2).2 = 0 := hkind
      obtain ⟨hn, hkd⟩ := rP0 hkind
      show Fits (rP (A14.num (ks l)) 2).1 (bif (ks l).any (· == 0) then (v0, 0) else A82.intV (l.headD v0).1 (l.headD v0).2.1)
      rw [hkd]
      clear hkd hkind hk h_toint
      cases hz : (ks l).any (· == 0)
      rotate_left
      · exact fits_null
      exact fit_int hok hn hz
    simp only [h_toint, cond_false] at hkind ⊢
    cases h_todec : eqU s.data.toList [116, 111, 100, 101, 99]
    rotate_left
    · obtain rfl := is_eq h_todec
      have hkind : (rP (A14.num (ks l)) 3).2 = 0 := hkind
      obtain ⟨hn, hkd⟩ := rP0 hkind
      show Fits (rP (A14.num (ks l)) 3).1 (bif (ks l).any (· == 0) then (v0, 0) else A75.decV (l.headD v0).1 (l.headD v0).2.1)
      rw [hkd]
      clear hkd hkind hk h_todec
      cases hz : (ks l).any (· == 0)
      rotate_left
      · exact fits_null
      exact fit_dec hok hn hz
    simp only [h_todec, cond_false] at hkind ⊢
    cases h_coalesce : eqU s.data.toList [99, 111, 97, 108, 101, 115, 99, 101]
    rotate_left
    · obtain rfl := is_eq h_coalesce
      have hkind : (rP ((A53.res (ks l)).2 && decide (Int.ofNat (ks l).length ≥ 1)) (A53.res (ks l)).1).2 = 0 := hkind
      obtain ⟨hn, hkd⟩ := rP0 hkind
      show Fits (rP ((A53.res (ks l)).2 && decide (Int.ofNat (ks l).length ≥ 1)) (A53.res (ks l)).1).1 (chosenP ⟨[99, 111, 97, 108, 101, 115, 99, 101].toArray⟩ l)
      rw [hkd]
      clear hkd hkind hk h_coalesce
      simp only [Bool.and_eq_true] at hn
      exact chosen_fit _ l hok h5 hn.1
    simp only [h_coalesce, cond_false] at hkind ⊢
    cases h_greatest : eqU s.data.toList [103, 114, 101, 97, 116, 101, 115, 116]
    rotate_left
    · obtain rfl := is_eq h_greatest
      have hkind : (rP ((A53.res (ks l)).2 && decide (Int.ofNat (ks l).length ≥ 1)) (A53.res (ks l)).1).2 = 0 := hkind
      obtain ⟨hn, hkd⟩ := rP0 hkind
      show Fits (rP ((A53.res (ks l)).2 && decide (Int.ofNat (ks l).length ≥ 1)) (A53.res (ks l)).1).1 (bif (ks l).any (· == 0) then (v0, 0) else chosenP ⟨[103, 114, 101, 97, 116, 101, 115, 116].toArray⟩ l)
      rw [hkd]
      clear hkd hkind hk h_greatest
      cases hz : (ks l).any (· == 0)
      rotate_left
      · exact fits_null
      simp only [Bool.and_eq_true] at hn
      exact chosen_fit _ l hok h5 hn.1
    simp only [h_greatest, cond_false] at hkind ⊢
    cases h_least : eqU s.data.toList [108, 101, 97, 115, 116]
    rotate_left
    · obtain rfl := is_eq h_least
      have hkind : (rP ((A53.res (ks l)).2 && decide (Int.ofNat (ks l).length ≥ 1)) (A53.res (ks l)).1).2 = 0 := hkind
      obtain ⟨hn, hkd⟩ := rP0 hkind
      show Fits (rP ((A53.res (ks l)).2 && decide (Int.ofNat (ks l).length ≥ 1)) (A53.res (ks l)).1).1 (bif (ks l).any (· == 0) then (v0, 0) else chosenP ⟨[108, 101, 97, 115, 116].toArray⟩ l)
      rw [hkd]
      clear hkd hkind hk h_least
      cases hz : (ks l).any (· == 0)
      rotate_left
      · exact fits_null
      simp only [Bool.and_eq_true] at hn
      exact chosen_fit _ l hok h5 hn.1
    simp only [h_least, cond_false] at hkind ⊢
    cases h_nullif : eqU s.data.toList [110, 117, 108, 108, 105, 102]
    rotate_left
    · obtain rfl := is_eq h_nullif
      have hkind : (rP (Int.ofNat (ks l).length == 2 && (A53.res (ks l)).2) ((ks l).headD 0)).2 = 0 := hkind
      obtain ⟨hn, hkd⟩ := rP0 hkind
      show Fits (rP (Int.ofNat (ks l).length == 2 && (A53.res (ks l)).2) ((ks l).headD 0)).1 (bif A35.tru (bif (l.headD v0).1 == 0 || (l.getD 1 v0).1 == 0 then 0 else 1) (bif (A76.compare (l.headD v0).1 (l.headD v0).2.1 (l.headD v0).2.2 (l.getD 1 v0).1 (l.getD 1 v0).2.1 (l.getD 1 v0).2.2).2 && (A76.compare (l.headD v0).1 (l.headD v0).2.1 (l.headD v0).2.2 (l.getD 1 v0).1 (l.getD 1 v0).2.1 (l.getD 1 v0).2.2).1 == 0 then 1 else 0) then (v0, 0) else (l.headD v0, 0))
      rw [hkd]
      clear hkd hkind hk h_nullif
      cases A35.tru (bif (l.headD v0).1 == 0 || (l.getD 1 v0).1 == 0 then 0 else 1) (bif (A76.compare (l.headD v0).1 (l.headD v0).2.1 (l.headD v0).2.2 (l.getD 1 v0).1 (l.getD 1 v0).2.1 (l.getD 1 v0).2.2).2 && (A76.compare (l.headD v0).1 (l.headD v0).2.1 (l.headD v0).2.2 (l.getD 1 v0).1 (l.getD 1 v0).2.1 (l.getD 1 v0).2.2).1 == 0 then 1 else 0)
      rotate_left
      · exact fits_null
      simp only [cond_false]
      cases l with
      | nil => cases hn
      | cons v l => exact fits_val (hok v (by simp)) rfl
    simp only [h_nullif, cond_false] at hkind ⊢
    cases h_concat : eqU s.data.toList [99, 111, 110, 99, 97, 116]
    rotate_left
    · obtain rfl := is_eq h_concat
      have hkind : (rP ((ks l).foldl (fun b k => b && A14L1.ok1 k) (decide (Int.ofNat (ks l).length ≥ 1))) 4).2 = 0 := hkind
      obtain ⟨hn, hkd⟩ := rP0 hkind
      show Fits (rP ((ks l).foldl (fun b k => b && A14L1.ok1 k) (decide (Int.ofNat (ks l).length ≥ 1))) 4).1 (bif (ks l).any (· == 0) then (v0, 0) else textV (A37L0.cat l))
      rw [hkd]
      clear hkd hkind hk h_concat
      cases hz : (ks l).any (· == 0)
      rotate_left
      · exact fits_null
      obtain ⟨_, h4⟩ := fold_ok1 _ _ hn
      refine fits_text (cat_valid l _ rfl fun v hv => ?_)
      have e4 : v.1 = 4 := by have := h4 v.1 (List.mem_map_of_mem hv); have := nonnull hz v hv; omega
      have ho := hok v hv
      rw [e4] at ho
      exact (okv_textS ho).2.2
    simp only [h_concat, cond_false] at hkind ⊢
    cases h_length : eqU s.data.toList [108, 101, 110, 103, 116, 104]
    rotate_left
    · obtain rfl := is_eq h_length
      have hkind : (rP (A14.txt (ks l)) 2).2 = 0 := hkind
      obtain ⟨hn, hkd⟩ := rP0 hkind
      show Fits (rP (A14.txt (ks l)) 2).1 (bif (ks l).any (· == 0) then (v0, 0) else ((2, Int.ofNat (Lib.runeCount (l.headD v0).2.2), ⟨#[]⟩), 0))
      rw [hkd]
      clear hkd hkind hk h_length
      cases hz : (ks l).any (· == 0)
      rotate_left
      · exact fits_null
      exact fits_num (.inl rfl)
    simp only [h_length, cond_false] at hkind ⊢
    cases h_lower : eqU s.data.toList [108, 111, 119, 101, 114]
    rotate_left
    · obtain rfl := is_eq h_lower
      have hkind : (rP (A14.txt (ks l)) 4).2 = 0 := hkind
      obtain ⟨hn, hkd⟩ := rP0 hkind
      show Fits (rP (A14.txt (ks l)) 4).1 (bif (ks l).any (· == 0) then (v0, 0) else textV (_root_.Go.Proofs.YtaiokpmmjbiajaaGreatDoorTxt.casedB 65 90 32 (l.headD v0).2.2))
      rw [hkd]
      clear hkd hkind hk h_lower
      cases hz : (ks l).any (· == 0)
      rotate_left
      · exact fits_null
      obtain ⟨v, rfl, h4, h6, h7⟩ := one_txt hok hn hz
      exact fits_text (_root_.Go.Proofs.YtaiokpmmjbiajaaGreatDoorTxt.cased_valid 65 90 32 (by decide) (by decide) (by decide) (by decide) v.2.2 h7)
    simp only [h_lower, cond_false] at hkind ⊢
    cases h_upper : eqU s.data.toList [117, 112, 112, 101, 114]
    rotate_left
    · obtain rfl := is_eq h_upper
      have hkind : (rP (A14.txt (ks l)) 4).2 = 0 := hkind
      obtain ⟨hn, hkd⟩ := rP0 hkind
      show Fits (rP (A14.txt (ks l)) 4).1 (bif (ks l).any (· == 0) then (v0, 0) else textV (_root_.Go.Proofs.YtaiokpmmjbiajaaGreatDoorTxt.casedB 97 122 (-32) (l.headD v0).2.2))
      rw [hkd]
      clear hkd hkind hk h_upper
      cases hz : (ks l).any (· == 0)
      rotate_left
      · exact fits_null
      obtain ⟨v, rfl, h4, h6, h7⟩ := one_txt hok hn hz
      exact fits_text (_root_.Go.Proofs.YtaiokpmmjbiajaaGreatDoorTxt.cased_valid 97 122 (-32) (by decide) (by decide) (by decide) (by decide) v.2.2 h7)
    simp only [h_upper, cond_false] at hkind ⊢
    cases h_trim : eqU s.data.toList [116, 114, 105, 109]
    rotate_left
    · obtain rfl := is_eq h_trim
      have hkind : (rP (A14.txt (ks l)) 4).2 = 0 := hkind
      obtain ⟨hn, hkd⟩ := rP0 hkind
      show Fits (rP (A14.txt (ks l)) 4).1 (bif (ks l).any (· == 0) then (v0, 0) else textV ⟨(Lib.trimB (l.headD v0).2.2.data.toList 32).toArray⟩)
      rw [hkd]
      clear hkd hkind hk h_trim
      cases hz : (ks l).any (· == 0)
      rotate_left
      · exact fits_null
      obtain ⟨v, rfl, h4, h6, h7⟩ := one_txt hok hn hz
      exact fits_text (by rw [List.toList_toArray]; exact _root_.Go.Proofs.YtaiokpmmjbiajaaGreatDoorTxt.trim_valid _ h6 h7)
    simp only [h_trim, cond_false] at hkind ⊢
    cases h_totext : eqU s.data.toList [116, 111, 116, 101, 120, 116]
    rotate_left
    · obtain rfl := is_eq h_totext
      have hkind : (rP (Int.ofNat (ks l).length == 1) 4).2 = 0 := hkind
      obtain ⟨hn, hkd⟩ := rP0 hkind
      show Fits (rP (Int.ofNat (ks l).length == 1) 4).1 (bif (ks l).any (· == 0) then (v0, 0) else (bif (l.headD v0).1 == 4 then (l.headD v0, 0) else textV (showB (l.headD v0).1 (l.headD v0).2.1 (l.headD v0).2.2)))
      rw [hkd]
      clear hkd hkind hk h_totext
      cases hz : (ks l).any (· == 0)
      rotate_left
      · exact fits_null
      simp only [cond_false]
      cases l with
      | nil => cases hn
      | cons v l =>
        show Fits 4 (bif v.1 == 4 then (v, 0) else textV (showB v.1 v.2.1 v.2.2))
        cases h4 : v.1 == 4
        · exact fits_text (text_valid _ _ _ (beq_eq_false_iff_ne.1 h4))
        · exact fits_val (hok v (by simp)) (beq_iff_eq.1 h4)
    simp only [h_totext, cond_false] at hkind ⊢
    cases h_substr : eqU s.data.toList [115, 117, 98, 115, 116, 114]
    rotate_left
    · obtain rfl := is_eq h_substr
      have hkind : (rP (A14.sub (ks l)) 4).2 = 0 := hkind
      obtain ⟨hn, hkd⟩ := rP0 hkind
      show Fits (rP (A14.sub (ks l)) 4).1 (bif (ks l).any (· == 0) then (v0, 0) else textV (_root_.Go.Proofs.YtaiokpmmjbiajaaGreatDoorTxt.pieceB (l.headD v0).2.2 (l.getD 1 v0).2.1 (l.getD 2 v0).2.1))
      rw [hkd]
      clear hkd hkind hk h_substr
      cases hz : (ks l).any (· == 0)
      rotate_left
      · exact fits_null
      obtain ⟨a, b, c, e, ha⟩ := sub_of hn
      cases l with
      | nil => cases e
      | cons v l =>
        have ea : v.1 = a := (List.cons.inj e).1
        have := nonnull hz v (by simp)
        have e4 : v.1 = 4 := by omega
        have ho := hok v (by simp)
        rw [e4] at ho
        exact fits_text (_root_.Go.Proofs.YtaiokpmmjbiajaaGreatDoorTxt.piece_valid v.2.2 (okv_textS ho).2.2 _ _)
    simp only [h_substr, cond_false] at hkind ⊢
    cases hkind
  · exact fits_err (by decide)
end Go.Proofs.YtaiokpmmjbiajaaGreatDoorDx.Fit
end
section
namespace Go.Proofs.YtaiokpmmjbiajaaGreatDoorDx
open Go Go.Proofs
open Go.Proofs.YtaiokpmmjbiajaaGreatDoor.PLeaf
set_option linter.unusedVariables false
set_option linter.unusedSimpArgs false
theorem len_size (s : ByteArray) : s.data.toList.length = s.size := by rw [Array.length_toList]; rfl
theorem ok85 : SpecOk Tryz.prog La 85 spec85 := spec_lib (by kernel_rfl) fun aa t v h e => by
  unfold spec85 at h
  split at h
  · rename_i s a b d
    cases h
    obtain ⟨g1, g2⟩ := GT.need_eval e
    cases g2
    simp only [Bool.and_eq_true, decide_eq_true_eq, Nat.ble_eq, len_size] at g1
    refine ⟨[.string s, .int .u8 a, .int .u8 b, .int .i64 d], rfl, rfl, fun W hW => funcs_cased.calls s a b d (_root_.Go.Proofs.YtaiokpmmjbiajaaGreatDoorTxt.casedB a b d s) W ?_⟩
    unfold funcs_cased.f
    rw [if_pos g1.1, if_pos g1.2.1, if_pos g1.2.2]
    rfl
  · cases h
theorem ok87 : SpecOk Tryz.prog La 87 spec87 := spec_lib (by kernel_rfl) fun aa t v h e => by
  unfold spec87 at h
  split at h
  · rename_i s a b
    cases h
    obtain ⟨g1, g2⟩ := GT.need_eval e
    cases g2
    simp only [Bool.and_eq_true, inR, decide_eq_true_eq, Nat.ble_eq, len_size] at g1
    obtain ⟨h1, ⟨h2, h3⟩, h4, h5⟩ := g1
    refine ⟨[.string s, .int .i64 a, .int .i64 b], rfl, rfl, fun W hW => funcs_piece.calls s a b (_root_.Go.Proofs.YtaiokpmmjbiajaaGreatDoorTxt.pieceB s a b) W ?_⟩
    have e2 : ∀ (n i : Nat), funcs_piece.pts s n i = _root_.Go.Proofs.YtaiokpmmjbiajaaGreatDoorTxt.pts s n i := by
      intro n
      induction n with
      | zero => intro i; rfl
      | succ n ih => intro i; unfold funcs_piece.pts _root_.Go.Proofs.YtaiokpmmjbiajaaGreatDoorTxt.pts; rw [ih]
    unfold funcs_piece.f
    rw [if_pos h1, if_pos h2, if_pos (by omega), if_pos h4, if_pos (by omega)]
    unfold funcs_piece.g _root_.Go.Proofs.YtaiokpmmjbiajaaGreatDoorTxt.pieceB
    rw [e2]; rfl
  · cases h
theorem check_f (k n : Int) (s : ByteArray) (hs : s.size ≤ 9223372036854775807) : value_Check.f k n s = some (if A33.okv k n s = true then 0 else 1) := by
  have he : eqU s.data.toList [] = decide (s.size = 0) := by
    rw [← len_size]
    cases s.data.toList <;> rfl
  unfold value_Check.f A33.okv
  rw [he]
  by_cases h0 : k = 0
  · subst h0; simp
  by_cases h1 : k = 1
  · subst h1; simp
  by_cases h2 : k = 2
  · subst h2; simp
  by_cases h3 : k = 3
  · subst h3; simp
  by_cases h4 : k = 4
  · subst h4; simp [hs, and_assoc, len_size]
  · simp [h0, h1, h2, h3, h4]
def quoteL : List UInt8 → List UInt8
  | [] => []
  | b :: l => if b = 39 then 39 :: 39 :: quoteL l else b :: quoteL l
theorem quoteL_replace : ∀ s : List UInt8, Lib.replaceK [39] [39, 39] (Lib.count s [39]) s = quoteL s
  | [] => rfl
  | b :: l => by
    have ih := quoteL_replace l
    by_cases hb : b = 39
    · subst hb
      have hi : Lib.index (39 :: l) [39] = (0 : Nat) := by simp [Lib.index]
      rw [Lib.count_hit (by simp) hi, Nat.add_comm, Lib.replaceK_hit _ _ _ _ 0 hi]
      simp only [List.length_singleton, Nat.zero_add, List.drop_succ_cons, List.drop_zero, List.take_zero, List.nil_append]
      rw [ih, quoteL, if_pos rfl]
      rfl
    · have hp : ([39] : List UInt8).isPrefixOf (b :: l) = false := by simp [List.isPrefixOf]; exact fun e => hb e.symm
      rw [quoteL, if_neg hb]
      by_cases hl : Lib.index l [39] = -1
      · have hi : Lib.index (b :: l) [39] = -1 := by rw [Lib.index, hp, hl]; rfl
        rw [Lib.count_miss hi]
        rw [Lib.count_miss hl] at ih
        rw [← ih]
        rfl
      · have hge := Lib.index_ge l [39]
        obtain ⟨i, hi⟩ : ∃ i : Nat, Lib.index l [39] = i := ⟨(Lib.index l [39]).toNat, by omega⟩
        have hi' : Lib.index (b :: l) [39] = ((i + 1 : Nat) : Int) := by
          rw [Lib.index, hp, hi]
          have : ¬ ((i : Int) == -1) = true := fun e => by have := beq_iff_eq.1 e; omega
          rw [if_neg this]
          simp
        rw [Lib.count_hit (by simp) hi', Nat.add_comm, Lib.replaceK_hit _ _ _ _ _ hi']
        rw [Lib.count_hit (by simp) hi, Nat.add_comm, Lib.replaceK_hit _ _ _ _ _ hi] at ih
        rw [← ih]
        simp [Nat.add_assoc]
theorem replaceAll_quote (s : List UInt8) : Lib.replaceAll s [39] [39, 39] = quoteL s := by
  unfold Lib.replaceAll Lib.replace Lib.replaceNum
  rw [if_neg (by decide), if_pos (.inl (by decide))]
  exact quoteL_replace s
theorem quoteL_len : ∀ s, (quoteL s).length ≤ 2 * s.length
  | [] => by simp [quoteL]
  | b :: l => by
    have := quoteL_len l
    unfold quoteL
    split <;> simp <;> omega
theorem show_f (k n : Int) (s : ByteArray) (hs : s.size ≤ 9223372036854775807) (hn : inR n = true) : value_Show.f k n s = some (Fit.showB k n s) := by
  unfold inR at hn
  simp only [Bool.and_eq_true, decide_eq_true_eq] at hn
  unfold value_Show.f Fit.showB Fit.textL
  rw [check_f k n s hs, Option.bind_some]
  cases ho : A33.okv k n s
  · simp
  · simp only [if_true, Bool.not_true, cond_false]
    by_cases h1 : k = 1
    · subst h1
      by_cases h : n = 1
      · subst h; rfl
      · simp [h, beq_eq_false_iff_ne.2 h]
    by_cases h2 : k = 2
    · subst h2
      simp [strconv_Itoa.f, hn.1, show n ≤ 9223372036854775807 by omega]
    by_cases h3 : k = 3
    · subst h3
      simp [value_decimal.f, hn.1, show n ≤ 9223372036854775807 by omega]
      rfl
    by_cases h4 : k = 4
    · subst h4
      obtain ⟨_, h5, h6⟩ := Fit.okv_textS ho
      rw [len_size] at h5
      have hq := quoteL_len s.data.toList
      rw [len_size] at hq
      have hc := Lib.count_le s.data.toList [39]
      rw [len_size] at hc
      have hrep : strings_ReplaceAll.f s ⟨#[39]⟩ ⟨#[39, 39]⟩ = some ⟨(quoteL s.data.toList).toArray⟩ := by
        unfold strings_ReplaceAll.f
        have s1 : (⟨#[39]⟩ : ByteArray).size = 1 := rfl
        have s2 : (⟨#[39, 39]⟩ : ByteArray).size = 2 := rfl
        rw [if_pos (by omega), s1, if_pos (by omega), s2, if_pos (by show s.size + Lib.count s.data.toList [39] * 2 ≤ _; omega)]
        show some (⟨(Lib.replaceAll s.data.toList [39] [39, 39]).toArray⟩ : ByteArray) = _
        rw [replaceAll_quote]
      have hqs : (⟨(quoteL s.data.toList).toArray⟩ : ByteArray).size = (quoteL s.data.toList).length := by simp [ByteArray.size]
      simp only [hrep, Option.bind_some]
      rw [if_neg (by decide), if_neg (by decide), if_neg (by decide), if_pos (by decide), if_pos (by rw [hqs]; omega)]
      refine congrArg some (WideShapes.bytes_inj ?_)
      rw [replaceAll_quote]
      simp
    have h0 : k = 0 := by
      unfold A33.okv at ho
      by_cases h0 : k = 0
      · exact h0
      · simp [beq_eq_false_iff_ne.2 h0, beq_eq_false_iff_ne.2 h1, beq_eq_false_iff_ne.2 h2, beq_eq_false_iff_ne.2 h3, beq_eq_false_iff_ne.2 h4] at ho
    subst h0
    rfl
def mayS : Spec := fun aa => match aa with
  | [a] => (vOf a).bind fun x => some (.out (.bool (A33.okv x.1 x.2.1 x.2.2)))
  | _ => none
theorem okB_eq (k n : Int) (s : ByteArray) : YtaiokpmmjbiajaaGreatDoor.Pure.okB k n s = A33.okv k n s := by
  have he : eqU s.data.toList [] = decide (s.size = 0) := by
    rw [← len_size]
    cases s.data.toList <;> rfl
  unfold YtaiokpmmjbiajaaGreatDoor.Pure.okB A33.okv
  rw [he]
  have hd : ∀ a b : Int, (a == b) = decide (a = b) := fun a b => by
    by_cases h : a = b
    · rw [decide_eq_true h, beq_iff_eq.2 h]
    · rw [decide_eq_false h, beq_eq_false_iff_ne.2 h]
  by_cases h0 : k = 0
  · subst h0; simp [hd]
  by_cases h1 : k = 1
  · subst h1; simp [hd]
  by_cases h2 : k = 2
  · subst h2; simp
  by_cases h3 : k = 3
  · subst h3; simp
  by_cases h4 : k = 4
  · subst h4; simp [len_size, Bool.and_assoc, hd]
  · simp [h0, h1, h2, h3, h4]
theorem ok15 : SpecOk Tryz.prog La 15 mayS := spec_lib (by kernel_rfl) fun aa t v h e => by
  unfold mayS at h
  split at h
  · rename_i a
    obtain ⟨⟨k0, n0, s0⟩, h1, h⟩ := opt_bind h
    cases h; cases e
    rw [vOf_ok h1]
    refine ⟨[.agg #[.int .i64 k0, .int .i64 n0, .string s0]], rfl, rfl, fun W hW => marqueeref01_May.calls 9301 k0 n0 s0 (A33.okv k0 n0 s0) W ?_⟩
    rw [← okB_eq]
    exact YtaiokpmmjbiajaaGreatDoor.Pure.may_eq 0 k0 n0 s0
  · cases h
theorem ok88 : SpecOk Tryz.prog La 88 spec88 := spec_lib (by kernel_rfl) fun aa t v h e => by
  unfold spec88 at h
  split at h
  · rename_i a
    obtain ⟨⟨k0, n0, s0⟩, h1, h⟩ := opt_bind h
    cases h
    obtain ⟨g1, g2⟩ := GT.need_eval e
    cases g2
    simp only [Bool.and_eq_true, Nat.ble_eq, len_size] at g1
    rw [vOf_ok h1]
    exact ⟨[.agg #[.int .i64 k0, .int .i64 n0, .string s0]], rfl, rfl, fun W hW => value_Show.calls k0 n0 s0 (Fit.showB k0 n0 s0) W hW (show_f k0 n0 s0 g1.1 g1.2)⟩
  · cases h
end Go.Proofs.YtaiokpmmjbiajaaGreatDoorDx
end
section
namespace Go.Proofs.YtaiokpmmjbiajaaGreatDoorDx
set_option linter.unusedSimpArgs false
set_option linter.unusedVariables false
open Go Go.Proofs
set_option linter.unusedVariables false
namespace A37
def T (s0 : ByteArray) (m1 : Nat) (c1 : List Value) : GT Value := let x2 := A82.intV (rdI c1 0) (rdI c1 1); let x3 := A79.negV (rdI c1 0) (rdI c1 1); let x4 := A75.decV (rdI c1 0) (rdI c1 1); let x5 := Go.Lib.trimB (rdS c1 2).data.toList (32 : UInt8); let x6 := A37L0.cat (valsOf c1); (.br (Nat.blt 0 m1) (.br (isL c1 0 [(.i .i64), (.i .i64), .s]) (.br (eqU (s0).data.toList [97, 98, 115]) (.br (decide ((rdI c1 1) < 0)) (.out (.tuple ([.agg ([.int .i64 x3.1.1, .int .i64 x3.1.2.1, .string x3.1.2.2]).toArray, .int .i64 x3.2]).toArray)) (.out (.tuple ([.agg ([.int .i64 (rdI c1 0), .int .i64 (rdI c1 1), .string (rdS c1 2)]).toArray, .int .i64 0]).toArray))) (.br (eqU (s0).data.toList [99, 101, 105, 108]) (.out (.tuple ([.agg ([.int .i64 (Fit.rndP s0 (rdI c1 0, rdI c1 1, rdS c1 2)).1.1, .int .i64 (Fit.rndP s0 (rdI c1 0, rdI c1 1, rdS c1 2)).1.2.1, .string (Fit.rndP s0 (rdI c1 0, rdI c1 1, rdS c1 2)).1.2.2]).toArray, .int .i64 (Fit.rndP s0 (rdI c1 0, rdI c1 1, rdS c1 2)).2]).toArray)) (.br (eqU (s0).data.toList [102, 108, 111, 111, 114]) (.out (.tuple ([.agg ([.int .i64 (Fit.rndP s0 (rdI c1 0, rdI c1 1, rdS c1 2)).1.1, .int .i64 (Fit.rndP s0 (rdI c1 0, rdI c1 1, rdS c1 2)).1.2.1, .string (Fit.rndP s0 (rdI c1 0, rdI c1 1, rdS c1 2)).1.2.2]).toArray, .int .i64 (Fit.rndP s0 (rdI c1 0, rdI c1 1, rdS c1 2)).2]).toArray)) (.br (eqU (s0).data.toList [114, 111, 117, 110, 100]) (.out (.tuple ([.agg ([.int .i64 (Fit.rndP s0 (rdI c1 0, rdI c1 1, rdS c1 2)).1.1, .int .i64 (Fit.rndP s0 (rdI c1 0, rdI c1 1, rdS c1 2)).1.2.1, .string (Fit.rndP s0 (rdI c1 0, rdI c1 1, rdS c1 2)).1.2.2]).toArray, .int .i64 (Fit.rndP s0 (rdI c1 0, rdI c1 1, rdS c1 2)).2]).toArray)) (.br (eqU (s0).data.toList [115, 105, 103, 110]) (.br (decide ((rdI c1 1) < 0)) (.out (.tuple ([.agg ([.int .i64 2, .int .i64 (-1), .string ⟨([]).toArray⟩]).toArray, .int .i64 0]).toArray)) (.br (decide ((rdI c1 1) > 0)) (.out (.tuple ([.agg ([.int .i64 2, .int .i64 1, .string ⟨([]).toArray⟩]).toArray, .int .i64 0]).toArray)) (.out (.tuple ([.agg ([.int .i64 2, .int .i64 0, .string ⟨([]).toArray⟩]).toArray, .int .i64 0]).toArray)))) (.br (eqU (s0).data.toList [116, 111, 105, 110, 116]) (.out (.tuple ([.agg ([.int .i64 x2.1.1, .int .i64 x2.1.2.1, .string x2.1.2.2]).toArray, .int .i64 x2.2]).toArray)) (.br (eqU (s0).data.toList [116, 111, 100, 101, 99]) (.br ((inR (rdI c1 1))) (.out (.tuple ([.agg ([.int .i64 x4.1.1, .int .i64 x4.1.2.1, .string x4.1.2.2]).toArray, .int .i64 x4.2]).toArray)) .no) (.br (eqU (s0).data.toList [103, 114, 101, 97, 116, 101, 115, 116]) (.br (([(true, AA.v (.string s0)), ((fun (cs : List Value) => ((0 + m1 * 3).ble cs.length && (List.take (m1 * 3) (List.drop 0 cs)).all scalV, AA.sl m1 3 (List.take (m1 * 3) (List.drop 0 cs)))) c1)]).all fun x => x.fst) (.br (((decide ((Int.ofNat m1) = (Int.ofNat m1)) && ((isVals (List.take (m1 * 3) (List.drop 0 c1))) && (Nat.beq (((((c1).drop 0)).take (m1 * 3))).length (m1 * 3) && Nat.blt m1 4398046511104))) && ((valsOf (List.take (m1 * 3) (List.drop 0 c1)))).all fun v => inR v.snd.fst)) (.out (.tuple ([.agg ([.int .i64 (Fit.chosenP s0 (valsOf (List.take (m1 * 3) (List.drop 0 c1)))).1.1, .int .i64 (Fit.chosenP s0 (valsOf (List.take (m1 * 3) (List.drop 0 c1)))).1.2.1, .string (Fit.chosenP s0 (valsOf (List.take (m1 * 3) (List.drop 0 c1)))).1.2.2]).toArray, .int .i64 (Fit.chosenP s0 (valsOf (List.take (m1 * 3) (List.drop 0 c1)))).2]).toArray)) .no) .no) (.br (eqU (s0).data.toList [108, 101, 97, 115, 116]) (.br (([(true, AA.v (.string s0)), ((fun (cs : List Value) => ((0 + m1 * 3).ble cs.length && (List.take (m1 * 3) (List.drop 0 cs)).all scalV, AA.sl m1 3 (List.take (m1 * 3) (List.drop 0 cs)))) c1)]).all fun x => x.fst) (.br (((decide ((Int.ofNat m1) = (Int.ofNat m1)) && ((isVals (List.take (m1 * 3) (List.drop 0 c1))) && (Nat.beq (((((c1).drop 0)).take (m1 * 3))).length (m1 * 3) && Nat.blt m1 4398046511104))) && ((valsOf (List.take (m1 * 3) (List.drop 0 c1)))).all fun v => inR v.snd.fst)) (.out (.tuple ([.agg ([.int .i64 (Fit.chosenP s0 (valsOf (List.take (m1 * 3) (List.drop 0 c1)))).1.1, .int .i64 (Fit.chosenP s0 (valsOf (List.take (m1 * 3) (List.drop 0 c1)))).1.2.1, .string (Fit.chosenP s0 (valsOf (List.take (m1 * 3) (List.drop 0 c1)))).1.2.2]).toArray, .int .i64 (Fit.chosenP s0 (valsOf (List.take (m1 * 3) (List.drop 0 c1)))).2]).toArray)) .no) .no) (.br (eqU (s0).data.toList [108, 101, 110, 103, 116, 104]) (.br (Nat.blt ((rdS c1 2).data.toList).length 9223372036854775807) (.out (.tuple ([.agg ([.int .i64 2, .int .i64 (A83.rc (rdS c1 2)), .string ⟨([]).toArray⟩]).toArray, .int .i64 0]).toArray)) .no) (.br (eqU (s0).data.toList [108, 111, 119, 101, 114]) (.br ((Nat.ble ((rdS c1 2).data.toList).length 9223372036854775807 && true)) (.br (decide ((Int.ofNat ((Go.Proofs.YtaiokpmmjbiajaaGreatDoorTxt.casedB 65 90 32 (rdS c1 2)).data.toList).length) > 1024)) (.out (.tuple ([.agg ([.int .i64 0, .int .i64 0, .string ⟨([]).toArray⟩]).toArray, .int .i64 20]).toArray)) (.out (.tuple ([.agg ([.int .i64 4, .int .i64 0, .string (Go.Proofs.YtaiokpmmjbiajaaGreatDoorTxt.casedB 65 90 32 (rdS c1 2))]).toArray, .int .i64 0]).toArray))) .no) (.br (eqU (s0).data.toList [117, 112, 112, 101, 114]) (.br ((Nat.ble ((rdS c1 2).data.toList).length 9223372036854775807 && true)) (.br (decide ((Int.ofNat ((Go.Proofs.YtaiokpmmjbiajaaGreatDoorTxt.casedB 97 122 (-32) (rdS c1 2)).data.toList).length) > 1024)) (.out (.tuple ([.agg ([.int .i64 0, .int .i64 0, .string ⟨([]).toArray⟩]).toArray, .int .i64 20]).toArray)) (.out (.tuple ([.agg ([.int .i64 4, .int .i64 0, .string (Go.Proofs.YtaiokpmmjbiajaaGreatDoorTxt.casedB 97 122 (-32) (rdS c1 2))]).toArray, .int .i64 0]).toArray))) .no) (.br (eqU (s0).data.toList [116, 114, 105, 109]) (.br (Nat.ble ((rdS c1 2).data.toList).length 9223372036854775807) (.br (decide ((Int.ofNat (x5).length) > 1024)) (.out (.tuple ([.agg ([.int .i64 0, .int .i64 0, .string ⟨([]).toArray⟩]).toArray, .int .i64 20]).toArray)) (.out (.tuple ([.agg ([.int .i64 4, .int .i64 0, .string ⟨(x5).toArray⟩]).toArray, .int .i64 0]).toArray))) .no) (.br (eqU (s0).data.toList [115, 117, 98, 115, 116, 114]) (.br (Nat.blt 1 m1) (.br (isV c1 4 (.i .i64)) (.br (Nat.blt 2 m1) (.br (isV c1 7 (.i .i64)) (.br ((Nat.ble ((rdS c1 2).data.toList).length 70368744177664 && ((inR (rdI c1 4)) && (inR (rdI c1 7))))) (.br (decide ((Int.ofNat ((Go.Proofs.YtaiokpmmjbiajaaGreatDoorTxt.pieceB (rdS c1 2) (rdI c1 4) (rdI c1 7)).data.toList).length) > 1024)) (.out (.tuple ([.agg ([.int .i64 0, .int .i64 0, .string ⟨([]).toArray⟩]).toArray, .int .i64 20]).toArray)) (.out (.tuple ([.agg ([.int .i64 4, .int .i64 0, .string (Go.Proofs.YtaiokpmmjbiajaaGreatDoorTxt.pieceB (rdS c1 2) (rdI c1 4) (rdI c1 7))]).toArray, .int .i64 0]).toArray))) .no) .no) .no) .no) .no) (.br (eqU (s0).data.toList [116, 111, 116, 101, 120, 116]) (.br (((rdI c1 0) == 4)) (.out (.tuple ([.agg ([.int .i64 (rdI c1 0), .int .i64 (rdI c1 1), .string (rdS c1 2)]).toArray, .int .i64 0]).toArray)) (.br ((Nat.ble ((rdS c1 2).data.toList).length 9223372036854775807 && (inR (rdI c1 1)))) (.br (decide ((Int.ofNat ((Fit.showB (rdI c1 0) (rdI c1 1) (rdS c1 2)).data.toList).length) > 1024)) (.out (.tuple ([.agg ([.int .i64 0, .int .i64 0, .string ⟨([]).toArray⟩]).toArray, .int .i64 20]).toArray)) (.out (.tuple ([.agg ([.int .i64 4, .int .i64 0, .string (Fit.showB (rdI c1 0) (rdI c1 1) (rdS c1 2))]).toArray, .int .i64 0]).toArray))) .no)) (.br ((true && ([((1 : Nat), c1)]).all fun p => p.snd.all scalV)) (.br (((decide ((Int.ofNat m1) = (Int.ofNat m1)) && ((isVals c1) && (Nat.beq (c1).length (m1 * 3) && Nat.blt m1 4398046511104))) && ((valsOf c1)).all A37L0.shortT)) (.br (decide ((Int.ofNat (x6.data.toList).length) > 1024)) (.out (.tuple ([.agg ([.int .i64 0, .int .i64 0, .string ⟨([]).toArray⟩]).toArray, .int .i64 20]).toArray)) (.out (.tuple ([.agg ([.int .i64 4, .int .i64 0, .string x6]).toArray, .int .i64 0]).toArray))) .no) .no)))))))))))))))) .no) .no)
set_option maxRecDepth 1000000 in
theorem run (s0 : ByteArray) (m1 : Nat) (c1 : List Value) : callK (cfgK Tryz.prog 4 (gpT [(34, A34.specP), (75, A75.spec), (79, A79.spec), (80, A80.specP), (82, A82.spec), (83, A83.spec), (85, spec85), (86, spec86), (87, spec87), (88, spec88)]) (ltT 4 [A37L0.lp])) (gpT [(34, A34.specP), (75, A75.spec), (79, A79.spec), (80, A80.specP), (82, A82.spec), (83, A83.spec), (85, spec85), (86, spec86), (87, spec87), (88, spec88)]) (ltT 4 [A37L0.lp]) 12 (.fn 37) (absVs 0 [.v (.string s0), .sl m1 3 c1]) ⟨absH 0 [.v (.string s0), .sl m1 3 c1], 4⟩ (fun o => some o.1) = (T s0 m1 c1).eval := by kernel_rfl
set_option maxRecDepth 1000000 in
theorem flat (s0 : ByteArray) (m1 : Nat) (c1 : List Value) : (T s0 m1 c1).allB (pfd 3) = true := by kernel_rfl
theorem at0 (l : List W3) (h : 0 < l.length) : l[0] = l.headD v0 := by cases l with
  | nil => cases h
  | cons v l => rfl
theorem atj (l : List W3) (j : Nat) (h : j < l.length) : l[j] = l.getD j v0 := by simp [List.getD_eq_getElem?_getD, h]
theorem head_mem (l : List W3) (h : 0 < l.length) : l.headD v0 ∈ l := by rw [← at0 l h]; exact List.getElem_mem h
theorem getD_mem (l : List W3) (j : Nat) (h : j < l.length) : l.getD j v0 ∈ l := by rw [← atj l j h]; exact List.getElem_mem h
def guard (s : ByteArray) (l : List W3) : Bool := l.all (fun v => inR v.2.1) && (l.all A37L0.shortT && (Nat.blt 0 l.length && (!eqU s.data.toList [115, 117, 98, 115, 116, 114] || Nat.blt 2 l.length)))
theorem textV_eq (t : ByteArray) : GT.eval (.br (decide (Int.ofNat t.data.toList.length > 1024)) (.out (.tuple ([.agg ([.int .i64 0, .int .i64 0, .string ⟨([]).toArray⟩]).toArray, .int .i64 20]).toArray)) (.out (.tuple ([.agg ([.int .i64 4, .int .i64 0, .string t]).toArray, .int .i64 0]).toArray))) = some (ve (Fit.textV t)) := by
  unfold Fit.textV
  cases h : decide (Int.ofNat t.data.toList.length > 1024) <;> simp only [GT.eval] <;> rfl
set_option maxHeartbeats 0 in
theorem T_ok (s : ByteArray) (l : List W3) (hl : l.length < 4398046511104) (hg : guard s l = true) : (T s l.length (vals l)).eval = some (ve (Fit.callV s l)) := by
  unfold guard at hg
  simp only [Bool.and_eq_true] at hg
  obtain ⟨hin, hsh, h0, h3⟩ := hg
  have h0' : 0 < l.length := by rwa [Nat.blt_eq] at h0
  have hs1 : ∀ v ∈ l, v.2.2.data.toList.length ≤ 1024 := fun v hv => Nat.le_of_ble_eq_true (List.all_eq_true.1 hsh v hv)
  have hi1 : ∀ v ∈ l, inR v.2.1 = true := fun v hv => List.all_eq_true.1 hin v hv
  have q0 : rdI (vals l) 0 = (l.headD v0).1 := by have := rdI_vals l h0'; rw [at0 l h0'] at this; exact this
  have q1 : rdI (vals l) 1 = (l.headD v0).2.1 := by have := rdI_vals1 l h0'; rw [at0 l h0'] at this; exact this
  have q2 : rdS (vals l) 2 = (l.headD v0).2.2 := by have := rdS_vals l h0'; rw [at0 l h0'] at this; exact this
  have q3 : isL (vals l) 0 [.i .i64, .i .i64, .s] = true := isL_vals l h0'
  have e2 : Nat.ble (l.headD v0).2.2.data.toList.length 9223372036854775807 = true := by have := hs1 _ (head_mem l h0'); rw [Nat.ble_eq]; omega
  have e3 : Nat.blt (l.headD v0).2.2.data.toList.length 9223372036854775807 = true := by have := hs1 _ (head_mem l h0'); rw [Nat.blt_eq]; omega
  have e4 : Nat.ble (l.headD v0).2.2.data.toList.length 70368744177664 = true := by have := hs1 _ (head_mem l h0'); rw [Nat.ble_eq]; omega
  have e5 : inR (l.headD v0).2.1 = true := hi1 _ (head_mem l h0')
  have a1 : (true && [((1 : Nat), vals l)].all fun p => p.2.all scalV) = true := by simp [vals_scal]
  have a3 : ((vals l).drop 0).take (l.length * 3) = vals l := by rw [List.drop_zero]; exact List.take_of_length_le (by rw [vals_len]; exact Nat.le_refl _)
  have a5 : (0 + l.length * 3).ble (vals l).length = true := by rw [Nat.ble_eq, vals_len]; omega
  have a6 : (0 + l.length * 3).ble (l.length * 3) = true := by rw [Nat.ble_eq]; omega
  have g : Nat.blt l.length 4398046511104 = true := by rw [Nat.blt_eq]; exact hl
  unfold T
  dsimp only [] at a1 ⊢
  simp only [a1, a3, a5, a6, g, q0, q1, q2, q3, e2, e3, e4, e5, h0, isVals_vals, vals_len, Nat.beq_refl, decide_true, Bool.and_self, vals_of, vals_scal, hin, hsh, GT.eval, Bool.true_and, Bool.and_true, cond_true, List.all_cons, List.all_nil]
  unfold Fit.callV Fit.is
  dsimp only []
  cases n0 : eqU s.data.toList [97, 98, 115]
  rotate_left
  · cases decide ((l.headD v0).2.1 < 0) <;> rfl
  cases n1 : eqU s.data.toList [99, 101, 105, 108]
  rotate_left
  · rfl
  cases n2 : eqU s.data.toList [102, 108, 111, 111, 114]
  rotate_left
  · rfl
  cases n3 : eqU s.data.toList [114, 111, 117, 110, 100]
  rotate_left
  · rfl
  cases n4 : eqU s.data.toList [115, 105, 103, 110]
  rotate_left
  · unfold Fit.signI
    cases decide ((l.headD v0).2.1 < 0) <;> cases decide ((l.headD v0).2.1 > 0) <;> rfl
  cases n5 : eqU s.data.toList [116, 111, 105, 110, 116]
  rotate_left
  · rfl
  cases n6 : eqU s.data.toList [116, 111, 100, 101, 99]
  rotate_left
  · rfl
  cases n7 : eqU s.data.toList [103, 114, 101, 97, 116, 101, 115, 116]
  rotate_left
  · rfl
  cases n8 : eqU s.data.toList [108, 101, 97, 115, 116]
  rotate_left
  · rfl
  cases n9 : eqU s.data.toList [108, 101, 110, 103, 116, 104]
  rotate_left
  · rfl
  cases n10 : eqU s.data.toList [108, 111, 119, 101, 114]
  rotate_left
  · exact textV_eq _
  cases n11 : eqU s.data.toList [117, 112, 112, 101, 114]
  rotate_left
  · exact textV_eq _
  cases n12 : eqU s.data.toList [116, 114, 105, 109]
  rotate_left
  · have := textV_eq ⟨(Lib.trimB (l.headD v0).2.2.data.toList 32).toArray⟩
    rw [List.toList_toArray] at this
    exact this
  cases n13 : eqU s.data.toList [115, 117, 98, 115, 116, 114]
  rotate_left
  · rw [n13] at h3
    have k2 : 2 < l.length := by
      have : Nat.blt 2 l.length = true := h3
      rwa [Nat.blt_eq] at this
    have k1 : 1 < l.length := by omega
    have b1 : Nat.blt 1 l.length = true := by rw [Nat.blt_eq]; exact k1
    have b2 : Nat.blt 2 l.length = true := by rw [Nat.blt_eq]; exact k2
    have c1 : rdI (vals l) 4 = (l.getD 1 v0).2.1 := by have := rdI_vals1 l k1; rw [atj l 1 k1] at this; exact this
    have c2 : rdI (vals l) 7 = (l.getD 2 v0).2.1 := by have := rdI_vals1 l k2; rw [atj l 2 k2] at this; exact this
    have d1 : isV (vals l) 4 (.i .i64) = true := by have := vals_at 1 (by omega) l k1; unfold isV; rw [show (4 : Nat) = 1 * 3 + 1 from rfl, this]; rfl
    have d2 : isV (vals l) 7 (.i .i64) = true := by have := vals_at 1 (by omega) l k2; unfold isV; rw [show (7 : Nat) = 2 * 3 + 1 from rfl, this]; rfl
    simp only [b1, b2, c1, c2, d1, d2, hi1 _ (getD_mem l 1 k1), hi1 _ (getD_mem l 2 k2), Bool.and_self, cond_true, cond_false]
    exact textV_eq _
  cases n14 : eqU s.data.toList [116, 111, 116, 101, 120, 116]
  rotate_left
  · cases (l.headD v0).1 == 4
    · exact textV_eq _
    · rfl
  exact textV_eq _
def spec : Spec := fun aa => match aa with
  | [.v (.string s), .sl n 3 cs] => some (.need (rowW n (Int.ofNat n) cs && guard s (valsOf cs)) (.out (ve (Fit.callV s (valsOf cs)))))
  | _ => none
theorem spec_ok (h85 : SpecOk Tryz.prog La 85 spec85) (h87 : SpecOk Tryz.prog La 87 spec87) (h88 : SpecOk Tryz.prog La 88 spec88) : SpecOk Tryz.prog La 37 spec := ⟨fnOk_ok (by kernel_rfl), fun aa t v h e => by
  unfold spec at h
  split at h
  · rename_i s n cs
    cases h
    obtain ⟨g1, g2⟩ := GT.need_eval e
    cases g2
    simp only [Bool.and_eq_true] at g1
    obtain ⟨_, hn, h4, h5⟩ := rowW_ok g1.1
    have hg := g1.2
    generalize valsOf cs = l at h4 h5 hg
    subst h4 h5
    exact ⟨rfl, callT La_below prog_mix prog_names (by simpa using ⟨A34.specP_ok, A75.spec_ok, A79.spec_ok, A80.specP_ok, A82.spec_ok, A83.spec_ok, h85, spec86_ok, h87, h88⟩) (by simpa using A37L0.lp_fine) (by decide) (by simp) rfl ((run _ _ _).trans (T_ok _ _ hn hg))⟩
  · cases h⟩
end A37
end Go.Proofs.YtaiokpmmjbiajaaGreatDoorDx
end
section
namespace Go.Proofs.YtaiokpmmjbiajaaGreatDoorDx
set_option linter.unusedSimpArgs false
set_option linter.unusedVariables false
open Go Go.Proofs
set_option linter.unusedVariables false
namespace A10
def T (s0 : ByteArray) (m1 : Nat) (c1 : List Value) : GT Value := let x1 := (rdI c1 3, rdI c1 4, rdS c1 5); let x2 := (rdI c1 0, rdI c1 1, rdS c1 2); (.br ((true && ([((1 : Nat), c1)]).all fun p => p.snd.all scalV)) (.br ((Nat.beq m1 m1 && (decide ((Int.ofNat m1) = (Int.ofNat m1)) && ((isVals c1) && (Nat.beq (c1).length (m1 * 3) && Nat.blt m1 4398046511104))))) (.br (Nat.beq m1 0) (.out (.tuple ([.agg ([.int .i64 0, .int .i64 0, .string ⟨([]).toArray⟩]).toArray, .int .i64 100]).toArray)) (.br (([(true, AA.v (.string s0)), ((fun (cs : List Value) => ((0 + m1 * 1).ble cs.length && (List.take (m1 * 1) (List.drop 0 cs)).all scalV, AA.sl m1 1 (List.take (m1 * 1) (List.drop 0 cs)))) (ints IntKind.i64 (List.map (fun (x : W3) => x.fst) (valsOf c1))))]).all fun x => x.fst) (.br ((rowI m1 (Int.ofNat m1) (((((((((valsOf c1)).map fun (x : W3) => x.fst)).map (Value.int IntKind.i64))).drop 0)).take (m1 * 1)))) (.br (((Fit.kindP s0 (((((((((((valsOf c1)).map fun (x : W3) => x.fst)).map (Value.int IntKind.i64))).drop 0)).take (m1 * 1))).map valI)).2 != 0)) (.out (.tuple ([.agg ([.int .i64 0, .int .i64 0, .string ⟨([]).toArray⟩]).toArray, .int .i64 (Fit.kindP s0 (((((((((((valsOf c1)).map fun (x : W3) => x.fst)).map (Value.int IntKind.i64))).drop 0)).take (m1 * 1))).map valI)).2]).toArray)) (.br ((true && ([((1 : Nat), c1)]).all fun p => p.snd.all scalV)) (.br ((Nat.beq m1 m1 && (decide ((Int.ofNat m1) = (Int.ofNat m1)) && ((isVals c1) && (Nat.beq (c1).length (m1 * 3) && Nat.blt m1 4398046511104))))) (.br (((valsOf c1).any A10L1.bad)) (.out (.tuple ([.agg ([.int .i64 0, .int .i64 0, .string ⟨([]).toArray⟩]).toArray, .int .i64 22]).toArray)) (.br (eqU (s0).data.toList [99, 111, 97, 108, 101, 115, 99, 101]) (.br (([(true, AA.v (.string s0)), ((fun (cs : List Value) => ((0 + m1 * 3).ble cs.length && (List.take (m1 * 3) (List.drop 0 cs)).all scalV, AA.sl m1 3 (List.take (m1 * 3) (List.drop 0 cs)))) c1)]).all fun x => x.fst) (.br (((decide ((Int.ofNat m1) = (Int.ofNat m1)) && ((isVals (List.take (m1 * 3) (List.drop 0 c1))) && (Nat.beq (((((c1).drop 0)).take (m1 * 3))).length (m1 * 3) && Nat.blt m1 4398046511104))) && ((valsOf (List.take (m1 * 3) (List.drop 0 c1)))).all fun v => inR v.snd.fst)) (.out (.tuple ([.agg ([.int .i64 (Fit.chosenP s0 (valsOf (List.take (m1 * 3) (List.drop 0 c1)))).1.1, .int .i64 (Fit.chosenP s0 (valsOf (List.take (m1 * 3) (List.drop 0 c1)))).1.2.1, .string (Fit.chosenP s0 (valsOf (List.take (m1 * 3) (List.drop 0 c1)))).1.2.2]).toArray, .int .i64 (Fit.chosenP s0 (valsOf (List.take (m1 * 3) (List.drop 0 c1)))).2]).toArray)) .no) .no) (.br (eqU (s0).data.toList [110, 117, 108, 108, 105, 102]) (.br (Nat.blt 0 m1) (.br (isL c1 0 [(.i .i64), (.i .i64), .s]) (.br (Nat.blt 1 m1) (.br (isL c1 3 [(.i .i64), (.i .i64), .s]) (.br ((A35.tru (A36.eqK x2 x1) (A36.eqN x2 x1))) (.out (.tuple ([.agg ([.int .i64 0, .int .i64 0, .string ⟨([]).toArray⟩]).toArray, .int .i64 0]).toArray)) (.br (Nat.blt 0 m1) (.br (isL c1 0 [(.i .i64), (.i .i64), .s]) (.out (.tuple ([.agg ([.int .i64 (rdI c1 0), .int .i64 (rdI c1 1), .string (rdS c1 2)]).toArray, .int .i64 0]).toArray)) .no) .no)) .no) .no) .no) .no) (.br (((List.map (fun (x : W3) => x.fst) (valsOf c1)).any fun x => x == 0)) (.out (.tuple ([.agg ([.int .i64 0, .int .i64 0, .string ⟨([]).toArray⟩]).toArray, .int .i64 0]).toArray)) (.br (([(true, AA.v (.string s0)), ((fun (cs : List Value) => ((0 + m1 * 3).ble cs.length && (List.take (m1 * 3) (List.drop 0 cs)).all scalV, AA.sl m1 3 (List.take (m1 * 3) (List.drop 0 cs)))) c1)]).all fun x => x.fst) (.br (((decide ((Int.ofNat m1) = (Int.ofNat m1)) && ((isVals (List.take (m1 * 3) (List.drop 0 c1))) && (Nat.beq (((((c1).drop 0)).take (m1 * 3))).length (m1 * 3) && Nat.blt m1 4398046511104))) && (A37.guard s0 (valsOf (List.take (m1 * 3) (List.drop 0 c1)))))) (.out (.tuple ([.agg ([.int .i64 (Fit.callV s0 (valsOf (List.take (m1 * 3) (List.drop 0 c1)))).1.1, .int .i64 (Fit.callV s0 (valsOf (List.take (m1 * 3) (List.drop 0 c1)))).1.2.1, .string (Fit.callV s0 (valsOf (List.take (m1 * 3) (List.drop 0 c1)))).1.2.2]).toArray, .int .i64 (Fit.callV s0 (valsOf (List.take (m1 * 3) (List.drop 0 c1)))).2]).toArray)) .no) .no))))) .no) .no)) .no) .no)) .no) .no)
set_option maxRecDepth 1000000 in
theorem run (s0 : ByteArray) (m1 : Nat) (c1 : List Value) : callK (cfgK Tryz.prog 4 (gpT [(14, A14.specP), (34, A34.specP), (35, A35.spec), (36, A36.specP), (37, A37.spec)]) (ltT 4 [A10L0.lp, A10L1.lp])) (gpT [(14, A14.specP), (34, A34.specP), (35, A35.spec), (36, A36.specP), (37, A37.spec)]) (ltT 4 [A10L0.lp, A10L1.lp]) 12 (.fn 10) (absVs 0 [.v (.string s0), .sl m1 3 c1]) ⟨absH 0 [.v (.string s0), .sl m1 3 c1], 4⟩ (fun o => some o.1) = (T s0 m1 c1).eval := by kernel_rfl
set_option maxRecDepth 1000000 in
theorem flat (s0 : ByteArray) (m1 : Nat) (c1 : List Value) : (T s0 m1 c1).allB (pfd 3) = true := by kernel_rfl
open Fit
theorem kind_nil (s : ByteArray) : kindP s [] = (0, 100) := by
  unfold kindP
  simp [rP, A14.num, A14.txt, A14.sub]
theorem kind_some {s : ByteArray} {l : List W3} (h : (kindP s (l.map (·.1))).2 = 0) : 0 < l.length := by
  cases l with
  | nil => rw [List.map_nil, kind_nil] at h; cases h
  | cons v l => simp
theorem kind_sub {l : List W3} (h : (kindP ⟨#[115, 117, 98, 115, 116, 114]⟩ (l.map (·.1))).2 = 0) : 2 < l.length := by
  unfold kindP at h
  cases hb : (l.map (·.1)).any A14L0.bad <;> rw [hb] at h
  · have h : (rP (A14.sub (l.map (·.1))) 4).2 = 0 := h
    obtain ⟨a, b, c, e, _⟩ := sub_of (rP0 h).1
    have := congrArg List.length e
    simp at this
    omega
  · cases h
theorem kind_nullif {l : List W3} (h : (kindP ⟨#[110, 117, 108, 108, 105, 102]⟩ (l.map (·.1))).2 = 0) : 1 < l.length := by
  unfold kindP at h
  cases hb : (l.map (·.1)).any A14L0.bad <;> rw [hb] at h
  · have h : (rP (Int.ofNat (l.map (·.1)).length == 2 && (A53.res (l.map (·.1))).2) ((l.map (·.1)).headD 0)).2 = 0 := h
    have := (rP0 h).1
    simp only [Bool.and_eq_true, beq_iff_eq, List.length_map] at this
    have e : (l.length : Int) = 2 := this.1
    omega
  · cases h
theorem short_of {v : W3} (h : A33.okv v.1 v.2.1 v.2.2 = true) : A37L0.shortT v = true := by
  obtain ⟨k, n, s⟩ := v
  have he : eqU s.data.toList [] = true → A37L0.shortT (k, n, s) = true := fun h => by rw [is_eq (l := []) h]; rfl
  unfold A33.okv at h
  simp only at h
  cases e0 : k == 0
  · rw [e0, cond_false] at h
    cases e1 : k == 1
    · rw [e1, cond_false] at h
      cases e2 : k == 2 || k == 3
      · rw [e2, cond_false] at h
        simp only [Bool.and_eq_true, decide_eq_true_eq] at h
        unfold A37L0.shortT
        rw [Nat.ble_eq]; exact h.2.2.1
      · rw [e2, cond_true] at h; exact he h
    · rw [e1, cond_true, Bool.and_eq_true] at h; exact he h.1
  · rw [e0, cond_true, Bool.and_eq_true] at h; exact he h.2
theorem guard_of {s : ByteArray} {l : List W3} (hin : l.all (fun v => inR v.2.1) = true) (hk : (kindP s (l.map (·.1))).2 = 0) (hb : l.any A10L1.bad = false) : A37.guard s l = true := by
  unfold A37.guard
  have h1 : l.all A37L0.shortT = true := List.all_eq_true.2 fun v hv => short_of (okv_of hb v hv)
  have h2 : Nat.blt 0 l.length = true := by rw [Nat.blt_eq]; exact kind_some hk
  rw [hin, h1, h2]
  cases h : eqU s.data.toList [115, 117, 98, 115, 116, 114]
  · rfl
  · obtain rfl := is_eq h
    have : Nat.blt 2 l.length = true := by rw [Nat.blt_eq]; exact kind_sub hk
    rw [this]; rfl
set_option maxHeartbeats 0 in
theorem T_ok (s : ByteArray) (l : List W3) (hl : l.length < 4398046511104) (hin : l.all (fun v => inR v.2.1) = true) : (T s l.length (vals l)).eval = some (ve (CallV s l)) := by
  have g : Nat.blt l.length 4398046511104 = true := by rw [Nat.blt_eq]; exact hl
  have gs := vals_scal l
  have g2 := rowI_of (l := l.map (·.1)) (by rw [List.length_map]; omega)
  rw [List.length_map] at g2
  have a1 : (true && [((1 : Nat), vals l)].all fun p => p.2.all scalV) = true := by simp [vals_scal]
  have a3 : ((ints .i64 (l.map (·.1))).drop 0).take (l.length * 1) = ints .i64 (l.map (·.1)) := by rw [List.drop_zero, Nat.mul_one]; exact List.take_of_length_le (by rw [ints_len, List.length_map]; exact Nat.le_refl _)
  have a4 : ((vals l).drop 0).take (l.length * 3) = vals l := by rw [List.drop_zero]; exact List.take_of_length_le (by rw [vals_len]; exact Nat.le_refl _)
  have a5 : (0 + l.length * 1).ble l.length = true := by rw [Nat.ble_eq]; omega
  have a6 : (0 + l.length * 3).ble (l.length * 3) = true := by rw [Nat.ble_eq]; omega
  have e0 : ∀ f : List Int, f.map (Value.int .i64) = ints .i64 f := fun _ => rfl
  unfold T
  dsimp only [] at a1 ⊢
  simp only [e0, a1, a3, a4, a5, a6, g, gs, g2, isVals_vals, vals_len, ints_len, List.length_map, Nat.beq_refl, decide_true, Bool.and_self, vals_of, ints_vals, ints_scal, hin, GT.eval, Bool.true_and, Bool.and_true, cond_true, List.all_cons, List.all_nil]
  unfold CallV is
  cases hb0 : Nat.beq l.length 0
  rotate_left
  · have : l = [] := List.length_eq_zero_iff.1 (Nat.eq_of_beq_eq_true hb0)
    subst this
    rw [List.map_nil, kind_nil]; rfl
  simp only [cond_false]
  cases hk : (kindP s (l.map (·.1))).2 != 0
  rotate_left
  · rfl
  have hk := bne_eq_false_iff_eq.1 hk
  simp only [cond_false]
  cases hbad : l.any A10L1.bad
  rotate_left
  · rfl
  simp only [cond_false]
  have h0 := kind_some hk
  cases n1 : eqU s.data.toList [99, 111, 97, 108, 101, 115, 99, 101]
  rotate_left
  · rfl
  simp only [cond_false]
  cases n2 : eqU s.data.toList [110, 117, 108, 108, 105, 102]
  rotate_left
  · obtain rfl := is_eq n2
    have k1 := kind_nullif hk
    have q0 : rdI (vals l) 0 = (l.headD v0).1 := by have := rdI_vals l h0; rw [A37.at0 l h0] at this; exact this
    have q1 : rdI (vals l) 1 = (l.headD v0).2.1 := by have := rdI_vals1 l h0; rw [A37.at0 l h0] at this; exact this
    have q2 : rdS (vals l) 2 = (l.headD v0).2.2 := by have := rdS_vals l h0; rw [A37.at0 l h0] at this; exact this
    have q3 : isL (vals l) 0 [.i .i64, .i .i64, .s] = true := isL_vals l h0
    have r0 : rdI (vals l) 3 = (l.getD 1 v0).1 := by have := rdI_vals l k1; rw [A37.atj l 1 k1] at this; exact this
    have r1 : rdI (vals l) 4 = (l.getD 1 v0).2.1 := by have := rdI_vals1 l k1; rw [A37.atj l 1 k1] at this; exact this
    have r2 : rdS (vals l) 5 = (l.getD 1 v0).2.2 := by have := rdS_vals l k1; rw [A37.atj l 1 k1] at this; exact this
    have r3 : isL (vals l) 3 [.i .i64, .i .i64, .s] = true := isL_vals l k1
    have b0 : Nat.blt 0 l.length = true := by rw [Nat.blt_eq]; exact h0
    have b1 : Nat.blt 1 l.length = true := by rw [Nat.blt_eq]; exact k1
    simp only [q0, q1, q2, q3, r0, r1, r2, r3, b0, b1, cond_true]
    generalize l.headD v0 = v
    generalize l.getD 1 v0 = u
    have et : A35.tru (A36.eqK (v.1, v.2.1, v.2.2) (u.1, u.2.1, u.2.2)) (A36.eqN (v.1, v.2.1, v.2.2) (u.1, u.2.1, u.2.2)) = A35.tru (bif v.1 == 0 || u.1 == 0 then 0 else 1) (bif (A76.compare v.1 v.2.1 v.2.2 u.1 u.2.1 u.2.2).2 && (A76.compare v.1 v.2.1 v.2.2 u.1 u.2.1 u.2.2).1 == 0 then 1 else 0) := by
      unfold A36.eqK A36.eqN
      dsimp only
      cases v.1 == 0 || u.1 == 0 <;> rfl
    rw [et]
    cases A35.tru (bif v.1 == 0 || u.1 == 0 then 0 else 1) (bif (A76.compare v.1 v.2.1 v.2.2 u.1 u.2.1 u.2.2).2 && (A76.compare v.1 v.2.1 v.2.2 u.1 u.2.1 u.2.2).1 == 0 then 1 else 0) <;> rfl
  simp only [cond_false]
  cases hz : (l.map (·.1)).any (· == 0)
  rotate_left
  · rfl
  rw [guard_of hin hk hbad]
  rfl
def spec : Spec := fun aa => match aa with
  | [.v (.string s), .sl n 3 cs] => some (.need (rowW n (Int.ofNat n) cs && (valsOf cs).all (fun v => inR v.2.1)) (.out (ve (CallV s (valsOf cs)))))
  | _ => none
theorem spec_ok (h85 : SpecOk Tryz.prog La 85 spec85) (h87 : SpecOk Tryz.prog La 87 spec87) (h88 : SpecOk Tryz.prog La 88 spec88) : SpecOk Tryz.prog La 10 spec := ⟨fnOk_ok (by kernel_rfl), fun aa t v h e => by
  unfold spec at h
  split at h
  · rename_i s n cs
    cases h
    obtain ⟨g1, g2⟩ := GT.need_eval e
    cases g2
    simp only [Bool.and_eq_true] at g1
    obtain ⟨_, hn, h4, h5⟩ := rowW_ok g1.1
    have hin := g1.2
    generalize valsOf cs = l at h4 h5 hin
    subst h4 h5
    exact ⟨rfl, callT La_below prog_mix prog_names (by simpa using ⟨A14.specP_ok, A34.specP_ok, A35.spec_ok, A36.specP_ok, A37.spec_ok h85 h87 h88⟩) (by simpa using ⟨A10L0.lp_fine, A10L1.lp_fine⟩) (by decide) (by simp) rfl ((run _ _ _).trans (T_ok _ _ hn hin))⟩
  · cases h⟩
end A10
end Go.Proofs.YtaiokpmmjbiajaaGreatDoorDx
end
section
namespace Go.Proofs.YtaiokpmmjbiajaaGreatDoorDx
set_option linter.unusedSimpArgs false
set_option linter.unusedVariables false
open Go Go.Proofs
set_option linter.unusedVariables false
namespace A13
set_option maxRecDepth 1000000 in
theorem run : callK (cfgK Tryz.prog 4 (gpT [(10, A10.spec), (14, A14.specP)]) (ltT 4 [])) (gpT [(10, A10.spec), (14, A14.specP)]) (ltT 4 []) 12 (.fn 13) (absVs 0 []) ⟨absH 0 [], 4⟩ (fun o => some o.1) = some (.bool true) := by kernel_rfl
def spec : Spec := fun aa => match aa with
  | [] => some (.out (.bool true))
  | _ => none
theorem spec_ok : SpecOk Tryz.prog La 13 spec := ⟨fnOk_ok (by kernel_rfl), fun aa t v h e => by
  unfold spec at h
  split at h
  · cases h; cases e
    exact ⟨rfl, callT La_below prog_mix prog_names (by simpa using ⟨A10.spec_ok ok85 ok87 ok88, A14.specP_ok⟩) (by simp) (by decide) (by simp) rfl run⟩
  · cases h⟩
end A13
end Go.Proofs.YtaiokpmmjbiajaaGreatDoorDx
end
section
namespace Go.Proofs.YtaiokpmmjbiajaaGreatDoorDx
set_option linter.unusedSimpArgs false
set_option linter.unusedVariables false
open Go Go.Proofs
set_option linter.unusedVariables false
namespace A10n
def T (s0 : ByteArray) : GT Value := .out (ve (v0, 100))
set_option maxRecDepth 1000000 in
theorem run (s0 : ByteArray) : callK (cfgK Tryz.prog 4 (gpT [(14, A14.specP)]) (ltT 4 [])) (gpT [(14, A14.specP)]) (ltT 4 []) 12 (.fn 10) (absVs 0 [.v (.string s0), .nil]) ⟨absH 0 [.v (.string s0), .nil], 4⟩ (fun o => some o.1) = some (ve (v0, 100)) := by kernel_rfl
def spec : Spec := fun aa => match aa with
  | [.v (.string s), .sl n 3 cs] => some (.need (rowW n (Int.ofNat n) cs && (valsOf cs).all (fun v => inR v.2.1)) (.out (ve (Fit.CallV s (valsOf cs)))))
  | [.v (.string s), .nil] => some (.out (ve (v0, 100)))
  | _ => none
theorem spec_ok : SpecOk Tryz.prog La 10 spec := ⟨fnOk_ok (by kernel_rfl), fun aa t v h e => by
  unfold spec at h
  split at h
  · cases h
    exact (A10.spec_ok ok85 ok87 ok88).2 _ _ _ rfl e
  · rename_i s
    cases h; cases e
    exact ⟨rfl, callT La_below prog_mix prog_names (by simpa using A14.specP_ok) (by simp) (by decide) (by simp) rfl (run s)⟩
  · cases h⟩
end A10n
end Go.Proofs.YtaiokpmmjbiajaaGreatDoorDx
end
section
namespace Go.Proofs.YtaiokpmmjbiajaaGreatDoorDx
set_option linter.unusedSimpArgs false
set_option linter.unusedVariables false
open Go Go.Proofs
set_option linter.unusedVariables false
namespace A4L0
noncomputable def cfg : Cfg := cfgK Tryz.prog 4 (gpT []) (ltT 4 [])
def stN (nm : ByteArray) (n : Nat) (i : Int) : KX := ⟨[(0, .string nm), (1, .slice (some ⟨1, 0, none⟩) n 3), (4, .bool false), (5, .slice none 0 0), (6, .int .i64 i)], []⟩
def stR (nm : ByteArray) (n : Nat) (i : Int) (k : Nat) (row : List Value) : KX := ⟨[(0, .string nm), (1, .slice (some ⟨1, 0, none⟩) n 3), (4, .bool false), (5, .slice (some ⟨4, 0, none⟩) k 1), (6, .int .i64 i)], [row]⟩
def exN (nm : ByteArray) (n : Nat) : KX := ⟨[(0, .string nm), (1, .slice (some ⟨1, 0, none⟩) n 3), (4, .bool false), (5, .slice none 0 0)], []⟩
def exR (nm : ByteArray) (n : Nat) (k : Nat) (row : List Value) : KX := ⟨[(0, .string nm), (1, .slice (some ⟨1, 0, none⟩) n 3), (4, .bool false), (5, .slice (some ⟨4, 0, none⟩) k 1)], [row]⟩
def kp : Ex → List Nat
  | .normal => [0, 1, 4, 5, 6]
  | _ => [0, 1, 4, 5]
def cr : Ex → St → List (Nat × Bool) := fun _ s => match s.T.get 5 with
  | some (.slice (some p) _ _) => [(p.block, true)]
  | _ => []
set_option maxRecDepth 1000000 in
theorem roundN (nm : ByteArray) (n : Nat) (i : Int) (cs : List Value) : codeK cfg (gpT []) (callK cfg (gpT []) (ltT 4 []) 12) (fun _ _ => none) false 1000 (loopAt Tryz.prog 4 0) (stK 69 4 [(1, cs)] (stN nm n i)) (endK 4 100 69 kp cr) =
  (bif decide (i < (Int.ofNat n)) then (bif decide (0 ≤ i) then (bif Nat.blt (i).toNat n then (bif isV cs (0 + ((i).toNat * 3)) (.i .i64) then (some (.normal, stR nm n (IntKind.wrap .i64 (i + 1)) 1 [.int .i64 (rdI cs (0 + ((i).toNat * 3)))])) else none) else none) else none) else (some (.exit 0, exN nm n))) := by kernel_rfl
set_option maxRecDepth 1000000 in
theorem roundR (nm : ByteArray) (n : Nat) (i : Int) (k : Nat) (row : List Value) (cs : List Value) : codeK cfg (gpT []) (callK cfg (gpT []) (ltT 4 []) 12) (fun _ _ => none) false 1000 (loopAt Tryz.prog 4 0) (stK 69 4 [(1, cs)] (stR nm n i k row)) (endK 4 100 69 kp cr) =
  (let r2 := (((row).drop 0).take (k * 1)) ++ [.int .i64 (rdI cs (0 + ((i).toNat * 3)))]; bif decide (i < (Int.ofNat n)) then (bif decide (0 ≤ i) then (bif Nat.blt (i).toNat n then (bif isV cs (0 + ((i).toNat * 3)) (.i .i64) then (bif Nat.ble (k + 1) 140737488355328 then (bif Nat.ble ((k + 1) * 8) 140737488355328 then (bif Nat.ble (0 + (k * 1)) (row).length then (bif r2.all scalV && true then (some (.normal, stR nm n (IntKind.wrap .i64 (i + 1)) (k + 1) r2)) else none) else none) else none) else none) else none) else none) else none) else (bif row.all scalV && true then (some (.exit 0, exR nm n k row)) else none)) := by kernel_rfl
def row (l : List W3) (j : Nat) : List Int := (l.take j).map (·.1)
theorem row_succ (l : List W3) {j : Nat} (h : j < l.length) : row l (j + 1) = row l j ++ [l[j].1] := by
  unfold row
  rw [← List.take_append_getElem h, List.map_append]; rfl
theorem row_len (l : List W3) {j : Nat} (h : j ≤ l.length) : (row l j).length = j := by
  unfold row
  rw [List.length_map, List.length_take]; omega
theorem isV0 (l : List W3) {j : Nat} (h : j < l.length) : isV (vals l) (j * 3) (.i .i64) = true := by
  have := vals_at 0 (by omega) l h
  unfold isV
  rw [show j * 3 = j * 3 + 0 from rfl, this]; rfl
def st (nm : ByteArray) (n : Nat) (l : List W3) (j : Nat) : KX := bif Nat.beq j 0 then stN nm n j else stR nm n j j (ints .i64 (row l j))
def fin (nm : ByteArray) (n : Nat) (l : List W3) : KX := bif Nat.beq n 0 then exN nm n else exR nm n n (ints .i64 (l.map (·.1)))
def D : KD := ⟨69, 4, 100, [0, 1, 4, 5, 6], [1], fun _ => [], fun x ro => match x.vs, x.cars, ro with
  | [(0, .string nm), (1, .slice (some ⟨1, 0, none⟩) n 3), (4, .bool false), (5, .slice none 0 0), (6, .int .i64 0)], [], [(1, cs)] =>
    .need (rowW n (Int.ofNat n) cs) (.br (Nat.beq n 0) (.out (.exit 0, exN nm n)) (.out (.exit 0, exR nm n n (ints .i64 ((valsOf cs).map (·.1))))))
  | _, _, _ => .no⟩
def lp : LpK := ⟨4, 3, 0, D⟩
theorem lp_fine : LpFine Tryz.prog La 4 lp := by
  refine ⟨by kernel_rfl, fun c base I hP hn hG hI hIL x ro ex y e => ?_⟩
  obtain ⟨vs, cars⟩ := x
  simp only [lp, D] at e ⊢
  split at e
  · rename_i nm n cs
    obtain ⟨g1, g2⟩ := GT.need_eval e
    obtain ⟨_, hn2, h4, h5⟩ := rowW_ok g1
    generalize valsOf cs = l at h4 h5 g2
    subst h4 h5
    have key := scan_from (Step := @StepK (etaB base) c base I (loopAt Tryz.prog 4 0) 69 4 100 [(1, vals l)]) (step := fun (_ : Unit) (_ : W3) => .inl ()) (fin := fun _ => (.exit 0, fin nm l.length l)) (st := fun _ j => st nm l.length l j) (l := l) (fun s => by simp) (fun s a r h => by cases h) (fun _ j hj => by
        have h1 : decide ((j : Int) < Int.ofNat l.length) = true := decide_eq_true (by show (j : Int) < (l.length : Int); omega)
        have h2 : decide ((0 : Int) ≤ j) = true := decide_eq_true (by omega)
        have h3 : Nat.blt ((j : Int)).toNat l.length = true := by rw [Nat.blt_eq]; simpa using hj
        have h4 : (0 + ((j : Int)).toNat * 3) = j * 3 := by simp
        have h5 : IntKind.wrap .i64 ((j : Int) + 1) = ((j + 1 : Nat) : Int) := by rw [wrap_in (by omega) (by omega)]; omega
        show @StepK (etaB base) c base I (loopAt Tryz.prog 4 0) 69 4 100 [(1, vals l)] (st nm l.length l j) .normal (st nm l.length l (j + 1))
        cases j with
        | zero =>
          have hr := roundN nm l.length ((0 : Nat) : Int) (vals l)
          simp only [h1, h2, h3, h4, h5, isV0 l hj, rdI_vals l hj, cond_true] at hr
          have e1 : st nm l.length l 0 = stN nm l.length ((0 : Nat) : Int) := rfl
          have e2 : st nm l.length l (0 + 1) = stR nm l.length ((0 + 1 : Nat) : Int) 1 [.int .i64 l[0].1] := by
            show stR nm l.length ((0 + 1 : Nat) : Int) (0 + 1) (ints .i64 (row l (0 + 1))) = _
            rw [row_succ l hj]; rfl
          rw [e1, e2]
          exact stepT prog_mix prog_names (by simp) (by simp) hP hn hG hI hIL hr
        | succ j =>
          have hk := row_len l (Nat.le_of_lt hj)
          have hr := roundR nm l.length ((j + 1 : Nat) : Int) (j + 1) (ints .i64 (row l (j + 1))) (vals l)
          have q1 : ((ints .i64 (row l (j + 1))).drop 0).take ((j + 1) * 1) ++ [.int .i64 (l[j + 1]).1] = ints .i64 (row l (j + 1 + 1)) := by
            rw [List.drop_zero, Nat.mul_one, List.take_of_length_le (by rw [ints_len, hk]; exact Nat.le_refl _), row_succ l hj]
            unfold ints
            rw [List.map_append]; rfl
          have q2 : Nat.ble (j + 1 + 1) 140737488355328 = true := by rw [Nat.ble_eq]; omega
          have q3 : Nat.ble ((j + 1 + 1) * 8) 140737488355328 = true := by rw [Nat.ble_eq]; omega
          have q4 : Nat.ble (0 + (j + 1) * 1) (ints .i64 (row l (j + 1))).length = true := by rw [Nat.ble_eq, ints_len, hk]; omega
          simp only [h1, h2, h3, h4, h5, isV0 l hj, rdI_vals l hj, q1, q2, q3, q4, ints_scal, Bool.and_true, cond_true] at hr
          have e1 : st nm l.length l (j + 1) = stR nm l.length ((j + 1 : Nat) : Int) (j + 1) (ints .i64 (row l (j + 1))) := rfl
          have e2 : st nm l.length l (j + 1 + 1) = stR nm l.length ((j + 1 + 1 : Nat) : Int) (j + 1 + 1) (ints .i64 (row l (j + 1 + 1))) := rfl
          rw [e1, e2]
          exact stepT prog_mix prog_names (by simp) (by simp) hP hn hG hI hIL hr) (fun _ => by
        have h1 : decide ((l.length : Int) < Int.ofNat l.length) = false := decide_eq_false (by show ¬ (l.length : Int) < (l.length : Int); omega)
        show @StepK (etaB base) c base I (loopAt Tryz.prog 4 0) 69 4 100 [(1, vals l)] (st nm l.length l l.length) (.exit 0) (fin nm l.length l)
        cases hl : l.length with
        | zero =>
          have hr := roundN nm l.length (l.length : Int) (vals l)
          simp only [h1, cond_false] at hr
          rw [hl] at hr
          exact stepT prog_mix prog_names (by simp) (by simp) hP hn hG hI hIL hr
        | succ j =>
          have hr := roundR nm l.length (l.length : Int) l.length (ints .i64 (row l l.length)) (vals l)
          simp only [h1, cond_false, ints_scal, Bool.and_true, cond_true] at hr
          have e3 : row l l.length = l.map (·.1) := by unfold row; rw [List.take_length]
          rw [hl] at hr e3
          have e1 : st nm (j + 1) l (j + 1) = stR nm (j + 1) ((j + 1 : Nat) : Int) (j + 1) (ints .i64 (row l (j + 1))) := rfl
          have e2 : fin nm (j + 1) l = exR nm (j + 1) (j + 1) (ints .i64 (l.map (·.1))) := rfl
          rw [e1, e2, ← e3]
          exact stepT prog_mix prog_names (by simp) (by simp) hP hn hG hI hIL hr) l.length 0 () (by omega)
    rw [List.drop_zero, scanF_fold] at key
    cases hb : Nat.beq l.length 0 with
    | true => rw [GT.eval, hb] at g2; cases g2; unfold fin at key; rw [hb] at key; exact key
    | false => rw [GT.eval, hb] at g2; cases g2; unfold fin at key; rw [hb] at key; exact key
  · cases e
end A4L0
end Go.Proofs.YtaiokpmmjbiajaaGreatDoorDx
end
section
namespace Go.Proofs.YtaiokpmmjbiajaaGreatDoorDx
set_option linter.unusedSimpArgs false
set_option linter.unusedVariables false
open Go Go.Proofs
set_option linter.unusedVariables false
namespace A4
def T (s0 : ByteArray) (m1 : Nat) (c1 : List Value) : GT Value := (.br ((true && ([((1 : Nat), c1)]).all fun p => p.snd.all scalV)) (.br ((decide ((Int.ofNat m1) = (Int.ofNat m1)) && ((isVals c1) && (Nat.beq (c1).length (m1 * 3) && Nat.blt m1 4398046511104)))) (.br (Nat.beq m1 0) (.br (([(true, AA.v (.string s0)), ((fun (cs : List Value) => ((0 + m1 * 3).ble cs.length && (List.take (m1 * 3) (List.drop 0 cs)).all scalV, AA.sl m1 3 (List.take (m1 * 3) (List.drop 0 cs)))) c1)]).all fun x => x.fst) (.br (((decide ((Int.ofNat m1) = (Int.ofNat m1)) && ((isVals (List.take (m1 * 3) (List.drop 0 c1))) && (Nat.beq (((((c1).drop 0)).take (m1 * 3))).length (m1 * 3) && Nat.blt m1 4398046511104))) && ((valsOf (List.take (m1 * 3) (List.drop 0 c1)))).all fun v => inR v.snd.fst)) (.br (((Fit.CallV s0 (valsOf (List.take (m1 * 3) (List.drop 0 c1)))).2 == 100)) (.out (.bool (true))) (.out (.bool (false)))) .no) .no) (.br (([(true, AA.v (.string s0)), ((fun (cs : List Value) => ((0 + m1 * 1).ble cs.length && (List.take (m1 * 1) (List.drop 0 cs)).all scalV, AA.sl m1 1 (List.take (m1 * 1) (List.drop 0 cs)))) (ints IntKind.i64 (List.map (fun (x : W3) => x.fst) (valsOf c1))))]).all fun x => x.fst) (.br ((rowI m1 (Int.ofNat m1) (((((((((valsOf c1)).map fun (x : W3) => x.fst)).map (Value.int IntKind.i64))).drop 0)).take (m1 * 1)))) (.br (([(true, AA.v (.string s0)), ((fun (cs : List Value) => ((0 + m1 * 3).ble cs.length && (List.take (m1 * 3) (List.drop 0 cs)).all scalV, AA.sl m1 3 (List.take (m1 * 3) (List.drop 0 cs)))) c1)]).all fun x => x.fst) (.br (((decide ((Int.ofNat m1) = (Int.ofNat m1)) && ((isVals (List.take (m1 * 3) (List.drop 0 c1))) && (Nat.beq (((((c1).drop 0)).take (m1 * 3))).length (m1 * 3) && Nat.blt m1 4398046511104))) && ((valsOf (List.take (m1 * 3) (List.drop 0 c1)))).all fun v => inR v.snd.fst)) (.br (((Fit.kindP s0 (((((((((((valsOf c1)).map fun (x : W3) => x.fst)).map (Value.int IntKind.i64))).drop 0)).take (m1 * 1))).map valI)).2 != 0)) (.br (((Fit.CallV s0 (valsOf (List.take (m1 * 3) (List.drop 0 c1)))).2 == (Fit.kindP s0 (((((((((((valsOf c1)).map fun (x : W3) => x.fst)).map (Value.int IntKind.i64))).drop 0)).take (m1 * 1))).map valI)).2)) (.out (.bool (true))) (.out (.bool (false)))) (.br (((Fit.CallV s0 (valsOf (List.take (m1 * 3) (List.drop 0 c1)))).2 != 0)) (.br ((((Fit.CallV s0 (valsOf (List.take (m1 * 3) (List.drop 0 c1)))).1.1 == 0) && (((Fit.CallV s0 (valsOf (List.take (m1 * 3) (List.drop 0 c1)))).1.2.1 == 0) && (eqU (Fit.CallV s0 (valsOf (List.take (m1 * 3) (List.drop 0 c1)))).1.2.2.data.toList [] && true)))) (.out (.bool (true))) (.out (.bool (false)))) (.br ((A33.okv (Fit.CallV s0 (valsOf (List.take (m1 * 3) (List.drop 0 c1)))).1.1 (Fit.CallV s0 (valsOf (List.take (m1 * 3) (List.drop 0 c1)))).1.2.1 (Fit.CallV s0 (valsOf (List.take (m1 * 3) (List.drop 0 c1)))).1.2.2)) (.br (((Fit.CallV s0 (valsOf (List.take (m1 * 3) (List.drop 0 c1)))).1.1 == 0)) (.out (.bool (true))) (.br (((Fit.CallV s0 (valsOf (List.take (m1 * 3) (List.drop 0 c1)))).1.1 == (Fit.kindP s0 (((((((((((valsOf c1)).map fun (x : W3) => x.fst)).map (Value.int IntKind.i64))).drop 0)).take (m1 * 1))).map valI)).1)) (.out (.bool (true))) (.out (.bool (false))))) (.out (.bool (false)))))) .no) .no) .no) .no)) .no) .no)
set_option maxRecDepth 1000000 in
theorem run (s0 : ByteArray) (m1 : Nat) (c1 : List Value) : callK (cfgK Tryz.prog 4 (gpT [(10, A10n.spec), (13, A13.spec), (14, A14.specP), (15, mayS)]) (ltT 4 [A4L0.lp])) (gpT [(10, A10n.spec), (13, A13.spec), (14, A14.specP), (15, mayS)]) (ltT 4 [A4L0.lp]) 12 (.fn 4) (absVs 0 [.v (.string s0), .sl m1 3 c1]) ⟨absH 0 [.v (.string s0), .sl m1 3 c1], 4⟩ (fun o => some o.1) = (T s0 m1 c1).eval := by kernel_rfl
set_option maxRecDepth 1000000 in
theorem flat (s0 : ByteArray) (m1 : Nat) (c1 : List Value) : (T s0 m1 c1).allB (pfd 3) = true := by kernel_rfl
open Fit
set_option maxHeartbeats 0 in
theorem T_ok (s : ByteArray) (l : List W3) (hl : l.length < 4398046511104) (hin : l.all (fun v => inR v.2.1) = true) : (T s l.length (vals l)).eval = some (.bool true) := by
  have g : Nat.blt l.length 4398046511104 = true := by rw [Nat.blt_eq]; exact hl
  have gs := vals_scal l
  have g2 := rowI_of (l := l.map (·.1)) (by rw [List.length_map]; omega)
  rw [List.length_map] at g2
  have a3 : ((ints .i64 (l.map (·.1))).drop 0).take (l.length * 1) = ints .i64 (l.map (·.1)) := by rw [List.drop_zero, Nat.mul_one]; exact List.take_of_length_le (by rw [ints_len, List.length_map]; exact Nat.le_refl _)
  have a4 : ((vals l).drop 0).take (l.length * 3) = vals l := by rw [List.drop_zero]; exact List.take_of_length_le (by rw [vals_len]; exact Nat.le_refl _)
  have a5 : (0 + l.length * 1).ble l.length = true := by rw [Nat.ble_eq]; omega
  have a6 : (0 + l.length * 3).ble (l.length * 3) = true := by rw [Nat.ble_eq]; omega
  have e0 : ∀ f : List Int, f.map (Value.int .i64) = ints .i64 f := fun _ => rfl
  unfold T
  simp only [e0, a3, a4, a5, a6, g, gs, g2, isVals_vals, vals_len, ints_len, List.length_map, Nat.beq_refl, decide_true, Bool.and_self, vals_of, ints_vals, ints_scal, hin, GT.eval, Bool.true_and, Bool.and_true, cond_true, List.all_cons, List.all_nil]
  have hfit := fit s l
  have hbad : ∀ e, (kindP s (l.map (·.1))).2 = e → e ≠ 0 → CallV s l = (v0, e) := fun e h1 h2 => by
    unfold CallV
    rw [h1, bne_iff_ne.2 h2]; rfl
  cases hb0 : Nat.beq l.length 0
  rotate_left
  · have : l = [] := List.length_eq_zero_iff.1 (Nat.eq_of_beq_eq_true hb0)
    subst this
    rw [hbad 100 (by rw [List.map_nil, A10.kind_nil]) (by decide)]; rfl
  simp only [cond_false]
  by_cases hk : (kindP s (l.map (·.1))).2 = 0
  · have hf := hfit hk
    unfold Fits at hf
    rw [hk]
    simp only [bne_self_eq_false, cond_false]
    generalize CallV s l = p at hf
    generalize (kindP s (l.map (·.1))).1 = kind at hf
    obtain ⟨⟨k, n, t⟩, e⟩ := p
    simp only at hf ⊢
    split at hf
    · rename_i he
      subst he
      simp only [bne_self_eq_false, cond_false]
      rw [hf.1]
      simp only [cond_true]
      rcases hf.2 with rfl | rfl
      · rfl
      · rw [beq_self_eq_true]; cases k == 0 <;> rfl
    · rename_i he
      cases hf
      rw [bne_iff_ne.2 he]
      rfl
  · rw [hbad _ rfl hk, bne_iff_ne.2 hk]
    simp only [cond_true, beq_self_eq_true]
theorem spec_sl {s : ByteArray} {l : List W3} (hl : l.length < 4398046511104) (hin : l.all (fun v => inR v.2.1) = true) : CallsA Tryz.prog La 4 [.v (.string s), .sl l.length 3 (vals l)] (.bool true) :=
  callT La_below prog_mix prog_names (by simpa using ⟨A10n.spec_ok, A13.spec_ok, A14.specP_ok, ok15⟩) (by simpa using A4L0.lp_fine) (by decide) (by simp) rfl ((run _ _ _).trans (T_ok s l hl hin))
end A4
end Go.Proofs.YtaiokpmmjbiajaaGreatDoorDx
end
section
namespace Go.Proofs.YtaiokpmmjbiajaaGreatDoorDx
set_option linter.unusedSimpArgs false
set_option linter.unusedVariables false
open Go Go.Proofs
set_option linter.unusedVariables false
namespace A4n
def T (s0 : ByteArray) : GT Value := (.out (.bool (true)))
set_option maxRecDepth 1000000 in
theorem run (s0 : ByteArray) : callK (cfgK Tryz.prog 4 (gpT [(10, A10n.spec), (13, A13.spec), (14, A14.specP), (15, mayS)]) (ltT 4 [])) (gpT [(10, A10n.spec), (13, A13.spec), (14, A14.specP), (15, mayS)]) (ltT 4 []) 12 (.fn 4) (absVs 0 [.v (.string s0), .nil]) ⟨absH 0 [.v (.string s0), .nil], 4⟩ (fun o => some o.1) = (T s0).eval := by kernel_rfl
set_option maxRecDepth 1000000 in
theorem flat (s0 : ByteArray) : (T s0).allB (pfd 3) = true := by kernel_rfl
theorem spec_nil (s : ByteArray) : CallsA Tryz.prog La 4 [.v (.string s), .nil] (.bool true) :=
  callT La_below prog_mix prog_names (by simpa using ⟨A10n.spec_ok, A13.spec_ok, A14.specP_ok, ok15⟩) (by simp) (by decide) (by simp) rfl (run s)
end A4n
end Go.Proofs.YtaiokpmmjbiajaaGreatDoorDx
end
