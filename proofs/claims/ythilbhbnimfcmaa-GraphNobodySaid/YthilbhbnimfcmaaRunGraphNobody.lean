/- marquee/marqueelaw24.GraphNobody: the run. For every input that the law's parameters' kinds let in the call answers true and leaves its arguments as they were. Conditions: those of the given row. -/
import Derived.Test.YthilbhbnimfcmaaRows
import Derived.Test.YthilbhbnimfcmaaDxE1
import Derived.WalkKit
import Derived.ProofKit
import Derived.OpenShut
import Derived.ShutString
import Derived.ChangeOld
import Derived.Below
import Derived.SizedLaws
import Derived.Deep.DeepHandedRow
import Derived.Lib.LaidTab
import Derived.Lib.SmallJoins
import Derived.JoinedOf
import Derived.JoinedAt
import Derived.RowKit3
import Derived.Lib.LaidIn
import Derived.Lib.LaidU8T
import Derived.Shelf.Vars
import Derived.WideShapes
namespace Go.Proofs.Ythilbhbnimfcmaa.graphNobody
open Go.ChangeShapes Go.WideShapes Go.ChangeAt Go.RowKit Go.Joins Go.Proofs.YthilbhbnimfcmaaDx
set_option linter.unusedVariables false
theorem own : ownKnob Try.prog.godebug = none := by kernel_rfl
theorem laidOut : laidOutB Try.prog = true := by kernel_rfl
noncomputable def cfg : Cfg := cfgOf Try.prog 0 0 (eqsOf Try.prog) (fun _ _ => none) (fun _ _ => none)
theorem cfg_ok : CfgOk cfg := cfgOf_ok _ _ _ _ _ _ fun t h => eqsOf_ok h
theorem known_ok {W : World} : PrimOk cfg W.heap.size (fun _ => True) := PrimOk.still fun f args v h => by cases h
theorem names : ∀ f fn, cfg.fns f = some fn → (fn.name == "runtime.NumGoroutine") = false := by
  have h : (Try.prog.funcs.toList.all fun fn => !(fn.name == "runtime.NumGoroutine")) = true := by kernel_rfl
  intro f fn hf
  have hm : fn ∈ Try.prog.funcs.toList := by
    have hf' : Try.prog.funcs[f]? = some fn := hf
    simpa using Array.mem_of_getElem? hf'
  simpa using List.all_eq_true.1 h fn hm
/-! The law, run with unknown scalars; what else comes in is looked at nowhere. -/
set_option maxRecDepth 1000000 in
theorem runs (a0_0 : Bool) (a0_1 : Int) (a0_3 : ByteArray) : saysD true (callD cfg 100 (.fn 4) [.agg #[.bool a0_0, .int .i64 a0_1, .complex .f64 0 0, .string a0_3]] ⟨.leaf, 0⟩) = true := by kernel_rfl
/-! The arguments. -/
theorem flat {P : Program} {w : World} {r : Reach} {base : Nat} {t : TypeId} {v : Value} {d : TypeDesc} (hd : P.underlying t = some d) (h1 : ∀ fs, d ≠ .struct fs) (h2 : ∀ n e, d ≠ .array n e) (h : Cell.okWide P w r base t v) : Value.okWide P w r base t v := by
  unfold Value.okWide
  rw [hd]
  cases d <;> first | exact h | exact absurd rfl (h1 _) | exact absurd rfl (h2 _ _)
theorem part0 {P : Program} {W : World} {base : Nat} {v : Value} {t t0 t1 t2 t3 e2 : TypeId} (hst : (∃ fs, P.underlying t = some (.struct fs)) ∨ ∃ m e, P.underlying t = some (.array m e)) (hn : P.cellsOf t = 4) (hct : P.cellTypes P.depth t = some [t0, t1, t2, t3])
    (h0 : P.underlying t0 = some (.bool)) (h1 : P.underlying t1 = some (.int .i64)) (h2 : P.underlying t2 = some (.slice e2)) (h3 : P.underlying t3 = some (.string)) (h : Value.okWide P W .any base t v) : ∃ a0_0 a0_1 a0_2_0 a0_2_1 a0_2_2 a0_3, v = .agg #[.bool a0_0, .int .i64 a0_1, .slice a0_2_0 a0_2_1 a0_2_2, .string a0_3] := by
  have key : ∃ cs, v = .agg cs ∧ cs.size = P.cellsOf t ∧ Row.okWide P W .any base t cs := by
    unfold Value.okWide at h
    rcases hst with ⟨fs, e⟩ | ⟨m, el, e⟩
    · rw [e] at h; exact h
    · rw [e] at h; exact h
  obtain ⟨cs, rfl, hsz, ts, hts, _, hc⟩ := key
  rw [hn] at hsz
  rw [hct] at hts
  cases hts
  obtain ⟨l⟩ := cs
  obtain ⟨x0, x1, x2, x3, rfl⟩ : ∃ x0 x1 x2 x3, l = [x0, x1, x2, x3] := by
    match l, hsz with
    | [x0, x1, x2, x3], _ => exact ⟨x0, x1, x2, x3, rfl⟩
  obtain ⟨u0, z0, b0⟩ := hc 0 x0 rfl
  cases z0
  obtain ⟨u1, z1, b1⟩ := hc 1 x1 rfl
  cases z1
  obtain ⟨u2, z2, b2⟩ := hc 2 x2 rfl
  cases z2
  obtain ⟨u3, z3, b3⟩ := hc 3 x3 rfl
  cases z3
  obtain ⟨a0_0, rfl⟩ := okWide_bool h0 (flat h0 (fun _ e => by cases e) (fun _ _ e => by cases e) b0)
  obtain ⟨a0_1, rfl⟩ := okWide_int h1 (flat h1 (fun _ e => by cases e) (fun _ _ e => by cases e) b1)
  obtain ⟨a0_2_0, a0_2_1, a0_2_2, rfl⟩ := okWide_slice h2 (flat h2 (fun _ e => by cases e) (fun _ _ e => by cases e) b2)
  obtain ⟨a0_3, rfl⟩ := okWide_string h3 (flat h3 (fun _ e => by cases e) (fun _ _ e => by cases e) b3)
  exact ⟨a0_0, a0_1, a0_2_0, a0_2_1, a0_2_2, a0_3, rfl⟩
theorem cells0 : Try.prog.cellTypes Try.prog.depth 31 = some [4, 3, 29, 9] := by kernel_rfl
theorem size0 : Try.prog.cellsOf 31 = 4 := by kernel_rfl
set_option maxRecDepth 100000 in
theorem arg0 {W : World} {base : Nat} {v : Value} (h : Value.okWide Try.prog W .any base 31 v) : ∃ a0_0 a0_1 a0_2_0 a0_2_1 a0_2_2 a0_3, v = .agg #[.bool a0_0, .int .i64 a0_1, .slice a0_2_0 a0_2_1 a0_2_2, .string a0_3] :=
  part0 (P := Try.prog) (t := 31) (t0 := 4) (t1 := 3) (t2 := 29) (t3 := 9) (.inl ⟨_, Try.underlying31⟩) size0 cells0 Try.underlying4 Try.underlying3 Try.underlying29 Try.underlying9 h
theorem args_VR {W : World} (a0_0 : Bool) (a0_1 : Int) (a0_2_0 : Option Addr) (a0_2_1 : Nat) (a0_2_2 : Nat) (a0_3 : ByteArray) : VRL (fun _ => none) W [.agg #[.bool a0_0, .int .i64 a0_1, .complex .f64 0 0, .string a0_3]] [.agg #[.bool a0_0, .int .i64 a0_1, .slice a0_2_0 a0_2_1 a0_2_2, .string a0_3]] := by
  have q0 : VRL (fun _ => none) W [.bool a0_0, .int .i64 a0_1, .complex .f64 0 0, .string a0_3] [.bool a0_0, .int .i64 a0_1, .slice a0_2_0 a0_2_1 a0_2_2, .string a0_3] := (.cons (.bool _) (.cons (.int _ _) (.cons (.tok _ _ _ _ rfl) (.cons (.string _) .nil))))
  exact (.cons (.agg _ _ q0.len q0.at_) .nil)
set_option maxRecDepth 100000 in
set_option maxHeartbeats 4000000 in
theorem contract (H : Type) (enc : TypeId × Value → H) (W : World) (base : Nat) (args : Array Value) (ds gs : List (DataW H)) (before : List MemPlace)
    (hval : ∀ (j : Nat) t v, Try.f4.params[j]? = some t → args[j]? = some v → Value.okWide Try.prog W .any base t v)
    (hW : DataW.Whole enc Try.prog Try.f4.params.toList Rows.graphNobodySpec.vars false W args.toList ds gs before) :
    Calls Try.prog 4 args W fun e W' => ∃ v, e = .returned v ∧ Rows.graphNobodySpec.post enc Try.prog Try.f4 false true false false W args v W' := by
  have hW' := hW
  obtain ⟨p, q, hA0, hV, rfl, hfz, hnd⟩ := hW
  have hA : DataW.TrodAll enc Try.prog W 0 (fun _ => true) true Try.f4.params.toList args.toList ds p := hA0
  rw [Try.params4] at hA hval
  obtain ⟨v0, vs0, d0, ds0, p0, q0, hargs, rfl, rfl, h0, r0⟩ := trodAll_cons hA
  obtain ⟨rfl, rfl, rfl⟩ := trodAll_nil r0
  obtain rfl : args = #[v0] := by cases args; simp_all
  obtain ⟨rfl, rfl⟩ := trodVars_none hV
  have k0 := h0
  have lt0 : ∀ x ∈ p0, x.block < W.heap.size := by obtain ⟨m, hm⟩ := k0; exact DataW.trod_lt m _ _ _ hm
  obtain ⟨a0_0, a0_1, a0_2_0, a0_2_1, a0_2_2, a0_3, rfl⟩ := arg0 (hval 0 31 v0 rfl rfl)
  clear hA0 hA
  refine (top (c := cfg) rfl cfg_ok (by kernel_rfl) names known_ok (args_VR a0_0 a0_1 a0_2_0 a0_2_1 a0_2_2 a0_3) (runs a0_0 a0_1 a0_3)).mono fun e W' ⟨he, bel⟩ => ?_
  subst he
  exact ⟨_, rfl, _, _, _, [], _, [], hW', trodAll_mk1 (shut_bool Try.underlying4 _), (trodAll_cons_mk (Below.trod laidOut (by kernel_rfl) (of_decide_eq_true (by kernel_rfl)) k0 bel lt0) trodAll_mk0), rfl, bel.frame _, fun h => by cases h⟩
end Go.Proofs.Ythilbhbnimfcmaa.graphNobody
