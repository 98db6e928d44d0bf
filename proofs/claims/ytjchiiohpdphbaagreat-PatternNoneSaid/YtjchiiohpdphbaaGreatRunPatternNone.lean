/- marquee/marqueelaw21.PatternNone: the row. For every input that the law's parameter's kind lets in the call answers true and leaves its argument as it was. Conditions: those of the given row. -/
import Derived.Test.YtjchiiohpdphbaaGreatRows
import Derived.Test.YtjchiiohpdphbaaGreatDxE1
import Derived.Shelf.Small.Strs
import Derived.WalkKit
import Derived.ProofKit
import Derived.OpenShut
import Derived.ShutString
import Derived.ChangeOld
import Derived.Below
import Derived.SizedLaws
import Derived.Deep.DeepHandedRow
import Derived.Lib.LaidTab
import Derived.Lib.SmallJoins
import Derived.JoinedOf
import Derived.JoinedAt
import Derived.RowKit3
import Derived.Lib.LaidIn
import Derived.WideShapes
namespace Go.Proofs.YtjchiiohpdphbaaGreat.patternNone
open Go.ChangeShapes Go.WideShapes Go.ChangeAt Go.RowKit Go.Joins Go.Proofs.YtjchiiohpdphbaaGreatDx
set_option linter.unusedVariables false
theorem own : ownKnob Tryz.prog.godebug = none := by kernel_rfl
theorem laidOut : laidOutB Tryz.prog = true := by kernel_rfl

/-! What the library's function is that the run meets. -/
def ren : Go.Shelf.Ren := ⟨fun | 106 => 35 | 213 => 40 | 265 => 52 | n => n, fun | 9 => 9 | 3 => 3 | n => n, fun | n => n⟩
theorem lays : Go.Proofs.Lays.n106 Tryz.prog ren := {
  mixed := by kernel_rfl
  f106 := Tryz.func35.trans (congrArg some (by kernel_rfl))
  f213 := Tryz.func40.trans (congrArg some (by kernel_rfl))
  f265 := Tryz.func52.trans (congrArg some (by kernel_rfl))
  t3 := Tryz.underlying3
  a3 := Tryz.isAgg3
  z3 := Tryz.sizeOf3
  v3 := Tryz.zeroValue3
  t9 := Tryz.underlying9
  a9 := Tryz.isAgg9
  z9 := Tryz.sizeOf9
  v9 := Tryz.zeroValue9 }
theorem compare (a b : ByteArray) (w : World) :
    Calls Tryz.prog 35 #[.string a, .string b] w fun e w' => e = .returned (.int .i64 (Lib.compareBytes a.data.toList b.data.toList)) ∧ w' = w := Go.Proofs.Any.strings_Compare lays a b w
def known (f : FuncId) (l : List Value) : Option Value :=
  match l with
  | [.string a, .string b] => bif Nat.beq f 35 then some (.int .i64 (Lib.compareBytes a.data.toList b.data.toList)) else none
  | _ => none
noncomputable def cfg : Cfg := cfgOf Tryz.prog 0 0 (fun _ => false) known
theorem cfg_ok : CfgOk cfg := cfgOf_ok _ _ _ _ _ fun t h => by cases h
theorem known_ok {W : World} : CallOk cfg W.heap.size (fun _ => True) (PrimD cfg) := by
  refine CallOk.still ?_
  intro f args v h ρ w args' hv _
  have h' : known f args = some v := h
  unfold known at h'
  split at h'
  · rename_i a b
    cases e : Nat.beq f 35 with
    | false => rw [e] at h'; cases h'
    | true =>
      rw [e] at h'
      obtain rfl : f = 35 := Nat.eq_of_beq_eq_true e
      cases h'
      obtain ⟨x, l1, rfl, hx, hl⟩ := hv.cases_cons
      obtain ⟨y, l2, rfl, hy, hl2⟩ := hl.cases_cons
      obtain rfl := hl2.cases_nil
      cases hx
      cases hy
      refine ⟨Tryz.f35, Tryz.func35, by kernel_rfl, by kernel_rfl, (compare a b w).mono ?_⟩
      rintro e w' ⟨rfl, rfl⟩
      exact ⟨_, rfl, .int _ _, rfl⟩
  · cases h'
theorem names : ∀ f fn, cfg.fns f = some fn → (fn.name == "runtime.NumGoroutine") = false := by
  have h : (Tryz.prog.funcs.toList.all fun fn => !(fn.name == "runtime.NumGoroutine")) = true := by kernel_rfl
  intro f fn hf
  have hm : fn ∈ Tryz.prog.funcs.toList := by
    have hf' : Tryz.prog.funcs[f]? = some fn := hf
    simpa using Array.mem_of_getElem? hf'
  simpa using List.all_eq_true.1 h fn hm

/-! The law, run with an unknown time, text and row. -/
set_option maxRecDepth 1000000 in
theorem runs (b : Bool) (n : Int) (s : ByteArray) : saysD true (callD cfg 100 6 [.agg #[.bool b, .int .i64 n, .string s, .complex .f64 0 0]] ⟨.leaf, 0⟩) = true := by kernel_rfl

/-! The argument. -/
theorem cells42 : Tryz.prog.cellTypes Tryz.prog.depth 42 = some [4, 3, 9, 38] := by kernel_rfl
theorem size42 : Tryz.prog.cellsOf 42 = 4 := by kernel_rfl
theorem flat {P : Program} {w : World} {r : Reach} {base : Nat} {t : TypeId} {v : Value} {d : TypeDesc} (hd : P.underlying t = some d) (h1 : ∀ fs, d ≠ .struct fs) (h2 : ∀ n e, d ≠ .array n e) (h : Cell.okWide P w r base t v) : Value.okWide P w r base t v := by
  unfold Value.okWide
  rw [hd]
  cases d <;> first | exact h | exact absurd rfl (h1 _) | exact absurd rfl (h2 _ _)
theorem four {P : Program} {W : World} {base : Nat} {v : Value} {t t0 t1 t2 t3 : TypeId} {fs : Array Field} (hfs : P.underlying t = some (.struct fs)) (hn : P.cellsOf t = 4) (hct : P.cellTypes P.depth t = some [t0, t1, t2, t3]) (h : Value.okWide P W .any base t v) :
    ∃ x0 x1 x2 x3, v = .agg #[x0, x1, x2, x3] ∧ Cell.okWide P W .any base t0 x0 ∧ Cell.okWide P W .any base t1 x1 ∧ Cell.okWide P W .any base t2 x2 ∧ Cell.okWide P W .any base t3 x3 := by
  unfold Value.okWide at h
  rw [hfs] at h
  obtain ⟨cs, rfl, hsz, ts, hts, _, hc⟩ := h
  rw [hn] at hsz
  rw [hct] at hts
  cases hts
  obtain ⟨l⟩ := cs
  obtain ⟨x0, x1, x2, x3, rfl⟩ : ∃ x0 x1 x2 x3, l = [x0, x1, x2, x3] := by
    match l, hsz with
    | [x0, x1, x2, x3], _ => exact ⟨x0, x1, x2, x3, rfl⟩
  obtain ⟨u0, a0, b0⟩ := hc 0 x0 rfl
  obtain ⟨u1, a1, b1⟩ := hc 1 x1 rfl
  obtain ⟨u2, a2, b2⟩ := hc 2 x2 rfl
  obtain ⟨u3, a3, b3⟩ := hc 3 x3 rfl
  cases a0
  cases a1
  cases a2
  cases a3
  exact ⟨x0, x1, x2, x3, rfl, b0, b1, b2, b3⟩
theorem parts {P : Program} {W : World} {base : Nat} {v : Value} {t t0 t1 t2 t3 e : TypeId} {fs : Array Field} (hfs : P.underlying t = some (.struct fs)) (hn : P.cellsOf t = 4) (hct : P.cellTypes P.depth t = some [t0, t1, t2, t3])
    (h0 : P.underlying t0 = some .bool) (h1 : P.underlying t1 = some (.int .i64)) (h2 : P.underlying t2 = some .string) (h3 : P.underlying t3 = some (.slice e)) (h : Value.okWide P W .any base t v) : ∃ b n s a l c, v = .agg #[.bool b, .int .i64 n, .string s, .slice a l c] := by
  obtain ⟨x0, x1, x2, x3, rfl, b0, b1, b2, b3⟩ := four hfs hn hct h
  obtain ⟨b, rfl⟩ := okWide_bool h0 (flat h0 (fun _ e => by cases e) (fun _ _ e => by cases e) b0)
  obtain ⟨n, rfl⟩ := okWide_int h1 (flat h1 (fun _ e => by cases e) (fun _ _ e => by cases e) b1)
  obtain ⟨s, rfl⟩ := okWide_string h2 (flat h2 (fun _ e => by cases e) (fun _ _ e => by cases e) b2)
  obtain ⟨a, l, c, rfl⟩ := okWide_slice h3 (flat h3 (fun _ e => by cases e) (fun _ _ e => by cases e) b3)
  exact ⟨b, n, s, a, l, c, rfl⟩
set_option maxRecDepth 100000 in
theorem arg {W : World} {base : Nat} {v : Value} (h : Value.okWide Tryz.prog W .any base 42 v) : ∃ b n s a l c, v = .agg #[.bool b, .int .i64 n, .string s, .slice a l c] :=
  parts (P := Tryz.prog) (t := 42) (t0 := 4) (t1 := 3) (t2 := 9) (t3 := 38) Tryz.underlying42 size42 cells42 Tryz.underlying4 Tryz.underlying3 Tryz.underlying9 Tryz.underlying38 h
theorem arg_VR {W : World} (b : Bool) (n : Int) (s : ByteArray) (a : Option Addr) (l c : Nat) : VRL (fun _ => none) W [.agg #[.bool b, .int .i64 n, .string s, .complex .f64 0 0]] [.agg #[.bool b, .int .i64 n, .string s, .slice a l c]] := by
  have h : VRL (fun _ => none) W [.bool b, .int .i64 n, .string s, .complex .f64 0 0] [.bool b, .int .i64 n, .string s, .slice a l c] :=
    .cons (.bool b) (.cons (.int _ n) (.cons (.string s) (.cons (.tok _ _ _ _ rfl) .nil)))
  exact .cons (.agg _ _ h.len h.at_) .nil
set_option maxRecDepth 100000 in
set_option maxHeartbeats 4000000 in
theorem contract (H : Type) (enc : TypeId × Value → H) (W : World) (base : Nat) (args : Array Value) (ds gs : List (DataW H)) (before : List MemPlace)
    (hval : ∀ (j : Nat) t v, Tryz.f6.params[j]? = some t → args[j]? = some v → Value.okWide Tryz.prog W .any base t v)
    (hW : DataW.Whole enc Tryz.prog Tryz.f6.params.toList Rows.patternNoneSpec.vars false W args.toList ds gs before) :
    Calls Tryz.prog 6 args W fun e W' => ∃ v, e = .returned v ∧ Rows.patternNoneSpec.post enc Tryz.prog Tryz.f6 false true false false W args v W' := by
  have hW' := hW
  obtain ⟨p, q, hA0, hV, rfl, hfz, hnd⟩ := hW
  have hA : DataW.TrodAll enc Tryz.prog W 0 (fun _ => true) true Tryz.f6.params.toList args.toList ds p := hA0
  rw [Tryz.params6] at hA hval
  obtain ⟨v0, vs0, d0, ds0, p0, q0, hargs, rfl, rfl, h0, r0⟩ := trodAll_cons hA
  obtain ⟨rfl, rfl, rfl⟩ := trodAll_nil r0
  obtain rfl : args = #[v0] := by cases args; simp_all
  obtain ⟨rfl, rfl⟩ := trodVars_none hV
  have k0 := h0
  have lt0 : ∀ x ∈ p0, x.block < W.heap.size := by obtain ⟨m, hm⟩ := k0; exact DataW.trod_lt m _ _ _ hm
  obtain ⟨b, n, s, a, l, c, rfl⟩ := arg (hval 0 42 v0 rfl rfl)
  clear hA0 hA
  refine (top (c := cfg) rfl cfg_ok (by kernel_rfl) names known_ok (arg_VR b n s a l c) (runs b n s)).mono fun e W' ⟨he, bel⟩ => ?_
  subst he
  exact ⟨_, rfl, _, _, _, [], _, [], hW', trodAll_mk1 (shut_bool Tryz.underlying4 _), (trodAll_cons_mk (Below.trod laidOut (by kernel_rfl) (of_decide_eq_true (by kernel_rfl)) k0 bel lt0) trodAll_mk0), rfl, bel.frame _, fun h => by cases h⟩
end Go.Proofs.YtjchiiohpdphbaaGreat.patternNone
