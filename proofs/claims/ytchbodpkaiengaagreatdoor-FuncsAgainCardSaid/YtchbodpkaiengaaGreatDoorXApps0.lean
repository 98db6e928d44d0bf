/- A part of the proof of this claim. No condition beyond those that each theorem names. -/
import Derived.Test.YtchbodpkaiengaaGreatDoorXBase
import Derived.Test.YtchbodpkaiengaaGreatDoorXDxE3
namespace Go.Proofs.YtchbodpkaiengaaGreatDoor.Apps
open Go Go.Proofs Go.Proofs.YtchbodpkaiengaaGreatDoorDx Go.Proofs.YtchbodpkaiengaaGreatDoor
set_option linter.unusedVariables false
set_option linter.unusedSimpArgs false
def tk (i : Nat) : Value := .complex .f32 i 0
def i64 (n : Int) : Value := .int .i64 n
def e0 : Value := .string ⟨#[]⟩
theorem und_cfgS (P : Program) (G n0 : Nat) (e : TypeId → Bool) (p : FuncId → List Value → Hp → Option Value) (f : List Fact) (l : Nat → Nat → Option (List Nat)) (t : TypeId) : (cfgS P G n0 e p f l).und t = P.underlying t := rfl
theorem eqs_cfgS (P : Program) (G n0 : Nat) (e : TypeId → Bool) (p : FuncId → List Value → Hp → Option Value) (f : List Fact) (l : Nat → Nat → Option (List Nat)) (t : TypeId) : (cfgS P G n0 e p f l).eqs t = e t := rfl
theorem eqs34 : eqsOf Tryz.prog 34 = true := by kernel_rfl
theorem eqU_self : ∀ (l : List UInt8), eqU l l = true
  | [] => rfl
  | x :: l => by simp [eqU, eqU_self l]
theorem eqV {prim : FuncId → List Value → Hp → Option Value} {facts : List Fact} {live : Nat → Nat → Option (List Nat)} (a n a' n' : Int) (s s' : ByteArray) :
    eqD (cfgS Tryz.prog 0 0 (eqsOf Tryz.prog) prim facts live) 20 34 (.agg #[.int .i64 a, .int .i64 n, .string s]) (.agg #[.int .i64 a', .int .i64 n', .string s']) = some ((a == a') && ((n == n') && eqU s.data.toList s'.data.toList)) := by
  have h34 := (und_cfgS Tryz.prog 0 0 (eqsOf Tryz.prog) prim facts live 34).trans Tryz.underlying34
  have h3 := (und_cfgS Tryz.prog 0 0 (eqsOf Tryz.prog) prim facts live 3).trans Tryz.underlying3
  have h9 := (und_cfgS Tryz.prog 0 0 (eqsOf Tryz.prog) prim facts live 9).trans Tryz.underlying9
  have he := (eqs_cfgS Tryz.prog 0 0 (eqsOf Tryz.prog) prim facts live 34).trans eqs34
  generalize cfgS Tryz.prog 0 0 (eqsOf Tryz.prog) prim facts live = c at h34 h3 h9 he
  have i3 : isAggD c 3 = some false := by unfold isAggD; rw [h3]
  have i9 : isAggD c 9 = some false := by unfold isAggD; rw [h9]
  have d3 : ∀ (k : Nat) (x y : Int), eqD c (k + 1) 3 (.int .i64 x) (.int .i64 y) = some (x == y) := fun k x y => by
    unfold eqD; rw [h3]; rfl
  have d9 : ∀ (k : Nat) (x y : ByteArray), eqD c (k + 1) 9 (.string x) (.string y) = some (eqU x.data.toList y.data.toList) := fun k x y => by
    unfold eqD; rw [h9]
  unfold eqD
  rw [h34]
  simp only [he, cond_true, eqF, partD, i3, i9, Option.bind_some, cond_false, nth, d3, d9]
  have b0 : Nat.beq 0 0 = true := rfl
  have b1 : Nat.beq 1 0 = false := rfl
  have b2 : Nat.beq 2 0 = false := rfl
  simp [nth, d3, d9, b0, b1, b2]
variable [Eta]
theorem VR.of_sub {ρ : Emb} {w : World} {x v : Value} (h : sub0 x = v) (hs : scalV v = true) : VR ρ w x v := by
  apply back0
  rw [h]
  exact scal_VR hs
def flatB (v : Value) : Bool :=
  match v with
  | .agg cs => cs.toList.all scalV
  | v => scalV v
theorem flat_inv {ρ : Emb} {w : World} {v y : Value} (hf : flatB v = true) (h : VR ρ w v y) : y = v := by
  unfold flatB at hf
  split at hf
  · rename_i cs
    cases h with
    | agg xs ys h1 h2 =>
      congr 1
      apply Array.ext'
      apply List.ext_getElem? fun i => ?_
      rcases Nat.lt_or_ge i cs.toList.length with hi | hi
      · have hy : i < ys.toList.length := by omega
        rw [List.getElem?_eq_getElem hi, List.getElem?_eq_getElem hy]
        exact congrArg some (scal_inv (List.all_eq_true.1 hf _ (List.getElem_mem hi)) (h2 i _ _ (List.getElem?_eq_getElem hi) (List.getElem?_eq_getElem hy)))
      · rw [List.getElem?_eq_none hi, List.getElem?_eq_none (by omega)]
  · exact scal_inv hf h
theorem flats_inv {ρ : Emb} {w : World} : ∀ {xs ys : List Value}, (∀ x ∈ xs, flatB (sub x) = true) → VRL ρ w xs ys → ys = xs.map sub
  | [], ys, _, h => h.cases_nil
  | x :: xs, ys, hf, h => by
    obtain ⟨y, ys', rfl, h1, h2⟩ := h.cases_cons
    rw [flat_inv (hf x List.mem_cons_self) (sub_VR h1), flats_inv (fun z hz => hf z (List.mem_cons_of_mem _ hz)) h2]
    rfl
theorem flats_same {h : Hp} : ∀ {args xs : List Value}, (∀ x ∈ xs, flatB (sub x) = true) → mapO (flat1 h) args = some xs → args = xs
  | args, [], _, h => mapO_nil h
  | args, x :: xs, hf, hm => by
    obtain ⟨a, rest, rfl, f1, f2⟩ := mapO_cons hm
    have hx := hf x List.mem_cons_self
    rw [flat1_other f1 (fun l e => by subst e; simp [sub, sub0, flatB, scalV] at hx), flats_same (fun z hz => hf z (List.mem_cons_of_mem _ hz)) f2]
section
variable {c : Cfg} {base : Nat} {I : World → Prop}
theorem app_flat {P : Program} (hP : c.P = P) {f : FuncId} {fn : Func} (h1 : P.funcs[f]? = some fn) (h2 : fn.body.isNone = false) (h3 : (fn.name == "runtime.NumGoroutine") = false) {xs : List Value} (hx : ∀ x ∈ xs, flatB (sub x) = true)
    {r v' : Value} (hr : ∀ (ρ : Emb) (w : World), VR ρ w r v') (hc : ∀ w, I w → Calls P f (xs.map sub).toArray w fun e w' => e = .returned v' ∧ RowKit.Below w.heap.size w w') : AppOk c base I ⟨f, xs, r⟩ := by
  intro h ρ w args args' hflat hv hrel hi
  rw [hP]
  obtain rfl := flats_same hx hflat
  obtain rfl := flats_inv hx hv
  refine ⟨fn, h1, h2, h3, (hc w hi).mono ?_⟩
  rintro e w' ⟨rfl, hb⟩
  exact ⟨_, rfl, hr _ _, hb⟩
theorem app_sure (hP : c.P = Tryz.prog) (hI : ∀ w, I w → Laid w) : AppOk c base I ⟨12, [], .bool true⟩ :=
  app_flat hP Tryz.func12 (by kernel_rfl) (by kernel_rfl) (fun x hx => by cases hx) (fun ρ w => .bool true) fun w hw => sure.calls0 (hI w hw).1
end
end Go.Proofs.YtchbodpkaiengaaGreatDoor.Apps
