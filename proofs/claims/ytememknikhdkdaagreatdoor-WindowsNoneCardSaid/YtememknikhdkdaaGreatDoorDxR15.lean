/- A part of the proof that the interpreter of YtememknikhdkdaaGreatDoorDxDx is sound: what it computes of a call, the call comes to in the model. No condition beyond those that each theorem names. -/
import Derived.Test.YtememknikhdkdaaGreatDoorDxR14
namespace Go.Proofs.YtememknikhdkdaaGreatDoorDx
open Go
set_option linter.unusedVariables false
set_option linter.unusedSimpArgs false
section
variable {c : Cfg} {base : Nat} {I : World → Prop} {call : CallD}

theorem argsD_get : ∀ (l : List Value) (T : PT Value) (i j : Nat), i + l.length ≤ lim → (argsD T i l).get j = if i ≤ j ∧ j < i + l.length then l[j - i]? else T.get j
  | [], T, i, j, h => by
    have : argsD T i [] = T := rfl
    rw [this, if_neg (fun hh => by have h1 := hh.1; have h2 := hh.2; simp at h2; omega)]
  | v :: l, T, i, j, h => by
    have e : argsD T i (v :: l) = argsD (T.put i (some v)) (i + 1) l := rfl
    simp at h
    rw [e, argsD_get l _ (i + 1) j (by omega)]
    by_cases h1 : j = i
    · subst h1
      rw [if_neg (by omega), if_pos (by simp), PT.get_put_same _ _ _ (by omega)]
      simp
    · by_cases h2 : i + 1 ≤ j ∧ j < i + 1 + l.length
      · rw [if_pos h2, if_pos (by simp; omega)]
        obtain ⟨m, rfl⟩ : ∃ m, j = i + 1 + m := ⟨j - (i + 1), by omega⟩
        rw [show i + 1 + m - i = m + 1 by omega, show i + 1 + m - (i + 1) = m by omega]
        rfl
      · rw [if_neg h2, if_neg (by simp; omega), PT.get_put_other _ _ _ _ h1]
theorem TR.start {ρ : Emb} {w : World} {args args' : List Value} {n : Nat} (hv : VRL ρ w args args') (hn : args.length ≤ n) (hl : n < lim) :
    TR ρ w ⟨argsD .leaf 0 args, n⟩ { tmps := args'.toArray ++ Array.replicate (n - args'.toArray.size) undef, defers := [] } := by
  have hlen := hv.len
  refine ⟨by simp; omega, fun t ht => ?_, rfl⟩
  have ht' : t < n := ht
  unfold Tm.get
  simp only
  rw [argsD_get args .leaf 0 t (by omega)]
  by_cases h : t < args.length
  · rw [if_pos (by omega), Nat.sub_zero]
    have h1 : args[t]? = some args[t] := List.getElem?_eq_getElem h
    obtain ⟨y, h2, h3⟩ := hv.get h1
    rw [h1]
    have h4 : (args'.toArray ++ Array.replicate (n - args'.toArray.size) undef).getD t undef = y := by
      rw [Array.getD_eq_getD_getElem?, Array.getElem?_append_left (by simp; omega)]
      simp [h2]
    rw [h4]
    exact h3
  · rw [if_neg (by omega), PT.get_leaf]
    have h4 : (args'.toArray ++ Array.replicate (n - args'.toArray.size) undef).getD t undef = undef := by
      rw [Array.getD_eq_getD_getElem?, Array.getElem?_append_right (by simp; omega)]
      simp
      by_cases h6 : t - args'.length < n - args'.length
      · simp [h6]
      · simp [h6]
    rw [h4]
    exact .undef
theorem run_results_list (hc : CfgOk c) {ρ : Emb} {s : St} {a : Act} {w : World} (htr : TR ρ w s.T a) (hr : Rel base c.n0 ρ s.h.t.get w) : ∀ (l : List ResultVar) (vs : List Value), resD c s.T s.h l = some vs →
    ∃ vs' : List Value, (l.mapM (fun (r : ResultVar) => match r with | .tmp t => (pure (a.tmps.getD t undef) : Sem Value) | .cell x t => do loadVar t (← asAddr (a.tmps.getD x undef)))).run c.P w = .ok vs' w ∧ VRL ρ w vs vs'
  | [], vs, h => by cases h; exact ⟨[], rfl, VRL.nil⟩
  | .tmp t :: r, vs, h => by
    simp only [resD] at h
    cases e : Nat.blt t s.T.m with
    | false => rw [e] at h; cases h
    | true =>
      rw [e] at h
      simp only [cond_true] at h
      obtain ⟨l, h1, rfl⟩ := Option.map_eq_some_iff.1 h
      obtain ⟨vs', h2, h3⟩ := run_results_list hc htr hr r l h1
      refine ⟨a.tmps.getD t undef :: vs', ?_, VRL.cons (htr.at_ t (blt_t e)) h3⟩
      simp only [List.mapM_cons, Sem.run_bind, Sem.run_pure, Result.andThen, h2]
  | .cell x t :: r, vs, h => by
    simp only [resD] at h
    cases e : Nat.blt x s.T.m with
    | false => rw [e] at h; cases h
    | true =>
      rw [e] at h
      simp only [cond_true] at h
      replace h := bindS h
      obtain ⟨v, h1, h⟩ := h
      obtain ⟨l, h2, rfl⟩ := Option.map_eq_some_iff.1 h
      obtain ⟨vs', h3, h4⟩ := run_results_list hc htr hr r l h2
      have hx := htr.at_ x (blt_t e)
      have h1' := h1
      unfold loadD at h1'
      split at h1'
      · rename_i b o hg
        rw [hg] at hx h1
        obtain ⟨k, d, v', f1, f2, f3⟩ := run_loadVar hc hr hx h1
        refine ⟨v' :: vs', ?_, VRL.cons f3 h4⟩
        simp only [List.mapM_cons, Sem.run_bind, f1]
        rw [show (asAddr (.pointer (some ⟨k, o + d, none⟩))).run c.P w = .ok ⟨k, o + d, none⟩ w from rfl]
        simp only [Result.andThen, f2, h3, Sem.run_pure]
      · cases h1'
theorem oneV_VR {ρ : Emb} {w : World} {vs vs' : List Value} (h : VRL ρ w vs vs') : VR ρ w (oneV vs) (oneV vs') := by
  unfold oneV
  cases vs with
  | nil => obtain rfl := h.cases_nil; exact .tuple _ _ rfl (fun i x y hx => by simp at hx)
  | cons v r =>
    obtain ⟨v', r', rfl, h1, h2⟩ := h.cases_cons
    cases r with
    | nil => obtain rfl := h2.cases_nil; exact h1
    | cons u r =>
      obtain ⟨u', r'', rfl, h3, h4⟩ := h2.cases_cons
      exact .tuple _ _ h.len (fun i x y hx hy => h.at_ i x y hx hy)
theorem run_results (hc : CfgOk c) {ρ : Emb} {s : St} {a : Act} {w : World} {fn : Func} {vs : List Value} (htr : TR ρ w s.T a) (hr : Rel base c.n0 ρ s.h.t.get w) (h : resD c s.T s.h fn.results.toList = some vs) :
    ∃ v', (results fn a.tmps).run c.P w = .ok v' w ∧ VR ρ w (oneV vs) v' := by
  obtain ⟨vs', h1, h2⟩ := run_results_list hc htr hr _ _ h
  refine ⟨oneV vs', ?_, oneV_VR h2⟩
  have h3 : (fn.results.mapM (fun (r : ResultVar) => match r with | .tmp t => (pure (a.tmps.getD t undef) : Sem Value) | .cell x t => do loadVar t (← asAddr (a.tmps.getD x undef)))).run c.P w = .ok vs'.toArray w := by
    rw [Array.mapM_eq_mapM_toList]
    rw [Sem.run_map, h1]
    rfl
  unfold results
  rw [Sem.run_bind]
  refine (congrArg (fun r => Result.andThen r _) ((congrArg (fun g => (Array.mapM (m := Sem) g fn.results).run c.P w) (funext fun x => by cases x <;> rfl)).trans h3)).trans ?_
  simp only [Result.andThen, Sem.run_pure]
  congr 1
  cases vs' with
  | nil => rfl
  | cons v r => cases r with
    | nil => rfl
    | cons u r => simp [oneV]
theorem retD_mem {fn : Func} : ∀ {l : List (Ex × St)} {outs : List Out}, retD c fn l = some outs → ∀ p ∈ l, (∀ i, p.1 ≠ .exit i) ∧ ∃ vs, resD c p.2.T p.2.h fn.results.toList = some vs ∧ (oneV vs, p.2.h, p.2.w) ∈ outs
  | [], outs, h, p, hp => by cases hp
  | x :: l, outs, h, p, hp => by
    unfold retD at h
    split at h
    · cases h
    · rename_i hne
      replace h := bindS h
      obtain ⟨vs, h1, h⟩ := h
      obtain ⟨r, h2, rfl⟩ := Option.map_eq_some_iff.1 h
      rcases List.mem_cons.1 hp with rfl | hp
      · exact ⟨fun i => hne i, vs, h1, by simp⟩
      · obtain ⟨g1, vs', g2, g3⟩ := retD_mem h2 p hp
        exact ⟨g1, vs', g2, by simp [g3]⟩

/-- Calls. -/
theorem callD_ok (hc : CfgOk c) (hI : Inv base I) (hname : ∀ f fn, c.fns f = some fn → (fn.name == "runtime.NumGoroutine") = false) (hregs : ∀ call, CallOk c base I call → RegOk c base I call) : ∀ k, CallOk c base I (callD c k)
  | 0 => fun f args h outs ho => by cases ho
  | k + 1 => fun f args h outs ho ρ w args' hv hr hg hi hfree => by
    have ih := callD_ok hc hI hname hregs k
    have hreg := hregs _ ih
    simp only [callD] at ho
    split at ho
    · rename_i fn hfn
      split at ho
      · rename_i q hq
        cases e : (Nat.ble args.length fn.ntmps && Nat.blt fn.ntmps lim) with
        | false => rw [e] at ho; cases ho
        | true =>
          rw [e] at ho
          simp only [Bool.and_eq_true] at e
          simp only [cond_true] at ho
          obtain ⟨l, h1, h2⟩ := R.bind_ok (R.ctx_ok ho)
          have h3 := R.of_ok h2
          refine ⟨fn, hc.fns f fn hfn, by rw [hq]; rfl, hname f fn hfn, ?_⟩
          refine calls_of_wp (hc.fns f fn hfn) hq ?_
          have hs : SR c base I ρ ⟨⟨argsD .leaf 0 args, fn.ntmps⟩, h, []⟩ { tmps := args'.toArray ++ Array.replicate (fn.ntmps - args'.toArray.size) undef, defers := [] } w :=
            ⟨TR.start hv (ble_t e.1) (blt_t e.2), hr, hg, Nat.le_of_lt (blt_t e.2), (fun b hb => by cases hb), hi⟩
          refine Code.wp_mono ?_ (code_wp hc hI hreg 100000 q _ l h1 ρ _ w hs (fun o ho' => ?_))
          · rintro e a' w' ⟨p, hp, hex, ρ', hs', hx⟩
            obtain ⟨g1, vs, g2, g3⟩ := retD_mem h3 p hp
            obtain ⟨v', f1, f2⟩ := run_results hc hs'.tr hs'.rel g2
            have fin : ∃ o ∈ outs, ∃ v'' ρ', Ending.returned v' = .returned v'' ∧ VR ρ' w' o.1 v'' ∧ Ext base c.n0 ρ h.t.get h.n w ρ' o.2.1.t.get o.2.1.n o.2.2 w' := ⟨_, g3, v', ρ', rfl, f2, hx⟩
            obtain ⟨x, s'⟩ := p
            cases x with
            | normal =>
              cases e <;> first | exact False.elim hex | skip
              exact ⟨hs'.tr.defers, v', f1, fin⟩
            | ret =>
              cases e <;> first | exact False.elim hex | skip
              exact ⟨hs'.tr.defers, v', f1, fin⟩
            | exit i => exact absurd rfl (g1 i)
          · obtain ⟨g1, vs, g2, g3⟩ := retD_mem h3 o ho'
            exact hfree _ g3
      · cases ho
    · cases ho
end
end Go.Proofs.YtememknikhdkdaaGreatDoorDx
