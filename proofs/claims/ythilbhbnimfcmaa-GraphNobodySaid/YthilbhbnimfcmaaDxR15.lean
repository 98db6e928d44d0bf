/- A part of the proof that the interpreter of YthilbhbnimfcmaaDxDx is sound: what it computes of a call, the call comes to in the model. No condition beyond those that each theorem names. -/
import Derived.Test.YthilbhbnimfcmaaDxR14c
import Derived.RecoverIn
import Derived.RangeFuncLeaves
namespace Go.Proofs.YthilbhbnimfcmaaDx
open Go
set_option linter.unusedVariables false
set_option linter.unusedSimpArgs false
section
variable {c : Cfg} {base : Nat} {I : World → Prop} {call : CallD}

theorem argsD_get : ∀ (l : List Value) (T : PT Value) (i j : Nat), i + l.length ≤ lim → (argsD T i l).get j = if i ≤ j ∧ j < i + l.length then l[j - i]? else T.get j
  | [], T, i, j, h => by
    have : argsD T i [] = T := rfl
    rw [this, if_neg (fun hh => by have h1 := hh.1; have h2 := hh.2; simp at h2; omega)]
  | v :: l, T, i, j, h => by
    have e : argsD T i (v :: l) = argsD (T.put i (some v)) (i + 1) l := rfl
    simp at h
    rw [e, argsD_get l _ (i + 1) j (by omega)]
    by_cases h1 : j = i
    · subst h1
      rw [if_neg (by omega), if_pos (by simp), PT.get_put_same _ _ _ (by omega)]
      simp
    · by_cases h2 : i + 1 ≤ j ∧ j < i + 1 + l.length
      · rw [if_pos h2, if_pos (by simp; omega)]
        obtain ⟨m, rfl⟩ : ∃ m, j = i + 1 + m := ⟨j - (i + 1), by omega⟩
        rw [show i + 1 + m - i = m + 1 by omega, show i + 1 + m - (i + 1) = m by omega]
        rfl
      · rw [if_neg h2, if_neg (by simp; omega), PT.get_put_other _ _ _ _ h1]
theorem TR.start {ρ : Emb} {w : World} {args args' : List Value} {n : Nat} (hv : VRL ρ w args args') (hn : args.length ≤ n) (hl : n < lim) :
    TR ρ w ⟨argsD .leaf 0 args, n⟩ { tmps := args'.toArray ++ Array.replicate (n - args'.toArray.size) undef, defers := [] } := by
  have hlen := hv.len
  refine ⟨by simp; omega, fun t ht v hv' => ?_⟩
  have ht' : t < n := ht
  unfold Tm.get at hv'
  simp only at hv'
  rw [argsD_get args .leaf 0 t (by omega)] at hv'
  by_cases h : t < args.length
  · rw [if_pos (by omega), Nat.sub_zero] at hv'
    obtain ⟨y, h2, h3⟩ := hv.get hv'
    have h4 : (args'.toArray ++ Array.replicate (n - args'.toArray.size) undef).getD t undef = y := by
      rw [Array.getD_eq_getD_getElem?, Array.getElem?_append_left (by simp; omega)]
      simp [h2]
    rw [h4]
    exact h3
  · rw [if_neg (by omega), PT.get_leaf] at hv'
    cases hv'
theorem run_results_list (hc : CfgOk c) {ρ : Emb} {T : Tm} {h : Hp} {a : Act} {w : World} (htr : TR ρ w T a) (hr : Rel base c.n0 ρ h.t.get w) : ∀ (l : List ResultVar) (vs : List Value), resD c T h l = some vs →
    ∃ vs' : List Value, (l.mapM (fun (r : ResultVar) => match r with | .tmp t => (pure (a.tmps.getD t undef) : Sem Value) | .cell x t => do loadVar t (← asAddr (a.tmps.getD x undef)))).run c.P w = .ok vs' w ∧ VRL ρ w vs vs'
  | [], vs, h => by cases h; exact ⟨[], rfl, VRL.nil⟩
  | .tmp t :: r, vs, h => by
    simp only [resD] at h
    cases e : Nat.blt t T.m with
    | false => rw [e] at h; cases h
    | true =>
      rw [e] at h
      simp only [cond_true] at h
      replace h := bindS h
      obtain ⟨v, h0, h⟩ := h
      obtain ⟨l, h1, rfl⟩ := Option.map_eq_some_iff.1 h
      obtain ⟨vs', h2, h3⟩ := run_results_list hc htr hr r l h1
      refine ⟨a.tmps.getD t undef :: vs', ?_, VRL.cons (htr.at_ t (blt_t e) v h0) h3⟩
      simp only [List.mapM_cons, Sem.run_bind, Sem.run_pure, Result.andThen, h2]
  | .cell x t :: r, vs, h => by
    simp only [resD] at h
    cases e : Nat.blt x T.m with
    | false => rw [e] at h; cases h
    | true =>
      rw [e] at h
      simp only [cond_true] at h
      replace h := bindS h
      obtain ⟨xv, h0, h⟩ := h
      replace h := bindS h
      obtain ⟨v, h1, h⟩ := h
      obtain ⟨l, h2, rfl⟩ := Option.map_eq_some_iff.1 h
      obtain ⟨vs', h3, h4⟩ := run_results_list hc htr hr r l h2
      have hx := htr.at_ x (blt_t e) xv h0
      have h1' := h1
      unfold loadD at h1'
      split at h1'
      · rename_i b o
        obtain ⟨k, d, v', f1, f2, f3⟩ := run_loadVar hc hr hx h1
        refine ⟨v' :: vs', ?_, VRL.cons f3 h4⟩
        simp only [List.mapM_cons, Sem.run_bind, f1]
        rw [show (asAddr (.pointer (some ⟨k, o + d, none⟩))).run c.P w = .ok ⟨k, o + d, none⟩ w from rfl]
        simp only [Result.andThen, f2, h3, Sem.run_pure]
      · cases h1'
theorem oneV_VR {ρ : Emb} {w : World} {vs vs' : List Value} (h : VRL ρ w vs vs') : VR ρ w (oneV vs) (oneV vs') := by
  unfold oneV
  cases vs with
  | nil => obtain rfl := h.cases_nil; exact .tuple _ _ rfl (fun i x y hx => by simp at hx)
  | cons v r =>
    obtain ⟨v', r', rfl, h1, h2⟩ := h.cases_cons
    cases r with
    | nil => obtain rfl := h2.cases_nil; exact h1
    | cons u r =>
      obtain ⟨u', r'', rfl, h3, h4⟩ := h2.cases_cons
      exact .tuple _ _ h.len (fun i x y hx hy => h.at_ i x y hx hy)
theorem run_results (hc : CfgOk c) {ρ : Emb} {T : Tm} {h : Hp} {a : Act} {w : World} {fn : Func} {vs : List Value} (htr : TR ρ w T a) (hr : Rel base c.n0 ρ h.t.get w) (hres : resD c T h fn.results.toList = some vs) :
    ∃ v', (results fn a.tmps).run c.P w = .ok v' w ∧ VR ρ w (oneV vs) v' := by
  obtain ⟨vs', h1, h2⟩ := run_results_list hc htr hr _ _ hres
  refine ⟨oneV vs', ?_, oneV_VR h2⟩
  have h3 : (fn.results.mapM (fun (r : ResultVar) => match r with | .tmp t => (pure (a.tmps.getD t undef) : Sem Value) | .cell x t => do loadVar t (← asAddr (a.tmps.getD x undef)))).run c.P w = .ok vs'.toArray w := by
    rw [Array.mapM_eq_mapM_toList]
    rw [Sem.run_map, h1]
    rfl
  unfold results
  rw [Sem.run_bind]
  refine (congrArg (fun r => Result.andThen r _) ((congrArg (fun g => (Array.mapM (m := Sem) g fn.results).run c.P w) (funext fun x => by cases x <;> rfl)).trans h3)).trans ?_
  simp only [Result.andThen, Sem.run_pure]
  congr 1
  cases vs' with
  | nil => rfl
  | cons v r => cases r with
    | nil => rfl
    | cons u r => simp [oneV]

theorem leaveD_up : ∀ (d : List Dfr) (h : Hp) (W : List Nat) (hs : List (Hp × List Nat)), leaveD c call d h W = .ok hs → hs ≠ [] ∧ ∀ q ∈ hs, h.n ≤ q.1.n ∧ ∀ b ∈ W, b ∈ q.2
  | [], h, W, hs, e => by cases e; simp
  | .mark b :: l, h, W, hs, e => by
    unfold leaveD at e
    split at e
    · cases e1 : (Nat.ble c.n0 b && Nat.blt b lim) with
      | false => rw [e1] at e; cases e
      | true =>
        rw [e1] at e
        obtain ⟨g1, g2⟩ := leaveD_up l _ _ hs e
        exact ⟨g1, fun q hq => ⟨(g2 q hq).1, fun x hx => (g2 q hq).2 x (List.mem_cons_of_mem _ hx)⟩⟩
    · cases e
  | .call f args :: l, h, W, hs, e => by
    unfold leaveD at e
    obtain ⟨outs, e1, e⟩ := R.bind_ok e
    obtain ⟨outs', e2, e⟩ := R.bind_ok e
    obtain ⟨rfl, e3, e4⟩ := chk_ok e2
    have key : ∀ q ∈ hs, ∃ o ∈ outs, ∃ hs', leaveD c call l o.2.1 (o.2.2 ++ W) = .ok hs' ∧ q ∈ hs' := fun q hq => by
      obtain ⟨o, k1, rx, k2, k3⟩ := bindL_of e q hq
      exact ⟨o, k1, rx, k2, k3⟩
    refine ⟨fun hn => ?_, fun q hq => ?_⟩
    · obtain ⟨o, ho⟩ := List.exists_mem_of_ne_nil outs e3
      obtain ⟨rx, k1, k2⟩ := bindL_mem e o ho
      obtain ⟨g1, _⟩ := leaveD_up l _ _ rx k1
      obtain ⟨y, hy⟩ := List.exists_mem_of_ne_nil rx g1
      have := k2 y hy
      rw [hn] at this; cases this
    · obtain ⟨o, ho, hs', k1, k2⟩ := key q hq
      obtain ⟨g1, g2⟩ := leaveD_up l _ _ hs' k1
      exact ⟨Nat.le_trans (e4 o ho) (g2 q k2).1, fun b hb => (g2 q k2).2 b (List.mem_append_right _ hb)⟩
/-- The way out, deferred calls and marks. -/
theorem leave_ok (hcall : CallOk c base I call) (hI : Inv base I) {fn : Func} {tmps : Array Value} {Rp : Ending → World → Prop} {h0 : Hp} {ρ0 : Emb} {w0 : World} (hr0 : Rel base c.n0 ρ0 h0.t.get w0) (hg0 : Glob c ρ0) (hi0 : I w0) : ∀ (d : List Dfr) (h : Hp) (W : List Nat) (hs : List (Hp × List Nat)), leaveD c call d h W = .ok hs →
    ∀ (ρ : Emb) (w : World) (ds : List Deferred), DR ρ w d ds → Ext base c.n0 ρ0 h0.t.get h0.n w0 ρ h.t.get h.n W w → (∀ q ∈ hs, Free ρ0 h0.n q.1.n) →
      (∀ q ∈ hs, ∀ ρ' w', ρ.le ρ' → Grow w w' → Ext base c.n0 ρ0 h0.t.get h0.n w0 ρ' q.1.t.get q.1.n q.2 w' → ∃ v, (results fn tmps).run c.P w' = .ok v w' ∧ Rp (.returned v) w') → LeavesInM Fence.wide 0 c.P fn tmps Rp ds .returning w
  | [], h, W, hs, e, ρ, w, [], hd, hx, hf, hK => by
    cases e
    exact hK (h, W) (by simp) ρ w (.refl ρ) (.refl w) hx
  | [], h, W, hs, e, ρ, w, _ :: _, hd, hx, hf, hK => hd.elim
  | .mark b :: l, h, W, hs, e, ρ, w, [], hd, hx, hf, hK => hd.elim
  | .call f args :: l, h, W, hs, e, ρ, w, [], hd, hx, hf, hK => hd.elim
  | .mark b :: l, h, W, hs, e, ρ, w, x :: ds, hd, hx, hf, hK => by
    obtain ⟨⟨k, k1, rfl⟩, hd2⟩ := hd
    unfold leaveD at e
    split at e
    · rename_i hb
      cases e1 : (Nat.ble c.n0 b && Nat.blt b lim) with
      | false => rw [e1] at e; cases e
      | true =>
        rw [e1] at e
        simp only [cond_true] at e
        simp only [Bool.and_eq_true] at e1
        obtain ⟨k', d', g1, g2, g3⟩ := hx.rel.at_ b _ hb
        rw [k1] at g1
        cases g1
        have hrun := run_takeDeferred (P := c.P) g3
        have x2 := Ext.setO (c := c) (h := h) (o' := none) (ob' := .deferred none) hx.rel hb k1 (ble_t e1.1) (blt_t e1.2) g3 (fun _ _ _ e => by cases e) (.refl w) rfl (fun x hx => by cases hx)
        obtain ⟨u1, u2⟩ := leaveD_up l _ _ hs e
        obtain ⟨q0, hq0⟩ := List.exists_mem_of_ne_nil hs u1
        have x3 := Ext.after ((hf q0 hq0).mono (u2 q0 hq0).1) hr0 hx (x2.weaken (W' := b :: W) (fun y hy => by simp at hy ⊢; exact .inl hy) (fun y hy => by rcases List.mem_cons.1 hy with rfl | hy; exact ble_t e1.1; exact hx.wr y hy)) (fun y hy => List.mem_cons_of_mem _ hy)
        refine ⟨by simp, .inl ⟨k, _, rfl, hrun, ?_⟩⟩
        exact leave_ok hcall hI hr0 hg0 hi0 l ⟨h.t.put b none, h.n⟩ (b :: W) hs e ρ _ ds (hd2.grow x2.grow) x3 hf (fun q hq ρ' w' hle hgr hxx => hK q hq ρ' w' hle (x2.grow.trans hgr) hxx)
    · cases e
  | .call f args :: l, h, W, hs, e, ρ, w, x :: ds, hd, hx, hf, hK => by
    obtain ⟨⟨cap, k1, k2⟩, hd2⟩ := hd
    unfold leaveD at e
    obtain ⟨outs, e1, e⟩ := R.bind_ok e
    obtain ⟨outs', e2, e⟩ := R.bind_ok e
    obtain ⟨rfl, e3, e4⟩ := chk_ok e2
    have hfo : ∀ o ∈ outs, Free ρ0 h0.n o.2.1.n := fun o ho => by
      obtain ⟨rx, m1, m2⟩ := bindL_mem e o ho
      obtain ⟨u1, u2⟩ := leaveD_up l _ _ rx m1
      obtain ⟨y, hy⟩ := List.exists_mem_of_ne_nil rx u1
      exact (hf y (m2 y hy)).mono (u2 y hy).1
    obtain ⟨fn', f1, f2, f3, f4⟩ := hcall.dfr f args h outs e1 ρ w (x.args ++ cap).toList ⟨k2, hx.rel, hg0.le hx.le, hI.on _ _ hi0 (hx.low hr0), fun o ho => (hfo o ho).after hx⟩
    have harr : (x.args ++ cap).toList.toArray = x.args ++ cap := by simp
    rw [harr] at f4
    refine ⟨by simp, .inr ⟨fun hd => by simp [Fence.wide] at hd, .func f, cap, f, _, k1, ?_, fun _ _ => trivial, CallsDIn.mono f4 ?_⟩⟩
    · rw [k1]
      exact run_callFunc f1 f2 f3
    · rintro e' u w' ⟨rfl, o, ho, v', ρ', rfl, m1, m2⟩
      obtain ⟨rx, n1, n2⟩ := bindL_mem e o ho
      have x3 := Ext.after (hfo o ho) hr0 hx (m2.weaken (W' := o.2.2 ++ W) (fun y hy => List.mem_append_left _ hy) (fun y hy => by rcases List.mem_append.1 hy with hy | hy; exact m2.wr y hy; exact hx.wr y hy)) (fun y hy => List.mem_append_right _ hy)
      exact leave_ok hcall hI hr0 hg0 hi0 l o.2.1 (o.2.2 ++ W) rx n1 ρ' w' ds ((hd2.le m2.le).grow m2.grow) x3 (fun q hq => hf q (n2 q hq)) (fun q hq ρ'' w'' hle hgr hxx => hK q (n2 q hq) ρ'' w'' (m2.le.trans hle) (m2.grow.trans hgr) hxx)
end
end Go.Proofs.YthilbhbnimfcmaaDx
