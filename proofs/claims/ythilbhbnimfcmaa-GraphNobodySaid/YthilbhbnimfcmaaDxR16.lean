/- A part of the proof that the interpreter of YthilbhbnimfcmaaDxDx is sound: what it computes of a call, the call comes to in the model. No condition beyond those that each theorem names. -/
import Derived.Test.YthilbhbnimfcmaaDxR15
namespace Go.Proofs.YthilbhbnimfcmaaDx
open Go
set_option linter.unusedVariables false
set_option linter.unusedSimpArgs false
section
variable {c : Cfg} {base : Nat} {I : World → Prop} {call : CallD}

theorem retD_mem {fn : Func} {l : List (Ex × St)} {outs : List Out} (h : retD c call fn l = .ok outs) : ∀ p ∈ l, (∀ i, p.1 ≠ .exit i) ∧ ∃ hs, leaveD c call p.2.d p.2.h p.2.w = .ok hs ∧ ∀ q ∈ hs, ∃ vs, resD c p.2.T q.1 fn.results.toList = some vs ∧ (oneV vs, q.1, q.2) ∈ outs := by
  intro p hp
  unfold retD at h
  obtain ⟨rx, h1, h2⟩ := bindL_mem h p hp
  have key : (∀ i, p.1 ≠ .exit i) ∧ ((leaveD c call p.2.d p.2.h p.2.w).bind fun hs => bindL hs fun q => (R.of "results" (resD c p.2.T q.1 fn.results.toList)).bind fun vs => R.ok [((oneV vs, q.1, q.2) : Out)]) = .ok rx := by
    split at h1
    · cases h1
    · rename_i hne; exact ⟨fun i e => hne i e, h1⟩
  obtain ⟨k1, k2⟩ := key
  obtain ⟨hs, h3, h4⟩ := R.bind_ok k2
  refine ⟨k1, hs, h3, fun q hq => ?_⟩
  obtain ⟨ry, h5, h6⟩ := bindL_mem h4 q hq
  obtain ⟨vs, h7, h8⟩ := R.bind_ok h5
  cases h8
  exact ⟨vs, R.of_ok h7, h2 _ (h6 _ (by simp))⟩
/-- One outcome of those of a call, as they are merged. -/
theorem merge_out {h : Hp} {outs : List Out} {ρ ρ' : Emb} {w w' : World} {o : Out} {v' : Value} (hr : Rel base c.n0 ρ h.t.get w) (hm : o ∈ outs) (hf : ∀ o ∈ mergeO c h outs, Free ρ h.n o.2.1.n)
    (hv : VR ρ' w' o.1 v') (hx : Ext base c.n0 ρ h.t.get h.n w ρ' o.2.1.t.get o.2.1.n o.2.2 w') : CP c base ρ h w (mergeO c h outs) (.returned v') w' := by
  have same : mergeO c h outs = outs → CP c base ρ h w (mergeO c h outs) (.returned v') w' := fun e => by rw [e]; exact ⟨o, hm, v', ρ', rfl, hv, hx⟩
  unfold mergeO at same hf ⊢
  split at same
  · rename_i o1 o2 r
    split at same
    · rename_i ds hds
      simp only at hf ⊢
      rw [hds] at hf
      simp only at hf
      obtain ⟨m1, m2⟩ := mapO_of hds
      obtain ⟨x, hxd, hcn⟩ := m2 o hm
      have hin := List.mem_map_of_mem (f := fun (x : Dat) => ((headV x.vs, ⟨putL h.t x.obs, maxN ((o1 :: o2 :: r).map fun o => o.2.1.n)⟩, x.W) : Out)) (mem_dedup hxd)
      obtain ⟨ρ'', f, g1, g2, g3, g4, g5, g6⟩ := Ext.canon hr (hf _ hin) hx hcn
      refine ⟨_, hin, v', ρ'', rfl, ?_, g1⟩
      unfold mapO at g3
      obtain ⟨y, k1, k2⟩ := Option.bind_eq_some_iff.1 g3
      obtain ⟨r', k3, k4⟩ := Option.map_eq_some_iff.1 k2
      obtain ⟨v2, k5, rfl⟩ := Option.map_eq_some_iff.1 k1
      rw [← k4]
      exact VR.ren g2 _ hv k5
    · exact same rfl
  · exact same rfl
theorem merge_free {h : Hp} {outs : List Out} {ρ : Emb} (hf : ∀ o ∈ mergeO c h outs, Free ρ h.n o.2.1.n) : ∀ o ∈ outs, Free ρ h.n o.2.1.n := by
  unfold mergeO at hf
  split at hf
  · rename_i o1 o2 r
    split at hf
    · rename_i ds hds
      intro o ho
      obtain ⟨m1, m2⟩ := mapO_of hds
      obtain ⟨x, hxd, hcn⟩ := m2 o ho
      have hin := List.mem_map_of_mem (f := fun (x : Dat) => ((headV x.vs, ⟨putL h.t x.obs, maxN ((o1 :: o2 :: r).map fun o => o.2.1.n)⟩, x.W) : Out)) (mem_dedup hxd)
      exact (hf _ hin).mono (le_maxN (List.mem_map.2 ⟨o, ho, rfl⟩))
    · exact hf
  · exact hf
/-- What a function's body must be known of. -/
theorem SR.start (hc : CfgOk c) {ρ : Emb} {h : Hp} {w : World} {args args' : List Value} {outs : List Out} {n : Nat} (hp : Pre c base I ρ h w args args' outs) (hn : args.length ≤ n) (hl : n < _root_.Go.Proofs.YthilbhbnimfcmaaDx.lim) :
    SR c base I ρ ⟨⟨argsD .leaf 0 args, n⟩, h, [], []⟩ { tmps := args'.toArray ++ Array.replicate (n - args'.toArray.size) undef, defers := [] } w :=
  ⟨TR.start hp.args hn hl, trivial, hp.rel, hp.glob, Nat.le_of_lt hl, (fun b hb => by cases hb), hp.inv⟩
theorem fn_ok (hc : CfgOk c) (hI : Inv base I) (hcall : CallOk c base I call) (hprim : PrimOk c base I) (hreg : RegOk c base I call) {f : FuncId} {fn : Func} {q : Code} {args args' : List Value} {h : Hp} {l : List (Ex × St)} {outs : List Out} (hfn : c.P.funcs[f]? = some fn) (hq : fn.body = some q)
    (hlen : args.length ≤ fn.ntmps) (hlim : fn.ntmps < lim) (h1 : codeD c call false 100000 q ⟨⟨argsD .leaf 0 args, fn.ntmps⟩, h, [], []⟩ = .ok l) (h2 : retD c call fn l = .ok outs) {ρ : Emb} {w : World} (hp : Pre c base I ρ h w args args' (mergeO c h outs)) :
    Calls c.P f args'.toArray w (CP c base ρ h w (mergeO c h outs)) := by
  have hs := SR.start hc hp hlen hlim
  have hfo := merge_free hp.free
  have hmem := retD_mem h2
  refine (callsIn_wide (n := 0)).1 (callsIn_of_wp_marks hfn hq trivial ?_)
  refine wpIn_mono (code_wp hc hI hcall hprim hreg (r := none) (fun _ => rfl) 100000 q _ l h1 ρ _ w hs (fun o ho => ?_)) ?_
  · obtain ⟨g1, hs', g2, g3⟩ := hmem o ho
    obtain ⟨u1, u2⟩ := leaveD_up _ _ _ _ g2
    obtain ⟨y, hy⟩ := List.exists_mem_of_ne_nil hs' u1
    obtain ⟨vs, _, g4⟩ := g3 y hy
    exact (hfo _ g4).mono (u2 y hy).1
  · rintro e a' w' ⟨p, hpl, hex, ρ', hs', hx⟩
    obtain ⟨g1, hq', g2, g3⟩ := hmem p hpl
    have fin : LeavesInM Fence.wide 0 c.P fn a'.tmps (CP c base ρ h w (mergeO c h outs)) a'.defers .returning w' := by
      refine leave_ok hcall hI hp.rel hp.glob hp.inv p.2.d p.2.h p.2.w hq' g2 ρ' w' a'.defers hs'.dr hx (fun q hq => ?_) (fun q hq ρ'' w'' hle hgr hxx => ?_)
      · obtain ⟨vs, _, g4⟩ := g3 q hq
        exact hfo _ g4
      · obtain ⟨vs, g4, g5⟩ := g3 q hq
        obtain ⟨v', f1, f2⟩ := run_results hc ((hs'.tr.le hle).grow hgr) hxx.rel g4
        exact ⟨v', f1, merge_out hp.rel g5 hp.free f2 hxx⟩
    obtain ⟨x, s'⟩ := p
    cases x with
    | normal => cases e <;> first | exact False.elim hex | exact fin
    | ret => cases e <;> first | exact False.elim hex | exact fin
    | exit i => exact absurd rfl (g1 i)
end
end Go.Proofs.YthilbhbnimfcmaaDx
