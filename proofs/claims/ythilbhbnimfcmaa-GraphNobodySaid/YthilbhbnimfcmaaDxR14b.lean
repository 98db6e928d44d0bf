/- A part of the proof that the interpreter of YthilbhbnimfcmaaDxDx is sound: what it computes of a call, the call comes to in the model. No condition beyond those that each theorem names. -/
import Derived.Test.YthilbhbnimfcmaaDxR14
namespace Go.Proofs.YthilbhbnimfcmaaDx
open Go
set_option linter.unusedVariables false
set_option linter.unusedSimpArgs false

theorem tmpsL_get : ∀ (l : List (Nat × Value)) (t0 : PT Value) (t : Nat) (v : Value), t < lim → (tmpsL t0 l).get t = some v → (t, v) ∈ l ∨ t0.get t = some v
  | [], t0, t, v, ht, h => .inr h
  | p :: l, t0, t, v, ht, h => by
    rcases tmpsL_get l _ t v ht h with h1 | h1
    · exact .inl (List.mem_cons_of_mem _ h1)
    · by_cases e : t = p.1
      · subst e
        rw [PT.get_put_same _ _ _ ht] at h1
        cases h1
        exact .inl (by obtain ⟨p1, p2⟩ := p; simp)
      · rw [PT.get_put_other _ _ _ _ e] at h1
        exact .inr h1
theorem keepT_mem : ∀ {l : List Nat} {T : Tm} {t : Nat} {v : Value}, (t, v) ∈ keepT T l → T.get t = some v
  | x :: l, T, t, v, h => by
    unfold keepT at h
    split at h
    · rename_i u hu
      rcases List.mem_cons.1 h with h | h
      · cases h; exact hu
      · exact keepT_mem h
    · exact keepT_mem h
section
variable {c : Cfg} {base : Nat} {I : World → Prop} {call : CallD}

theorem To.comp {ρ ρ' : Emb} {s s' s'' : St} {w w' : World} {a a'' : Act} {w'' : World} (hf : Free ρ s.h.n s''.h.n) (hs : SR c base I ρ s a w) (h : Ext base c.n0 ρ s.h.t.get s.h.n w ρ' s'.h.t.get s'.h.n s'.w w') (k : To c base I ρ' s' w' s'' a'' w'') (hw : ∀ b ∈ s'.w, b ∈ s''.w) : To c base I ρ s w s'' a'' w'' := by
  obtain ⟨ρ'', k1, k2⟩ := k
  exact ⟨ρ'', k1, Ext.after hf hs.rel h k2 hw⟩
/-- One state of those ahead of a loop's next round, as they are merged. -/
theorem merge_state {q : Code} {s0 s : St} {l : List St} {ρ0 ρ : Emb} {w0 w : World} {a a0 : Act} (hs0 : SR c base I ρ0 s0 a0 w0) (hs : SR c base I ρ s a w) (hx : Ext base c.n0 ρ0 s0.h.t.get s0.h.n w0 ρ s.h.t.get s.h.n s.w w) (hm : s ∈ l)
    (hfree : ∀ s' ∈ mergeS c q s0 l, Free ρ0 s0.h.n s'.h.n) : ∃ s' ∈ mergeS c q s0 l, ∃ ρ', SR c base I ρ' s' a w ∧ Ext base c.n0 ρ0 s0.h.t.get s0.h.n w0 ρ' s'.h.t.get s'.h.n s'.w w := by
  rcases mergeS_cases c q s0 l with e | ⟨keep, ds, hw, hTm, hds, e⟩
  · exact ⟨s, by rw [e]; exact hm, ρ, hs, hx⟩
  · obtain ⟨m1, m2⟩ := mapO_of hds
    obtain ⟨x, hxd, hcn⟩ := m2 s hm
    have hin : (⟨⟨tmpsL .leaf x.vs, s0.T.m⟩, ⟨putL s0.h.t x.obs, maxN (l.map fun s => s.h.n)⟩, x.W, x.d⟩ : St) ∈ mergeS c q s0 l := by rw [e]; exact List.mem_map.2 ⟨x, mem_dedup hxd, rfl⟩
    have hfr := hfree _ hin
    obtain ⟨ρ'', f, g1, g2, g3, g4, g5, g6⟩ := Ext.canon hs0.rel hfr hx hcn
    refine ⟨_, hin, ρ'', ⟨⟨(hTm s hm).symm.trans hs.tr.size, fun t ht v hv => ?_⟩, hs.dr.ren g2 g4, g1.rel, hs0.glob.le g1.le, hs0.lim, fun b hb => hs.wr b (g6 b hb), hs.inv⟩, g1⟩
    have htl : t < lim := Nat.lt_of_lt_of_le ht hs0.lim
    rcases tmpsL_get x.vs .leaf t v htl hv with h1 | h1
    · obtain ⟨k1, k2⟩ := mapO_of g3
      obtain ⟨⟨t', v'⟩, k3, k4⟩ := k1 _ h1
      obtain ⟨v2, k5, k6⟩ := Option.map_eq_some_iff.1 k4
      simp only [Prod.mk.injEq] at k6
      obtain ⟨rfl, rfl⟩ := k6
      have hlt : t' < s.T.m := by rw [hTm s hm]; exact ht
      exact VR.ren g2 _ (hs.tr.at_ t' hlt v' (keepT_mem k3)) k5
    · rw [PT.get_leaf] at h1; cases h1
/-- A loop. -/
theorem loop_ok {q : Code} {k : Nat} {ro : Bool} {r : Option Nat} (hreg : RegOk c base I call) (ih : ∀ (s : St) (outs : List (Ex × St)), codeD c call ro k q s = .ok outs → ∀ (ρ : Emb) (a : Act) (w : World), SR c base I ρ s a w → (∀ o ∈ outs, Free ρ s.h.n o.2.h.n) → q.wpIn (FW r) 0 c.P (CQ c base I ρ s w outs) a w)
    {s0 : St} {ρ0 : Emb} {a0 : Act} {w0 : World} (hs0 : SR c base I ρ0 s0 a0 w0) : ∀ (j : Nat) (l : List St) (res : List (Ex × St)), loopD c q (fun s => codeD c call ro k q s) s0 j l = .ok res → (∀ o ∈ res, Free ρ0 s0.h.n o.2.h.n) → Up s0 l →
      ∀ s ∈ l, ∀ (ρ : Emb) (a : Act) (w : World), SR c base I ρ s a w → Ext base c.n0 ρ0 s0.h.t.get s0.h.n w0 ρ s.h.t.get s.h.n s.w w → Code.roundsIn (FW r) 0 c.P q (CQ c base I ρ0 s0 w0 res) j a w
  | 0, l, res, h, hf, hl, s, hm, ρ, a, w, hs, hx => by cases h
  | j + 1, l, res, h, hf, hl, s, hm, ρ, a, w, hs, hx => by
    have hall := loopD_up (c := c) (a := q) (s0 := s0) (fun s r hr => codeD_up hreg k q s r hr) (j + 1) l res h hl
    unfold loopD at h
    obtain ⟨qs, h1, h2⟩ := R.bind_ok h
    obtain ⟨rs, h3, h4⟩ := bindL_mem h1 s hm
    have hups := codeD_up hreg k q s rs h3
    -- each outcome has one behind it in the end
    have hqs : ∀ p ∈ qs, s0.h.n ≤ p.2.h.n ∧ ∀ b ∈ s0.w, b ∈ p.2.w := fun p hp => by
      obtain ⟨x, k1, rx, k2, k3⟩ := bindL_of h1 p hp
      have := codeD_up hreg k q x rx k2
      exact ⟨Nat.le_trans (hl.n x k1) (this.n p k3), fun b hb => this.w p k3 b (hl.w x k1 b hb)⟩
    have hend : (∀ p ∈ qs, p.1 ≠ .normal → p ∈ res) ∧ ((normals qs = [] ∧ True) ∨ ∃ r', loopD c q (fun s => codeD c call ro k q s) s0 j (mergeS c q s0 (normals qs)) = .ok r' ∧ (∀ o ∈ r', o ∈ res) ∧ Up s0 (normals qs)) := by
      split at h2
      · rename_i hn
        cases h2
        exact ⟨fun p hp hne => mem_leavers.2 ⟨hp, hne⟩, .inl ⟨hn, trivial⟩⟩
      · rename_i hn
        obtain ⟨r', h5, h6⟩ := R.bind_ok h2
        cases h6
        exact ⟨fun p hp hne => List.mem_append_left _ (mem_leavers.2 ⟨hp, hne⟩), .inr ⟨r', h5, fun o ho => List.mem_append_right _ ho, ⟨hn, fun o ho => (hqs _ (mem_normals.1 ho)).1, fun o ho => (hqs _ (mem_normals.1 ho)).2⟩⟩⟩
    obtain ⟨he1, he2⟩ := hend
    have hfo : ∀ p ∈ qs, Free ρ0 s0.h.n p.2.h.n := fun p hp => by
      obtain ⟨x, sp⟩ := p
      by_cases hne : x = .normal
      · subst hne
        rcases he2 with ⟨e, _⟩ | ⟨r', h5, h6, h7⟩
        · have := mem_normals.2 hp
          rw [e] at this; cases this
        · obtain ⟨m1, m2⟩ := mergeS_up (c := c) (a := q) h7
          obtain ⟨s', k1, k2⟩ := m2 sp (mem_normals.2 hp)
          obtain ⟨o, k3, k4⟩ := (loopD_up (c := c) (a := q) (s0 := s0) (fun s r hr => codeD_up hreg k q s r hr) j _ r' h5 m1).2 s' k1
          exact (hf o (h6 o k3)).mono (Nat.le_trans k2 k4)
      · exact hf _ (he1 _ hp hne)
    rw [roundsIn_succ]
    refine wpIn_mono (ih s rs h3 ρ a w hs (fun o ho => (hfo o (h4 o ho)).after hx)) ?_
    rintro e a' w' ⟨⟨x, s'⟩, ho, hex, ρ', hs', hx'⟩
    have hp := h4 _ ho
    have hx2 := Ext.after (hfo _ hp) hs0.rel hx hx' (fun b hb => hups.w _ ho b hb)
    cases x with
    | normal =>
      cases e <;> first | exact False.elim hex | skip
      rcases he2 with ⟨e, _⟩ | ⟨r', h5, h6, h7⟩
      · have := mem_normals.2 hp
        rw [e] at this; cases this
      · obtain ⟨m1, m2⟩ := mergeS_up (c := c) (a := q) h7
        have hlater := (loopD_up (c := c) (a := q) (s0 := s0) (fun s r hr => codeD_up hreg k q s r hr) j _ r' h5 m1).2
        obtain ⟨s'', k1, ρ'', k2, k3⟩ := merge_state (q := q) hs0 hs' hx2 (mem_normals.2 hp) (fun s1 hs1 => by
          obtain ⟨o, k3, k4⟩ := hlater s1 hs1
          exact (hf o (h6 o k3)).mono k4)
        have := loop_ok hreg ih hs0 j _ r' h5 (fun o ho => hf o (h6 o ho)) m1 s'' k1 ρ'' a' w' k2 k3
        have hmono : ∀ (n : Nat) (a : Act) (w : World), Code.roundsIn (FW r) 0 c.P q (CQ c base I ρ0 s0 w0 r') n a w → Code.roundsIn (FW r) 0 c.P q (CQ c base I ρ0 s0 w0 res) n a w := by
          intro n
          induction n with
          | zero => intro a w hh; exact hh
          | succ n ihn =>
            intro a w hh
            rw [roundsIn_succ] at hh ⊢
            refine wpIn_mono hh (fun e a w hq => ?_)
            cases e with
            | normal => exact ihn a w hq
            | _ => obtain ⟨o, o1, o2⟩ := hq; exact ⟨o, h6 o o1, o2⟩
        exact hmono j a' w' this
    | exit i =>
      cases e <;> first | exact False.elim hex | skip
      exact ⟨_, he1 _ hp (by simp), hex, ρ', hs', hx2⟩
    | ret =>
      cases e <;> first | exact False.elim hex | skip
      exact ⟨_, he1 _ hp (by simp), trivial, ρ', hs', hx2⟩
end
end Go.Proofs.YthilbhbnimfcmaaDx
