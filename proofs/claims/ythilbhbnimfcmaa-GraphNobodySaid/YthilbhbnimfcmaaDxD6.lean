/- A part of the proof that the interpreter of YthilbhbnimfcmaaDxDx is sound: what it computes of a call, the call comes to in the model. No condition beyond those that each theorem names. -/
import Derived.Test.YthilbhbnimfcmaaDxD5
namespace Go.Proofs.YthilbhbnimfcmaaDx
open Go
set_option linter.unusedVariables false
set_option linter.unusedSimpArgs false
section
variable {c : Cfg} {base : Nat} {I : World → Prop} {call : CallD} {ops : Array Oper} {q : Nat → Q}

theorem any_wp (hc : CfgOk c) (hI : Inv base I) (hcall : CallOk c base I call) (hprim : PrimOk c base I) (h : Run c call ops q) (hm : (q 0).T.m ≤ lim) {w0s : List Nat} {ρ0 : Emb} {w0 : World}
    {a0 : Act} (r : Option Nat) (hr0 : Rel base c.n0 ρ0 (q 0).h.t.get w0) (hfree0 : Free ρ0 (q 0).h.n (q ops.size).h.n) {Qp : Exit → Act → World → Prop}
    (hQ : ∀ S a w ρ W, (∀ j, j < ops.size → S j = true) → INV c base I ops q w0s ρ0 w0 a0 S a w ρ W → Qp .normal a w) :
    ∀ (fuel : Nat) (listed : Array Bool) (a : Act) (w : World) (ρ : Emb) (W : List Nat), listed.size = ops.size → Closed ops q (fun j => listed.getD j false) → INV c base I ops q w0s ρ0 w0 a0 (fun j => listed.getD j false) a w ρ W → cnt (fun j => listed.getD j false) ops.size ≤ fuel →
      wpAnyIn (FW r) 0 c.P .any ops Qp fuel listed a w := by
  have done : ∀ (listed : Array Bool), listed.size = ops.size → Region.ready .any ops listed = [] → ∀ j, j < ops.size → listed.getD j false = true := by
    intro listed hsz hr j
    induction j using Nat.strongRecOn with
    | _ j ih =>
      intro hj
      cases hb : listed.getD j false with
      | true => rfl
      | false =>
        have : j ∈ Region.ready .any ops listed := mem_ready.2 ⟨by
          have hjs : j < listed.size := by omega
          simp [hjs] at hb ⊢
          exact hb, (q j).r.o, h.op hj, fun e he hbd => ih e.on ((h.co hj).edge e (by simpa using he) hbd) (by have := (h.co hj).edge e (by simpa using he) hbd; omega)⟩
        rw [hr] at this
        cases this
  intro fuel
  induction fuel with
  | zero =>
    intro listed a w ρ W hsz hcl hinv hcnt
    have hall := cnt_zero (S := fun j => listed.getD j false) ops.size (by omega)
    refine ⟨?_, hQ _ a w ρ W hall hinv⟩
    cases hr : Region.ready .any ops listed with
    | nil => rfl
    | cons j l =>
      have hj : j ∈ Region.ready .any ops listed := by rw [hr]; simp
      obtain ⟨h1, o, h2, h3⟩ := mem_ready.1 hj
      have hlt : j < ops.size := (Array.getElem?_eq_some_iff.1 h2).1
      have := hall j hlt
      have hjs : j < listed.size := by omega
      simp [hjs] at h1 this
      rw [h1] at this
      cases this
  | succ fuel ih =>
    intro listed a w ρ W hsz hcl hinv hcnt
    refine ⟨fun hr => hQ _ a w ρ W (done listed hsz hr) hinv, fun i hi => ?_⟩
    obtain ⟨h1, o, h2, h3⟩ := mem_ready.1 hi
    have hlt : i < ops.size := (Array.getElem?_eq_some_iff.1 h2).1
    have hil : i < listed.size := by omega
    have ho : (q i).r.o = o := by have := h.op hlt; rw [h2] at this; exact (Option.some.inj this).symm
    have hSi : listed.getD i false = false := by simp [hil] at h1 ⊢; exact h1
    have hS' : (listed.setIfInBounds i true).getD i false = true := by simp [hil]
    have hSo : ∀ j, j ≠ i → (listed.setIfInBounds i true).getD j false = listed.getD j false := fun j hj => getD_set_ne false (fun e => hj e.symm)
    have he : ∀ e ∈ (q i).r.o.after.toList, Region.binds .any e = true → listed.getD e.on false = true := fun e hee hb => h3 e (by rw [ho] at hee; simpa using hee) hb
    refine INV.step (S := fun j => listed.getD j false) (S' := fun j => (listed.setIfInBounds i true).getD j false) hc hI hcall hprim r h hm hr0 hfree0 hinv hcl hlt hSi he hS' hSo (fun a' w' ρ' W' hinv' => ?_)
    refine ih _ a' w' ρ' W' (by simpa using hsz) (fun j hj hSj e hee hb => ?_) hinv' ?_
    · by_cases hji : j = i
      · subst hji
        exact getD_set_true (he e hee hb)
      · have hSj' : listed.getD j false = true := by rw [← hSo j hji]; exact hSj
        exact getD_set_true (hcl j hj hSj' e hee hb)
    · have := cnt_put (S := fun j => listed.getD j false) (S' := fun j => (listed.setIfInBounds i true).getD j false) hSi hS' hSo ops.size hlt
      omega

theorem draw_up : ∀ (l : List Oper) (i : Nat) (rs : List Rec) (T : Tm) (h : Hp) (w : List Nat) (s : Dr), (∀ r ∈ rs, r.n' ≤ lim ∨ r.n' ≤ r.n) → drawD c call ops i l rs T h w = .ok s → h.n ≤ s.h.n ∧ ∀ b ∈ w, b ∈ s.w := by
  intro l i rs T h w s hrs hd
  obtain ⟨q, g1, g2, g3, g4, g5, g6, g7⟩ := drawD_run l i rs T h w s hrs hd
  have key : ∀ k, k ≤ l.length → h.n ≤ (q k).h.n ∧ ∀ b ∈ w, b ∈ (q k).w := by
    intro k
    induction k with
    | zero => intro _; rw [g2, g3]; exact ⟨Nat.le_refl _, fun b hb => hb⟩
    | succ k ih =>
      intro hk
      obtain ⟨i1, i2⟩ := ih (by omega)
      have co := (g7 k (by omega)).2
      exact ⟨Nat.le_trans i1 co.nn, fun b hb => by rw [co.w]; exact List.mem_append_right _ (i2 b hb)⟩
  have := key l.length (Nat.le_refl _)
  rw [g5, g6] at this
  exact this
/-- Every region. -/
theorem regs_ok (hc : CfgOk c) (hI : Inv base I) (hmix : c.P.follows .mixedOrders = true) (hprim : PrimOk c base I) (hcall : CallOk c base I call) : RegOk c base I call := by
  intro ro id ops draw s outs ho
  cases draw with
  | false =>
    simp only [regD, cond_false] at ho
    obtain ⟨l, h1, h2⟩ := R.bind_ok ho
    cases h2
    have u := opsD_up _ _ _ h1
    refine ⟨⟨by simpa using u.ne, fun o ho => ?_, fun o ho b hb => ?_⟩, fun r hro ρ a w hs hf => ?_⟩
    · obtain ⟨x, hx, rfl⟩ := List.mem_map.1 ho; exact u.n x hx
    · obtain ⟨x, hx, rfl⟩ := List.mem_map.1 ho; exact u.w x hx b hb
    · refine wpIn_region_list (ops_wp hc hI hcall hprim hro ops _ s l h1 ρ a w hs (fun o ho => hf _ (List.mem_map.2 ⟨o, ho, rfl⟩)) (fun o ho a' w' ht => ?_))
      exact ⟨_, List.mem_map.2 ⟨o, ho, rfl⟩, trivial, ht⟩
  | true =>
    simp only [regD, cond_true] at ho
    obtain ⟨s', h1, h2⟩ := R.bind_ok ho
    cases h2
    obtain ⟨u1, u2⟩ := draw_up ops.toList 0 [] s.T s.h s.w s' (fun r hr => by cases hr) h1
    refine ⟨⟨by simp, fun o ho => ?_, fun o ho b hb => ?_⟩, fun r hro ρ a w hs hf => ?_⟩
    · simp only [List.mem_singleton] at ho; subst ho; exact u1
    · simp only [List.mem_singleton] at ho; subst ho; exact u2 b hb
    · obtain ⟨q, g1, g2, g3, g4, g5, g6, g7⟩ := drawD_run ops.toList 0 [] s.T s.h s.w s' (fun r hr => by cases hr) h1
      have hlen : ops.toList.length = ops.size := by simp
      rw [hlen] at g4 g5 g6 g7
      have hrun : Run c call ops q := ⟨fun k hk => by
        obtain ⟨k1, k2⟩ := g7 k hk
        rw [List.append_nil, Nat.zero_add] at k2
        exact ⟨by simpa using k1, k2⟩⟩
      have hfree := hf (.normal, ⟨s'.T, s'.h, s'.w, s.d⟩) (by simp)
      have hfree0 : Free ρ (q 0).h.n (q ops.size).h.n := by rw [g2, g5]; exact hfree
      have hrel0 : Rel base c.n0 ρ (q 0).h.t.get w.drew := by
        rw [g2]
        have hr := hs.rel
        exact ⟨fun b o hb => by obtain ⟨k, d, k1, k2⟩ := hr.at_ b o hb; exact ⟨k, d, k1, k2.grow (.drew w) rfl⟩, hr.inj, hr.high, hr.low, hr.sz⟩
      have hIw : I w.drew := hI.on _ _ hs.inv ⟨rfl, rfl, rfl, Nat.le_refl _, fun _ _ => rfl⟩
      have hm : (q 0).T.m ≤ lim := by rw [g1]; exact hs.lim
      refine wpIn_region_any hmix ?_
      show wpAnyIn (FW r) 0 c.P .any ops _ ops.size _ a w.drew
      have hfalse : ∀ j, (Array.replicate ops.size false).getD j false = false := fun j => by
        rw [Array.getD_eq_getD_getElem?, Array.getElem?_replicate]
        split <;> rfl
      have hT0 : ∀ t, fT q (fun j => (Array.replicate ops.size false).getD j false) ops.size t = (q 0).T.get t := fun t => FX_cut 0 ops.size (Nat.zero_le _) (fun j _ _ hj _ => by rw [hfalse j] at hj; cases hj)
      have hH0 : fH q (fun j => (Array.replicate ops.size false).getD j false) ops.size = (q 0).h.t.get := by
        funext b
        exact FX_cut 0 ops.size (Nat.zero_le _) (fun j _ _ hj _ => by rw [hfalse j] at hj; cases hj)
      have hn0 : ∀ b, (q 0).h.n ≤ b → b < (q ops.size).h.n → (q 0).h.t.get b = none := fun b hb1 hb2 => by
        cases e : (q 0).h.t.get b with
        | none => rfl
        | some o => obtain ⟨k, d, hk, _⟩ := hrel0.at_ b o e; rw [hfree0 b hb1 hb2] at hk; cases hk
      refine any_wp (w0s := s.w) (a0 := a) hc hI hcall hprim hrun hm r hrel0 hfree0 (fun S a' w' ρ' W' hall hinv => ?_) ops.size (Array.replicate ops.size false) a w.drew ρ [] (by simp) (fun j hj hSj => absurd ((hfalse j).symm.trans hSj) (by simp)) ?_ ?_
      · -- the end
        have hTN : ∀ t, t < (q 0).T.m → fT q S ops.size t = (q ops.size).T.get t := fun t ht => by
          rw [hrun.T_all hm ops.size (Nat.le_refl _) t ht]
          exact FX_congr ops.size t (fun j hj _ => hall j hj)
        have hHN : fH q S ops.size = (q ops.size).h.t.get := by
          funext b
          rw [hrun.H_all ops.size (Nat.le_refl _) b]
          exact FX_congr ops.size b (fun j hj _ => hall j hj)
        have hmN := hrun.m ops.size (Nat.le_refl _)
        have hext := hinv.ext
        rw [hHN, g2, g5] at hext
        have hwr : ∀ b ∈ s'.w, c.n0 ≤ b := by
          have key : ∀ k, k ≤ ops.size → ∀ b ∈ (q k).w, c.n0 ≤ b := by
            intro k
            induction k with
            | zero => intro _ b hb; rw [g3] at hb; exact hs.wr b hb
            | succ k ih =>
              intro hk b hb
              rw [(hrun.co (k := k) (by omega)).w] at hb
              rcases List.mem_append.1 hb with hb | hb
              · exact hinv.wrn k (by omega) (hall k (by omega)) b hb
              · exact ih (by omega) b hb
          rw [← g6]
          exact key ops.size (Nat.le_refl _)
        have hsub : ∀ b ∈ W', b ∈ s'.w := by
          have key : ∀ k, k ≤ ops.size → (∀ b ∈ s.w, b ∈ (q k).w) ∧ ∀ j, j < k → ∀ b ∈ (q j).r.wr, b ∈ (q k).w := by
            intro k
            induction k with
            | zero => intro _; exact ⟨fun b hb => by rw [g3]; exact hb, fun j hj => by omega⟩
            | succ k ih =>
              intro hk
              obtain ⟨i1, i2⟩ := ih (by omega)
              rw [(hrun.co (k := k) (by omega)).w]
              refine ⟨fun b hb => List.mem_append_right _ (i1 b hb), fun j hj b hb => ?_⟩
              by_cases e : j = k
              · subst e; exact List.mem_append_left _ hb
              · exact List.mem_append_right _ (i2 j (by omega) b hb)
          obtain ⟨k1, k2⟩ := key ops.size (Nat.le_refl _)
          intro b hb
          rw [← g6]
          rcases hinv.wr b hb with h5 | ⟨j, h5, _, h6⟩
          · exact k1 b h5
          · exact k2 j h5 b h6
        have hext' : Ext base c.n0 ρ s.h.t.get s.h.n w ρ' s'.h.t.get s'.h.n s'.w w' := by
          have h5 := hext.weaken hsub hwr
          exact ⟨h5.le, h5.dom, h5.nn, h5.rel, (Grow.drew w).trans h5.grow, fun k hk hw => h5.frame k hk hw, h5.new, h5.old, h5.wr⟩
        refine ⟨(.normal, ⟨s'.T, s'.h, s'.w, s.d⟩), by simp, trivial, ρ', ⟨⟨?_, fun t ht => ?_⟩, by rw [hinv.defers]; exact (hs.dr.le hext'.le).grow hext'.grow, hext'.rel, hinv.glob, ?_, hwr, hinv.inv⟩, hext'⟩
        · rw [← g4, hmN]; exact hinv.size
        · have ht : t < s'.T.m := ht
          show TV ρ' w' (s'.T.get t) _
          rw [← g4] at ht ⊢
          rw [← hTN t (by omega)]
          exact hinv.tr t (by omega)
        · rw [← g4, hmN]; exact hm
      · refine ⟨by rw [g1]; exact hs.tr.size, fun t ht => ?_, rfl, hs.glob, hIw, fun j hj _ => fun b hb1 hb2 => hfree0 b (Nat.le_trans (hrun.mono (Nat.zero_le j) (by omega)) hb1) (Nat.lt_of_lt_of_le hb2 (hrun.mono (j := j + 1) (k := ops.size) (by omega) (Nat.le_refl _))), ?_, (fun b hb => by cases hb), fun j hj hSj => absurd ((hfalse j).symm.trans hSj) (by simp)⟩
        · rw [hT0 t, g1]
          exact (hs.tr.at_ t (by rw [← g1]; exact ht)).grow (.drew w)
        · rw [hH0]
          have hnn := hrun.mono (j := 0) (k := ops.size) (Nat.zero_le _) (Nat.le_refl _)
          exact ⟨.refl ρ, fun b x hb => .inl hb, hnn, hrel0, .refl _, fun _ _ _ => rfl, fun b k d k1 k2 k3 => absurd (hn0 b k1 k2) k3, fun b _ => .inl rfl, fun b hb => by cases hb⟩
      · have : ∀ n, cnt (fun j => (Array.replicate ops.size false).getD j false) n ≤ n := by
          intro n
          induction n with
          | zero => exact Nat.le_refl _
          | succ n ih => unfold cnt; split <;> omega
        exact this ops.size
end
/-- THE INTERPRETER IS SOUND: what it computes of a call, the call comes to. -/
theorem sound {c : Cfg} {base : Nat} {I : World → Prop} (hc : CfgOk c) (hI : Inv base I) (hmix : c.P.follows .mixedOrders = true) (hname : ∀ f fn, c.fns f = some fn → (fn.name == "runtime.NumGoroutine") = false) (hprim : PrimOk c base I) (k : Nat) : CallOk c base I (callD c k) :=
  callD_ok hc hI hname hprim (fun call hcall => regs_ok hc hI hmix hprim hcall) k
#print axioms sound
end Go.Proofs.YthilbhbnimfcmaaDx
