/- A part of the proof that the interpreter of YthilbhbnimfcmaaDxDx is sound: what it computes of a call, the call comes to in the model. No condition beyond those that each theorem names. -/
import Derived.Test.YthilbhbnimfcmaaDxR14b
namespace Go.Proofs.YthilbhbnimfcmaaDx
open Go
set_option linter.unusedVariables false
set_option linter.unusedSimpArgs false
section
variable {c : Cfg} {base : Nat} {I : World → Prop} {call : CallD}

theorem nocell_loop {l : Loop} : ∀ cs el fr, (Obj.loop l) ≠ .cells cs el fr := fun _ _ _ e => by cases e
/-- A range over a function. -/
theorem range_ok (hc : CfgOk c) (hI : Inv base I) (hcall : CallOk c base I call) (hprim : PrimOk c base I) {g : Operand} {v : Value} {ps : Array Tmp} {asg bd : Code} {s : St} {res : List (Ex × St)} (hg : ev c s.T g = some v) (h : rangeFD c call v ps.toList asg bd s = .ok res)
    {ρ : Emb} {a : Act} {w : World} (hs : SR c base I ρ s a w) (hf : ∀ o ∈ res, Free ρ s.h.n o.2.h.n) : (Code.rangeFunc g ps asg bd).wpIn (FW none) 0 c.P (CQ c base I ρ s w res) a w := by
  obtain ⟨f, fst, cap, outs, rfl, hlim, hn0, hcallr, hne, hnn, hrdy, rfl⟩ := rangeFD_some h
  have hgv := hs.tr.ev hs.glob g _ hg
  generalize hge : a.eval g = ge at hgv
  cases hgv with
  | func fn hfn xs ys xs' ys' a1 a2 a3 a4 =>
    have hfo : ∀ o ∈ outs, Free ρ s.h.n o.2.1.n := fun o ho => hf _ (List.mem_map.2 ⟨o, ho, rfl⟩)
    obtain ⟨o0, ho0⟩ := List.exists_mem_of_ne_nil outs hne
    have hfree2 : Free ρ s.h.n (s.h.n + 2) := (hfo o0 ho0).mono (hnn o0 ho0)
    refine wpIn_rangeFunc (fun fnid _ => ?_)
    -- the two blocks
    have e1 : newD s.h .dfb = some ⟨s.h.t.put s.h.n (some .dfb), s.h.n + 1⟩ := by
      unfold newD
      rw [show Nat.blt s.h.n lim = true from by rw [Nat.blt_eq]; omega]
      rfl
    have x1 := Ext.new' (c := c) (h := s.h) (w := w) (w1 := w) (ob := .deferred (some [])) (o := .dfb) hs.rel (hfree2 _ (Nat.le_refl _) (by omega)) e1 (.refl w) rfl ⟨rfl, World.alloc_heap_new w _⟩
    obtain ⟨x1, _⟩ := x1
    have hfree1 : (ρ.put s.h.n (w.heap.size, 0)) (s.h.n + 1) = none := by
      unfold Emb.put
      rw [if_neg (by omega)]
      exact hfree2 _ (by omega) (by omega)
    have e2 : newD ⟨s.h.t.put s.h.n (some .dfb), s.h.n + 1⟩ (.loop false s.T.t s.T.m ps.toList asg bd s.h.n) = some ⟨(s.h.t.put s.h.n (some .dfb)).put (s.h.n + 1) (some (.loop false s.T.t s.T.m ps.toList asg bd s.h.n)), s.h.n + 2⟩ := by
      unfold newD
      simp only
      rw [show Nat.blt (s.h.n + 1) lim = true from by rw [Nat.blt_eq]; omega]
      rfl
    have hsz1 : (w.alloc (.deferred (some []))).heap.size = w.heap.size + 1 := by show (w.heap.push _).size = _; simp
    have x2 := Ext.new' (c := c) (h := ⟨s.h.t.put s.h.n (some .dfb), s.h.n + 1⟩) (w := w.alloc (.deferred (some []))) (w1 := w.alloc (.deferred (some []))) (ob := loopRec false fnid a.tmps ps.toList asg bd w.heap.size) (o := .loop false s.T.t s.T.m ps.toList asg bd s.h.n) x1.rel hfree1 e2 (.refl _) rfl
      ⟨fnid, a.tmps, w.heap.size, 0, rfl, World.alloc_heap_new _ _, hs.tr.size, fun j hj => ((hs.tr.at_ j hj).le (x1.le.trans (Emb.le_put hfree1))).grow ((Grow.alloc _ _).trans (Grow.alloc _ _)), (Emb.le_put hfree1) _ _ (Emb.put_same _ _ _)⟩
    obtain ⟨x2, _⟩ := x2
    have x12 := Ext.trans hfree2 hs.rel x1 x2
    simp only [List.append_nil] at x12
    generalize hρ : (ρ.put s.h.n (w.heap.size, 0)).put (s.h.n + 1) ((w.alloc (.deferred (some []))).heap.size, 0) = ρ1 at x12
    have hρn : ρ1 s.h.n = some (w.heap.size, 0) := by rw [← hρ]; unfold Emb.put; rw [if_neg (by omega), if_pos rfl]
    have hρn1 : ρ1 (s.h.n + 1) = some (w.heap.size + 1, 0) := by rw [← hρ, ← hsz1]; exact Emb.put_same _ _ _
    generalize hw2 : (w.alloc (.deferred (some []))).alloc (loopRec false fnid a.tmps ps.toList asg bd w.heap.size) = w2 at x12
    -- the call
    have hargs : VRL ρ1 w2 (fst.toList ++ [yieldV (s.h.n + 1)] ++ cap.toList) ((xs'.toList ++ [Value.func (.yield (w.heap.size + 1)) #[] #[]]) ++ ys'.toList) :=
      ((((⟨a1, a2⟩ : VRL ρ w fst.toList xs'.toList).le x12.le).grow x12.grow).append (VRL.cons (.yld _ _ 0 hρn1) VRL.nil)).append (((⟨a3, a4⟩ : VRL ρ w cap.toList ys'.toList).le x12.le).grow x12.grow)
    have hglob := hs.glob.le x12.le
    have hinv := hI.on _ _ hs.inv (x12.low hs.rel)
    obtain ⟨fn', k1, k2, k3, k4⟩ := callF_ok hcall hprim hcallr (ρ := ρ1) (w := w2) ⟨hargs, x12.rel, hglob, hinv, fun o ho => (hfo o ho).after x12⟩
    have harr : xs' ++ #[Value.func (.yield (w.heap.size + 1)) #[] #[]] ++ ys' = ((xs'.toList ++ [Value.func (.yield (w.heap.size + 1)) #[] #[]]) ++ ys'.toList).toArray := Array.ext' (by simp)
    refine ⟨w.heap.size + 1, [{ target := .collected w.heap.size, args := #[] }], w2, { target := .fn (.func f) ys', args := xs' ++ #[.func (.yield (w.heap.size + 1)) #[] #[]] }, w2, f, _, w2, ?_, ?_, fun _ _ => trivial, ?_, fun hd => by simp [FW, Fence.wide] at hd, CallsIn.mono (calls_FW k4) ?_⟩
    · have := run_enterLoop_outer (P := c.P) (w := w) fnid a.tmps ps asg bd
      rw [← hw2]
      exact this
    · have hmap : (rangeCall g (w.heap.size + 1)).args.map a.eval = #[Value.func (.yield (w.heap.size + 1)) #[] #[]] := by simp [Act.eval]
      show (Deferred.ofValue (a.eval g) ((rangeCall g (w.heap.size + 1)).args.map a.eval)).run c.P w2 = _
      rw [hmap, hge]
      rfl
    · simp only [invoke]
      rw [harr]
      exact run_callFunc k1 k2 k3
    · rintro e w3 ⟨o, ho, v', ρ2, rfl, m2, m3⟩
      obtain ⟨t, m, ps2, asg2, bd2, db2, hlp⟩ := hrdy o ho
      obtain ⟨kk, dd, g1, g2⟩ := m3.rel.at_ _ _ hlp
      have hle2 := m3.le _ _ hρn1
      rw [hle2] at g1
      cases g1
      obtain ⟨fn2, tmps2, kd, dd2, _, g3, g4, g5, g6⟩ := g2
      have hrun := run_endLoop (P := c.P) (w := w3) (l := w.heap.size + 1) g3 (by intro hh; cases hh)
      refine ⟨none, _, hrun, ?_⟩
      have hfr2 : Free ρ s.h.n o.2.1.n := hfo o ho
      have x3 := Ext.trans hfr2 hs.rel x12 m3
      simp only [List.append_nil] at x3
      have x4 := Ext.setO (c := c) (h := o.2.1) (o' := none) (ob' := .loop { state := .exhausted, pending := none, fn := fn2, tmps := tmps2, params := ps2.toArray, assign := asg2, body := bd2, defers := kd }) m3.rel hlp hle2 (by omega) (by omega) g3 nocell_loop (.refl w3) rfl (fun x hx => by cases hx)
      have x5 := Ext.trans hfr2 hs.rel x3 x4
      have hwr : ∀ b ∈ (s.h.n + 1) :: (o.2.2 ++ s.w), c.n0 ≤ b := fun b hb => by
        rcases List.mem_cons.1 hb with rfl | hb
        · omega
        · rcases List.mem_append.1 hb with hb | hb
          · exact m3.wr b hb
          · exact hs.wr b hb
      have x6 := x5.weaken (W' := (s.h.n + 1) :: (o.2.2 ++ s.w)) (fun b hb => by simp at hb ⊢; rcases hb with rfl | hb; exact .inl rfl; exact .inr (.inl hb)) hwr
      refine ⟨_, List.mem_map.2 ⟨o, ho, rfl⟩, trivial, ρ2, ⟨⟨hs.tr.size, fun j hj => ((hs.tr.at_ j hj).le x6.le).grow x6.grow⟩, ⟨⟨w.heap.size, m3.le _ _ hρn, rfl⟩, (hs.dr.le x6.le).grow x6.grow⟩, x6.rel, hs.glob.le x6.le, hs.lim, hwr, hI.on _ _ hs.inv (x6.low hs.rel)⟩, x6⟩
/-- Code. -/
theorem code_wp (hc : CfgOk c) (hI : Inv base I) (hcall : CallOk c base I call) (hprim : PrimOk c base I) (hreg : RegOk c base I call) {ro : Bool} {r : Option Nat} (hro : ro = false → r = none) : ∀ (k : Nat) (q : Code) (s : St) (outs : List (Ex × St)), codeD c call ro k q s = .ok outs → ∀ (ρ : Emb) (a : Act) (w : World), SR c base I ρ s a w → (∀ o ∈ outs, Free ρ s.h.n o.2.h.n) →
    q.wpIn (FW r) 0 c.P (CQ c base I ρ s w outs) a w
  | 0, q, s, outs, h, ρ, a, w, hs, hf => by cases h
  | k + 1, q, s, outs, h, ρ, a, w, hs, hf => by
    have ih := code_wp hc hI hcall hprim hreg hro k
    have stay : ∀ (_ : Nat), To c base I ρ s w s a w := fun _ => ⟨ρ, hs, (Ext.refl hs.rel).weaken (fun b hb => by cases hb) hs.wr⟩
    cases q with
    | skip => cases h; exact wpIn_skip ⟨_, List.mem_singleton.2 rfl, trivial, stay 0⟩
    | label l => cases h; exact wpIn_label ⟨_, List.mem_singleton.2 rfl, trivial, stay 0⟩
    | exit id => cases h; exact wpIn_exit ⟨_, List.mem_singleton.2 rfl, rfl, stay 0⟩
    | ret => cases h; exact wpIn_ret ⟨(.ret, s), List.mem_singleton.2 rfl, trivial, stay 0⟩
    | region id ops d => exact (hreg ro id ops d s outs h).2 r hro ρ a w hs hf
    | scope q => cases h
    | cond x qa qb =>
      simp only [codeD] at h
      split at h
      · rename_i v hv
        have hx := hs.tr.ev hs.glob x _ hv
        generalize hxe : a.eval x = xe at hx
        cases hx
        refine wpIn_cond hxe ?_
        cases v
        · exact ih qb s outs h ρ a w hs hf
        · exact ih qa s outs h ρ a w hs hf
      · cases h
    | seq qa qb =>
      simp only [codeD] at h
      obtain ⟨l, h1, h2⟩ := R.bind_ok h
      have hupl := codeD_up hreg k qa s l h1
      have hstep : ∀ o ∈ l, ∃ rx, (match o.1 with | .normal => codeD c call ro k qb o.2 | e => .ok [(e, o.2)]) = R.ok rx ∧ (∀ y ∈ rx, y ∈ outs) ∧ UpX o.2 rx := fun o ho => by
        obtain ⟨rx, k1, k2⟩ := bindL_mem h2 o ho
        refine ⟨rx, k1, k2, ?_⟩
        obtain ⟨e, s'⟩ := o
        cases e with
        | normal => exact codeD_up hreg k qb s' rx k1
        | exit i => cases k1; exact UpX.one _ _
        | ret => cases k1; exact UpX.one _ _
      have hfl : ∀ o ∈ l, Free ρ s.h.n o.2.h.n := fun o ho => by
        obtain ⟨rx, k1, k2, k3⟩ := hstep o ho
        obtain ⟨y, hy⟩ := List.exists_mem_of_ne_nil rx k3.ne
        exact (hf y (k2 y hy)).mono (k3.n y hy)
      refine wpIn_seq (wpIn_mono (ih qa s l h1 ρ a w hs hfl) ?_)
      rintro e a' w' ⟨⟨x, s'⟩, ho, hex, ρ', hs', hx'⟩
      obtain ⟨rx, k1, k2, k3⟩ := hstep _ ho
      cases x with
      | normal =>
        cases e <;> first | exact False.elim hex | skip
        refine wpIn_mono (ih qb s' rx k1 ρ' a' w' hs' (fun y hy => (hf y (k2 y hy)).after hx')) ?_
        rintro e a'' w'' ⟨o, o1, o2, o3⟩
        exact ⟨o, k2 o o1, o2, To.comp (hf o (k2 o o1)) hs hx' o3 (fun b hb => k3.w o o1 b hb)⟩
      | exit i =>
        cases k1
        cases e <;> first | exact False.elim hex | skip
        exact ⟨_, k2 _ (by simp), hex, ρ', hs', hx'⟩
      | ret =>
        cases k1
        cases e <;> first | exact False.elim hex | skip
        exact ⟨(.ret, s'), k2 _ (by simp), trivial, ρ', hs', hx'⟩
    | loop q =>
      simp only [codeD] at h
      exact wpIn_loop_rounds k (loop_ok hreg (ih q) hs k [s] outs h hf ⟨by simp, by simp, by simp⟩ s (by simp) ρ a w hs ((Ext.refl hs.rel).weaken (fun b hb => by cases hb) hs.wr))
    | block id q =>
      simp only [codeD] at h
      obtain ⟨l, h1, h2⟩ := R.bind_ok h
      cases h2
      have hb : ∀ p : Ex × St, (blockX id p).2 = p.2 := fun p => by obtain ⟨e, s⟩ := p; cases e <;> rfl
      refine wpIn_block (wpIn_mono (ih q s l h1 ρ a w hs (fun o ho => by have := hf _ (List.mem_map.2 ⟨o, ho, rfl⟩); rw [hb] at this; exact this)) ?_)
      rintro e a' w' ⟨⟨x, s'⟩, hx, hex, ht⟩
      have hm := List.mem_map_of_mem (f := blockX id) hx
      cases x with
      | normal => cases e <;> first | exact False.elim hex | exact ⟨_, hm, trivial, ht⟩
      | ret => cases e <;> first | exact False.elim hex | exact ⟨_, hm, trivial, ht⟩
      | exit i =>
        cases e <;> first | exact False.elim hex | skip
        rename_i j
        obtain rfl : i = j := hex
        have hm : ((bif Nat.beq i id then Ex.normal else Ex.exit i, s') : Ex × St) ∈ l.map (blockX id) := hm
        by_cases hid : i = id
        · subst hid
          simp only [Exit.inBlock, if_true]
          rw [show Nat.beq i i = true from by simp] at hm
          exact ⟨_, hm, trivial, ht⟩
        · simp only [Exit.inBlock, if_neg hid]
          rw [beq_f hid] at hm
          exact ⟨_, hm, rfl, ht⟩
    | rangeFunc g ps as bd =>
      simp only [codeD] at h
      cases ro with
      | true => cases h
      | false =>
        obtain rfl := hro rfl
        simp only [cond_false] at h
        split at h
        · rename_i v hv; exact range_ok hc hI hcall hprim hv h hs hf
        · cases h
    | goto l => cases h
    | refuse w => cases h
end
end Go.Proofs.YthilbhbnimfcmaaDx
