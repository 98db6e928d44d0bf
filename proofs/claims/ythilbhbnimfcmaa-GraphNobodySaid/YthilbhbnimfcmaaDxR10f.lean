/- A part of the proof that the interpreter of YthilbhbnimfcmaaDxDx is sound: what it computes of a call, the call comes to in the model. No condition beyond those that each theorem names. -/
import Derived.Test.YthilbhbnimfcmaaDxR10e
namespace Go.Proofs.YthilbhbnimfcmaaDx
open Go
set_option linter.unusedVariables false
set_option linter.unusedSimpArgs false
section
variable {c : Cfg} {base : Nat} {ρ : Emb} {h : Hp} {w : World} {T : Tm} {a : Act} {outs : List Out}

theorem findB_some {s : Nat} : ∀ {es : List Ent} {es' : List MapEntry} {i : Nat} {p : Nat × Ent}, findB s es i = some p → ERL ρ w es es' → i ≤ p.1 ∧ es[p.1 - i]? = some p.2 ∧ es'.findIdx? (fun e => (e.born : Int) == (s : Int)) = some (p.1 - i)
  | [], es', i, p, h, he => by cases h
  | e :: es, l, i, p, h, he => by
    obtain ⟨e', es', rfl, ⟨h1, h2, h3⟩, h4⟩ := he.cases_cons
    unfold findB at h
    rw [List.findIdx?_cons]
    cases hb : Nat.beq e.2.2 s with
    | true =>
      rw [hb] at h
      cases h
      have : ((e'.born : Int) == (s : Int)) = true := by rw [h3, beq_t hb]; simp
      rw [this]
      simp
    | false =>
      rw [hb] at h
      simp only [cond_false] at h
      obtain ⟨g1, g2, g3⟩ := findB_some h h4
      have hne : e.2.2 ≠ s := fun e => by rw [e] at hb; simp at hb
      have : ((e'.born : Int) == (s : Int)) = false := by rw [h3]; simpa using fun e => hne (by exact_mod_cast e)
      rw [this, g3]
      obtain ⟨m, hm⟩ : ∃ m, p.1 - i = m + 1 := ⟨p.1 - (i + 1), by omega⟩
      have hm' : p.1 - (i + 1) = m := by omega
      rw [hm'] at g2 ⊢
      exact ⟨by omega, by rw [hm]; simpa using g2, by rw [hm]; simp⟩
theorem goes_entryStore (hc : CfgOk c) {t : TypeId} {x y s s' v v' : Value} (hr : Rel base c.n0 ρ h.t.get w) (hx : VR ρ w x y) (hs : VR ρ w s s') (hv : VR ρ w v v') (ho : entryStoreD c h x s v = some outs)
    {res : Result Next} (he : res = ((do Instr.entryStore t y s' v'; pure .skip) : Sem Next).run c.P w) : Goes c base ρ h w outs res := by
  unfold entryStoreD at ho
  obtain ⟨r, e1, ho⟩ := Option.bind_eq_some_iff.1 ho
  obtain ⟨n, e2, ho⟩ := Option.bind_eq_some_iff.1 ho
  obtain ⟨m, e3, ho⟩ := Option.bind_eq_some_iff.1 ho
  obtain ⟨p, e4, ho⟩ := Option.bind_eq_some_iff.1 ho
  obtain ⟨q, e6, rfl⟩ := Option.map_eq_some_iff.1 ho
  obtain ⟨b, d, g1, rfl⟩ := VR.mapR e1 hx
  obtain ⟨es', g2, g3⟩ := map_block hr e3 g1
  unfold stampV at e2
  split at e2
  · rename_i k z
    obtain rfl := natOf_some e2
    cases hs
    obtain ⟨_, f2, f3⟩ := findB_some e4 g3
    simp only [Nat.sub_zero] at f2 f3
    have f3' : es'.findIdx? (fun e => (e.born : Int) == (n : Int)) = some p.1 := by
      obtain ⟨l⟩ := es'
      simpa using f3
    refine goes_out1 ?_
    refine goes_putO (ob' := .map (es'.modify p.1 fun e => { e with val := v' }) m.2) hr (mapAt_some e3) g1 e6 g2 nomap (.refl w) rfl ?_ (.inr ⟨?_, rfl⟩) (fun w' _ => .undef)
    · have gr := Grow.putO (.map (es'.modify p.1 fun e => { e with val := v' }) m.2) (.refl w) rfl g2 nomap
      refine OR.map_iff.2 ⟨_, World.putObj_heap_same (hr.low _ _ _ g1), ?_⟩
      refine (g3.grow gr).mod (fun u hu' => ?_)
      obtain ⟨c1, c2, c3⟩ := g3.2 _ _ u f2 (by simpa using hu')
      exact ⟨c1, hv.grow gr, c3⟩
    · rw [he]
      simp only [Instr.entryStore, Sem.run_bind, Result.andThen, run_getMap g2, asInt, asIntOf, Sem.run_pure, f3', run_setO _ g2 nomap]
  · cases e2

/-- A new block that is no row of cells. -/
theorem goes_newO {o : Ob} {f : Nat → Value} {ob : Obj} {v' : Value} {x : Result Next} (ho : newO h o f = some outs) (hr : Rel base c.n0 ρ h.t.get w) (hfree : ∀ v h' W, (v, h', W) ∈ outs → Free ρ h.n h'.n)
    (hO : ∀ ρ', ρ.le ρ' → OR ρ' (w.alloc ob) w.heap.size 0 o) (hx : x = .ok (.value v') (w.alloc ob)) (hv : ∀ ρ' w', ρ' h.n = some (w.heap.size, 0) → VR ρ' w' (f h.n) v') : Goes c base ρ h w outs x := by
  unfold newO at ho
  obtain ⟨h', hn, rfl⟩ := Option.map_eq_some_iff.1 ho
  have hn1 : h'.n = h.n + 1 := by
    unfold newD at hn
    cases e : Nat.blt h.n lim with
    | false => rw [e] at hn; cases hn
    | true => rw [e] at hn; obtain rfl := Option.some.inj hn; rfl
  have hfr0 : ρ h.n = none := hfree (f h.n) h' [] (by simp) h.n (Nat.le_refl _) (by omega)
  have hxx := Ext.new' (ob := ob) hr hfr0 hn (.refl w) rfl (hO _ (Emb.le_put hfr0))
  exact ⟨_, _, _, by simp, v', _, _, .inl hx, hv _ _ (Emb.put_same _ _ _), hxx.1⟩
theorem VR.ptr0 {ρ' : Emb} {w' : World} {b k : Nat} (hb : ρ' b = some (k, 0)) : VR ρ' w' (_root_.Go.Proofs.YthilbhbnimfcmaaDx.ptr0 b) (.pointer (some ⟨k, 0, none⟩)) := .ptr b 0 k 0 hb
theorem goes_makeMap (hc : CfgOk c) {t : TypeId} {r : Option Value} {r' : Option Value} (hr : Rel base c.n0 ρ h.t.get w) (hv : OV ρ w r r') (ho : makeMapD c h t r = some outs) (hfree : ∀ v h' W, (v, h', W) ∈ outs → Free ρ h.n h'.n)
    {res : Result Next} (he : res = ((do pure (Next.value (← Instr.makeMap t r')) : Sem Next)).run c.P w) : Goes c base ρ h w outs res := by
  unfold makeMapD at ho
  split at ho
  · cases r' with
    | some y => cases hv
    | none => exact goes_newO (ob := .map #[] 0) (v' := .map (some w.heap.size)) ho hr hfree (fun ρ' _ => OR.map_iff.2 ⟨#[], World.alloc_heap_new w _, ERL.nil⟩) (by rw [he]; rfl) (fun ρ' w' hρ => .map _ _ _ hρ)
  · cases r' with
    | none => cases hv
    | some y =>
      split at ho
      · rename_i kt et hu
        cases hv
        refine goes_newO (ob := .map #[] 0) (v' := .map (some w.heap.size)) ho hr hfree (fun ρ' _ => OR.map_iff.2 ⟨#[], World.alloc_heap_new w _, ERL.nil⟩) ?_ (fun ρ' w' hρ => .map _ _ _ hρ)
        rw [he]
        simp only [Instr.makeMap, Sem.run_bind, run_und hc hu, Result.andThen, asInt, asIntOf, Sem.run_pure]
        rfl
      · cases ho
  · cases ho
theorem goes_range (hc : CfgOk c) {t : TypeId} {x y : Value} (hr : Rel base c.n0 ρ h.t.get w) (hx : VR ρ w x y) (ho : rangeD c h t x = some outs) (hfree : ∀ v h' W, (v, h', W) ∈ outs → Free ρ h.n h'.n)
    {res : Result Next} (he : res = ((do pure (Next.value (← Instr.range t y)) : Sem Next)).run c.P w) : Goes c base ρ h w outs res := by
  unfold rangeD at ho
  split at ho
  · rename_i s hu
    cases hx
    refine goes_newO (ob := .stringIter s 0) (v' := .pointer (some ⟨w.heap.size, 0, none⟩)) ho hr hfree (fun ρ' _ => ⟨rfl, World.alloc_heap_new w _⟩) ?_ (fun ρ' w' hρ => VR.ptr0 hρ)
    rw [he]
    simp only [Instr.range, Sem.run_bind, run_und hc hu, Result.andThen, Sem.run_pure]
    rfl
  · rename_i hu
    cases hx
    refine goes_newO (ob := .mapIter none 0 #[] 0) (v' := .pointer (some ⟨w.heap.size, 0, none⟩)) ho hr hfree (fun ρ' _ => ⟨none, #[], .inl ⟨rfl, rfl⟩, by simp, rfl, rfl, World.alloc_heap_new w _⟩) ?_ (fun ρ' w' hρ => VR.ptr0 hρ)
    rw [he]
    simp only [Instr.range, Sem.run_bind, run_und hc hu, Result.andThen, Sem.run_pure]
    rfl
  · rename_i m hu
    obtain ⟨p, e1, ho⟩ := Option.bind_eq_some_iff.1 ho
    cases hx with
    | map r k d hb =>
      obtain ⟨es', g2, g3⟩ := map_block hr e1 hb
      refine goes_newO (ob := .mapIter (some k) p.2 #[] p.2) (v' := .pointer (some ⟨w.heap.size, 0, none⟩)) ho hr hfree (fun ρ' hle => ⟨some k, #[], .inr ⟨m, k, d, rfl, hle _ _ hb, rfl⟩, by simp, rfl, rfl, World.alloc_heap_new w _⟩) ?_ (fun ρ' w' hρ => VR.ptr0 hρ)
      rw [he]
      simp only [Instr.range, Sem.run_bind, run_und hc hu, Result.andThen, Sem.run_pure, run_getMap g2]
      rfl
  · cases ho
end
end Go.Proofs.YthilbhbnimfcmaaDx
