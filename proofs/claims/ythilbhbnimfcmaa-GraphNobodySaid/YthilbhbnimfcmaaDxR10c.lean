/- A part of the proof that the interpreter of YthilbhbnimfcmaaDxDx is sound: what it computes of a call, the call comes to in the model. No condition beyond those that each theorem names. -/
import Derived.Test.YthilbhbnimfcmaaDxR10b
import Derived.RangeFuncRecord
namespace Go.Proofs.YthilbhbnimfcmaaDx
open Go
set_option linter.unusedVariables false
set_option linter.unusedSimpArgs false

/-- A value that points nowhere stands for itself alone. -/
theorem VR.pf_eq {ρ : Emb} {w : World} {v v' : Value} (h : pf v = true) (hv : VR ρ w v v') : v' = v := by
  cases hv <;> first | rfl | (simp [pf] at h; done)
theorem VR.pure_eq {ρ : Emb} {w : World} : ∀ (n : Nat) {v v' : Value}, pfd n v = true → VR ρ w v v' → v' = v
  | 0, v, v', h, hv => VR.pf_eq h hv
  | n + 1, v, v', h, hv => by
    have key : ∀ (xs ys : Array Value), xs.toList.all (pfd n) = true → xs.toList.length = ys.toList.length → (∀ (i : Nat) x y, xs.toList[i]? = some x → ys.toList[i]? = some y → VR ρ w x y) → ys = xs := by
      intro xs ys ha hl hh
      apply Array.ext'
      apply List.ext_getElem? fun i => ?_
      cases hx : xs.toList[i]? with
      | none => rw [List.getElem?_eq_none_iff] at hx; rw [List.getElem?_eq_none_iff]; omega
      | some x =>
        have hi : i < xs.toList.length := (List.getElem?_eq_some_iff.1 hx).1
        have hy : ys.toList[i]? = some (ys.toList[i]'(by omega)) := List.getElem?_eq_getElem _
        rw [hy, VR.pure_eq n (List.all_eq_true.1 ha x (List.mem_of_getElem? hx)) (hh i x _ hx hy)]
    cases hv with
    | agg xs ys h1 h2 => rw [key xs ys h h1 h2]
    | tuple xs ys h1 h2 => rw [key xs ys h h1 h2]
    | _ => first | rfl | (simp [pfd, pf] at h; done)
theorem scal_cases {d : Option TypeDesc} {v : Value} (h : scal d v = true) : (∃ k k' n, d = some (.int k) ∧ v = .int k' n) ∨ (∃ s, d = some .string ∧ v = .string s) ∨ (∃ b, d = some .bool ∧ v = .bool b) := by
  unfold scal at h
  split at h <;> first | exact .inl ⟨_, _, _, rfl, rfl⟩ | exact .inr (.inl ⟨_, rfl, rfl⟩) | exact .inr (.inr ⟨_, rfl, rfl⟩) | cases h
theorem scal_pf {d : Option TypeDesc} {v : Value} (h : scal d v = true) : pf v = true := by
  unfold scal at h
  split at h <;> first | rfl | cases h
theorem pf_pfd {n : Nat} {v : Value} (h : pf v = true) : pfd n v = true := by
  cases n with
  | zero => exact h
  | succ n => cases v <;> first | exact h | (simp [pf] at h; done)
theorem keyOk_pure {c : Cfg} {t : TypeId} {v : Value} (h : keyOk c t v = true) : pfd 1 v = true := by
  unfold keyOk at h
  split at h
  · simp only [Bool.and_eq_true] at h; exact h.1
  · exact pf_pfd (scal_pf h)

section
variable {c : Cfg} {base : Nat} {ρ : Emb} {h : Hp} {w : World} {T : Tm} {a : Act} {outs : List Out}

theorem run_getO {P : Program} {w : World} {k : Nat} {ob : Obj} (hb : w.heap[k]? = some ob) (hn : ∀ cs el fr, ob ≠ .cells cs el fr) : (getObj k).run P w = .ok ob w := by
  cases ob <;> first | exact absurd rfl (hn _ _ _) | simp [getObj, Sem.run, hb]
theorem run_setO {P : Program} {w : World} {k : Nat} {ob : Obj} (o : Obj) (hb : w.heap[k]? = some ob) (hn : ∀ cs el fr, ob ≠ .cells cs el fr) : (setObj k o).run P w = .ok () (w.putObj k o) := by
  cases ob <;> first | exact absurd rfl (hn _ _ _) | simp [setObj, Sem.run, hb, World.putObj]
theorem Grow.putO {w w1 : World} {k : Nat} {ob : Obj} (ob' : Obj) (g : Grow w w1) (hh : w1.heap = w.heap) (hb : w.heap[k]? = some ob) (hn : ∀ cs el fr, ob ≠ .cells cs el fr) : Grow w (w1.putObj k ob') :=
  ⟨by rw [World.putObj_size]; exact g.size, g.os, g.tape, g.output, fun j cs el fr hj => by
    have hne : j ≠ k := fun e => by subst e; rw [hb] at hj; cases hj; exact hn _ _ _ rfl
    exact ⟨cs, by rw [World.putObj_heap_other hne, hh]; exact hj, rfl⟩⟩
/-- A block that is no row of cells becomes another. -/
theorem Ext.setO {w1 : World} {b k d : Nat} {o : Ob} {o' : Option Ob} {ob ob' : Obj} (hr : Rel base c.n0 ρ h.t.get w) (hb : h.t.get b = some o) (hk : ρ b = some (k, d)) (h0 : c.n0 ≤ b) (hlim : b < lim)
    (hob : w.heap[k]? = some ob) (hn : ∀ cs el fr, ob ≠ .cells cs el fr) (g : Grow w w1) (hh : w1.heap = w.heap) (ho : ∀ x, o' = some x → OR ρ (w1.putObj k ob') k d x) :
    Ext base c.n0 ρ h.t.get h.n w ρ (h.t.put b o').get h.n [b] (w1.putObj k ob') := by
  have hg := Grow.putO ob' g hh hob hn
  have hoth : ∀ j, j ≠ k → (w1.putObj k ob').heap[j]? = w.heap[j]? := fun j hj => by rw [World.putObj_heap_other hj, hh]
  have hlive : ∀ b', (h.t.put b o').get b' ≠ none → h.t.get b' ≠ none := fun b' hn => by
    by_cases e : b' = b
    · subst e; rw [hb]; simp
    · rwa [PT.get_put_other _ _ _ _ e] at hn
  refine ⟨.refl ρ, fun b x hb => .inl hb, Nat.le_refl _, ⟨fun b' o2 hb' => ?_, fun b1 b2 k1 d1 d2 hb1 hb2 => hr.inj b1 b2 k1 d1 d2 (hlive b1 hb1) (hlive b2 hb2), hr.high, fun b' k' d' hb' => Nat.lt_of_lt_of_le (hr.low b' k' d' hb') hg.size, Nat.le_trans hr.sz hg.size⟩, hg, fun j hj hw => ?_, fun b' k' d' h1 h2 => by omega, fun b' hb' => ?_, fun b' hb' => by simp at hb'; omega⟩
  · by_cases e : b' = b
    · subst e
      rw [PT.get_put_same _ _ _ hlim] at hb'
      exact ⟨k, d, hk, ho o2 hb'⟩
    · rw [PT.get_put_other _ _ _ _ e] at hb'
      obtain ⟨k', d', f1, f2⟩ := hr.at_ b' o2 hb'
      refine ⟨k', d', f1, f2.grow hg (hoth k' (fun ek => ?_))⟩
      subst ek
      exact e (hr.inj b' b k' d' d (by rw [hb']; simp) (by rw [hb]; simp) f1 hk)
  · exact hoth j (fun e => hw b (by simp) (by rw [hb]; simp) d (by rw [e]; exact hk))
  · by_cases e : b' = b
    · subst e; exact .inr ⟨by simp, by rw [hb]; simp⟩
    · exact .inl (PT.get_put_other _ _ _ _ e)
/-- Entries, one by one. -/
def ERL (ρ : Emb) (w : World) (es : List Ent) (es' : List MapEntry) : Prop := es.length = es'.length ∧ ∀ (j : Nat) e e', es[j]? = some e → es'[j]? = some e' → e'.key = e.1 ∧ VR ρ w e.2.1 e'.val ∧ e'.born = e.2.2
theorem OR.map_iff {k d : Nat} {es : List Ent} {clock : Nat} : OR ρ w k d (.map es clock) ↔ ∃ es', w.heap[k]? = some (.map es' clock) ∧ ERL ρ w es es'.toList := by
  constructor
  · rintro ⟨es', h1, h2, h3⟩; exact ⟨es', h1, by simpa using h2, fun j e e' he he' => h3 j e e' he (by simpa using he')⟩
  · rintro ⟨es', h1, h2, h3⟩; exact ⟨es', h1, by simpa using h2, fun j e e' he he' => h3 j e e' he (by simpa using he')⟩
theorem ERL.grow {w' : World} {es : List Ent} {es' : List MapEntry} (h : ERL ρ w es es') (g : Grow w w') : ERL ρ w' es es' := ⟨h.1, fun j e e' he he' => ⟨(h.2 j e e' he he').1, (h.2 j e e' he he').2.1.grow g, (h.2 j e e' he he').2.2⟩⟩
theorem ERL.head {e : Ent} {e' : MapEntry} {es : List Ent} {es' : List MapEntry} (h : ERL ρ w (e :: es) (e' :: es')) : (e'.key = e.1 ∧ VR ρ w e.2.1 e'.val ∧ e'.born = e.2.2) ∧ ERL ρ w es es' :=
  ⟨h.2 0 e e' rfl rfl, by simpa using h.1, fun j x y hx hy => h.2 (j + 1) x y (by simpa using hx) (by simpa using hy)⟩
theorem ERL.cases_cons {e : Ent} {es : List Ent} {l : List MapEntry} (h : ERL ρ w (e :: es) l) : ∃ e' es', l = e' :: es' ∧ (e'.key = e.1 ∧ VR ρ w e.2.1 e'.val ∧ e'.born = e.2.2) ∧ ERL ρ w es es' := by
  cases l with
  | nil => have := h.1; simp at this
  | cons e' es' => exact ⟨e', es', rfl, h.head⟩
theorem ERL.cases_nil {l : List MapEntry} (h : ERL ρ w [] l) : l = [] := by
  cases l with
  | nil => rfl
  | cons e' es' => have := h.1; simp at this
theorem ERL.nil : ERL ρ w [] [] := ⟨rfl, fun j e e' h => by simp at h⟩
theorem ERL.cons {e : Ent} {e' : MapEntry} {es : List Ent} {es' : List MapEntry} (h : e'.key = e.1 ∧ VR ρ w e.2.1 e'.val ∧ e'.born = e.2.2) (t : ERL ρ w es es') : ERL ρ w (e :: es) (e' :: es') :=
  ⟨by simp [t.1], fun j x y hx hy => by
    cases j with
    | zero => simp at hx hy; subst hx; subst hy; exact h
    | succ j => simp at hx hy; exact t.2 j x y hx hy⟩
theorem ERL.append {es us : List Ent} {es' us' : List MapEntry} (h : ERL ρ w es es') (k : ERL ρ w us us') : ERL ρ w (es ++ us) (es' ++ us') := by
  induction es generalizing es' with
  | nil => rw [h.cases_nil]; exact k
  | cons e es ih => obtain ⟨e', l, rfl, a1, a2⟩ := h.cases_cons; exact ERL.cons a1 (ih a2)

/-! Keys. -/
theorem run_checkScal (hc : CfgOk c) (empty : Bool) (n : Nat) {t : TypeId} {x : Value} (h : scal (c.und t) x = true) : (Instr.checkKey empty (n + 1) t x).run c.P w = .ok () w := by
  unfold Instr.checkKey
  rcases scal_cases h with ⟨k, k', m, hu, rfl⟩ | ⟨s, hu, rfl⟩ | ⟨b, hu, rfl⟩
  all_goals (simp only [Sem.run_bind, run_und hc hu, Result.andThen]; rfl)
theorem run_checkFields (hc : CfgOk c) (empty : Bool) (n : Nat) (cs : List Value) (cs' : Array Value) (hcs : cs = cs'.toList) : ∀ (l : List Field), (l.all fun f => match partD c f.type cs f.offset with
    | some x => scal (c.und f.type) x
    | none => false) = true → (forIn l PUnit.unit (fun f (_ : PUnit) => (if f.name ≠ "_" then do
        let x ← part f.type cs' f.offset
        Instr.checkKey empty (n + 1) f.type x
        pure (ForInStep.yield PUnit.unit)
      else pure (ForInStep.yield PUnit.unit) : Sem (ForInStep PUnit)))).run c.P w = .ok PUnit.unit w
  | [], h => rfl
  | f :: l, h => by
    simp only [List.all_cons, Bool.and_eq_true] at h
    obtain ⟨h1, h2⟩ := h
    rw [List.forIn_cons]
    cases hp : partD c f.type cs f.offset with
    | none => rw [hp] at h1; cases h1
    | some x =>
      rw [hp] at h1
      have h1 : scal (c.und f.type) x = true := h1
      have hvr : VRL (fun _ => none) w [x] [x] := ⟨rfl, fun i a b ha hb => by rw [ha] at hb; cases hb; cases i with | zero => simp at ha; subst ha; exact VR.flat (scal_pf h1) | succ i => simp at ha⟩
      have hpart : (part f.type cs' f.offset).run c.P w = .ok x w := by
        unfold partD at hp
        obtain ⟨ag, e1, e2⟩ := Option.bind_eq_some_iff.1 hp
        cases ag with
        | true =>
          exfalso
          simp only [cond_true] at e2
          obtain ⟨m, _, e3⟩ := Option.bind_eq_some_iff.1 e2
          obtain ⟨r, _, rfl⟩ := Option.map_eq_some_iff.1 e3
          have := scal_pf h1
          simp [pf] at this
        | false =>
          simp only [cond_false] at e2
          rw [nth_eq] at e2
          subst hcs
          have e2' : cs'[f.offset]? = some x := by simpa using e2
          simp [part, Sem.run_bind, run_agg hc e1, e2', Result.andThen, Sem.run_pure]
      have hck := run_checkScal (w := w) hc empty n h1
      have ih := run_checkFields hc empty n cs cs' hcs l h2
      by_cases hn : f.name = "_"
      · simp only [hn, ne_eq, not_true_eq_false, if_false, Sem.run_bind, Sem.run_pure, Result.andThen]
        exact ih
      · simp only [ne_eq, hn, not_false_eq_true, if_true, Sem.run_bind, Sem.run_pure, Result.andThen, hpart, hck]
        exact ih
theorem run_checkKey (hc : CfgOk c) (empty : Bool) {kt : TypeId} {k : Value} (hk : keyOk c kt k = true) : (Instr.checkKey empty 10000 kt k).run c.P w = .ok () w := by
  show (Instr.checkKey empty (9998 + 1 + 1) kt k).run c.P w = .ok () w
  unfold Instr.checkKey
  unfold keyOk at hk
  split at hk
  · rename_i fs cs hu
    simp only [Bool.and_eq_true] at hk
    simp only [Sem.run_bind, run_und hc hu, Result.andThen]
    have := run_checkFields (w := w) hc empty 9998 cs.toList cs rfl fs.toList hk.2
    rw [← Array.forIn_toList, this]
    rfl
  · have := run_checkScal (w := w) hc empty 9999 hk
    unfold Instr.checkKey at this
    exact this
end
end Go.Proofs.YthilbhbnimfcmaaDx
