/- A part of the proof that the interpreter of YthilbhbnimfcmaaDxDx is sound: what it computes of a call, the call comes to in the model. No condition beyond those that each theorem names. -/
import Derived.Test.YthilbhbnimfcmaaDxR10c
namespace Go.Proofs.YthilbhbnimfcmaaDx
open Go
set_option linter.unusedVariables false
set_option linter.unusedSimpArgs false
section
variable {c : Cfg} {base : Nat} {ρ : Emb} {h : Hp} {w : World} {T : Tm} {a : Act} {outs : List Out}

/-- A key that is found. -/
def FR (ρ : Emb) (w : World) (es : List Ent) (es' : List MapEntry) (i : Nat) : Option (Nat × Ent) → Option (Nat × Value) → Prop
  | none, r => r = none
  | some p, r => ∃ e', r = some (p.1, e'.val) ∧ i ≤ p.1 ∧ es[p.1 - i]? = some p.2 ∧ es'[p.1 - i]? = some e'
theorem run_findAsking (hc : CfgOk c) {kt : TypeId} {k : Value} (hk : pfd 1 k = true) : ∀ (es : List Ent) (es' : List MapEntry) (i : Nat) (f : Option (Nat × Ent)), findK c kt k es i = some f → ERL ρ w es es' →
    ∃ r, (Instr.findAsking kt k es' i).run c.P w = .ok r w ∧ FR ρ w es es' i f r
  | [], es', i, f, h, he => by
    obtain rfl := he.cases_nil
    cases h
    exact ⟨none, rfl, rfl⟩
  | e :: es, l, i, f, h, he => by
    obtain ⟨e', es', rfl, ⟨h1, h2, h3⟩, h4⟩ := he.cases_cons
    unfold findK at h
    cases hp : pfd 1 e.1 with
    | false => rw [hp] at h; cases h
    | true =>
      rw [hp] at h
      simp only [cond_true] at h
      obtain ⟨b, e1, e2⟩ := Option.bind_eq_some_iff.1 h
      have hrun : (Op.equal kt k e'.key).run c.P w = .ok b w := by
        rw [h1]
        exact run_eqD hc 3 _ (by decide) kt k e.1 k e.1 b e1 (VR.flatd (ρ := ρ) 1 hk) (VR.flatd (ρ := ρ) 1 hp)
      unfold Instr.findAsking
      simp only [Sem.run_bind, hrun, Result.andThen]
      cases b with
      | true =>
        cases e2
        exact ⟨_, rfl, e', rfl, Nat.le_refl _, by simp, by simp⟩
      | false =>
        simp only [cond_false] at e2
        obtain ⟨r, g1, g2⟩ := run_findAsking hc hk es es' (i + 1) f e2 h4
        refine ⟨r, g1, ?_⟩
        cases f with
        | none => exact g2
        | some p =>
          obtain ⟨e'', a1, a2, a3, a4⟩ := g2
          obtain ⟨m, hm⟩ : ∃ m, p.1 - i = m + 1 := ⟨p.1 - (i + 1), by omega⟩
          have hm' : p.1 - (i + 1) = m := by omega
          rw [hm'] at a3 a4
          exact ⟨e'', a1, by omega, by rw [hm]; simpa using a3, by rw [hm]; simpa using a4⟩
theorem sameNow_equal (hc : CfgOk c) {kt : TypeId} {d : TypeDesc} (hd : c.und kt = some d) {x y : Value} {b : Bool} (h : Instr.sameNow d x y = some b) : (Op.equal kt x y).run c.P w = .ok b w := by
  unfold Instr.sameNow at h
  split at h
  · split at h
    · rename_i hk; subst hk; cases h; exact run_equalIn_int w _ kt _ _ _ _ (hc.und _ _ hd)
    · cases h
  · cases h
    refine (run_equalIn_string w _ kt _ _ (hc.und _ _ hd)).trans ?_
    congr 1
    simp [ByteArray.toList_eq]
    rename_i x y
    obtain ⟨x⟩ := x
    obtain ⟨y⟩ := y
    rfl
  · cases h; exact run_equalIn_bool' w _ kt _ _ (hc.und _ _ hd)
  · cases h
theorem findNow_same (hc : CfgOk c) {kt : TypeId} {d : TypeDesc} (hd : c.und kt = some d) {k : Value} : ∀ (es : List MapEntry) (i : Nat) (r r' : Option (Nat × Value)), Instr.findNow d k es i = some r' → (Instr.findAsking kt k es i).run c.P w = .ok r w → r' = r
  | [], i, r, r', h1, h2 => by cases h1; cases h2; rfl
  | e :: es, i, r, r', h1, h2 => by
    unfold Instr.findNow at h1
    unfold Instr.findAsking at h2
    cases hs : Instr.sameNow d k e.key with
    | none => rw [hs] at h1; cases h1
    | some b =>
      rw [hs] at h1
      simp only [Sem.run_bind, sameNow_equal (w := w) hc hd hs, Result.andThen] at h2
      cases b with
      | true => cases h1; cases h2; rfl
      | false => exact findNow_same hc hd es (i + 1) r r' h1 h2
/-- A map's key is looked for. -/
theorem run_findKey (hc : CfgOk c) {kt : TypeId} {k : Value} (hk : keyOk c kt k = true) {es : List Ent} {es' : List MapEntry} {f : Option (Nat × Ent)} (h : findK c kt k es 0 = some f) (he : ERL ρ w es es') :
    ∃ r, (Instr.findKey kt k es').run c.P w = .ok r w ∧ FR ρ w es es' 0 f r := by
  obtain ⟨r, h1, h2⟩ := run_findAsking hc (keyOk_pure hk) es es' 0 f h he
  refine ⟨r, ?_, h2⟩
  obtain ⟨d, hd⟩ : ∃ d, c.und kt = some d := by
    unfold keyOk at hk
    split at hk
    · rename_i hu; exact ⟨_, hu⟩
    · rcases scal_cases hk with ⟨_, _, _, hu, _⟩ | ⟨_, hu, _⟩ | ⟨_, hu, _⟩ <;> exact ⟨_, hu⟩
  unfold Instr.findKey
  simp only [Sem.run_bind, run_und hc hd, Result.andThen]
  cases hn : Instr.findNow d k es' 0 with
  | none => exact h1
  | some r' => rw [findNow_same (w := w) hc hd es' 0 r r' hn h1]; rfl
theorem mapT_some {t : TypeId} {k : Value} {ts : TypeId × TypeId} (h : mapT c t k = some ts) : c.und t = some (.map ts.1 ts.2) ∧ keyOk c ts.1 k = true := by
  unfold mapT at h
  split at h
  · rename_i kt et hu
    cases hk : keyOk c kt k with
    | false => rw [hk] at h; cases h
    | true => rw [hk] at h; cases h; exact ⟨hu, hk⟩
  · cases h
theorem mapAt_some {r : Nat} {m : List Ent × Nat} (hm : mapAt h r = some m) : h.t.get r = some (.map m.1 m.2) := by
  unfold mapAt at hm
  split at hm
  · cases hm; assumption
  · cases hm
/-- A map's entries in memory. -/
theorem map_block (hr : Rel base c.n0 ρ h.t.get w) {r : Nat} {m : List Ent × Nat} (hm : mapAt h r = some m) {k d : Nat} (hk : ρ r = some (k, d)) : ∃ es', w.heap[k]? = some (.map es' m.2) ∧ ERL ρ w m.1 es'.toList := by
  obtain ⟨k', d', e1, e2⟩ := hr.at_ r _ (mapAt_some hm)
  rw [hk] at e1
  cases e1
  exact OR.map_iff.1 e2
theorem run_getMap {P : Program} {w : World} {k : Nat} {es : Array MapEntry} {n : Nat} (hb : w.heap[k]? = some (.map es n)) : (getObj k).run P w = .ok (.map es n) w := run_getO hb (fun _ _ _ e => by cases e)
theorem run_lookupD (hc : CfgOk c) {t : TypeId} {x y k k' v : Value} {ok : Bool} (hr : Rel base c.n0 ρ h.t.get w) (hl : lookupD c h t x k ok = some v) (hx : VR ρ w x y) (hk : VR ρ w k k') :
    ∃ v', (Instr.lookup t y k' ok).run c.P w = .ok v' w ∧ VR ρ w v v' := by
  unfold lookupD at hl
  obtain ⟨ts, e1, hl⟩ := Option.bind_eq_some_iff.1 hl
  obtain ⟨es, e2, hl⟩ := Option.bind_eq_some_iff.1 hl
  obtain ⟨f, e3, hl⟩ := Option.bind_eq_some_iff.1 hl
  obtain ⟨hu, hko⟩ := mapT_some e1
  obtain rfl := VR.pure_eq 1 (keyOk_pure hko) hk
  have hz : ∀ (b : Bool) (z z' : Value), VR ρ w z z' → VR ρ w (cond ok (.tuple #[z, .bool b]) z) (if ok then .tuple #[z', .bool b] else z') := fun b z z' hv => by
    cases ok with
    | false => exact hv
    | true =>
      have : VRL ρ w [z, .bool b] [z', .bool b] := VRL.cons hv (VRL.cons (.bool b) VRL.nil)
      exact .tuple _ _ this.len this.at_
  unfold lookV at hl
  unfold esOf at e2
  unfold Instr.lookup
  split at e2
  · cases hx
    cases e2
    obtain ⟨r, f1, f2⟩ := run_findKey hc hko e3 (ERL.nil (ρ := ρ) (w := w))
    have hck := run_checkKey (w := w) hc (#[] : Array MapEntry).isEmpty hko
    cases f with
    | none =>
      obtain rfl : r = none := f2
      obtain ⟨z, e4, rfl⟩ := Option.map_eq_some_iff.1 hl
      refine ⟨if ok then .tuple #[z, .bool false] else z, ?_, hz false z z (VR.flatd 2 (hc.zer _ _ e4).2)⟩
      simp only [Sem.run_bind, run_und hc hu, Result.andThen, Sem.run_pure, hck, f1, run_zero hc e4]
    | some p => obtain ⟨e', a1, a2, a3, a4⟩ := f2; simp at a3
  · cases hx with
    | map r0 kk d hb =>
      obtain ⟨m, e4, rfl⟩ := Option.map_eq_some_iff.1 e2
      obtain ⟨es', g1, g2⟩ := map_block hr e4 hb
      obtain ⟨r, f1, f2⟩ := run_findKey hc hko e3 g2
      have hck := run_checkKey (w := w) hc es'.isEmpty hko
      cases f with
      | none =>
        obtain rfl : r = none := f2
        obtain ⟨z, e4, rfl⟩ := Option.map_eq_some_iff.1 hl
        refine ⟨if ok then .tuple #[z, .bool false] else z, ?_, hz false z z (VR.flatd 2 (hc.zer _ _ e4).2)⟩
        simp only [Sem.run_bind, run_und hc hu, Result.andThen, Sem.run_pure, run_getMap g1, hck, f1, run_zero hc e4]
      | some p =>
        obtain ⟨e', a1, a2, a3, a4⟩ := f2
        subst a1
        cases hl
        refine ⟨if ok then .tuple #[e'.val, .bool true] else e'.val, ?_, hz true _ _ (g2.2 _ _ _ a3 a4).2.1⟩
        simp only [Sem.run_bind, run_und hc hu, Result.andThen, Sem.run_pure, run_getMap g1, hck, f1]
  · cases e2
end
end Go.Proofs.YthilbhbnimfcmaaDx
