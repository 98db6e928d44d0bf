/- A part of the proof that the interpreter of YthilbhbnimfcmaaDxDx is sound: what it computes of a call, the call comes to in the model. No condition beyond those that each theorem names. -/
import Derived.Test.YthilbhbnimfcmaaDxR10d
namespace Go.Proofs.YthilbhbnimfcmaaDx
open Go
set_option linter.unusedVariables false
set_option linter.unusedSimpArgs false

theorem bit1_eq {n : Nat} {a b : Value} (h : bit1 a b = true) : a = b ∧ Instr.sameBits n a b = true := by
  unfold bit1 at h
  split at h
  · obtain rfl : _ = _ := by simpa using h
    exact ⟨rfl, by cases n <;> simp [Instr.sameBits]⟩
  · simp only [Bool.and_eq_true, decide_eq_true_eq, beq_iff_eq] at h
    obtain ⟨rfl, rfl⟩ := h
    exact ⟨rfl, by cases n <;> simp [Instr.sameBits]⟩
  · rename_i x y
    rw [eqU_eq] at h
    obtain ⟨⟨x⟩⟩ := x
    obtain ⟨⟨y⟩⟩ := y
    obtain rfl : x = y := by simpa using h
    refine ⟨rfl, ?_⟩
    have : ((⟨⟨x⟩⟩ : ByteArray) == ⟨⟨x⟩⟩) = true := by
      show ((⟨x⟩ : Array UInt8) == ⟨x⟩) = true
      simp
    cases n <;> simp only [Instr.sameBits] <;> exact this
  · cases h
theorem bitL_eq {n : Nat} : ∀ (a b : List Value), bitL a b = true → a = b ∧ ((a.zip b).all fun (x, y) => Instr.sameBits n x y) = true
  | [], [], h => ⟨rfl, rfl⟩
  | x :: a, y :: b, h => by
    simp only [bitL, Bool.and_eq_true] at h
    obtain ⟨rfl, h2⟩ := bit1_eq (n := n) h.1
    obtain ⟨rfl, h4⟩ := bitL_eq (n := n) a b h.2
    exact ⟨rfl, by rw [List.zip_cons_cons, List.all_cons, h4, Bool.and_true]; exact h2⟩
  | [], _ :: _, h => by cases h
  | _ :: _, [], h => by cases h
theorem bits_eq {a b : Value} (h : bits a b = true) : a = b ∧ Instr.sameBits 10000 a b = true := by
  unfold bits at h
  split at h
  · rename_i a b
    obtain ⟨h1, h2⟩ := bitL_eq (n := 9999) _ _ h
    obtain rfl := Array.ext' h1
    refine ⟨rfl, ?_⟩
    show Instr.sameBits (9999 + 1) (.agg a) (.agg a) = true
    simp only [Instr.sameBits, beq_self_eq_true, Bool.true_and]
    exact h2
  · exact bit1_eq h
theorem insE_eq : ∀ (l : List Ent) (n : Nat) (v : Ent), insE l n v = l.set n v
  | [], n, v => by cases n <;> rfl
  | x :: l, 0, v => rfl
  | x :: l, n + 1, v => by
    have : insE (x :: l) (n + 1) v = x :: insE l n v := rfl
    rw [this, insE_eq l n v]; rfl
theorem delE_eq : ∀ (l : List Ent) (n : Nat), delE l n = l.eraseIdx n
  | [], n => by cases n <;> rfl
  | x :: l, 0 => rfl
  | x :: l, n + 1 => by
    have : delE (x :: l) (n + 1) = x :: delE l n := rfl
    rw [this, delE_eq l n]; rfl
section
variable {c : Cfg} {base : Nat} {ρ : Emb} {h : Hp} {w : World} {T : Tm} {a : Act} {outs : List Out}

theorem ERL.mod {es : List Ent} {es' : Array MapEntry} {i : Nat} {x : Ent} {g : MapEntry → MapEntry} (he : ERL ρ w es es'.toList) (hx : ∀ e', es'[i]? = some e' → (g e').key = x.1 ∧ VR ρ w x.2.1 (g e').val ∧ (g e').born = x.2.2) : ERL ρ w (insE es i x) (es'.modify i g).toList := by
  rw [insE_eq]
  refine ⟨by have := he.1; simp at this ⊢; exact this, fun j e e' hj hj' => ?_⟩
  rw [List.getElem?_set] at hj
  have hj' : (es'.modify i g)[j]? = some e' := by rw [← Array.getElem?_toList]; exact hj'
  rw [Array.getElem?_modify] at hj'
  by_cases e : i = j
  · subst e
    rw [if_pos rfl] at hj hj'
    split at hj
    · cases hj
      obtain ⟨u, hu, rfl⟩ := Option.map_eq_some_iff.1 hj'
      exact hx u hu
    · cases hj
  · rw [if_neg e] at hj hj'
    exact he.2 j _ _ hj (by simpa using hj')
theorem ERL.del {es : List Ent} {es' : Array MapEntry} (i : Nat) (he : ERL ρ w es es'.toList) : ERL ρ w (delE es i) (es'.eraseIdxIfInBounds i).toList := by
  have hl : (es'.eraseIdxIfInBounds i).toList = es'.toList.eraseIdx i := by
    unfold Array.eraseIdxIfInBounds
    split
    · simp
    · rename_i hh
      rw [List.eraseIdx_of_length_le (by simpa using hh)]
  rw [delE_eq, hl]
  have h1 := he.1
  refine ⟨by rw [List.length_eraseIdx, List.length_eraseIdx, h1], fun j e e' hj hj' => ?_⟩
  rw [List.getElem?_eraseIdx] at hj hj'
  split at hj
  · rename_i hlt; rw [if_pos hlt] at hj'; exact he.2 j e e' hj hj'
  · rename_i hlt; rw [if_neg hlt] at hj'; exact he.2 _ e e' hj hj'
theorem putO_some {r : Nat} {o : Ob} {q : Hp × List Nat} (hq : putO c h r o = some q) : c.n0 ≤ r ∧ r < lim ∧ q = (⟨h.t.put r (some o), h.n⟩, [r]) := by
  unfold putO at hq
  cases e : (Nat.ble c.n0 r && Nat.blt r lim) with
  | false => rw [e] at hq; cases hq
  | true =>
    rw [e] at hq
    cases hq
    simp only [Bool.and_eq_true] at e
    exact ⟨ble_t e.1, blt_t e.2, rfl⟩
/-- A block that is no row of cells is written. -/
theorem goes_putO {r k d : Nat} {o o' : Ob} {ob ob' : Obj} {w1 : World} {v v' : Value} {q : Hp × List Nat} {x : Result Next} (hr : Rel base c.n0 ρ h.t.get w) (hb : h.t.get r = some o) (hk : ρ r = some (k, d))
    (hq : putO c h r o' = some q) (hob : w.heap[k]? = some ob) (hn : ∀ cs el fr, ob ≠ .cells cs el fr) (g : Grow w w1) (hh : w1.heap = w.heap) (ho : OR ρ (w1.putObj k ob') k d o')
    (hx : x = .ok (.value v') (w1.putObj k ob') ∨ x = .ok .skip (w1.putObj k ob') ∧ v' = undef) (hv : ∀ w', Grow w w' → VR ρ w' v v') : ∃ W h', (v, h', W) = (v, q.1, q.2) ∧ ∃ v' w' ρ', (x = .ok (.value v') w' ∨ x = .ok .skip w' ∧ v' = undef) ∧ VR ρ' w' v v' ∧ Ext base c.n0 ρ h.t.get h.n w ρ' h'.t.get h'.n W w' := by
  obtain ⟨h0, hlim, rfl⟩ := putO_some hq
  exact ⟨_, _, rfl, v', _, ρ, hx, hv _ (Grow.putO ob' g hh hob hn), Ext.setO hr hb hk h0 hlim hob hn g hh (fun y hy => by cases hy; exact ho)⟩
theorem goes_out1 {v : Value} {q : Hp × List Nat} {x : Result Next} (hx : ∃ W h', (v, h', W) = (v, q.1, q.2) ∧ ∃ v' w' ρ', (x = .ok (.value v') w' ∨ x = .ok .skip w' ∧ v' = undef) ∧ VR ρ' w' v v' ∧ Ext base c.n0 ρ h.t.get h.n w ρ' h'.t.get h'.n W w') : Goes c base ρ h w (out1 v q) x := by
  obtain ⟨W, h', e, rest⟩ := hx
  cases e
  exact ⟨v, q.1, q.2, List.mem_singleton.2 rfl, rest⟩
theorem VR.mapR {x y : Value} {r : Nat} (hm : _root_.Go.Proofs.YthilbhbnimfcmaaDx.mapR x = some r) (hx : VR ρ w x y) : ∃ k d, ρ r = some (k, d) ∧ y = .map (some k) := by
  unfold _root_.Go.Proofs.YthilbhbnimfcmaaDx.mapR at hm
  split at hm
  · cases hm
    cases hx with
    | map r k d hb => exact ⟨k, d, hb, rfl⟩
  · cases hm
theorem nomap {es : Array MapEntry} {n : Nat} : ∀ cs el fr, (Obj.map es n) ≠ .cells cs el fr := fun _ _ _ e => by cases e

/-- The two that write an entry under a key share this: what is known of the map, and of what is looked for. -/
theorem upd_facts (hc : CfgOk c) {t : TypeId} {x y k k' : Value} {ts : TypeId × TypeId} {r : Nat} {m : List Ent × Nat} {f : Option (Nat × Ent)} (hr : Rel base c.n0 ρ h.t.get w) (hx : VR ρ w x y) (hk : VR ρ w k k')
    (e1 : mapT c t k = some ts) (e2 : mapR x = some r) (e3 : mapAt h r = some m) (e4 : findK c ts.1 k m.1 0 = some f) :
    k' = k ∧ c.und t = some (.map ts.1 ts.2) ∧ ∃ b d es' z, ρ r = some (b, d) ∧ y = .map (some b) ∧ w.heap[b]? = some (.map es' m.2) ∧ ERL ρ w m.1 es'.toList ∧
      (Instr.checkKey false 10000 ts.1 k).run c.P w = .ok () w ∧ (Instr.checkKey es'.isEmpty 10000 ts.1 k).run c.P w = .ok () w ∧ (Instr.findKey ts.1 k es'.toList).run c.P w = .ok z w ∧ FR ρ w m.1 es'.toList 0 f z := by
  obtain ⟨hu, hko⟩ := mapT_some e1
  obtain rfl := VR.pure_eq 1 (keyOk_pure hko) hk
  obtain ⟨b, d, g1, rfl⟩ := VR.mapR e2 hx
  obtain ⟨es', g2, g3⟩ := map_block hr e3 g1
  obtain ⟨z, f1, f2⟩ := run_findKey hc hko e4 g3
  exact ⟨rfl, hu, b, d, es', z, g1, rfl, g2, g3, run_checkKey hc false hko, run_checkKey hc _ hko, f1, f2⟩
theorem run_keyStays {old new : Value} (hb : Instr.sameBits 10000 old new = true) (P : Program) (w : World) : (Instr.keyThatStays old new).run P w = .ok new w := by
  unfold Instr.keyThatStays
  rw [if_pos hb]
  rfl
theorem goes_mapUpdate (hc : CfgOk c) {t : TypeId} {x y k k' v v' : Value} (hr : Rel base c.n0 ρ h.t.get w) (hx : VR ρ w x y) (hk : VR ρ w k k') (hv : VR ρ w v v') (ho : mapUpdateD c h t x k v = some outs)
    {res : Result Next} (he : res = ((do Instr.mapUpdate t y k' v'; pure .skip) : Sem Next).run c.P w) : Goes c base ρ h w outs res := by
  unfold mapUpdateD at ho
  obtain ⟨ts, e1, ho⟩ := Option.bind_eq_some_iff.1 ho
  obtain ⟨r, e2, ho⟩ := Option.bind_eq_some_iff.1 ho
  obtain ⟨m, e3, ho⟩ := Option.bind_eq_some_iff.1 ho
  obtain ⟨f, e4, ho⟩ := Option.bind_eq_some_iff.1 ho
  obtain ⟨o, e5, ho⟩ := Option.bind_eq_some_iff.1 ho
  obtain ⟨q, e6, rfl⟩ := Option.map_eq_some_iff.1 ho
  obtain ⟨rfl, hu, b, d, es', z, g1, rfl, g2, g3, g4, _, g5, g6⟩ := upd_facts hc hr hx hk e1 e2 e3 e4
  refine goes_out1 ?_
  cases f with
  | none =>
    obtain rfl : z = none := g6
    cases e5
    refine goes_putO (ob' := .map (es'.push { key := k', val := v', born := m.2 }) (m.2 + 1)) hr (mapAt_some e3) g1 e6 g2 nomap (.refl w) rfl ?_ (.inr ⟨?_, rfl⟩) (fun w' _ => .undef)
    · have gr := Grow.putO (.map (es'.push { key := k', val := v', born := m.2 }) (m.2 + 1)) (.refl w) rfl g2 nomap
      refine OR.map_iff.2 ⟨_, World.putObj_heap_same (hr.low _ _ _ g1), ?_⟩
      rw [Array.toList_push]
      exact (g3.grow gr).append (ERL.cons ⟨rfl, hv.grow gr, rfl⟩ ERL.nil)
    · rw [he]
      simp only [Instr.mapUpdate, Sem.run_bind, run_und hc hu, Result.andThen, run_getMap g2, g4, g5, run_setO _ g2 nomap, Sem.run_pure]
  | some p =>
    obtain ⟨e', a1, a2, a3, a4⟩ := g6
    subst a1
    have e5 : (bif bits p.2.1 k' then some (Ob.map (insE m.1 p.1 (k', v, p.2.2.2)) m.2) else none) = some o := e5
    cases hb : bits p.2.1 k' with
    | false => rw [hb] at e5; cases e5
    | true =>
      rw [hb] at e5
      cases e5
      obtain ⟨hbk, hsb⟩ := bits_eq hb
      obtain ⟨c1, c2, c3⟩ := g3.2 _ _ _ a3 a4
      have a4' : es'[p.1]? = some e' := by simpa using a4
      have hold : (((es'[p.1]?).map (·.key)).getD k') = p.2.1 := by rw [a4']; exact c1
      refine goes_putO (ob' := .map (es'.modify p.1 fun e => { e with key := k', val := v' }) m.2) hr (mapAt_some e3) g1 e6 g2 nomap (.refl w) rfl ?_ (.inr ⟨?_, rfl⟩) (fun w' _ => .undef)
      · have gr := Grow.putO (.map (es'.modify p.1 fun e => { e with key := k', val := v' }) m.2) (.refl w) rfl g2 nomap
        refine OR.map_iff.2 ⟨_, World.putObj_heap_same (hr.low _ _ _ g1), ?_⟩
        refine (g3.grow gr).mod (fun u hu' => ?_)
        rw [a4'] at hu'
        cases hu'
        exact ⟨rfl, hv.grow gr, c3⟩
      · rw [he]
        simp only [Instr.mapUpdate, Sem.run_bind, run_und hc hu, Result.andThen, run_getMap g2, g4, g5, hold, run_keyStays hsb, run_setO _ g2 nomap, Sem.run_pure]
theorem VR.pair {w' : World} {v v' : Value} {n : Nat} (hv : VR ρ w' v v') : VR ρ w' (.tuple #[v, .int .i64 n]) (.tuple #[v', .int .i64 n]) := by
  have : VRL ρ w' [v, .int .i64 n] [v', .int .i64 n] := VRL.cons hv (VRL.cons (.int _ _) VRL.nil)
  exact .tuple _ _ this.len this.at_
theorem goes_mapEntry (hc : CfgOk c) {t : TypeId} {x y k k' : Value} (hr : Rel base c.n0 ρ h.t.get w) (hx : VR ρ w x y) (hk : VR ρ w k k') (ho : mapEntryD c h t x k = some outs)
    {res : Result Next} (he : res = ((do pure (Next.value (← Instr.mapEntry t y k')) : Sem Next)).run c.P w) : Goes c base ρ h w outs res := by
  unfold mapEntryD at ho
  obtain ⟨ts, e1, ho⟩ := Option.bind_eq_some_iff.1 ho
  obtain ⟨r, e2, ho⟩ := Option.bind_eq_some_iff.1 ho
  obtain ⟨m, e3, ho⟩ := Option.bind_eq_some_iff.1 ho
  obtain ⟨f, e4, ho⟩ := Option.bind_eq_some_iff.1 ho
  obtain ⟨u, e0, ho⟩ := Option.bind_eq_some_iff.1 ho
  obtain ⟨o, e5, ho⟩ := Option.bind_eq_some_iff.1 ho
  obtain ⟨q, e6, rfl⟩ := Option.map_eq_some_iff.1 ho
  obtain ⟨rfl, hu, b, d, es', z, g1, rfl, g2, g3, g4, _, g5, g6⟩ := upd_facts hc hr hx hk e1 e2 e3 e4
  refine goes_out1 ?_
  cases f with
  | none =>
    obtain rfl : z = none := g6
    obtain ⟨zv, e7, rfl⟩ := Option.map_eq_some_iff.1 e0
    cases e5
    have hv : VR ρ w zv zv := VR.flatd 2 (hc.zer _ _ e7).2
    refine goes_putO (ob' := .map (es'.push { key := k', val := zv, born := m.2 }) (m.2 + 1)) hr (mapAt_some e3) g1 e6 g2 nomap (.refl w) rfl ?_ (.inl ?_) (fun w' gw => VR.pair (hv.grow gw))
    · have gr := Grow.putO (.map (es'.push { key := k', val := zv, born := m.2 }) (m.2 + 1)) (.refl w) rfl g2 nomap
      refine OR.map_iff.2 ⟨_, World.putObj_heap_same (hr.low _ _ _ g1), ?_⟩
      rw [Array.toList_push]
      exact (g3.grow gr).append (ERL.cons ⟨rfl, hv.grow gr, rfl⟩ ERL.nil)
    · rw [he]
      simp only [Instr.mapEntry, Sem.run_bind, run_und hc hu, Result.andThen, run_getMap g2, g4, g5, run_zero hc e7, run_setO _ g2 nomap, Sem.run_pure, goInt]
  | some p =>
    obtain ⟨e', a1, a2, a3, a4⟩ := g6
    subst a1
    cases e0
    have e5 : (bif bits p.2.1 k' then some (Ob.map (insE m.1 p.1 (k', p.2.2.1, p.2.2.2)) m.2) else none) = some o := e5
    cases hb : bits p.2.1 k' with
    | false => rw [hb] at e5; cases e5
    | true =>
      rw [hb] at e5
      cases e5
      obtain ⟨hbk, hsb⟩ := bits_eq hb
      obtain ⟨c1, c2, c3⟩ := g3.2 _ _ _ a3 a4
      have a4' : es'[p.1]? = some e' := by simpa using a4
      have hold : (((es'[p.1]?).map (·.key)).getD k') = p.2.1 := by rw [a4']; exact c1
      have hborn : (((es'[p.1]?).map (fun x => (x.born : Int))).getD 0) = (p.2.2.2 : Int) := by rw [a4']; exact congrArg Int.ofNat c3
      refine goes_putO (ob' := .map (es'.modify p.1 fun e => { e with key := k' }) m.2) hr (mapAt_some e3) g1 e6 g2 nomap (.refl w) rfl ?_ (.inl ?_) (fun w' gw => VR.pair (c2.grow gw))
      · have gr := Grow.putO (.map (es'.modify p.1 fun e => { e with key := k' }) m.2) (.refl w) rfl g2 nomap
        refine OR.map_iff.2 ⟨_, World.putObj_heap_same (hr.low _ _ _ g1), ?_⟩
        refine (g3.grow gr).mod (fun u hu' => ?_)
        rw [a4'] at hu'
        cases hu'
        exact ⟨rfl, c2.grow gr, c3⟩
      · rw [he]
        simp only [Instr.mapEntry, Sem.run_bind, run_und hc hu, Result.andThen, run_getMap g2, g4, g5, hold, hborn, run_keyStays hsb, run_setO _ g2 nomap, Sem.run_pure, goInt]
theorem goes_delete (hc : CfgOk c) {t ty : TypeId} {tys : List TypeId} {x y k k' : Value} (hr : Rel base c.n0 ρ h.t.get w) (hx : VR ρ w x y) (hk : VR ρ w k k') (ho : deleteD c h t x k = some outs)
    {res : Result Next} (he : res = ((do pure (Next.value (← Builtin.delete_ (t :: tys).toArray ty #[y, k'])) : Sem Next)).run c.P w) : Goes c base ρ h w outs res := by
  unfold deleteD at ho
  obtain ⟨ts, e1, ho⟩ := Option.bind_eq_some_iff.1 ho
  obtain ⟨r, e2, ho⟩ := Option.bind_eq_some_iff.1 ho
  obtain ⟨m, e3, ho⟩ := Option.bind_eq_some_iff.1 ho
  obtain ⟨f, e4, ho⟩ := Option.bind_eq_some_iff.1 ho
  obtain ⟨q, e6, rfl⟩ := Option.map_eq_some_iff.1 ho
  obtain ⟨rfl, hu, b, d, es', z, g1, rfl, g2, g3, _, g4, g5, g6⟩ := upd_facts hc hr hx hk e1 e2 e3 e4
  have hun : VR ρ w (.tuple #[]) (.tuple #[]) := .undef
  have h0 : (t :: tys).toArray[0]? = some t := rfl
  have h1 : (#[Value.map (some b), k'] : Array Value)[0]? = some (Value.map (some b)) := rfl
  have h2 : (#[Value.map (some b), k'] : Array Value)[1]? = some k' := rfl
  refine goes_out1 ?_
  cases f with
  | none =>
    obtain rfl : z = none := g6
    refine goes_putO (ob' := .map es' m.2) hr (mapAt_some e3) g1 e6 g2 nomap (.refl w) rfl ?_ (.inl ?_) (fun w' gw => hun.grow gw)
    · have gr := Grow.putO (.map es' m.2) (.refl w) rfl g2 nomap
      exact OR.map_iff.2 ⟨_, World.putObj_heap_same (hr.low _ _ _ g1), g3.grow gr⟩
    · rw [he]
      simp only [Builtin.delete_, h0, h1, h2, Sem.run_bind, run_und hc hu, Result.andThen, run_getMap g2, g4, g5, run_setO _ g2 nomap, Sem.run_pure]
  | some p =>
    obtain ⟨e', a1, a2, a3, a4⟩ := g6
    subst a1
    refine goes_putO (ob' := .map (es'.eraseIdxIfInBounds p.1) m.2) hr (mapAt_some e3) g1 e6 g2 nomap (.refl w) rfl ?_ (.inl ?_) (fun w' gw => hun.grow gw)
    · have gr := Grow.putO (.map (es'.eraseIdxIfInBounds p.1) m.2) (.refl w) rfl g2 nomap
      exact OR.map_iff.2 ⟨_, World.putObj_heap_same (hr.low _ _ _ g1), (g3.grow gr).del p.1⟩
    · rw [he]
      simp only [Builtin.delete_, h0, h1, h2, Sem.run_bind, run_und hc hu, Result.andThen, run_getMap g2, g4, g5, run_setO _ g2 nomap, Sem.run_pure]
end
end Go.Proofs.YthilbhbnimfcmaaDx
