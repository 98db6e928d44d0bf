/- A part of the proof that the interpreter of YthilbhbnimfcmaaDxDx is sound: what it computes of a call, the call comes to in the model. No condition beyond those that each theorem names. -/
import Derived.Test.YthilbhbnimfcmaaDxR3
namespace Go.Proofs.YthilbhbnimfcmaaDx
open Go
set_option linter.unusedVariables false
set_option linter.unusedSimpArgs false

theorem Addr.add_off (k o j : Nat) : (⟨k, o, none⟩ : Addr).add j = ⟨k, o + j, none⟩ := by unfold Addr.add; split <;> simp_all
theorem Cells.cell {w : World} {k : Nat} {cs : Array Value} (h : Cells w k cs) (i : Nat) : w.cell? ⟨k, i, none⟩ = cs[i]? := by
  obtain ⟨el, fr, h1, h2⟩ := h
  simp [World.cell?, h1]
theorem Cells.free {w : World} {k : Nat} {cs : Array Value} (h : Cells w k cs) {i : Nat} (hi : i < cs.size) : w.frozen? ⟨k, i, none⟩ = false := by
  obtain ⟨el, fr, h1, h2⟩ := h
  have := h2 i hi
  simp only [World.frozen?, h1]
  cases e : (decide (fr.1 ≤ i) && decide (i < fr.2)) with
  | false => rfl
  | true => simp at e; exact absurd e this
theorem OR.vrl {ρ : Emb} {w : World} {k d : Nat} {cs : List Value} (h : OR ρ w k d (.cells cs)) : ∃ cs', Cells w k cs' ∧ cs.length + d ≤ cs'.size ∧ VRL ρ w cs ((cs'.toList.drop d).take cs.length) := by
  obtain ⟨cs', h1, h2, h3⟩ := h
  refine ⟨cs', h1, h2, ⟨by simp; omega, fun i x y hx hy => ?_⟩⟩
  rw [List.getElem?_take] at hy
  split at hy
  · rw [List.getElem?_drop] at hy
    exact h3 i x y hx (by rw [Nat.add_comm]; simpa using hy)
  · cases hy

section
variable {c : Cfg} {base : Nat} {ρ : Emb} {h : Hp} {w : World} {T : Tm} {a : Act} {outs : List Out}

theorem cellsAt_some {h : Hp} {b : Nat} {cs : List Value} (e : cellsAt h b = some cs) : h.t.get b = some (.cells cs) := by
  unfold cellsAt at e
  split at e
  · cases e; assumption
  · cases e
/-- A load. -/
theorem run_loadVar (hc : CfgOk c) {t : TypeId} {b o : Nat} {x : Value} {y : Value} (hr : Rel base c.n0 ρ h.t.get w) (hy : VR ρ w (.pointer (some ⟨b, o, none⟩)) y) (hl : loadD c h t (.pointer (some ⟨b, o, none⟩)) = some x) :
    ∃ k d v', y = .pointer (some ⟨k, o + d, none⟩) ∧ (loadVar t ⟨k, o + d, none⟩).run c.P w = .ok v' w ∧ VR ρ w x v' := by
  simp only [loadD] at hl
  obtain ⟨cs, h1, h2⟩ := Option.bind_eq_some_iff.1 hl
  cases hy with
  | ptr b o k d hb =>
    obtain ⟨k', d', e1, e2⟩ := hr.at_ b _ (cellsAt_some h1)
    rw [hb] at e1
    cases e1
    obtain ⟨cs', h3, h4, h5⟩ := e2.vrl
    unfold partD at h2
    obtain ⟨ag, h6, h7⟩ := Option.bind_eq_some_iff.1 h2
    cases ag with
    | true =>
      simp only [cond_true] at h7
      obtain ⟨n, h8, h9⟩ := Option.bind_eq_some_iff.1 h7
      obtain ⟨l, h10, rfl⟩ := Option.map_eq_some_iff.1 h9
      obtain ⟨h11, rfl⟩ := slc_some h10
      have hlen : ((cs'.toList.drop (o + d)).take n).length = n := by simp; omega
      have hrun := run_loadCells_list (P := c.P) w ⟨k, o + d, none⟩ ((cs'.toList.drop (o + d)).take n) (fun j v hj => by
        rw [Addr.add_off, h3.cell]
        rw [List.getElem?_take] at hj
        split at hj
        · rw [List.getElem?_drop] at hj; simpa using hj
        · cases hj)
      rw [hlen] at hrun
      refine ⟨k, d, .agg ((cs'.toList.drop (o + d)).take n).toArray, rfl, by simp [loadVar, Sem.run_bind, run_agg hc h6, run_size hc h8, hrun, Result.andThen, Sem.run_pure], ?_⟩
      have := (h5.drop o).take n
      refine .agg _ _ (by simp; omega) (fun i x y hx hy => ?_)
      refine this.at_ i x y (by simpa using hx) ?_
      rw [← hy]
      simp only [List.getElem?_take, List.getElem?_drop]
      split
      · rw [if_pos (by omega)]; congr 1; omega
      · rfl
    | false =>
      simp only [cond_false] at h7
      rw [nth_eq] at h7
      obtain ⟨v', h8, h9⟩ := h5.get h7
      rw [List.getElem?_take] at h8
      split at h8
      · rw [List.getElem?_drop] at h8
        have hcell : w.cell? ⟨k, o + d, none⟩ = some v' := by rw [h3.cell, Nat.add_comm]; simpa using h8
        exact ⟨k, d, v', rfl, by simp [loadVar, Sem.run_bind, run_agg hc h6, load, Sem.run, hcell, Result.andThen], h9⟩
      · cases h8

theorem ins_get : ∀ (l : List Value) (n : Nat) (v : Value) (j : Nat), (ins l n v)[j]? = if j = n ∧ n < l.length then some v else l[j]?
  | [], n, v, j => by simp [ins]
  | x :: l, 0, v, j => by
    have : ins (x :: l) 0 v = v :: l := rfl
    rw [this]
    cases j <;> simp
  | x :: l, n + 1, v, j => by
    have : ins (x :: l) (n + 1) v = x :: ins l n v := rfl
    rw [this]
    cases j with
    | zero => simp
    | succ j => simp [ins_get l n v j]
theorem ins_len (l : List Value) (n : Nat) (v : Value) : (ins l n v).length = l.length := by
  induction l generalizing n with
  | nil => rfl
  | cons x l ih =>
    cases n with
    | zero => rfl
    | succ n => show (x :: ins l n v).length = _; simp [ih]
theorem puts_len : ∀ (vs l : List Value) (o : Nat), (puts l o vs).length = l.length
  | [], l, o => by cases l <;> rfl
  | v :: r, l, o => by
    have : puts l o (v :: r) = puts (ins l o v) (o + 1) r := by cases l <;> rfl
    rw [this, puts_len r, ins_len]
theorem puts_get : ∀ (vs l : List Value) (o j : Nat), o + vs.length ≤ l.length → (puts l o vs)[j]? = if o ≤ j ∧ j < o + vs.length then vs[j - o]? else l[j]?
  | [], l, o, j, h => by
    have : puts l o [] = l := by cases l <;> rfl
    rw [this, if_neg (fun hh => by have := hh.2; have := hh.1; simp at *; omega)]
  | v :: r, l, o, j, h => by
    have : puts l o (v :: r) = puts (ins l o v) (o + 1) r := by cases l <;> rfl
    simp at h
    rw [this, puts_get r _ _ _ (by rw [ins_len]; omega), ins_get]
    by_cases h1 : j = o
    · subst h1
      rw [if_neg (by omega), if_pos ⟨rfl, by omega⟩, if_pos (by simp)]
      simp
    · by_cases h2 : o + 1 ≤ j ∧ j < o + 1 + r.length
      · rw [if_pos h2, if_pos (by simp; omega)]
        obtain ⟨i, rfl⟩ : ∃ i, j = o + 1 + i := ⟨j - (o + 1), by omega⟩
        rw [show o + 1 + i - o = i + 1 by omega, show o + 1 + i - (o + 1) = i by omega]
        rfl
      · rw [if_neg h2, if_neg (fun hh => h1 hh.1), if_neg (by simp; omega)]

theorem setCell_heap (w : World) (k o : Nat) (v : Value) (j : Nat) : (w.setCell ⟨k, o, none⟩ v).heap[j]? = if j = k then (w.heap[j]?).map (fun x => match x with | .cells c el fr => .cells (c.setIfInBounds o v) el fr | x => x) else w.heap[j]? := by
  simp only [World.setCell, Array.getElem?_modify]
  by_cases e : k = j
  · subst e; simp; cases w.heap[k]? with | none => rfl | some x => cases x <;> rfl
  · rw [if_neg e, if_neg (Ne.symm e)]
theorem setCells_heap (k : Nat) : ∀ (vs : List Value) (o : Nat) (w : World) (cs : Array Value) (el : TypeId) (fr : Nat × Nat), w.heap[k]? = some (.cells cs el fr) → o + vs.length ≤ cs.size →
    ∃ cs', (w.setCells k o vs).heap[k]? = some (.cells cs' el fr) ∧ cs'.size = cs.size ∧ (∀ j, cs'[j]? = if o ≤ j ∧ j < o + vs.length then vs[j - o]? else cs[j]?) ∧
      (∀ j, j ≠ k → (w.setCells k o vs).heap[j]? = w.heap[j]?) ∧ (w.setCells k o vs).heap.size = w.heap.size ∧ (w.setCells k o vs).os = w.os ∧ (w.setCells k o vs).tape = w.tape ∧ (w.setCells k o vs).output = w.output
  | [], o, w, cs, el, fr, h, hl => ⟨cs, h, rfl, fun j => by rw [if_neg (fun hh => by have := hh.2; have := hh.1; simp at *; omega)], fun j hj => rfl, rfl, rfl, rfl, rfl⟩
  | v :: r, o, w, cs, el, fr, h, hl => by
    simp at hl
    have h1 : (w.setCell ⟨k, o, none⟩ v).heap[k]? = some (.cells (cs.setIfInBounds o v) el fr) := by rw [setCell_heap, if_pos rfl, h]; rfl
    obtain ⟨cs', a1, a2, a3, a4, a5, a6, a7, a8⟩ := setCells_heap k r (o + 1) _ _ _ _ h1 (by simp; omega)
    refine ⟨cs', a1, by simpa using a2, fun j => ?_, fun j hj => (a4 j hj).trans (by rw [setCell_heap, if_neg hj]), a5.trans (by simp [World.setCell]), a6, a7, a8⟩
    rw [a3 j]
    by_cases h1 : j = o
    · subst h1
      have hj : j < cs.size := by omega
      rw [if_neg (by omega), if_pos (by simp)]
      simp [hj]
    · by_cases h2 : o + 1 ≤ j ∧ j < o + 1 + r.length
      · rw [if_pos h2, if_pos (by simp; omega)]
        obtain ⟨i, rfl⟩ : ∃ i, j = o + 1 + i := ⟨j - (o + 1), by omega⟩
        rw [show o + 1 + i - o = i + 1 by omega, show o + 1 + i - (o + 1) = i by omega]
        rfl
      · rw [if_neg h2, if_neg (by simp; omega), Array.getElem?_setIfInBounds_ne (Ne.symm h1)]

/-- A write to a block that an id owns. -/
theorem Ext.store {b o k d : Nat} {cs vs : List Value} {vs' : List Value} (hr : Rel base c.n0 ρ h.t.get w) (hb : h.t.get b = some (.cells cs)) (hk : ρ b = some (k, d)) (h0 : c.n0 ≤ b) (hlim : b < lim)
    (hlen : o + vs.length ≤ cs.length) (hv : VRL ρ w vs vs') :
    Ext base c.n0 ρ h.t.get h.n w ρ (h.t.put b (some (.cells (puts cs o vs)))).get h.n [b] (w.setCells k (o + d) vs') := by
  obtain ⟨k', d', e1, e2⟩ := hr.at_ b _ hb
  rw [hk] at e1
  cases e1
  obtain ⟨cs', ⟨el, fr, h3, h3'⟩, h4, h5⟩ := e2
  have hvl := hv.len
  obtain ⟨cs2, a1, a2, a3, a4, a5, a6, a7, a8⟩ := setCells_heap k vs' (o + d) w cs' el fr h3 (by omega)
  have hg : Grow w (w.setCells k (o + d) vs') := ⟨by omega, a6, a7, a8, fun j cs el' fr' hj => by
    by_cases e : j = k
    · subst e; rw [h3] at hj; cases hj; exact ⟨cs2, a1, a2⟩
    · exact ⟨cs, (a4 j e).trans hj, rfl⟩⟩
  refine ⟨.refl ρ, fun b x hb => .inl hb, Nat.le_refl _, ⟨fun b' o' hb' => ?_, fun b1 b2 k1 d1 d2 hb1 hb2 => ?_, hr.high, fun b' k' d' hb' => by rw [a5]; exact hr.low b' k' d' hb', by rw [a5]; exact hr.sz⟩, hg, fun j hj hw => ?_, fun b' k' d' h1 h2 => by omega, fun b' hb' => ?_, fun b' hb' => by simp at hb'; omega⟩
  · by_cases e : b' = b
    · subst e
      rw [PT.get_put_same _ _ _ hlim] at hb'
      cases hb'
      refine ⟨k, d, hk, cs2, ⟨el, fr, a1, fun j hj => h3' j (by omega)⟩, by rw [puts_len]; omega, fun j x y hx hy => ?_⟩
      rw [puts_get _ _ _ _ hlen] at hx
      rw [a3] at hy
      split at hx
      · rename_i h6
        rw [if_pos (by omega)] at hy
        exact (hv.at_ (j - o) x y hx (by rw [← hy]; congr 1; omega)).grow hg
      · rename_i h6
        rw [if_neg (by omega)] at hy
        exact (h5 j x y hx hy).grow hg
    · rw [PT.get_put_other _ _ _ _ e] at hb'
      obtain ⟨k', d', f1, f2⟩ := hr.at_ b' o' hb'
      refine ⟨k', d', f1, f2.grow hg (a4 k' (fun ek => ?_))⟩
      subst ek
      exact e (hr.inj b' b k' d' d (by rw [hb']; simp) (by rw [hb]; simp) f1 hk)
  · have key : ∀ b', (h.t.put b (some (.cells (puts cs o vs)))).get b' ≠ none → h.t.get b' ≠ none := fun b' hn => by
      by_cases e : b' = b
      · subst e; rw [hb]; simp
      · rwa [PT.get_put_other _ _ _ _ e] at hn
    exact hr.inj b1 b2 k1 d1 d2 (key b1 hb1) (key b2 hb2)
  · exact a4 j (fun e => hw b (by simp) (by rw [hb]; simp) d (by rw [e]; exact hk))
  · by_cases e : b' = b
    · subst e; exact .inr ⟨by simp, by rw [hb]; simp⟩
    · exact .inl (PT.get_put_other _ _ _ _ e)
end
end Go.Proofs.YthilbhbnimfcmaaDx
