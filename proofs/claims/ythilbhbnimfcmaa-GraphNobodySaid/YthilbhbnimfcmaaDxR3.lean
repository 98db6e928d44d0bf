/- A part of the proof that the interpreter of YthilbhbnimfcmaaDxDx is sound: what it computes of a call, the call comes to in the model. No condition beyond those that each theorem names. -/
import Derived.Test.YthilbhbnimfcmaaDxR2
import Derived.Laws.Cover4
namespace Go.Proofs.YthilbhbnimfcmaaDx
open Go
set_option linter.unusedVariables false
set_option linter.unusedSimpArgs false

theorem heap_alloc (w : World) (o : Obj) (k : Nat) : (w.alloc o).heap[k]? = if k = w.heap.size then some o else w.heap[k]? := by
  show (w.heap.push o)[k]? = _
  rw [Array.getElem?_push]
theorem Grow.alloc (w : World) (o : Obj) : Grow w (w.alloc o) :=
  ⟨by show w.heap.size ≤ (w.heap.push o).size; simp, rfl, rfl, rfl, fun k cs el fr h => ⟨cs, by
    rw [heap_alloc, if_neg (fun e => by subst e; rw [Array.getElem?_eq_none (Nat.le_refl _)] at h; cases h)]; exact h, rfl⟩⟩
theorem Grow.drew (w : World) : Grow w w.drew := ⟨Nat.le_refl _, rfl, rfl, rfl, fun k cs el fr h => ⟨cs, h, rfl⟩⟩
def Emb.put (ρ : Emb) (n : Nat) (x : Nat × Nat) : Emb := fun b => if b = n then some x else ρ b
theorem Emb.put_same (ρ : Emb) (n : Nat) (x : Nat × Nat) : ρ.put n x n = some x := by simp [Emb.put]
theorem Emb.le_put {ρ : Emb} {n : Nat} {x : Nat × Nat} (h : ρ n = none) : ρ.le (ρ.put n x) := fun b y hb => by
  unfold Emb.put
  rw [if_neg (fun e => by subst e; rw [h] at hb; cases hb)]
  exact hb

/-- A new block, behind some draws. -/
theorem Ext.new' {c : Cfg} {base : Nat} {ρ : Emb} {h h' : Hp} {w w1 : World} {o : Ob} {ob : Obj} (hr : Rel base c.n0 ρ h.t.get w) (hfree : ρ h.n = none) (hn : newD h o = some h')
    (hg : Grow w w1) (hh : w1.heap = w.heap) (ho : OR (ρ.put h.n (w.heap.size, 0)) (w1.alloc ob) w.heap.size 0 o) :
    Ext base c.n0 ρ h.t.get h.n w (ρ.put h.n (w.heap.size, 0)) h'.t.get h'.n [] (w1.alloc ob) ∧ h'.n = h.n + 1 := by
  unfold newD at hn
  cases e : Nat.blt h.n lim with
  | false => rw [e] at hn; cases hn
  | true =>
    rw [e] at hn
    obtain rfl := Option.some.inj hn
    have hlim := blt_t e
    have hle : ρ.le (ρ.put h.n (w.heap.size, 0)) := Emb.le_put hfree
    have hgr : Grow w (w1.alloc ob) := hg.trans (.alloc _ _)
    have hk : ∀ k, k < w.heap.size → (w1.alloc ob).heap[k]? = w.heap[k]? := fun k hk => by rw [heap_alloc, hh, if_neg (by omega)]
    refine ⟨⟨hle, fun b x hb => ?_, by simp, ⟨fun b o' hb => ?_, fun b b' k d d' hb hb' hbk hbk' => ?_, fun b k d h0 hb => ?_, fun b k d hb => ?_, ?_⟩, hgr, fun k hk' _ => hk k hk', fun b k d h1 h2 h3 h4 => ?_, fun b hb => ?_, fun b hb => by cases hb⟩, rfl⟩
    · unfold Emb.put at hb
      split at hb
      · rename_i e; subst e; exact .inr ⟨Nat.le_refl _, by simp⟩
      · exact .inl hb
    · by_cases e : b = h.n
      · subst e
        simp only at hb
        rw [PT.get_put_same _ _ _ hlim] at hb
        cases hb
        exact ⟨_, _, Emb.put_same _ _ _, ho⟩
      · simp only at hb
        rw [PT.get_put_other _ _ _ _ e] at hb
        obtain ⟨k, d, h1, h2⟩ := hr.at_ b o' hb
        exact ⟨k, d, hle _ _ h1, (h2.le hle).grow hgr (hk k (hr.low b k d h1))⟩
    · have key : ∀ b k d, b ≠ h.n → ρ.put h.n (w.heap.size, 0) b = some (k, d) → ρ b = some (k, d) := fun b k d e hb => by unfold Emb.put at hb; rwa [if_neg e] at hb
      simp only at hb hb'
      by_cases e1 : b = h.n
      · by_cases e2 : b' = h.n
        · rw [e1, e2]
        · subst e1
          rw [Emb.put_same] at hbk
          cases hbk
          have := hr.low b' _ d' (key b' _ _ e2 hbk')
          omega
      · by_cases e2 : b' = h.n
        · subst e2
          rw [Emb.put_same] at hbk'
          cases hbk'
          have := hr.low b _ d (key b _ _ e1 hbk)
          omega
        · rw [PT.get_put_other _ _ _ _ e1] at hb
          rw [PT.get_put_other _ _ _ _ e2] at hb'
          exact hr.inj b b' k d d' hb hb' (key _ _ _ e1 hbk) (key _ _ _ e2 hbk')
    · unfold Emb.put at hb
      split at hb
      · cases hb; exact hr.sz
      · exact hr.high b k d h0 hb
    · have := hgr.size
      have hs : (w1.alloc ob).heap.size = w.heap.size + 1 := by show (w1.heap.push ob).size = _; simp [hh]
      unfold Emb.put at hb
      split at hb
      · cases hb; omega
      · have := hr.low b k d hb; omega
    · have := hgr.size; have := hr.sz; omega
    · have : b = h.n := by simp at h2; omega
      subst this
      rw [Emb.put_same] at h4
      cases h4
      exact .inl (Nat.le_refl _)
    · refine .inl ?_
      simp only
      rw [PT.get_put_other _ _ _ _ (by simp at hb; omega)]

theorem cells_alloc {w1 w : World} (hh : w1.heap = w.heap) (cs : Array Value) (el : TypeId) (fr : Nat × Nat) (hfr : ∀ j, j < cs.size → ¬ (fr.1 ≤ j ∧ j < fr.2)) : Cells (w1.alloc (.cells cs el fr)) w.heap.size cs :=
  ⟨el, fr, by rw [heap_alloc, hh, if_pos rfl], hfr⟩
/-- A new row of cells. -/
theorem Goes.new {c : Cfg} {base : Nat} {ρ : Emb} {h : Hp} {w w1 : World} {cs : List Value} {f : Nat → Value} {outs : List Out} {cs' : Array Value} {el : TypeId} {fr : Nat × Nat} {v' : Value} {r : Result Next}
    (ho : newV h cs f = some outs) (hr : Rel base c.n0 ρ h.t.get w) (hfree : ∀ v h' W, (v, h', W) ∈ outs → Free ρ h.n h'.n)
    (hg : Grow w w1) (hh : w1.heap = w.heap) (hv : VRL ρ w cs (cs'.toList.take cs.length)) (hfr : ∀ j, j < cs'.size → ¬ (fr.1 ≤ j ∧ j < fr.2))
    (e : r = .ok (.value v') (w1.alloc (.cells cs' el fr)))
    (hf : ∀ ρ' w', ρ' h.n = some (w.heap.size, 0) → Cells w' w.heap.size cs' → VR ρ' w' (f h.n) v') : Goes c base ρ h w outs r := by
  unfold newV at ho
  cases hn : newD h (.cells cs) with
  | none => rw [hn] at ho; cases ho
  | some h' =>
    rw [hn] at ho
    cases ho
    have hn1 : h'.n = h.n + 1 := by
      unfold newD at hn
      cases e : Nat.blt h.n lim with
      | false => rw [e] at hn; cases hn
      | true => rw [e] at hn; obtain rfl := Option.some.inj hn; rfl
    have hfr0 : ρ h.n = none := hfree (f h.n) h' [] (by simp) h.n (Nat.le_refl _) (by omega)
    have hcl := cells_alloc hh cs' el fr hfr
    have hlen : cs.length ≤ cs'.size := by have := hv.len; simp at this; omega
    have hx := Ext.new' (ob := .cells cs' el fr) hr hfr0 hn hg hh ⟨cs', hcl, by omega, fun j x y hx hy => by
      have hj : j < cs.length := (List.getElem?_eq_some_iff.1 hx).1
      have : (cs'.toList.take cs.length)[j]? = some y := by rw [List.getElem?_take, if_pos hj]; simpa using hy
      exact ((hv.at_ j x y hx this).grow (hg.trans (.alloc _ _))).le (Emb.le_put hfr0)⟩
    exact ⟨_, _, _, by simp, v', _, _, .inl e, hf _ _ (Emb.put_same _ _ _) hcl, hx.1⟩
theorem VRL.take_all {ρ : Emb} {w : World} {xs : List Value} {ys : Array Value} (h : VRL ρ w xs ys.toList) : VRL ρ w xs (ys.toList.take xs.length) := by
  rw [h.len, List.take_length]; exact h

section
variable {c : Cfg} {base : Nat} {ρ : Emb} {h : Hp} {w : World} {T : Tm} {a : Act} {outs : List Out}

theorem run_move (x : Operand) (o : Oper) (ho : o.op = .move x) : (execOp a.eval o).run c.P w = .ok (.value (a.eval x)) w := by
  unfold execOp; rw [ho]; rfl
theorem run_assign (x : Operand) (o : Oper) (ho : o.op = .assign x) : (execOp a.eval o).run c.P w = .ok (.value (a.eval x)) w := by
  unfold execOp; rw [ho]; rfl
theorem run_zero (hc : CfgOk c) {t : TypeId} {z : Value} (hz : c.zer t = some z) (w : World) : (zeroValue t).run c.P w = .ok z w := by
  have := (hc.zer t z hz).1
  obtain ⟨i, h1, h2⟩ := Option.bind_eq_some_iff.1 this
  simp [zeroValue, typeInfo, program, h1, h2, Sem.run]
theorem run_size (hc : CfgOk c) {t : TypeId} {n : Nat} (hz : c.siz t = some n) (w : World) : (sizeOf t).run c.P w = .ok n w := by
  have := hc.siz t n hz
  obtain ⟨i, h1, h2⟩ := Option.map_eq_some_iff.1 this
  simp [sizeOf, typeInfo, program, h1, h2, Sem.run]
theorem run_und (hc : CfgOk c) {t : TypeId} {d : TypeDesc} (hz : c.und t = some d) (w : World) : (underlying t).run c.P w = .ok d w := run_underlying (hc.und t d hz) w
theorem run_agg (hc : CfgOk c) {t : TypeId} {b : Bool} (hz : isAggD c t = some b) (w : World) : (isAgg t).run c.P w = .ok b w := by
  unfold isAggD at hz
  unfold isAgg
  cases e : c.und t with
  | none => rw [e] at hz; cases hz
  | some d =>
    rw [e] at hz
    rw [Sem.run_bind, run_und hc e]
    simp only [Result.andThen]
    cases d <;> simp at hz <;> subst hz <;> rfl
theorem nth_eq : ∀ (l : List Value) (n : Nat), nth l n = l[n]?
  | [], n => by simp [nth]
  | x :: l, 0 => by simp [nth]
  | x :: l, n + 1 => by
    have : nth (x :: l) (n + 1) = nth l n := rfl
    rw [this, nth_eq l n]
    simp
theorem slc_some {l r : List Value} {o n : Nat} (h : slc l o n = some r) : o + n ≤ l.length ∧ r = (l.drop o).take n := by
  unfold slc at h
  cases e : Nat.ble (o + n) l.length with
  | false => rw [e] at h; cases h
  | true => rw [e] at h; exact ⟨ble_t e, (Option.some.inj h).symm⟩
/-- A part of a row of cells. -/
theorem run_part (hc : CfgOk c) {t : TypeId} {cs : List Value} {cs' : Array Value} {off : Nat} {v : Value} (hv : VRL ρ w cs cs'.toList) (hp : partD c t cs off = some v) (w' : World) :
    ∃ v', (part t cs' off).run c.P w' = .ok v' w' ∧ VR ρ w v v' := by
  unfold partD at hp
  obtain ⟨b, h1, h2⟩ := Option.bind_eq_some_iff.1 hp
  cases b with
  | true =>
    simp only [cond_true] at h2
    obtain ⟨n, h3, h4⟩ := Option.bind_eq_some_iff.1 h2
    obtain ⟨l, h5, rfl⟩ := Option.map_eq_some_iff.1 h4
    obtain ⟨h6, rfl⟩ := slc_some h5
    refine ⟨.agg (cs'.extract off (off + n)), ?_, ?_⟩
    · simp [part, Sem.run_bind, run_agg hc h1, run_size hc h3, Result.andThen, Sem.run_pure]
    · have := (hv.drop off).take n
      refine .agg _ _ (by simpa using this.len) (fun i x y hx hy => this.at_ i x y (by simpa using hx) ?_)
      rw [← hy]
      simp [Array.toList_extract, List.extract_eq_take_drop]
  | false =>
    simp only [cond_false] at h2
    rw [nth_eq] at h2
    obtain ⟨y, h3, h4⟩ := hv.get h2
    have h3' : cs'[off]? = some y := by simpa using h3
    exact ⟨y, by simp [part, Sem.run_bind, run_agg hc h1, h3', Result.andThen, Sem.run_pure], h4⟩
end
end Go.Proofs.YthilbhbnimfcmaaDx
