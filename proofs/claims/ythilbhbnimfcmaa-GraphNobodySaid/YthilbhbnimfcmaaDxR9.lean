/- A part of the proof that the interpreter of YthilbhbnimfcmaaDxDx is sound: what it computes of a call, the call comes to in the model. No condition beyond those that each theorem names. -/
import Derived.Test.YthilbhbnimfcmaaDxR8
namespace Go.Proofs.YthilbhbnimfcmaaDx
open Go
set_option linter.unusedVariables false
set_option linter.unusedSimpArgs false

theorem growBy_le (m : Nat) : ∀ (r c : Nat), Builtin.growBy m r c ≤ 2 ^ r * (c + 1000)
  | 0, c => by simp [Builtin.growBy]
  | r + 1, c => by
    unfold Builtin.growBy
    split
    · have : 1 ≤ 2 ^ (r + 1) := Nat.one_le_two_pow
      calc c ≤ 1 * (c + 1000) := by omega
        _ ≤ _ := Nat.mul_le_mul_right _ this
    · have := growBy_le m r (c + (c + 768) / 4)
      refine Nat.le_trans this ?_
      rw [Nat.pow_succ, Nat.mul_assoc]
      exact Nat.mul_le_mul_left _ (by omega)
theorem nextcap_le {need old : Nat} (h1 : need ≤ 1000000) (h2 : old ≤ 1000000) : Builtin.nextslicecap need old ≤ 100000000 := by
  unfold Builtin.nextslicecap
  split
  · omega
  · split
    · omega
    · have h4 := growBy_le need 4 old
      have h5 : (2 : Nat) ^ 4 = 16 := by decide
      rw [h5] at h4
      refine Nat.le_trans h4 ?_
      clear h4
      omega
theorem cell_heap {w w1 : World} (h : w1.heap = w.heap) (a : Addr) : w1.cell? a = w.cell? a := by unfold World.cell?; rw [h]
section
variable {c : Cfg} {base : Nat} {ρ : Emb} {h : Hp} {w : World} {T : Tm} {a : Act} {outs : List Out}

/-- Some cells of a row. -/
theorem run_cells {cs : List Value} {k d o m : Nat} {cs' : Array Value} {w1 : World} (hcl : Cells w k cs') (hh : w1.heap = w.heap) (hlen : cs.length + d ≤ cs'.size) (hv : VRL ρ w cs ((cs'.toList.drop d).take cs.length)) (hm : o + m ≤ cs.length) :
    ∃ l : Array Value, (loadCells ⟨k, o + d, none⟩ m).run c.P w1 = .ok l w1 ∧ VRL ρ w ((cs.drop o).take m) l.toList ∧ l.size = m := by
  have hl : ((cs'.toList.drop (o + d)).take m).length = m := by simp; omega
  have hrun := run_loadCells_list (P := c.P) w1 ⟨k, o + d, none⟩ ((cs'.toList.drop (o + d)).take m) (fun j v hj => by
    rw [Addr.add_off, cell_heap hh, hcl.cell]
    rw [List.getElem?_take] at hj
    split at hj
    · rw [List.getElem?_drop] at hj; simpa using hj
    · cases hj)
  rw [hl] at hrun
  refine ⟨_, hrun, ?_, by simpa using hl⟩
  have := (hv.drop o).take m
  refine ⟨by simp; omega, fun i x y hx hy => this.at_ i x y hx ?_⟩
  rw [← hy]
  simp only [List.getElem?_take, List.getElem?_drop]
  split
  · rw [if_pos (by omega)]; congr 1; omega
  · rfl
theorem newCells_run {sz : Nat} {x x' : Value} {nw : List Value × Nat} (hn : newCells h sz x = some nw) (hr : Rel base c.n0 ρ h.t.get w) (hx : VR ρ w x x') :
    (∀ w1, (Builtin.lenOf x').run c.P w1 = .ok nw.2 w1) ∧ ∀ w1, w1.heap = w.heap → ∃ l : Array Value, (Builtin.firstCells sz nw.2 x').run c.P w1 = .ok l w1 ∧ VRL ρ w nw.1 l.toList ∧ l.size = nw.2 * sz := by
  unfold newCells at hn
  split at hn
  · rename_i b o m _
    split at hn
    · rename_i hm
      subst hm
      cases hn
      cases hx with
      | sl b o n sz' cp k d hb hn' hroom => exact ⟨fun w1 => rfl, fun w1 hw1 => ⟨#[], by simp [Builtin.firstCells, loadCells, loadCellsFrom, Sem.run_pure], by simpa using VRL.nil, by simp⟩⟩
      | sl0 b o sz' a' => exact ⟨fun w1 => rfl, fun w1 hw1 => ⟨#[], by simp [Builtin.firstCells, loadCells, loadCellsFrom, Sem.run_pure], by simpa using VRL.nil, by simp⟩⟩
    · rename_i hm
      obtain ⟨cs, e1, e2⟩ := Option.bind_eq_some_iff.1 hn
      obtain ⟨l, e3, rfl⟩ := Option.map_eq_some_iff.1 e2
      obtain ⟨e4, rfl⟩ := slc_some e3
      cases hx with
      | sl0 b o sz' a' => exact absurd rfl hm
      | sl b o n sz' cp k d hb hn' hroom =>
        obtain ⟨k', d', f1, f2⟩ := hr.at_ b _ (cellsAt_some e1)
        rw [hb] at f1
        cases f1
        obtain ⟨cs', f3, f4, f5⟩ := f2.vrl
        refine ⟨fun w1 => rfl, fun w1 hw1 => ?_⟩
        obtain ⟨l, g1, g2, g3⟩ := run_cells (c := c) (o := o) (m := m * sz) f3 hw1 f4 f5 e4
        exact ⟨l, g1, g2, g3⟩
  · cases hn
    cases hx
    exact ⟨fun w1 => rfl, fun w1 hw1 => ⟨#[], by simp [Builtin.firstCells, Sem.run_pure], by simpa using VRL.nil, by simp⟩⟩
  · rename_i s
    cases e : Nat.beq sz 1 with
    | false => rw [e] at hn; cases hn
    | true =>
      rw [e] at hn
      cases hn
      obtain rfl := beq_t e
      cases hx
      refine ⟨fun w1 => by show Result.ok s.size w1 = Result.ok s.data.toList.length w1; rw [ByteArray.size_list], fun w1 hw1 => ⟨s.data.map fun b => .int .u8 b.toNat, ?_, ?_, by simp⟩⟩
      · have : (s.extract 0 s.data.toList.length) = s := by rw [ByteArray.extract_list]; obtain ⟨⟨l⟩⟩ := s; simp
        simp only [Builtin.firstCells]
        rw [this]
        rfl
      · refine ⟨by simp, fun i x y hx hy => ?_⟩
        have hxy : x = y := by
          simp at hx hy
          obtain ⟨b1, h1, rfl⟩ := hx
          obtain ⟨b2, h2, rfl⟩ := hy
          rw [h1] at h2
          cases h2
          rfl
        subst hxy
        simp at hx
        obtain ⟨b1, h1, rfl⟩ := hx
        exact .int _ _
  · cases hn
/-- An id is given up. -/
theorem Ext.drop {b : Nat} {o : Ob} (hr : Rel base c.n0 ρ h.t.get w) (hb : h.t.get b = some o) (h0 : c.n0 ≤ b) (hlim : b < lim) : Ext base c.n0 ρ h.t.get h.n w ρ (h.t.put b none).get h.n [b] w := by
  have key : ∀ b' o', (h.t.put b none).get b' = some o' → h.t.get b' = some o' := fun b' o' he => by
    by_cases e : b' = b
    · subst e; rw [PT.get_put_same _ _ _ hlim] at he; cases he
    · rwa [PT.get_put_other _ _ _ _ e] at he
  refine ⟨.refl ρ, fun b x hb => .inl hb, Nat.le_refl _, hr.forget key, .refl w, fun _ _ _ => rfl, fun b' k' d' h1 h2 => by omega, fun b' hb' => ?_, fun b' hb' => by simp at hb'; omega⟩
  by_cases e : b' = b
  · subst e; exact .inr ⟨by simp, by rw [hb]; simp⟩
  · exact .inl (PT.get_put_other _ _ _ _ e)
/-- An append in place. -/
theorem Ext.inplace {b o k d m : Nat} {cs old nw : List Value} {nw' : List Value} (hr : Rel base c.n0 ρ h.t.get w) (hfree : ρ h.n = none) (hb : h.t.get b = some (.cells cs)) (hk : ρ b = some (k, d)) (h0 : c.n0 ≤ b) (hlim : b < lim) (hlim' : h.n < lim)
    (ho : slc cs o m = some old) (hv : VRL ρ w nw nw') {cs' : Array Value} (hcl : Cells w k cs') (hroom : o + d + m + nw.length ≤ cs'.size) :
    Ext base c.n0 ρ h.t.get h.n w (ρ.put h.n (k, o + d)) ((h.t.put b none).put h.n (some (.cells (old ++ nw)))).get (h.n + 1) [b] (w.setCells k (o + d + m) nw') := by
  obtain ⟨h5, rfl⟩ := slc_some ho
  obtain ⟨k', d', e1, e2⟩ := hr.at_ b _ hb
  rw [hk] at e1
  cases e1
  obtain ⟨cs0, hcl0, h4, h5'⟩ := e2
  obtain ⟨el, fr, h3, h3'⟩ := hcl
  obtain ⟨el0, fr0, h30, _⟩ := hcl0
  rw [h3] at h30
  cases h30
  have hvl := hv.len
  obtain ⟨cs2, a1, a2, a3, a4, a5, a6, a7, a8⟩ := setCells_heap k nw' (o + d + m) w cs' el fr h3 (by omega)
  have hg : Grow w (w.setCells k (o + d + m) nw') := ⟨by omega, a6, a7, a8, fun j cs el' fr' hj => by
    by_cases e : j = k
    · subst e; rw [h3] at hj; cases hj; exact ⟨cs2, a1, a2⟩
    · exact ⟨cs, (a4 j e).trans hj, rfl⟩⟩
  have hbn : b ≠ h.n := fun e => by subst e; rw [hfree] at hk; cases hk
  have hle : ρ.le (ρ.put h.n (k, o + d)) := Emb.le_put hfree
  have keyρ : ∀ b' x, b' ≠ h.n → ρ.put h.n (k, o + d) b' = some x → ρ b' = some x := fun b' x e hb => by unfold Emb.put at hb; rwa [if_neg e] at hb
  have keyH : ∀ b', b' ≠ h.n → b' ≠ b → ((h.t.put b none).put h.n (some (.cells ((cs.drop o).take m ++ nw)))).get b' = h.t.get b' := fun b' e1 e2 => by rw [PT.get_put_other _ _ _ _ e1, PT.get_put_other _ _ _ _ e2]
  have keyB : ((h.t.put b none).put h.n (some (.cells ((cs.drop o).take m ++ nw)))).get b = none := by rw [PT.get_put_other _ _ _ _ hbn, PT.get_put_same _ _ _ hlim]
  refine ⟨hle, fun b' x hb' => ?_, by omega, ⟨fun b' o' hb' => ?_, fun b1 b2 k1 d1 d2 hb1 hb2 hk1 hk2 => ?_, fun b' k' d' h1 h2 => ?_, fun b' k' d' h1 => ?_, by rw [a5]; exact hr.sz⟩, hg, fun j hj hw => ?_, fun b' k' d' h1 h2 h3 h4 => ?_, fun b' hb' => ?_, fun b' hb' => by simp at hb'; omega⟩
  · by_cases e : b' = h.n
    · exact .inr (by omega)
    · exact .inl (keyρ _ _ e hb')
  · by_cases e : b' = h.n
    · subst e
      rw [PT.get_put_same _ _ _ hlim'] at hb'
      cases hb'
      refine ⟨k, o + d, Emb.put_same _ _ _, cs2, ⟨el, fr, a1, fun j hj => h3' j (by omega)⟩, by simp; omega, fun j x y hx hy => ?_⟩
      rw [a3] at hy
      have hol : ((cs.drop o).take m).length = m := by simp; omega
      by_cases hj : j < m
      · rw [List.getElem?_append_left (by omega)] at hx
        rw [if_neg (by omega)] at hy
        rw [List.getElem?_take, if_pos hj, List.getElem?_drop] at hx
        exact ((h5' (o + j) x y hx (by rw [← hy]; congr 1; omega)).grow hg).le hle
      · rw [List.getElem?_append_right (by omega), hol] at hx
        have hjl : j - m < nw.length := (List.getElem?_eq_some_iff.1 hx).1
        rw [if_pos (by omega)] at hy
        exact ((hv.at_ (j - m) x y hx (by rw [← hy]; congr 1; omega)).grow hg).le hle
    · by_cases e2 : b' = b
      · subst e2; rw [keyB] at hb'; cases hb'
      · rw [keyH _ e e2] at hb'
        obtain ⟨k', d', f1, f2⟩ := hr.at_ b' o' hb'
        refine ⟨k', d', hle _ _ f1, (f2.le hle).grow hg (a4 k' (fun ek => ?_))⟩
        subst ek
        exact e2 (hr.inj b' b k' d' d (by rw [hb']; simp) (by rw [hb]; simp) f1 hk)
  · have live : ∀ b' k' d', b' ≠ h.n → ((h.t.put b none).put h.n (some (.cells ((cs.drop o).take m ++ nw)))).get b' ≠ none → ρ.put h.n (k, o + d) b' = some (k', d') → b' ≠ b ∧ h.t.get b' ≠ none ∧ ρ b' = some (k', d') := fun b' k' d' e hl hp => by
      have e2 : b' ≠ b := fun e2 => by subst e2; rw [keyB] at hl; exact hl rfl
      exact ⟨e2, by rwa [keyH _ e e2] at hl, keyρ _ _ e hp⟩
    by_cases e1 : b1 = h.n
    · by_cases e2 : b2 = h.n
      · rw [e1, e2]
      · subst e1
        rw [Emb.put_same] at hk1
        cases hk1
        obtain ⟨f1, f2, f3⟩ := live b2 _ _ e2 hb2 hk2
        exact absurd (hr.inj b2 b k d2 d f2 (by rw [hb]; simp) f3 hk) f1
    · by_cases e2 : b2 = h.n
      · subst e2
        rw [Emb.put_same] at hk2
        cases hk2
        obtain ⟨f1, f2, f3⟩ := live b1 _ _ e1 hb1 hk1
        exact absurd (hr.inj b1 b k d1 d f2 (by rw [hb]; simp) f3 hk) f1
      · obtain ⟨f1, f2, f3⟩ := live b1 _ _ e1 hb1 hk1
        obtain ⟨g1, g2, g3⟩ := live b2 _ _ e2 hb2 hk2
        exact hr.inj b1 b2 k1 d1 d2 f2 g2 f3 g3
  · by_cases e : b' = h.n
    · subst e; rw [Emb.put_same] at h2; cases h2; exact hr.high b k d h0 hk
    · exact hr.high b' k' d' h1 (keyρ _ _ e h2)
  · rw [a5]
    by_cases e : b' = h.n
    · subst e; rw [Emb.put_same] at h1; cases h1; exact hr.low b k d hk
    · exact hr.low b' k' d' (keyρ _ _ e h1)
  · exact a4 j (fun e => hw b (by simp) (by rw [hb]; simp) d (by rw [e]; exact hk))
  · have e : b' = h.n := by omega
    subst e
    rw [Emb.put_same] at h4
    cases h4
    exact .inr ⟨b, by simp, by rw [hb]; simp, d, hk⟩
  · by_cases e2 : b' = b
    · subst e2; exact .inr ⟨by simp, by rw [hb]; simp⟩
    · exact .inl (keyH _ (by omega) e2)
end
end Go.Proofs.YthilbhbnimfcmaaDx
