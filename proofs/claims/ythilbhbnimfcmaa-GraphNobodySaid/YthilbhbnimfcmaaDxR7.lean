/- A part of the proof that the interpreter of YthilbhbnimfcmaaDxDx is sound: what it computes of a call, the call comes to in the model. No condition beyond those that each theorem names. -/
import Derived.Test.YthilbhbnimfcmaaDxR6
namespace Go.Proofs.YthilbhbnimfcmaaDx
open Go
set_option linter.unusedVariables false
set_option linter.unusedSimpArgs false

theorem rep_len (z : List Value) : ∀ n, (rep z n).length = n * z.length
  | 0 => by simp [rep]
  | n + 1 => by simp [rep, rep_len z n, Nat.succ_mul]; omega
theorem rep_get (z : List Value) : ∀ (n i : Nat), i < n * z.length → (rep z n)[i]? = z[i % z.length]?
  | 0, i, h => by simp at h
  | n + 1, i, h => by
    unfold rep
    by_cases hi : i < z.length
    · rw [List.getElem?_append_left hi, Nat.mod_eq_of_lt hi]
    · rw [List.getElem?_append_right (by omega), rep_get z n _ (by rw [Nat.succ_mul] at h; omega)]
      congr 1
      exact (Nat.mod_eq_sub_mod (by omega)).symm
theorem ByteArray.size_list (s : ByteArray) : s.size = s.data.toList.length := by obtain ⟨s⟩ := s; rfl
theorem puts_size (off : Nat) : ∀ (l : List Value) (k : Nat) (cells : Array Value), ((l.zipIdx k).foldl (fun (cs : Array Value) (x : Value × Nat) => cs.setIfInBounds (off + x.2) x.1) cells).size = cells.size
  | [], k, cells => rfl
  | v :: r, k, cells => by
    simp only [List.zipIdx_cons, List.foldl_cons]
    rw [puts_size off r (k + 1)]
    simp
theorem fill_size (place : Nat → Option (Nat × Nat)) : ∀ (ps : List (Nat × Value)) (cells r : Array Value), Instr.fill place cells ps = some r → r.size = cells.size
  | [], cells, r, h => by cases h; rfl
  | p :: ps, cells, r, h => by
    obtain ⟨i, v⟩ := p
    unfold Instr.fill at h
    cases e : place i with
    | none => rw [e] at h; cases h
    | some q =>
      obtain ⟨off, size⟩ := q
      rw [e] at h
      simp only at h
      split at h
      · cases h
      · rw [fill_size place ps _ r h, ← Array.foldl_toList, Array.toList_zipIdx]
        exact puts_size off v.cells.toList 0 cells
section
variable {c : Cfg} {base : Nat} {ρ : Emb} {h : Hp} {w : World} {T : Tm} {a : Act} {outs : List Out}

theorem goes_buildSlice (hc : CfgOk c) {t : TypeId} {n : Nat} {vs : List (Nat × Value)} {ps : Array (Nat × Value)} (hr : Rel base c.n0 ρ h.t.get w) (hp : PR ρ w vs ps.toList) (ho : buildSliceD c h t n vs = some outs)
    (hfree : ∀ v h' W, (v, h', W) ∈ outs → Free ρ h.n h'.n) {r : Result Next} (he : r = ((do pure (Next.value (← Instr.buildSlice t n ps)) : Sem Next)).run c.P w) : Goes c base ρ h w outs r := by
  unfold buildSliceD at ho
  split at ho
  · rename_i el hu
    obtain ⟨s, e1, ho⟩ := Option.bind_eq_some_iff.1 ho
    cases e2 : (Nat.beq s 0 || Nat.blt 16777216 (n * s)) with
    | true => rw [e2] at ho; cases ho
    | false =>
      rw [e2] at ho
      simp only [Bool.or_eq_false_iff] at e2
      simp only [cond_false] at ho
      have hs0 : s ≠ 0 := fun e => by subst e; simp at e2
      have hns : ¬ n * s > 16777216 := blt_f e2.2
      obtain ⟨zs, e3, ho⟩ := Option.bind_eq_some_iff.1 ho
      obtain ⟨l, e4, ho⟩ := Option.bind_eq_some_iff.1 ho
      have hp24 : (2 : Nat) ^ 24 = 16777216 := by decide
      -- the zeros
      have key : ∃ cells0 : Array Value, VRL ρ w zs cells0.toList ∧ cells0.size = n * s ∧ ∀ l', Instr.fill (fun i => some (i * s, s)) cells0 ps.toList = some l' →
          (Instr.buildSlice t n ps).run c.P w = .ok (.slice (some ⟨w.heap.size, 0, none⟩) n n) (w.alloc (.cells l' el)) := by
        by_cases hn : n = 0
        · subst hn
          rw [if_pos rfl] at e3
          cases e3
          refine ⟨#[], by simpa using VRL.nil, by simp, fun l' hl' => ?_⟩
          have h0 : Array.range 0 = #[] := rfl
          simp [Instr.buildSlice, run_und hc hu, run_size hc e1, Result.andThen, h0, hl', newRow, Sem.run, newObj]
        · rw [if_neg hn] at e3
          obtain ⟨z, e5, e6⟩ := Option.bind_eq_some_iff.1 e3
          cases e7 : Nat.beq (cellsOfV z).length s with
          | false => rw [e7] at e6; cases e6
          | true =>
            rw [e7] at e6
            cases e6
            have hl := beq_t e7
            have hz : VRL ρ w (cellsOfV z) z.cells.toList := (VR.flatd 2 (hc.zer el z e5).2).cells
            have hzl : z.cells.size = s := by have := hz.len; simp at this; omega
            have hnz : ¬ n * s = 0 := by
              intro hm
              rcases Nat.mul_eq_zero.1 hm with h1 | h1 <;> omega
            refine ⟨(Array.range (n * s)).map (z.cells[· % z.cells.size]!), ⟨by simp [rep_len, hl], fun i x y hx hy => ?_⟩, by simp, fun l' hl' => ?_⟩
            · have hi : i < n * s := by have := (List.getElem?_eq_some_iff.1 hx).1; rw [rep_len, hl] at this; exact this
              rw [rep_get _ _ _ (by rw [hl]; exact hi), hl] at hx
              simp [hi, hzl] at hy
              have hm : i % s < z.cells.size := by rw [hzl]; exact Nat.mod_lt _ (by omega)
              refine hz.at_ (i % s) x y hx ?_
              rw [← hy]
              simp [hm]
            · simp only [Instr.buildSlice, Sem.run_bind, run_und hc hu, run_size hc e1, Result.andThen, hp24, if_neg hns, if_neg hnz, run_zero hc e5, Sem.run_pure]
              rw [hl']
              simp [newRow, Sem.run_bind, Result.andThen, Sem.run_pure, Sem.run, newObj]
      obtain ⟨cells0, f2, f5, f6⟩ := key
      obtain ⟨l', f3, f4⟩ := fill_VR _ _ _ _ _ _ hp f2 e4
      have f7 := f6 l' f3
      have hl1 : l'.size = n * s := by rw [← f5]; exact fill_size _ _ _ _ f3
      refine Goes.new (cs' := l') (el := el) (fr := (0, 0)) ho hr hfree (.refl w) rfl f4.take_all (fun j hj hh => by simp at hh) (v' := .slice (some ⟨w.heap.size, 0, none⟩) n n) ?_ (fun ρ' w' hρ hcl => ?_)
      · rw [he]
        simp only [Sem.run_bind, f7, Result.andThen]
        rfl
      · exact .sl h.n 0 n s n _ 0 hρ (Nat.le_refl _) ⟨l', hcl, by omega⟩
  · cases ho
end
end Go.Proofs.YthilbhbnimfcmaaDx
