/- A part of the proof that the interpreter of YthilbhbnimfcmaaDxDx is sound: what it computes of a call, the call comes to in the model. No condition beyond those that each theorem names. -/
import Derived.Test.YthilbhbnimfcmaaDxR5
namespace Go.Proofs.YthilbhbnimfcmaaDx
open Go
set_option linter.unusedVariables false
set_option linter.unusedSimpArgs false

theorem ins_eq : ∀ (l : List Value) (n : Nat) (v : Value), ins l n v = l.set n v
  | [], n, v => rfl
  | x :: l, 0, v => rfl
  | x :: l, n + 1, v => by
    have : ins (x :: l) (n + 1) v = x :: ins l n v := rfl
    rw [this, ins_eq l n v]
    rfl
theorem foldl_puts (off : Nat) : ∀ (l : List Value) (k : Nat) (cells : Array Value), ((l.zipIdx k).foldl (fun (cs : Array Value) (x : Value × Nat) => cs.setIfInBounds (off + x.2) x.1) cells).toList = puts cells.toList (off + k) l
  | [], k, cells => by
    have : puts cells.toList (off + k) [] = cells.toList := by cases cells.toList <;> rfl
    rw [this]; rfl
  | v :: r, k, cells => by
    simp only [List.zipIdx_cons, List.foldl_cons]
    rw [foldl_puts off r (k + 1)]
    have : puts cells.toList (off + k) (v :: r) = puts (ins cells.toList (off + k) v) (off + k + 1) r := by cases cells.toList <;> rfl
    rw [this, ins_eq, Array.toList_setIfInBounds]
    rfl

section
variable {c : Cfg} {base : Nat} {ρ : Emb} {h : Hp} {w : World} {T : Tm} {a : Act} {outs : List Out}

theorem VRL.set {xs ys : List Value} {x y : Value} (h : VRL ρ w xs ys) (n : Nat) (hv : VR ρ w x y) : VRL ρ w (xs.set n x) (ys.set n y) :=
  ⟨by simp [h.len], fun i u v hu hv' => by
    rw [List.getElem?_set] at hu hv'
    split at hu
    · rename_i e
      rw [if_pos e] at hv'
      split at hu
      · rename_i hl
        rw [if_pos (by rw [← h.len]; exact hl)] at hv'
        cases hu; cases hv'; exact hv
      · cases hu
    · rename_i e
      rw [if_neg e] at hv'
      exact h.at_ i u v hu hv'⟩
theorem VRL.puts : ∀ {vs vs' : List Value} {xs ys : List Value} {o : Nat}, VRL ρ w xs ys → VRL ρ w vs vs' → VRL ρ w (_root_.Go.Proofs.YthilbhbnimfcmaaDx.puts xs o vs) (_root_.Go.Proofs.YthilbhbnimfcmaaDx.puts ys o vs')
  | [], vs', xs, ys, o, h, k => by
    obtain rfl := k.cases_nil
    have e1 : _root_.Go.Proofs.YthilbhbnimfcmaaDx.puts xs o [] = xs := by cases xs <;> rfl
    have e2 : _root_.Go.Proofs.YthilbhbnimfcmaaDx.puts ys o [] = ys := by cases ys <;> rfl
    rw [e1, e2]; exact h
  | v :: r, vs', xs, ys, o, h, k => by
    obtain ⟨v', r', rfl, hv, hr⟩ := k.cases_cons
    have e1 : _root_.Go.Proofs.YthilbhbnimfcmaaDx.puts xs o (v :: r) = _root_.Go.Proofs.YthilbhbnimfcmaaDx.puts (ins xs o v) (o + 1) r := by cases xs <;> rfl
    have e2 : _root_.Go.Proofs.YthilbhbnimfcmaaDx.puts ys o (v' :: r') = _root_.Go.Proofs.YthilbhbnimfcmaaDx.puts (ins ys o v') (o + 1) r' := by cases ys <;> rfl
    rw [e1, e2, ins_eq, ins_eq]
    exact VRL.puts (h.set o hv) hr
/-- Parts, one by one. -/
inductive PR (ρ : Emb) (w : World) : List (Nat × Value) → List (Nat × Value) → Prop
  | nil : PR ρ w [] []
  | cons (i : Nat) (x y : Value) (xs ys : List (Nat × Value)) (h : VR ρ w x y) (k : PR ρ w xs ys) : PR ρ w ((i, x) :: xs) ((i, y) :: ys)
theorem valOps_PR : ∀ (l : List (Nat × Operand)) (vs : List (Nat × Value)), (∀ p ∈ l, EV c ρ w T a p.2) → valOps c T l = some vs → PR ρ w vs (l.map fun p => (p.1, a.eval p.2))
  | [], vs, h, hv => by cases hv; exact .nil
  | p :: l, vs, h, hv => by
    unfold valOps at hv
    obtain ⟨v, h1, h2⟩ := Option.bind_eq_some_iff.1 hv
    obtain ⟨r, h3, h4⟩ := Option.bind_eq_some_iff.1 h2
    cases h4
    exact .cons _ _ _ _ _ (h p (by simp) v h1) (valOps_PR l r (fun q hq => h q (by simp [hq])) h3)
theorem fill_VR (place : Nat → Option (Nat × Nat)) : ∀ (ps ps' : List (Nat × Value)) (cs : List Value) (cs' : Array Value) (r : List Value), PR ρ w ps ps' → VRL ρ w cs cs'.toList → fillD place cs ps = some r →
    ∃ r', Instr.fill place cs' ps' = some r' ∧ VRL ρ w r r'.toList
  | [], ps', cs, cs', r, hp, hc, e => by
    cases hp
    cases e
    exact ⟨cs', rfl, hc⟩
  | p :: ps, ps', cs, cs', r, hp, hc, e => by
    cases hp with
    | cons i v v' _ ps' hv h2 =>
      unfold fillD at e
      obtain ⟨⟨off, size⟩, e1, e2⟩ := Option.bind_eq_some_iff.1 e
      simp only at e1 e2
      cases e3 : (Nat.beq (cellsOfV v).length size && Nat.ble (off + size) cs.length) with
      | false => rw [e3] at e2; cases e2
      | true =>
        rw [e3] at e2
        simp only [Bool.and_eq_true] at e3
        have l1 := beq_t e3.1
        have l2 := ble_t e3.2
        have hvc := hv.cells
        have l3 := hvc.len
        have l4 := hc.len
        simp at l3 l4
        unfold Instr.fill
        rw [e1]
        simp only
        rw [if_neg (by simp; omega)]
        refine fill_VR place ps ps' _ _ r h2 ?_ e2
        have hf := foldl_puts off v'.cells.toList 0 cs'
        rw [← Array.foldl_toList, Array.toList_zipIdx]
        have hf2 : (List.foldl (fun cs x => match x with | (c, j) => Array.setIfInBounds cs (off + j) c) cs' (v'.cells.toList.zipIdx 0)).toList = _root_.Go.Proofs.YthilbhbnimfcmaaDx.puts cs'.toList (off + 0) v'.cells.toList := hf
        rw [hf2]
        exact hc.puts hvc
theorem run_places (hc : CfgOk c) (w : World) : ∀ (l : List Field) (ps : List (Nat × Nat)), placesD c l = some ps →
    (l.mapM fun f => Prod.mk f.offset <$> sizeOf f.type).run c.P w = .ok ps w
  | [], ps, e => by cases e; rfl
  | f :: r, ps, e => by
    unfold placesD at e
    obtain ⟨s, e1, e2⟩ := Option.bind_eq_some_iff.1 e
    obtain ⟨q, e3, e4⟩ := Option.bind_eq_some_iff.1 e2
    cases e4
    have ih := run_places hc w r q e3
    simp [List.mapM_cons, run_size hc e1, ih]
theorem run_build (hc : CfgOk c) {t : TypeId} {vs : List (Nat × Value)} {ps : Array (Nat × Value)} {v : Value} (hp : PR ρ w vs ps.toList) (hb : buildD c t vs = some v) :
    ∃ v', (Instr.build t ps).run c.P w = .ok v' w ∧ VR ρ w v v' := by
  unfold buildD at hb
  obtain ⟨z, e1, e2⟩ := Option.bind_eq_some_iff.1 hb
  have hz : VRL ρ w (cellsOfV z) z.cells.toList := (VR.flatd 2 (hc.zer t z e1).2).cells
  unfold Instr.build
  split at e2
  · rename_i fs hu
    obtain ⟨pl, e3, e4⟩ := Option.bind_eq_some_iff.1 e2
    obtain ⟨r, e5, rfl⟩ := Option.map_eq_some_iff.1 e4
    have hm := run_places hc w _ _ e3
    obtain ⟨r', f1, f2⟩ := fill_VR _ _ _ _ _ _ hp hz e5
    refine ⟨.agg r', ?_, .agg _ _ (by simpa using f2.len) (fun i x y hx hy => f2.at_ i x y (by simpa using hx) hy)⟩
    simp only [Sem.run_bind, run_zero hc e1, run_und hc hu, Result.andThen]
    have hm' : (fs.mapM fun f => (do pure (f.offset, ← sizeOf f.type) : Sem (Nat × Nat))).run c.P w = .ok pl.toArray w := by
      simp [Array.mapM_eq_mapM_toList, hm]
    rw [hm']
    have hf : (fun (i : Nat) => pl.toArray[i]?) = fun (i : Nat) => pl[i]? := by funext i; simp
    simp only [hf]
    rw [f1]
    rfl
  · rename_i n el hu
    obtain ⟨s, e3, e4⟩ := Option.bind_eq_some_iff.1 e2
    obtain ⟨r, e5, rfl⟩ := Option.map_eq_some_iff.1 e4
    obtain ⟨r', f1, f2⟩ := fill_VR _ _ _ _ _ _ hp hz e5
    refine ⟨.agg r', ?_, .agg _ _ (by simpa using f2.len) (fun i x y hx hy => f2.at_ i x y (by simpa using hx) hy)⟩
    simp only [Sem.run_bind, run_zero hc e1, run_und hc hu, Result.andThen, run_size hc e3]
    rw [f1]
    rfl
  · cases e2
end
end Go.Proofs.YthilbhbnimfcmaaDx
