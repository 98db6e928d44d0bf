/- A part of the proof that the interpreter of YthilbhbnimfcmaaDxDx is sound: what it computes of a call, the call comes to in the model. No condition beyond those that each theorem names. -/
import Derived.Test.YthilbhbnimfcmaaDxR4
import Derived.Laws.StructEq
namespace Go.Proofs.YthilbhbnimfcmaaDx
open Go
set_option linter.unusedVariables false
set_option linter.unusedSimpArgs false

theorem eqU_eq : ∀ (a b : List UInt8), eqU a b = (a == b)
  | [], [] => rfl
  | [], y :: b => rfl
  | x :: a, [] => rfl
  | x :: a, y :: b => by
    simp only [eqU, eqU_eq a b]
    have : Nat.beq x.toNat y.toNat = (x == y) := by
      cases e : Nat.beq x.toNat y.toNat with
      | true => have := beq_t e; have : x = y := UInt8.toNat_inj.1 this; subst this; simp
      | false => symm; rw [beq_eq_false_iff_ne]; intro h; subst h; simp at e
    rw [this]
    rfl
theorem ltU_eq : ∀ (a b : List UInt8), ltU a b = Op.bytesLess a b
  | [], [] => rfl
  | [], y :: b => rfl
  | x :: a, [] => rfl
  | x :: a, y :: b => by
    simp only [ltU, Op.bytesLess, ltU_eq a b]
    have h1 : Nat.beq x.toNat y.toNat = (x == y) := by
      cases e : Nat.beq x.toNat y.toNat with
      | true => have := beq_t e; have : x = y := UInt8.toNat_inj.1 this; subst this; simp
      | false => symm; rw [beq_eq_false_iff_ne]; intro h; subst h; simp at e
    have h2 : Nat.blt x.toNat y.toNat = decide (x < y) := by
      cases e : Nat.blt x.toNat y.toNat with
      | true => have := blt_t e; symm; simpa [UInt8.lt_iff_toNat_lt] using this
      | false => have := blt_f e; symm; simpa [UInt8.lt_iff_toNat_lt] using this
    rw [h1, h2]

section
variable {c : Cfg} {base : Nat} {ρ : Emb} {h : Hp} {w : World} {T : Tm} {a : Act} {outs : List Out}

theorem run_eqF (hc : CfgOk c) (d : Nat) (cmp : TypeId → Value → Value → Option Bool) (ih : ∀ t x y x' y' b, cmp t x y = some b → VR ρ w x x' → VR ρ w y y' → (Op.equalIn d t x' y').run c.P w = .ok b w) :
    ∀ (fs : List Field) (xs ys : List Value) (xs' ys' : Array Value) (b : Bool), VRL ρ w xs xs'.toList → VRL ρ w ys ys'.toList → eqF c cmp fs xs ys = some b → (Op.eqFields d xs' ys' fs).run c.P w = .ok b w
  | [], xs, ys, xs', ys', b, hx, hy, e => by cases e; rfl
  | f :: fs, xs, ys, xs', ys', b, hx, hy, e => by
    unfold eqF at e
    split at e
    · cases e
    · rename_i hn
      obtain ⟨x, e1, e⟩ := Option.bind_eq_some_iff.1 e
      obtain ⟨y, e2, e⟩ := Option.bind_eq_some_iff.1 e
      obtain ⟨r, e3, e⟩ := Option.bind_eq_some_iff.1 e
      obtain ⟨q, e4, rfl⟩ := Option.map_eq_some_iff.1 e
      obtain ⟨x', p1, v1⟩ := run_part hc hx e1 w
      obtain ⟨y', p2, v2⟩ := run_part hc hy e2 w
      have p3 := ih _ _ _ _ _ _ e3 v1 v2
      have p4 := run_eqF hc d cmp ih fs xs ys xs' ys' q hx hy e4
      unfold Op.eqFields
      rw [if_pos hn]
      simp only [Sem.run_bind, p1, p2, p3, Result.andThen]
      cases r
      · simp [Sem.run_pure]
      · simpa using p4
theorem run_eqD (hc : CfgOk c) : ∀ (n d : Nat), n ≤ d → ∀ (t : TypeId) (x y x' y' : Value) (b : Bool), eqD c n t x y = some b → VR ρ w x x' → VR ρ w y y' → (Op.equalIn d t x' y').run c.P w = .ok b w
  | 0, d, hd, t, x, y, x', y', b, e, hx, hy => by cases e
  | n + 1, 0, hd, t, x, y, x', y', b, e, hx, hy => by omega
  | n + 1, d + 1, hd, t, x, y, x', y', b, e, hx, hy => by
    unfold eqD at e
    split at e
    · rename_i hu; cases hx; cases hy; cases e; exact run_equalIn_bool' w d t _ _ (hc.und _ _ hu)
    · rename_i hu
      cases hx; cases hy
      split at e
      · rename_i hk; subst hk; cases e; exact run_equalIn_int w d t _ _ _ _ (hc.und _ _ hu)
      · cases e
    · rename_i hu; cases hx; cases hy; cases e; rw [run_equalIn_string w d t _ _ (hc.und _ _ hu), eqU_eq]; simp [ByteArray.toList_eq]
    · rename_i hu; cases hx; cases e; cases hy <;> simp [Op.equalIn, Sem.run_bind, run_und hc hu, Result.andThen, Sem.run_pure]
    · rename_i hu; cases hx; cases e; cases hy <;> simp [Op.equalIn, Sem.run_bind, run_und hc hu, Result.andThen, Sem.run_pure]
    · rename_i hu; cases hx; cases e; cases hy <;> simp [Op.equalIn, Sem.run_bind, run_und hc hu, Result.andThen, Sem.run_pure]
    · rename_i hu; cases hy; cases e; cases hx <;> simp [Op.equalIn, Sem.run_bind, run_und hc hu, Result.andThen, Sem.run_pure]
    · rename_i hu; cases hx; cases e; cases hy <;> simp [Op.equalIn, Sem.run_bind, run_und hc hu, Result.andThen, Sem.run_pure]
    · rename_i hu; cases hx; cases e; cases hy <;> simp [Op.equalIn, Sem.run_bind, run_und hc hu, Result.andThen, Sem.run_pure]
    · rename_i hu; cases hx; cases e; cases hy <;> simp [Op.equalIn, Sem.run_bind, run_und hc hu, Result.andThen, Sem.run_pure]
    · rename_i hu; cases hx; cases e; cases hy <;> simp [Op.equalIn, Sem.run_bind, run_und hc hu, Result.andThen, Sem.run_pure]
    · rename_i hu; cases hx <;> (cases e; cases hy <;> simp [Op.equalIn, Sem.run_bind, run_und hc hu, Result.andThen, Sem.run_pure])
    · rename_i fs xs ys hu
      cases hs : c.eqs t with
      | false => rw [hs] at e; cases e
      | true =>
        rw [hs] at e
        simp only [cond_true] at e
        cases hx with
        | agg _ xs' a1 a2 =>
          cases hy with
          | agg _ ys' b1 b2 =>
            have hf : c.P.fieldsOf t = fs := by unfold Program.fieldsOf; rw [hc.und _ _ hu]
            rw [run_equalIn_struct w d t xs' ys' (by rw [hf]; exact hc.und _ _ hu) (hc.eqs t hs).1, hf]
            exact run_eqF hc d (eqD c n) (fun t x y x' y' b h1 h2 h3 => run_eqD hc n d (by omega) t x y x' y' b h1 h2 h3) fs.toList xs.toList ys.toList xs' ys' b ⟨a1, a2⟩ ⟨b1, b2⟩ e
    · cases e
theorem run_intOp {op : BinOp} {k : IntKind} {x y : Int} {v : Value} {t : TypeId} (h : intOp op k x y = some v) (hs : op ≠ .shl ∧ op ≠ .shr) : (binOp op t (.int k x) (.int k y)).run c.P w = .ok v w ∧ VR ρ w v v := by
  unfold intOp at h
  split at h
  all_goals first
    | (cases h; exact ⟨by simp [binOp, Op.intArith, Op.intCmp, Op.intBits, Sem.run_pure], by constructor⟩)
    | (split at h
       · cases h
       · rename_i h0; cases h; exact ⟨by simp [binOp, Op.intDiv, h0, Sem.run_pure], by constructor⟩)
    | cases h
theorem run_strOp {op : BinOp} {x y : ByteArray} {v : Value} {t : TypeId} (h : strOp op x y = some v) : (binOp op t (.string x) (.string y)).run c.P w = .ok v w ∧ VR ρ w v v := by
  unfold strOp at h
  split at h
  · cases e : Nat.ble (x.data.toList.length + y.data.toList.length) 9223372036854775807 with
    | false => rw [e] at h; cases h
    | true =>
      rw [e] at h
      cases h
      have h1 := ble_t e
      refine ⟨?_, by constructor⟩
      have h2 : ¬ (((x.size + y.size : Nat) : Int) > IntKind.i64.max) := by
        have e1 : x.size = x.data.toList.length := by obtain ⟨x⟩ := x; rfl
        have e2 : y.size = y.data.toList.length := by obtain ⟨y⟩ := y; rfl
        have : IntKind.i64.max = 9223372036854775807 := rfl
        rw [this, e1, e2]; omega
      have h3 : (x ++ y : ByteArray) = ⟨(x.data.toList ++ y.data.toList).toArray⟩ := by
        apply ByteArray.ext
        rw [ByteArray.data_append]
        apply Array.ext'
        simp
      simp only [binOp, Op.stringOp, if_neg h2, h3]
      rfl
  all_goals first
    | (cases h; exact ⟨by simp [binOp, Op.stringOp, eqU_eq, ltU_eq, ByteArray.toList_eq, Sem.run_pure], by constructor⟩)
    | cases h
theorem run_eqGuard_not (op : BinOp) (t : TypeId) (x y : Operand) (v u : Value) (h1 : ∀ a b, ¬ (v = .agg a ∧ u = .agg b)) (h2 : ¬ (v = .nilIface ∧ u = .nilIface)) : (eqGuard op t x y v u).run c.P w = .ok () w := by
  unfold eqGuard
  cases v <;> cases u <;> first
    | (cases op <;> simp [Sem.run_pure]; done)
    | exact absurd ⟨rfl, rfl⟩ (h1 _ _)
    | exact absurd ⟨rfl, rfl⟩ h2
theorem run_guarded {op : BinOp} {t : TypeId} {X Y : Operand} {v u r : Value} (hg : (eqGuard op t X Y v u).run c.P w = .ok () w) (hb : (binOp op t v u).run c.P w = .ok r w) :
    ((do eqGuard op t X Y v u; binOp op t v u : Sem Value)).run c.P w = .ok r w := by
  simp [Sem.run_bind, hg, Result.andThen, hb]
theorem eqD_notok {n : Nat} {t : TypeId} {x y : Value} {b : Bool} (h : eqD c n t x y = some b) : (∀ k re im, x ≠ .complex k re im) ∧ (∀ k re im, y ≠ .complex k re im) := by
  cases n with
  | zero => cases h
  | succ n =>
    unfold eqD at h
    split at h <;> first | cases h; done | exact ⟨fun _ _ _ e => (by cases e), fun _ _ _ e => (by cases e)⟩
theorem binOp_eql_VR {t : TypeId} {x y x' y' : Value} (hx : VR ρ w x x') (hy : VR ρ w y y') (hf1 : ∀ k re im, x ≠ .complex k re im) (hf2 : ∀ k re im, y ≠ .complex k re im) (h1 : ∀ k a k' b, x = .int k a → y = .int k' b → False) (h2 : ∀ a b, x = .string a → y = .string b → False) :
    binOp .eql t x' y' = (do pure (.bool (← Op.equal t x' y'))) ∧ binOp .neq t x' y' = (do pure (.bool (!(← Op.equal t x' y')))) := by
  cases hx <;> cases hy <;> first
    | exact ⟨rfl, rfl⟩
    | exact absurd rfl (fun e => h1 _ _ _ _ e rfl)
    | exact absurd rfl (fun e => h2 _ _ e rfl)
    | exact absurd rfl (hf1 _ _ _)
    | exact absurd rfl (hf2 _ _ _)
theorem run_guard_VR (hc : CfgOk c) {n : Nat} {op : BinOp} {t : TypeId} {X Y : Operand} {x y x' y' : Value} {b : Bool} (he : eqD c n t x y = some b) (hx : VR ρ w x x') (hy : VR ρ w y y') : (eqGuard op t X Y x' y').run c.P w = .ok () w := by
  by_cases hag : ∃ p q, x' = .agg p ∧ y' = .agg q
  · obtain ⟨xs_, ys_, rfl, rfl⟩ := hag
    cases hx with
    | tok k re im _ h => simp [refV] at h
    | agg xs _ a1 a2 =>
      cases hy with
      | tok k re im _ h => simp [refV] at h
      | agg ys _ b1 b2 =>
        cases n with
        | zero => cases he
        | succ n =>
          cases hs : c.eqs t with
          | true => exact run_eqGuard_agg w op t X Y xs_ ys_ (hc.eqs t hs).2
          | false =>
            cases hu : c.und t with
            | none => simp [eqD, hu] at he
            | some d => cases d <;> simp [eqD, hu, hs] at he
  · refine run_eqGuard_not op t X Y x' y' (fun p q hpq => hag ⟨p, q, hpq⟩) ?_
    rintro ⟨rfl, rfl⟩
    have hnt := eqD_notok he
    cases hx with
    | tok k re im _ h => exact absurd rfl (hnt.1 k re im)
    | nilIface =>
    cases hy with
    | tok k re im _ h => exact absurd rfl (hnt.2 k re im)
    | nilIface =>
    cases n with
    | zero => cases he
    | succ n =>
      unfold eqD at he
      split at he <;> simp_all
/-- An operator on two values. -/
theorem run_binD (hc : CfgOk c) {op : BinOp} {t : TypeId} {x y x' y' : Value} {v : Value} (X Y : Operand) (h : binD c op t x y = some v) (hx : VR ρ w x x') (hy : VR ρ w y y') :
    ∃ v', ((do eqGuard op t X Y x' y'; binOp op t x' y' : Sem Value)).run c.P w = .ok v' w ∧ VR ρ w v v' := by
  unfold binD at h
  split at h
  · cases hx; cases hy
    split at h
    · cases h
    · rename_i h0
      cases h
      exact ⟨_, run_guarded (run_eqGuard_not _ _ _ _ _ _ (fun a b => by simp) (by simp)) (by simp [binOp, Op.shift, h0, Sem.run_pure]; rfl), by constructor⟩
  · cases hx; cases hy
    split at h
    · cases h
    · rename_i h0
      cases h
      exact ⟨_, run_guarded (run_eqGuard_not _ _ _ _ _ _ (fun a b => by simp) (by simp)) (by simp [binOp, Op.shift, h0, Sem.run_pure]; rfl), by constructor⟩
  · rename_i hn1 hn2
    cases hx; cases hy
    split at h
    · rename_i hk
      subst hk
      obtain ⟨e1, e2⟩ := run_intOp (c := c) (ρ := ρ) (w := w) (t := t) h ⟨hn1, hn2⟩
      exact ⟨_, run_guarded (run_eqGuard_not _ _ _ _ _ _ (fun a b => by simp) (by simp)) e1, e2⟩
    · cases h
  · cases hx; cases hy
    obtain ⟨e1, e2⟩ := run_strOp (c := c) (ρ := ρ) (w := w) (t := t) h
    exact ⟨_, run_guarded (run_eqGuard_not _ _ _ _ _ _ (fun a b => by simp) (by simp)) e1, e2⟩
  · rename_i hn1 hn2
    obtain ⟨b, hb, rfl⟩ := Option.map_eq_some_iff.1 h
    have e := run_eqD hc 20 10000 (by omega) t x y x' y' b hb hx hy
    refine ⟨.bool b, run_guarded (run_guard_VR hc hb hx hy) ?_, .bool b⟩
    rw [(binOp_eql_VR hx hy (eqD_notok hb).1 (eqD_notok hb).2 (fun k a k' b e1 e2 => hn1 k a k' b e1 e2) (fun a b e1 e2 => hn2 a b e1 e2)).1]
    simp [Op.equal, Op.maxDepth, Sem.run_bind, e, Result.andThen, Sem.run_pure]
  · rename_i hn1 hn2
    obtain ⟨b, hb, rfl⟩ := Option.map_eq_some_iff.1 h
    have e := run_eqD hc 20 10000 (by omega) t x y x' y' b hb hx hy
    refine ⟨.bool (!b), run_guarded (run_guard_VR hc hb hx hy) ?_, .bool _⟩
    rw [(binOp_eql_VR hx hy (eqD_notok hb).1 (eqD_notok hb).2 (fun k a k' b e1 e2 => hn1 k a k' b e1 e2) (fun a b e1 e2 => hn2 a b e1 e2)).2]
    simp [Op.equal, Op.maxDepth, Sem.run_bind, e, Result.andThen, Sem.run_pure]
  · cases h
end
end Go.Proofs.YthilbhbnimfcmaaDx
