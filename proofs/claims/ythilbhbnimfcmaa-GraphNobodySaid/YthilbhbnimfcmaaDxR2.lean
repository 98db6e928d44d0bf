/- A part of the proof that the interpreter of YthilbhbnimfcmaaDxDx is sound: what it computes of a call, the call comes to in the model. No condition beyond those that each theorem names. -/
import Derived.Test.YthilbhbnimfcmaaDxR1
namespace Go.Proofs.YthilbhbnimfcmaaDx
open Go
set_option linter.unusedVariables false
set_option linter.unusedSimpArgs false

theorem beq_f {n m : Nat} (h : n ≠ m) : Nat.beq n m = false := by
  cases e : Nat.beq n m with
  | false => rfl
  | true => exact absurd (Nat.eq_of_beq_eq_true e) h
theorem blt_t {n m : Nat} (h : Nat.blt n m = true) : n < m := by rwa [Nat.blt_eq] at h
theorem blt_f {n m : Nat} (h : Nat.blt n m = false) : ¬ n < m := fun k => by rw [← Nat.blt_eq, h] at k; cases k
theorem ble_t {n m : Nat} (h : Nat.ble n m = true) : n ≤ m := Nat.le_of_ble_eq_true h
theorem beq_t {n m : Nat} (h : Nat.beq n m = true) : n = m := Nat.eq_of_beq_eq_true h
theorem PT.get_set_same {α : Type} : ∀ (k : Nat) (t : PT α) (n : Nat) (x : Option α), n + 1 < 2 ^ k → (PT.set k t n x).get n = x
  | 0, t, n, x, h => by simp at h
  | k + 1, .leaf, n, x, h => by
    unfold PT.set
    cases e : Nat.beq n 0 with
    | true => simp [PT.get, e]
    | false =>
      have hn : n ≠ 0 := fun h => by subst h; simp at e
      have hp : 2 ^ (k + 1) = 2 ^ k * 2 := Nat.pow_succ ..
      cases e2 : Nat.beq (n % 2) 1 with
      | true =>
        have : n % 2 = 1 := Nat.eq_of_beq_eq_true e2
        simp only [cond_false, cond_true, PT.get, e, e2]
        exact PT.get_set_same k .leaf _ x (by omega)
      | false =>
        have : n % 2 ≠ 1 := Nat.ne_of_beq_eq_false e2
        simp only [cond_false, cond_true, PT.get, e, e2]
        exact PT.get_set_same k .leaf _ x (by omega)
  | k + 1, .node v l r, n, x, h => by
    unfold PT.set
    cases e : Nat.beq n 0 with
    | true => simp [PT.get, e]
    | false =>
      have hn : n ≠ 0 := fun h => by subst h; simp at e
      have hp : 2 ^ (k + 1) = 2 ^ k * 2 := Nat.pow_succ ..
      cases e2 : Nat.beq (n % 2) 1 with
      | true =>
        have : n % 2 = 1 := Nat.eq_of_beq_eq_true e2
        simp only [cond_false, cond_true, PT.get, e, e2]
        exact PT.get_set_same k l _ x (by omega)
      | false =>
        have : n % 2 ≠ 1 := Nat.ne_of_beq_eq_false e2
        simp only [cond_false, cond_true, PT.get, e, e2]
        exact PT.get_set_same k r _ x (by omega)
theorem PT.get_leaf {α : Type} (n : Nat) : (PT.leaf : PT α).get n = none := rfl
theorem PT.get_set_other {α : Type} : ∀ (k : Nat) (t : PT α) (n m : Nat) (x : Option α), m ≠ n → (PT.set k t n x).get m = t.get m
  | 0, t, n, m, x, h => rfl
  | k + 1, .leaf, n, m, x, h => by
    unfold PT.set
    cases e : Nat.beq n 0 with
    | true =>
      have hn : n = 0 := Nat.eq_of_beq_eq_true e
      have em : Nat.beq m 0 = false := beq_f (by omega)
      simp [PT.get, em]
    | false =>
      have hn : n ≠ 0 := Nat.ne_of_beq_eq_false e
      cases e2 : Nat.beq (n % 2) 1 with
      | true =>
        have h2 : n % 2 = 1 := Nat.eq_of_beq_eq_true e2
        simp only [cond_false, cond_true, PT.get]
        cases em : Nat.beq m 0 with
        | true => rfl
        | false =>
          cases em2 : Nat.beq (m % 2) 1 with
          | true =>
            have : m % 2 = 1 := Nat.eq_of_beq_eq_true em2
            exact (PT.get_set_other k .leaf (n / 2) (m / 2) x (by omega)).trans rfl
          | false => rfl
      | false =>
        have h2 : n % 2 ≠ 1 := Nat.ne_of_beq_eq_false e2
        simp only [cond_false, cond_true, PT.get]
        cases em : Nat.beq m 0 with
        | true => rfl
        | false =>
          have : m ≠ 0 := Nat.ne_of_beq_eq_false em
          cases em2 : Nat.beq (m % 2) 1 with
          | true => rfl
          | false =>
            have : m % 2 ≠ 1 := Nat.ne_of_beq_eq_false em2
            exact (PT.get_set_other k .leaf (n / 2 - 1) (m / 2 - 1) x (by omega)).trans rfl
  | k + 1, .node v l r, n, m, x, h => by
    unfold PT.set
    cases e : Nat.beq n 0 with
    | true =>
      have hn : n = 0 := Nat.eq_of_beq_eq_true e
      have em : Nat.beq m 0 = false := beq_f (by omega)
      simp [PT.get, em]
    | false =>
      have hn : n ≠ 0 := Nat.ne_of_beq_eq_false e
      cases e2 : Nat.beq (n % 2) 1 with
      | true =>
        have h2 : n % 2 = 1 := Nat.eq_of_beq_eq_true e2
        simp only [cond_false, cond_true, PT.get]
        cases em : Nat.beq m 0 with
        | true => rfl
        | false =>
          cases em2 : Nat.beq (m % 2) 1 with
          | true =>
            have : m % 2 = 1 := Nat.eq_of_beq_eq_true em2
            exact PT.get_set_other k l (n / 2) (m / 2) x (by omega)
          | false => rfl
      | false =>
        have h2 : n % 2 ≠ 1 := Nat.ne_of_beq_eq_false e2
        simp only [cond_false, cond_true, PT.get]
        cases em : Nat.beq m 0 with
        | true => rfl
        | false =>
          have : m ≠ 0 := Nat.ne_of_beq_eq_false em
          cases em2 : Nat.beq (m % 2) 1 with
          | true => rfl
          | false =>
            have : m % 2 ≠ 1 := Nat.ne_of_beq_eq_false em2
            exact PT.get_set_other k r (n / 2 - 1) (m / 2 - 1) x (by omega)
theorem PT.get_put_same {α : Type} (t : PT α) (n : Nat) (x : Option α) (h : n < lim) : (t.put n x).get n = x := PT.get_set_same 40 t n x (by unfold lim at h; omega)
theorem PT.get_put_other {α : Type} (t : PT α) (n m : Nat) (x : Option α) (h : m ≠ n) : (t.put n x).get m = t.get m := PT.get_set_other 40 t n m x h

/-- What a configuration says is so. -/
structure CfgOk (c : Cfg) : Prop where
  und : ∀ t d, c.und t = some d → c.P.underlying t = some d
  siz : ∀ t n, c.siz t = some n → (c.P.info? t).map (·.size) = some n
  zer : ∀ t z, c.zer t = some z → (c.P.info? t).bind (·.zero) = some z ∧ pfd 2 z = true
  fns : ∀ f fn, c.fns f = some fn → c.P.funcs[f]? = some fn
  byt : ∀ t n, c.byt t = some n → (c.P.info? t).map (·.bytes) = some n
  met : ∀ t m p, c.met t m = some p → ∃ i r, c.P.info? t = some i ∧ i.methods.find? (·.name == m) = some r ∧ r.path = #[] ∧ r.func = some p
  eqs : ∀ t, c.eqs t = true → c.P.stoodInHeld t = false ∧ c.P.eqGuardType c.P.depth t = false

def Glob (c : Cfg) (ρ : Emb) : Prop := ∀ g, g < c.G → ρ g = some (g, 0)
theorem Glob.le {c : Cfg} {ρ ρ' : Emb} (h : Glob c ρ) (k : ρ.le ρ') : Glob c ρ' := fun g hg => k _ _ (h g hg)

theorem VR.flat {ρ : Emb} {w : World} {v : Value} (h : pf v = true) : VR ρ w v v := by
  cases v with
  | bool b => exact .bool b
  | int k n => exact .int k n
  | string s => exact .string s
  | pointer a => cases a with | none => exact .nilp | some a => simp [pf] at h
  | slice a n k =>
    cases a with
    | some a => simp [pf] at h
    | none => cases n with
      | zero => cases k with
        | zero => exact .nils
        | succ k => simp [pf] at h
      | succ n => simp [pf] at h
  | map r => cases r with | none => exact .nilm | some r => simp [pf] at h
  | nilFunc => exact .nilFunc
  | nilIface => exact .nilIface
  | _ => simp [pf] at h
theorem VR.flatd {ρ : Emb} {w : World} : ∀ (n : Nat) {v : Value}, pfd n v = true → VR ρ w v v
  | 0, v, h => VR.flat h
  | n + 1, v, h => by
    cases v with
    | agg cs =>
      simp only [pfd, List.all_eq_true] at h
      exact .agg cs cs rfl (fun i x y hx hy => by rw [hx] at hy; cases hy; exact VR.flatd n (h x (List.mem_of_getElem? hx)))
    | tuple cs =>
      simp only [pfd, List.all_eq_true] at h
      exact .tuple cs cs rfl (fun i x y hx hy => by rw [hx] at hy; cases hy; exact VR.flatd n (h x (List.mem_of_getElem? hx)))
    | _ => exact VR.flat h
theorem VR.undef {ρ : Emb} {w : World} : VR ρ w undef undef := .tuple #[] #[] rfl (fun i x y h => by simp at h)
theorem VRL.flatd {ρ : Emb} {w : World} (n : Nat) {l : List Value} (h : l.all (pfd n) = true) : VRL ρ w l l :=
  ⟨rfl, fun i x y hx hy => by rw [hx] at hy; cases hy; exact VR.flatd n (List.all_eq_true.1 h x (List.mem_of_getElem? hx))⟩
theorem VR.cells {ρ : Emb} {w : World} {x y : Value} (h : VR ρ w x y) : VRL ρ w (cellsOfV x) y.cells.toList := by
  cases h with
  | agg xs ys h1 h2 => exact ⟨h1, h2⟩
  | tok k re im y h => cases y <;> first | exact VRL.cons (.tok k re im _ h) VRL.nil | cases h
  | _ => exact VRL.cons (by constructor <;> assumption) VRL.nil
theorem VR.one {ρ : Emb} {w : World} {x y : Value} (h : VR ρ w x y) (h1 : oneC x = true) : y.oneCell' = true := by
  cases h <;> first | rfl | (simp [oneC] at h1; done) | (rename_i hr; cases y <;> first | rfl | (simp [refV] at hr))

/-- The frame's slots. -/
structure TR (ρ : Emb) (w : World) (T : Tm) (a : Act) : Prop where
  size : T.m = a.tmps.size
  at_ : ∀ t, t < T.m → TV ρ w (T.get t) (a.tmps.getD t undef)
theorem TR.le {ρ ρ' : Emb} {w : World} {T : Tm} {a : Act} (h : TR ρ w T a) (k : ρ.le ρ') : TR ρ' w T a := ⟨h.size, fun t ht => (h.at_ t ht).le k⟩
theorem TR.grow {ρ : Emb} {w w' : World} {T : Tm} {a : Act} (h : TR ρ w T a) (k : Grow w w') : TR ρ w' T a := ⟨h.size, fun t ht => (h.at_ t ht).grow k⟩
theorem TR.put {ρ : Emb} {w : World} {T : Tm} {a : Act} (h : TR ρ w T a) (hm : T.m ≤ lim) (d : Option Tmp) {v v' : Value} (hv : VR ρ w v v') : TR ρ w (putD T d v) (a.put d v') := by
  cases d with
  | none => exact h
  | some d =>
    unfold putD Act.put
    cases e : Nat.blt d T.m with
    | false =>
      have hd : ¬ d < T.m := blt_f e
      show TR ρ w (bif Nat.blt d T.m then _ else _) _
      rw [e]
      have : a.tmps.setIfInBounds d v' = a.tmps := by
        apply Array.ext
        · simp
        · intro i h1 h2
          simp at h1
          rw [Array.getElem_setIfInBounds]
          have hd2 : a.tmps.size ≤ d := h.size ▸ Nat.le_of_not_lt hd
          rw [if_neg (fun e => absurd h1 (by rw [← e]; simpa using hd2))]
      simp only [cond_false]
      show TR ρ w T { a with tmps := a.tmps.setIfInBounds d v' }
      rw [this]
      exact h
    | true =>
      have hd : d < T.m := blt_t e
      show TR ρ w (bif Nat.blt d T.m then _ else _) { a with tmps := a.tmps.setIfInBounds d v' }
      rw [e]
      simp only [cond_true]
      refine ⟨by simpa using h.size, fun t ht0 => ?_⟩
      have ht : t < T.m := ht0
      clear ht0
      by_cases htd : t = d
      · subst htd
        have e1 : (Tm.get ⟨T.t.put t (some v), T.m⟩ t) = some v := by unfold Tm.get; rw [PT.get_put_same _ _ _ (by omega)]
        have e2 : (a.tmps.setIfInBounds t v').getD t undef = v' := by
          have hs : t < a.tmps.size := by rw [← h.size]; exact hd
          simp [hs]
        rw [e1, e2]
        exact TV.some hv
      · have e1 : (Tm.get ⟨T.t.put d (some v), T.m⟩ t) = T.get t := by unfold Tm.get; rw [PT.get_put_other _ _ _ _ htd]
        have e2 : (a.tmps.setIfInBounds d v').getD t undef = a.tmps.getD t undef := by
          simp [Array.getElem?_setIfInBounds_ne (Ne.symm htd)]
        rw [e1, e2]
        exact h.at_ t ht

/-- What some operands are. -/
def EV (c : Cfg) (ρ : Emb) (w : World) (T : Tm) (a : Act) (x : Operand) : Prop := ∀ v, ev c T x = some v → VR ρ w v (a.eval x)
theorem TR.ev {c : Cfg} {ρ : Emb} {w : World} {T : Tm} {a : Act} (h : TR ρ w T a) (hg : Glob c ρ) (x : Operand) : EV c ρ w T a x := by
  intro v hv
  cases x with
  | tmp t =>
    simp only [_root_.Go.Proofs.YthilbhbnimfcmaaDx.ev] at hv
    cases e : Nat.blt t T.m with
    | false => rw [e] at hv; cases hv
    | true =>
      rw [e] at hv
      exact h.at_ t (blt_t e) v hv
  | const k =>
    simp only [_root_.Go.Proofs.YthilbhbnimfcmaaDx.ev] at hv
    cases e : pfd 3 k with
    | false => rw [e] at hv; cases hv
    | true => rw [e] at hv; cases hv; exact VR.flatd 3 e
  | global g =>
    simp only [_root_.Go.Proofs.YthilbhbnimfcmaaDx.ev] at hv
    cases e : Nat.blt g c.G with
    | false => rw [e] at hv; cases hv
    | true => rw [e] at hv; cases hv; exact .ptr g 0 g 0 (hg g (blt_t e))
  | func f =>
    simp only [_root_.Go.Proofs.YthilbhbnimfcmaaDx.ev] at hv
    cases hv
    exact .func _ (fun l e => by cases e) _ _ _ _ rfl (fun i x y hx => by simp at hx) rfl (fun i x y hx => by simp at hx)
theorem evs_VR {c : Cfg} {ρ : Emb} {w : World} {T : Tm} {a : Act} : ∀ (l : List Operand) (vs : List Value), (∀ x ∈ l, EV c ρ w T a x) → evs c T l = some vs → VRL ρ w vs (l.map a.eval)
  | [], vs, h, hv => by cases hv; exact VRL.nil
  | x :: l, vs, h, hv => by
    unfold evs at hv
    obtain ⟨v, h1, h2⟩ := Option.bind_eq_some_iff.1 hv
    obtain ⟨r, h3, h4⟩ := Option.bind_eq_some_iff.1 h2
    cases h4
    exact VRL.cons (h x (by simp) v h1) (evs_VR l r (fun y hy => h y (by simp [hy])) h3)

/-- What an operation's run comes to. -/
def Goes (c : Cfg) (base : Nat) (ρ : Emb) (h : Hp) (w : World) (outs : List Out) (r : Result Next) : Prop :=
  ∃ v h' W, (v, h', W) ∈ outs ∧ ∃ v' w' ρ', (r = .ok (.value v') w' ∨ r = .ok .skip w' ∧ v' = undef) ∧ VR ρ' w' v v' ∧ Ext base c.n0 ρ h.t.get h.n w ρ' h'.t.get h'.n W w'
theorem Goes.pure {c : Cfg} {base : Nat} {ρ : Emb} {h : Hp} {w : World} {v v' : Value} {r : Result Next} (hr : Rel base c.n0 ρ h.t.get w) (e : r = .ok (.value v') w) (hv : VR ρ w v v') : Goes c base ρ h w [(v, h, [])] r :=
  ⟨v, h, [], by simp, v', w, ρ, .inl e, hv, .refl hr⟩
/-- A computation that looks at the world alone. -/
theorem Goes.pureV {c : Cfg} {base : Nat} {ρ : Emb} {h : Hp} {w : World} {o : Option Value} {outs : List Out} {r : Result Next} (ho : pureV h o = some outs) (hr : Rel base c.n0 ρ h.t.get w) (hv : ∀ v, o = some v → ∃ v', r = .ok (.value v') w ∧ VR ρ w v v') : Goes c base ρ h w outs r := by
  unfold _root_.Go.Proofs.YthilbhbnimfcmaaDx.pureV at ho
  cases o with
  | none => cases ho
  | some v => cases ho; obtain ⟨v', e, h1⟩ := hv v rfl; exact .pure hr e h1
end Go.Proofs.YthilbhbnimfcmaaDx
