/- A part of the proof that the interpreter of YthilbhbnimfcmaaDxDx is sound: what it computes of a call, the call comes to in the model. No condition beyond those that each theorem names. -/
import Derived.Test.YthilbhbnimfcmaaDxR7
namespace Go.Proofs.YthilbhbnimfcmaaDx
open Go
set_option linter.unusedVariables false
set_option linter.unusedSimpArgs false

theorem natOf_some {i : Int} {n : Nat} (h : natOf i = some n) : i = (n : Int) := by
  cases i with
  | ofNat m => cases h; rfl
  | negSucc m => cases h
theorem ByteArray.extract_list (s : ByteArray) (b e : Nat) : s.extract b e = ⟨((s.data.toList.take e).drop b).toArray⟩ := by
  obtain ⟨⟨l⟩⟩ := s
  have := ByteArray.extract_mk l b e
  rw [show (ByteArray.mk ⟨l⟩) = ByteArray.mk l.toArray from rfl, this]
  congr 2
  rw [List.drop_take]
section
variable {c : Cfg} {base : Nat} {ρ : Emb} {h : Hp} {w : World} {T : Tm} {a : Act} {outs : List Out}

/-- A bound of a slice expression, or none. -/
def OV (ρ : Emb) (w : World) : Option Value → Option Value → Prop
  | none, none => True
  | some x, some y => VR ρ w x y
  | _, _ => False
theorem run_bound {x y : Option Value} {d m e : Nat} {code : BoundsCode} (hb : bound x d m = some e) (hd : d ≤ m) (hv : OV ρ w x y) (M : Nat) (hM : m ≤ M) :
    e ≤ m ∧ ((∃ y', y = some y' ∧ (Instr.sliceBound y' M code).run c.P w = .ok e w) ∨ (y = none ∧ e = d)) := by
  cases x with
  | none =>
    cases y with
    | some y => cases hv
    | none => cases hb; exact ⟨hd, .inr ⟨rfl, rfl⟩⟩
  | some x =>
    cases y with
    | none => cases hv
    | some y =>
      have hv' : VR ρ w x y := hv
      unfold bound at hb
      split at hb
      · rename_i h1; cases h1
      · rename_i k i h1
        cases h1
        cases hv'
        obtain ⟨n, e1, e2⟩ := Option.bind_eq_some_iff.1 hb
        cases e3 : Nat.ble n m with
        | false => rw [e3] at e2; cases e2
        | true =>
          rw [e3] at e2
          cases e2
          have hle := ble_t e3
          obtain rfl := natOf_some e1
          refine ⟨hle, .inl ⟨_, rfl, ?_⟩⟩
          have : (0 : Int) ≤ (e : Int) ∧ (e : Int) ≤ (M : Int) := by omega
          simp [Instr.sliceBound, asIntOf, Sem.run_bind, Result.andThen, Sem.run_pure]
          intro hx; omega
      · cases hb
theorem run_sliceBounds {l u l' u' : Option Value} {n m e b : Nat} (isS : Bool) (hu : bound u n n = some e) (hl : bound l 0 e = some b) (hvu : OV ρ w u u') (hvl : OV ρ w l l') (hm : n ≤ m) :
    (Instr.sliceBounds isS n m l' u' none).run c.P w = .ok (b, e, m) w ∧ b ≤ e ∧ e ≤ n := by
  obtain ⟨a1, a2⟩ := run_bound (c := c) (code := if isS then .sliceAcap else .sliceAlen) hu (Nat.le_refl _) hvu m hm
  obtain ⟨b1, b2⟩ := run_bound (c := c) (code := .sliceB) hl (Nat.zero_le _) hvl e (Nat.le_refl _)
  refine ⟨?_, b1, a1⟩
  unfold Instr.sliceBounds
  rcases a2 with ⟨y, rfl, ha⟩ | ⟨rfl, rfl⟩ <;> rcases b2 with ⟨z, rfl, hb⟩ | ⟨rfl, rfl⟩ <;> simp [Sem.run_bind, Result.andThen, Sem.run_pure, *]
theorem run_sliceD (hc : CfgOk c) {t : TypeId} {x y : Value} {l u l' u' : Option Value} {v : Value} (hs : sliceD c t x l u = some v) (hx : VR ρ w x y) (hvu : OV ρ w u u') (hvl : OV ρ w l l') :
    ∃ v', (Instr.sliceAt t y l' u' none).run c.P w = .ok v' w ∧ VR ρ w v v' := by
  unfold sliceD at hs
  split at hs
  · rename_i s hu
    cases hx
    replace hs := Option.bind_eq_some_iff.1 hs
    obtain ⟨e, e1, hs⟩ := hs
    replace hs := Option.bind_eq_some_iff.1 hs
    obtain ⟨b, e2, hs⟩ := hs
    cases hs
    rw [← ByteArray.size_list] at e1
    obtain ⟨h1, h2, h3⟩ := run_sliceBounds (c := c) false e1 e2 hvu hvl (Nat.le_refl _)
    refine ⟨.string (s.extract b e), ?_, by rw [ByteArray.extract_list]; exact .string _⟩
    simp [Instr.sliceAt, Instr.slice, Sem.run_bind, run_und hc hu, Result.andThen, h1, Sem.run_pure]
  · rename_i el a n sz hu
    replace hs := Option.bind_eq_some_iff.1 hs
    obtain ⟨e, e1, hs⟩ := hs
    replace hs := Option.bind_eq_some_iff.1 hs
    obtain ⟨b, e2, hs⟩ := hs
    replace hs := Option.bind_eq_some_iff.1 hs
    obtain ⟨s, e3, hs⟩ := hs
    cases hx with
    | nils =>
      cases hs
      obtain ⟨h1, h2, h3⟩ := run_sliceBounds (c := c) true e1 e2 hvu hvl (Nat.le_refl _)
      obtain rfl : e = 0 := by omega
      obtain rfl : b = 0 := by omega
      exact ⟨.slice none 0 0, by simp [Instr.sliceAt, Instr.slice, Sem.run_bind, run_und hc hu, run_size hc e3, Result.andThen, h1, Sem.run_pure], .nils⟩
    | sl b0 o n sz cp k d hb hn hroom =>
      cases e4 : Nat.beq s sz with
      | false => rw [e4] at hs; cases hs
      | true =>
        rw [e4] at hs
        cases hs
        obtain rfl := beq_t e4
        obtain ⟨h1, h2, h3⟩ := run_sliceBounds (c := c) true e1 e2 hvu hvl hn
        by_cases hcb : cp = b
        · subst hcb
          obtain rfl : e = cp := by omega
          refine ⟨.slice (some ⟨k, o + d, none⟩) 0 0, by simp [Instr.sliceAt, Instr.slice, Sem.run_bind, run_und hc hu, run_size hc e3, Result.andThen, h1, Sem.run_pure], ?_⟩
          rw [Nat.sub_self]
          exact .sl0 b0 _ s _
        · refine ⟨.slice (some ⟨k, o + b * s + d, none⟩) (e - b) (cp - b), ?_, ?_⟩
          · have hadd : (⟨k, o + d, none⟩ : Addr).add (b * s) = ⟨k, o + b * s + d, none⟩ := by rw [Addr.add_off]; congr 1; omega
            simp [Instr.sliceAt, Instr.slice, Sem.run_bind, run_und hc hu, run_size hc e3, Result.andThen, h1, Sem.run_pure, hcb, hadd]
          · refine .sl b0 (o + b * s) (e - b) s (cp - b) k d hb (by omega) ?_
            obtain ⟨cs, f1, f2⟩ := hroom
            refine ⟨cs, f1, ?_⟩
            have : b * s + (cp - b) * s = cp * s := by rw [← Nat.add_mul]; congr 1; omega
            omega
    | sl0 b0 o sz a' =>
      cases e4 : Nat.beq s sz with
      | false => rw [e4] at hs; cases hs
      | true =>
        rw [e4] at hs
        cases hs
        obtain ⟨h1, h2, h3⟩ := run_sliceBounds (c := c) true e1 e2 hvu hvl (Nat.le_refl _)
        obtain rfl : e = 0 := by omega
        obtain rfl : b = 0 := by omega
        refine ⟨.slice (some a') 0 0, by simp [Instr.sliceAt, Instr.slice, Sem.run_bind, run_und hc hu, run_size hc e3, Result.andThen, h1, Sem.run_pure], ?_⟩
        exact .sl0 b0 _ sz a'
  · cases hs
theorem run_indexAddrD (hc : CfgOk c) {t : TypeId} {x y i i' : Value} {v : Value} (hs : indexAddrD c t x i = some v) (hx : VR ρ w x y) (hi : VR ρ w i i') :
    ∃ v', (Instr.indexAt t y i').run c.P w = .ok v' w ∧ VR ρ w v v' := by
  unfold indexAddrD at hs
  split at hs
  · rename_i kk j0
    cases hi
    replace hs := Option.bind_eq_some_iff.1 hs
    obtain ⟨j, e1, hs⟩ := hs
    obtain rfl := natOf_some e1
    split at hs
    · rename_i el b o n _ hu
      replace hs := Option.bind_eq_some_iff.1 hs
      obtain ⟨s, e3, hs⟩ := hs
      cases e4 : Nat.blt j n with
      | false => rw [e4] at hs; cases hs
      | true =>
        rw [e4] at hs
        cases hs
        have hlt := blt_t e4
        cases hx with
        | sl b o n sz cp k d hb hn hroom =>
          refine ⟨.pointer (some ⟨k, o + j * s + d, none⟩), ?_, .ptr b (o + j * s) k d hb⟩
          have hadd : (⟨k, o + d, none⟩ : Addr).add (j * s) = ⟨k, o + j * s + d, none⟩ := by rw [Addr.add_off]; congr 1; omega
          simp [Instr.indexAt, asIntOf, Sem.run_bind, run_und hc hu, run_size hc e3, Result.andThen, Sem.run_pure, hlt, hadd]
        | sl0 b o sz a' => omega
    · rename_i n el b o hu
      replace hs := Option.bind_eq_some_iff.1 hs
      obtain ⟨s, e3, hs⟩ := hs
      cases e4 : Nat.blt j n with
      | false => rw [e4] at hs; cases hs
      | true =>
        rw [e4] at hs
        cases hs
        have hlt := blt_t e4
        cases hx with
        | ptr b o k d hb =>
          refine ⟨.pointer (some ⟨k, o + j * s + d, none⟩), ?_, .ptr b (o + j * s) k d hb⟩
          have hadd : (⟨k, o + d, none⟩ : Addr).add (j * s) = ⟨k, o + j * s + d, none⟩ := by rw [Addr.add_off]; congr 1; omega
          simp [Instr.indexAt, asIntOf, Instr.sureAddr, Sem.run_bind, run_und hc hu, run_size hc e3, Result.andThen, Sem.run_pure, hlt, hadd]
    · cases hs
  · cases hs
theorem run_indexD (hc : CfgOk c) {t : TypeId} {x y i i' : Value} {v : Value} (hs : indexD c t x i = some v) (hx : VR ρ w x y) (hi : VR ρ w i i') :
    ∃ v', (Instr.index t y i').run c.P w = .ok v' w ∧ VR ρ w v v' := by
  unfold indexD at hs
  split at hs
  · rename_i kk j0
    cases hi
    replace hs := Option.bind_eq_some_iff.1 hs
    obtain ⟨j, e1, hs⟩ := hs
    obtain rfl := natOf_some e1
    split at hs
    · rename_i s hu
      cases hx
      obtain ⟨b, e2, rfl⟩ := Option.map_eq_some_iff.1 hs
      rw [List.head?_drop] at e2
      have hlt : j < s.size := by rw [ByteArray.size_list]; exact (List.getElem?_eq_some_iff.1 e2).1
      have hb : s[j]? = some b := by
        rw [ByteArray.getElem?_lt' s j hlt]
        have := (List.getElem?_eq_some_iff.1 e2).2
        rw [← this]
        rfl
      refine ⟨.int .u8 b.toNat, ?_, .int _ _⟩
      simp [Instr.index, asIntOf, Sem.run_bind, run_und hc hu, Result.andThen, Sem.run_pure, hb]
    · rename_i n el cs hu
      replace hs := Option.bind_eq_some_iff.1 hs
      obtain ⟨s, e3, hs⟩ := hs
      cases e4 : Nat.blt j n with
      | false => rw [e4] at hs; cases hs
      | true =>
        rw [e4] at hs
        simp only [cond_true] at hs
        have hlt := blt_t e4
        cases hx with
        | agg _ ys a1 a2 =>
          obtain ⟨v', f1, f2⟩ := run_part hc (⟨a1, a2⟩ : VRL ρ w cs.toList ys.toList) hs w
          refine ⟨v', ?_, f2⟩
          simp [Instr.index, asIntOf, Sem.run_bind, run_und hc hu, run_size hc e3, Result.andThen, hlt, f1]
    · cases hs
  · cases hs
theorem run_minmax (mx : Bool) : ∀ (r : List Value) (x v : Value) (r' : List Value) (x' : Value), minmax mx x r = some v → VR ρ w x x' → VRL ρ w r r' →
    ∃ v', ((List.foldlM (if mx then Builtin.max2 else Builtin.min2) x' r' : Sem Value)).run c.P w = .ok v' w ∧ VR ρ w v v'
  | [], x, v, r', x', e, hx, hr => by
    obtain rfl := hr.cases_nil
    have : minmax mx x [] = some x := by cases x <;> rfl
    rw [this] at e
    cases e
    exact ⟨x', rfl, hx⟩
  | y :: r, x, v, r', x', e, hx, hr => by
    obtain ⟨y', r', rfl, hy, hr⟩ := hr.cases_cons
    unfold minmax at e
    split at e
    · rename_i h1; cases h1
    · rename_i k a k' b r0 h1 h2
      cases h2
      cases hx; cases hy
      split at e
      · rename_i hk
        subst hk
        cases mx with
        | true =>
          obtain ⟨v', f1, f2⟩ := run_minmax true r _ v r' _ e (.int _ _) hr.tail
          refine ⟨v', ?_, f2⟩
          simp only [if_true] at f1 ⊢
          simp only [List.foldlM_cons, Sem.run_bind, Builtin.max2, Sem.run_pure, Result.andThen]
          exact f1
        | false =>
          obtain ⟨v', f1, f2⟩ := run_minmax false r _ v r' _ e (.int _ _) hr.tail
          refine ⟨v', ?_, f2⟩
          simp only [Bool.false_eq_true, if_false] at f1 ⊢
          simp only [List.foldlM_cons, Sem.run_bind, Builtin.min2, Sem.run_pure, Result.andThen]
          exact f1
      · cases e
    · cases e
theorem run_lenD (hc : CfgOk c) {t ty : TypeId} {x y v : Value} (hr : Rel base c.n0 ρ h.t.get w) (hl : lenD h (c.und t) x = some v) (hx : VR ρ w x y) : (Builtin.len_ #[t] ty #[y]).run c.P w = .ok v w ∧ VR ρ w v v := by
  unfold lenD at hl
  split at hl
  · rename_i s hu
    cases hx; cases hl
    refine ⟨?_, .int _ _⟩
    rw [← ByteArray.size_list]
    simp [Builtin.len_, Sem.run_bind, run_und hc hu, Result.andThen, Sem.run_pure, goInt]
  · rename_i el a n _ hu
    cases hl
    refine ⟨?_, .int _ _⟩
    cases hx <;> simp [Builtin.len_, Sem.run_bind, run_und hc hu, Result.andThen, Sem.run_pure, goInt]
  · rename_i hu
    cases hx; cases hl
    exact ⟨by simp [Builtin.len_, Sem.run_bind, run_und hc hu, Result.andThen, Sem.run_pure, goInt], .int _ _⟩
  · rename_i r hu
    split at hl
    · rename_i es clock e1
      cases hl
      cases hx with
      | map _ k d hb =>
        obtain ⟨k', d', e2, es', e3, e4, _⟩ := hr.at_ r _ e1
        rw [hb] at e2
        cases e2
        refine ⟨?_, .int _ _⟩
        rw [e4]
        simp [Builtin.len_, Sem.run_bind, run_und hc hu, Result.andThen, Sem.run_pure, goInt, getObj, Sem.run, e3]
    · cases hl
  · cases hl
end
end Go.Proofs.YthilbhbnimfcmaaDx
