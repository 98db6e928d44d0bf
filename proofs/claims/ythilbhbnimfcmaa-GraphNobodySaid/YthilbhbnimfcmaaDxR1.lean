/- A part of the proof that the interpreter of YthilbhbnimfcmaaDxDx is sound: what it computes of a call, the call comes to in the model. No condition beyond those that each theorem names. -/
import Derived.Test.YthilbhbnimfcmaaDxDx
import Derived.ProofKit
import Derived.Below
import Derived.WalkKit
import Derived.Orders
import Derived.RegionTactic
import Derived.Laws.IdiomCopy
namespace Go.Proofs.YthilbhbnimfcmaaDx
open Go
set_option linter.unusedVariables false

/-- Where an id lies: a block, and the place of its first cell. -/
abbrev Emb := Nat → Option (Nat × Nat)
/-- A block of cells, nothing of it frozen. -/
def Cells (w : World) (k : Nat) (cs : Array Value) : Prop := ∃ el fr, w.heap[k]? = some (.cells cs el fr) ∧ ∀ j, j < cs.size → ¬ (fr.1 ≤ j ∧ j < fr.2)
def Room (w : World) (k o c sz : Nat) : Prop := ∃ cs, Cells w k cs ∧ o + c * sz ≤ cs.size

/-- A value that points, or may. -/
def refV : Value → Bool
  | .pointer _ | .slice _ _ _ | .map _ | .chan _ | .func _ _ _ | .nilFunc | .iface _ _ | .nilIface => true
  | _ => false
inductive VR (ρ : Emb) (w : World) : Value → Value → Prop
  | bool (b : Bool) : VR ρ w (.bool b) (.bool b)
  | int (k : IntKind) (n : Int) : VR ρ w (.int k n) (.int k n)
  | string (s : ByteArray) : VR ρ w (.string s) (.string s)
  | nilp : VR ρ w (.pointer none) (.pointer none)
  | ptr (b o k d : Nat) (hb : ρ b = some (k, d)) : VR ρ w (.pointer (some ⟨b, o, none⟩)) (.pointer (some ⟨k, o + d, none⟩))
  | nils : VR ρ w (.slice none 0 0) (.slice none 0 0)
  | sl (b o n sz c k d : Nat) (hb : ρ b = some (k, d)) (h : n ≤ c) (hr : Room w k (o + d) c sz) : VR ρ w (.slice (some ⟨b, o, none⟩) n sz) (.slice (some ⟨k, o + d, none⟩) n c)
  | sl0 (b o sz : Nat) (a : Addr) : VR ρ w (.slice (some ⟨b, o, none⟩) 0 sz) (.slice (some a) 0 0)
  | nilm : VR ρ w (.map none) (.map none)
  | map (r k d : Nat) (hb : ρ r = some (k, d)) : VR ρ w (.map (some r)) (.map (some k))
  | yld (b k d : Nat) (hb : ρ b = some (k, d)) : VR ρ w (.func (.yield b) #[] #[]) (.func (.yield k) #[] #[])
  | func (fn : Fn) (hf : ∀ l, fn ≠ .yield l) (xs ys xs' ys' : Array Value) (h1 : xs.toList.length = xs'.toList.length) (h2 : ∀ (i : Nat) x y, xs.toList[i]? = some x → xs'.toList[i]? = some y → VR ρ w x y)
      (h3 : ys.toList.length = ys'.toList.length) (h4 : ∀ (i : Nat) x y, ys.toList[i]? = some x → ys'.toList[i]? = some y → VR ρ w x y) : VR ρ w (.func fn xs ys) (.func fn xs' ys')
  | nilFunc : VR ρ w .nilFunc .nilFunc
  | nilIface : VR ρ w .nilIface .nilIface
  | iface (t : TypeId) (x y : Value) (h : VR ρ w x y) : VR ρ w (.iface t x) (.iface t y)
  | agg (xs ys : Array Value) (h1 : xs.toList.length = ys.toList.length) (h2 : ∀ (i : Nat) x y, xs.toList[i]? = some x → ys.toList[i]? = some y → VR ρ w x y) : VR ρ w (.agg xs) (.agg ys)
  | tok (k : FloatKind) (re im : Nat) (y : Value) (h : refV y = true) : VR ρ w (.complex k re im) y
  | tuple (xs ys : Array Value) (h1 : xs.toList.length = ys.toList.length) (h2 : ∀ (i : Nat) x y, xs.toList[i]? = some x → ys.toList[i]? = some y → VR ρ w x y) : VR ρ w (.tuple xs) (.tuple ys)

/-- Lists of values, one by one. -/
structure VRL (ρ : Emb) (w : World) (xs ys : List Value) : Prop where
  len : xs.length = ys.length
  at_ : ∀ (i : Nat) x y, xs[i]? = some x → ys[i]? = some y → VR ρ w x y

theorem VRL.nil {ρ : Emb} {w : World} : VRL ρ w [] [] := ⟨rfl, fun i x y h => by simp at h⟩
theorem VRL.cons {ρ : Emb} {w : World} {x y : Value} {xs ys : List Value} (h : VR ρ w x y) (t : VRL ρ w xs ys) : VRL ρ w (x :: xs) (y :: ys) :=
  ⟨by simp [t.len], fun i u v hu hv => by
    cases i with
    | zero => simp at hu hv; subst hu; subst hv; exact h
    | succ i => simp at hu hv; exact t.at_ i u v hu hv⟩
theorem VRL.head {ρ : Emb} {w : World} {x y : Value} {xs ys : List Value} (h : VRL ρ w (x :: xs) (y :: ys)) : VR ρ w x y := h.at_ 0 x y rfl rfl
theorem VRL.tail {ρ : Emb} {w : World} {x y : Value} {xs ys : List Value} (h : VRL ρ w (x :: xs) (y :: ys)) : VRL ρ w xs ys :=
  ⟨by simpa using h.len, fun i u v hu hv => h.at_ (i + 1) u v (by simpa using hu) (by simpa using hv)⟩
theorem VRL.cases_cons {ρ : Emb} {w : World} {x : Value} {xs ys : List Value} (h : VRL ρ w (x :: xs) ys) : ∃ y ys', ys = y :: ys' ∧ VR ρ w x y ∧ VRL ρ w xs ys' := by
  cases ys with
  | nil => have := h.len; simp at this
  | cons y ys => exact ⟨y, ys, rfl, h.head, h.tail⟩
theorem VRL.cases_nil {ρ : Emb} {w : World} {ys : List Value} (h : VRL ρ w [] ys) : ys = [] := by
  cases ys with
  | nil => rfl
  | cons y ys => have := h.len; simp at this
theorem VRL.append {ρ : Emb} {w : World} {xs ys us vs : List Value} (h : VRL ρ w xs ys) (k : VRL ρ w us vs) : VRL ρ w (xs ++ us) (ys ++ vs) :=
  ⟨by simp [h.len, k.len], fun i x y hx hy => by
    by_cases hi : i < xs.length
    · rw [List.getElem?_append_left hi] at hx
      rw [List.getElem?_append_left (by rw [← h.len]; exact hi)] at hy
      exact h.at_ i x y hx hy
    · rw [List.getElem?_append_right (by omega)] at hx
      rw [List.getElem?_append_right (by rw [← h.len]; omega), ← h.len] at hy
      exact k.at_ _ x y hx hy⟩
theorem VRL.take {ρ : Emb} {w : World} {xs ys : List Value} (h : VRL ρ w xs ys) (n : Nat) : VRL ρ w (xs.take n) (ys.take n) :=
  ⟨by simp [h.len], fun i x y hx hy => by
    rw [List.getElem?_take] at hx hy
    split at hx
    · rename_i hi; rw [if_pos hi] at hy; exact h.at_ i x y hx hy
    · cases hx⟩
theorem VRL.drop {ρ : Emb} {w : World} {xs ys : List Value} (h : VRL ρ w xs ys) (n : Nat) : VRL ρ w (xs.drop n) (ys.drop n) :=
  ⟨by simp [h.len], fun i x y hx hy => by
    rw [List.getElem?_drop] at hx hy
    exact h.at_ _ x y hx hy⟩
theorem VRL.get {ρ : Emb} {w : World} {xs ys : List Value} (h : VRL ρ w xs ys) {i : Nat} {x : Value} (hx : xs[i]? = some x) : ∃ y, ys[i]? = some y ∧ VR ρ w x y := by
  have hi : i < xs.length := (List.getElem?_eq_some_iff.1 hx).1
  have hy : ys[i]? = some (ys[i]'(by rw [← h.len]; exact hi)) := List.getElem?_eq_getElem _
  exact ⟨_, hy, h.at_ i x _ hx hy⟩

/-- A world that has grown: nothing of what was there has changed its form. -/
structure Grow (w w' : World) : Prop where
  size : w.heap.size ≤ w'.heap.size
  os : w'.os = w.os
  tape : w'.tape = w.tape
  output : w'.output = w.output
  form : ∀ (k : Nat) cs el fr, w.heap[k]? = some (.cells cs el fr) → ∃ cs', w'.heap[k]? = some (.cells cs' el fr) ∧ cs'.size = cs.size

theorem Grow.refl (w : World) : Grow w w := ⟨Nat.le_refl _, rfl, rfl, rfl, fun k cs el fr h => ⟨cs, h, rfl⟩⟩
theorem Grow.trans {a b c : World} (h : Grow a b) (k : Grow b c) : Grow a c :=
  ⟨Nat.le_trans h.size k.size, k.os.trans h.os, k.tape.trans h.tape, k.output.trans h.output, fun i cs el fr hi => by
    obtain ⟨cs1, h1, e1⟩ := h.form i cs el fr hi
    obtain ⟨cs2, h2, e2⟩ := k.form i cs1 el fr h1
    exact ⟨cs2, h2, e2.trans e1⟩⟩
theorem Room.grow {w w' : World} {k o c sz : Nat} (h : Room w k o c sz) (g : Grow w w') : Room w' k o c sz := by
  obtain ⟨cs, ⟨el, fr, h1, h2⟩, h3⟩ := h
  obtain ⟨cs', h1', e⟩ := g.form k cs el fr h1
  exact ⟨cs', ⟨el, fr, h1', fun j hj => h2 j (by omega)⟩, by omega⟩
theorem VR.grow {ρ : Emb} {w w' : World} {x y : Value} (h : VR ρ w x y) (g : Grow w w') : VR ρ w' x y := by
  induction h with
  | bool b => exact .bool b
  | int k n => exact .int k n
  | string s => exact .string s
  | nilp => exact .nilp
  | ptr b o k d hb => exact .ptr b o k d hb
  | nils => exact .nils
  | sl b o n sz c k d hb h hr => exact .sl b o n sz c k d hb h (hr.grow g)
  | sl0 b o sz a => exact .sl0 b o sz a
  | nilm => exact .nilm
  | map r k d hb => exact .map r k d hb
  | yld b k d hb => exact .yld b k d hb
  | func fn hf xs ys xs' ys' h1 h2 h3 h4 i2 i4 => exact .func fn hf xs ys xs' ys' h1 i2 h3 i4
  | nilFunc => exact .nilFunc
  | nilIface => exact .nilIface
  | iface t x y h ih => exact .iface t x y ih
  | agg xs ys h1 h2 i2 => exact .agg xs ys h1 i2
  | tok k re im y h => exact .tok k re im y h
  | tuple xs ys h1 h2 i2 => exact .tuple xs ys h1 i2
theorem VRL.grow {ρ : Emb} {w w' : World} {xs ys : List Value} (h : VRL ρ w xs ys) (g : Grow w w') : VRL ρ w' xs ys :=
  ⟨h.len, fun i x y hx hy => (h.at_ i x y hx hy).grow g⟩

/-- More ids are known. -/
def Emb.le (ρ ρ' : Emb) : Prop := ∀ b x, ρ b = some x → ρ' b = some x
theorem Emb.le.refl (ρ : Emb) : ρ.le ρ := fun _ _ h => h
theorem Emb.le.trans {a b c : Emb} (h : a.le b) (k : b.le c) : a.le c := fun i x hi => k i x (h i x hi)
theorem VR.le {ρ ρ' : Emb} {w : World} {x y : Value} (h : VR ρ w x y) (g : ρ.le ρ') : VR ρ' w x y := by
  induction h with
  | bool b => exact .bool b
  | int k n => exact .int k n
  | string s => exact .string s
  | nilp => exact .nilp
  | ptr b o k d hb => exact .ptr b o k d (g _ _ hb)
  | nils => exact .nils
  | sl b o n sz c k d hb h hr => exact .sl b o n sz c k d (g _ _ hb) h hr
  | sl0 b o sz a => exact .sl0 b o sz a
  | nilm => exact .nilm
  | map r k d hb => exact .map r k d (g _ _ hb)
  | yld b k d hb => exact .yld b k d (g _ _ hb)
  | func fn hf xs ys xs' ys' h1 h2 h3 h4 i2 i4 => exact .func fn hf xs ys xs' ys' h1 i2 h3 i4
  | nilFunc => exact .nilFunc
  | nilIface => exact .nilIface
  | iface t x y h ih => exact .iface t x y ih
  | agg xs ys h1 h2 i2 => exact .agg xs ys h1 i2
  | tok k re im y h => exact .tok k re im y h
  | tuple xs ys h1 h2 i2 => exact .tuple xs ys h1 i2
theorem VRL.le {ρ ρ' : Emb} {w : World} {xs ys : List Value} (h : VRL ρ w xs ys) (g : ρ.le ρ') : VRL ρ' w xs ys :=
  ⟨h.len, fun i x y hx hy => (h.at_ i x y hx hy).le g⟩

/-- What is known of a slot. -/
def TV (ρ : Emb) (w : World) (o : Option Value) (y : Value) : Prop := ∀ v, o = some v → VR ρ w v y
theorem TV.le {ρ ρ' : Emb} {w : World} {o : Option Value} {y : Value} (h : TV ρ w o y) (g : ρ.le ρ') : TV ρ' w o y := fun v hv => (h v hv).le g
theorem TV.grow {ρ : Emb} {w w' : World} {o : Option Value} {y : Value} (h : TV ρ w o y) (g : Grow w w') : TV ρ w' o y := fun v hv => (h v hv).grow g
theorem TV.some {ρ : Emb} {w : World} {v y : Value} (h : VR ρ w v y) : TV ρ w (some v) y := fun u hu => by cases hu; exact h
/-- The record of a range over a function. -/
def loopRec (busy : Bool) (fn : FuncId) (tmps : Array Value) (ps : List Tmp) (assign body : Code) (kd : Nat) : Obj := .loop { state := cond busy .busy .ready, pending := none, fn, tmps, params := ps.toArray, assign, body, defers := kd }

/-- What an id's block holds. -/
def OR (ρ : Emb) (w : World) (k d : Nat) : Ob → Prop
  | .cells cs => ∃ cs', Cells w k cs' ∧ cs.length + d ≤ cs'.size ∧ ∀ (j : Nat) x y, cs[j]? = some x → cs'[j + d]? = some y → VR ρ w x y
  | .map es clock => ∃ es', w.heap[k]? = some (.map es' clock) ∧ es.length = es'.size ∧ ∀ (j : Nat) e e', es[j]? = some e → es'[j]? = some e' → e'.key = e.1 ∧ VR ρ w e.2.1 e'.val ∧ e'.born = e.2.2
  | .sit s pos => d = 0 ∧ w.heap[k]? = some (.stringIter s pos)
  | .mit m since seen last => ∃ m' seen', (m = none ∧ m' = none ∨ ∃ r k' d', m = some r ∧ ρ r = some (k', d') ∧ m' = some k') ∧ (∀ b, b ∈ seen' ↔ b ∈ seen) ∧ seen'.back? = seen.head? ∧ d = 0 ∧ w.heap[k]? = some (.mapIter m' since seen' last)
  | .loop busy t m ps assign body db => ∃ fn tmps kd dd, d = 0 ∧ w.heap[k]? = some (loopRec busy fn tmps ps assign body kd) ∧ m = tmps.size ∧ (∀ j, j < m → TV ρ w (t.get j) (tmps.getD j undef)) ∧ ρ db = some (kd, dd)
  | .dfb => d = 0 ∧ w.heap[k]? = some (.deferred (some []))

/-- The abstract memory and the world. -/
structure Rel (base n0 : Nat) (ρ : Emb) (H : Nat → Option Ob) (w : World) : Prop where
  at_ : ∀ b o, H b = some o → ∃ k d, ρ b = some (k, d) ∧ OR ρ w k d o
  inj : ∀ b b' k d d', H b ≠ none → H b' ≠ none → ρ b = some (k, d) → ρ b' = some (k, d') → b = b'
  high : ∀ b k d, n0 ≤ b → ρ b = some (k, d) → base ≤ k
  low : ∀ b k d, ρ b = some (k, d) → k < w.heap.size
  sz : base ≤ w.heap.size
theorem OR.le {ρ ρ' : Emb} {w : World} {k d : Nat} {o : Ob} (h : OR ρ w k d o) (g : ρ.le ρ') : OR ρ' w k d o := by
  cases o with
  | cells cs => obtain ⟨cs', h1, h2, h3⟩ := h; exact ⟨cs', h1, h2, fun j x y hx hy => (h3 j x y hx hy).le g⟩
  | map es clock => obtain ⟨es', h1, h2, h3⟩ := h; exact ⟨es', h1, h2, fun j e e' he he' => ⟨(h3 j e e' he he').1, ((h3 j e e' he he').2.1).le g, (h3 j e e' he he').2.2⟩⟩
  | sit s pos => exact h
  | loop busy t m ps assign body db =>
    obtain ⟨fn, tmps, kd, dd, h1, h2, h3, h4, h5⟩ := h
    exact ⟨fn, tmps, kd, dd, h1, h2, h3, fun j hj => (h4 j hj).le g, g _ _ h5⟩
  | dfb => exact h
  | mit m since seen last =>
    obtain ⟨m', seen', h1, h2⟩ := h
    refine ⟨m', seen', ?_, h2⟩
    rcases h1 with h1 | ⟨r, k', d', a1, a2, a3⟩
    · exact .inl h1
    · exact .inr ⟨r, k', d', a1, g _ _ a2, a3⟩
/-- A block that stays, in a world that has grown. -/
theorem OR.grow {ρ : Emb} {w w' : World} {k d : Nat} {o : Ob} (h : OR ρ w k d o) (g : Grow w w') (e : w'.heap[k]? = w.heap[k]?) : OR ρ w' k d o := by
  cases o with
  | cells cs =>
    obtain ⟨cs', ⟨el, fr, h1, h4⟩, h2, h3⟩ := h
    exact ⟨cs', ⟨el, fr, e.trans h1, h4⟩, h2, fun j x y hx hy => (h3 j x y hx hy).grow g⟩
  | map es clock => obtain ⟨es', h1, h2, h3⟩ := h; exact ⟨es', e.trans h1, h2, fun j e e' he he' => ⟨(h3 j e e' he he').1, ((h3 j e e' he he').2.1).grow g, (h3 j e e' he he').2.2⟩⟩
  | sit s pos => exact ⟨h.1, e.trans h.2⟩
  | loop busy t m ps assign body db =>
    obtain ⟨fn, tmps, kd, dd, h1, h2, h3, h4, h5⟩ := h
    exact ⟨fn, tmps, kd, dd, h1, e.trans h2, h3, fun j hj => (h4 j hj).grow g, h5⟩
  | dfb => exact ⟨h.1, e.trans h.2⟩
  | mit m since seen last => obtain ⟨m', seen', h1, h2, h2b, h3, h4⟩ := h; exact ⟨m', seen', h1, h2, h2b, h3, e.trans h4⟩
/-- Some blocks are forgotten. -/
theorem Rel.forget {base n0 : Nat} {ρ : Emb} {H H' : Nat → Option Ob} {w : World} (h : Rel base n0 ρ H w) (hs : ∀ b o, H' b = some o → H b = some o) : Rel base n0 ρ H' w :=
  have hn : ∀ b, H' b ≠ none → H b ≠ none := fun b hb => by
    cases he : H' b with
    | none => exact absurd he hb
    | some o => rw [hs b o he]; simp
  ⟨fun b o hb => h.at_ b o (hs b o hb), fun b b' k d d' hb hb' => h.inj b b' k d d' (hn b hb) (hn b' hb'), h.high, h.low, h.sz⟩

/-- How the memory comes out of a step: ids, blocks, the world. n, n': the next id before and behind it; W: the ids that were written or given up. -/
structure Ext (base n0 : Nat) (ρ : Emb) (H : Nat → Option Ob) (n : Nat) (w : World) (ρ' : Emb) (H' : Nat → Option Ob) (n' : Nat) (W : List Nat) (w' : World) : Prop where
  le : ρ.le ρ'
  dom : ∀ b x, ρ' b = some x → ρ b = some x ∨ (n ≤ b ∧ b < n')
  nn : n ≤ n'
  rel : Rel base n0 ρ' H' w'
  grow : Grow w w'
  frame : ∀ k, k < w.heap.size → (∀ b ∈ W, H b ≠ none → ∀ d, ρ b ≠ some (k, d)) → w'.heap[k]? = w.heap[k]?
  new : ∀ b k d, n ≤ b → b < n' → H' b ≠ none → ρ' b = some (k, d) → w.heap.size ≤ k ∨ ∃ b0 ∈ W, H b0 ≠ none ∧ ∃ d0, ρ b0 = some (k, d0)
  old : ∀ b, b < n ∨ n' ≤ b → H' b = H b ∨ b ∈ W ∧ H b ≠ none
  wr : ∀ b ∈ W, n0 ≤ b

theorem Ext.refl {base n0 : Nat} {ρ : Emb} {H : Nat → Option Ob} {n : Nat} {w : World} (h : Rel base n0 ρ H w) : Ext base n0 ρ H n w ρ H n [] w :=
  ⟨.refl ρ, fun b x hb => .inl hb, Nat.le_refl _, h, .refl w, fun k hk hw => rfl, fun b k d h1 h2 => by omega, fun b hb => .inl rfl, fun b hb => by cases hb⟩

/-- Ids of a stretch are unknown. -/
def Free (ρ : Emb) (n N : Nat) : Prop := ∀ b, n ≤ b → b < N → ρ b = none

theorem Ext.trans {base n0 : Nat} {ρ ρ1 ρ2 : Emb} {H H1 H2 : Nat → Option Ob} {n n1 n2 : Nat} {W1 W2 : List Nat} {w w1 w2 : World} (hf : Free ρ n n2) (hr : Rel base n0 ρ H w)
    (h : Ext base n0 ρ H n w ρ1 H1 n1 W1 w1) (k : Ext base n0 ρ1 H1 n1 w1 ρ2 H2 n2 W2 w2) : Ext base n0 ρ H n w ρ2 H2 n2 (W2 ++ W1) w2 := by
  have hn : ∀ b, n ≤ b → b < n2 → H b = none := fun b h1 h2 => by
    cases e : H b with
    | none => rfl
    | some o => obtain ⟨k, d, hk, _⟩ := hr.at_ b o e; rw [hf b h1 h2] at hk; cases hk
  have hnn := h.nn
  have knn := k.nn
  refine ⟨h.le.trans k.le, fun b x hb => ?_, by omega, k.rel, h.grow.trans k.grow, fun j hj hw => ?_, fun b j d hb1 hb2 hb3 hb4 => ?_, fun b hb => ?_, fun b hb => ?_⟩
  · rcases k.dom b x hb with h1 | h1
    · rcases h.dom b x h1 with h2 | h2
      · exact .inl h2
      · exact .inr (by omega)
    · exact .inr (by omega)
  · have e1 := h.frame j hj (fun b hb => hw b (by simp [hb]))
    refine (k.frame j (Nat.lt_of_lt_of_le hj h.grow.size) (fun b hb hlive d hd => ?_)).trans e1
    rcases h.dom b _ hd with h1 | h1
    · have hbn : ¬ (n ≤ b ∧ b < n2) := fun hc => by rw [hf b hc.1 hc.2] at h1; cases h1
      rcases h.old b (by omega) with h2 | h2
      · rw [h2] at hlive
        exact hw b (by simp [hb]) hlive d h1
      · exact hw b (by simp [hb]) h2.2 d h1
    · rcases h.new b j d h1.1 h1.2 hlive hd with h2 | ⟨b0, h2, h3, d0, h4⟩
      · omega
      · exact hw b0 (by simp [h2]) h3 d0 h4
  · by_cases hlt : b < n1
    · rcases k.old b (.inl hlt) with h1 | h1
      · have hne : H1 b ≠ none := by rw [← h1]; exact hb3
        cases e : H1 b with
        | none => exact absurd e hne
        | some o =>
          obtain ⟨k', d', hk', _⟩ := h.rel.at_ b o e
          have := k.le b _ hk'
          rw [hb4] at this
          obtain ⟨rfl, rfl⟩ := Prod.mk.inj (Option.some.inj this)
          rcases h.new b _ _ hb1 hlt hne hk' with h2 | ⟨b0, h2, h3, d0, h4⟩
          · exact .inl h2
          · exact .inr ⟨b0, by simp [h2], h3, d0, h4⟩
      · cases e : H1 b with
        | none => exact absurd e h1.2
        | some o =>
          obtain ⟨k', d', hk', _⟩ := h.rel.at_ b o e
          have := k.le b _ hk'
          rw [hb4] at this
          obtain ⟨rfl, rfl⟩ := Prod.mk.inj (Option.some.inj this)
          rcases h.new b _ _ hb1 hlt h1.2 hk' with h2 | ⟨b0, h2, h3, d0, h4⟩
          · exact .inl h2
          · exact .inr ⟨b0, by simp [h2], h3, d0, h4⟩
    · rcases k.new b j d (by omega) hb2 hb3 hb4 with h2 | ⟨b0, h2, h3, d0, h4⟩
      · have := h.grow.size; exact .inl (by omega)
      · rcases h.dom b0 _ h4 with h5 | h5
        · have hbn : ¬ (n ≤ b0 ∧ b0 < n2) := fun hc => by rw [hf b0 hc.1 hc.2] at h5; cases h5
          rcases h.old b0 (by omega) with h6 | h6
          · rw [h6] at h3
            exact .inr ⟨b0, by simp [h2], h3, d0, h5⟩
          · exact .inr ⟨b0, by simp [h2], h6.2, d0, h5⟩
        · rcases h.new b0 j d0 h5.1 h5.2 h3 h4 with h6 | ⟨b1, h6, h7, d1, h8⟩
          · exact .inl h6
          · exact .inr ⟨b1, by simp [h6], h7, d1, h8⟩
  · rcases k.old b (by omega) with h1 | h1
    · rcases h.old b (by omega) with h2 | h2
      · exact .inl (h1.trans h2)
      · exact .inr ⟨by simp [h2.1], h2.2⟩
    · rcases h.old b (by omega) with h2 | h2
      · rw [h2] at h1; exact .inr ⟨by simp [h1.1], h1.2⟩
      · exact .inr ⟨by simp [h2.1], h2.2⟩
  · rcases List.mem_append.1 hb with h1 | h1
    · exact k.wr b h1
    · exact h.wr b h1
theorem Ext.weaken {base n0 : Nat} {ρ ρ' : Emb} {H H' : Nat → Option Ob} {n n' : Nat} {W W' : List Nat} {w w' : World} (h : Ext base n0 ρ H n w ρ' H' n' W w') (hs : ∀ b ∈ W, b ∈ W') (hw : ∀ b ∈ W', n0 ≤ b) : Ext base n0 ρ H n w ρ' H' n' W' w' :=
  ⟨h.le, h.dom, h.nn, h.rel, h.grow, fun k hk hf => h.frame k hk (fun b hb => hf b (hs b hb)), fun b k d h1 h2 h3 h4 => (h.new b k d h1 h2 h3 h4).imp id (fun ⟨b0, a1, a2, a3⟩ => ⟨b0, hs b0 a1, a2, a3⟩),
    fun b hb => (h.old b hb).imp id (fun h => ⟨hs b h.1, h.2⟩), hw⟩
/-- What lies below stays. -/
theorem Ext.low {base n0 : Nat} {ρ ρ' : Emb} {H H' : Nat → Option Ob} {n n' : Nat} {W : List Nat} {w w' : World} (hr : Rel base n0 ρ H w) (h : Ext base n0 ρ H n w ρ' H' n' W w') : RowKit.Below base w w' :=
  ⟨h.grow.os, h.grow.tape, h.grow.output, h.grow.size, fun k hk => h.frame k (by have := hr.sz; omega) (fun b hb hl d hd => by have := hr.high b k d (h.wr b hb) hd; omega)⟩
end Go.Proofs.YthilbhbnimfcmaaDx
