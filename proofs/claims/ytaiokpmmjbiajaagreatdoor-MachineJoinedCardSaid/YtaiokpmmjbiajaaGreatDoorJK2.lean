/- A part of the proof of this claim. No condition beyond those that each theorem names. -/
import Derived.Test.YtaiokpmmjbiajaaGreatDoorJK1
import Derived.Test.YtaiokpmmjbiajaaGreatDoorJK0
import Derived.Test.YtaiokpmmjbiajaaGreatDoorProg
import Derived.KernelRfl
import Derived.Lib.ItoaNum
import Derived.Lib.BitFns
set_option linter.unusedVariables false
set_option linter.unusedSimpArgs false
namespace Go.Proofs.YtaiokpmmjbiajaaGreatDoorDx.Ari
section
open Go Go.Proofs Go.Proofs.YtaiokpmmjbiajaaGreatDoorDx.Fit
theorem wrap_inR (x : Int) : inR (IntKind.wrap .i64 x) = true := in_iff.2 (by rw [IntKind.wrap_i64]; omega)
abbrev I (v : W3) : Prop := inR v.2.1 = true
theorem negV_I (k n : Int) : I (A79.negV k n).1 := by
 unfold A79.negV
 split
 ·rfl
 ·split
  ·split
   ·rfl
   ·exact wrap_inR _
  ·rfl
theorem dec_I {k n : Int} (hk : k = 2 ∨ k = 3) (hn : inR n = true) (h : (A127.dec k n).2 = true) : inR (A127.dec k n).1 = true := by
 obtain ⟨d1, d2⟩ := dec_eq hk hn
 rw [d1] at h
 rw [(d2 h).1]
 exact (d2 h).2
theorem dec_J {k n : Int} (hn : inR n = true) (h : (A127.dec k n).2 = true) : inR (A127.dec k n).1 = true := by
 by_cases hk : k = 3
 ·subst hk; exact hn
 ·have e : A127.dec k n = A127.dec 2 n := by unfold A127.dec; rw [if_neg hk, if_neg (by decide)]
  rw [e] at h ⊢
  exact dec_I (.inl rfl) hn h
theorem decV_I {k n : Int} (hn : inR n = true) : I (A75.decV k n).1 := by
 unfold A75.decV
 split
 ·rfl
 ·split
  ·rename_i hk
   split
   ·rename_i h; exact dec_I hk hn h
   ·rfl
  ·rfl
theorem told_I (c : Int) : I (Ref.toldV c) := by
 unfold Ref.toldV
 cases c == 0 <;> cases c == 1 <;> rfl
theorem truth_I (b : Bool) : I (Ref.truthV b) := by cases b <;> rfl
theorem cmp_I (s : ByteArray) (p : Int × Bool) : I (Ref.cmpV s p) := by
 unfold Ref.cmpV
 cases p.2
 ·rfl
 ·cases eqU s.data.toList [60]
  ·cases eqU s.data.toList [60, 61]
   ·cases eqU s.data.toList [62]
    ·exact truth_I _
    ·exact truth_I _
   ·exact truth_I _
  ·exact truth_I _
theorem ofV_I {k : Int} {p : Int × Bool} (h : p.2 = true → inR p.1 = true) : I (ofV k p).1 := by
 unfold ofV
 cases e : p.2
 ·rfl
 ·exact h e
theorem two_I {f : Int → Int → Int × Bool} (hf : ∀ a b, inR a = true → inR b = true → (f a b).2 = true → inR (f a b).1 = true) {a b : W3} (ha : I a) (hb : I b) : I (twoV f a b).1 := by
 unfold twoV
 cases bad a.1 || bad b.1
 rotate_left
 ·rfl
 cases a.1 == 0 || b.1 == 0
 rotate_left
 ·rfl
 cases a.1 == 2 && b.1 == 2
 rotate_left
 ·exact ofV_I (hf _ _ ha hb)
 cases hd : (A127.dec a.1 a.2.1).2 && (A127.dec b.1 b.2.1).2
 ·rfl
 ·refine ofV_I fun h => ?_
  rw [Bool.and_eq_true] at hd
  exact hf _ _ (dec_J ha hd.1) (dec_J hb hd.2) h
theorem tmod_le (n : Nat) (b : Int) : 0 ≤ Int.tmod (n : Int) b ∧ Int.tmod (n : Int) b ≤ n := by
 cases b with
 | ofNat m =>
  show (0 : Int) ≤ ((n % m : Nat) : Int) ∧ ((n % m : Nat) : Int) ≤ n
  have := Nat.mod_le n m
  omega
 | negSucc m =>
  show (0 : Int) ≤ ((n % (m + 1) : Nat) : Int) ∧ ((n % (m + 1) : Nat) : Int) ≤ n
  have := Nat.mod_le n (m + 1)
  omega
theorem rem_I {a b : Int} (ha : inR a = true) (hb : inR b = true) : inR (rem a b) = true := by
 have h1 := in_iff.1 ha
 unfold rem
 cases b != -1
 ·rfl
 ·show inR (Int.tmod a b) = true
  refine in_iff.2 ?_
  rcases Int.lt_or_le a 0 with h | h
  ·have e : Int.tmod a b = -Int.tmod (-a) b := by rw [Int.neg_tmod, Int.neg_neg]
   obtain ⟨n, hn⟩ := Int.eq_ofNat_of_zero_le (show 0 ≤ -a by omega)
   have g := tmod_le n b
   rw [e, hn]
   omega
  ·obtain ⟨n, rfl⟩ := Int.eq_ofNat_of_zero_le h
   have g := tmod_le n b
   omega
theorem okv_len {k n : Int} {t : ByteArray} (h : A33.okv k n t = true) : t.data.toList.length ≤ 1024 := by
 have e0 : eqU t.data.toList [] = true → t.data.toList.length ≤ 1024 := fun e => by
  have := Go.Proofs.YtaiokpmmjbiajaaGreatDoorDx.Fit.eqU_eq e
  rw [this]; decide
 unfold A33.okv at h
 cases h0 : k == 0 <;> rw [h0] at h
 rotate_left
 ·simp only [cond_true, Bool.and_eq_true] at h; exact e0 h.2
 cases h1 : k == 1 <;> rw [h1] at h
 rotate_left
 ·simp only [cond_true, cond_false, Bool.and_eq_true] at h; exact e0 h.1
 cases h2 : k == 2 || k == 3 <;> rw [h2] at h
 rotate_left
 ·exact e0 h
 simp only [cond_false, Bool.and_eq_true, decide_eq_true_eq] at h
 exact h.2.2.1
theorem quot_I {a b d : Int} (ha : inR a = true) (hb : inR b = true) (hd : inR d = true) (h0 : d ≠ 0) (h : (quot a b d).2 = true) : inR (quot a b d).1 = true := ((md_eq ha hb hd h0).2 h).2
theorem mulV_I {a b : W3} (ha : I a) (hb : I b) : I (mulV a b).1 := by
 unfold mulV
 cases (Ref.firstV a.1 b.1 b.2.1 false).2
 rotate_left
 ·rfl
 refine ofV_I ?_
 cases a.1 == 3 && b.1 == 3
 ·exact quot_I ha hb rfl (by decide)
 ·exact quot_I ha hb rfl (by decide)
theorem divV_I {a b : W3} (ha : I a) (hb : I b) : I (divV a b).1 := by
 unfold divV
 cases hf : (Ref.firstV a.1 b.1 b.2.1 true).2
 rotate_left
 ·rfl
 have hn := first_ne hf
 cases a.1 == 2 && b.1 == 2
 rotate_left
 ·exact ofV_I (quot_I ha rfl hb hn)
 cases hd : (Ref.decR a.1 a.2.1).2 && (Ref.decR b.1 b.2.1).2
 ·rfl
 ·rw [Bool.and_eq_true] at hd
  exact ofV_I (quot_I (dec_in ha hd.1) rfl (dec_in hb hd.2) (dec_ne hn hd.2))
theorem modV_I {a b : W3} (ha : I a) (hb : I b) : I (modV a b).1 := by
 unfold modV
 cases (Ref.zeroV a.1 b.1 b.2.1).2 != 0
 rotate_left
 ·rfl
 cases (Ref.zeroV a.1 b.1 b.2.1).1
 rotate_left
 ·rfl
 exact two_I (fun x y hx hy _ => rem_I hx hy) ha hb
theorem binV_I (t : ByteArray) {a b : W3} (ha : I a) (hb : I b) : I (binV t a b).1 := by
 unfold binV
 cases eqU t.data.toList [43] || (eqU t.data.toList [45] || (eqU t.data.toList [42] || (eqU t.data.toList [47] || eqU t.data.toList [37])))
 rotate_left
 ·unfold arithV
  cases eqU t.data.toList [43]
  rotate_left
  ·exact two_I (fun x y _ _ _ => wrap_inR _) ha hb
  cases eqU t.data.toList [45]
  rotate_left
  ·exact two_I (fun x y _ _ _ => wrap_inR _) ha hb
  cases eqU t.data.toList [42]
  rotate_left
  ·exact mulV_I ha hb
  cases eqU t.data.toList [47]
  ·exact modV_I ha hb
  ·exact divV_I ha hb
 cases eqU t.data.toList [61]
 rotate_left
 ·show inR (Ref.eqNV a b) = true
  unfold Ref.eqNV
  cases a.1 == 0 || b.1 == 0
  ·cases (A76.compare a.1 a.2.1 a.2.2 b.1 b.2.1 b.2.2).2 && (A76.compare a.1 a.2.1 a.2.2 b.1 b.2.1 b.2.2).1 == 0 <;> rfl
  ·rfl
 cases eqU t.data.toList [33, 61]
 rotate_left
 ·exact told_I _
 cases eqU t.data.toList [97, 110, 100]
 rotate_left
 ·exact told_I _
 cases eqU t.data.toList [111, 114]
 rotate_left
 ·exact told_I _
 exact cmp_I _ _
theorem go_I (s : ByteArray) (kind : Int) : ∀ (l : List W3) (p : Bool × W3), (∀ v ∈ l, I v) → I p.2 → I (A34L1.go s kind p l).2
 | [], p, h, hp => hp
 | v :: l, p, h, hp => by
  have hv := h v (List.mem_cons_self ..)
  have ht : ∀ w ∈ l, I w := fun w hw => h w (List.mem_cons_of_mem _ hw)
  have hpick : ∀ u : W3, I u → I (A34L1.pick s p u).2 := fun u hu => by
   unfold A34L1.pick
   cases A34L1.better s p.1 (A76.compare u.1 u.2.1 u.2.2 p.2.1 p.2.2.1 p.2.2.2).1
   ·exact hp
   ·exact hu
  unfold A34L1.go
  cases v.1 == 0
  rotate_left
  ·exact go_I s kind l p ht hp
  cases kind == 3
  ·exact go_I s kind l _ ht (hpick v hv)
  ·cases (A75.decV v.1 v.2.1).2 != 0
   ·exact go_I s kind l _ ht (hpick _ (decV_I hv))
   ·exact hp
theorem chosen_I (s : ByteArray) (l : List W3) (h : ∀ v ∈ l, I v) : I (chosenP s l).1 := by
 unfold chosenP
 cases (A34.best s l).1 != 0
 ·exact go_I s _ l _ h rfl
 ·rfl
theorem text_I (t : ByteArray) : I (textV t).1 := by
 unfold textV
 cases decide (Int.ofNat t.data.toList.length > 1024) <;> rfl
theorem rnd_I (s : ByteArray) {v : W3} (hv : I v) : I (rndP s v).1 := by
 unfold rndP
 cases v.1 == 2
 ·show inR (A80.rnd s v.2.1) = true
  unfold A80.rnd
  cases (eqU s.data.toList [99, 101, 105, 108] && decide (Int.tmod v.2.1 10000 > 0)) || (eqU s.data.toList [114, 111, 117, 110, 100] && decide (Int.tmod v.2.1 10000 ≥ 5000))
  ·cases (eqU s.data.toList [102, 108, 111, 111, 114] && decide (Int.tmod v.2.1 10000 < 0)) || (eqU s.data.toList [114, 111, 117, 110, 100] && decide (IntKind.wrap .i64 (0 - Int.tmod v.2.1 10000) ≥ 5000)) <;> exact wrap_inR _
  ·exact wrap_inR _
 ·exact hv
theorem headD_I {l : List W3} (h : ∀ v ∈ l, I v) : I (l.headD v0) := by
 cases l with
 | nil => rfl
 | cons v l => exact h v (List.mem_cons_self ..)
theorem intV_I {k n : Int} (hn : inR n = true) : I (A82.intV k n).1 := by
 unfold A82.intV
 split
 ·rfl
 ·split
  ·exact wrap_inR _
  ·split
   ·exact hn
   ·rfl
theorem call_I (s : ByteArray) (l : List W3) (h : ∀ v ∈ l, I v) (hok : l.any A10L1.bad = false) : I (callV s l).1 := by
 have hh := headD_I h
 have hlen : inR (Int.ofNat (Lib.runeCount (l.headD v0).2.2)) = true := by
  have hs : (l.headD v0).2.2.size ≤ 1024 := by
   cases l with
   | nil => show (0 : Nat) ≤ 1024; omega
   | cons v l =>
    rw [List.any_cons, Bool.or_eq_false_iff] at hok
    have ho : A33.okv v.1 v.2.1 v.2.2 = true := by have := hok.1; unfold A10L1.bad at this; simpa using this
    show v.2.2.size ≤ 1024
    have := okv_len ho
    rwa [Array.length_toList] at this
  have hr : Lib.runeCount (l.headD v0).2.2 ≤ (l.headD v0).2.2.size := Lib.runeCountFrom_le _ _ _
  exact in_iff.2 (by show -9223372036854775808 ≤ ((Lib.runeCount (l.headD v0).2.2 : Nat) : Int) ∧ ((Lib.runeCount (l.headD v0).2.2 : Nat) : Int) < _; omega)
 unfold callV
 dsimp only []
 cases is s [97, 98, 115]
 rotate_left
 ·cases decide ((l.headD v0).2.1 < 0)
  ·exact hh
  ·exact negV_I _ _
 cases is s [99, 101, 105, 108]
 rotate_left
 ·exact rnd_I s hh
 cases is s [102, 108, 111, 111, 114]
 rotate_left
 ·exact rnd_I s hh
 cases is s [114, 111, 117, 110, 100]
 rotate_left
 ·exact rnd_I s hh
 cases is s [115, 105, 103, 110]
 rotate_left
 ·show inR (signI (l.headD v0).2.1) = true
  unfold signI
  cases decide ((l.headD v0).2.1 < 0) <;> cases decide ((l.headD v0).2.1 > 0) <;> rfl
 cases is s [116, 111, 105, 110, 116]
 rotate_left
 ·exact intV_I hh
 cases is s [116, 111, 100, 101, 99]
 rotate_left
 ·exact decV_I hh
 cases is s [103, 114, 101, 97, 116, 101, 115, 116]
 rotate_left
 ·exact chosen_I s l h
 cases is s [108, 101, 97, 115, 116]
 rotate_left
 ·exact chosen_I s l h
 cases is s [108, 101, 110, 103, 116, 104]
 rotate_left
 ·exact hlen
 cases is s [108, 111, 119, 101, 114]
 rotate_left
 ·exact text_I _
 cases is s [117, 112, 112, 101, 114]
 rotate_left
 ·exact text_I _
 cases is s [116, 114, 105, 109]
 rotate_left
 ·exact text_I _
 cases is s [115, 117, 98, 115, 116, 114]
 rotate_left
 ·exact text_I _
 cases is s [116, 111, 116, 101, 120, 116]
 ·exact text_I _
 ·cases (l.headD v0).1 == 4
  ·exact text_I _
  ·exact hh
theorem callv_I (s : ByteArray) (l : List W3) (h : ∀ v ∈ l, I v) : I (CallV s l).1 := by
 unfold CallV
 cases (kindP s (l.map (·.1))).2 != 0
 rotate_left
 ·rfl
 cases hb : l.any A10L1.bad
 rotate_left
 ·rfl
 cases is s [99, 111, 97, 108, 101, 115, 99, 101]
 rotate_left
 ·exact chosen_I s l h
 cases is s [110, 117, 108, 108, 105, 102]
 rotate_left
 ·cases A35.tru (bif (l.headD v0).1 == 0 || (l.getD 1 v0).1 == 0 then 0 else 1) (bif (A76.compare (l.headD v0).1 (l.headD v0).2.1 (l.headD v0).2.2 (l.getD 1 v0).1 (l.getD 1 v0).2.1 (l.getD 1 v0).2.2).2 && (A76.compare (l.headD v0).1 (l.headD v0).2.1 (l.headD v0).2.2 (l.getD 1 v0).1 (l.getD 1 v0).2.1 (l.getD 1 v0).2.2).1 == 0 then 1 else 0)
  ·exact headD_I h
  ·rfl
 cases (l.map (·.1)).any (· == 0)
 ·exact call_I s l h hb
 ·rfl
end
end Go.Proofs.YtaiokpmmjbiajaaGreatDoorDx.Ari
namespace Go.Proofs.YtaiokpmmjbiajaaGreatDoorDx
section
open Go Go.Proofs
theorem nth_app {a b : List Value} {i : Nat} (h : i < a.length) : nth (a ++ b) i = nth a i := by rw [nth_eq', nth_eq', List.getElem?_append_left h]
theorem valsA_at (l : List W3) (r : List Value) {j : Nat} (h : j < l.length) (d : Nat) (hd : d < 3) : nth (vals l ++ r) (j * 3 + d) = (cells3 (l.getD j v0))[d]? := by
 rw [nth_app (by rw [vals_len]; omega), vals_at d hd l h, List.getD_eq_getElem?_getD, List.getElem?_eq_getElem h]; rfl
theorem isL_app (l : List W3) (r : List Value) {j : Nat} (h : j < l.length) : isL (vals l ++ r) (j * 3) [.i .i64, .i .i64, .s] = true := by
 have h0 := valsA_at l r h 0 (by omega)
 have h1 := valsA_at l r h 1 (by omega)
 have h2 := valsA_at l r h 2 (by omega)
 simp only [isL, isV, Nat.add_assoc, Nat.add_zero] at h0 ⊢
 rw [h0, h1, h2]
 rfl
theorem rdK_app (l : List W3) (r : List Value) {j : Nat} (h : j < l.length) : rdI (vals l ++ r) (j * 3) = (l.getD j v0).1 := by
 have h0 := valsA_at l r h 0 (by omega)
 rw [Nat.add_zero] at h0
 unfold rdI; rw [h0]; rfl
theorem rdN_app (l : List W3) (r : List Value) {j : Nat} (h : j < l.length) : rdI (vals l ++ r) (j * 3 + 1) = (l.getD j v0).2.1 := by
 unfold rdI; rw [valsA_at l r h 1 (by omega)]; rfl
theorem rdS_app (l : List W3) (r : List Value) {j : Nat} (h : j < l.length) : rdS (vals l ++ r) (j * 3 + 1 + 1) = (l.getD j v0).2.2 := by
 unfold rdS; rw [Nat.add_assoc, valsA_at l r h 2 (by omega)]; rfl
theorem vals_append (a b : List W3) : vals (a ++ b) = vals a ++ vals b := by unfold vals; rw [List.flatMap_append]
theorem vals_take (l : List W3) (p : Nat) : (vals l).take (p * 3) = vals (l.take p) := by
 induction l generalizing p with
 | nil => simp [vals]
 | cons v l ih =>
  cases p with
  | zero => simp [vals]
  | succ p =>
   show (cells3 v ++ vals l).take _ = cells3 v ++ vals (l.take p)
   rw [List.take_append, List.take_of_length_le (by show 3 ≤ (p + 1) * 3; omega), ← ih p]
   congr 2
   show (p + 1) * 3 - 3 = p * 3
   omega
theorem vals_drop (l : List W3) (p : Nat) : (vals l).drop (p * 3) = vals (l.drop p) := by
 induction l generalizing p with
 | nil => simp [vals]
 | cons v l ih =>
  cases p with
  | zero => simp
  | succ p =>
   show (cells3 v ++ vals l).drop _ = vals (l.drop p)
   rw [List.drop_append, List.drop_of_length_le (by show 3 ≤ (p + 1) * 3; omega), ← ih p, List.nil_append]
   congr 1
   show (p + 1) * 3 - 3 = p * 3
   omega
theorem row_take (l : List W3) (r : List Value) {p : Nat} (h : p ≤ l.length) : ((vals l ++ r).drop 0).take (p * 3) = vals (l.take p) := by
 rw [List.drop_zero, List.take_append_of_le_length (by rw [vals_len]; exact Nat.mul_le_mul_right _ h), vals_take]
theorem row_drop (l : List W3) (r : List Value) {p : Nat} (h : p ≤ l.length) : ((vals l ++ r).drop (p * 3)).take ((l.length - p) * 3) = vals (l.drop p) := by
 rw [List.drop_append_of_le_length (by rw [vals_len]; exact Nat.mul_le_mul_right _ h), vals_drop, List.take_append_of_le_length (by rw [vals_len, List.length_drop]; exact Nat.le_refl _), List.take_of_length_le (by rw [vals_len, List.length_drop]; exact Nat.le_refl _)]
theorem vals_snoc (l : List W3) (v : W3) : vals l ++ [.int .i64 v.1, .int .i64 v.2.1, .string v.2.2] = vals (l ++ [v]) := by rw [vals_append]; rfl
namespace AMac
def given (v : W3) (st : List W3) (i : Nat) : (List W3 × Nat) ⊕ Int := bif Ref.chk v.1 v.2.1 v.2.2 != 0 then .inr 22 else .inl (st ++ [v], i + 1)
def put (p : W3 × Int) (st : List W3) (i : Nat) : (List W3 × Nat) ⊕ Int := bif p.2 != 0 then .inr p.2 else .inl (st ++ [p.1], i + 1)
def step (row aggs : List W3) (o : O6) (i : Nat) (st : List W3) : (List W3 × Nat) ⊕ Int :=
 bif o.1 == 1 then given o.2.2.2 st i else
 bif o.1 == 2 then given (row.getD o.2.1.toNat v0) st i else
 bif o.1 == 9 then given (aggs.getD o.2.1.toNat v0) st i else
 bif o.1 == 3 then (bif eqU o.2.2.1.data.toList [45] then put (A79.negV (st.getD (st.length - 1) v0).1 (st.getD (st.length - 1) v0).2.1) (st.take (st.length - 1)) i else .inl (st.take (st.length - 1) ++ [Ref.notV (st.getD (st.length - 1) v0)], i + 1)) else
 bif o.1 == 4 then put (Ari.binV o.2.2.1 (st.getD (st.length - 2) v0) (st.getD (st.length - 1) v0)) (st.take (st.length - 2)) i else
 bif o.1 == 5 then .inl (st.take (st.length - 1) ++ [Ref.truthV (((st.getD (st.length - 1) v0).1 == 0) == (o.2.1 == 0))], i + 1) else
 bif o.1 == 6 then put (Fit.CallV o.2.2.1 (st.drop (st.length - o.2.1.toNat))) (st.take (st.length - o.2.1.toNat)) i else
 bif o.1 == 10 then put (A75.decV (st.getD (st.length - 1) v0).1 (st.getD (st.length - 1) v0).2.1) (st.take (st.length - 1)) i else
 bif o.1 == 8 then (bif A35.tru (st.getD (st.length - 1) v0).1 (st.getD (st.length - 1) v0).2.1 then .inl (st.take (st.length - 1), i + 1) else .inl (st.take (st.length - 1), o.2.1.toNat)) else
 .inl (st, o.2.1.toNat)
structure Fine (row aggs : List W3) (o : O6) (i : Nat) (N : Int) (st : List W3) : Prop where
 may : Ref.mayV o.1 o.2.1 o.2.2.1 i N row.length aggs.length = true
 need : (Ref.needsV o.1 o.2.1).1 ≤ st.length
 small : st.length ≤ 1024
 ist : ∀ v ∈ st, Ari.I v
 irow : ∀ v ∈ row, Ari.I v
 iagg : ∀ v ∈ aggs, Ari.I v
 iop : Ari.I o.2.2.2
theorem getD_I {l : List W3} (h : ∀ v ∈ l, Ari.I v) (j : Nat) : Ari.I (l.getD j v0) := by
 rw [List.getD_eq_getElem?_getD]
 cases e : l[j]? with
 | none => rfl
 | some v => exact h v (List.mem_of_getElem? e)
theorem snoc_I {l : List W3} {v : W3} (h : ∀ w ∈ l, Ari.I w) (hv : Ari.I v) : ∀ w ∈ l ++ [v], Ari.I w := fun w hw => by
 rcases List.mem_append.1 hw with hw | hw
 ·exact h w hw
 ·rw [List.mem_singleton.1 hw]; exact hv
theorem step_I {row aggs : List W3} {o : O6} {i : Nat} {N : Int} {st st' : List W3} {i' : Nat} (h : Fine row aggs o i N st) (e : step row aggs o i st = .inl (st', i')) : ∀ v ∈ st', Ari.I v := by
 have ht : ∀ p, ∀ v ∈ st.take p, Ari.I v := fun p v hv => h.ist v (List.mem_of_mem_take hv)
 have hd : ∀ p, ∀ v ∈ st.drop p, Ari.I v := fun p v hv => h.ist v (List.mem_of_mem_drop hv)
 have hg := getD_I h.ist
 have giv : ∀ v, Ari.I v → given v st i = .inl (st', i') → ∀ w ∈ st', Ari.I w := fun v hv e => by
  unfold given at e
  cases q : Ref.chk v.1 v.2.1 v.2.2 != 0 <;> rw [q] at e
  ·cases e; exact snoc_I h.ist hv
  ·cases e
 have pt : ∀ (p : W3 × Int) (l : List W3), Ari.I p.1 → (∀ w ∈ l, Ari.I w) → put p l i = .inl (st', i') → ∀ w ∈ st', Ari.I w := fun p l hp hl e => by
  unfold put at e
  cases q : p.2 != 0 <;> rw [q] at e
  ·cases e; exact snoc_I hl hp
  ·cases e
 unfold step at e
 cases q1 : o.1 == 1 <;> rw [q1] at e
 rotate_left
 ·exact giv _ h.iop e
 cases q2 : o.1 == 2 <;> rw [q2] at e
 rotate_left
 ·exact giv _ (getD_I h.irow _) e
 cases q9 : o.1 == 9 <;> rw [q9] at e
 rotate_left
 ·exact giv _ (getD_I h.iagg _) e
 cases q3 : o.1 == 3 <;> rw [q3] at e
 rotate_left
 ·cases qt : eqU o.2.2.1.data.toList [45] <;> rw [qt] at e
  ·cases e; exact snoc_I (ht _) (Ari.told_I _)
  ·exact pt _ _ (Ari.negV_I _ _) (ht _) e
 cases q4 : o.1 == 4 <;> rw [q4] at e
 rotate_left
 ·exact pt _ _ (Ari.binV_I _ (hg _) (hg _)) (ht _) e
 cases q5 : o.1 == 5 <;> rw [q5] at e
 rotate_left
 ·cases e; exact snoc_I (ht _) (Ari.truth_I _)
 cases q6 : o.1 == 6 <;> rw [q6] at e
 rotate_left
 ·exact pt _ _ (Ari.callv_I _ _ (hd _)) (ht _) e
 cases q10 : o.1 == 10 <;> rw [q10] at e
 rotate_left
 ·exact pt _ _ (Ari.decV_I (hg _)) (ht _) e
 cases q8 : o.1 == 8 <;> rw [q8] at e
 ·cases e; exact h.ist
 ·cases qt : A35.tru (st.getD (st.length - 1) v0).1 (st.getD (st.length - 1) v0).2.1 <;> rw [qt] at e <;> cases e <;> exact ht _
end AMac
end
end Go.Proofs.YtaiokpmmjbiajaaGreatDoorDx
section
namespace Go.Proofs.YtaiokpmmjbiajaaGreatDoorDx.AHei
open Go
theorem getD_set {t : List Int} {a b : Nat} {g : Int} (hb : b < t.length) : (t.set a g).getD b 0 = if a = b then g else t.getD b 0 := by
 split
 ·rename_i e
  subst e
  rw [List.getD_eq_getElem?_getD, List.getElem?_set_self hb]; rfl
 ·rename_i e
  exact getD_set_ne e
theorem put_mono {t t' : List Int} {j : Nat} {g : Int} (h0 : 0 ≤ g) (hj : j < t.length) (e : put t j g = some t') : t'.length = t.length ∧ t'.getD j 0 = g ∧ ∀ x, x < t.length → 0 ≤ t.getD x 0 → t'.getD x 0 = t.getD x 0 := by
 unfold put at e
 cases h2 : decide (t.getD j 0 < 0) <;> rw [h2] at e
 ·cases h3 : t.getD j 0 == g <;> rw [h3] at e
  ·cases e
  ·cases e; exact ⟨rfl, beq_iff_eq.1 h3, fun x _ _ => rfl⟩
 ·cases e
  have h2 := of_decide_eq_true h2
  refine ⟨by simp, by rw [getD_set hj, if_pos rfl], fun x hx hx0 => ?_⟩
  rw [getD_set hx]
  split
  ·rename_i e; subst e; omega
  ·rfl
structure Ok (N lf la : Int) (t : List Int) (i : Nat) (o : O6) : Prop where
 may : Ref.mayV o.1 o.2.1 o.2.2.1 i N lf la = true
 h0 : 0 ≤ t.getD i 0
 need : (Ref.needsV o.1 o.2.1).1 ≤ t.getD i 0
 h1 : t.getD i 0 ≤ 1024
 next : o.1 ≠ 7 → t.getD (i + 1) 0 = t.getD i 0 + (Ref.needsV o.1 o.2.1).2
 jump : o.1 = 7 ∨ o.1 = 8 → t.getD o.2.1.toNat 0 = t.getD i 0 + (Ref.needsV o.1 o.2.1).2
 pos : 0 ≤ t.getD i 0 + (Ref.needsV o.1 o.2.1).2
theorem step_ok {N lf la : Int} {n : Nat} (hN : N = n) {s s' : List Int × Int} {i : Nat} {o : O6} (hi : i < n) (h : Good n s) (e : step N lf la s i o = some s') : Ok N lf la s'.1 i o ∧ ∀ x, x < n + 1 → 0 ≤ s.1.getD x 0 → s'.1.getD x 0 = s.1.getD x 0 := by
 unfold step at e
 cases hc : decide (s.1.getD i 0 < 0) || (!Ref.mayV o.1 o.2.1 o.2.2.1 i N lf la || (decide (s.1.getD i 0 < (Ref.needsV o.1 o.2.1).1) || decide (s.1.getD i 0 + (Ref.needsV o.1 o.2.1).2 > 1024))) <;> rw [hc] at e
 rotate_left
 ·cases e
 simp only [Bool.or_eq_false_iff, Bool.not_eq_false', decide_eq_false_iff_not] at hc
 obtain ⟨c1, c2, c3, c4⟩ := hc
 obtain ⟨n1, n2, n3, n4⟩ := needs_ok (k := o.1) (n := o.2.1) (may6 c2)
 have hg0 : 0 ≤ s.1.getD i 0 + (Ref.needsV o.1 o.2.1).2 := by omega
 have hh := (h.le _ (getD_mem (l := s.1) (j := i) (by have := h.len; omega))).2
 have hlen := h.len
 simp only [cond_false] at e
 obtain ⟨t2, e2, rfl⟩ := Option.map_eq_some_iff.1 e
 obtain ⟨t1, e1, e3⟩ := opt_bind e2
 generalize hg : s.1.getD i 0 + (Ref.needsV o.1 o.2.1).2 = g at *
 have p1 : t1.length = n + 1 ∧ ((o.1 = 7 ∨ o.1 = 8) → t1.getD o.2.1.toNat 0 = g ∧ o.2.1.toNat < n + 1) ∧ ∀ x, x < n + 1 → 0 ≤ s.1.getD x 0 → t1.getD x 0 = s.1.getD x 0 := by
  cases q : o.1 == 7 || o.1 == 8 <;> rw [q] at e1
  ·cases e1
   refine ⟨hlen, fun hk => ?_, fun x _ _ => rfl⟩
   rcases hk with hk | hk <;> rw [hk] at q <;> cases q
  ·have hk : o.1 = 7 ∨ o.1 = 8 := by simpa using q
   have hb := may78 c2 hk
   have hjn : o.2.1.toNat < n + 1 := by omega
   obtain ⟨a1, a2, a3⟩ := put_mono hg0 (by omega) e1
   exact ⟨by omega, fun _ => ⟨a2, hjn⟩, fun x hx h0 => a3 x (by omega) h0⟩
 have p2 : t2.length = n + 1 ∧ (o.1 ≠ 7 → t2.getD (i + 1) 0 = g) ∧ ∀ x, x < n + 1 → 0 ≤ t1.getD x 0 → t2.getD x 0 = t1.getD x 0 := by
  cases q : o.1 == 7 <;> rw [q] at e3
  ·obtain ⟨a1, a2, a3⟩ := put_mono hg0 (by omega) e3
   exact ⟨by omega, fun _ => a2, fun x hx h0 => a3 x (by omega) h0⟩
  ·cases e3
   exact ⟨p1.1, fun hk => absurd (beq_iff_eq.1 q) hk, fun x _ _ => rfl⟩
 have mono : ∀ x, x < n + 1 → 0 ≤ s.1.getD x 0 → t2.getD x 0 = s.1.getD x 0 := fun x hx h0 => by
  have := p1.2.2 x hx h0
  rw [p2.2.2 x hx (by omega), this]
 have hii := mono i (by omega) (by omega)
 refine ⟨⟨c2, ?_, ?_, ?_, fun hk => ?_, fun hk => ?_, ?_⟩, mono⟩
 ·show 0 ≤ t2.getD i 0; omega
 ·show _ ≤ t2.getD i 0; omega
 ·show t2.getD i 0 ≤ _; omega
 ·show t2.getD (i + 1) 0 = t2.getD i 0 + _
  rw [p2.2.1 hk, hii]; omega
 ·show t2.getD o.2.1.toNat 0 = t2.getD i 0 + _
  obtain ⟨b1, b2⟩ := p1.2.1 hk
  rw [p2.2.2 _ b2 (by omega), b1, hii]; omega
 ·show 0 ≤ t2.getD i 0 + _; omega
theorem Ok.mono {N lf la : Int} {n : Nat} (hN : N = n) {t u : List Int} {i : Nat} {o : O6} (hi : i < n) (h : Ok N lf la t i o) (hm : ∀ x, x < n + 1 → 0 ≤ t.getD x 0 → u.getD x 0 = t.getD x 0) : Ok N lf la u i o := by
 have h0 := h.h0; have h1 := h.h1; have hn := h.need; have hp := h.pos
 have e := hm i (by omega) h0
 refine ⟨h.may, by omega, by omega, by omega, fun hk => ?_, fun hk => ?_, by omega⟩
 ·have g := h.next hk
  rw [hm (i + 1) (by omega) (by omega), g, e]
 ·have g := h.jump hk
  have hb := may78 h.may hk
  rw [hm _ (by omega) (by omega), g, e]
theorem run_ok {N lf la : Int} {n : Nat} (hN : N = n) : ∀ (l : List O6) (i : Nat) (s t : List Int × Int), i + l.length = n → Good n s → run N lf la i l s = some t → (∀ j (hj : j < l.length), Ok N lf la t.1 (i + j) l[j]) ∧ ∀ x, x < n + 1 → 0 ≤ s.1.getD x 0 → t.1.getD x 0 = s.1.getD x 0
 | [], i, s, t, hl, hg, e => by cases e; exact ⟨fun j hj => absurd hj (Nat.not_lt_zero _), fun x _ _ => rfl⟩
 | o :: l, i, s, t, hl, hg, e => by
  rw [List.length_cons] at hl
  unfold run at e
  obtain ⟨u, e1, e2⟩ := opt_bind e
  obtain ⟨a1, a2⟩ := step_ok hN (show i < n by omega) hg e1
  obtain ⟨b1, b2⟩ := run_ok hN l (i + 1) u t (by omega) (step_good hg e1) e2
  refine ⟨fun j hj => ?_, fun x hx h0 => ?_⟩
  ·cases j with
   | zero => exact Ok.mono hN (by omega) a1 b2
   | succ j =>
    have := b1 j (by simpa using hj)
    rw [show i + (j + 1) = i + 1 + j by omega]
    exact this
  ·have := a2 x hx h0
   rw [b2 x hx (by omega), this]
theorem heights_ok {lf la : Int} {l : List O6} (h : (heights lf la l).2 = true) : l.length ≤ 4096 ∧ ∃ T : List Int, T.getD 0 0 = 0 ∧ T.getD l.length 0 = 1 ∧ ∀ j (hj : j < l.length), Ok l.length lf la T j l[j] := by
 unfold heights at h
 cases h0 : (l.length : Int) == 0 <;> rw [h0] at h
 rotate_left
 ·cases h
 cases h1 : decide ((l.length : Int) > 4096) <;> rw [h1] at h
 rotate_left
 ·cases h
 cases h2 : fine l.length lf la l (first l.length, 0) <;> rw [h2] at h
 ·cases h
 have h1 := of_decide_eq_false h1
 have h : ((tall l.length lf la l (first l.length, 0)).getD l.length 0 == 1) = true := h
 refine ⟨by omega, tall l.length lf la l (first l.length, 0), ?_, beq_iff_eq.1 h, ?_⟩
 ·unfold fine at h2
  unfold tall
  cases e : run l.length lf la 0 l (first l.length, 0) with
  | none => rw [e] at h2; cases h2
  | some t =>
   have := (run_ok rfl l 0 _ t (by omega) (first_good _) e).2 0 (by omega) (Int.le_refl 0)
   exact this
 ·unfold fine at h2
  unfold tall
  cases e : run l.length lf la 0 l (first l.length, 0) with
  | none => rw [e] at h2; cases h2
  | some t =>
   have := (run_ok rfl l 0 _ t (by omega) (first_good _) e).1
   intro j hj
   have g := this j hj
   rw [Nat.zero_add] at g
   exact g
end Go.Proofs.YtaiokpmmjbiajaaGreatDoorDx.AHei
namespace Go.Proofs.YtaiokpmmjbiajaaGreatDoorDx.AMac
open Go
theorem step_len {row aggs : List W3} {o : O6} {i : Nat} {N : Int} {st st' : List W3} {i' : Nat} (h : Fine row aggs o i N st) (e : step row aggs o i st = .inl (st', i')) :
  (st'.length : Int) = st.length + (Ref.needsV o.1 o.2.1).2 ∧ ((o.1 ≠ 7 ∧ i' = i + 1) ∨ ((o.1 = 7 ∨ o.1 = 8) ∧ i' = o.2.1.toNat)) := by
 have hneed := h.need
 have hmay := h.may
 have giv : ∀ v, given v st i = .inl (st', i') → st'.length = st.length + 1 ∧ i' = i + 1 := fun v e => by
  unfold given at e
  cases q : Ref.chk v.1 v.2.1 v.2.2 != 0 <;> rw [q] at e
  ·cases e; exact ⟨by simp, rfl⟩
  ·cases e
 have pt : ∀ (p : W3 × Int) (m : Nat), m ≤ st.length → put p (st.take m) i = .inl (st', i') → st'.length = m + 1 ∧ i' = i + 1 := fun p m hm e => by
  unfold put at e
  cases q : p.2 != 0 <;> rw [q] at e
  ·cases e; exact ⟨by rw [List.length_append, List.length_take]; simp; omega, rfl⟩
  ·cases e
 have lenT : ∀ p : Nat, p ≤ st.length → (st.take p).length = p := fun p hp => by rw [List.length_take]; omega
 unfold step at e
 cases q1 : o.1 == 1 <;> rw [q1] at e
 rotate_left
 ·obtain ⟨a, b⟩ := giv _ e
  rw [beq_iff_eq.1 q1]
  exact ⟨by show (st'.length : Int) = st.length + 1; omega, .inl ⟨by decide, b⟩⟩
 cases q2 : o.1 == 2 <;> rw [q2] at e
 rotate_left
 ·obtain ⟨a, b⟩ := giv _ e
  rw [beq_iff_eq.1 q2]
  exact ⟨by show (st'.length : Int) = st.length + 1; omega, .inl ⟨by decide, b⟩⟩
 cases q9 : o.1 == 9 <;> rw [q9] at e
 rotate_left
 ·obtain ⟨a, b⟩ := giv _ e
  rw [beq_iff_eq.1 q9]
  exact ⟨by show (st'.length : Int) = st.length + 1; omega, .inl ⟨by decide, b⟩⟩
 cases q3 : o.1 == 3 <;> rw [q3] at e
 rotate_left
 ·rw [beq_iff_eq.1 q3] at hneed ⊢
  have hn : (1 : Int) ≤ st.length := hneed
  have : st'.length = st.length - 1 + 1 ∧ i' = i + 1 := by
   cases qt : eqU o.2.2.1.data.toList [45] <;> rw [qt] at e
   ·cases e; exact ⟨by rw [List.length_append, lenT _ (by omega)]; rfl, rfl⟩
   ·exact pt _ _ (by omega) e
  exact ⟨by show (st'.length : Int) = st.length + 0; omega, .inl ⟨by decide, this.2⟩⟩
 cases q4 : o.1 == 4 <;> rw [q4] at e
 rotate_left
 ·rw [beq_iff_eq.1 q4] at hneed ⊢
  have hn : (2 : Int) ≤ st.length := hneed
  obtain ⟨a, b⟩ := pt _ _ (by omega) e
  exact ⟨by show (st'.length : Int) = st.length + -1; omega, .inl ⟨by decide, b⟩⟩
 cases q5 : o.1 == 5 <;> rw [q5] at e
 rotate_left
 ·rw [beq_iff_eq.1 q5] at hneed ⊢
  have hn : (1 : Int) ≤ st.length := hneed
  cases e
  exact ⟨by rw [List.length_append, lenT _ (by omega)]; show ((st.length - 1 + 1 : Nat) : Int) = st.length + 0; omega, .inl ⟨by decide, rfl⟩⟩
 cases q6 : o.1 == 6 <;> rw [q6] at e
 rotate_left
 ·obtain ⟨m1, m2⟩ := AHei.may6 hmay (beq_iff_eq.1 q6)
  rw [beq_iff_eq.1 q6] at hneed ⊢
  have hn : o.2.1 ≤ st.length := hneed
  obtain ⟨a, b⟩ := pt _ _ (by omega) e
  refine ⟨?_, .inl ⟨by decide, b⟩⟩
  show (st'.length : Int) = st.length + IntKind.wrap .i64 (1 - o.2.1)
  rw [wrap_in (by omega) (by omega)]; omega
 cases q10 : o.1 == 10 <;> rw [q10] at e
 rotate_left
 ·rw [beq_iff_eq.1 q10] at hneed ⊢
  have hn : (1 : Int) ≤ st.length := hneed
  obtain ⟨a, b⟩ := pt _ _ (by omega) e
  exact ⟨by show (st'.length : Int) = st.length + 0; omega, .inl ⟨by decide, b⟩⟩
 cases q8 : o.1 == 8 <;> rw [q8] at e
 ·cases e
  have hk : o.1 = 7 := by
   by_cases h7 : o.1 = 7
   ·exact h7
   ·have e7 : (o.1 == 7 || o.1 == 8) = false := by rw [q8, beq_eq_false_iff_ne.2 h7]; rfl
    unfold Ref.mayV at hmay
    rw [q1, q2, q9, q3, q4, q5, q6, q10, e7] at hmay
    cases hmay
  rw [hk]
  exact ⟨by show (st.length : Int) = st.length + 0; omega, .inr ⟨.inl rfl, rfl⟩⟩
 ·rw [beq_iff_eq.1 q8] at hneed ⊢
  have hn : (1 : Int) ≤ st.length := hneed
  cases qt : A35.tru (st.getD (st.length - 1) v0).1 (st.getD (st.length - 1) v0).2.1 <;> rw [qt] at e <;> cases e
  ·exact ⟨by rw [lenT _ (by omega)]; show ((st.length - 1 : Nat) : Int) = st.length + -1; omega, .inr ⟨.inr rfl, rfl⟩⟩
  ·exact ⟨by rw [lenT _ (by omega)]; show ((st.length - 1 : Nat) : Int) = st.length + -1; omega, .inl ⟨by decide, rfl⟩⟩
def run (row aggs : List W3) (ops : List O6) : Nat → Nat → List W3 → List W3 ⊕ Int
 | 0, _, st => .inl st
 | f + 1, i, st => match ops[i]? with
  | none => .inl st
  | some o => match step row aggs o i st with
   | .inl p => run row aggs ops f p.2 p.1
   | .inr e => .inr e
def runV (row aggs : List W3) (ops : List O6) : W3 × Int :=
 bif AHei.checkV row.length aggs.length ops != 0 then (v0, 120) else match run row aggs ops ops.length 0 [] with
  | .inl st => (st.getD 0 v0, 0)
  | .inr e => (v0, e)
def junk (k : Int) (st : List W3) (j : List Value) : List Value :=
 bif k == 1 then [] else bif k == 2 then [] else bif k == 9 then [] else bif k == 3 then [] else bif k == 4 then [] else bif k == 5 then [] else bif k == 6 then [] else bif k == 10 then [] else
 bif k == 8 then cells3 (st.getD (st.length - 1) v0) ++ j else j
theorem junk_scal {k : Int} {st : List W3} {j : List Value} (h : j.all scalV = true) : (junk k st j).all scalV = true := by
 unfold junk
 cases k == 1
 rotate_left
 ·rfl
 cases k == 2
 rotate_left
 ·rfl
 cases k == 9
 rotate_left
 ·rfl
 cases k == 3
 rotate_left
 ·rfl
 cases k == 4
 rotate_left
 ·rfl
 cases k == 5
 rotate_left
 ·rfl
 cases k == 6
 rotate_left
 ·rfl
 cases k == 10
 rotate_left
 ·rfl
 cases k == 8
 ·exact h
 ·show (cells3 _ ++ j).all scalV = true
  rw [List.all_append, h]; rfl
def runJ (row aggs : List W3) (ops : List O6) : Nat → Nat → List W3 → List Value → (List W3 × List Value) ⊕ Int
 | 0, _, st, j => .inl (st, j)
 | f + 1, i, st, j => match ops[i]? with
  | none => .inl (st, j)
  | some o => match step row aggs o i st with
   | .inl p => runJ row aggs ops f p.2 p.1 (junk o.1 st j)
   | .inr e => .inr e
theorem runJ_run (row aggs : List W3) (ops : List O6) : ∀ (f i : Nat) (st : List W3) (j : List Value), (match runJ row aggs ops f i st j with | .inl p => (.inl p.1 : List W3 ⊕ Int) | .inr e => .inr e) = run row aggs ops f i st
 | 0, i, st, j => rfl
 | f + 1, i, st, j => by
  unfold runJ run
  cases ops[i]? with
  | none => rfl
  | some o =>
   dsimp only []
   cases step row aggs o i st with
   | inl p => exact runJ_run row aggs ops f p.2 p.1 _
   | inr e => rfl
structure At (row aggs : List W3) (ops : List O6) (T : List Int) (i : Nat) (st : List W3) : Prop where
 le : i ≤ ops.length
 len : (st.length : Int) = T.getD i 0
 ist : ∀ v ∈ st, Ari.I v
theorem At.fine {row aggs : List W3} {ops : List O6} {T : List Int} {i : Nat} {st : List W3} (h : At row aggs ops T i st) (hi : i < ops.length) (hT : ∀ j (hj : j < ops.length), AHei.Ok ops.length row.length aggs.length T j ops[j]) (hr : ∀ v ∈ row, Ari.I v) (ha : ∀ v ∈ aggs, Ari.I v) (ho : ∀ o ∈ ops, Ari.I o.2.2.2) : Fine row aggs ops[i] i ops.length st := by
 have hk := hT i hi
 have := h.len; have := hk.need; have := hk.h1
 exact ⟨hk.may, by omega, by omega, h.ist, hr, ha, ho _ (List.getElem_mem hi)⟩
theorem At.next {row aggs : List W3} {ops : List O6} {T : List Int} {i : Nat} {st : List W3} (h : At row aggs ops T i st) (hi : i < ops.length) (hT : ∀ j (hj : j < ops.length), AHei.Ok ops.length row.length aggs.length T j ops[j]) (hf : Fine row aggs ops[i] i ops.length st) {st' : List W3} {i' : Nat} (e : step row aggs ops[i] i st = .inl (st', i')) : i < i' ∧ At row aggs ops T i' st' := by
 have hk := hT i hi
 obtain ⟨a, b⟩ := step_len hf e
 have hl := h.len
 rcases b with ⟨b1, rfl⟩ | ⟨b1, rfl⟩
 ·exact ⟨by omega, ⟨hi, by rw [hk.next b1]; omega, step_I hf e⟩⟩
 ·have hb := AHei.may78 hk.may b1
  exact ⟨by omega, ⟨by omega, by rw [hk.jump b1]; omega, step_I hf e⟩⟩
end Go.Proofs.YtaiokpmmjbiajaaGreatDoorDx.AMac
namespace Go.Proofs.YtaiokpmmjbiajaaGreatDoorDx.AMac
open Go
def gd (n nr na : Nat) (cs rs as_ : List Value) : Bool :=
 rowP n (Int.ofNat n) cs && (rowW nr (Int.ofNat nr) rs && (rowW na (Int.ofNat na) as_ && ((opsOf cs).all (fun o => inR o.2.2.2.2.1) && ((valsOf rs).all (fun v => inR v.2.1) && ((valsOf as_).all (fun v => inR v.2.1) && AHei.checkV nr na (opsOf cs) == 0)))))
def isErr (cs rs as_ : List Value) : Bool := match runJ (valsOf rs) (valsOf as_) (opsOf cs) (opsOf cs).length 0 [] [] with
 | .inl _ => false
 | .inr _ => true
def err (cs rs as_ : List Value) : Int := match runJ (valsOf rs) (valsOf as_) (opsOf cs) (opsOf cs).length 0 [] [] with
 | .inl _ => 0
 | .inr e => e
def exRow (cs rs as_ : List Value) : List Value := match runJ (valsOf rs) (valsOf as_) (opsOf cs) (opsOf cs).length 0 [] [] with
 | .inl p => vals p.1 ++ p.2
 | .inr _ => []
theorem kind_nil (s : ByteArray) : Fit.kindP s [] = (0, 100) := by
 unfold Fit.kindP Fit.rP
 simp only [show ([] : List Int).any A14L0.bad = false from rfl, show A14.num [] = false from rfl, show A14.txt [] = false from rfl, show A14.sub [] = false from rfl, show ((A53.res []).2 && decide (Int.ofNat ([] : List Int).length ≥ 1)) = false from rfl, show (Int.ofNat ([] : List Int).length == 2 && (A53.res []).2) = false from rfl, show ([] : List Int).foldl (fun b k => b && A14L1.ok1 k) (decide (Int.ofNat ([] : List Int).length ≥ 1)) = false from rfl, show (Int.ofNat ([] : List Int).length == 1) = false from rfl, cond_false, Bool.cond_self]
theorem call_nil (s : ByteArray) : Fit.CallV s [] = (v0, 100) := by
 unfold Fit.CallV
 rw [List.map_nil, kind_nil]; rfl
end Go.Proofs.YtaiokpmmjbiajaaGreatDoorDx.AMac
namespace Go.Proofs.YtaiokpmmjbiajaaGreatDoorDx.AMac
open Go
def gd0 (n nr na : Nat) (cs rs as_ : List Value) : Bool :=
 rowP n (Int.ofNat n) cs && (rowW nr (Int.ofNat nr) rs && (rowW na (Int.ofNat na) as_ && ((opsOf cs).all (fun o => inR o.2.2.2.2.1) && ((valsOf rs).all (fun v => inR v.2.1) && (valsOf as_).all (fun v => inR v.2.1)))))
end Go.Proofs.YtaiokpmmjbiajaaGreatDoorDx.AMac
namespace Go.Proofs.YtaiokpmmjbiajaaGreatDoorDx.AMac
open Go
def trueV (row aggs : List W3) (ops : List O6) : Bool × Int :=
 bif (ops.length : Int) == 0 then (true, 0) else ((runV row aggs ops).2 == 0 && A35.tru (runV row aggs ops).1.1 (runV row aggs ops).1.2.1, (runV row aggs ops).2)
end Go.Proofs.YtaiokpmmjbiajaaGreatDoorDx.AMac
end
namespace Go.Proofs.YtaiokpmmjbiajaaGreatDoorDx.AMac
section
open Go Go.Proofs.YtaiokpmmjbiajaaGreatDoorDx.Fit
abbrev O (v : W3) : Prop := A33.okv v.1 v.2.1 v.2.2 = true
theorem negV_O (k n : Int) : O (A79.negV k n).1 := by
 unfold A79.negV
 split
 ·rfl
 ·split
  ·rename_i h
   split
   ·rfl
   ·exact okv_num h
  ·rfl
theorem decV_O (k n : Int) : O (A75.decV k n).1 := by
 unfold A75.decV
 split
 ·rfl
 ·split
  ·split
   ·exact okv_num (.inr rfl)
   ·rfl
  ·rfl
theorem told_O (c : Int) : O (Ref.toldV c) := by
 unfold Ref.toldV
 cases c == 0 <;> cases c == 1 <;> rfl
theorem truth_O (b : Bool) : O (Ref.truthV b) := by cases b <;> rfl
theorem cmp_O (s : ByteArray) (p : Int × Bool) : O (Ref.cmpV s p) := by
 unfold Ref.cmpV
 cases p.2
 ·rfl
 ·cases eqU s.data.toList [60]
  ·cases eqU s.data.toList [60, 61]
   ·cases eqU s.data.toList [62]
    ·exact truth_O _
    ·exact truth_O _
   ·exact truth_O _
  ·exact truth_O _
theorem ofV_O {k : Int} {p : Int × Bool} (h : k = 2 ∨ k = 3) : O (Ari.ofV k p).1 := by
 unfold Ari.ofV
 cases p.2
 ·rfl
 ·exact okv_num h
theorem two_O (f : Int → Int → Int × Bool) (a b : W3) : O (Ari.twoV f a b).1 := by
 unfold Ari.twoV
 cases Ari.bad a.1 || Ari.bad b.1
 rotate_left
 ·rfl
 cases a.1 == 0 || b.1 == 0
 rotate_left
 ·rfl
 cases a.1 == 2 && b.1 == 2
 rotate_left
 ·exact ofV_O (.inl rfl)
 cases (A127.dec a.1 a.2.1).2 && (A127.dec b.1 b.2.1).2
 ·rfl
 ·exact ofV_O (.inr rfl)
theorem mulV_O (a b : W3) : O (Ari.mulV a b).1 := by
 unfold Ari.mulV
 cases (Ref.firstV a.1 b.1 b.2.1 false).2
 rotate_left
 ·rfl
 refine ofV_O ?_
 cases a.1 == 3 || b.1 == 3
 ·exact .inl rfl
 ·exact .inr rfl
theorem divV_O (a b : W3) : O (Ari.divV a b).1 := by
 unfold Ari.divV
 cases (Ref.firstV a.1 b.1 b.2.1 true).2
 rotate_left
 ·rfl
 cases a.1 == 2 && b.1 == 2
 rotate_left
 ·exact ofV_O (.inl rfl)
 cases (Ref.decR a.1 a.2.1).2 && (Ref.decR b.1 b.2.1).2
 ·rfl
 ·exact ofV_O (.inr rfl)
theorem modV_O (a b : W3) : O (Ari.modV a b).1 := by
 unfold Ari.modV
 cases (Ref.zeroV a.1 b.1 b.2.1).2 != 0
 rotate_left
 ·rfl
 cases (Ref.zeroV a.1 b.1 b.2.1).1
 rotate_left
 ·rfl
 exact two_O _ _ _
theorem binV_O (t : ByteArray) (a b : W3) : O (Ari.binV t a b).1 := by
 unfold Ari.binV
 cases eqU t.data.toList [43] || (eqU t.data.toList [45] || (eqU t.data.toList [42] || (eqU t.data.toList [47] || eqU t.data.toList [37])))
 rotate_left
 ·unfold Ari.arithV
  cases eqU t.data.toList [43]
  rotate_left
  ·exact two_O _ _ _
  cases eqU t.data.toList [45]
  rotate_left
  ·exact two_O _ _ _
  cases eqU t.data.toList [42]
  rotate_left
  ·exact mulV_O _ _
  cases eqU t.data.toList [47]
  ·exact modV_O _ _
  ·exact divV_O _ _
 cases eqU t.data.toList [61]
 rotate_left
 ·show A33.okv (Ref.eqKV a b) (Ref.eqNV a b) ⟨#[]⟩ = true
  unfold Ref.eqKV Ref.eqNV
  cases a.1 == 0 || b.1 == 0
  ·cases (A76.compare a.1 a.2.1 a.2.2 b.1 b.2.1 b.2.2).2 && (A76.compare a.1 a.2.1 a.2.2 b.1 b.2.1 b.2.2).1 == 0 <;> rfl
  ·rfl
 cases eqU t.data.toList [33, 61]
 rotate_left
 ·exact told_O _
 cases eqU t.data.toList [97, 110, 100]
 rotate_left
 ·exact told_O _
 cases eqU t.data.toList [111, 114]
 rotate_left
 ·exact told_O _
 exact cmp_O _ _
theorem call_O (s : ByteArray) (l : List W3) : O (CallV s l).1 := by
 by_cases h : (kindP s (l.map (·.1))).2 = 0
 ·have := fit s l h
  unfold Fits at this
  split at this
  ·exact this.1
  ·rw [this]; rfl
 ·unfold CallV
  rw [show ((kindP s (l.map (·.1))).2 != 0) = true from by simpa [bne] using h]
  rfl
theorem snoc_O {l : List W3} {v : W3} (h : ∀ w ∈ l, O w) (hv : O v) : ∀ w ∈ l ++ [v], O w := fun w hw => by
 rcases List.mem_append.1 hw with hw | hw
 ·exact h w hw
 ·rw [List.mem_singleton.1 hw]; exact hv
theorem given_O {v : W3} {st st' : List W3} {i i' : Nat} (h : ∀ w ∈ st, O w) (e : given v st i = .inl (st', i')) : ∀ w ∈ st', O w := by
 unfold given at e
 have hc : (Ref.chk v.1 v.2.1 v.2.2 != 0) = !A33.okv v.1 v.2.1 v.2.2 := by unfold Ref.chk; cases A33.okv v.1 v.2.1 v.2.2 <;> rfl
 rw [hc] at e
 cases q : A33.okv v.1 v.2.1 v.2.2 <;> rw [q] at e
 ·cases e
 ·cases e; exact snoc_O h q
theorem put_O {p : W3 × Int} {st st' : List W3} {i i' : Nat} (h : ∀ w ∈ st, O w) (hp : O p.1) (e : put p st i = .inl (st', i')) : ∀ w ∈ st', O w := by
 unfold put at e
 cases q : p.2 != 0 <;> rw [q] at e
 ·cases e; exact snoc_O h hp
 ·cases e
theorem step_O {row aggs : List W3} {o : O6} {i : Nat} {st st' : List W3} {i' : Nat} (h : ∀ v ∈ st, O v) (e : step row aggs o i st = .inl (st', i')) : ∀ v ∈ st', O v := by
 have ht : ∀ p, ∀ v ∈ st.take p, O v := fun p v hv => h v (List.mem_of_mem_take hv)
 unfold step at e
 cases q1 : o.1 == 1 <;> rw [q1] at e
 rotate_left
 ·exact given_O h e
 cases q2 : o.1 == 2 <;> rw [q2] at e
 rotate_left
 ·exact given_O h e
 cases q9 : o.1 == 9 <;> rw [q9] at e
 rotate_left
 ·exact given_O h e
 cases q3 : o.1 == 3 <;> rw [q3] at e
 rotate_left
 ·cases qt : eqU o.2.2.1.data.toList [45] <;> rw [qt] at e
  ·cases e; exact snoc_O (ht _) (told_O _)
  ·exact put_O (ht _) (negV_O _ _) e
 cases q4 : o.1 == 4 <;> rw [q4] at e
 rotate_left
 ·exact put_O (ht _) (binV_O _ _ _) e
 cases q5 : o.1 == 5 <;> rw [q5] at e
 rotate_left
 ·cases e; exact snoc_O (ht _) (truth_O _)
 cases q6 : o.1 == 6 <;> rw [q6] at e
 rotate_left
 ·exact put_O (ht _) (call_O _ _) e
 cases q10 : o.1 == 10 <;> rw [q10] at e
 rotate_left
 ·exact put_O (ht _) (decV_O _ _) e
 cases q8 : o.1 == 8 <;> rw [q8] at e
 ·cases e; exact h
 ·cases qt : A35.tru (st.getD (st.length - 1) v0).1 (st.getD (st.length - 1) v0).2.1 <;> rw [qt] at e <;> cases e <;> exact ht _
def sh (d : Nat) (o : O6) : O6 := bif o.1 == 7 || o.1 == 8 then (o.1, o.2.1 + d, o.2.2) else o
def mv (p : List W3) (d : Nat) : (List W3 × Nat) ⊕ Int → (List W3 × Nat) ⊕ Int
 | .inl x => .inl (p ++ x.1, x.2 + d)
 | .inr e => .inr e
theorem given_mv (v : W3) (p st : List W3) (d i : Nat) : given v (p ++ st) (i + d) = mv p d (given v st i) := by
 unfold given
 cases Ref.chk v.1 v.2.1 v.2.2 != 0
 ·show Sum.inl (p ++ st ++ [v], i + d + 1) = Sum.inl (p ++ (st ++ [v]), i + 1 + d)
  rw [List.append_assoc, show i + d + 1 = i + 1 + d by omega]
 ·rfl
theorem put_mv (v : W3 × Int) (p st : List W3) (d i : Nat) : put v (p ++ st) (i + d) = mv p d (put v st i) := by
 unfold put
 cases v.2 != 0
 ·show Sum.inl (p ++ st ++ [v.1], i + d + 1) = Sum.inl (p ++ (st ++ [v.1]), i + 1 + d)
  rw [List.append_assoc, show i + d + 1 = i + 1 + d by omega]
 ·rfl
theorem getD_mv (p st : List W3) {j k : Nat} (hk : 1 ≤ k) (hj : k ≤ st.length) : (p ++ st).getD ((p ++ st).length - k) v0 = st.getD (st.length - k) v0 := by
 rw [List.length_append, List.getD_eq_getElem?_getD, List.getD_eq_getElem?_getD, List.getElem?_append_right (by omega)]
 rw [show p.length + st.length - k - p.length = st.length - k by omega]
theorem take_mv (p st : List W3) {k : Nat} (hj : k ≤ st.length) : (p ++ st).take ((p ++ st).length - k) = p ++ st.take (st.length - k) := by
 rw [List.length_append, List.take_append, List.take_of_length_le (by omega), show p.length + st.length - k - p.length = st.length - k by omega]
theorem drop_mv (p st : List W3) {k : Nat} (hj : k ≤ st.length) : (p ++ st).drop ((p ++ st).length - k) = st.drop (st.length - k) := by
 rw [List.length_append, List.drop_append, List.drop_of_length_le (by omega), show p.length + st.length - k - p.length = st.length - k by omega]; rfl
theorem step_mv {row aggs : List W3} {o : O6} {i : Nat} {N : Int} {st : List W3} (h : Fine row aggs o i N st) (p : List W3) (d : Nat) : step row aggs (sh d o) (i + d) (p ++ st) = mv p d (step row aggs o i st) := by
 have hneed := h.need
 have hmay := h.may
 have hs : o.1 ≠ 7 → o.1 ≠ 8 → sh d o = o := fun h7 h8 => by
  unfold sh; rw [beq_eq_false_iff_ne.2 h7, beq_eq_false_iff_ne.2 h8]; rfl
 have hs1 : (sh d o).1 = o.1 := by unfold sh; cases o.1 == 7 || o.1 == 8 <;> rfl
 unfold step
 rw [hs1]
 cases q1 : o.1 == 1
 rotate_left
 ·have := beq_iff_eq.1 q1
  rw [hs (by omega) (by omega)]; exact given_mv _ _ _ _ _
 cases q2 : o.1 == 2
 rotate_left
 ·have := beq_iff_eq.1 q2
  rw [hs (by omega) (by omega)]; exact given_mv _ _ _ _ _
 cases q9 : o.1 == 9
 rotate_left
 ·have := beq_iff_eq.1 q9
  rw [hs (by omega) (by omega)]; exact given_mv _ _ _ _ _
 cases q3 : o.1 == 3
 rotate_left
 ·have q := beq_iff_eq.1 q3
  have hn : 1 ≤ st.length := by rw [q] at hneed; have : (1 : Int) ≤ st.length := hneed; omega
  rw [hs (by omega) (by omega)]
  simp only [cond_true, cond_false]
  rw [getD_mv (j := 0) p st (Nat.le_refl 1) hn, take_mv p st hn]
  cases eqU o.2.2.1.data.toList [45]
  ·show Sum.inl (p ++ _ ++ [_], i + d + 1) = Sum.inl (p ++ (_ ++ [_]), i + 1 + d)
   rw [List.append_assoc, show i + d + 1 = i + 1 + d by omega]
  ·exact put_mv _ _ _ _ _
 cases q4 : o.1 == 4
 rotate_left
 ·have q := beq_iff_eq.1 q4
  have hn : 2 ≤ st.length := by rw [q] at hneed; have : (2 : Int) ≤ st.length := hneed; omega
  rw [hs (by omega) (by omega)]
  simp only [cond_true, cond_false]
  rw [getD_mv (j := 0) p st (Nat.le_refl 1) (by omega), getD_mv (j := 0) p st (k := 2) (by omega) hn, take_mv p st hn]
  exact put_mv _ _ _ _ _
 cases q5 : o.1 == 5
 rotate_left
 ·have q := beq_iff_eq.1 q5
  have hn : 1 ≤ st.length := by rw [q] at hneed; have : (1 : Int) ≤ st.length := hneed; omega
  rw [hs (by omega) (by omega)]
  simp only [cond_true, cond_false]
  rw [getD_mv (j := 0) p st (Nat.le_refl 1) hn, take_mv p st hn]
  show Sum.inl (p ++ _ ++ [_], i + d + 1) = Sum.inl (p ++ (_ ++ [_]), i + 1 + d)
  rw [List.append_assoc, show i + d + 1 = i + 1 + d by omega]
 cases q6 : o.1 == 6
 rotate_left
 ·have q := beq_iff_eq.1 q6
  obtain ⟨m1, m2⟩ := AHei.may6 hmay q
  have hn : o.2.1.toNat ≤ st.length := by rw [q] at hneed; have : o.2.1 ≤ st.length := hneed; omega
  rw [hs (by omega) (by omega)]
  simp only [cond_true, cond_false]
  rw [take_mv p st hn, drop_mv p st hn]
  exact put_mv _ _ _ _ _
 cases q10 : o.1 == 10
 rotate_left
 ·have q := beq_iff_eq.1 q10
  have hn : 1 ≤ st.length := by rw [q] at hneed; have : (1 : Int) ≤ st.length := hneed; omega
  rw [hs (by omega) (by omega)]
  simp only [cond_true, cond_false]
  rw [getD_mv (j := 0) p st (Nat.le_refl 1) hn, take_mv p st hn]
  exact put_mv _ _ _ _ _
 have jump : o.1 = 7 ∨ o.1 = 8 → (sh d o).2.1.toNat = o.2.1.toNat + d := fun hk => by
  have hb := AHei.may78 hmay hk
  have : (sh d o).2.1 = o.2.1 + d := by
   unfold sh
   have : (o.1 == 7 || o.1 == 8) = true := by rcases hk with hk | hk <;> rw [hk] <;> rfl
   rw [this]; rfl
  rw [this]; omega
 cases q8 : o.1 == 8
 ·have hk : o.1 = 7 := by
   by_cases h7 : o.1 = 7
   ·exact h7
   ·have e7 : (o.1 == 7 || o.1 == 8) = false := by rw [q8, beq_eq_false_iff_ne.2 h7]; rfl
    unfold Ref.mayV at hmay
    rw [q1, q2, q9, q3, q4, q5, q6, q10, e7] at hmay
    cases hmay
  simp only [cond_false]
  rw [jump (.inl hk)]; rfl
 ·have q := beq_iff_eq.1 q8
  have hn : 1 ≤ st.length := by rw [q] at hneed; have : (1 : Int) ≤ st.length := hneed; omega
  simp only [cond_true, cond_false]
  rw [getD_mv (j := 0) p st (Nat.le_refl 1) hn, take_mv p st hn, jump (.inr q)]
  cases A35.tru (st.getD (st.length - 1) v0).1 (st.getD (st.length - 1) v0).2.1
  ·rfl
  ·show Sum.inl (p ++ _, i + d + 1) = Sum.inl (p ++ _, i + 1 + d)
   rw [show i + d + 1 = i + 1 + d by omega]
theorem run_end {row aggs : List W3} {ops : List O6} {T : List Int} (hT : ∀ j (hj : j < ops.length), AHei.Ok ops.length row.length aggs.length T j ops[j]) (hr : ∀ v ∈ row, Ari.I v) (ha : ∀ v ∈ aggs, Ari.I v) (ho : ∀ o ∈ ops, Ari.I o.2.2.2)
  (pre post : List O6) (p : List W3) :
  ∀ (f g i : Nat) (st st' : List W3), ops.length - i ≤ f → At row aggs ops T i st → (∀ v ∈ st, O v) → run row aggs ops f i st = .inl st' →
   (∀ v ∈ st', O v) ∧ (∀ v ∈ st', Ari.I v) ∧ (st'.length : Int) = T.getD ops.length 0 ∧
   ∀ g, ops.length - i ≤ g → ∃ g', g' + (ops.length - i) ≥ g ∧ run row aggs (pre ++ ops.map (sh pre.length) ++ post) g (i + pre.length) (p ++ st) = run row aggs (pre ++ ops.map (sh pre.length) ++ post) g' (ops.length + pre.length) (p ++ st') := by
 intro f
 induction f with
 | zero =>
  intro g i st st' hf hat hO e
  cases e
  have hi : i = ops.length := by have := hat.le; omega
  subst hi
  exact ⟨hO, hat.ist, hat.len, fun g hg => ⟨g, by omega, rfl⟩⟩
 | succ f ih =>
  intro g i st st' hf hat hO e
  rcases Nat.lt_or_ge i ops.length with hi | hi
  ·have hfine := hat.fine hi hT hr ha ho
   unfold run at e
   rw [List.getElem?_eq_getElem hi] at e
   dsimp only [] at e
   cases hs : step row aggs ops[i] i st with
   | inr x => rw [hs] at e; cases e
   | inl q =>
    rw [hs] at e
    obtain ⟨st1, i1⟩ := q
    obtain ⟨n1, n2⟩ := hat.next hi hT hfine hs
    obtain ⟨a, a2, b, c⟩ := ih g i1 st1 st' (by omega) n2 (step_O hO hs) e
    refine ⟨a, a2, b, fun g hg => ?_⟩
    obtain ⟨g, rfl⟩ : ∃ g', g = g' + 1 := ⟨g - 1, by omega⟩
    have hget : (pre ++ ops.map (sh pre.length) ++ post)[i + pre.length]? = some (sh pre.length ops[i]) := by
     rw [List.getElem?_append_left (by rw [List.length_append, List.length_map]; omega), List.getElem?_append_right (by omega), Nat.add_sub_cancel, List.getElem?_map, List.getElem?_eq_getElem hi]; rfl
    have := step_mv hfine p pre.length
    rw [hs] at this
    obtain ⟨g', h1, h2⟩ := c g (by omega)
    refine ⟨g', by omega, ?_⟩
    rw [← h2]
    conv => lhs; unfold run
    rw [hget]
    dsimp only []
    rw [this]; rfl
  ·have hi : i = ops.length := by have := hat.le; omega
   subst hi
   unfold run at e
   rw [List.getElem?_eq_none (by omega)] at e
   cases e
   exact ⟨hO, hat.ist, hat.len, fun g hg => ⟨g, by omega, rfl⟩⟩
theorem sh_zero (o : O6) : sh 0 o = o := by
 unfold sh
 cases o.1 == 7 || o.1 == 8
 ·rfl
 ·show (o.1, o.2.1 + ((0 : Nat) : Int), o.2.2) = o
  rw [show o.2.1 + ((0 : Nat) : Int) = o.2.1 by omega]
theorem map_sh_zero (l : List O6) : l.map (sh 0) = l := by
 induction l with
 | nil => rfl
 | cons o l ih => rw [List.map_cons, sh_zero, ih]
theorem step_ne {row aggs : List W3} {o : O6} {i : Nat} {st : List W3} {z : Int} (e : step row aggs o i st = .inr z) : z ≠ 0 := by
 have giv : ∀ v, given v st i = .inr z → z ≠ 0 := fun v e => by
  unfold given at e
  cases q : Ref.chk v.1 v.2.1 v.2.2 != 0 <;> rw [q] at e <;> cases e
  decide
 have pt : ∀ (p : W3 × Int) (l : List W3), put p l i = .inr z → z ≠ 0 := fun p l e => by
  unfold put at e
  cases q : p.2 != 0 <;> rw [q] at e <;> cases e
  simpa [bne] using q
 unfold step at e
 cases q1 : o.1 == 1 <;> rw [q1] at e
 rotate_left
 ·exact giv _ e
 cases q2 : o.1 == 2 <;> rw [q2] at e
 rotate_left
 ·exact giv _ e
 cases q9 : o.1 == 9 <;> rw [q9] at e
 rotate_left
 ·exact giv _ e
 cases q3 : o.1 == 3 <;> rw [q3] at e
 rotate_left
 ·cases qt : eqU o.2.2.1.data.toList [45] <;> rw [qt] at e
  ·cases e
  ·exact pt _ _ e
 cases q4 : o.1 == 4 <;> rw [q4] at e
 rotate_left
 ·exact pt _ _ e
 cases q5 : o.1 == 5 <;> rw [q5] at e
 rotate_left
 ·cases e
 cases q6 : o.1 == 6 <;> rw [q6] at e
 rotate_left
 ·exact pt _ _ e
 cases q10 : o.1 == 10 <;> rw [q10] at e
 rotate_left
 ·exact pt _ _ e
 cases q8 : o.1 == 8 <;> rw [q8] at e
 ·cases e
 ·cases qt : A35.tru (st.getD (st.length - 1) v0).1 (st.getD (st.length - 1) v0).2.1 <;> rw [qt] at e <;> cases e
theorem run_ne {row aggs : List W3} {ops : List O6} {z : Int} : ∀ (f i : Nat) (st : List W3), run row aggs ops f i st = .inr z → z ≠ 0
 | 0, i, st, e => by cases e
 | f + 1, i, st, e => by
  unfold run at e
  cases h : ops[i]? with
  | none => rw [h] at e; cases e
  | some o =>
   rw [h] at e
   dsimp only [] at e
   cases hs : step row aggs o i st with
   | inl p => rw [hs] at e; exact run_ne f _ _ e
   | inr q => rw [hs] at e; cases e; exact step_ne hs
theorem runV_ok {row aggs : List W3} {ops : List O6} {x : W3} (e : runV row aggs ops = (x, 0)) (hr : ∀ v ∈ row, Ari.I v) (ha : ∀ v ∈ aggs, Ari.I v) (ho : ∀ o ∈ ops, Ari.I o.2.2.2) (pre post : List O6) (p : List W3) :
  O x ∧ Ari.I x ∧ ∀ g, ops.length ≤ g → ∃ g', g' + ops.length ≥ g ∧ run row aggs (pre ++ ops.map (sh pre.length) ++ post) g pre.length p = run row aggs (pre ++ ops.map (sh pre.length) ++ post) g' (ops.length + pre.length) (p ++ [x]) := by
 unfold runV at e
 cases hc : AHei.checkV (row.length : Int) (aggs.length : Int) ops != 0 <;> rw [hc] at e
 rotate_left
 ·cases e
 have hc0 : AHei.checkV (row.length : Int) (aggs.length : Int) ops = 0 := by simpa [bne] using hc
 have hh : (AHei.heights row.length aggs.length ops).2 = true := by
  unfold AHei.checkV at hc0
  cases e : (AHei.heights row.length aggs.length ops).2
  ·rw [e] at hc0; cases hc0
  ·rfl
 obtain ⟨hl, T, T0, T1, hT⟩ := AHei.heights_ok hh
 cases hrun : run row aggs ops ops.length 0 [] with
 | inr z =>
  rw [hrun] at e
  have e : ((v0, z) : W3 × Int) = (x, 0) := e
  have hz : z = 0 := congrArg Prod.snd e
  exact absurd hz (run_ne _ _ _ hrun)
 | inl st' =>
  rw [hrun] at e
  have e : ((st'.getD 0 v0, 0) : W3 × Int) = (x, 0) := e
  obtain ⟨a, a2, b, c⟩ := run_end hT hr ha ho pre post p ops.length 0 0 [] st' (by omega) ⟨by omega, by rw [T0]; rfl, fun v hv => absurd hv (List.not_mem_nil)⟩ (fun v hv => absurd hv (List.not_mem_nil)) hrun
  rw [T1] at b
  obtain ⟨v, rfl⟩ := List.length_eq_one_iff.1 (show st'.length = 1 by omega)
  have hx : v = x := congrArg Prod.fst e
  subst hx
  refine ⟨a v (List.mem_singleton.2 rfl), a2 v (List.mem_singleton.2 rfl), fun g hg => ?_⟩
  obtain ⟨g', h1, h2⟩ := c g (by omega)
  rw [Nat.zero_add, List.append_nil] at h2
  exact ⟨g', by omega, h2⟩
def eqOp : O6 := (4, 0, ⟨#[61]⟩, 0, 0, ⟨#[]⟩)
def pushOp (v : W3) : O6 := (1, 0, ⟨#[]⟩, v)
def eqOf (x y : W3) : W3 := (Ref.eqKV x y, Ref.eqNV x y, ⟨#[]⟩)
theorem run_eq {row aggs : List W3} {ops : List O6} {i g : Nat} {x y : W3} (hg : 1 ≤ g) (h1 : ops[i]? = some eqOp) (h2 : ops.length = i + 1) : run row aggs ops g i [x, y] = .inl [eqOf x y] := by
 obtain ⟨g, rfl⟩ : ∃ g', g = g' + 1 := ⟨g - 1, by omega⟩
 unfold run
 rw [h1]
 dsimp only []
 have : step row aggs eqOp i [x, y] = .inl ([eqOf x y], i + 1) := rfl
 rw [this]
 dsimp only []
 cases g with
 | zero => rfl
 | succ g =>
  unfold run
  rw [List.getElem?_eq_none (by omega)]
theorem runV_of {row aggs : List W3} {ops : List O6} {st : List W3} (h : AHei.checkV row.length aggs.length ops = 0) (e : run row aggs ops ops.length 0 [] = .inl st) : runV row aggs ops = (st.getD 0 v0, 0) := by
 unfold runV
 rw [h, e]; rfl
theorem runV_I {row : List W3} {a : List O6} {x : W3} (ex : runV row [] a = (x, 0)) (hr : ∀ v ∈ row, Ari.I v) (ha : ∀ o ∈ a, Ari.I o.2.2.2) : Ari.I x :=
 (runV_ok ex hr (fun v hv => absurd hv (List.not_mem_nil)) ha [] [] []).2.1
theorem runV_heights {row aggs : List W3} {ops : List O6} (e : (runV row aggs ops).2 = 0) : (AHei.heights row.length aggs.length ops).2 = true := by
 unfold runV at e
 cases hc : AHei.checkV (row.length : Int) (aggs.length : Int) ops != 0 <;> rw [hc] at e
 rotate_left
 ·cases e
 have hc0 : AHei.checkV (row.length : Int) (aggs.length : Int) ops = 0 := by simpa [bne] using hc
 unfold AHei.checkV at hc0
 cases e : (AHei.heights row.length aggs.length ops).2
 ·rw [e] at hc0; cases hc0
 ·rfl
theorem runV_jumps {row aggs : List W3} {ops : List O6} (e : (runV row aggs ops).2 = 0) : ∀ o ∈ ops, o.1 = 7 ∨ o.1 = 8 → 0 ≤ o.2.1 ∧ o.2.1 ≤ ops.length := by
 obtain ⟨hl, T, T0, T1, hT⟩ := AHei.heights_ok (runV_heights e)
 intro o ho hk
 obtain ⟨j, hj, rfl⟩ := List.getElem_of_mem ho
 have := AHei.may78 (hT j hj).may hk
 omega
theorem runV_nil {row aggs : List W3} : (runV row aggs []).2 = 120 := rfl
theorem joined {row : List W3} {a b : List O6} {x y : W3} (ex : runV row [] a = (x, 0)) (ey : runV row [] b = (y, 0)) (hr : ∀ v ∈ row, Ari.I v) (ha : ∀ o ∈ a, Ari.I o.2.2.2) (hb : ∀ o ∈ b, Ari.I o.2.2.2)
  (hc : AHei.checkV row.length ([] : List W3).length (a ++ b.map (sh a.length) ++ [eqOp]) = 0) :
  runV row [] (a ++ b.map (sh a.length) ++ [eqOp]) = (eqOf x y, 0) ∧ runV [] [] [pushOp x, pushOp y, eqOp] = (eqOf x y, 0) := by
 have h0 : ∀ v ∈ ([] : List W3), Ari.I v := fun v hv => absurd hv (List.not_mem_nil)
 obtain ⟨ox, _, ra⟩ := runV_ok ex hr h0 ha [] (b.map (sh a.length) ++ [eqOp]) []
 obtain ⟨oy, _, rb⟩ := runV_ok ey hr h0 hb a [eqOp] [x]
 constructor
 ·have hlen : (a ++ b.map (sh a.length) ++ [eqOp]).length = a.length + b.length + 1 := by simp; omega
  obtain ⟨g1, l1, r1⟩ := ra (a ++ b.map (sh a.length) ++ [eqOp]).length (by omega)
  obtain ⟨g2, l2, r2⟩ := rb g1 (by omega)
  have e1 : ([] : List O6) ++ a.map (sh ([] : List O6).length) ++ (b.map (sh a.length) ++ [eqOp]) = a ++ b.map (sh a.length) ++ [eqOp] := by
   show a.map (sh 0) ++ _ = _
   rw [map_sh_zero, List.append_assoc]
  rw [e1] at r1
  refine (runV_of hc (st := [eqOf x y]) ?_).trans rfl
  have r1 : run row [] (a ++ b.map (sh a.length) ++ [eqOp]) (a ++ b.map (sh a.length) ++ [eqOp]).length 0 [] = run row [] (a ++ b.map (sh a.length) ++ [eqOp]) g1 a.length [x] := r1
  rw [r1, r2]
  refine run_eq (by omega) ?_ ?_
  ·rw [List.getElem?_append_right (by simp; omega)]
   simp [show b.length + a.length - (a.length + b.length) = 0 by omega]
  ·rw [hlen]; omega
 ·have gv : ∀ (v : W3) (st : List W3) (i : Nat), O v → given v st i = .inl (st ++ [v], i + 1) := fun v st i h => by
   unfold given Ref.chk
   rw [h]; rfl
  refine (runV_of (by rfl) (st := [eqOf x y]) ?_).trans rfl
  have s1 : step [] [] (pushOp x) 0 [] = .inl ([x], 1) := gv x [] 0 ox
  have s2 : step [] [] (pushOp y) 1 [x] = .inl ([x, y], 2) := gv y [x] 1 oy
  show run [] [] [pushOp x, pushOp y, eqOp] 3 0 [] = _
  unfold run
  show (match step [] [] (pushOp x) 0 [] with | .inl p => run [] [] [pushOp x, pushOp y, eqOp] 2 p.2 p.1 | .inr e => .inr e) = _
  rw [s1]
  show run [] [] [pushOp x, pushOp y, eqOp] 2 1 [x] = _
  unfold run
  show (match step [] [] (pushOp y) 1 [x] with | .inl p => run [] [] [pushOp x, pushOp y, eqOp] 1 p.2 p.1 | .inr e => .inr e) = _
  rw [s2]
  exact run_eq (i := 2) (Nat.le_refl 1) rfl rfl
end
end Go.Proofs.YtaiokpmmjbiajaaGreatDoorDx.AMac
namespace Go.Proofs.YtaiokpmmjbiajaaGreatDoorDx
section
open Go Go.Proofs
namespace A159
def T (k0 n0 : Int) (s0 : ByteArray) (k1 n1 : Int) (s1 : ByteArray) : GT Value := let x1 := IntKind.wrap .i64 ((A127.dec k0 n0).1 + (A127.dec k1 n1).1); let x2 := IntKind.wrap .i64 (n0 + n1); let o1 : GT Value := (.out (.tuple ([.agg ([.int .i64 0, .int .i64 0, .string ⟨([]).toArray⟩]).toArray, .int .i64 0]).toArray)); let o2 : GT Value := (.out (.tuple ([.agg ([.int .i64 2, .int .i64 x2, .string ⟨([]).toArray⟩]).toArray, .int .i64 0]).toArray)); let o3 : GT Value := (.out (.tuple ([.agg ([.int .i64 0, .int .i64 0, .string ⟨([]).toArray⟩]).toArray, .int .i64 20]).toArray)); let o4 : GT Value := (.out (.tuple ([.agg ([.int .i64 3, .int .i64 x1, .string ⟨([]).toArray⟩]).toArray, .int .i64 0]).toArray)); let o5 : GT Value := (.br ((((k0 == 2) || (k0 == 3)) && (inR n0))) (.br ((((k1 == 2) || (k1 == 3)) && (inR n1))) (.br ((A127.dec k0 n0).2) (.br ((!(A127.dec k1 n1).2)) o3 (.br ((!(decide ((A127.dec k0 n0).1 < 0) == decide ((A127.dec k1 n1).1 < 0)))) o4 (.br ((!(decide (x1 < 0) == decide ((A127.dec k0 n0).1 < 0)))) o3 o4))) o3) .no) .no); let o6 : GT Value := (.br ((k0 == 0)) o1 (.br ((k1 == 0)) o1 (.br ((k0 == 2)) (.br ((k1 == 2)) (.br ((!(decide (n0 < 0) == decide (n1 < 0)))) o2 (.br ((!(decide (x2 < 0) == decide (n0 < 0)))) o3 o2)) o5) o5))); let o7 : GT Value := (.out (.tuple ([.agg ([.int .i64 0, .int .i64 0, .string ⟨([]).toArray⟩]).toArray, .int .i64 22]).toArray)); let o8 : GT Value := (.br ((k1 == 2)) o6 (.br ((!(k1 == 3))) (.br ((k1 != 0)) o7 o6) o6)); (.br ((k0 == 2)) o8 (.br ((!(k0 == 3))) (.br ((k0 != 0)) o7 o8) o8))
set_option maxRecDepth 1000000 in
theorem run (k0 n0 : Int) (s0 : ByteArray) (k1 n1 : Int) (s1 : ByteArray) : runK 4 [(127, A127.spec)] [] 159 [.v (.agg #[.int .i64 k0, .int .i64 n0, .string s0]), .v (.agg #[.int .i64 k1, .int .i64 n1, .string s1])] = (T k0 n0 s0 k1 n1 s1).eval := by kernel_rfl
set_option maxHeartbeats 0 in
theorem T_ok (a b : W3) (ha : inR a.2.1 = true) (hb : inR b.2.1 = true) : (T a.1 a.2.1 a.2.2 b.1 b.2.1 b.2.2).eval = some (ve (Ari.twoV Ari.addI a b)) := by
 obtain ⟨k, n, s⟩ := a
 obtain ⟨k', n', s'⟩ := b
 unfold T
 dsimp only [] at ha hb ⊢
 simp only [GT.eval, ha, hb]
 unfold Ari.twoV Ari.addI Ari.ofV
 dsimp only []
 generalize A127.dec k n = p
 generalize A127.dec k' n' = q
 obtain ⟨x, ox⟩ := p
 obtain ⟨y, oy⟩ := q
 dsimp only []
 rcases Ari.kinds k with rfl | rfl | rfl | ⟨e1, e2, e3, e4, e5⟩ <;> rcases Ari.kinds k' with rfl | rfl | rfl | ⟨f1, f2, f3, f4, f5⟩ <;>
  (try simp only [e1, e2, e3, e4, e5]) <;> (try simp only [f1, f2, f3, f4, f5]) <;> (try rfl) <;> (try (generalize (decide (n < 0) == decide (n' < 0)) = u; generalize (decide (IntKind.wrap .i64 (n + n') < 0) == decide (n < 0)) = v; cases u <;> cases v <;> rfl)) <;> (try (generalize (decide (n < 0) == decide (n' < 0)) = u; generalize (decide (IntKind.wrap .i64 (n - n') < 0) == decide (n < 0)) = v; cases u <;> cases v <;> rfl)) <;> (try (cases ox <;> cases oy <;> (generalize (decide (x < 0) == decide (y < 0)) = u; generalize (decide (IntKind.wrap .i64 (x + y) < 0) == decide (x < 0)) = v; cases u <;> cases v <;> rfl))) <;> (try (cases ox <;> cases oy <;> (generalize (decide (x < 0) == decide (y < 0)) = u; generalize (decide (IntKind.wrap .i64 (x - y) < 0) == decide (x < 0)) = v; cases u <;> cases v <;> rfl)))
def spec : Spec := fun aa => match aa with
 | [a, b] => (vOf a).bind fun x => (vOf b).bind fun y => some (.need (inR x.2.1 && inR y.2.1) (.out (ve (Ari.twoV Ari.addI x y))))
 | _ => none
theorem spec_ok : SpecOk Tryz.prog La 159 spec := ⟨fnOk_ok (by kernel_rfl), fun aa t v h e => by
 unfold spec at h
 split at h
 ·rename_i a b
  obtain ⟨x, h1, h⟩ := opt_bind h
  obtain ⟨y, h2, h⟩ := opt_bind h
  cases h
  obtain ⟨g1, g2⟩ := GT.need_eval e
  cases g2
  rw [Bool.and_eq_true] at g1
  rw [vOf_ok h1, vOf_ok h2]
  exact ⟨rfl, callT (n0 := 4) (k := 12) La_below prog_mix prog_names (by simpa using A127.spec_ok) (by simp) (by decide) (by simp) rfl ((run _ _ _ _ _ _).trans (T_ok x y g1.1 g1.2))⟩
 ·cases h⟩
end A159
end
section
open Go Go.Proofs
namespace A160
def T (k0 n0 : Int) (s0 : ByteArray) (k1 n1 : Int) (s1 : ByteArray) : GT Value := let x1 := IntKind.wrap .i64 ((A127.dec k0 n0).1 - (A127.dec k1 n1).1); let x2 := IntKind.wrap .i64 (n0 - n1); let o1 : GT Value := (.out (.tuple ([.agg ([.int .i64 0, .int .i64 0, .string ⟨([]).toArray⟩]).toArray, .int .i64 0]).toArray)); let o2 : GT Value := (.out (.tuple ([.agg ([.int .i64 2, .int .i64 x2, .string ⟨([]).toArray⟩]).toArray, .int .i64 0]).toArray)); let o3 : GT Value := (.out (.tuple ([.agg ([.int .i64 0, .int .i64 0, .string ⟨([]).toArray⟩]).toArray, .int .i64 20]).toArray)); let o4 : GT Value := (.out (.tuple ([.agg ([.int .i64 3, .int .i64 x1, .string ⟨([]).toArray⟩]).toArray, .int .i64 0]).toArray)); let o5 : GT Value := (.br ((((k0 == 2) || (k0 == 3)) && (inR n0))) (.br ((((k1 == 2) || (k1 == 3)) && (inR n1))) (.br ((A127.dec k0 n0).2) (.br ((!(A127.dec k1 n1).2)) o3 (.br ((decide ((A127.dec k0 n0).1 < 0) == decide ((A127.dec k1 n1).1 < 0))) o4 (.br ((!(decide (x1 < 0) == decide ((A127.dec k0 n0).1 < 0)))) o3 o4))) o3) .no) .no); let o6 : GT Value := (.br ((k0 == 0)) o1 (.br ((k1 == 0)) o1 (.br ((k0 == 2)) (.br ((k1 == 2)) (.br ((decide (n0 < 0) == decide (n1 < 0))) o2 (.br ((!(decide (x2 < 0) == decide (n0 < 0)))) o3 o2)) o5) o5))); let o7 : GT Value := (.out (.tuple ([.agg ([.int .i64 0, .int .i64 0, .string ⟨([]).toArray⟩]).toArray, .int .i64 22]).toArray)); let o8 : GT Value := (.br ((k1 == 2)) o6 (.br ((!(k1 == 3))) (.br ((k1 != 0)) o7 o6) o6)); (.br ((k0 == 2)) o8 (.br ((!(k0 == 3))) (.br ((k0 != 0)) o7 o8) o8))
set_option maxRecDepth 1000000 in
theorem run (k0 n0 : Int) (s0 : ByteArray) (k1 n1 : Int) (s1 : ByteArray) : runK 4 [(127, A127.spec)] [] 160 [.v (.agg #[.int .i64 k0, .int .i64 n0, .string s0]), .v (.agg #[.int .i64 k1, .int .i64 n1, .string s1])] = (T k0 n0 s0 k1 n1 s1).eval := by kernel_rfl
set_option maxHeartbeats 0 in
theorem T_ok (a b : W3) (ha : inR a.2.1 = true) (hb : inR b.2.1 = true) : (T a.1 a.2.1 a.2.2 b.1 b.2.1 b.2.2).eval = some (ve (Ari.twoV Ari.subI a b)) := by
 obtain ⟨k, n, s⟩ := a
 obtain ⟨k', n', s'⟩ := b
 unfold T
 dsimp only [] at ha hb ⊢
 simp only [GT.eval, ha, hb]
 unfold Ari.twoV Ari.subI Ari.ofV
 dsimp only []
 generalize A127.dec k n = p
 generalize A127.dec k' n' = q
 obtain ⟨x, ox⟩ := p
 obtain ⟨y, oy⟩ := q
 dsimp only []
 rcases Ari.kinds k with rfl | rfl | rfl | ⟨e1, e2, e3, e4, e5⟩ <;> rcases Ari.kinds k' with rfl | rfl | rfl | ⟨f1, f2, f3, f4, f5⟩ <;>
  (try simp only [e1, e2, e3, e4, e5]) <;> (try simp only [f1, f2, f3, f4, f5]) <;> (try rfl) <;> (try (generalize (decide (n < 0) == decide (n' < 0)) = u; generalize (decide (IntKind.wrap .i64 (n + n') < 0) == decide (n < 0)) = v; cases u <;> cases v <;> rfl)) <;> (try (generalize (decide (n < 0) == decide (n' < 0)) = u; generalize (decide (IntKind.wrap .i64 (n - n') < 0) == decide (n < 0)) = v; cases u <;> cases v <;> rfl)) <;> (try (cases ox <;> cases oy <;> (generalize (decide (x < 0) == decide (y < 0)) = u; generalize (decide (IntKind.wrap .i64 (x + y) < 0) == decide (x < 0)) = v; cases u <;> cases v <;> rfl))) <;> (try (cases ox <;> cases oy <;> (generalize (decide (x < 0) == decide (y < 0)) = u; generalize (decide (IntKind.wrap .i64 (x - y) < 0) == decide (x < 0)) = v; cases u <;> cases v <;> rfl)))
def spec : Spec := fun aa => match aa with
 | [a, b] => (vOf a).bind fun x => (vOf b).bind fun y => some (.need (inR x.2.1 && inR y.2.1) (.out (ve (Ari.twoV Ari.subI x y))))
 | _ => none
theorem spec_ok : SpecOk Tryz.prog La 160 spec := ⟨fnOk_ok (by kernel_rfl), fun aa t v h e => by
 unfold spec at h
 split at h
 ·rename_i a b
  obtain ⟨x, h1, h⟩ := opt_bind h
  obtain ⟨y, h2, h⟩ := opt_bind h
  cases h
  obtain ⟨g1, g2⟩ := GT.need_eval e
  cases g2
  rw [Bool.and_eq_true] at g1
  rw [vOf_ok h1, vOf_ok h2]
  exact ⟨rfl, callT (n0 := 4) (k := 12) La_below prog_mix prog_names (by simpa using A127.spec_ok) (by simp) (by decide) (by simp) rfl ((run _ _ _ _ _ _).trans (T_ok x y g1.1 g1.2))⟩
 ·cases h⟩
end A160
end
section
open Go Go.Proofs Go.RowKit
def spec244 : Spec := fun aa => match aa with
 | [.v (.int .u64 a)] => some (.need (u64 a) (.out (.int .i64 (Lib.bitLen a.toNat))))
 | _ => none
theorem spec244_ok : SpecOk Tryz.prog La 244 spec244 := spec_lib (by kernel_rfl) fun aa t v h e => by
 unfold spec244 at h
 split at h
 ·rename_i a
  cases h
  obtain ⟨g1, g2⟩ := GT.need_eval e
  cases g2
  unfold u64 at g1
  simp only [Bool.and_eq_true, decide_eq_true_eq] at g1
  exact ⟨[.int .u64 a], rfl, rfl, fun W _ => (Tryz.bits_Len64 a W g1.1 (by omega)).mono fun e w' h => ⟨h.1, by rw [h.2]; exact Below.refl _ _⟩⟩
 ·cases h
end
section
open Go Go.Proofs
namespace A228
def T (a0 : Int) : GT Value := (.br ((decide (0 ≤ a0) && decide (a0 < 18446744073709551616))) (.out (.int .i64 (IntKind.wrap .i64 (64 - (Int.ofNat (Go.Lib.bitLen (a0).toNat)))))) .no)
set_option maxRecDepth 1000000 in
theorem run (a0 : Int) : runK 4 [(244, spec244)] [] 228 [.v (.int .u64 a0)] = (T a0).eval := by kernel_rfl
theorem len_le (a : Int) (h1 : a < 18446744073709551616) : Lib.bitLen a.toNat ≤ 64 := by
 have : a.toNat < 2 ^ 64 := by omega
 exact Lib.bitLen_le _ 64 (Nat.le_refl _) this
def spec : Spec := fun aa => match aa with
 | [.v (.int .u64 a)] => some (.need (u64 a) (.out (.int .i64 (64 - Int.ofNat (Lib.bitLen a.toNat)))))
 | _ => none
theorem spec_ok : SpecOk Tryz.prog La 228 spec := ⟨fnOk_ok (by kernel_rfl), fun aa t v h e => by
 unfold spec at h
 split at h
 ·rename_i a
  cases h
  obtain ⟨g1, g2⟩ := GT.need_eval e
  cases g2
  refine ⟨rfl, callT (n0 := 4) (k := 12) La_below prog_mix prog_names (by simpa using spec244_ok) (by simp) (by decide) (by simp) rfl ((run _).trans ?_)⟩
  unfold u64 at g1
  unfold T
  rw [GT.eval, g1]
  have := len_le a (by simp only [Bool.and_eq_true, decide_eq_true_eq] at g1; exact g1.2)
  show some (Value.int .i64 (IntKind.wrap .i64 (64 - Int.ofNat (Lib.bitLen a.toNat)))) = _
  rw [wrap_in (by show _ ≤ 64 - ((Lib.bitLen a.toNat : Nat) : Int); omega) (by show 64 - ((Lib.bitLen a.toNat : Nat) : Int) ≤ _; omega)]
 ·cases h⟩
end A228
end
end Go.Proofs.YtaiokpmmjbiajaaGreatDoorDx
namespace Go.Proofs.YtaiokpmmjbiajaaGreatDoorDx.Knuth
section
open Go
theorem test_iff {u y1 y0 d q r : Int} (hD : 0 < y1 * 4294967296 + y0) (hr : r = u - q * y1) : (q * y0 > 4294967296 * r + d) ↔ q > (u * 4294967296 + d) / (y1 * 4294967296 + y0) := by
 have e : q * (y1 * 4294967296 + y0) = q * y1 * 4294967296 + q * y0 := by rw [Int.mul_add, ← Int.mul_assoc]
 rw [show (q > (u * 4294967296 + d) / (y1 * 4294967296 + y0)) ↔ ((u * 4294967296 + d) / (y1 * 4294967296 + y0) < q) from Iff.rfl, Int.ediv_lt_iff_lt_mul hD, e]
 generalize q * y0 = a at *
 generalize q * y1 = b at *
 subst hr
 constructor <;> intro h <;> omega
theorem quo_lt {u y1 y0 d : Int} (h1 : 0 ≤ y0) (hy : 0 < y1) (hd : d < 4294967296) (hu : u < y1 * 4294967296 + y0) : (u * 4294967296 + d) / (y1 * 4294967296 + y0) < 4294967296 := by
 have hD : 0 < y1 * 4294967296 + y0 := by omega
 rw [Int.ediv_lt_iff_lt_mul hD]
 have : (u + 1) * 4294967296 ≤ (y1 * 4294967296 + y0) * 4294967296 := Int.mul_le_mul_of_nonneg_right (by omega) (by decide)
 omega
theorem guess_ge {u y1 y0 d : Int} (h0 : 0 ≤ u) (h1 : 0 ≤ y0) (hy : 0 < y1) (hd0 : 0 ≤ d) (hd : d < 4294967296) : (u * 4294967296 + d) / (y1 * 4294967296 + y0) ≤ u / y1 := by
 have hD : 0 < y1 * 4294967296 + y0 := by omega
 have hq : 0 ≤ (u * 4294967296 + d) / (y1 * 4294967296 + y0) := Int.ediv_nonneg (by omega) (by omega)
 rw [Int.le_ediv_iff_mul_le hy]
 have h2 := Int.ediv_mul_le (u * 4294967296 + d) (show y1 * 4294967296 + y0 ≠ 0 by omega)
 generalize (u * 4294967296 + d) / (y1 * 4294967296 + y0) = q at *
 have e : q * (y1 * 4294967296 + y0) = q * y1 * 4294967296 + q * y0 := by rw [Int.mul_add, ← Int.mul_assoc]
 have h3 : 0 ≤ q * y0 := Int.mul_nonneg hq h1
 rw [e] at h2
 generalize q * y0 = a at *
 generalize q * y1 = b at *
 omega
def dig (u y1 y0 d : Int) : Int := (u * 4294967296 + d) / (y1 * 4294967296 + y0)
structure Fits (u y1 y0 d q r : Int) : Prop where
 u0 : 0 ≤ u
 y1l : 2147483648 ≤ y1
 y1h : y1 < 4294967296
 y0l : 0 ≤ y0
 y0h : y0 < 4294967296
 d0 : 0 ≤ d
 dh : d < 4294967296
 ul : u < y1 * 4294967296 + y0
 hr : r = u - q * y1
 r0 : 0 ≤ r
 rh : r < 4294967296
 ge : dig u y1 y0 d ≤ q
noncomputable def fitsB (u y1 y0 d q r : Int) : Bool := @decide (Fits u y1 y0 d q r) (Classical.propDecidable _)
theorem fits_iff {u y1 y0 d q r : Int} : fitsB u y1 y0 d q r = true ↔ Fits u y1 y0 d q r := by
 unfold fitsB
 exact @decide_eq_true_iff _ (Classical.propDecidable _)
theorem Fits.pos {u y1 y0 d q r : Int} (h : Fits u y1 y0 d q r) : 0 < y1 * 4294967296 + y0 := by have := h.y1l; have := h.y0l; omega
theorem Fits.small {u y1 y0 d q r : Int} (h : Fits u y1 y0 d q r) : dig u y1 y0 d < 4294967296 := quo_lt h.y0l (by have := h.y1l; omega) h.dh h.ul
theorem Fits.nonneg {u y1 y0 d q r : Int} (h : Fits u y1 y0 d q r) : 0 ≤ dig u y1 y0 d := Int.ediv_nonneg (by have := h.u0; have := h.d0; omega) (by have := h.pos; omega)
theorem Fits.test {u y1 y0 d q r : Int} (h : Fits u y1 y0 d q r) : (q ≥ 4294967296 ∨ q * y0 > 4294967296 * r + d) ↔ dig u y1 y0 d < q := by
 have t := test_iff (d := d) h.pos h.hr
 have s := h.small
 constructor
 ·rintro (g | g)
  ·omega
  ·exact t.1 g
 ·intro g
  exact .inr (t.2 g)
theorem Fits.qlt {u y1 y0 d q r : Int} (h : Fits u y1 y0 d q r) : 0 ≤ q ∧ q * y1 ≤ u ∧ q < 18446744073709551616 ∧ u < 18446744073709551616 := by
 have h0 := h.nonneg
 have h1 := h.ge
 have h2 : q * y1 ≤ u := by have := h.hr; have := h.r0; omega
 have h3 : q * 1 ≤ q * y1 := Int.mul_le_mul_of_nonneg_left (by have := h.y1l; omega) (by omega)
 have := h.ul; have := h.y1h; have := h.y0h
 exact ⟨by omega, h2, by omega, by omega⟩
theorem Fits.round {u y1 y0 d q r : Int} (h : Fits u y1 y0 d q r) {β : Type} (f : Int → Int → β) (g : Int → β) :
  (bif decide (q ≥ 4294967296) then (bif decide (IntKind.wrap .u64 (r + y1) ≥ 4294967296) then g (IntKind.wrap .u64 (q - 1)) else f (IntKind.wrap .u64 (q - 1)) (IntKind.wrap .u64 (r + y1))) else (bif decide ((IntKind.wrap .u64 (q * y0)) > (IntKind.wrap .u64 ((IntKind.wrap .u64 (4294967296 * r)) + d))) then (bif decide (IntKind.wrap .u64 (r + y1) ≥ 4294967296) then g (IntKind.wrap .u64 (q - 1)) else f (IntKind.wrap .u64 (q - 1)) (IntKind.wrap .u64 (r + y1))) else g q)) =
  if dig u y1 y0 d < q then (if 4294967296 ≤ r + y1 then g (q - 1) else f (q - 1) (r + y1)) else g q := by
 obtain ⟨q0, _, q1, _⟩ := h.qlt
 have hn := h.nonneg
 have := h.r0; have := h.rh; have := h.y1l; have := h.y1h; have := h.d0; have := h.dh
 have e1 : IntKind.wrap .u64 (r + y1) = r + y1 := by rw [IntKind.wrap_u64]; omega
 have e2 : IntKind.wrap .u64 ((IntKind.wrap .u64 (4294967296 * r)) + d) = 4294967296 * r + d := by rw [IntKind.wrap_u64, IntKind.wrap_u64]; omega
 have e3 : dig u y1 y0 d < q → IntKind.wrap .u64 (q - 1) = q - 1 := fun g => by rw [IntKind.wrap_u64]; omega
 rw [e1, e2]
 have ht := h.test
 by_cases hq : q ≥ 4294967296
 ·have hd := ht.1 (.inl hq)
  rw [decide_eq_true hq, e3 hd, if_pos hd]
  by_cases hr : 4294967296 ≤ r + y1
  ·rw [decide_eq_true (show r + y1 ≥ 4294967296 from hr), if_pos hr]; rfl
  ·rw [decide_eq_false (show ¬ r + y1 ≥ 4294967296 from hr), if_neg hr]; rfl
 ·have e4 : IntKind.wrap .u64 (q * y0) = q * y0 := by
   have a1 : q * y0 ≤ 4294967296 * 4294967296 := Int.mul_le_mul (by omega) (by have := h.y0h; omega) h.y0l (by decide)
   have a2 : 0 ≤ q * y0 := Int.mul_nonneg q0 h.y0l
   have a3 : q * y0 ≤ 4294967295 * 4294967295 := Int.mul_le_mul (by omega) (by have := h.y0h; omega) h.y0l (by decide)
   rw [IntKind.wrap_u64]; omega
  rw [decide_eq_false hq, e4]
  by_cases hd : dig u y1 y0 d < q
  ·have : q * y0 > 4294967296 * r + d := (ht.2 hd).resolve_left hq
   rw [decide_eq_true this, e3 hd, if_pos hd]
   by_cases hr : 4294967296 ≤ r + y1
   ·rw [decide_eq_true (show r + y1 ≥ 4294967296 from hr), if_pos hr]; rfl
   ·rw [decide_eq_false (show ¬ r + y1 ≥ 4294967296 from hr), if_neg hr]; rfl
  ·have : ¬ q * y0 > 4294967296 * r + d := fun g => hd (ht.1 (.inr g))
   rw [decide_eq_false this, if_neg hd]; rfl
theorem Fits.done {u y1 y0 d q r : Int} (h : Fits u y1 y0 d q r) (g : ¬ dig u y1 y0 d < q) : q = dig u y1 y0 d := by have := h.ge; omega
theorem Fits.next {u y1 y0 d q r : Int} (h : Fits u y1 y0 d q r) (g : dig u y1 y0 d < q) (hr : r + y1 < 4294967296) : Fits u y1 y0 d (q - 1) (r + y1) := by
 refine ⟨h.u0, h.y1l, h.y1h, h.y0l, h.y0h, h.d0, h.dh, h.ul, ?_, ?_, hr, by omega⟩
 ·rw [h.hr, Int.sub_mul, Int.one_mul]; omega
 ·have := h.r0; have := h.y1l; omega
theorem Fits.last {u y1 y0 d q r : Int} (h : Fits u y1 y0 d q r) (g : dig u y1 y0 d < q) (hr : 4294967296 ≤ r + y1) : q - 1 = dig u y1 y0 d := by
 have hn := h.nonneg
 have h1 : (q - 1) * y1 = u - (r + y1) := by rw [h.hr, Int.sub_mul, Int.one_mul]; omega
 have h2 : q - 1 < 4294967296 := by
  rcases Int.lt_or_le (q - 1) 4294967296 with g | g
  ·exact g
  ·have : 4294967296 * y1 ≤ (q - 1) * y1 := Int.mul_le_mul_of_nonneg_right g (by have := h.y1l; omega)
   have := h.ul; have := h.y0h
   omega
 have h3 : (q - 1) * y0 ≤ 4294967296 * 4294967296 := Int.mul_le_mul (by omega) (by have := h.y0h; omega) h.y0l (by decide)
 have t := test_iff (d := d) (r := r + y1) (q := q - 1) (u := u) h.pos (by omega)
 have : ¬ ((q - 1) * y0 > 4294967296 * (r + y1) + d) := by have := h.d0; omega
 have := fun g => this (t.2 g)
 unfold dig at *
 omega
theorem Fits.start {u y1 y0 d : Int} (u0 : 0 ≤ u) (y1l : 2147483648 ≤ y1) (y1h : y1 < 4294967296) (y0l : 0 ≤ y0) (y0h : y0 < 4294967296) (d0 : 0 ≤ d) (dh : d < 4294967296) (ul : u < y1 * 4294967296 + y0) : Fits u y1 y0 d (u / y1) (u - u / y1 * y1) := by
 have h := Int.emod_add_mul_ediv u y1
 have hm := Int.emod_nonneg u (show y1 ≠ 0 by omega)
 have hl := Int.emod_lt_of_pos u (show 0 < y1 by omega)
 rw [Int.mul_comm] at h
 exact ⟨u0, y1l, y1h, y0l, y0h, d0, dh, ul, rfl, by omega, by omega, guess_ge u0 y0l (by omega) d0 dh⟩
theorem left_eq {u y1 y0 d : Int} : u * 4294967296 + d - dig u y1 y0 d * (y1 * 4294967296 + y0) = (u * 4294967296 + d) % (y1 * 4294967296 + y0) := by
 have := Int.emod_add_mul_ediv (u * 4294967296 + d) (y1 * 4294967296 + y0)
 unfold dig
 rw [Int.mul_comm (y1 * 4294967296 + y0) ((u * 4294967296 + d) / _)] at this
 omega
theorem two_digits {u D d1 d0 : Int} (hD : 0 < D) (h0 : 0 ≤ d0) (h1 : d0 < 4294967296) : (u * 4294967296 * 4294967296 + d1 * 4294967296 + d0) / D = (u * 4294967296 + d1) / D * 4294967296 + (((u * 4294967296 + d1) % D) * 4294967296 + d0) / D ∧ (u * 4294967296 * 4294967296 + d1 * 4294967296 + d0) % D = (((u * 4294967296 + d1) % D) * 4294967296 + d0) % D := by
 have e := Int.emod_add_mul_ediv (u * 4294967296 + d1) D
 have f : u * 4294967296 * 4294967296 + d1 * 4294967296 + d0 = ((u * 4294967296 + d1) % D) * 4294967296 + d0 + D * ((u * 4294967296 + d1) / D * 4294967296) := by
  have : D * ((u * 4294967296 + d1) / D * 4294967296) = D * ((u * 4294967296 + d1) / D) * 4294967296 := by rw [Int.mul_assoc]
  rw [this]
  generalize D * ((u * 4294967296 + d1) / D) = x at *
  generalize (u * 4294967296 + d1) % D = r at *
  omega
 rw [f]
 constructor
 ·rw [Int.add_mul_ediv_left _ _ (by omega)]; omega
 ·rw [Int.add_mul_emod_self_left]
end
end Go.Proofs.YtaiokpmmjbiajaaGreatDoorDx.Knuth
namespace Go.Proofs.YtaiokpmmjbiajaaGreatDoorDx.Bits
section
open Go
theorem bv {a : Int} (h0 : 0 ≤ a) (h1 : a < 18446744073709551616) : (BitVec.ofInt 64 a).toNat = a.toNat := by
 rw [BitVec.toNat_ofInt]
 congr 1
 exact Int.emod_eq_of_lt h0 h1
theorem wrap_u {a : Int} (h0 : 0 ≤ a) (h1 : a < 18446744073709551616) : IntKind.wrap .u64 a = a := by
 rw [IntKind.wrap_u64]; omega
theorem and_mask (n : Nat) (hn : n ≤ 63) {a m : Int} (hm : m = 2 ^ n - 1) (h0 : 0 ≤ a) (h1 : a < 18446744073709551616) : IntKind.wrap .u64 (Int.ofNat (BitVec.ofInt 64 a &&& BitVec.ofInt 64 m).toNat) = a % 2 ^ n := by
 have hp : (2 : Int) ^ n ≤ 2 ^ 63 := by
  have : (2 : Nat) ^ n ≤ 2 ^ 63 := Nat.pow_le_pow_right (by decide) hn
  exact_mod_cast this
 have hp0 : (0 : Int) < 2 ^ n := by
  have : (0 : Nat) < 2 ^ n := Nat.two_pow_pos n
  exact_mod_cast this
 have h63 : (2 : Int) ^ 63 = 9223372036854775808 := by decide
 rw [BitVec.toNat_and, bv h0 h1, bv (by omega) (by omega)]
 have e : m.toNat = 2 ^ n - 1 := by
  subst hm
  have : ((2 : Int) ^ n - 1) = ((2 ^ n - 1 : Nat) : Int) := by
   have : 1 ≤ 2 ^ n := Nat.two_pow_pos n
   push_cast [Int.ofNat_sub this]; rfl
  rw [this]; rfl
 rw [e, Nat.and_two_pow_sub_one_eq_mod]
 have e2 : Int.ofNat (a.toNat % 2 ^ n) = a % 2 ^ n := by
  show ((a.toNat % 2 ^ n : Nat) : Int) = _
  rw [Int.natCast_emod, Int.toNat_of_nonneg h0]
  norm_cast
 rw [e2]
 have := Int.emod_nonneg a (show (2 : Int) ^ n ≠ 0 by omega)
 have := Int.emod_lt_of_pos a hp0
 exact wrap_u (by omega) (by omega)
theorem or_add (n : Nat) {x b : Int} (hx : 0 ≤ x) (hb : 0 ≤ b) (hbn : b < 2 ^ n) (ha : x * 2 ^ n + b < 18446744073709551616) : IntKind.wrap .u64 (Int.ofNat (BitVec.ofInt 64 (x * 2 ^ n) ||| BitVec.ofInt 64 b).toNat) = x * 2 ^ n + b := by
 have hx0 : 0 ≤ x * 2 ^ n := Int.mul_nonneg hx (by
  have : (0 : Nat) < 2 ^ n := Nat.two_pow_pos n
  have : (0 : Int) < 2 ^ n := by exact_mod_cast this
  omega)
 rw [BitVec.toNat_or, bv hx0 (by omega), bv hb (by omega)]
 obtain ⟨u, rfl⟩ := Int.eq_ofNat_of_zero_le hx
 obtain ⟨v, rfl⟩ := Int.eq_ofNat_of_zero_le hb
 have e1 : ((u : Int) * 2 ^ n).toNat = 2 ^ n * u := by
  have : ((u : Int) * 2 ^ n) = ((2 ^ n * u : Nat) : Int) := by push_cast; rw [Int.mul_comm]
  rw [this]; rfl
 have hv : v < 2 ^ n := by exact_mod_cast hbn
 rw [e1, Int.toNat_natCast, ← Nat.two_pow_add_eq_or_of_lt hv]
 have e2 : Int.ofNat (2 ^ n * u + v) = (u : Int) * 2 ^ n + v := by
  show ((2 ^ n * u + v : Nat) : Int) = _
  push_cast; rw [Int.mul_comm]
 rw [e2]
 exact wrap_u (by omega) ha
end
end Go.Proofs.YtaiokpmmjbiajaaGreatDoorDx.Bits
namespace Go.Proofs.YtaiokpmmjbiajaaGreatDoorDx.Knuth
section
open Go
theorem parts {h l y p p' : Int} (hp : 0 < p) (hp' : 0 < p') (hpp : p' * p = 18446744073709551616) (h0 : 0 ≤ h) (hy : h < y) (l0 : 0 ≤ l) (l1 : l < 18446744073709551616) (yp : y * p < 18446744073709551616) :
  0 ≤ l / p' ∧ l / p' < p ∧ h * p + l / p' < y * p ∧ (h * p + l / p') * 18446744073709551616 + (l * p) % 18446744073709551616 = (h * 18446744073709551616 + l) * p ∧ 0 ≤ h * p := by
 have a0 : 0 ≤ l / p' := Int.ediv_nonneg l0 (by omega)
 have a1 : l / p' < p := by
  rw [Int.ediv_lt_iff_lt_mul hp', Int.mul_comm p p', hpp]; exact l1
 have a2 : (l * p) / 18446744073709551616 = l / p' := by
  rw [← hpp, Int.mul_ediv_mul_of_pos_left _ _ hp]
 have a3 := Int.emod_add_mul_ediv (l * p) 18446744073709551616
 have a4 : (h + 1) * p ≤ y * p := Int.mul_le_mul_of_nonneg_right (by omega) (by omega)
 rw [Int.add_mul, Int.one_mul] at a4
 have a5 : 0 ≤ h * p := Int.mul_nonneg h0 (by omega)
 refine ⟨a0, a1, by omega, ?_, a5⟩
 rw [a2] at a3
 rw [Int.add_mul (h * p), Int.add_mul (h * 18446744073709551616), Int.mul_right_comm h]
 omega
theorem pows {k : Nat} (hk : k ≤ 63) : (0 : Int) < 2 ^ k ∧ (0 : Int) < 2 ^ (64 - k) ∧ (2 : Int) ^ (64 - k) * 2 ^ k = 18446744073709551616 := by
 refine ⟨Int.pow_pos (by decide), Int.pow_pos (by decide), ?_⟩
 rw [← Int.pow_add, Nat.sub_add_cancel (by omega)]
 rfl
theorem len_pos (y : Int) (h0 : 0 < y) (h1 : y < 18446744073709551616) : 1 ≤ Lib.bitLen y.toNat ∧ Lib.bitLen y.toNat ≤ 64 ∧ 9223372036854775808 ≤ y * 2 ^ (64 - Lib.bitLen y.toNat) ∧ y * 2 ^ (64 - Lib.bitLen y.toNat) < 18446744073709551616 := by
 obtain ⟨n, rfl⟩ := Int.eq_ofNat_of_zero_le (Int.le_of_lt h0)
 rw [Int.toNat_natCast]
 have hn : n < 2 ^ 64 := by omega
 obtain ⟨a, b, c⟩ := Lib.bitLenAux_bounds 64 n hn (by omega)
 have d : Lib.bitLen n ≤ 64 := Lib.bitLen_le _ 64 (Nat.le_refl _) hn
 unfold Lib.bitLen at *
 generalize Lib.bitLenAux 64 n = m at *
 refine ⟨a, d, ?_, ?_⟩
 ·have : 2 ^ (m - 1) * 2 ^ (64 - m) ≤ n * 2 ^ (64 - m) := Nat.mul_le_mul_right _ b
  rw [← Nat.pow_add, show m - 1 + (64 - m) = 63 by omega] at this
  have := Int.ofNat_le.2 this
  rw [Int.natCast_mul, Int.natCast_pow, Int.natCast_pow] at this
  exact this
 ·have : n * 2 ^ (64 - m) < 2 ^ m * 2 ^ (64 - m) := Nat.mul_lt_mul_of_pos_right c (Nat.two_pow_pos _)
  rw [← Nat.pow_add, show m + (64 - m) = 64 by omega] at this
  have := Int.ofNat_lt.2 this
  rw [Int.natCast_mul, Int.natCast_pow, Int.natCast_pow] at this
  exact this
theorem wrap_sub {a b c : Int} (h0 : 0 ≤ a + b - c) (h1 : a + b - c < 18446744073709551616) : IntKind.wrap .u64 (IntKind.wrap .u64 (IntKind.wrap .u64 a + b) - IntKind.wrap .u64 c) = a + b - c := by
 simp only [IntKind.wrap_u64]; omega
end
section
open Go
theorem chain {Step : KX → Ex → KX → Prop} {st : Int → Int → KX} {en : Int → KX} {k : Nat} {u y1 y0 d q r : Int} (h : Fits u y1 y0 d q r)
  (hs : ∀ q r, Fits u y1 y0 d q r → (dig u y1 y0 d < q → 4294967296 ≤ r + y1 → Step (st q r) (.exit k) (en (q - 1))) ∧ (dig u y1 y0 d < q → ¬ 4294967296 ≤ r + y1 → Step (st q r) .normal (st (q - 1) (r + y1))) ∧ (¬ dig u y1 y0 d < q → Step (st q r) (.exit k) (en q))) : ChainK Step (st q r) (.exit k) (en (dig u y1 y0 d)) := by
 by_cases h1 : dig u y1 y0 d < q
 ·by_cases h2 : 4294967296 ≤ r + y1
  ·have := (hs q r h).1 h1 h2
   rw [h.last h1 h2] at this
   exact .stop (by simp) this
  ·have hn := h.next h1 (by omega)
   refine .next ((hs q r h).2.1 h1 h2) ?_
   by_cases h3 : dig u y1 y0 d < q - 1
   ·have h4 : 4294967296 ≤ r + y1 + y1 := by have := h.r0; have := h.y1l; omega
    have := (hs _ _ hn).1 h3 h4
    rw [hn.last h3 h4] at this
    exact .stop (by simp) this
   ·have := (hs _ _ hn).2.2 h3
    rw [congrArg en (hn.done h3)] at this
    exact .stop (by simp) this
 ·have := (hs q r h).2.2 h1
  rw [congrArg en (h.done h1)] at this
  exact .stop (by simp) this
end
end Go.Proofs.YtaiokpmmjbiajaaGreatDoorDx.Knuth
namespace Go.Proofs.YtaiokpmmjbiajaaGreatDoorDx
section
open Go Go.Proofs
namespace A206L0
noncomputable def cfg : Cfg := cfgK Tryz.prog 4 (gpT []) (ltT 4 [])
def stA (y : Int) (s : Int) (y1 : Int) (y0 : Int) (u : Int) (d1 : Int) (d0 : Int) (q : Int) (r : Int) : KX := ⟨[(2, .int .u64 y), (8, .int .u64 s), (9, .int .u64 y1), (10, .int .u64 y0), (11, .int .u64 u), (13, .int .u64 d1), (14, .int .u64 d0), (15, .int .u64 q), (16, .int .u64 r)], []⟩
def stExit (y : Int) (s : Int) (y1 : Int) (y0 : Int) (u : Int) (d1 : Int) (d0 : Int) (q : Int) : KX := ⟨[(2, .int .u64 y), (8, .int .u64 s), (9, .int .u64 y1), (10, .int .u64 y0), (11, .int .u64 u), (13, .int .u64 d1), (14, .int .u64 d0), (15, .int .u64 q)], []⟩
def kp : Ex → List Nat
 | .normal => [2, 8, 9, 10, 11, 13, 14, 15, 16]
 | .exit _ => [2, 8, 9, 10, 11, 13, 14, 15]
 | _ => []
set_option maxRecDepth 1000000 in
theorem round (y : Int) (s : Int) (y1 : Int) (y0 : Int) (u : Int) (d1 : Int) (d0 : Int) (q : Int) (r : Int)  : rndK cfg [] [] 206 0 (stK 135 4 [] (stA y s y1 y0 u d1 d0 q r)) (endK 4 100 135 kp (fun _ _ => [])) = (let x1 := IntKind.wrap .u64 (r + y1); let x2 := IntKind.wrap .u64 (q - 1); (bif decide (q ≥ 4294967296) then (bif decide (x1 ≥ 4294967296) then (some (.exit 0, stExit y s y1 y0 u d1 d0 x2)) else (some (.normal, stA y s y1 y0 u d1 d0 x2 x1))) else (bif decide ((IntKind.wrap .u64 (q * y0)) > (IntKind.wrap .u64 ((IntKind.wrap .u64 (4294967296 * r)) + d1))) then (bif decide (x1 ≥ 4294967296) then (some (.exit 0, stExit y s y1 y0 u d1 d0 x2)) else (some (.normal, stA y s y1 y0 u d1 d0 x2 x1))) else (some (.exit 0, stExit y s y1 y0 u d1 d0 q))))
) := by kernel_rfl
noncomputable def D : KD := ⟨135, 4, 100, [2, 8, 9, 10, 11, 13, 14, 15, 16], [], fun _ => [], fun x ro => match x.vs, x.cars, ro with
 | [(2, .int .u64 y), (8, .int .u64 s), (9, .int .u64 y1), (10, .int .u64 y0), (11, .int .u64 u), (13, .int .u64 d1), (14, .int .u64 d0), (15, .int .u64 q), (16, .int .u64 r)], [], [] =>
  .need (Knuth.fitsB u y1 y0 d1 q r) (.out (.exit 0, stExit y s y1 y0 u d1 d0 (Knuth.dig u y1 y0 d1)))
 | _, _, _ => .no⟩
noncomputable def lp : LpK := ⟨206, 17, 0, D⟩
theorem lp_fine : LpFine Tryz.prog La 4 lp := by
 refine ⟨by kernel_rfl, fun c base I hP hn hG hI hIL x ro ex y e => ?_⟩
 obtain ⟨vs, cars⟩ := x
 simp only [lp, D] at e ⊢
 split at e
 ·rename_i y s y1 y0 u d1 d0 q r
  obtain ⟨g1, g2⟩ := GT.need_eval e
  cases g2
  refine Knuth.chain (st := fun q r => stA y s y1 y0 u d1 d0 q r) (en := fun q => stExit y s y1 y0 u d1 d0 q) (Knuth.fits_iff.1 g1) fun q r h => ?_
  have hr := round y s y1 y0 u d1 d0 q r
  dsimp only [] at hr
  rw [h.round (fun q r => some (Ex.normal, stA y s y1 y0 u d1 d0 q r)) (fun q => some (.exit 0, stExit y s y1 y0 u d1 d0 q))] at hr
  refine ⟨fun a b => ?_, fun a b => ?_, fun a => ?_⟩
  ·rw [if_pos a, if_pos b] at hr
   exact stepT prog_mix prog_names (by simp) (by simp) hP hn hG hI hIL hr
  ·rw [if_pos a, if_neg b] at hr
   exact stepT prog_mix prog_names (by simp) (by simp) hP hn hG hI hIL hr
  ·rw [if_neg a] at hr
   exact stepT prog_mix prog_names (by simp) (by simp) hP hn hG hI hIL hr
 ·cases e
end A206L0
end
section
open Go Go.Proofs
namespace A206L1
noncomputable def cfg : Cfg := cfgK Tryz.prog 4 (gpT []) (ltT 4 [])
def stA (y : Int) (s : Int) (y1 : Int) (y0 : Int) (d0 : Int) (q1 : Int) (r : Int) (u : Int) (q : Int) : KX := ⟨[(2, .int .u64 y), (8, .int .u64 s), (9, .int .u64 y1), (10, .int .u64 y0), (14, .int .u64 d0), (15, .int .u64 q1), (16, .int .u64 r), (17, .int .u64 u), (18, .int .u64 q)], []⟩
def stExit (y : Int) (s : Int) (y1 : Int) (y0 : Int) (d0 : Int) (q1 : Int) (u : Int) (q : Int) : KX := ⟨[(2, .int .u64 y), (8, .int .u64 s), (9, .int .u64 y1), (10, .int .u64 y0), (14, .int .u64 d0), (15, .int .u64 q1), (17, .int .u64 u), (18, .int .u64 q)], []⟩
def kp : Ex → List Nat
 | .normal => [2, 8, 9, 10, 14, 15, 16, 17, 18]
 | .exit _ => [2, 8, 9, 10, 14, 15, 17, 18]
 | _ => []
set_option maxRecDepth 1000000 in
theorem round (y : Int) (s : Int) (y1 : Int) (y0 : Int) (d0 : Int) (q1 : Int) (r : Int) (u : Int) (q : Int)  : rndK cfg [] [] 206 1 (stK 135 104 [] (stA y s y1 y0 d0 q1 r u q)) (endK 104 100 135 kp (fun _ _ => [])) = (let x1 := IntKind.wrap .u64 (r + y1); let x2 := IntKind.wrap .u64 (q - 1); (bif decide (q ≥ 4294967296) then (bif decide (x1 ≥ 4294967296) then (some (.exit 2, stExit y s y1 y0 d0 q1 u x2)) else (some (.normal, stA y s y1 y0 d0 q1 x1 u x2))) else (bif decide ((IntKind.wrap .u64 (q * y0)) > (IntKind.wrap .u64 ((IntKind.wrap .u64 (4294967296 * r)) + d0))) then (bif decide (x1 ≥ 4294967296) then (some (.exit 2, stExit y s y1 y0 d0 q1 u x2)) else (some (.normal, stA y s y1 y0 d0 q1 x1 u x2))) else (some (.exit 2, stExit y s y1 y0 d0 q1 u q))))
) := by kernel_rfl
noncomputable def D : KD := ⟨135, 104, 100, [2, 8, 9, 10, 14, 15, 16, 17, 18], [], fun _ => [], fun x ro => match x.vs, x.cars, ro with
 | [(2, .int .u64 y), (8, .int .u64 s), (9, .int .u64 y1), (10, .int .u64 y0), (14, .int .u64 d0), (15, .int .u64 q1), (16, .int .u64 r), (17, .int .u64 u), (18, .int .u64 q)], [], [] =>
  .need (Knuth.fitsB u y1 y0 d0 q r) (.out (.exit 2, stExit y s y1 y0 d0 q1 u (Knuth.dig u y1 y0 d0)))
 | _, _, _ => .no⟩
noncomputable def lp : LpK := ⟨206, 24, 1, D⟩
theorem lp_fine : LpFine Tryz.prog La 4 lp := by
 refine ⟨by kernel_rfl, fun c base I hP hn hG hI hIL x ro ex y e => ?_⟩
 obtain ⟨vs, cars⟩ := x
 simp only [lp, D] at e ⊢
 split at e
 ·rename_i y s y1 y0 d0 q1 r u q
  obtain ⟨g1, g2⟩ := GT.need_eval e
  cases g2
  refine Knuth.chain (st := fun q r => stA y s y1 y0 d0 q1 r u q) (en := fun q => stExit y s y1 y0 d0 q1 u q) (Knuth.fits_iff.1 g1) fun q r h => ?_
  have hr := round y s y1 y0 d0 q1 r u q
  dsimp only [] at hr
  rw [h.round (fun q r => some (Ex.normal, stA y s y1 y0 d0 q1 r u q)) (fun q => some (.exit 2, stExit y s y1 y0 d0 q1 u q))] at hr
  refine ⟨fun a b => ?_, fun a b => ?_, fun a => ?_⟩
  ·rw [if_pos a, if_pos b] at hr
   exact stepT prog_mix prog_names (by simp) (by simp) hP hn hG hI hIL hr
  ·rw [if_pos a, if_neg b] at hr
   exact stepT prog_mix prog_names (by simp) (by simp) hP hn hG hI hIL hr
  ·rw [if_neg a] at hr
   exact stepT prog_mix prog_names (by simp) (by simp) hP hn hG hI hIL hr
 ·cases e
end A206L1
end
section
open Go Go.Proofs
namespace A206g
noncomputable def T (a0 : Int) (a1 : Int) (a2 : Int) : GT Value := let x2 := IntKind.wrap .u64 (64 - (Int.ofNat (Go.Lib.bitLen (a2).toNat))); let x3 := IntKind.wrap .u64 (a2 * (2 ^ (min (x2).toNat 64))); let x4 := IntKind.wrap .u64 (Int.ofNat (BitVec.ofInt 64 (IntKind.wrap .u64 (a0 * (2 ^ (min (x2).toNat 64)))) ||| BitVec.ofInt 64 (Int.fdiv a1 (2 ^ (min ((IntKind.wrap .u64 (64 - x2))).toNat 64)))).toNat); let x5 := IntKind.wrap .u64 (Int.ofNat (BitVec.ofInt 64 (IntKind.wrap .u64 (a1 * (2 ^ (min (x2).toNat 64)))) &&& BitVec.ofInt 64 4294967295).toNat); let x6 := IntKind.wrap .u64 (Int.ofNat (BitVec.ofInt 64 x3 &&& BitVec.ofInt 64 4294967295).toNat); let x7 := Int.fdiv x3 4294967296; let x8 := Int.fdiv (IntKind.wrap .u64 (a1 * (2 ^ (min (x2).toNat 64)))) 4294967296; let x1 := IntKind.wrap .u64 ((IntKind.wrap .u64 ((IntKind.wrap .u64 (x4 * 4294967296)) + x8)) - (IntKind.wrap .u64 ((Knuth.dig x4 x7 x6 x8) * x3))); let x9 := IntKind.wrap .u64 (Int.tdiv x4 x7); let x10 := IntKind.wrap .u64 (Int.tdiv x1 x7); (.br ((a2 == 0)) .no (.br (decide (a2 ≤ a0)) .no (.br ((a0 == 0)) (.br ((!decide (a2 = 0))) (.br ((!decide (a2 = 0))) (.out (.tuple ([.int .u64 (IntKind.wrap .u64 (Int.tdiv a1 a2)), .int .u64 (Int.tmod a1 a2)]).toArray)) .no) .no) (.br ((decide (0 ≤ a2) && decide (a2 < 18446744073709551616))) (.br ((!decide (x2 < 0))) (.br ((!decide (x2 < 0))) (.br ((!decide ((IntKind.wrap .u64 (64 - x2)) < 0))) (.br ((!decide (x2 < 0))) (.br ((!decide (x7 = 0))) (.br ((Knuth.fitsB x4 x7 x6 x8 x9 (IntKind.wrap .u64 (x4 - (IntKind.wrap .u64 (x9 * x7)))))) (.br ((!decide (x7 = 0))) (.br ((Knuth.fitsB x1 x7 x6 x5 x10 (IntKind.wrap .u64 (x1 - (IntKind.wrap .u64 (x10 * x7)))))) (.br ((!decide (x2 < 0))) (.out (.tuple ([.int .u64 (IntKind.wrap .u64 ((IntKind.wrap .u64 ((Knuth.dig x4 x7 x6 x8) * 4294967296)) + (Knuth.dig x1 x7 x6 x5))), .int .u64 (Int.fdiv (IntKind.wrap .u64 ((IntKind.wrap .u64 ((IntKind.wrap .u64 (x1 * 4294967296)) + x5)) - (IntKind.wrap .u64 ((Knuth.dig x1 x7 x6 x5) * x3)))) (2 ^ (min (x2).toNat 64)))]).toArray)) .no) .no) .no) .no) .no) .no) .no) .no) .no) .no))))
set_option maxRecDepth 1000000 in
theorem run (a0 : Int) (a1 : Int) (a2 : Int) : runK 4 [(228, A228.spec)] [A206L0.lp, A206L1.lp] 206 [.v (.int .u64 a0), .v (.int .u64 a1), .v (.int .u64 a2)] = (T a0 a1 a2).eval := by kernel_rfl
theorem T_ok (h l y : Int) (hy : h < y) (h0 : 0 ≤ h) (l0 : 0 ≤ l) (l1 : l < 18446744073709551616) (y1 : y < 18446744073709551616) : (T h l y).eval = some (.tuple #[.int .u64 ((h * 18446744073709551616 + l) / y), .int .u64 ((h * 18446744073709551616 + l) % y)]) := by
 have hyp : 0 < y := by omega
 have c1 : (y == 0) = false := beq_eq_false_iff_ne.mpr (by omega)
 have c2 : decide (y ≤ h) = false := decide_eq_false (by omega)
 have c3 : decide (y = 0) = false := decide_eq_false (by omega)
 cases c4 : h == 0 with
 | true =>
  obtain rfl := beq_iff_eq.1 c4
  have e1 : Int.tdiv l y = l / y := Int.tdiv_eq_ediv_of_nonneg l0
  have e2 : Int.tmod l y = l % y := Int.tmod_eq_emod_of_nonneg l0
  have e3 : IntKind.wrap .u64 (l / y) = l / y := by
   have := Int.ediv_nonneg l0 (Int.le_of_lt hyp)
   have := Int.ediv_le_self y l0
   exact Bits.wrap_u (by omega) (by omega)
  unfold T
  simp only [GT.eval, c1, c2, c3, c4, cond_true, cond_false, Bool.not_false, e1, e2, e3, Int.zero_mul, Int.zero_add]
 | false =>
  obtain ⟨b1, b2, b3, b4⟩ := Knuth.len_pos y hyp y1
  generalize hbl : Lib.bitLen y.toNat = m at *
  obtain ⟨k, hk⟩ : ∃ k, 64 - m = k := ⟨_, rfl⟩
  have hk63 : k ≤ 63 := by omega
  rw [hk] at b3 b4
  obtain ⟨p1, p2, p3⟩ := Knuth.pows hk63
  obtain ⟨q1, q2, q3, q4, q5⟩ := Knuth.parts p1 p2 p3 h0 hy l0 l1 b4
  have s1 : IntKind.wrap .u64 (64 - Int.ofNat m) = (k : Int) := by
   show IntKind.wrap .u64 (64 - ((m : Nat) : Int)) = _
   rw [IntKind.wrap_u64]; omega
  have s2 : min ((k : Int)).toNat 64 = k := by rw [Int.toNat_natCast]; omega
  have s3 : IntKind.wrap .u64 (64 - (k : Int)) = ((64 - k : Nat) : Int) := by rw [IntKind.wrap_u64]; omega
  have s4 : min (((64 - k : Nat) : Int)).toNat 64 = 64 - k := by rw [Int.toNat_natCast]; omega
  have s5 : decide ((k : Int) < 0) = false := decide_eq_false (by omega)
  have s6 : decide ((((64 - k : Nat) : Int)) < 0) = false := decide_eq_false (by omega)
  have s7 : (decide (0 ≤ y) && decide (y < 18446744073709551616)) = true := by simp only [Bool.and_eq_true, decide_eq_true_eq]; omega
  have f1 : Int.fdiv l (2 ^ (64 - k)) = l / 2 ^ (64 - k) := Int.fdiv_eq_ediv_of_nonneg _ (by omega)
  have w1 : IntKind.wrap .u64 (y * 2 ^ k) = y * 2 ^ k := Bits.wrap_u (by omega) b4
  have w2 : IntKind.wrap .u64 (h * 2 ^ k) = h * 2 ^ k := Bits.wrap_u q5 (by omega)
  have w3 : IntKind.wrap .u64 (l * 2 ^ k) = (l * 2 ^ k) % 18446744073709551616 := by rw [IntKind.wrap_u64]
  have w4 := Bits.or_add k h0 q1 q2 (by omega)
  unfold T
  simp only [hbl, s1, s2, s3, s4, f1, w1, w2, w3, w4]
  generalize hu : h * 2 ^ k + l / 2 ^ (64 - k) = u at *
  generalize ht : (l * 2 ^ k) % 18446744073709551616 = t at *
  have t0 : 0 ≤ t ∧ t < 18446744073709551616 := by omega
  generalize hD : y * 2 ^ k = D at *
  have u0 : 0 ≤ u := by omega
  have f2 : Int.fdiv D 4294967296 = D / 4294967296 := Int.fdiv_eq_ediv_of_nonneg _ (by decide)
  have f3 : Int.fdiv t 4294967296 = t / 4294967296 := Int.fdiv_eq_ediv_of_nonneg _ (by decide)
  have m1 := Bits.and_mask 32 (by decide) (a := D) (m := 4294967295) (by decide) (by omega) (by omega)
  have m2 := Bits.and_mask 32 (by decide) (a := t) (m := 4294967295) (by decide) (by omega) (by omega)
  rw [show (2 : Int) ^ 32 = 4294967296 from rfl] at m1 m2
  simp only [f2, f3, m1, m2]
  have hDs : D = D / 4294967296 * 4294967296 + D % 4294967296 := by omega
  have hFit := Knuth.Fits.start (u := u) (y1 := D / 4294967296) (y0 := D % 4294967296) (d := t / 4294967296) u0 (by omega) (by omega) (by omega) (by omega) (by omega) (by omega) (by omega)
  have z1 : Int.tdiv u (D / 4294967296) = u / (D / 4294967296) := Int.tdiv_eq_ediv_of_nonneg u0
  obtain ⟨e1, e2, e3, e4⟩ := hFit.qlt
  have e5 := hFit.r0
  have e6 := hFit.rh
  have e7 : 0 ≤ u / (D / 4294967296) * (D / 4294967296) := Int.mul_nonneg e1 (by omega)
  have z2 : IntKind.wrap .u64 (u / (D / 4294967296)) = u / (D / 4294967296) := Bits.wrap_u e1 e3
  have z3 : IntKind.wrap .u64 (u - IntKind.wrap .u64 (u / (D / 4294967296) * (D / 4294967296))) = u - u / (D / 4294967296) * (D / 4294967296) := by
   rw [IntKind.wrap_u64, IntKind.wrap_u64]; omega
  have l1' := Knuth.left_eq (u := u) (y1 := D / 4294967296) (y0 := D % 4294967296) (d := t / 4294967296)
  rw [← hDs] at l1'
  have hDp : 0 < D := by omega
  have g1 := Int.emod_nonneg (u * 4294967296 + t / 4294967296) (show D ≠ 0 by omega)
  have g2 := Int.emod_lt_of_pos (u * 4294967296 + t / 4294967296) hDp
  have dn1 := hFit.nonneg
  have ds1 := hFit.small
  generalize hq : Knuth.dig u (D / 4294967296) (D % 4294967296) (t / 4294967296) = qa at *
  have z4 : IntKind.wrap .u64 (IntKind.wrap .u64 (IntKind.wrap .u64 (u * 4294967296) + t / 4294967296) - IntKind.wrap .u64 (qa * D)) = (u * 4294967296 + t / 4294967296) % D := by
   rw [Knuth.wrap_sub (by omega) (by omega), l1']
  have hqa : qa = (u * 4294967296 + t / 4294967296) / D := by rw [← hq]; unfold Knuth.dig; rw [← hDs]
  simp only [z1, z2, z3, z4, Knuth.fits_iff.2 hFit]
  generalize hv : (u * 4294967296 + t / 4294967296) % D = v at *
  have hFit2 := Knuth.Fits.start (u := v) (y1 := D / 4294967296) (y0 := D % 4294967296) (d := t % 4294967296) g1 (by omega) (by omega) (by omega) (by omega) (by omega) (by omega) (by omega)
  have y1' : Int.tdiv v (D / 4294967296) = v / (D / 4294967296) := Int.tdiv_eq_ediv_of_nonneg g1
  obtain ⟨i1, i2, i3, i4⟩ := hFit2.qlt
  have i5 := hFit2.r0
  have i6 := hFit2.rh
  have i7 : 0 ≤ v / (D / 4294967296) * (D / 4294967296) := Int.mul_nonneg i1 (by omega)
  have y2 : IntKind.wrap .u64 (v / (D / 4294967296)) = v / (D / 4294967296) := Bits.wrap_u i1 i3
  have y3 : IntKind.wrap .u64 (v - IntKind.wrap .u64 (v / (D / 4294967296) * (D / 4294967296))) = v - v / (D / 4294967296) * (D / 4294967296) := by
   rw [IntKind.wrap_u64, IntKind.wrap_u64]; omega
  have l2' := Knuth.left_eq (u := v) (y1 := D / 4294967296) (y0 := D % 4294967296) (d := t % 4294967296)
  rw [← hDs] at l2'
  have g3 := Int.emod_nonneg (v * 4294967296 + t % 4294967296) (show D ≠ 0 by omega)
  have g4 := Int.emod_lt_of_pos (v * 4294967296 + t % 4294967296) hDp
  have dn2 := hFit2.nonneg
  have ds2 := hFit2.small
  generalize hq2 : Knuth.dig v (D / 4294967296) (D % 4294967296) (t % 4294967296) = qb at *
  have y4 : IntKind.wrap .u64 (IntKind.wrap .u64 (IntKind.wrap .u64 (v * 4294967296) + t % 4294967296) - IntKind.wrap .u64 (qb * D)) = (v * 4294967296 + t % 4294967296) % D := by
   rw [Knuth.wrap_sub (by omega) (by omega), l2']
  have hqb : qb = (v * 4294967296 + t % 4294967296) / D := by rw [← hq2]; unfold Knuth.dig; rw [← hDs]
  have y5 : IntKind.wrap .u64 (IntKind.wrap .u64 (qa * 4294967296) + qb) = qa * 4294967296 + qb := by
   rw [IntKind.wrap_u64, IntKind.wrap_u64]; omega
  have d7 : decide (D / 4294967296 = 0) = false := decide_eq_false (by omega)
  simp only [y1', y2, y3, y4, y5, Knuth.fits_iff.2 hFit2, GT.eval, c1, c2, c4, s5, s6, s7, d7, cond_true, cond_false, Bool.not_false]
  obtain ⟨t1, t2⟩ := Knuth.two_digits (u := u) (D := D) (d1 := t / 4294967296) (d0 := t % 4294967296) hDp (by omega) (by omega)
  have hN : u * 4294967296 * 4294967296 + t / 4294967296 * 4294967296 + t % 4294967296 = (h * 18446744073709551616 + l) * 2 ^ k := by rw [← q4]; omega
  rw [hN, hv, ← hqa, ← hqb, ← hD, Int.mul_ediv_mul_of_pos_left _ _ p1] at t1
  have hm : ((h * 18446744073709551616 + l) * 2 ^ k) % (y * 2 ^ k) = (h * 18446744073709551616 + l) % y * 2 ^ k := by
   rw [Int.mul_comm _ (2 ^ k), Int.mul_comm y, Int.mul_emod_mul_of_pos _ _ p1, Int.mul_comm]
  rw [hN, hv, ← hD, hm] at t2
  rw [← hD, ← t2, ← t1]
  have f4 : Int.fdiv ((h * 18446744073709551616 + l) % y * 2 ^ k) (2 ^ k) = (h * 18446744073709551616 + l) % y := by
   rw [Int.fdiv_eq_ediv_of_nonneg _ (by omega), Int.mul_ediv_cancel _ (by omega)]
  rw [f4]
def spec : Spec := fun aa => match aa with
 | [.v (.int .u64 h), .v (.int .u64 a), .v (.int .u64 b)] => some (.need (decide (h < b) && (u64 h && (u64 a && u64 b))) (.out (.tuple #[.int .u64 ((h * 18446744073709551616 + a) / b), .int .u64 ((h * 18446744073709551616 + a) % b)])))
 | _ => none
theorem spec_ok : SpecOk Tryz.prog La 206 spec := ⟨fnOk_ok (by kernel_rfl), fun aa t v h e => by
 unfold spec at h
 split at h
 ·rename_i h0 a b
  cases h
  obtain ⟨g1, g2⟩ := GT.need_eval e
  cases g2
  unfold u64 at g1
  simp only [Bool.and_eq_true, decide_eq_true_eq] at g1
  obtain ⟨g1, ⟨g2, g3⟩, ⟨g4, g5⟩, g6, g7⟩ := g1
  exact ⟨rfl, callT (n0 := 4) (k := 12) La_below prog_mix prog_names (by simpa using A228.spec_ok) (by simpa using ⟨A206L0.lp_fine, A206L1.lp_fine⟩) (by decide) (by simp) rfl ((run _ _ _).trans (T_ok _ _ _ g1 g2 g4 g5 g7))⟩
 ·cases h⟩
end A206g
end
section
open Go Go.Proofs
namespace A205
def T (a0 : Int) : GT Value := let x1 := IntKind.wrap .u64 a0; (.br (decide (a0 < 0)) (.out (.int .u64 (IntKind.wrap .u64 (0 - x1)))) (.out (.int .u64 x1)))
set_option maxRecDepth 1000000 in
theorem run (a0 : Int) : runK 4 [] [] 205 [.v (.int .i64 a0)] = (T a0).eval := by kernel_rfl
theorem T_ok (a : Int) (h : inR a = true) : (T a).eval = some (.int .u64 (Ari.sizeA a)) := by
 unfold inR at h
 simp only [Bool.and_eq_true, decide_eq_true_eq] at h
 unfold T Ari.sizeA
 by_cases hn : a < 0
 ·have e : IntKind.wrap .u64 (0 - IntKind.wrap .u64 a) = -a := by rw [IntKind.wrap_u64, IntKind.wrap_u64]; omega
  simp only [GT.eval, decide_eq_true hn, cond_true, if_pos hn, e]
 ·have e : IntKind.wrap .u64 a = a := by rw [IntKind.wrap_u64]; omega
  simp only [GT.eval, decide_eq_false hn, cond_false, if_neg hn, e]
def spec : Spec := fun aa => match aa with
 | [.v (.int .i64 a)] => some (.need (inR a) (.out (.int .u64 (Ari.sizeA a))))
 | _ => none
theorem spec_ok : SpecOk Tryz.prog La 205 spec := ⟨fnOk_ok (by kernel_rfl), fun aa t v h e => by
 unfold spec at h
 split at h
 ·rename_i a
  cases h
  obtain ⟨g1, g2⟩ := GT.need_eval e
  cases g2
  exact ⟨rfl, callT (l := []) (L := []) (n0 := 4) (k := 12) La_below prog_mix prog_names (by simp) (by simp) (by decide) (by simp) rfl ((run _).trans (T_ok _ g1))⟩
 ·cases h⟩
end A205
end
section
open Go Go.Proofs
namespace A175
def T (a0 : Int) (a1 : Int) (a2 : Int) : GT Value := let x1 := IntKind.wrap .i64 ((((((Ari.sizeA a0) * (Ari.sizeA a1)) / 18446744073709551616) * 18446744073709551616) + (((Ari.sizeA a0) * (Ari.sizeA a1)) % 18446744073709551616)) / (Ari.sizeA a2)); let o1 : GT Value := (.out (.tuple ([.int .i64 x1, .bool (decide (((((((Ari.sizeA a0) * (Ari.sizeA a1)) / 18446744073709551616) * 18446744073709551616) + (((Ari.sizeA a0) * (Ari.sizeA a1)) % 18446744073709551616)) / (Ari.sizeA a2)) < 9223372036854775808))]).toArray)); (.br ((inR a0)) (.br ((inR a1)) (.br (((decide (0 ≤ (Ari.sizeA a0)) && decide ((Ari.sizeA a0) < 18446744073709551616)) && (decide (0 ≤ (Ari.sizeA a1)) && decide ((Ari.sizeA a1) < 18446744073709551616)))) (.br ((inR a2)) (.br (decide ((((Ari.sizeA a0) * (Ari.sizeA a1)) / 18446744073709551616) ≥ (Ari.sizeA a2))) (.out (.tuple ([.int .i64 0, .bool (false)]).toArray)) (.br ((decide ((((Ari.sizeA a0) * (Ari.sizeA a1)) / 18446744073709551616) < (Ari.sizeA a2)) && ((decide (0 ≤ (((Ari.sizeA a0) * (Ari.sizeA a1)) / 18446744073709551616)) && decide ((((Ari.sizeA a0) * (Ari.sizeA a1)) / 18446744073709551616) < 18446744073709551616)) && ((decide (0 ≤ (((Ari.sizeA a0) * (Ari.sizeA a1)) % 18446744073709551616)) && decide ((((Ari.sizeA a0) * (Ari.sizeA a1)) % 18446744073709551616) < 18446744073709551616)) && (decide (0 ≤ (Ari.sizeA a2)) && decide ((Ari.sizeA a2) < 18446744073709551616)))))) (.br ((((((((Ari.sizeA a0) * (Ari.sizeA a1)) / 18446744073709551616) * 18446744073709551616) + (((Ari.sizeA a0) * (Ari.sizeA a1)) % 18446744073709551616)) / (Ari.sizeA a2)) != 0)) (.br ((!((!(decide (a0 < 0) == decide (a1 < 0))) == decide (a2 < 0)))) (.out (.tuple ([.int .i64 (IntKind.wrap .i64 (IntKind.wrap .u64 (0 - ((((((Ari.sizeA a0) * (Ari.sizeA a1)) / 18446744073709551616) * 18446744073709551616) + (((Ari.sizeA a0) * (Ari.sizeA a1)) % 18446744073709551616)) / (Ari.sizeA a2))))), .bool (decide (((((((Ari.sizeA a0) * (Ari.sizeA a1)) / 18446744073709551616) * 18446744073709551616) + (((Ari.sizeA a0) * (Ari.sizeA a1)) % 18446744073709551616)) / (Ari.sizeA a2)) ≤ 9223372036854775808))]).toArray)) o1) o1) .no)) .no) .no) .no) .no)
set_option maxRecDepth 1000000 in
theorem run (a0 : Int) (a1 : Int) (a2 : Int) : runK 4 [(204, spec204), (206, A206g.spec), (205, A205.spec)] [] 175 [.v (.int .i64 a0), .v (.int .i64 a1), .v (.int .i64 a2)] = (T a0 a1 a2).eval := by kernel_rfl
theorem T_ok (a b d : Int) (ha : inR a = true) (hb : inR b = true) (hd : inR d = true) (h0 : d ≠ 0) : (T a b d).eval = some (.tuple #[.int .i64 (Ari.mdV a b d).1, .bool (Ari.mdV a b d).2]) := by
 obtain ⟨n0, n1⟩ := Ari.prod_ok ha hb
 have a1 := Ari.size_ok ha
 have b1 := Ari.size_ok hb
 have d1 := Ari.size_ok hd
 have dp := Ari.size_pos hd h0
 unfold T Ari.mdV
 have hle : (Ari.sizeA a * Ari.sizeA b / 18446744073709551616 ≥ Ari.sizeA d) ↔ Ari.sizeA a * Ari.sizeA b / Ari.sizeA d ≥ 18446744073709551616 := by
  show Ari.sizeA d ≤ _ ↔ 18446744073709551616 ≤ _
  rw [Int.le_ediv_iff_mul_le (by decide), Int.le_ediv_iff_mul_le dp, Int.mul_comm]
 have e1 : Ari.sizeA a * Ari.sizeA b / 18446744073709551616 * 18446744073709551616 + Ari.sizeA a * Ari.sizeA b % 18446744073709551616 = Ari.sizeA a * Ari.sizeA b := by omega
 have e2 : (decide (0 ≤ Ari.sizeA a) && decide (Ari.sizeA a < 18446744073709551616) && (decide (0 ≤ Ari.sizeA b) && decide (Ari.sizeA b < 18446744073709551616))) = true := by simp only [Bool.and_eq_true, decide_eq_true_eq]; omega
 have hq : 0 ≤ Ari.sizeA a * Ari.sizeA b / Ari.sizeA d := Int.ediv_nonneg n0 (Int.le_of_lt dp)
 simp only [GT.eval, ha, hb, hd, e1, e2, cond_true]
 by_cases hc : Ari.sizeA a * Ari.sizeA b / 18446744073709551616 ≥ Ari.sizeA d
 ·rw [decide_eq_true hc, decide_eq_true (hle.1 hc)]; rfl
 ·have hc' := fun g => hc (hle.2 g)
  rw [decide_eq_false hc, decide_eq_false hc']
  have e3 : (decide (Ari.sizeA a * Ari.sizeA b / 18446744073709551616 < Ari.sizeA d) && (decide (0 ≤ Ari.sizeA a * Ari.sizeA b / 18446744073709551616) && decide (Ari.sizeA a * Ari.sizeA b / 18446744073709551616 < 18446744073709551616) && (decide (0 ≤ Ari.sizeA a * Ari.sizeA b % 18446744073709551616) && decide (Ari.sizeA a * Ari.sizeA b % 18446744073709551616 < 18446744073709551616) && (decide (0 ≤ Ari.sizeA d) && decide (Ari.sizeA d < 18446744073709551616))))) = true := by
   simp only [Bool.and_eq_true, decide_eq_true_eq]; omega
  simp only [e3, cond_true, cond_false]
  unfold Ari.below
  generalize Ari.sizeA a * Ari.sizeA b / Ari.sizeA d = q at *
  have e4 : IntKind.wrap .i64 (IntKind.wrap .u64 (0 - q)) = IntKind.wrap .i64 (-q) := by
   rw [IntKind.wrap_u64, IntKind.wrap_i64, IntKind.wrap_i64]; omega
  rw [e4]
  cases q != 0 <;> cases (!((!(decide (a < 0) == decide (b < 0))) == decide (d < 0))) <;> rfl
def spec : Spec := fun aa => match aa with
 | [.v (.int .i64 a), .v (.int .i64 b), .v (.int .i64 d)] => some (.need (inR a && (inR b && (inR d && !(d == 0)))) (.out (.tuple #[.int .i64 (Ari.mdV a b d).1, .bool (Ari.mdV a b d).2])))
 | _ => none
theorem spec_ok : SpecOk Tryz.prog La 175 spec := ⟨fnOk_ok (by kernel_rfl), fun aa t v h e => by
 unfold spec at h
 split at h
 ·rename_i a b d
  cases h
  obtain ⟨g1, g2⟩ := GT.need_eval e
  cases g2
  simp only [Bool.and_eq_true, Bool.not_eq_true', beq_eq_false_iff_ne] at g1
  obtain ⟨g1, g2, g3, g4⟩ := g1
  exact ⟨rfl, callT (n0 := 4) (k := 12) La_below prog_mix prog_names (by simpa using ⟨spec204_ok, A206g.spec_ok, A205.spec_ok⟩) (by simp) (by decide) (by simp) rfl ((run _ _ _).trans (T_ok _ _ _ g1 g2 g3 g4))⟩
 ·cases h⟩
end A175
end
section
open Go Go.Proofs
namespace A161
def T (k0 n0 : Int) (s0 : ByteArray) (k1 n1 : Int) (s1 : ByteArray) : GT Value := let x1 := if k1 > k0 then k1 else k0; let x2 := Ari.mdV n0 n1 10000; let o1 : GT Value := (.out (.tuple ([.agg ([.int .i64 0, .int .i64 0, .string ⟨([]).toArray⟩]).toArray, .int .i64 0]).toArray)); let o2 : GT Value := (.out (.tuple ([.agg ([.int .i64 0, .int .i64 0, .string ⟨([]).toArray⟩]).toArray, .int .i64 20]).toArray)); let o3 : GT Value := (.br (((inR n0) && ((inR n1) && true))) (.br ((!(Ari.mdV n0 n1 1).2)) o2 (.out (.tuple ([.agg ([.int .i64 x1, .int .i64 (Ari.mdV n0 n1 1).1, .string ⟨([]).toArray⟩]).toArray, .int .i64 0]).toArray))) .no); let o4 : GT Value := (.br ((k0 == 0)) o1 (.br ((k1 == 0)) o1 (.br ((k0 == 3)) (.br ((k1 == 3)) (.br (((inR n0) && ((inR n1) && true))) (.br ((!x2.2)) o2 (.out (.tuple ([.agg ([.int .i64 x1, .int .i64 x2.1, .string ⟨([]).toArray⟩]).toArray, .int .i64 0]).toArray))) .no) o3) o3))); let o5 : GT Value := (.out (.tuple ([.agg ([.int .i64 0, .int .i64 0, .string ⟨([]).toArray⟩]).toArray, .int .i64 22]).toArray)); let o6 : GT Value := (.br ((k1 == 2)) o4 (.br ((!(k1 == 3))) (.br ((k1 != 0)) o5 o4) o4)); (.br ((k0 == 2)) o6 (.br ((!(k0 == 3))) (.br ((k0 != 0)) o5 o6) o6))
set_option maxRecDepth 1000000 in
theorem run (k0 n0 : Int) (s0 : ByteArray) (k1 n1 : Int) (s1 : ByteArray) : runK 4 [(175, A175.spec)] [] 161 [.v (.agg #[.int .i64 k0, .int .i64 n0, .string s0]), .v (.agg #[.int .i64 k1, .int .i64 n1, .string s1])] = (T k0 n0 s0 k1 n1 s1).eval := by kernel_rfl
set_option maxHeartbeats 0 in
theorem T_ok (a b : W3) (ha : inR a.2.1 = true) (hb : inR b.2.1 = true) : (T a.1 a.2.1 a.2.2 b.1 b.2.1 b.2.2).eval = some (ve (Ari.mulV a b)) := by
 obtain ⟨k, n, s⟩ := a
 obtain ⟨k', n', s'⟩ := b
 dsimp only [] at ha hb ⊢
 unfold T Ari.mulV Ref.firstV
 obtain ⟨e1, e2⟩ := Ari.md_eq ha hb (show inR 10000 = true by decide) (by decide)
 obtain ⟨e3, e4⟩ := Ari.md_eq ha hb (show inR 1 = true by decide) (by decide)
 simp only [GT.eval, ha, hb]
 generalize Ari.mdV n n' 10000 = m at *
 generalize Ari.quot n n' 10000 = q at *
 generalize Ari.mdV n n' 1 = m' at *
 generalize Ari.quot n n' 1 = q' at *
 obtain ⟨m1, m2⟩ := m
 obtain ⟨q1, q2⟩ := q
 obtain ⟨m3, m4⟩ := m'
 obtain ⟨q3, q4⟩ := q'
 dsimp only [] at e1 e2 e3 e4 ⊢
 subst e1 e3
 unfold Ari.ofV
 cases m2 <;> cases m4
 ·rcases Ari.kinds k with rfl | rfl | rfl | ⟨g1, g2, g3, g4, g5⟩ <;> rcases Ari.kinds k' with rfl | rfl | rfl | ⟨f1, f2, f3, f4, f5⟩ <;>
   (try simp only [g1, g2, g3, g4, g5]) <;> (try simp only [f1, f2, f3, f4, f5]) <;> rfl
 ·obtain ⟨rfl, _⟩ := e4 rfl
  rcases Ari.kinds k with rfl | rfl | rfl | ⟨g1, g2, g3, g4, g5⟩ <;> rcases Ari.kinds k' with rfl | rfl | rfl | ⟨f1, f2, f3, f4, f5⟩ <;>
   (try simp only [g1, g2, g3, g4, g5]) <;> (try simp only [f1, f2, f3, f4, f5]) <;> rfl
 ·obtain ⟨rfl, _⟩ := e2 rfl
  rcases Ari.kinds k with rfl | rfl | rfl | ⟨g1, g2, g3, g4, g5⟩ <;> rcases Ari.kinds k' with rfl | rfl | rfl | ⟨f1, f2, f3, f4, f5⟩ <;>
   (try simp only [g1, g2, g3, g4, g5]) <;> (try simp only [f1, f2, f3, f4, f5]) <;> rfl
 ·obtain ⟨rfl, _⟩ := e2 rfl
  obtain ⟨rfl, _⟩ := e4 rfl
  rcases Ari.kinds k with rfl | rfl | rfl | ⟨g1, g2, g3, g4, g5⟩ <;> rcases Ari.kinds k' with rfl | rfl | rfl | ⟨f1, f2, f3, f4, f5⟩ <;>
   (try simp only [g1, g2, g3, g4, g5]) <;> (try simp only [f1, f2, f3, f4, f5]) <;> rfl
def spec : Spec := fun aa => match aa with
 | [a, b] => (vOf a).bind fun x => (vOf b).bind fun y => some (.need (inR x.2.1 && inR y.2.1) (.out (ve (Ari.mulV x y))))
 | _ => none
theorem spec_ok : SpecOk Tryz.prog La 161 spec := ⟨fnOk_ok (by kernel_rfl), fun aa t v h e => by
 unfold spec at h
 split at h
 ·rename_i a b
  obtain ⟨x, h1, h⟩ := opt_bind h
  obtain ⟨y, h2, h⟩ := opt_bind h
  cases h
  obtain ⟨g1, g2⟩ := GT.need_eval e
  cases g2
  rw [Bool.and_eq_true] at g1
  rw [vOf_ok h1, vOf_ok h2]
  exact ⟨rfl, callT (n0 := 4) (k := 12) La_below prog_mix prog_names (by simpa using A175.spec_ok) (by simp) (by decide) (by simp) rfl ((run _ _ _ _ _ _).trans (T_ok x y g1.1 g1.2))⟩
 ·cases h⟩
end A161
end
section
open Go Go.Proofs
namespace A195
def T (k0 n0 : Int) (s0 : ByteArray) (k1 n1 : Int) (s1 : ByteArray) : GT Value := let o1 : GT Value := (.out (.tuple ([.bool ((k1 == 0)), .int .i64 0]).toArray)); let o2 : GT Value := (.br ((k0 == 0)) (.out (.tuple ([.bool (true), .int .i64 0]).toArray)) (.br ((!(k1 == 0))) (.br ((n1 == 0)) (.out (.tuple ([.bool ((k1 == 0)), .int .i64 21]).toArray)) o1) o1)); let o3 : GT Value := (.out (.tuple ([.bool (false), .int .i64 22]).toArray)); let o4 : GT Value := (.br ((k1 == 2)) o2 (.br ((!(k1 == 3))) (.br ((k1 != 0)) o3 o2) o2)); (.br ((k0 == 2)) o4 (.br ((!(k0 == 3))) (.br ((k0 != 0)) o3 o4) o4))
set_option maxRecDepth 1000000 in
theorem run (k0 n0 : Int) (s0 : ByteArray) (k1 n1 : Int) (s1 : ByteArray) : runK 4 [] [] 195 [.v (.agg #[.int .i64 k0, .int .i64 n0, .string s0]), .v (.agg #[.int .i64 k1, .int .i64 n1, .string s1])] = (T k0 n0 s0 k1 n1 s1).eval := by kernel_rfl
theorem T_ok (a b : W3) : (T a.1 a.2.1 a.2.2 b.1 b.2.1 b.2.2).eval = some (.tuple #[.bool (Ref.zeroV a.1 b.1 b.2.1).1, .int .i64 (Ref.zeroV a.1 b.1 b.2.1).2]) := by
 obtain ⟨k, n, s⟩ := a
 obtain ⟨k', n', s'⟩ := b
 unfold T Ref.zeroV
 dsimp only []
 simp only [GT.eval]
 rcases Ari.kinds k with rfl | rfl | rfl | ⟨e1, e2, e3, e4, e5⟩ <;> rcases Ari.kinds k' with rfl | rfl | rfl | ⟨f1, f2, f3, f4, f5⟩ <;>
  (try simp only [e1, e2, e3, e4, e5]) <;> (try simp only [f1, f2, f3, f4, f5]) <;> (try rfl) <;> (cases n' == 0 <;> rfl)
def spec : Spec := fun aa => match aa with
 | [a, b] => (vOf a).bind fun x => (vOf b).bind fun y => some (.out (.tuple #[.bool (Ref.zeroV x.1 y.1 y.2.1).1, .int .i64 (Ref.zeroV x.1 y.1 y.2.1).2]))
 | _ => none
theorem spec_ok : SpecOk Tryz.prog La 195 spec := ⟨fnOk_ok (by kernel_rfl), fun aa t v h e => by
 unfold spec at h
 split at h
 ·rename_i a b
  obtain ⟨x, h1, h⟩ := opt_bind h
  obtain ⟨y, h2, h⟩ := opt_bind h
  cases h; cases e
  rw [vOf_ok h1, vOf_ok h2]
  exact ⟨rfl, callT (l := []) (L := []) (n0 := 4) (k := 12) La_below prog_mix prog_names (by simp) (by simp) (by decide) (by simp) rfl ((run _ _ _ _ _ _).trans (T_ok x y))⟩
 ·cases h⟩
end A195
end
section
open Go Go.Proofs
namespace A162
def T (k0 n0 : Int) (s0 : ByteArray) (k1 n1 : Int) (s1 : ByteArray) : GT Value := let x1 := Ari.mdV (A127.dec k0 n0).1 10000 (A127.dec k1 n1).1; let o1 : GT Value := (.out (.tuple ([.agg ([.int .i64 0, .int .i64 0, .string ⟨([]).toArray⟩]).toArray, .int .i64 (Ref.zeroV k0 k1 n1).2]).toArray)); let o2 : GT Value := (.out (.tuple ([.agg ([.int .i64 0, .int .i64 0, .string ⟨([]).toArray⟩]).toArray, .int .i64 20]).toArray)); let o3 : GT Value := (.br ((((k0 == 2) || (k0 == 3)) && (inR n0))) (.br ((((k1 == 2) || (k1 == 3)) && (inR n1))) (.br ((A127.dec k0 n0).2) (.br ((!(A127.dec k1 n1).2)) o2 (.br (((inR (A127.dec k0 n0).1) && (true && ((inR (A127.dec k1 n1).1) && (!((A127.dec k1 n1).1 == 0)))))) (.br ((!x1.2)) o2 (.out (.tuple ([.agg ([.int .i64 3, .int .i64 x1.1, .string ⟨([]).toArray⟩]).toArray, .int .i64 0]).toArray))) .no)) o2) .no) .no); (.br (((Ref.zeroV k0 k1 n1).2 != 0)) o1 (.br ((Ref.zeroV k0 k1 n1).1) o1 (.br ((k0 == 2)) (.br ((k1 == 2)) (.br (((inR n0) && (true && ((inR n1) && (!(n1 == 0)))))) (.br ((!(Ari.mdV n0 1 n1).2)) o2 (.out (.tuple ([.agg ([.int .i64 2, .int .i64 (Ari.mdV n0 1 n1).1, .string ⟨([]).toArray⟩]).toArray, .int .i64 0]).toArray))) .no) o3) o3)))
set_option maxRecDepth 1000000 in
theorem run (k0 n0 : Int) (s0 : ByteArray) (k1 n1 : Int) (s1 : ByteArray) : runK 4 [(127, A127.spec), (195, A195.spec), (175, A175.spec)] [] 162 [.v (.agg #[.int .i64 k0, .int .i64 n0, .string s0]), .v (.agg #[.int .i64 k1, .int .i64 n1, .string s1])] = (T k0 n0 s0 k1 n1 s1).eval := by kernel_rfl
set_option maxHeartbeats 0 in
theorem T_ok (a b : W3) (ha : inR a.2.1 = true) (hb : inR b.2.1 = true) : (T a.1 a.2.1 a.2.2 b.1 b.2.1 b.2.2).eval = some (ve (Ari.divV a b)) := by
 obtain ⟨k, n, s⟩ := a
 obtain ⟨k', n', s'⟩ := b
 dsimp only [] at ha hb ⊢
 unfold T Ari.divV
 have hz : (Ref.firstV k k' n' true).2 = ((Ref.zeroV k k' n').2 != 0 || (Ref.zeroV k k' n').1) ∧ (Ref.firstV k k' n' true).1 = (Ref.zeroV k k' n').2 := by
  unfold Ref.firstV Ref.zeroV
  cases Ari.bad k || Ari.bad k' <;> cases k == 0 || k' == 0 <;> cases n' == 0 <;> exact ⟨rfl, rfl⟩
 rw [hz.1, hz.2]
 simp only [GT.eval, ha, hb]
 cases h2 : (Ref.zeroV k k' n').2 != 0
 rotate_left
 ·rfl
 cases h1 : (Ref.zeroV k k' n').1
 rotate_left
 ·rfl
 have hn := Ari.zero_ne h1 h2
 have hn0 : (n' == 0) = false := beq_eq_false_iff_ne.2 hn
 have hb' : Ari.bad k = false ∧ Ari.bad k' = false ∧ (k == 0) = false ∧ (k' == 0) = false := by
  unfold Ref.zeroV at h1 h2
  cases q1 : Ari.bad k <;> cases q2 : Ari.bad k' <;> cases q3 : k == 0 <;> cases q4 : k' == 0 <;> rw [q1, q2, q3, q4] at h1 h2 <;> first | (cases h1; done) | (cases h2; done) | exact ⟨rfl, rfl, rfl, rfl⟩
 obtain ⟨b1, b2, b3, b4⟩ := hb'
 have hk : k = 2 ∨ k = 3 := by
  rcases Ari.kinds k with rfl | h | h | ⟨h, _⟩
  ·cases b3
  ·exact .inl h
  ·exact .inr h
  ·rw [b1] at h; cases h
 have hk' : k' = 2 ∨ k' = 3 := by
  rcases Ari.kinds k' with rfl | h | h | ⟨h, _⟩
  ·cases b4
  ·exact .inl h
  ·exact .inr h
  ·rw [b2] at h; cases h
 obtain ⟨d1, d2⟩ := Ari.dec_eq hk ha
 obtain ⟨d3, d4⟩ := Ari.dec_eq hk' hb
 have hd := Ari.dec_ne (k := k') hn
 obtain ⟨m1, m2⟩ := Ari.md_eq ha (show inR 1 = true by decide) hb hn
 have m3 : (Ref.decR k n).2 = true → (Ref.decR k' n').2 = true → (Ari.mdV (A127.dec k n).1 10000 (A127.dec k' n').1).2 = (Ari.quot (Ref.decR k n).1 10000 (Ref.decR k' n').1).2 ∧ ((Ari.quot (Ref.decR k n).1 10000 (Ref.decR k' n').1).2 = true → (Ari.mdV (A127.dec k n).1 10000 (A127.dec k' n').1).1 = (Ari.quot (Ref.decR k n).1 10000 (Ref.decR k' n').1).1) := fun x y => by
  rw [(d2 x).1, (d4 y).1]
  obtain ⟨r1, r2⟩ := Ari.md_eq (d2 x).2 (show inR 10000 = true by decide) (d4 y).2 (hd y)
  exact ⟨r1, fun h => (r2 h).1⟩
 have i1 : (Ref.decR k n).2 = true → inR (A127.dec k n).1 = true := fun h => by rw [(d2 h).1]; exact (d2 h).2
 have i2 : (Ref.decR k' n').2 = true → inR (A127.dec k' n').1 = true ∧ ((A127.dec k' n').1 == 0) = false := fun h => by rw [(d4 h).1]; exact ⟨(d4 h).2, beq_eq_false_iff_ne.2 (hd h)⟩
 have kk : ((k == 2) || (k == 3)) = true := by rcases hk with rfl | rfl <;> rfl
 have kk' : ((k' == 2) || (k' == 3)) = true := by rcases hk' with rfl | rfl <;> rfl
 simp only [hn0, kk, kk', d1, d3, cond_false, Bool.not_false, Bool.and_self, cond_true, Bool.true_and]
 generalize A127.dec k n = p at *
 generalize A127.dec k' n' = q at *
 generalize Ref.decR k n = p' at *
 generalize Ref.decR k' n' = q' at *
 obtain ⟨x', ox⟩ := p'
 obtain ⟨y', oy⟩ := q'
 dsimp only [] at m3 i1 i2 ⊢
 generalize Ari.mdV p.1 10000 q.1 = u at *
 generalize Ari.quot x' 10000 y' = u' at *
 generalize Ari.mdV n 1 n' = v at *
 generalize Ari.quot n 1 n' = v' at *
 obtain ⟨u1, u2⟩ := u
 obtain ⟨u3, u4⟩ := u'
 obtain ⟨v1, v2⟩ := v
 obtain ⟨v3, v4⟩ := v'
 dsimp only [] at m1 m2 m3 ⊢
 subst m1
 unfold Ari.ofV
 have hv : v2 = true → v1 = v3 := fun h => (m2 h).1
 cases ox
 ·cases v2
  ·cases k == 2 <;> cases k' == 2 <;> rfl
  ·obtain rfl := hv rfl
   cases k == 2 <;> cases k' == 2 <;> rfl
 cases oy
 ·simp only [i1 rfl]
  cases v2
  ·cases k == 2 <;> cases k' == 2 <;> rfl
  ·obtain rfl := hv rfl
   cases k == 2 <;> cases k' == 2 <;> rfl
 obtain ⟨m4, m5⟩ := m3 rfl rfl
 subst m4
 simp only [i1 rfl, (i2 rfl).1, (i2 rfl).2]
 cases v2
 ·cases u2
  ·cases k == 2 <;> cases k' == 2 <;> rfl
  ·obtain rfl := m5 rfl
   cases k == 2 <;> cases k' == 2 <;> rfl
 ·obtain rfl := hv rfl
  cases u2
  ·cases k == 2 <;> cases k' == 2 <;> rfl
  ·obtain rfl := m5 rfl
   cases k == 2 <;> cases k' == 2 <;> rfl
def spec : Spec := fun aa => match aa with
 | [a, b] => (vOf a).bind fun x => (vOf b).bind fun y => some (.need (inR x.2.1 && inR y.2.1) (.out (ve (Ari.divV x y))))
 | _ => none
theorem spec_ok : SpecOk Tryz.prog La 162 spec := ⟨fnOk_ok (by kernel_rfl), fun aa t v h e => by
 unfold spec at h
 split at h
 ·rename_i a b
  obtain ⟨x, h1, h⟩ := opt_bind h
  obtain ⟨y, h2, h⟩ := opt_bind h
  cases h
  obtain ⟨g1, g2⟩ := GT.need_eval e
  cases g2
  rw [Bool.and_eq_true] at g1
  rw [vOf_ok h1, vOf_ok h2]
  exact ⟨rfl, callT (n0 := 4) (k := 12) La_below prog_mix prog_names (by simpa using ⟨A127.spec_ok, A195.spec_ok, A175.spec_ok⟩) (by simp) (by decide) (by simp) rfl ((run _ _ _ _ _ _).trans (T_ok x y g1.1 g1.2))⟩
 ·cases h⟩
end A162
end
section
open Go Go.Proofs
namespace A163
def T (k0 n0 : Int) (s0 : ByteArray) (k1 n1 : Int) (s1 : ByteArray) : GT Value := let x1 := Int.tmod (A127.dec k0 n0).1 (A127.dec k1 n1).1; let o1 : GT Value := (.out (.tuple ([.agg ([.int .i64 0, .int .i64 0, .string ⟨([]).toArray⟩]).toArray, .int .i64 (Ref.zeroV k0 k1 n1).2]).toArray)); let o2 : GT Value := (.out (.tuple ([.agg ([.int .i64 0, .int .i64 0, .string ⟨([]).toArray⟩]).toArray, .int .i64 0]).toArray)); let o3 : GT Value := (.out (.tuple ([.agg ([.int .i64 0, .int .i64 0, .string ⟨([]).toArray⟩]).toArray, .int .i64 20]).toArray)); let o4 : GT Value := (.br ((((k0 == 2) || (k0 == 3)) && (inR n0))) (.br ((((k1 == 2) || (k1 == 3)) && (inR n1))) (.br ((A127.dec k0 n0).2) (.br ((!(A127.dec k1 n1).2)) o3 (.br (((A127.dec k1 n1).1 == (-1))) (.out (.tuple ([.agg ([.int .i64 3, .int .i64 0, .string ⟨([]).toArray⟩]).toArray, .int .i64 0]).toArray)) (.br ((!decide ((A127.dec k1 n1).1 = 0))) (.out (.tuple ([.agg ([.int .i64 3, .int .i64 x1, .string ⟨([]).toArray⟩]).toArray, .int .i64 0]).toArray)) .no))) o3) .no) .no); let o5 : GT Value := (.br ((k0 == 0)) o2 (.br ((k1 == 0)) o2 (.br ((k0 == 2)) (.br ((k1 == 2)) (.br ((n1 == (-1))) (.out (.tuple ([.agg ([.int .i64 2, .int .i64 0, .string ⟨([]).toArray⟩]).toArray, .int .i64 0]).toArray)) (.br ((!decide (n1 = 0))) (.out (.tuple ([.agg ([.int .i64 2, .int .i64 (Int.tmod n0 n1), .string ⟨([]).toArray⟩]).toArray, .int .i64 0]).toArray)) .no)) o4) o4))); let o6 : GT Value := (.out (.tuple ([.agg ([.int .i64 0, .int .i64 0, .string ⟨([]).toArray⟩]).toArray, .int .i64 22]).toArray)); let o7 : GT Value := (.br ((k1 == 2)) o5 (.br ((!(k1 == 3))) (.br ((k1 != 0)) o6 o5) o5)); (.br (((Ref.zeroV k0 k1 n1).2 != 0)) o1 (.br ((Ref.zeroV k0 k1 n1).1) o1 (.br ((k0 == 2)) o7 (.br ((!(k0 == 3))) (.br ((k0 != 0)) o6 o7) o7))))
set_option maxRecDepth 1000000 in
theorem run (k0 n0 : Int) (s0 : ByteArray) (k1 n1 : Int) (s1 : ByteArray) : runK 4 [(127, A127.spec), (195, A195.spec)] [] 163 [.v (.agg #[.int .i64 k0, .int .i64 n0, .string s0]), .v (.agg #[.int .i64 k1, .int .i64 n1, .string s1])] = (T k0 n0 s0 k1 n1 s1).eval := by kernel_rfl
set_option maxHeartbeats 0 in
theorem T_ok (a b : W3) (ha : inR a.2.1 = true) (hb : inR b.2.1 = true) : (T a.1 a.2.1 a.2.2 b.1 b.2.1 b.2.2).eval = some (ve (Ari.modV a b)) := by
 obtain ⟨k, n, s⟩ := a
 obtain ⟨k', n', s'⟩ := b
 unfold T Ari.modV
 dsimp only [] at ha hb ⊢
 simp only [GT.eval, ha, hb]
 cases hz : (Ref.zeroV k k' n').2 != 0
 rotate_left
 ·rfl
 cases hz1 : (Ref.zeroV k k' n').1
 rotate_left
 ·rfl
 have hn := Ari.zero_ne hz1 hz
 have hd : (k' = 2 ∨ k' = 3) → (A127.dec k' n').2 = true → (A127.dec k' n').1 ≠ 0 := fun h => Ari.dec_ne' h hb hn
 simp only [cond_false, decide_eq_false hn, Bool.not_false, cond_true]
 clear hz hz1
 unfold Ari.twoV Ari.ofV Ari.left Ari.rem
 dsimp only []
 generalize A127.dec k n = p at *
 generalize A127.dec k' n' = q at *
 obtain ⟨x, ox⟩ := p
 obtain ⟨y, oy⟩ := q
 dsimp only [] at hd ⊢
 have e1 : (n' == -1) = !(n' != -1) := by cases h : n' == -1 <;> simp [bne, h]
 have e2 : (y == -1) = !(y != -1) := by cases h : y == -1 <;> simp [bne, h]
 rw [e1, e2]
 cases oy
 ·rcases Ari.kinds k with rfl | rfl | rfl | ⟨g1, g2, g3, g4, g5⟩ <;> rcases Ari.kinds k' with rfl | rfl | rfl | ⟨f1, f2, f3, f4, f5⟩ <;>
   (try simp only [g1, g2, g3, g4, g5]) <;> (try simp only [f1, f2, f3, f4, f5]) <;> (try rfl) <;> (cases n' != -1 <;> cases ox <;> rfl)
 ·rcases Ari.kinds k with rfl | rfl | rfl | ⟨g1, g2, g3, g4, g5⟩ <;> rcases Ari.kinds k' with rfl | rfl | rfl | ⟨f1, f2, f3, f4, f5⟩ <;>
   (try simp only [g1, g2, g3, g4, g5]) <;> (try simp only [f1, f2, f3, f4, f5]) <;> (try rfl) <;> (try simp only [decide_eq_false (hd (.inl rfl) rfl)]) <;> (try simp only [decide_eq_false (hd (.inr rfl) rfl)]) <;> (cases n' != -1 <;> cases y != -1 <;> cases ox <;> rfl)
def spec : Spec := fun aa => match aa with
 | [a, b] => (vOf a).bind fun x => (vOf b).bind fun y => some (.need (inR x.2.1 && inR y.2.1) (.out (ve (Ari.modV x y))))
 | _ => none
theorem spec_ok : SpecOk Tryz.prog La 163 spec := ⟨fnOk_ok (by kernel_rfl), fun aa t v h e => by
 unfold spec at h
 split at h
 ·rename_i a b
  obtain ⟨x, h1, h⟩ := opt_bind h
  obtain ⟨y, h2, h⟩ := opt_bind h
  cases h
  obtain ⟨g1, g2⟩ := GT.need_eval e
  cases g2
  rw [Bool.and_eq_true] at g1
  rw [vOf_ok h1, vOf_ok h2]
  exact ⟨rfl, callT (n0 := 4) (k := 12) La_below prog_mix prog_names (by simpa using ⟨A127.spec_ok, A195.spec_ok⟩) (by simp) (by decide) (by simp) rfl ((run _ _ _ _ _ _).trans (T_ok x y g1.1 g1.2))⟩
 ·cases h⟩
end A163
end
section
open Go Go.Proofs
namespace A164
def T (k0 n0 : Int) (s0 : ByteArray) (k1 n1 : Int) (s1 : ByteArray) : GT Value := let o1 : GT Value := (.out (.agg ([.int .i64 0, .int .i64 0, .string ⟨([]).toArray⟩]).toArray)); let o2 : GT Value := (.out (.agg ([.int .i64 1, .int .i64 0, .string ⟨([]).toArray⟩]).toArray)); (.br ((k0 != 1)) (.br ((k1 != 1)) o1 (.br ((n1 != 0)) o1 o2)) (.br ((n0 != 0)) (.br ((k1 != 1)) o1 (.br ((n1 != 0)) (.out (.agg ([.int .i64 1, .int .i64 1, .string ⟨([]).toArray⟩]).toArray)) o2)) (.br ((k1 != 1)) o2 (.br ((n1 != 0)) o2 o2))))
set_option maxRecDepth 1000000 in
theorem run (k0 n0 : Int) (s0 : ByteArray) (k1 n1 : Int) (s1 : ByteArray) : runK 4 [] [] 164 [.v (.agg #[.int .i64 k0, .int .i64 n0, .string s0]), .v (.agg #[.int .i64 k1, .int .i64 n1, .string s1])] = (T k0 n0 s0 k1 n1 s1).eval := by kernel_rfl
theorem T_ok (a b : W3) : (T a.1 a.2.1 a.2.2 b.1 b.2.1 b.2.2).eval = some (vv (Ref.andV a b)) := by
 unfold T Ref.andV Ref.lgc
 simp only [GT.eval]
 cases a.1 != 1 <;> cases a.2.1 != 0 <;> cases b.1 != 1 <;> cases b.2.1 != 0 <;> rfl
def spec : Spec := fun aa => match aa with
 | [a, b] => (vOf a).bind fun x => (vOf b).bind fun y => some (.out (vv (Ref.andV x y)))
 | _ => none
theorem spec_ok : SpecOk Tryz.prog La 164 spec := ⟨fnOk_ok (by kernel_rfl), fun aa t v h e => by
 unfold spec at h
 split at h
 ·rename_i a b
  obtain ⟨x, h1, h⟩ := opt_bind h
  obtain ⟨y, h2, h⟩ := opt_bind h
  cases h; cases e
  rw [vOf_ok h1, vOf_ok h2]
  exact ⟨rfl, callT (l := []) (L := []) (n0 := 4) (k := 12) La_below prog_mix prog_names (by simp) (by simp) (by decide) (by simp) rfl ((run _ _ _ _ _ _).trans (T_ok x y))⟩
 ·cases h⟩
end A164
end
section
open Go Go.Proofs
namespace A165
def T (k0 n0 : Int) (s0 : ByteArray) (k1 n1 : Int) (s1 : ByteArray) : GT Value := let o1 : GT Value := (.out (.agg ([.int .i64 0, .int .i64 0, .string ⟨([]).toArray⟩]).toArray)); let o2 : GT Value := (.out (.agg ([.int .i64 1, .int .i64 1, .string ⟨([]).toArray⟩]).toArray)); (.br ((k0 != 1)) (.br ((k1 != 1)) o1 (.br ((n1 != 0)) o2 o1)) (.br ((n0 != 0)) (.br ((k1 != 1)) o2 (.br ((n1 != 0)) o2 o2)) (.br ((k1 != 1)) o1 (.br ((n1 != 0)) o2 (.out (.agg ([.int .i64 1, .int .i64 0, .string ⟨([]).toArray⟩]).toArray))))))
set_option maxRecDepth 1000000 in
theorem run (k0 n0 : Int) (s0 : ByteArray) (k1 n1 : Int) (s1 : ByteArray) : runK 4 [] [] 165 [.v (.agg #[.int .i64 k0, .int .i64 n0, .string s0]), .v (.agg #[.int .i64 k1, .int .i64 n1, .string s1])] = (T k0 n0 s0 k1 n1 s1).eval := by kernel_rfl
theorem T_ok (a b : W3) : (T a.1 a.2.1 a.2.2 b.1 b.2.1 b.2.2).eval = some (vv (Ref.orV a b)) := by
 unfold T Ref.orV Ref.lgc
 simp only [GT.eval]
 cases a.1 != 1 <;> cases a.2.1 != 0 <;> cases b.1 != 1 <;> cases b.2.1 != 0 <;> rfl
def spec : Spec := fun aa => match aa with
 | [a, b] => (vOf a).bind fun x => (vOf b).bind fun y => some (.out (vv (Ref.orV x y)))
 | _ => none
theorem spec_ok : SpecOk Tryz.prog La 165 spec := ⟨fnOk_ok (by kernel_rfl), fun aa t v h e => by
 unfold spec at h
 split at h
 ·rename_i a b
  obtain ⟨x, h1, h⟩ := opt_bind h
  obtain ⟨y, h2, h⟩ := opt_bind h
  cases h; cases e
  rw [vOf_ok h1, vOf_ok h2]
  exact ⟨rfl, callT (l := []) (L := []) (n0 := 4) (k := 12) La_below prog_mix prog_names (by simp) (by simp) (by decide) (by simp) rfl ((run _ _ _ _ _ _).trans (T_ok x y))⟩
 ·cases h⟩
end A165
end
section
open Go Go.Proofs
namespace A166
def T (s0 : ByteArray) (k1 n1 : Int) (s1 : ByteArray) (k2 n2 : Int) (s2 : ByteArray) : GT Value := let x1 := A76.compare k1 n1 s1 k2 n2 s2; let o1 : GT Value := (.out (.agg ([.int .i64 1, .int .i64 1, .string ⟨([]).toArray⟩]).toArray)); let o2 : GT Value := (.out (.agg ([.int .i64 1, .int .i64 0, .string ⟨([]).toArray⟩]).toArray)); (.br ((!x1.2)) (.out (.agg ([.int .i64 0, .int .i64 0, .string ⟨([]).toArray⟩]).toArray)) (.br (eqU (s0).data.toList [60]) (.br (decide (x1.1 < 0)) o1 o2) (.br (eqU (s0).data.toList [60, 61]) (.br (decide (x1.1 ≤ 0)) o1 o2) (.br (eqU (s0).data.toList [62]) (.br (decide (x1.1 > 0)) o1 o2) (.br (decide (x1.1 ≥ 0)) o1 o2)))))
set_option maxRecDepth 1000000 in
theorem run (s0 : ByteArray) (k1 n1 : Int) (s1 : ByteArray) (k2 n2 : Int) (s2 : ByteArray) : runK 4 [(76, A76.spec)] [] 166 [.v (.string s0), .v (.agg #[.int .i64 k1, .int .i64 n1, .string s1]), .v (.agg #[.int .i64 k2, .int .i64 n2, .string s2])] = (T s0 k1 n1 s1 k2 n2 s2).eval := by kernel_rfl
theorem T_ok (s : ByteArray) (a b : W3) : (T s a.1 a.2.1 a.2.2 b.1 b.2.1 b.2.2).eval = some (vv (Ref.cmpV s (A76.compare a.1 a.2.1 a.2.2 b.1 b.2.1 b.2.2))) := by
 unfold T Ref.cmpV Ref.truthV
 dsimp only []
 simp only [GT.eval]
 generalize A76.compare a.1 a.2.1 a.2.2 b.1 b.2.1 b.2.2 = p
 cases p.2
 ·rfl
 cases eqU s.data.toList [60]
 rotate_left
 ·cases decide (p.1 < 0) <;> rfl
 cases eqU s.data.toList [60, 61]
 rotate_left
 ·cases decide (p.1 ≤ 0) <;> rfl
 cases eqU s.data.toList [62]
 rotate_left
 ·cases decide (p.1 > 0) <;> rfl
 cases decide (p.1 ≥ 0) <;> rfl
def spec : Spec := fun aa => match aa with
 | [.v (.string s), a, b] => (vOf a).bind fun x => (vOf b).bind fun y => some (.out (vv (Ref.cmpV s (A76.compare x.1 x.2.1 x.2.2 y.1 y.2.1 y.2.2))))
 | _ => none
theorem spec_ok : SpecOk Tryz.prog La 166 spec := ⟨fnOk_ok (by kernel_rfl), fun aa t v h e => by
 unfold spec at h
 split at h
 ·rename_i s a b
  obtain ⟨x, h1, h⟩ := opt_bind h
  obtain ⟨y, h2, h⟩ := opt_bind h
  cases h; cases e
  rw [vOf_ok h1, vOf_ok h2]
  exact ⟨rfl, callT (n0 := 4) (k := 12) La_below prog_mix prog_names (by simpa using A76.spec_ok) (by simp) (by decide) (by simp) rfl ((run _ _ _ _ _ _ _).trans (T_ok s x y))⟩
 ·cases h⟩
end A166
end
section
open Go Go.Proofs
namespace A110
def T (s0 : ByteArray) (k1 n1 : Int) (s1 : ByteArray) (k2 n2 : Int) (s2 : ByteArray) : GT Value := let x1 := Ari.twoV Ari.subI (k1, (n1, s1)) (k2, (n2, s2)); let x2 := Ari.twoV Ari.addI (k1, (n1, s1)) (k2, (n2, s2)); let x3 := Ari.mulV (k1, (n1, s1)) (k2, (n2, s2)); let x4 := Ari.modV (k1, (n1, s1)) (k2, (n2, s2)); let x5 := Ari.divV (k1, (n1, s1)) (k2, (n2, s2)); let x6 := A76.compare k1 n1 s1 k2 n2 s2; (.br (eqU (s0).data.toList [43]) (.br (((inR n1) && (inR n2))) (.out (.tuple ([.agg ([.int .i64 x2.1.1, .int .i64 x2.1.2.1, .string x2.1.2.2]).toArray, .int .i64 x2.2]).toArray)) .no) (.br (eqU (s0).data.toList [45]) (.br (((inR n1) && (inR n2))) (.out (.tuple ([.agg ([.int .i64 x1.1.1, .int .i64 x1.1.2.1, .string x1.1.2.2]).toArray, .int .i64 x1.2]).toArray)) .no) (.br (eqU (s0).data.toList [42]) (.br (((inR n1) && (inR n2))) (.out (.tuple ([.agg ([.int .i64 x3.1.1, .int .i64 x3.1.2.1, .string x3.1.2.2]).toArray, .int .i64 x3.2]).toArray)) .no) (.br (eqU (s0).data.toList [47]) (.br (((inR n1) && (inR n2))) (.out (.tuple ([.agg ([.int .i64 x5.1.1, .int .i64 x5.1.2.1, .string x5.1.2.2]).toArray, .int .i64 x5.2]).toArray)) .no) (.br (eqU (s0).data.toList [37]) (.br (((inR n1) && (inR n2))) (.out (.tuple ([.agg ([.int .i64 x4.1.1, .int .i64 x4.1.2.1, .string x4.1.2.2]).toArray, .int .i64 x4.2]).toArray)) .no) (.br (eqU (s0).data.toList [61]) (.br (((inR n1) && (inR n2))) (.out (.tuple ([.agg ([.int .i64 (Ref.eqKV (k1, (n1, s1)) (k2, (n2, s2))), .int .i64 (Ref.eqNV (k1, (n1, s1)) (k2, (n2, s2))), .string ⟨([]).toArray⟩]).toArray, .int .i64 0]).toArray)) .no) (.br (eqU (s0).data.toList [33, 61]) (.br (((inR n1) && (inR n2))) (.out (.tuple ([.agg ([.int .i64 (Ref.notV ((Ref.eqKV (k1, (n1, s1)) (k2, (n2, s2))), ((Ref.eqNV (k1, (n1, s1)) (k2, (n2, s2))), ⟨([]).toArray⟩))).1, .int .i64 (Ref.notV ((Ref.eqKV (k1, (n1, s1)) (k2, (n2, s2))), ((Ref.eqNV (k1, (n1, s1)) (k2, (n2, s2))), ⟨([]).toArray⟩))).2.1, .string (Ref.notV ((Ref.eqKV (k1, (n1, s1)) (k2, (n2, s2))), ((Ref.eqNV (k1, (n1, s1)) (k2, (n2, s2))), ⟨([]).toArray⟩))).2.2]).toArray, .int .i64 0]).toArray)) .no) (.br (eqU (s0).data.toList [97, 110, 100]) (.out (.tuple ([.agg ([.int .i64 (Ref.andV (k1, (n1, s1)) (k2, (n2, s2))).1, .int .i64 (Ref.andV (k1, (n1, s1)) (k2, (n2, s2))).2.1, .string (Ref.andV (k1, (n1, s1)) (k2, (n2, s2))).2.2]).toArray, .int .i64 0]).toArray)) (.br (eqU (s0).data.toList [111, 114]) (.out (.tuple ([.agg ([.int .i64 (Ref.orV (k1, (n1, s1)) (k2, (n2, s2))).1, .int .i64 (Ref.orV (k1, (n1, s1)) (k2, (n2, s2))).2.1, .string (Ref.orV (k1, (n1, s1)) (k2, (n2, s2))).2.2]).toArray, .int .i64 0]).toArray)) (.out (.tuple ([.agg ([.int .i64 (Ref.cmpV s0 x6).1, .int .i64 (Ref.cmpV s0 x6).2.1, .string (Ref.cmpV s0 x6).2.2]).toArray, .int .i64 0]).toArray)))))))))))
set_option maxRecDepth 1000000 in
theorem run (s0 : ByteArray) (k1 n1 : Int) (s1 : ByteArray) (k2 n2 : Int) (s2 : ByteArray) : runK 4 [(159, A159.spec), (160, A160.spec), (161, A161.spec), (162, A162.spec), (163, A163.spec), (36, sp2 Ref.eqW), (109, A109.spec), (164, A164.spec), (165, A165.spec), (166, A166.spec)] [] 110 [.v (.string s0), .v (.agg #[.int .i64 k1, .int .i64 n1, .string s1]), .v (.agg #[.int .i64 k2, .int .i64 n2, .string s2])] = (T s0 k1 n1 s1 k2 n2 s2).eval := by kernel_rfl
theorem T_ok (t : ByteArray) (a b : W3) (ha : inR a.2.1 = true) (hb : inR b.2.1 = true) : (T t a.1 a.2.1 a.2.2 b.1 b.2.1 b.2.2).eval = some (ve (Ari.binV t a b)) := by
 unfold T Ari.binV Ari.arithV
 simp only [GT.eval, ha, hb]
 cases eqU t.data.toList [43]
 rotate_left
 ·rfl
 cases eqU t.data.toList [45]
 rotate_left
 ·rfl
 cases eqU t.data.toList [42]
 rotate_left
 ·rfl
 cases eqU t.data.toList [47]
 rotate_left
 ·rfl
 cases eqU t.data.toList [37]
 rotate_left
 ·rfl
 cases eqU t.data.toList [61]
 rotate_left
 ·rfl
 cases eqU t.data.toList [33, 61]
 rotate_left
 ·rfl
 cases eqU t.data.toList [97, 110, 100]
 rotate_left
 ·rfl
 cases eqU t.data.toList [111, 114]
 rotate_left
 ·rfl
 rfl
theorem spec_ok : SpecOk Tryz.prog La 110 (spS2 fun t x y => ve (Ari.binV t x y)) := ⟨fnOk_ok (by kernel_rfl), fun aa t v h e => by
 unfold spS2 at h
 split at h
 ·rename_i s a b
  obtain ⟨x, h1, h⟩ := opt_bind h
  obtain ⟨y, h2, h⟩ := opt_bind h
  cases h
  obtain ⟨g1, g2⟩ := GT.need_eval e
  cases g2
  rw [Bool.and_eq_true] at g1
  rw [vOf_ok h1, vOf_ok h2]
  exact ⟨rfl, callT (n0 := 4) (k := 12) La_below prog_mix prog_names (by simpa using ⟨A159.spec_ok, A160.spec_ok, A161.spec_ok, A162.spec_ok, A163.spec_ok, eq36, A109.spec_ok, A164.spec_ok, A165.spec_ok, A166.spec_ok⟩) (by simp) (by decide) (by simp) rfl ((run _ _ _ _ _ _ _).trans (T_ok s x y g1.1 g1.2))⟩
 ·cases h⟩
end A110
end
section
open Go Go.Proofs
namespace A16L0N
noncomputable def cfg : Cfg := cfgK Tryz.prog 4 (gpT [(33, spec33c), (79, A79.spec), (109, A109.spec), (110, spS2 fun t x y => ve (Ari.binV t x y)), (10, A10n.spec), (75, A75.spec), (35, A35.spec)]) (ltT 4 [])
def stA (n nr na : Nat) (i : Int) : KX := ⟨[(0, .slice (some ⟨0, 0, none⟩) n 6), (6, .pointer (some ⟨6, 0, none⟩)), (7, .int .i64 0), (8, .pointer (some ⟨7, 0, none⟩)), (9, .int .i64 i)], [[.int .i64 0, .int .i64 0, .string ⟨#[]⟩], [.slice none 0 0, .slice (some ⟨1, 0, none⟩) nr 3, .slice (some ⟨2, 0, none⟩) na 3, .int .i64 0]]⟩
def kp : Ex → List Nat
 | .normal => [0, 6, 7, 8, 9]
 | .exit _ => [6, 8]
 | .ret => [6, 7]
def cr : Ex → St → List (Nat × Bool) := fun e s => match s.T.get 6 with
 | some (.pointer (some r)) => (match e with
  | .ret => [(r.block, true)]
  | _ => match s.T.get 8 with
   | some (.pointer (some p)) => match cellsAt s.h p.block with
    | some [.slice (some q) _ _, _, _, _] => [(r.block, true), (p.block, false), (q.block, true)]
    | _ => [(r.block, true), (p.block, false)]
   | _ => [])
 | _ => []
set_option maxRecDepth 1000000 in
theorem round (n nr na : Nat) (i : Int) (cs : List Value) (rs : List Value) (as_ : List Value) : rndK cfg [(33, spec33c), (79, A79.spec), (109, A109.spec), (110, spS2 fun t x y => ve (Ari.binV t x y)), (10, A10n.spec), (75, A75.spec), (35, A35.spec)] [] 16 0 (stK 52 6 [(0, cs), (1, rs), (2, as_)] (stA n nr na i)) (endK 6 100 52 kp cr) = (let x2 := 0 + ((i).toNat * 6); let x1 := rdI cs (x2 + 1); let x3 := 0 + ((x1).toNat * 3); let x4 := IntKind.wrap .i64 (0 - x1); let x5 := IntKind.wrap .i64 (i + 1); let x6 := rdS cs (((((x2 + 1) + 1) + 1) + 1) + 1); let x7 := rdI cs ((((x2 + 1) + 1) + 1) + 1); let x8 := rdI cs (((x2 + 1) + 1) + 1); let x9 := rdS as_ ((x3 + 1) + 1); let x10 := rdS rs ((x3 + 1) + 1); let o1 : Option (Ex × KX) := (some (.ret, ⟨[(6, .pointer (some ⟨6, 0, none⟩)), (7, .int .i64 22)], [[.int .i64 0, .int .i64 0, .string ⟨([]).toArray⟩]]⟩)); (bif decide (i < (Int.ofNat n)) then (bif decide (0 ≤ i) then (bif Nat.blt (i).toNat n then (bif isL cs x2 [(.i .i64), (.i .i64), .s, (.i .i64), (.i .i64), .s] then (bif ((rdI cs x2) == 1) then (bif ((Ref.chk x8 x7 x6) != 0) then o1 else (some (.normal, ⟨[(0, .slice (some ⟨0, 0, none⟩) n 6), (6, .pointer (some ⟨6, 0, none⟩)), (7, .int .i64 0), (8, .pointer (some ⟨7, 0, none⟩)), (9, .int .i64 x5)], [[.int .i64 0, .int .i64 0, .string ⟨([]).toArray⟩], [.slice (some ⟨8, 0, none⟩) 1 3, .slice (some ⟨1, 0, none⟩) nr 3, .slice (some ⟨2, 0, none⟩) na 3, .int .i64 0], [.int .i64 x8, .int .i64 x7, .string x6]]⟩))) else (bif ((rdI cs x2) == 2) then (bif decide (0 ≤ x1) then (bif Nat.blt (x1).toNat nr then (bif isL rs x3 [(.i .i64), (.i .i64), .s] then (bif ((Ref.chk (rdI rs x3) (rdI rs (x3 + 1)) x10) != 0) then o1 else (some (.normal, ⟨[(0, .slice (some ⟨0, 0, none⟩) n 6), (6, .pointer (some ⟨6, 0, none⟩)), (7, .int .i64 0), (8, .pointer (some ⟨7, 0, none⟩)), (9, .int .i64 x5)], [[.int .i64 0, .int .i64 0, .string ⟨([]).toArray⟩], [.slice (some ⟨8, 0, none⟩) 1 3, .slice (some ⟨1, 0, none⟩) nr 3, .slice (some ⟨2, 0, none⟩) na 3, .int .i64 0], [.int .i64 (rdI rs x3), .int .i64 (rdI rs (x3 + 1)), .string x10]]⟩))) else none) else none) else none) else (bif ((rdI cs x2) == 9) then (bif decide (0 ≤ x1) then (bif Nat.blt (x1).toNat na then (bif isL as_ x3 [(.i .i64), (.i .i64), .s] then (bif ((Ref.chk (rdI as_ x3) (rdI as_ (x3 + 1)) x9) != 0) then o1 else (some (.normal, ⟨[(0, .slice (some ⟨0, 0, none⟩) n 6), (6, .pointer (some ⟨6, 0, none⟩)), (7, .int .i64 0), (8, .pointer (some ⟨7, 0, none⟩)), (9, .int .i64 x5)], [[.int .i64 0, .int .i64 0, .string ⟨([]).toArray⟩], [.slice (some ⟨8, 0, none⟩) 1 3, .slice (some ⟨1, 0, none⟩) nr 3, .slice (some ⟨2, 0, none⟩) na 3, .int .i64 0], [.int .i64 (rdI as_ x3), .int .i64 (rdI as_ (x3 + 1)), .string x9]]⟩))) else none) else none) else none) else (bif ((rdI cs x2) == 3) then none else (bif ((rdI cs x2) == 4) then none else (bif ((rdI cs x2) == 5) then none else (bif ((rdI cs x2) == 6) then (bif (decide (0 ≤ x4) && Nat.ble (x4).toNat 0) then (bif (decide (0 ≤ x4) && Nat.ble (x4).toNat 0) then (some (.ret, ⟨[(6, .pointer (some ⟨6, 0, none⟩)), (7, .int .i64 100)], [[.int .i64 0, .int .i64 0, .string ⟨([]).toArray⟩]]⟩)) else none) else none) else (bif ((rdI cs x2) == 10) then none else (bif ((rdI cs x2) == 8) then none else (bif decide (0 ≤ i) then (bif Nat.blt (i).toNat n then (bif isV cs (x2 + 1) (.i .i64) then (some (.normal, ⟨[(0, .slice (some ⟨0, 0, none⟩) n 6), (6, .pointer (some ⟨6, 0, none⟩)), (7, .int .i64 0), (8, .pointer (some ⟨7, 0, none⟩)), (9, .int .i64 x1)], [[.int .i64 0, .int .i64 0, .string ⟨([]).toArray⟩], [.slice none 0 0, .slice (some ⟨1, 0, none⟩) nr 3, .slice (some ⟨2, 0, none⟩) na 3, .int .i64 0]]⟩)) else none) else none) else none)))))))))) else none) else none) else none) else (some (.exit 0, ⟨[(6, .pointer (some ⟨6, 0, none⟩)), (8, .pointer (some ⟨7, 0, none⟩))], [[.int .i64 0, .int .i64 0, .string ⟨([]).toArray⟩], [.slice none 0 0, .slice (some ⟨1, 0, none⟩) nr 3, .slice (some ⟨2, 0, none⟩) na 3, .int .i64 0]]⟩)))) := by kernel_rfl
end A16L0N
end
section
open Go Go.Proofs
namespace A16L0R
noncomputable def cfg : Cfg := cfgK Tryz.prog 4 (gpT [(33, spec33c), (79, A79.spec), (109, A109.spec), (110, spS2 fun t x y => ve (Ari.binV t x y)), (10, A10n.spec), (75, A75.spec), (35, A35.spec)]) (ltT 4 [])
def stA (n nr na k : Nat) (i : Int) (row : List Value) : KX := ⟨[(0, .slice (some ⟨0, 0, none⟩) n 6), (6, .pointer (some ⟨6, 0, none⟩)), (7, .int .i64 0), (8, .pointer (some ⟨7, 0, none⟩)), (9, .int .i64 i)], [[.int .i64 0, .int .i64 0, .string ⟨#[]⟩], [.slice (some ⟨8, 0, none⟩) k 3, .slice (some ⟨1, 0, none⟩) nr 3, .slice (some ⟨2, 0, none⟩) na 3, .int .i64 0], row]⟩
def kp : Ex → List Nat
 | .normal => [0, 6, 7, 8, 9]
 | .exit _ => [6, 8]
 | .ret => [6, 7]
def cr : Ex → St → List (Nat × Bool) := fun e s => match s.T.get 6 with
 | some (.pointer (some r)) => (match e with
  | .ret => [(r.block, true)]
  | _ => match s.T.get 8 with
   | some (.pointer (some p)) => match cellsAt s.h p.block with
    | some [.slice (some q) _ _, _, _, _] => [(r.block, true), (p.block, false), (q.block, true)]
    | _ => [(r.block, true), (p.block, false)]
   | _ => [])
 | _ => []
set_option maxRecDepth 1000000 in
theorem round (n nr na k : Nat) (i : Int) (row : List Value) (cs : List Value) (rs : List Value) (as_ : List Value) : rndK cfg [(33, spec33c), (79, A79.spec), (109, A109.spec), (110, spS2 fun t x y => ve (Ari.binV t x y)), (10, A10n.spec), (75, A75.spec), (35, A35.spec)] [] 16 0 (stK 52 6 [(0, cs), (1, rs), (2, as_)] (stA n nr na k i row)) (endK 6 100 52 kp cr) = (let x1 := IntKind.wrap .i64 ((Int.ofNat k) - 1); let x4 := 0 + ((x1).toNat * 3); let x5 := 0 + ((i).toNat * 6); let x3 := IntKind.wrap .i64 ((Int.ofNat k) - (rdI cs (x5 + 1))); let x6 := 0 + (((rdI cs (x5 + 1))).toNat * 3); let x7 := IntKind.wrap .i64 ((Int.ofNat ((x1).toNat - 0)) - 1); let x8 := rdI row (x4 + 1); let x9 := IntKind.wrap .i64 (i + 1); let x10 := 0 + ((x3).toNat * 3); let x11 := A79.negV (rdI row x4) x8; let x12 := A75.decV (rdI row x4) x8; let x13 := rdS cs ((x5 + 1) + 1); let x14 := rdS row ((x4 + 1) + 1); let x15 := 0 + (((x1).toNat - 0) * 3); let x16 := rdS cs (((((x5 + 1) + 1) + 1) + 1) + 1); let x17 := rdI cs ((((x5 + 1) + 1) + 1) + 1); let x18 := rdI cs (((x5 + 1) + 1) + 1); let x19 := rdS as_ ((x6 + 1) + 1); let x20 := rdS rs ((x6 + 1) + 1); let x21 := rdI as_ (x6 + 1); let x22 := 0 + ((x7).toNat * 3); let x2 := Ari.binV x13 ((rdI row x22), ((rdI row (x22 + 1)), (rdS row ((x22 + 1) + 1)))) ((rdI row x4), (x8, x14)); let o1 : Option (Ex × KX) := (some (.ret, ⟨[(6, .pointer (some ⟨6, 0, none⟩)), (7, .int .i64 22)], [[.int .i64 0, .int .i64 0, .string ⟨([]).toArray⟩]]⟩)); (bif decide (i < (Int.ofNat n)) then (bif decide (0 ≤ i) then (bif Nat.blt (i).toNat n then (bif isL cs x5 [(.i .i64), (.i .i64), .s, (.i .i64), (.i .i64), .s] then (bif ((rdI cs x5) == 1) then (bif ((Ref.chk x18 x17 x16) != 0) then o1 else (bif Nat.ble (k + 1) 140737488355328 then (bif Nat.ble ((k + 1) * 32) 140737488355328 then (bif Nat.ble (0 + (k * 3)) (row).length then (bif (true && (true && (((((((row).drop 0)).take (k * 3)) ++ [Value.int .i64 x18, .int .i64 x17, .string x16])).all scalV && true))) then (some (.normal, ⟨[(0, .slice (some ⟨0, 0, none⟩) n 6), (6, .pointer (some ⟨6, 0, none⟩)), (7, .int .i64 0), (8, .pointer (some ⟨7, 0, none⟩)), (9, .int .i64 x9)], [[.int .i64 0, .int .i64 0, .string ⟨([]).toArray⟩], [.slice (some ⟨8, 0, none⟩) (k + 1) 3, .slice (some ⟨1, 0, none⟩) nr 3, .slice (some ⟨2, 0, none⟩) na 3, .int .i64 0], (((((row).drop 0)).take (k * 3)) ++ [Value.int .i64 x18, .int .i64 x17, .string x16])]⟩)) else none) else none) else none) else none)) else (bif ((rdI cs x5) == 2) then (bif decide (0 ≤ (rdI cs (x5 + 1))) then (bif Nat.blt ((rdI cs (x5 + 1))).toNat nr then (bif isL rs x6 [(.i .i64), (.i .i64), .s] then (bif ((Ref.chk (rdI rs x6) (rdI rs (x6 + 1)) x20) != 0) then o1 else (bif Nat.ble (k + 1) 140737488355328 then (bif Nat.ble ((k + 1) * 32) 140737488355328 then (bif Nat.ble (0 + (k * 3)) (row).length then (bif (true && (true && (((((((row).drop 0)).take (k * 3)) ++ [Value.int .i64 (rdI rs x6), .int .i64 (rdI rs (x6 + 1)), .string x20])).all scalV && true))) then (some (.normal, ⟨[(0, .slice (some ⟨0, 0, none⟩) n 6), (6, .pointer (some ⟨6, 0, none⟩)), (7, .int .i64 0), (8, .pointer (some ⟨7, 0, none⟩)), (9, .int .i64 x9)], [[.int .i64 0, .int .i64 0, .string ⟨([]).toArray⟩], [.slice (some ⟨8, 0, none⟩) (k + 1) 3, .slice (some ⟨1, 0, none⟩) nr 3, .slice (some ⟨2, 0, none⟩) na 3, .int .i64 0], (((((row).drop 0)).take (k * 3)) ++ [Value.int .i64 (rdI rs x6), .int .i64 (rdI rs (x6 + 1)), .string x20])]⟩)) else none) else none) else none) else none)) else none) else none) else none) else (bif ((rdI cs x5) == 9) then (bif decide (0 ≤ (rdI cs (x5 + 1))) then (bif Nat.blt ((rdI cs (x5 + 1))).toNat na then (bif isL as_ x6 [(.i .i64), (.i .i64), .s] then (bif ((Ref.chk (rdI as_ x6) x21 x19) != 0) then o1 else (bif Nat.ble (k + 1) 140737488355328 then (bif Nat.ble ((k + 1) * 32) 140737488355328 then (bif Nat.ble (0 + (k * 3)) (row).length then (bif (true && (true && (((((((row).drop 0)).take (k * 3)) ++ [Value.int .i64 (rdI as_ x6), .int .i64 x21, .string x19])).all scalV && true))) then (some (.normal, ⟨[(0, .slice (some ⟨0, 0, none⟩) n 6), (6, .pointer (some ⟨6, 0, none⟩)), (7, .int .i64 0), (8, .pointer (some ⟨7, 0, none⟩)), (9, .int .i64 x9)], [[.int .i64 0, .int .i64 0, .string ⟨([]).toArray⟩], [.slice (some ⟨8, 0, none⟩) (k + 1) 3, .slice (some ⟨1, 0, none⟩) nr 3, .slice (some ⟨2, 0, none⟩) na 3, .int .i64 0], (((((row).drop 0)).take (k * 3)) ++ [Value.int .i64 (rdI as_ x6), .int .i64 x21, .string x19])]⟩)) else none) else none) else none) else none)) else none) else none) else none) else (bif ((rdI cs x5) == 3) then (bif decide (0 ≤ x1) then (bif Nat.blt (x1).toNat k then (bif isL row x4 [(.i .i64), (.i .i64), .s] then (bif (decide (0 ≤ x1) && Nat.ble (x1).toNat k) then (bif eqU x13.data.toList [45] then (bif (x11.2 != 0) then (some (.ret, ⟨[(6, .pointer (some ⟨6, 0, none⟩)), (7, .int .i64 x11.2)], [[.int .i64 0, .int .i64 0, .string ⟨([]).toArray⟩]]⟩)) else (bif Nat.ble (((x1).toNat - 0) + 1) 140737488355328 then (bif Nat.ble ((((x1).toNat - 0) + 1) * 32) 140737488355328 then (bif Nat.ble x15 (row).length then (bif (true && (true && (((((((row).drop 0)).take (((x1).toNat - 0) * 3)) ++ [Value.int .i64 x11.1.1, .int .i64 x11.1.2.1, .string x11.1.2.2])).all scalV && true))) then (some (.normal, ⟨[(0, .slice (some ⟨0, 0, none⟩) n 6), (6, .pointer (some ⟨6, 0, none⟩)), (7, .int .i64 0), (8, .pointer (some ⟨7, 0, none⟩)), (9, .int .i64 x9)], [[.int .i64 0, .int .i64 0, .string ⟨([]).toArray⟩], [.slice (some ⟨8, 0, none⟩) (((x1).toNat - 0) + 1) 3, .slice (some ⟨1, 0, none⟩) nr 3, .slice (some ⟨2, 0, none⟩) na 3, .int .i64 0], (((((row).drop 0)).take (((x1).toNat - 0) * 3)) ++ [Value.int .i64 x11.1.1, .int .i64 x11.1.2.1, .string x11.1.2.2])]⟩)) else none) else none) else none) else none)) else (bif Nat.ble (((x1).toNat - 0) + 1) 140737488355328 then (bif Nat.ble ((((x1).toNat - 0) + 1) * 32) 140737488355328 then (bif Nat.ble x15 (row).length then (bif (true && (true && (((((((row).drop 0)).take (((x1).toNat - 0) * 3)) ++ [Value.int .i64 (Ref.notV ((rdI row x4), (x8, x14))).1, .int .i64 (Ref.notV ((rdI row x4), (x8, x14))).2.1, .string (Ref.notV ((rdI row x4), (x8, x14))).2.2])).all scalV && true))) then (some (.normal, ⟨[(0, .slice (some ⟨0, 0, none⟩) n 6), (6, .pointer (some ⟨6, 0, none⟩)), (7, .int .i64 0), (8, .pointer (some ⟨7, 0, none⟩)), (9, .int .i64 x9)], [[.int .i64 0, .int .i64 0, .string ⟨([]).toArray⟩], [.slice (some ⟨8, 0, none⟩) (((x1).toNat - 0) + 1) 3, .slice (some ⟨1, 0, none⟩) nr 3, .slice (some ⟨2, 0, none⟩) na 3, .int .i64 0], (((((row).drop 0)).take (((x1).toNat - 0) * 3)) ++ [Value.int .i64 (Ref.notV ((rdI row x4), (x8, x14))).1, .int .i64 (Ref.notV ((rdI row x4), (x8, x14))).2.1, .string (Ref.notV ((rdI row x4), (x8, x14))).2.2])]⟩)) else none) else none) else none) else none)) else none) else none) else none) else none) else (bif ((rdI cs x5) == 4) then (bif decide (0 ≤ x1) then (bif Nat.blt (x1).toNat k then (bif isL row x4 [(.i .i64), (.i .i64), .s] then (bif (decide (0 ≤ x1) && Nat.ble (x1).toNat k) then (bif decide (0 ≤ x7) then (bif Nat.blt (x7).toNat ((x1).toNat - 0) then (bif isL row x22 [(.i .i64), (.i .i64), .s] then (bif (decide (0 ≤ x7) && Nat.ble (x7).toNat ((x1).toNat - 0)) then (bif ((inR (rdI row (x22 + 1))) && (inR x8)) then (bif (x2.2 != 0) then (some (.ret, ⟨[(6, .pointer (some ⟨6, 0, none⟩)), (7, .int .i64 x2.2)], [[.int .i64 0, .int .i64 0, .string ⟨([]).toArray⟩]]⟩)) else (bif Nat.ble (((x7).toNat - 0) + 1) 140737488355328 then (bif Nat.ble ((((x7).toNat - 0) + 1) * 32) 140737488355328 then (bif Nat.ble (0 + (((x7).toNat - 0) * 3)) (row).length then (bif (true && (true && (((((((row).drop 0)).take (((x7).toNat - 0) * 3)) ++ [Value.int .i64 x2.1.1, .int .i64 x2.1.2.1, .string x2.1.2.2])).all scalV && true))) then (some (.normal, ⟨[(0, .slice (some ⟨0, 0, none⟩) n 6), (6, .pointer (some ⟨6, 0, none⟩)), (7, .int .i64 0), (8, .pointer (some ⟨7, 0, none⟩)), (9, .int .i64 x9)], [[.int .i64 0, .int .i64 0, .string ⟨([]).toArray⟩], [.slice (some ⟨8, 0, none⟩) (((x7).toNat - 0) + 1) 3, .slice (some ⟨1, 0, none⟩) nr 3, .slice (some ⟨2, 0, none⟩) na 3, .int .i64 0], (((((row).drop 0)).take (((x7).toNat - 0) * 3)) ++ [Value.int .i64 x2.1.1, .int .i64 x2.1.2.1, .string x2.1.2.2])]⟩)) else none) else none) else none) else none)) else none) else none) else none) else none) else none) else none) else none) else none) else none) else (bif ((rdI cs x5) == 5) then (bif decide (0 ≤ x1) then (bif Nat.blt (x1).toNat k then (bif isL row x4 [(.i .i64), (.i .i64), .s] then (bif (decide (0 ≤ x1) && Nat.ble (x1).toNat k) then (bif (((rdI row x4) == 0) == ((rdI cs (x5 + 1)) == 0)) then (bif Nat.ble (((x1).toNat - 0) + 1) 140737488355328 then (bif Nat.ble ((((x1).toNat - 0) + 1) * 32) 140737488355328 then (bif Nat.ble x15 (row).length then (bif (true && (true && (((((((row).drop 0)).take (((x1).toNat - 0) * 3)) ++ [Value.int .i64 1, .int .i64 1, .string ⟨([]).toArray⟩])).all scalV && true))) then (some (.normal, ⟨[(0, .slice (some ⟨0, 0, none⟩) n 6), (6, .pointer (some ⟨6, 0, none⟩)), (7, .int .i64 0), (8, .pointer (some ⟨7, 0, none⟩)), (9, .int .i64 x9)], [[.int .i64 0, .int .i64 0, .string ⟨([]).toArray⟩], [.slice (some ⟨8, 0, none⟩) (((x1).toNat - 0) + 1) 3, .slice (some ⟨1, 0, none⟩) nr 3, .slice (some ⟨2, 0, none⟩) na 3, .int .i64 0], (((((row).drop 0)).take (((x1).toNat - 0) * 3)) ++ [Value.int .i64 1, .int .i64 1, .string ⟨([]).toArray⟩])]⟩)) else none) else none) else none) else none) else (bif Nat.ble (((x1).toNat - 0) + 1) 140737488355328 then (bif Nat.ble ((((x1).toNat - 0) + 1) * 32) 140737488355328 then (bif Nat.ble x15 (row).length then (bif (true && (true && (((((((row).drop 0)).take (((x1).toNat - 0) * 3)) ++ [Value.int .i64 1, .int .i64 0, .string ⟨([]).toArray⟩])).all scalV && true))) then (some (.normal, ⟨[(0, .slice (some ⟨0, 0, none⟩) n 6), (6, .pointer (some ⟨6, 0, none⟩)), (7, .int .i64 0), (8, .pointer (some ⟨7, 0, none⟩)), (9, .int .i64 x9)], [[.int .i64 0, .int .i64 0, .string ⟨([]).toArray⟩], [.slice (some ⟨8, 0, none⟩) (((x1).toNat - 0) + 1) 3, .slice (some ⟨1, 0, none⟩) nr 3, .slice (some ⟨2, 0, none⟩) na 3, .int .i64 0], (((((row).drop 0)).take (((x1).toNat - 0) * 3)) ++ [Value.int .i64 1, .int .i64 0, .string ⟨([]).toArray⟩])]⟩)) else none) else none) else none) else none)) else none) else none) else none) else none) else (bif ((rdI cs x5) == 6) then (bif (decide (0 ≤ x3) && Nat.ble (x3).toNat k) then (bif (true && ((Nat.ble (x10 + ((k - (x3).toNat) * 3)) (row).length && (((((row).drop x10)).take ((k - (x3).toNat) * 3))).all scalV) && true)) then (bif ((rowW (k - (x3).toNat) (Int.ofNat (k - (x3).toNat)) ((((row).drop x10)).take ((k - (x3).toNat) * 3))) && ((valsOf ((((row).drop x10)).take ((k - (x3).toNat) * 3)))).all fun v => inR v.snd.fst) then (bif (decide (0 ≤ x3) && Nat.ble (x3).toNat k) then (bif ((Fit.CallV x13 (valsOf ((((row).drop x10)).take ((k - (x3).toNat) * 3)))).2 != 0) then (some (.ret, ⟨[(6, .pointer (some ⟨6, 0, none⟩)), (7, .int .i64 (Fit.CallV x13 (valsOf ((((row).drop x10)).take ((k - (x3).toNat) * 3)))).2)], [[.int .i64 0, .int .i64 0, .string ⟨([]).toArray⟩]]⟩)) else (bif Nat.ble (((x3).toNat - 0) + 1) 140737488355328 then (bif Nat.ble ((((x3).toNat - 0) + 1) * 32) 140737488355328 then (bif Nat.ble (0 + (((x3).toNat - 0) * 3)) (row).length then (bif (true && (true && (((((((row).drop 0)).take (((x3).toNat - 0) * 3)) ++ [Value.int .i64 (Fit.CallV x13 (valsOf ((((row).drop x10)).take ((k - (x3).toNat) * 3)))).1.1, .int .i64 (Fit.CallV x13 (valsOf ((((row).drop x10)).take ((k - (x3).toNat) * 3)))).1.2.1, .string (Fit.CallV x13 (valsOf ((((row).drop x10)).take ((k - (x3).toNat) * 3)))).1.2.2])).all scalV && true))) then (some (.normal, ⟨[(0, .slice (some ⟨0, 0, none⟩) n 6), (6, .pointer (some ⟨6, 0, none⟩)), (7, .int .i64 0), (8, .pointer (some ⟨7, 0, none⟩)), (9, .int .i64 x9)], [[.int .i64 0, .int .i64 0, .string ⟨([]).toArray⟩], [.slice (some ⟨8, 0, none⟩) (((x3).toNat - 0) + 1) 3, .slice (some ⟨1, 0, none⟩) nr 3, .slice (some ⟨2, 0, none⟩) na 3, .int .i64 0], (((((row).drop 0)).take (((x3).toNat - 0) * 3)) ++ [Value.int .i64 (Fit.CallV x13 (valsOf ((((row).drop x10)).take ((k - (x3).toNat) * 3)))).1.1, .int .i64 (Fit.CallV x13 (valsOf ((((row).drop x10)).take ((k - (x3).toNat) * 3)))).1.2.1, .string (Fit.CallV x13 (valsOf ((((row).drop x10)).take ((k - (x3).toNat) * 3)))).1.2.2])]⟩)) else none) else none) else none) else none)) else none) else none) else none) else none) else (bif ((rdI cs x5) == 10) then (bif decide (0 ≤ x1) then (bif Nat.blt (x1).toNat k then (bif isL row x4 [(.i .i64), (.i .i64), .s] then (bif (decide (0 ≤ x1) && Nat.ble (x1).toNat k) then (bif (inR x8) then (bif (x12.2 != 0) then (some (.ret, ⟨[(6, .pointer (some ⟨6, 0, none⟩)), (7, .int .i64 x12.2)], [[.int .i64 0, .int .i64 0, .string ⟨([]).toArray⟩]]⟩)) else (bif Nat.ble (((x1).toNat - 0) + 1) 140737488355328 then (bif Nat.ble ((((x1).toNat - 0) + 1) * 32) 140737488355328 then (bif Nat.ble x15 (row).length then (bif (true && (true && (((((((row).drop 0)).take (((x1).toNat - 0) * 3)) ++ [Value.int .i64 x12.1.1, .int .i64 x12.1.2.1, .string x12.1.2.2])).all scalV && true))) then (some (.normal, ⟨[(0, .slice (some ⟨0, 0, none⟩) n 6), (6, .pointer (some ⟨6, 0, none⟩)), (7, .int .i64 0), (8, .pointer (some ⟨7, 0, none⟩)), (9, .int .i64 x9)], [[.int .i64 0, .int .i64 0, .string ⟨([]).toArray⟩], [.slice (some ⟨8, 0, none⟩) (((x1).toNat - 0) + 1) 3, .slice (some ⟨1, 0, none⟩) nr 3, .slice (some ⟨2, 0, none⟩) na 3, .int .i64 0], (((((row).drop 0)).take (((x1).toNat - 0) * 3)) ++ [Value.int .i64 x12.1.1, .int .i64 x12.1.2.1, .string x12.1.2.2])]⟩)) else none) else none) else none) else none)) else none) else none) else none) else none) else none) else (bif ((rdI cs x5) == 8) then (bif decide (0 ≤ x1) then (bif Nat.blt (x1).toNat k then (bif isL row x4 [(.i .i64), (.i .i64), .s] then (bif (decide (0 ≤ x1) && Nat.ble (x1).toNat k) then (bif (A35.tru (rdI row x4) x8) then (bif (true && (true && ((row).all scalV && true))) then (some (.normal, ⟨[(0, .slice (some ⟨0, 0, none⟩) n 6), (6, .pointer (some ⟨6, 0, none⟩)), (7, .int .i64 0), (8, .pointer (some ⟨7, 0, none⟩)), (9, .int .i64 x9)], [[.int .i64 0, .int .i64 0, .string ⟨([]).toArray⟩], [.slice (some ⟨8, 0, none⟩) ((x1).toNat - 0) 3, .slice (some ⟨1, 0, none⟩) nr 3, .slice (some ⟨2, 0, none⟩) na 3, .int .i64 0], row]⟩)) else none) else (bif decide (0 ≤ i) then (bif Nat.blt (i).toNat n then (bif isV cs (x5 + 1) (.i .i64) then (bif (true && (true && ((row).all scalV && true))) then (some (.normal, ⟨[(0, .slice (some ⟨0, 0, none⟩) n 6), (6, .pointer (some ⟨6, 0, none⟩)), (7, .int .i64 0), (8, .pointer (some ⟨7, 0, none⟩)), (9, .int .i64 (rdI cs (x5 + 1)))], [[.int .i64 0, .int .i64 0, .string ⟨([]).toArray⟩], [.slice (some ⟨8, 0, none⟩) ((x1).toNat - 0) 3, .slice (some ⟨1, 0, none⟩) nr 3, .slice (some ⟨2, 0, none⟩) na 3, .int .i64 0], row]⟩)) else none) else none) else none) else none)) else none) else none) else none) else none) else (bif decide (0 ≤ i) then (bif Nat.blt (i).toNat n then (bif isV cs (x5 + 1) (.i .i64) then (bif (true && (true && ((row).all scalV && true))) then (some (.normal, ⟨[(0, .slice (some ⟨0, 0, none⟩) n 6), (6, .pointer (some ⟨6, 0, none⟩)), (7, .int .i64 0), (8, .pointer (some ⟨7, 0, none⟩)), (9, .int .i64 (rdI cs (x5 + 1)))], [[.int .i64 0, .int .i64 0, .string ⟨([]).toArray⟩], [.slice (some ⟨8, 0, none⟩) k 3, .slice (some ⟨1, 0, none⟩) nr 3, .slice (some ⟨2, 0, none⟩) na 3, .int .i64 0], row]⟩)) else none) else none) else none) else none)))))))))) else none) else none) else none) else (bif (true && (true && ((row).all scalV && true))) then (some (.exit 0, ⟨[(6, .pointer (some ⟨6, 0, none⟩)), (8, .pointer (some ⟨7, 0, none⟩))], [[.int .i64 0, .int .i64 0, .string ⟨([]).toArray⟩], [.slice (some ⟨8, 0, none⟩) k 3, .slice (some ⟨1, 0, none⟩) nr 3, .slice (some ⟨2, 0, none⟩) na 3, .int .i64 0], row]⟩)) else none))) := by kernel_rfl
end A16L0R
end
section
open Go Go.Proofs
namespace A16L0
abbrev sp : List (FuncId × Spec) := [(33, spec33c), (79, A79.spec), (109, A109.spec), (110, spS2 fun t x y => ve (Ari.binV t x y)), (10, A10n.spec), (75, A75.spec), (35, A35.spec)]
theorem sp_ok : ∀ p ∈ sp, SpecOk Tryz.prog La p.1 p.2 := by simpa [sp] using ⟨chk33, A79.spec_ok, A109.spec_ok, A110.spec_ok, A10n.spec_ok, A75.spec_ok, A35.spec_ok⟩
def stRet (e : Int) : KX := ⟨[(6, .pointer (some ⟨6, 0, none⟩)), (7, .int .i64 e)], [[.int .i64 0, .int .i64 0, .string ⟨#[]⟩]]⟩
def stS (n nr na : Nat) (i : Nat) (st : List W3) (junk : List Value) : KX := A16L0R.stA n nr na st.length i (vals st ++ junk)
theorem stS_snoc (n nr na i : Nat) (l : List W3) (v : W3) : A16L0R.stA n nr na (l.length + 1) i (vals l ++ [.int .i64 v.1, .int .i64 v.2.1, .string v.2.2]) = stS n nr na i (l ++ [v]) [] := by
 unfold stS
 rw [List.append_nil, ← vals_snoc, List.length_append]; rfl
theorem dn (n : Nat) : decide ((0 : Int) ≤ (n : Int)) = true := decide_eq_true (by omega)
theorem rowW_vals (l : List W3) (h : l.length < 4398046511104) : rowW l.length (Int.ofNat l.length) (vals l) = true := by
 unfold rowW
 simp only [Bool.and_eq_true, decide_true, isVals_vals, vals_len, Nat.beq_refl, Nat.blt_eq, true_and]
 exact h
def res (n nr na : Nat) (junk : List Value) : (List W3 × Nat) ⊕ Int → Ex × KX
 | .inl p => (.normal, stS n nr na p.2 p.1 junk)
 | .inr e => (.ret, stRet e)
set_option maxHeartbeats 0 in
theorem nextR (ops : List O6) (row aggs : List W3) (hl : ops.length ≤ 4096) {i : Nat} (hi : i < ops.length) {st : List W3} {junk : List Value} (hj : junk.all scalV = true) (hf : AMac.Fine row aggs ops[i] i ops.length st) :
  rndK A16L0R.cfg sp [] 16 0 (stK 52 6 [(0, opsR ops), (1, vals row), (2, vals aggs)] (stS ops.length row.length aggs.length i st junk)) (endK 6 100 52 A16L0R.kp A16L0R.cr) =
  some (res ops.length row.length aggs.length (AMac.junk ops[i].1 st junk) (AMac.step row aggs ops[i] i st)) := by
 unfold stS
 rw [A16L0R.round]
 dsimp only []
 have h1 : decide ((i : Int) < (ops.length : Int)) = true := decide_eq_true (by omega)
 have h2 := geI i
 have h3 : Nat.blt i ops.length = true := by rw [Nat.blt_eq]; exact hi
 have h4 : (0 + i * 6) = i * 6 := by omega
 have h5 := wrI i (by omega)
 have hv1 : isV (opsR ops) (i * 6 + 1) (.i .i64) = true := by unfold isV; rw [opsR_at ops hi 1 (by omega)]; rfl
 have i1 : ∀ n : Nat, Int.ofNat n = (n : Int) := fun _ => rfl
 have hsc : (vals st ++ junk).all scalV = true := by rw [List.all_append, vals_scal, hj]; rfl
 have hsmall := hf.small
 have big : ∀ p : Nat, p ≤ 1024 → Nat.ble (p + 1) 140737488355328 = true ∧ Nat.ble ((p + 1) * 32) 140737488355328 = true := fun p hp => ⟨by rw [Nat.ble_eq]; omega, by rw [Nat.ble_eq]; omega⟩
 have len : ∀ p : Nat, p ≤ st.length → Nat.ble (p * 3) (vals st ++ junk).length = true := fun p hp => by rw [Nat.ble_eq, List.length_append, vals_len]; omega
 have lenT : ∀ p : Nat, p ≤ st.length → (st.take p).length = p := fun p hp => by rw [List.length_take]; omega
 have sc3 : ∀ (l : List W3) (a b : Int) (c : ByteArray), (vals l ++ [Value.int .i64 a, .int .i64 b, .string c]).all scalV = true := fun l a b c => by rw [List.all_append, vals_scal]; rfl
 have fin : ∀ (p : Nat) (hp : p ≤ st.length) (j : Nat) (v : W3), A16L0R.stA ops.length row.length aggs.length (p + 1) j (vals (st.take p) ++ [.int .i64 v.1, .int .i64 v.2.1, .string v.2.2]) = stS ops.length row.length aggs.length j (st.take p ++ [v]) [] := fun p hp j v => by
  have := stS_snoc ops.length row.length aggs.length j (st.take p) v
  rw [lenT p hp] at this; exact this
 obtain ⟨hmay, hneed, _, hist, hirow, hiagg, hiop⟩ := hf
 simp only [h1, h2, h3, h4, h5, hv1, isL_ops ops hi, op_k ops hi, op_n ops hi, op_t ops hi, op_vk ops hi, op_vn ops hi, op_vs ops hi, Int.toNat_natCast, cond_true, Bool.true_and, Bool.and_true, hsc, i1]
 generalize ops[i] = o at *
 obtain ⟨k, n, t, vk, vn, vs⟩ := o
 dsimp only [] at hmay hneed hiop ⊢
 have allT : st.take st.length = st := List.take_length
 have t0 := row_take st junk (Nat.le_refl _)
 rw [allT] at t0
 have b0 := big st.length hsmall
 have l0 := len st.length (Nat.le_refl _)
 have top1 : 1 ≤ st.length → Nat.blt (st.length - 1) st.length = true ∧ Nat.ble (st.length - 1) st.length = true := fun h => ⟨by rw [Nat.blt_eq]; omega, by rw [Nat.ble_eq]; omega⟩
 have w1 : 1 ≤ st.length → IntKind.wrap .i64 ((st.length : Int) - 1) = ((st.length - 1 : Nat) : Int) := fun h => by rw [wrap_in (by omega) (by omega)]; omega
 have giv : ∀ v : W3, (bif Ref.chk v.1 v.2.1 v.2.2 != 0 then some (Ex.ret, stRet 22) else some (.normal, A16L0R.stA ops.length row.length aggs.length (st.length + 1) ((i + 1 : Nat) : Int) (vals st ++ [.int .i64 v.1, .int .i64 v.2.1, .string v.2.2]))) = some (res ops.length row.length aggs.length [] (AMac.given v st i)) := fun v => by
  unfold AMac.given
  cases Ref.chk v.1 v.2.1 v.2.2 != 0
  ·rw [stS_snoc]; rfl
  ·rfl
 have pt : ∀ (p : W3 × Int) (q : Nat), q ≤ st.length → (bif p.2 != 0 then some (Ex.ret, stRet p.2) else some (.normal, A16L0R.stA ops.length row.length aggs.length (q + 1) ((i + 1 : Nat) : Int) (vals (st.take q) ++ [.int .i64 p.1.1, .int .i64 p.1.2.1, .string p.1.2.2]))) = some (res ops.length row.length aggs.length [] (AMac.put p (st.take q) i)) := fun p q hq => by
  unfold AMac.put
  cases p.2 != 0
  ·rw [fin q hq]; rfl
  ·rfl
 unfold AMac.step AMac.junk
 dsimp only []
 cases q1 : k == 1
 rotate_left
 ·simp only [cond_true, t0, b0.1, b0.2, l0, Nat.zero_add, sc3]
  exact giv (vk, vn, vs)
 cases q2 : k == 2
 rotate_left
 ·obtain rfl := beq_iff_eq.1 q2
  have hm : 0 ≤ n ∧ n < row.length := by
   have : (decide (n ≥ 0) && decide (n < (row.length : Int))) = true := hmay
   simp only [Bool.and_eq_true, decide_eq_true_eq] at this
   omega
  obtain ⟨N, rfl⟩ := Int.eq_ofNat_of_zero_le hm.1
  have hN : N < row.length := by omega
  have a1 : Nat.blt N row.length = true := by rw [Nat.blt_eq]; exact hN
  have a2 := isL_app row [] hN
  have a3 := rdK_app row [] hN
  have a4 := rdN_app row [] hN
  have a5 := rdS_app row [] hN
  rw [List.append_nil] at a2 a3 a4 a5
  simp only [dn, Int.toNat_natCast, a1, Nat.zero_add, a2, a3, a4, a5, cond_true, cond_false, t0, b0.1, b0.2, l0, sc3]
  exact giv (row.getD N v0)
 cases q9 : k == 9
 rotate_left
 ·obtain rfl := beq_iff_eq.1 q9
  have hm : 0 ≤ n ∧ n < aggs.length := by
   have : (decide (n ≥ 0) && decide (n < (aggs.length : Int))) = true := hmay
   simp only [Bool.and_eq_true, decide_eq_true_eq] at this
   omega
  obtain ⟨N, rfl⟩ := Int.eq_ofNat_of_zero_le hm.1
  have hN : N < aggs.length := by omega
  have a1 : Nat.blt N aggs.length = true := by rw [Nat.blt_eq]; exact hN
  have a2 := isL_app aggs [] hN
  have a3 := rdK_app aggs [] hN
  have a4 := rdN_app aggs [] hN
  have a5 := rdS_app aggs [] hN
  rw [List.append_nil] at a2 a3 a4 a5
  simp only [dn, Int.toNat_natCast, a1, Nat.zero_add, a2, a3, a4, a5, cond_true, cond_false, t0, b0.1, b0.2, l0, sc3]
  exact giv (aggs.getD N v0)
 have one : 1 ≤ st.length → ∀ z : Nat, True := fun _ _ => trivial
 cases q3 : k == 3
 rotate_left
 ·obtain rfl := beq_iff_eq.1 q3
  have hm : 1 ≤ st.length := by have : (1 : Int) ≤ st.length := hneed; omega
  have hp : st.length - 1 < st.length := by omega
  have t1 := row_take st junk (Nat.le_of_lt hp)
  have b1 := big (st.length - 1) (by omega)
  simp only [w1 hm, dn, Int.toNat_natCast, (top1 hm).1, (top1 hm).2, Nat.zero_add, Nat.sub_zero, isL_app st junk hp, rdK_app st junk hp, rdN_app st junk hp, rdS_app st junk hp, cond_true, cond_false, Bool.true_and, t1, b1.1, b1.2, len _ (Nat.le_of_lt hp), sc3]
  cases eqU t.data.toList [45]
  ·simp only [cond_false]
   have := fin (st.length - 1) (Nat.le_of_lt hp) (i + 1) (Ref.notV (st.getD (st.length - 1) v0))
   exact congrArg (fun z => some (Ex.normal, z)) this
  ·exact pt (A79.negV (st.getD (st.length - 1) v0).1 (st.getD (st.length - 1) v0).2.1) (st.length - 1) (Nat.le_of_lt hp)
 cases q4 : k == 4
 rotate_left
 ·obtain rfl := beq_iff_eq.1 q4
  have hm : 2 ≤ st.length := by have : (2 : Int) ≤ st.length := hneed; omega
  have hp : st.length - 1 < st.length := by omega
  have hp2 : st.length - 2 < st.length := by omega
  have t1 := row_take st junk (Nat.le_of_lt hp2)
  have b1 := big (st.length - 2) (by omega)
  have w2 : IntKind.wrap .i64 (((st.length - 1 : Nat) : Int) - 1) = ((st.length - 2 : Nat) : Int) := by rw [wrap_in (by omega) (by omega)]; omega
  have a1 : Nat.blt (st.length - 2) (st.length - 1) = true := by rw [Nat.blt_eq]; omega
  have a2 : Nat.ble (st.length - 2) (st.length - 1) = true := by rw [Nat.ble_eq]; omega
  have g1 : inR (st.getD (st.length - 2) v0).2.1 = true := AMac.getD_I hist _
  have g2 : inR (st.getD (st.length - 1) v0).2.1 = true := AMac.getD_I hist _
  simp only [w1 (by omega), w2, dn, Int.toNat_natCast, (top1 (by omega)).1, (top1 (by omega)).2, a1, a2, Nat.zero_add, Nat.sub_zero, isL_app st junk hp, rdK_app st junk hp, rdN_app st junk hp, rdS_app st junk hp, isL_app st junk hp2, rdK_app st junk hp2, rdN_app st junk hp2, rdS_app st junk hp2, g1, g2, cond_true, cond_false, Bool.true_and, t1, b1.1, b1.2, len _ (Nat.le_of_lt hp2), sc3]
  exact pt (Ari.binV t (st.getD (st.length - 2) v0) (st.getD (st.length - 1) v0)) (st.length - 2) (Nat.le_of_lt hp2)
 cases q5 : k == 5
 rotate_left
 ·obtain rfl := beq_iff_eq.1 q5
  have hm : 1 ≤ st.length := by have : (1 : Int) ≤ st.length := hneed; omega
  have hp : st.length - 1 < st.length := by omega
  have t1 := row_take st junk (Nat.le_of_lt hp)
  have b1 := big (st.length - 1) (by omega)
  simp only [w1 hm, dn, Int.toNat_natCast, (top1 hm).1, (top1 hm).2, Nat.zero_add, Nat.sub_zero, isL_app st junk hp, rdK_app st junk hp, rdN_app st junk hp, rdS_app st junk hp, cond_true, cond_false, Bool.true_and, t1, b1.1, b1.2, len _ (Nat.le_of_lt hp), sc3]
  have := fin (st.length - 1) (Nat.le_of_lt hp) (i + 1)
  cases ((st.getD (st.length - 1) v0).1 == 0) == (n == 0)
  ·exact congrArg (fun z => some (Ex.normal, z)) (this (1, 0, ⟨#[]⟩))
  ·exact congrArg (fun z => some (Ex.normal, z)) (this (1, 1, ⟨#[]⟩))
 cases q6 : k == 6
 rotate_left
 ·obtain rfl := beq_iff_eq.1 q6
  obtain ⟨m1, m2⟩ := AHei.may6 hmay rfl
  obtain ⟨N, rfl⟩ := Int.eq_ofNat_of_zero_le m1
  have hm : N ≤ st.length := by have : (N : Int) ≤ st.length := hneed; omega
  have hp : st.length - N ≤ st.length := by omega
  have w3 : IntKind.wrap .i64 ((st.length : Int) - (N : Int)) = ((st.length - N : Nat) : Int) := by rw [wrap_in (by omega) (by omega)]; omega
  have t1 := row_take st junk hp
  have t2 := row_drop st junk hp
  have b1 := big (st.length - N) (by omega)
  have a1 : Nat.ble (st.length - N) st.length = true := by rw [Nat.ble_eq]; omega
  have a2 : Nat.ble ((st.length - N) * 3 + (st.length - (st.length - N)) * 3) (vals st ++ junk).length = true := by rw [Nat.ble_eq, List.length_append, vals_len]; omega
  have hlen : (st.drop (st.length - N)).length = st.length - (st.length - N) := List.length_drop
  have a3 := rowW_vals (st.drop (st.length - N)) (by rw [hlen]; omega)
  rw [hlen] at a3
  have a4 : ((st.drop (st.length - N)).all fun v => inR v.snd.fst) = true := List.all_eq_true.2 fun v hv => hist v (List.mem_of_mem_drop hv)
  have a3' : rowW (st.length - (st.length - N)) ((st.length - (st.length - N) : Nat) : Int) (vals (st.drop (st.length - N))) = true := a3
  simp only [w3, dn, Int.toNat_natCast, Nat.zero_add, Nat.sub_zero, t1, t2, a1, a2, a3', a4, vals_of, vals_scal, cond_true, cond_false, Bool.true_and, Bool.and_true, b1.1, b1.2, len _ hp, sc3]
  exact pt (Fit.CallV t (st.drop (st.length - N))) (st.length - N) hp
 cases q10 : k == 10
 rotate_left
 ·obtain rfl := beq_iff_eq.1 q10
  have hm : 1 ≤ st.length := by have : (1 : Int) ≤ st.length := hneed; omega
  have hp : st.length - 1 < st.length := by omega
  have t1 := row_take st junk (Nat.le_of_lt hp)
  have b1 := big (st.length - 1) (by omega)
  have g2 : inR (st.getD (st.length - 1) v0).2.1 = true := AMac.getD_I hist _
  simp only [w1 hm, dn, Int.toNat_natCast, (top1 hm).1, (top1 hm).2, Nat.zero_add, Nat.sub_zero, isL_app st junk hp, rdK_app st junk hp, rdN_app st junk hp, rdS_app st junk hp, g2, cond_true, cond_false, Bool.true_and, t1, b1.1, b1.2, len _ (Nat.le_of_lt hp), sc3]
  exact pt (A75.decV (st.getD (st.length - 1) v0).1 (st.getD (st.length - 1) v0).2.1) (st.length - 1) (Nat.le_of_lt hp)
 cases q8 : k == 8
 ·have hn : ∃ N : Nat, n = N := by
   by_cases h7 : k = 7
   ·obtain ⟨m1, m2⟩ := AHei.may78 hmay (.inl h7)
    exact ⟨n.toNat, by omega⟩
   ·have e7 : (k == 7 || k == 8) = false := by rw [q8, beq_eq_false_iff_ne.2 h7]; rfl
    unfold Ref.mayV at hmay
    rw [q1, q2, q9, q3, q4, q5, q6, q10, e7] at hmay
    cases hmay
  obtain ⟨N, rfl⟩ := hn
  simp only [cond_false, cond_true]
  rfl
 ·obtain rfl := beq_iff_eq.1 q8
  obtain ⟨m1, m2⟩ := AHei.may78 hmay (.inr rfl)
  obtain ⟨N, rfl⟩ := Int.eq_ofNat_of_zero_le (show 0 ≤ n by omega)
  have hm : 1 ≤ st.length := by have : (1 : Int) ≤ st.length := hneed; omega
  have hp : st.length - 1 < st.length := by omega
  have hrow : vals st ++ junk = vals (st.take (st.length - 1)) ++ (cells3 (st.getD (st.length - 1) v0) ++ junk) := by
   rw [← List.append_assoc]
   congr 1
   have : st = st.take (st.length - 1) ++ [st.getD (st.length - 1) v0] := by
    rw [List.getD_eq_getElem?_getD, List.getElem?_eq_getElem hp]
    show st = st.take (st.length - 1) ++ [st[st.length - 1]]
    rw [List.take_append_getElem hp, Nat.sub_add_cancel hm, List.take_length]
   conv => lhs; rw [this]
   rw [vals_append]; rfl
  simp only [w1 hm, dn, Int.toNat_natCast, (top1 hm).1, (top1 hm).2, Nat.zero_add, Nat.sub_zero, isL_app st junk hp, rdK_app st junk hp, rdN_app st junk hp, cond_true, cond_false, Bool.true_and]
  have hst : ∀ j : Nat, A16L0R.stA ops.length row.length aggs.length (st.length - 1) j (vals st ++ junk) = stS ops.length row.length aggs.length j (st.take (st.length - 1)) (cells3 (st.getD (st.length - 1) v0) ++ junk) := fun j => by
   unfold stS; rw [lenT _ (Nat.le_of_lt hp), hrow]
  cases A35.tru (st.getD (st.length - 1) v0).1 (st.getD (st.length - 1) v0).2.1
  ·exact congrArg (fun z => some (Ex.normal, z)) (hst N)
  ·exact congrArg (fun z => some (Ex.normal, z)) (hst (i + 1))
end A16L0
end
section
open Go Go.Proofs
namespace A16L0
def stEx (nr na : Nat) (row : List Value) : KX := ⟨[(6, .pointer (some ⟨6, 0, none⟩)), (8, .pointer (some ⟨7, 0, none⟩))], [[.int .i64 0, .int .i64 0, .string ⟨#[]⟩], [.slice (some ⟨8, 0, none⟩) 1 3, .slice (some ⟨1, 0, none⟩) nr 3, .slice (some ⟨2, 0, none⟩) na 3, .int .i64 0], row]⟩
theorem lastR (ops : List O6) (row aggs : List W3) {v : W3} {junk : List Value} (hj : junk.all scalV = true) :
  rndK A16L0R.cfg sp [] 16 0 (stK 52 6 [(0, opsR ops), (1, vals row), (2, vals aggs)] (stS ops.length row.length aggs.length ops.length [v] junk)) (endK 6 100 52 A16L0R.kp A16L0R.cr) =
  some (.exit 0, stEx row.length aggs.length (vals [v] ++ junk)) := by
 unfold stS
 rw [A16L0R.round]
 dsimp only []
 have h1 : decide ((ops.length : Int) < Int.ofNat ops.length) = false := decide_eq_false (by show ¬ (ops.length : Int) < (ops.length : Int); omega)
 have hsc : (vals [v] ++ junk).all scalV = true := by rw [List.all_append, vals_scal, hj]; rfl
 simp only [h1, hsc, cond_false, Bool.and_true, Bool.true_and, cond_true]
 rfl
def resN (n nr na : Nat) (k : Int) : (List W3 × Nat) ⊕ Int → Ex × KX
 | .inl p => (.normal, bif k == 7 then A16L0N.stA n nr na p.2 else stS n nr na p.2 p.1 [])
 | .inr e => (.ret, stRet e)
set_option maxHeartbeats 0 in
theorem nextN (ops : List O6) (row aggs : List W3) (hl : ops.length ≤ 4096) {i : Nat} (hi : i < ops.length) (hf : AMac.Fine row aggs ops[i] i ops.length []) :
  rndK A16L0N.cfg sp [] 16 0 (stK 52 6 [(0, opsR ops), (1, vals row), (2, vals aggs)] (A16L0N.stA ops.length row.length aggs.length i)) (endK 6 100 52 A16L0N.kp A16L0N.cr) =
  some (resN ops.length row.length aggs.length ops[i].1 (AMac.step row aggs ops[i] i [])) := by
 rw [A16L0N.round]
 dsimp only []
 have h1 : decide ((i : Int) < (ops.length : Int)) = true := decide_eq_true (by omega)
 have h2 := geI i
 have h3 : Nat.blt i ops.length = true := by rw [Nat.blt_eq]; exact hi
 have h4 : (0 + i * 6) = i * 6 := by omega
 have h5 := wrI i (by omega)
 have hv1 : isV (opsR ops) (i * 6 + 1) (.i .i64) = true := by unfold isV; rw [opsR_at ops hi 1 (by omega)]; rfl
 have i1 : ∀ n : Nat, Int.ofNat n = (n : Int) := fun _ => rfl
 obtain ⟨hmay, hneed, _, hist, hirow, hiagg, hiop⟩ := hf
 simp only [h1, h2, h3, h4, h5, hv1, isL_ops ops hi, op_k ops hi, op_n ops hi, op_t ops hi, op_vk ops hi, op_vn ops hi, op_vs ops hi, Int.toNat_natCast, cond_true, Bool.true_and, Bool.and_true, i1]
 generalize ops[i] = o at *
 obtain ⟨k, n, t, vk, vn, vs⟩ := o
 dsimp only [] at hmay hneed hiop ⊢
 have giv : ∀ (k : Int) (v : W3), (k == 7) = false → (bif Ref.chk v.1 v.2.1 v.2.2 != 0 then some (Ex.ret, stRet 22) else some (.normal, A16L0R.stA ops.length row.length aggs.length 1 ((i + 1 : Nat) : Int) [.int .i64 v.1, .int .i64 v.2.1, .string v.2.2])) = some (resN ops.length row.length aggs.length k (AMac.given v [] i)) := fun k v hk => by
  unfold AMac.given
  cases Ref.chk v.1 v.2.1 v.2.2 != 0
  ·show _ = some (Ex.normal, bif k == 7 then _ else _)
   rw [hk]
   exact congrArg (fun z => some (Ex.normal, z)) (stS_snoc ops.length row.length aggs.length (i + 1) [] v)
  ·rfl
 unfold AMac.step
 dsimp only []
 cases q1 : k == 1
 rotate_left
 ·obtain rfl := beq_iff_eq.1 q1
  simp only [cond_true]
  exact giv 1 (vk, vn, vs) rfl
 cases q2 : k == 2
 rotate_left
 ·obtain rfl := beq_iff_eq.1 q2
  have hm : 0 ≤ n ∧ n < row.length := by
   have : (decide (n ≥ 0) && decide (n < (row.length : Int))) = true := hmay
   simp only [Bool.and_eq_true, decide_eq_true_eq] at this
   omega
  obtain ⟨N, rfl⟩ := Int.eq_ofNat_of_zero_le hm.1
  have hN : N < row.length := by omega
  have a1 : Nat.blt N row.length = true := by rw [Nat.blt_eq]; exact hN
  have a2 := isL_app row [] hN
  have a3 := rdK_app row [] hN
  have a4 := rdN_app row [] hN
  have a5 := rdS_app row [] hN
  rw [List.append_nil] at a2 a3 a4 a5
  simp only [dn, Int.toNat_natCast, a1, Nat.zero_add, a2, a3, a4, a5, cond_true, cond_false]
  exact giv 2 (row.getD N v0) rfl
 cases q9 : k == 9
 rotate_left
 ·obtain rfl := beq_iff_eq.1 q9
  have hm : 0 ≤ n ∧ n < aggs.length := by
   have : (decide (n ≥ 0) && decide (n < (aggs.length : Int))) = true := hmay
   simp only [Bool.and_eq_true, decide_eq_true_eq] at this
   omega
  obtain ⟨N, rfl⟩ := Int.eq_ofNat_of_zero_le hm.1
  have hN : N < aggs.length := by omega
  have a1 : Nat.blt N aggs.length = true := by rw [Nat.blt_eq]; exact hN
  have a2 := isL_app aggs [] hN
  have a3 := rdK_app aggs [] hN
  have a4 := rdN_app aggs [] hN
  have a5 := rdS_app aggs [] hN
  rw [List.append_nil] at a2 a3 a4 a5
  simp only [dn, Int.toNat_natCast, a1, Nat.zero_add, a2, a3, a4, a5, cond_true, cond_false]
  exact giv 9 (aggs.getD N v0) rfl
 cases q3 : k == 3
 rotate_left
 ·obtain rfl := beq_iff_eq.1 q3
  have : (1 : Int) ≤ 0 := hneed
  omega
 cases q4 : k == 4
 rotate_left
 ·obtain rfl := beq_iff_eq.1 q4
  have : (2 : Int) ≤ 0 := hneed
  omega
 cases q5 : k == 5
 rotate_left
 ·obtain rfl := beq_iff_eq.1 q5
  have : (1 : Int) ≤ 0 := hneed
  omega
 cases q6 : k == 6
 rotate_left
 ·obtain rfl := beq_iff_eq.1 q6
  obtain ⟨m1, m2⟩ := AHei.may6 hmay rfl
  have : n ≤ 0 := hneed
  obtain rfl : n = 0 := by omega
  have e : AMac.put (Fit.CallV t (([] : List W3).drop (([] : List W3).length - (0 : Int).toNat))) (([] : List W3).take (([] : List W3).length - (0 : Int).toNat)) i = .inr 100 := by
   rw [List.drop_nil, AMac.call_nil]; rfl
  simp only [cond_true, cond_false, e]
  rfl
 cases q10 : k == 10
 rotate_left
 ·obtain rfl := beq_iff_eq.1 q10
  have : (1 : Int) ≤ 0 := hneed
  omega
 cases q8 : k == 8
 rotate_left
 ·obtain rfl := beq_iff_eq.1 q8
  have : (1 : Int) ≤ 0 := hneed
  omega
 have hk : k = 7 := by
  by_cases h7 : k = 7
  ·exact h7
  ·have e7 : (k == 7 || k == 8) = false := by rw [q8, beq_eq_false_iff_ne.2 h7]; rfl
   unfold Ref.mayV at hmay
   rw [q1, q2, q9, q3, q4, q5, q6, q10, e7] at hmay
   cases hmay
 subst hk
 obtain ⟨m1, m2⟩ := AHei.may78 hmay (.inl rfl)
 obtain ⟨N, rfl⟩ := Int.eq_ofNat_of_zero_le (show 0 ≤ n by omega)
 rfl
section
variable {Step : KX → Ex → KX → Prop} {ops : List O6} {row aggs : List W3} {T : List Int}
theorem chainR (hT : ∀ j (hj : j < ops.length), AHei.Ok ops.length row.length aggs.length T j ops[j]) (hT1 : T.getD ops.length 0 = 1) (hr : ∀ v ∈ row, Ari.I v) (ha : ∀ v ∈ aggs, Ari.I v) (ho : ∀ o ∈ ops, Ari.I o.2.2.2)
  (hn : ∀ i (hi : i < ops.length) st junk, junk.all scalV = true → AMac.Fine row aggs ops[i] i ops.length st → Step (stS ops.length row.length aggs.length i st junk) (res ops.length row.length aggs.length (AMac.junk ops[i].1 st junk) (AMac.step row aggs ops[i] i st)).1 (res ops.length row.length aggs.length (AMac.junk ops[i].1 st junk) (AMac.step row aggs ops[i] i st)).2)
  (he : ∀ v junk, junk.all scalV = true → Step (stS ops.length row.length aggs.length ops.length [v] junk) (.exit 0) (stEx row.length aggs.length (vals [v] ++ junk))) :
  ∀ (f i : Nat) (st : List W3) (junk : List Value), ops.length ≤ i + f → junk.all scalV = true → AMac.At row aggs ops T i st → match AMac.runJ row aggs ops f i st junk with
   | .inl p => ChainK Step (stS ops.length row.length aggs.length i st junk) (.exit 0) (stEx row.length aggs.length (vals p.1 ++ p.2)) ∧ p.1.length = 1
   | .inr e => ChainK Step (stS ops.length row.length aggs.length i st junk) .ret (stRet e) := by
 have fin : ∀ (i : Nat) (st : List W3) (junk : List Value), i = ops.length → junk.all scalV = true → AMac.At row aggs ops T i st → ChainK Step (stS ops.length row.length aggs.length i st junk) (.exit 0) (stEx row.length aggs.length (vals st ++ junk)) ∧ st.length = 1 := fun i st junk h hj hat => by
  subst h
  have := hat.len
  rw [hT1] at this
  match st, this with
  | [v], _ => exact ⟨.stop (by simp) (he v junk hj), rfl⟩
  | [], h => cases h
  | _ :: _ :: l, h => rw [List.length_cons, List.length_cons] at h; omega
 intro f
 induction f with
 | zero =>
  intro i st junk h hj hat
  have := hat.le
  exact fin i st junk (by omega) hj hat
 | succ f ih =>
  intro i st junk h hj hat
  unfold AMac.runJ
  by_cases hi : i < ops.length
  ·rw [List.getElem?_eq_getElem hi]
   dsimp only []
   have hf := hat.fine hi hT hr ha ho
   have hs := hn i hi st junk hj hf
   cases e : AMac.step row aggs ops[i] i st with
   | inr x => rw [e] at hs; exact .stop (by simp [res]) hs
   | inl p =>
    rw [e] at hs
    obtain ⟨a, b⟩ := hat.next hi hT hf e
    have := ih p.2 p.1 (AMac.junk ops[i].1 st junk) (by omega) (AMac.junk_scal hj) b
    dsimp only []
    cases e2 : AMac.runJ row aggs ops f p.2 p.1 (AMac.junk ops[i].1 st junk) with
    | inl q => rw [e2] at this; exact ⟨.next hs this.1, this.2⟩
    | inr x => rw [e2] at this; exact .next hs this
  ·have := hat.le
   rw [List.getElem?_eq_none (by omega)]
   exact fin i st junk (by omega) hj hat
theorem chainN (hT : ∀ j (hj : j < ops.length), AHei.Ok ops.length row.length aggs.length T j ops[j]) (hT1 : T.getD ops.length 0 = 1) (hr : ∀ v ∈ row, Ari.I v) (ha : ∀ v ∈ aggs, Ari.I v) (ho : ∀ o ∈ ops, Ari.I o.2.2.2)
  (hn : ∀ i (hi : i < ops.length) st junk, junk.all scalV = true → AMac.Fine row aggs ops[i] i ops.length st → Step (stS ops.length row.length aggs.length i st junk) (res ops.length row.length aggs.length (AMac.junk ops[i].1 st junk) (AMac.step row aggs ops[i] i st)).1 (res ops.length row.length aggs.length (AMac.junk ops[i].1 st junk) (AMac.step row aggs ops[i] i st)).2)
  (he : ∀ v junk, junk.all scalV = true → Step (stS ops.length row.length aggs.length ops.length [v] junk) (.exit 0) (stEx row.length aggs.length (vals [v] ++ junk)))
  (h0 : ∀ i (hi : i < ops.length), AMac.Fine row aggs ops[i] i ops.length [] → Step (A16L0N.stA ops.length row.length aggs.length i) (resN ops.length row.length aggs.length ops[i].1 (AMac.step row aggs ops[i] i [])).1 (resN ops.length row.length aggs.length ops[i].1 (AMac.step row aggs ops[i] i [])).2) :
  ∀ (f i : Nat), ops.length ≤ i + f → AMac.At row aggs ops T i [] → match AMac.runJ row aggs ops f i [] [] with
   | .inl p => ChainK Step (A16L0N.stA ops.length row.length aggs.length i) (.exit 0) (stEx row.length aggs.length (vals p.1 ++ p.2)) ∧ p.1.length = 1
   | .inr e => ChainK Step (A16L0N.stA ops.length row.length aggs.length i) .ret (stRet e) := by
 have no : ∀ i, i = ops.length → AMac.At row aggs ops T i [] → False := fun i h hat => by
  subst h
  have := hat.len
  rw [hT1] at this
  cases this
 intro f
 induction f with
 | zero =>
  intro i h hat
  have := hat.le
  exact (no i (by omega) hat).elim
 | succ f ih =>
  intro i h hat
  unfold AMac.runJ
  by_cases hi : i < ops.length
  ·rw [List.getElem?_eq_getElem hi]
   dsimp only []
   have hf := hat.fine hi hT hr ha ho
   have hs := h0 i hi hf
   cases e : AMac.step row aggs ops[i] i [] with
   | inr x => rw [e] at hs; exact .stop (by simp [resN]) hs
   | inl p =>
    rw [e] at hs
    obtain ⟨a, b⟩ := hat.next hi hT hf e
    obtain ⟨i', hi'⟩ : ∃ x, p.2 = x := ⟨_, rfl⟩
    obtain ⟨st', hst⟩ : ∃ x, p.1 = x := ⟨_, rfl⟩
    obtain ⟨p1, p2⟩ := p
    subst hi' hst
    dsimp only [] at a b hs ⊢
    unfold resN at hs
    dsimp only [] at hs
    cases h7 : ops[i].1 == 7
    ·rw [h7] at hs
     have hj : AMac.junk ops[i].1 [] [] = [] := by
      have hm := hf.may
      have hnd := hf.need
      generalize ops[i] = o at *
      obtain ⟨k, n, t, v⟩ := o
      dsimp only [] at hm hnd h7 ⊢
      unfold AMac.junk
      cases h8 : k == 8
      ·simp only [cond_false, Bool.cond_self]
      ·obtain rfl := beq_iff_eq.1 h8
       have : (1 : Int) ≤ 0 := hnd
       omega
     rw [hj]
     have := chainR hT hT1 hr ha ho hn he f p2 p1 [] (by omega) rfl b
     cases e2 : AMac.runJ row aggs ops f p2 p1 [] with
     | inl q => rw [e2] at this; exact ⟨.next hs this.1, this.2⟩
     | inr x => rw [e2] at this; exact .next hs this
    ·rw [h7] at hs
     have h7' := beq_iff_eq.1 h7
     have hp1 : p1 = [] := by
      obtain ⟨l, _⟩ := AMac.step_len hf e
      rw [h7'] at l
      have : (p1.length : Int) = 0 + 0 := l
      exact List.eq_nil_of_length_eq_zero (by omega)
     subst hp1
     have hj : AMac.junk ops[i].1 [] [] = [] := by rw [h7']; rfl
     rw [hj]
     have := ih p2 (by omega) b
     cases e2 : AMac.runJ row aggs ops f p2 [] [] with
     | inl q => rw [e2] at this; exact ⟨.next hs this.1, this.2⟩
     | inr x => rw [e2] at this; exact .next hs this
  ·have := hat.le
   exact (no i (by omega) hat).elim
end
def D : KD := ⟨52, 6, 100, [0, 6, 7, 8, 9], [0, 1, 2], fun s => match s.T.get 6 with
 | some (.pointer (some r)) => (match s.T.get 8 with
  | some (.pointer (some p)) => [(r.block, true), (p.block, false)]
  | _ => [])
 | _ => [], fun x ro => match x.vs, x.cars, ro with
 | [(0, .slice (some ⟨0, 0, none⟩) n 6), (6, .pointer (some ⟨6, 0, none⟩)), (7, .int .i64 0), (8, .pointer (some ⟨7, 0, none⟩)), (9, .int .i64 0)], [[.int .i64 0, .int .i64 0, .string ⟨⟨[]⟩⟩], [.slice none 0 0, .slice (some ⟨1, 0, none⟩) nr 3, .slice (some ⟨2, 0, none⟩) na 3, .int .i64 0]], [(0, cs), (1, rs), (2, as_)] =>
  .need (AMac.gd n nr na cs rs as_) (.br (AMac.isErr cs rs as_) (.out (.ret, stRet (AMac.err cs rs as_))) (.out (.exit 0, stEx nr na (AMac.exRow cs rs as_))))
 | _, _, _ => .no⟩
def lp : LpK := ⟨16, 5, 0, D⟩
theorem gd_ok {n nr na : Nat} {cs rs as_ : List Value} (h : AMac.gd n nr na cs rs as_ = true) : ∃ (ops : List O6) (row aggs : List W3), cs = opsR ops ∧ rs = vals row ∧ as_ = vals aggs ∧ n = ops.length ∧ nr = row.length ∧ na = aggs.length ∧ (∀ o ∈ ops, Ari.I o.2.2.2) ∧ (∀ v ∈ row, Ari.I v) ∧ (∀ v ∈ aggs, Ari.I v) ∧ (AHei.heights row.length aggs.length ops).2 = true := by
 unfold AMac.gd at h
 simp only [Bool.and_eq_true, List.all_eq_true] at h
 obtain ⟨h1, h2, h3, h4, h5, h6, h7⟩ := h
 obtain ⟨_, _, a1, a2⟩ := rowP_ok h1
 obtain ⟨_, _, b1, b2⟩ := rowW_ok h2
 obtain ⟨_, _, c1, c2⟩ := rowW_ok h3
 refine ⟨opsOf cs, valsOf rs, valsOf as_, a1, b1, c1, a2.symm, b2.symm, c2.symm, h4, h5, h6, ?_⟩
 unfold AHei.checkV at h7
 rw [b2, c2]
 cases e : (AHei.heights nr na (opsOf cs)).2
 ·rw [e] at h7; cases h7
 ·rfl
theorem lp_fine : LpFine Tryz.prog La 4 lp := by
 refine ⟨by kernel_rfl, fun c base I hP hn hG hI hIL x ro ex y e => ?_⟩
 obtain ⟨vs, cars⟩ := x
 simp only [lp, D] at e ⊢
 split at e
 ·rename_i n nr na cs rs as_
  obtain ⟨g1, g2⟩ := GT.need_eval e
  obtain ⟨ops, row, aggs, rfl, rfl, rfl, rfl, rfl, rfl, ho, hr, ha, hc⟩ := gd_ok g1
  obtain ⟨hl, T, T0, T1, hT⟩ := AHei.heights_ok hc
  have key := chainN (Step := @StepK (etaB base) c base I (loopAt Tryz.prog 16 0) 52 6 100 [(0, opsR ops), (1, vals row), (2, vals aggs)]) hT T1 hr ha ho
   (fun i hi st junk hj hf => stepT prog_mix prog_names sp_ok (by simp) hP hn hG hI hIL (nextR ops row aggs hl hi hj hf))
   (fun v junk hj => stepT prog_mix prog_names sp_ok (by simp) hP hn hG hI hIL (lastR ops row aggs hj))
   (fun i hi hf => stepT prog_mix prog_names sp_ok (by simp) hP hn hG hI hIL (nextN ops row aggs hl hi hf)) ops.length 0 (by omega) ⟨by omega, by rw [T0]; rfl, fun v hv => absurd hv (List.not_mem_nil)⟩
  unfold AMac.isErr AMac.err AMac.exRow at g2
  rw [opsOf_ops, vals_of, vals_of] at g2
  cases hrun : AMac.runJ row aggs ops ops.length 0 [] [] with
  | inl p => rw [hrun] at key g2; cases g2; exact key.1
  | inr x => rw [hrun] at key g2; cases g2; exact key
 ·cases e
end A16L0
end
section
open Go Go.Proofs
namespace A55L0
noncomputable def cfg : Cfg := cfgK Tryz.prog 4 (gpT []) (ltT 4 [])
def stA (n : Nat) (lf la i : Int) : KX := ⟨[(0, .slice (some ⟨0, 0, none⟩) n 6), (1, .int .i64 lf), (2, .int .i64 la), (11, .slice (some ⟨0, 0, none⟩) n 6), (12, .int .i64 (Int.ofNat n)), (13, .int .i64 i)], []⟩
def kp : Ex → List Nat
 | .normal => [0, 1, 2, 11, 12, 13]
 | .exit _ => [0, 1, 2]
 | .ret => [6]
def cr : Ex → St → List (Nat × Bool) := fun _ _ => []
set_option maxRecDepth 1000000 in
theorem round (n : Nat) (lf la i : Int) (cs : List Value) : rndK cfg [] [] 55 0 (stK 45 4 [(0, cs)] (stA n lf la i)) (endK 4 100 45 kp cr) = (let x1 := 0 + ((i).toNat * 6); let x2 := IntKind.wrap .i64 (i + 1); let o1 : Option (Ex × KX) := (some (.normal, ⟨[(0, .slice (some ⟨0, 0, none⟩) n 6), (1, .int .i64 lf), (2, .int .i64 la), (11, .slice (some ⟨0, 0, none⟩) n 6), (12, .int .i64 (Int.ofNat n)), (13, .int .i64 x2)], []⟩)); let o2 : Option (Ex × KX) := (bif ((rdI cs x1) == 9) then (bif decide ((rdI cs (x1 + 1)) ≥ la) then (some (.ret, ⟨[(6, .int .i64 120)], []⟩)) else o1) else o1); (bif decide (i < (Int.ofNat n)) then (bif decide (0 ≤ i) then (bif Nat.blt (i).toNat n then (bif isL cs x1 [(.i .i64), (.i .i64), .s, (.i .i64), (.i .i64), .s] then (bif ((rdI cs x1) == 2) then (bif decide ((rdI cs (x1 + 1)) ≥ lf) then (some (.ret, ⟨[(6, .int .i64 120)], []⟩)) else o2) else o2) else none) else none) else none) else (some (.exit 0, ⟨[(0, .slice (some ⟨0, 0, none⟩) n 6), (1, .int .i64 lf), (2, .int .i64 la)], []⟩)))) := by kernel_rfl
def stRet : KX := ⟨[(6, .int .i64 120)], []⟩
def stE (n : Nat) (lf la : Int) : KX := ⟨[(0, .slice (some ⟨0, 0, none⟩) n 6), (1, .int .i64 lf), (2, .int .i64 la)], []⟩
def D : KD := ⟨45, 4, 100, [0, 1, 2, 11, 12, 13], [0], fun _ => [], fun x ro => match x.vs, x.cars, ro with
 | [(0, .slice (some ⟨0, 0, none⟩) n 6), (1, .int .i64 lf), (2, .int .i64 la), (11, .slice (some ⟨0, 0, none⟩) n' 6), (12, .int .i64 m), (13, .int .i64 0)], [], [(0, cs)] =>
  .need (Nat.beq n' n && rowP n m cs) (.br ((opsOf cs).any (AHei.bad lf la)) (.out (.ret, stRet)) (.out (.exit 0, stE n lf la)))
 | _, _, _ => .no⟩
def lp : LpK := ⟨55, 2, 0, D⟩
theorem lp_fine : LpFine Tryz.prog La 4 lp := by
 refine ⟨by kernel_rfl, fun c base I hP hn hG hI hIL x ro ex y e => ?_⟩
 obtain ⟨vs, cars⟩ := x
 simp only [lp, D] at e ⊢
 split at e
 ·rename_i n lf la n' m cs
  obtain ⟨g1, g2⟩ := GT.need_eval e
  simp only [Bool.and_eq_true] at g1
  obtain rfl := Nat.eq_of_beq_eq_true g1.1
  obtain ⟨rfl, hn2, h4, h5⟩ := rowP_ok g1.2
  generalize opsOf cs = l at h4 h5 g2
  subst h4 h5
  have key := scan_from (Step := @StepK (etaB base) c base I (loopAt Tryz.prog 55 0) 45 4 100 [(0, opsR l)]) (step := fun (_ : Unit) (o : O6) => bif AHei.bad lf la o then .inr (.ret, stRet) else .inl ()) (fin := fun _ => (.exit 0, stE l.length lf la)) (st := fun _ j => stA l.length lf la j) (l := l) (fun s => by simp) (fun s a r h => by cases hb : AHei.bad lf la a <;> rw [hb] at h <;> cases h <;> simp) (fun _ j hj => by
    have h1 := ltI hj
    have h2 := geI j
    have h3 := bltI hj
    have h4 : (0 + ((j : Int)).toNat * 6) = j * 6 := by simp
    have h5 := wrI j (by omega)
    have hr := round l.length lf la j (opsR l)
    dsimp only [] at hr
    simp only [h1, h2, h3, h4, h5, isL_ops l hj, op_k l hj, op_n l hj, cond_true] at hr
    unfold AHei.bad
    generalize l[j] = o at hr
    revert hr
    cases o.1 == 2 <;> cases o.1 == 9 <;> cases decide (o.2.1 ≥ lf) <;> cases decide (o.2.1 ≥ la) <;> exact fun hr => stepT prog_mix prog_names (by simp) (by simp) hP hn hG hI hIL hr) (fun _ => by
    have h1 := nltI l.length
    have hr := round l.length lf la l.length (opsR l)
    dsimp only [] at hr
    simp only [h1, cond_false] at hr
    exact stepT prog_mix prog_names (by simp) (by simp) hP hn hG hI hIL hr) l.length 0 () (by omega)
  rw [List.drop_zero, scanF_any] at key
  cases hb : l.any (AHei.bad lf la) with
  | true => rw [GT.eval, hb] at g2; cases g2; rw [hb] at key; exact key
  | false => rw [GT.eval, hb] at g2; cases g2; rw [hb] at key; exact key
 ·cases e
end A55L0
end
section
open Go Go.Proofs
namespace A105L0
noncomputable def cfg : Cfg := cfgK Tryz.prog 4 (gpT []) (ltT 4 [])
def stA (n m : Nat) (k i : Int) (row : List Value) : KX := ⟨[(0, .slice (some ⟨0, 0, none⟩) n 6), (4, .int .i64 k), (5, .pointer (some ⟨6, 0, none⟩)), (27, .int .i64 (Int.ofNat m)), (28, .int .i64 i)], [[.slice (some ⟨7, 0, none⟩) m 1], row]⟩
def kp : Ex → List Nat
 | .normal => [0, 4, 5, 27, 28]
 | .exit _ => [0, 4, 5]
 | _ => []
def cr : Ex → St → List (Nat × Bool) := fun _ s => match s.T.get 5 with
 | some (.pointer (some p)) => match cellsAt s.h p.block with
  | some [.slice (some q) _ _] => [(p.block, false), (q.block, true)]
  | _ => []
 | _ => []
set_option maxRecDepth 1000000 in
theorem round (n m : Nat) (k i : Int) (row : List Value)  : rndK cfg [] [] 105 0 (stK 113 6 [] (stA n m k i row)) (endK 6 100 113 kp cr) = (let x1 := 0 + ((i).toNat * 1); (bif decide (i < (Int.ofNat m)) then (bif decide (0 ≤ i) then (bif Nat.blt (i).toNat m then (bif Nat.ble (x1 + 1) (row).length then (bif (true && (((puts row x1 [.int .i64 (-1)])).all scalV && true)) then (some (.normal, ⟨[(0, .slice (some ⟨0, 0, none⟩) n 6), (4, .int .i64 k), (5, .pointer (some ⟨6, 0, none⟩)), (27, .int .i64 (Int.ofNat m)), (28, .int .i64 (IntKind.wrap .i64 (i + 1)))], [[.slice (some ⟨7, 0, none⟩) m 1], (puts row x1 [.int .i64 (-1)])]⟩)) else none) else none) else none) else none) else (bif (true && ((row).all scalV && true)) then (some (.exit 0, ⟨[(0, .slice (some ⟨0, 0, none⟩) n 6), (4, .int .i64 k), (5, .pointer (some ⟨6, 0, none⟩))], [[.slice (some ⟨7, 0, none⟩) m 1], row]⟩)) else none))) := by kernel_rfl
def st (n : Nat) (k : Int) (row : List Int) (j : Nat) : KX := stA n row.length k j (ints .i64 (List.replicate j (-1) ++ row.drop j))
def fin (n m : Nat) (k : Int) : KX := ⟨[(0, .slice (some ⟨0, 0, none⟩) n 6), (4, .int .i64 k), (5, .pointer (some ⟨6, 0, none⟩))], [[.slice (some ⟨7, 0, none⟩) m 1], AHei.rowM m]⟩
def D : KD := ⟨113, 6, 100, [0, 4, 5, 27, 28], [], fun s => match s.T.get 5 with
 | some (.pointer (some p)) => match cellsAt s.h p.block with
  | some [.slice (some q) _ _] => [(p.block, false), (q.block, true)]
  | _ => []
 | _ => [], fun x ro => match x.vs, x.cars, ro with
 | [(0, .slice (some ⟨0, 0, none⟩) n 6), (4, .int .i64 k), (5, .pointer (some ⟨6, 0, none⟩)), (27, .int .i64 l), (28, .int .i64 0)], [[.slice (some ⟨7, 0, none⟩) m 1], row], [] =>
  .need (rowI m l row) (.out (.exit 0, fin n m k))
 | _, _, _ => .no⟩
def lp : LpK := ⟨105, 6, 0, D⟩
theorem lp_fine : LpFine Tryz.prog La 4 lp := by
 refine ⟨by kernel_rfl, fun c base I hP hn hG hI hIL x ro ex y e => ?_⟩
 obtain ⟨vs, cars⟩ := x
 simp only [lp, D] at e ⊢
 split at e
 ·rename_i n k l m row
  obtain ⟨g1, g2⟩ := GT.need_eval e
  cases g2
  obtain ⟨rfl, hm, rw0, rfl, _, rfl⟩ := rowI_ok g1
  have main : ∀ j, j ≤ rw0.length → ChainK (@StepK (etaB base) c base I (loopAt Tryz.prog 105 0) 113 6 100 []) (st n k rw0 (rw0.length - j)) (.exit 0) (fin n rw0.length k) := by
   intro j
   induction j with
   | zero =>
    intro _
    have hr := round n rw0.length k rw0.length (ints .i64 (List.replicate rw0.length (-1)))
    have h1 : decide ((rw0.length : Int) < Int.ofNat rw0.length) = false := decide_eq_false (by show ¬ (rw0.length : Int) < (rw0.length : Int); omega)
    simp only [h1, cond_false, ints_scal, Bool.and_true, cond_true] at hr
    have e : st n k rw0 (rw0.length - 0) = stA n rw0.length k rw0.length (ints .i64 (List.replicate rw0.length (-1))) := by
     unfold st; rw [Nat.sub_zero, List.drop_length, List.append_nil]
    rw [e]
    exact .stop (by simp) (stepT prog_mix prog_names (by simp) (by simp) hP hn hG hI hIL hr)
   | succ j ih =>
    intro hj
    obtain ⟨i, hi⟩ : ∃ i, rw0.length - (j + 1) = i := ⟨_, rfl⟩
    have hi2 : rw0.length - j = i + 1 := by omega
    have hil : i < rw0.length := by omega
    rw [hi]
    rw [hi2] at ih
    refine .next ?_ (ih (by omega))
    have hr := round n rw0.length k i (ints .i64 (List.replicate i (-1) ++ rw0.drop i))
    have h1 : decide ((i : Int) < Int.ofNat rw0.length) = true := decide_eq_true (by show (i : Int) < (rw0.length : Int); omega)
    have h2 := geI i
    have h3 : Nat.blt ((i : Int)).toNat rw0.length = true := by rw [Nat.blt_eq]; simpa using hil
    have h4 : (0 + ((i : Int)).toNat * 1) = i := by simp
    have h5 := wrI i (by omega)
    have hlen : (List.replicate i (-1 : Int) ++ rw0.drop i).length = rw0.length := by simp; omega
    have h6 : Nat.ble (i + 1) (ints .i64 (List.replicate i (-1) ++ rw0.drop i)).length = true := by rw [Nat.ble_eq, ints_len, hlen]; omega
    have h7 : puts (ints .i64 (List.replicate i (-1) ++ rw0.drop i)) i [.int .i64 (-1)] = ints .i64 (List.replicate (i + 1) (-1) ++ rw0.drop (i + 1)) := by
     rw [AHei.puts_ints (by rw [hlen]; exact hil)]
     refine congrArg (ints .i64) ?_
     rw [List.set_append_right _ _ (by simp), List.length_replicate, Nat.sub_self, List.drop_eq_getElem_cons hil, List.set_cons_zero, List.replicate_succ', List.append_assoc]
     rfl
    simp only [h1, h2, h3, h4, h5, h6, h7, ints_scal, Bool.and_true, cond_true] at hr
    exact stepT prog_mix prog_names (by simp) (by simp) hP hn hG hI hIL hr
  have e0 : st n k rw0 (rw0.length - rw0.length) = ⟨[(0, .slice (some ⟨0, 0, none⟩) n 6), (4, .int .i64 k), (5, .pointer (some ⟨6, 0, none⟩)), (27, .int .i64 (Int.ofNat rw0.length)), (28, .int .i64 0)], [[.slice (some ⟨7, 0, none⟩) rw0.length 1], ints .i64 rw0]⟩ := by
   unfold st; rw [Nat.sub_self]; rfl
  exact e0 ▸ main rw0.length (Nat.le_refl _)
 ·cases e
end A105L0
end
section
open Go Go.Proofs
namespace A105
def T (m0 : Nat) (c0 : List Value) : GT Value := let x1 := IntKind.wrap .i64 ((Int.ofNat m0) + 1); let x2 := AHei.tall (Int.ofNat m0) 9223372036854775807 9223372036854775807 (opsOf c0) ((AHei.first m0), 0); let x3 := AHei.rowM (x1).toNat; let x4 := 0 + (((Int.ofNat m0)).toNat * 1); let o1 : GT Value := (.out (.tuple ([.int .i64 0, .bool (false)]).toArray)); (.br (((Int.ofNat m0) == 0)) o1 (.br (decide ((Int.ofNat m0) > 4096)) o1 (.br (decide (0 ≤ x1)) (.br (decide (0 ≤ x1)) (.br (Nat.ble (x1).toNat 1000000) (.br (Nat.ble (x1).toNat (x1).toNat) (.br (((true && (((rep [.int .i64 0] (x1).toNat)).all scalV && true)) && true)) (.br ((rowI (x1).toNat (Int.ofNat (x1).toNat) (rep [.int .i64 0] (x1).toNat))) (.br (Nat.blt 0 (x1).toNat) (.br (Nat.ble 1 (x3).length) (.br (((true && (((puts x3 0 [.int .i64 0])).all scalV && true)) && ((c0).all scalV && true))) (.br (((rowP m0 (Int.ofNat m0) c0) && (((Int.ofNat m0) == (Int.ofNat m0)) && (Nat.ble m0 4096 && (Nat.beq (x1).toNat (m0 + 1) && (AHei.isF m0 (puts x3 0 [.int .i64 0]))))))) (.br ((AHei.fine (Int.ofNat m0) 9223372036854775807 9223372036854775807 (opsOf c0) ((AHei.first m0), 0))) (.br (Nat.blt ((Int.ofNat m0)).toNat (x1).toNat) (.br (isV ((x2).map (Value.int IntKind.i64)) x4 (.i .i64)) (.out (.tuple ([.int .i64 (AHei.most (Int.ofNat m0) 9223372036854775807 9223372036854775807 (opsOf c0) ((AHei.first m0), 0)), .bool (((rdI ((x2).map (Value.int IntKind.i64)) x4) == 1))]).toArray)) .no) .no) o1) .no) .no) .no) .no) .no) .no) .no) .no) .no) .no)))
set_option maxRecDepth 1000000 in
theorem run (m0 : Nat) (c0 : List Value) : runK 4 [(156, A156.spec), (157, A157.spec)] [A105L0.lp, A105L1.lp] 105 [.sl m0 6 c0] = (T m0 c0).eval := by kernel_rfl
theorem T_ok (l : List O6) (hl : l.length < 2199023255552) : (T l.length (opsR l)).eval = some (.tuple #[.int .i64 (AHei.heights 9223372036854775807 9223372036854775807 l).1, .bool (AHei.heights 9223372036854775807 9223372036854775807 l).2]) := by
 have e0 : Int.ofNat l.length = (l.length : Int) := rfl
 unfold T AHei.heights
 simp only [GT.eval, e0]
 cases h0 : (l.length : Int) == 0
 rotate_left
 ·rfl
 have h0' := beq_eq_false_iff_ne.1 h0
 cases h1 : decide ((l.length : Int) > 4096)
 rotate_left
 ·rfl
 have h1' : l.length ≤ 4096 := by have := of_decide_eq_false h1; omega
 have w : IntKind.wrap .i64 ((l.length : Int) + 1) = ((l.length + 1 : Nat) : Int) := by rw [wrap_in (by omega) (by omega)]; omega
 have a1 : decide ((0 : Int) ≤ ((l.length + 1 : Nat) : Int)) = true := decide_eq_true (by omega)
 have a2 : Nat.ble (l.length + 1) 1000000 = true := by rw [Nat.ble_eq]; omega
 have a3 : Nat.ble (l.length + 1) (l.length + 1) = true := by rw [Nat.ble_eq]; exact Nat.le_refl _
 have a4 : rep [Value.int .i64 0] (l.length + 1) = ints .i64 (List.replicate (l.length + 1) 0) := by
  generalize l.length + 1 = n
  induction n with
  | zero => rfl
  | succ n ih => show [Value.int .i64 0] ++ rep [Value.int .i64 0] n = _; rw [ih]; rfl
 have a5 : rowI (l.length + 1) (((l.length + 1 : Nat) : Int)) (ints .i64 (List.replicate (l.length + 1) 0)) = true := by
  have := rowI_of (l := List.replicate (l.length + 1) (0 : Int)) (by simp; omega)
  rw [List.length_replicate] at this
  exact this
 have a6 : Nat.blt 0 (l.length + 1) = true := by rw [Nat.blt_eq]; omega
 have a7 : Nat.ble 1 (AHei.rowM (l.length + 1)).length = true := by unfold AHei.rowM; rw [Nat.ble_eq, ints_len]; simp
 have a8 : puts (AHei.rowM (l.length + 1)) 0 [.int .i64 0] = ints .i64 (AHei.first l.length) := rfl
 have a9 : rowP l.length (l.length : Int) (opsR l) = true := rowP_ops l hl
 have a10 : Nat.ble l.length 4096 = true := by rw [Nat.ble_eq]; exact h1'
 have a11 : AHei.isF l.length (ints .i64 (AHei.first l.length)) = true := AHei.isF_of _
 have a12 : Nat.blt l.length (l.length + 1) = true := by rw [Nat.blt_eq]; omega
 have a13 : 0 + l.length * 1 = l.length := by omega
 have i1 : ∀ n : Nat, Int.ofNat n = (n : Int) := fun _ => rfl
 simp only [w, a1, a2, a3, a4, a5, a6, a7, a8, a9, a10, a11, a12, a13, i1, Int.toNat_natCast, ints_scal, opsR_scal, opsOf_ops, beq_self_eq_true, Nat.beq_refl, Bool.and_self, Bool.and_true, Bool.true_and, cond_true, cond_false]
 cases hf : AHei.fine l.length 9223372036854775807 9223372036854775807 l (AHei.first l.length, 0)
 ·rfl
 ·have ht := AHei.tall_len hf
  have hlt : l.length < (AHei.tall l.length 9223372036854775807 9223372036854775807 l (AHei.first l.length, 0)).length := by omega
  have b1 := isV_ints .i64 _ hlt
  have b2 := A105L1.rd hlt
  unfold ints at b1 b2
  simp only [b1, b2, cond_true]
def spec : Spec := fun aa => match aa with
 | [.sl n 6 cs] => some (.need (rowP n (Int.ofNat n) cs) (.out (.tuple #[.int .i64 (AHei.heights 9223372036854775807 9223372036854775807 (opsOf cs)).1, .bool (AHei.heights 9223372036854775807 9223372036854775807 (opsOf cs)).2])))
 | _ => none
theorem spec_ok : SpecOk Tryz.prog La 105 spec := ⟨fnOk_ok (by kernel_rfl), fun aa t v h e => by
 unfold spec at h
 split at h
 ·rename_i n cs
  cases h
  obtain ⟨g1, g2⟩ := GT.need_eval e
  cases g2
  obtain ⟨_, hn, h4, h5⟩ := rowP_ok g1
  generalize opsOf cs = l at h4 h5
  subst h4 h5
  exact ⟨rfl, callT (n0 := 4) (k := 12) La_below prog_mix prog_names (by simpa using ⟨A156.spec_ok, A157.spec_ok⟩) (by simpa using ⟨A105L0.lp_fine, A105L1.lp_fine⟩) (by decide) (by simp) rfl ((run _ _).trans (T_ok l hn))⟩
 ·cases h⟩
end A105
end
section
open Go Go.Proofs
namespace A55
def T (m0 : Nat) (c0 : List Value) (a1 : Int) (a2 : Int) : GT Value := (.br ((true && ((c0).all scalV && true))) (.br ((Nat.beq m0 m0 && (rowP m0 (Int.ofNat m0) c0))) (.br (((opsOf c0).any (AHei.bad a1 a2))) (.out (.int .i64 120)) (.br (((Nat.ble (0 + (m0 * 6)) (c0).length && (((((c0).drop 0)).take (m0 * 6))).all scalV) && true)) (.br ((rowP m0 (Int.ofNat m0) ((((c0).drop 0)).take (m0 * 6)))) (.br ((!(AHei.heights 9223372036854775807 9223372036854775807 (opsOf ((((c0).drop 0)).take (m0 * 6)))).2)) (.out (.int .i64 120)) (.out (.int .i64 0))) .no) .no)) .no) .no)
set_option maxRecDepth 1000000 in
theorem run (m0 : Nat) (c0 : List Value) (a1 : Int) (a2 : Int) : runK 4 [(105, A105.spec)] [A55L0.lp] 55 [.sl m0 6 c0, .v (.int .i64 a1), .v (.int .i64 a2)] = (T m0 c0 a1 a2).eval := by kernel_rfl
theorem T_ok (l : List O6) (lf la : Int) (hl : l.length < 2199023255552) (hf : lf ≤ 9223372036854775807) (ha : la ≤ 9223372036854775807) : (T l.length (opsR l) lf la).eval = some (.int .i64 (AHei.checkV lf la l)) := by
 unfold T
 rw [← AHei.check_eq hf ha l]
 have h1 : Nat.ble (0 + l.length * 6) (opsR l).length = true := by rw [Nat.ble_eq, opsR_len]; omega
 have h2 : rowP l.length (Int.ofNat l.length) (opsR l) = true := rowP_ops l hl
 simp only [A21.row_all, h1, h2, opsR_scal, opsOf_ops, GT.eval, Bool.and_self, cond_true, Nat.beq_refl]
 cases l.any (AHei.bad lf la) <;> cases (AHei.heights 9223372036854775807 9223372036854775807 l).2 <;> rfl
def spec : Spec := fun aa => match aa with
 | [.sl n 6 cs, .v (.int .i64 lf), .v (.int .i64 la)] => some (.need (rowP n (Int.ofNat n) cs && (inR lf && inR la)) (.out (.int .i64 (AHei.checkV lf la (opsOf cs)))))
 | _ => none
theorem spec_ok : SpecOk Tryz.prog La 55 spec := ⟨fnOk_ok (by kernel_rfl), fun aa t v h e => by
 unfold spec at h
 split at h
 ·rename_i n cs lf la
  cases h
  obtain ⟨g1, g2⟩ := GT.need_eval e
  cases g2
  simp only [Bool.and_eq_true] at g1
  obtain ⟨g1, g3, g4⟩ := g1
  have g3 := Ari.in_iff.1 g3
  have g4 := Ari.in_iff.1 g4
  obtain ⟨_, hn, h4, h5⟩ := rowP_ok g1
  generalize opsOf cs = l at h4 h5
  subst h4 h5
  exact ⟨rfl, callT (n0 := 4) (k := 12) La_below prog_mix prog_names (by simpa using A105.spec_ok) (by simpa using A55L0.lp_fine) (by decide) (by simp) rfl ((run _ _ _ _).trans (T_ok l lf la hn (by omega) (by omega)))⟩
 ·cases h⟩
end A55
end
section
open Go Go.Proofs
namespace A16
def T (m0 : Nat) (c0 : List Value) (m1 : Nat) (c1 : List Value) (m2 : Nat) (c2 : List Value) : GT Value := let x1 := AMac.exRow c0 c1 c2; (.br (((Nat.ble (0 + (m0 * 6)) (c0).length && (((((c0).drop 0)).take (m0 * 6))).all scalV) && (true && (true && true)))) (.br (((rowP m0 (Int.ofNat m0) ((((c0).drop 0)).take (m0 * 6))) && ((inR (Int.ofNat m1)) && (inR (Int.ofNat m2))))) (.br (((AHei.checkV (Int.ofNat m1) (Int.ofNat m2) (opsOf ((((c0).drop 0)).take (m0 * 6)))) != 0)) (.out (.tuple ([.agg ([.int .i64 0, .int .i64 0, .string ⟨([]).toArray⟩]).toArray, .int .i64 120]).toArray)) (.br (((true && (true && true)) && ((c0).all scalV && ((c1).all scalV && ((c2).all scalV && true))))) (.br ((AMac.gd m0 m1 m2 c0 c1 c2)) (.br ((AMac.isErr c0 c1 c2)) (.out (.tuple ([.agg ([.int .i64 0, .int .i64 0, .string ⟨([]).toArray⟩]).toArray, .int .i64 (AMac.err c0 c1 c2)]).toArray)) (.br (isL x1 0 [(.i .i64), (.i .i64), .s]) (.out (.tuple ([.agg ([.int .i64 (rdI x1 0), .int .i64 (rdI x1 1), .string (rdS x1 2)]).toArray, .int .i64 0]).toArray)) .no)) .no) .no)) .no) .no)
set_option maxRecDepth 1000000 in
theorem run (m0 : Nat) (c0 : List Value) (m1 : Nat) (c1 : List Value) (m2 : Nat) (c2 : List Value) : runK 4 [(55, A55.spec)] [A16L0.lp] 16 [.sl m0 6 c0, .sl m1 3 c1, .sl m2 3 c2] = (T m0 c0 m1 c1 m2 c2).eval := by kernel_rfl
theorem one_left {row aggs : List W3} {ops : List O6} (hc : (AHei.heights row.length aggs.length ops).2 = true) (ho : ∀ o ∈ ops, Ari.I o.2.2.2) (hr : ∀ v ∈ row, Ari.I v) (ha : ∀ v ∈ aggs, Ari.I v) {p : List W3 × List Value} (e : AMac.runJ row aggs ops ops.length 0 [] [] = .inl p) : ∃ v, p.1 = [v] := by
 obtain ⟨hl, T, T0, T1, hT⟩ := AHei.heights_ok hc
 have key := A16L0.chainN (Step := fun _ _ _ => True) hT T1 hr ha ho (fun _ _ _ _ _ _ => trivial) (fun _ _ _ => trivial) (fun _ _ _ => trivial) ops.length 0 (by omega) ⟨by omega, by rw [T0]; rfl, fun v hv => absurd hv (List.not_mem_nil)⟩
 rw [e] at key
 obtain ⟨v, hv⟩ := List.length_eq_one_iff.1 key.2
 exact ⟨v, hv⟩
theorem run_of {row aggs : List W3} {ops : List O6} (h : AHei.checkV row.length aggs.length ops = 0) : AMac.runV row aggs ops = match AMac.runJ row aggs ops ops.length 0 [] [] with
  | .inl p => (p.1.getD 0 v0, 0)
  | .inr e => (v0, e) := by
 unfold AMac.runV
 rw [h, ← AMac.runJ_run row aggs ops ops.length 0 [] []]
 cases AMac.runJ row aggs ops ops.length 0 [] [] <;> rfl
theorem T_ok (ops : List O6) (row aggs : List W3) (hl : ops.length < 2199023255552) (hrl : row.length < 4398046511104) (hal : aggs.length < 4398046511104) (ho : ∀ o ∈ ops, Ari.I o.2.2.2) (hr : ∀ v ∈ row, Ari.I v) (ha : ∀ v ∈ aggs, Ari.I v) :
  (T ops.length (opsR ops) row.length (vals row) aggs.length (vals aggs)).eval = some (ve (AMac.runV row aggs ops)) := by
 have e1 : Nat.ble (0 + ops.length * 6) (opsR ops).length = true := by rw [Nat.ble_eq, opsR_len]; omega
 have e2 : rowP ops.length (Int.ofNat ops.length) (opsR ops) = true := rowP_ops ops hl
 have e3 : ∀ n : Nat, n < 4398046511104 → inR (Int.ofNat n) = true := fun n h => Ari.in_iff.2 (by show -9223372036854775808 ≤ (n : Int) ∧ (n : Int) < _; omega)
 unfold T
 simp only [A21.row_all, e1, e2, e3 _ hrl, e3 _ hal, opsR_scal, vals_scal, opsOf_ops, GT.eval, Bool.and_self, Bool.and_true, Bool.true_and, cond_true]
 cases hc : AHei.checkV (Int.ofNat row.length) (Int.ofNat aggs.length) ops != 0
 rotate_left
 ·have hc' : (AHei.checkV (row.length : Int) (aggs.length : Int) ops != 0) = true := hc
  unfold AMac.runV
  rw [hc']; rfl
 have hc0 : AHei.checkV (row.length : Int) (aggs.length : Int) ops = 0 := by
  have : (AHei.checkV (row.length : Int) (aggs.length : Int) ops != 0) = false := hc
  simpa [bne] using this
 have hh : (AHei.heights row.length aggs.length ops).2 = true := by
  unfold AHei.checkV at hc0
  cases e : (AHei.heights row.length aggs.length ops).2
  ·rw [e] at hc0; cases hc0
  ·rfl
 have hgd : AMac.gd ops.length row.length aggs.length (opsR ops) (vals row) (vals aggs) = true := by
  unfold AMac.gd
  rw [opsOf_ops, vals_of, vals_of]
  simp only [Bool.and_eq_true, List.all_eq_true]
  exact ⟨e2, A16L0.rowW_vals row hrl, A16L0.rowW_vals aggs hal, ho, hr, ha, by rw [hc0]; rfl⟩
 rw [run_of hc0]
 simp only [hgd, cond_true, cond_false]
 unfold AMac.isErr AMac.err AMac.exRow
 rw [opsOf_ops, vals_of, vals_of]
 cases hrun : AMac.runJ row aggs ops ops.length 0 [] [] with
 | inr x => rfl
 | inl p =>
  obtain ⟨v, hv⟩ := one_left hh ho hr ha hrun
  dsimp only []
  rw [hv]
  rfl
def spec : Spec := fun aa => match aa with
 | [.sl n 6 cs, .sl nr 3 rs, .sl na 3 as_] => some (.need (AMac.gd0 n nr na cs rs as_) (.out (ve (AMac.runV (valsOf rs) (valsOf as_) (opsOf cs)))))
 | _ => none
theorem gd0_ok {n nr na : Nat} {cs rs as_ : List Value} (h : AMac.gd0 n nr na cs rs as_ = true) : ∃ (ops : List O6) (row aggs : List W3), cs = opsR ops ∧ rs = vals row ∧ as_ = vals aggs ∧ n = ops.length ∧ nr = row.length ∧ na = aggs.length ∧ (∀ o ∈ ops, Ari.I o.2.2.2) ∧ (∀ v ∈ row, Ari.I v) ∧ (∀ v ∈ aggs, Ari.I v) ∧ n < 2199023255552 ∧ nr < 4398046511104 ∧ na < 4398046511104 := by
 unfold AMac.gd0 at h
 simp only [Bool.and_eq_true, List.all_eq_true] at h
 obtain ⟨h1, h2, h3, h4, h5, h6⟩ := h
 obtain ⟨_, a0, a1, a2⟩ := rowP_ok h1
 obtain ⟨_, b0, b1, b2⟩ := rowW_ok h2
 obtain ⟨_, c0, c1, c2⟩ := rowW_ok h3
 exact ⟨opsOf cs, valsOf rs, valsOf as_, a1, b1, c1, a2.symm, b2.symm, c2.symm, h4, h5, h6, a0, b0, c0⟩
theorem spec_ok : SpecOk Tryz.prog La 16 spec := ⟨fnOk_ok (by kernel_rfl), fun aa t v h e => by
 unfold spec at h
 split at h
 ·rename_i n cs nr rs na as_
  cases h
  obtain ⟨g1, g2⟩ := GT.need_eval e
  cases g2
  obtain ⟨ops, row, aggs, rfl, rfl, rfl, rfl, rfl, rfl, ho, hr, ha, h1, h2, h3⟩ := gd0_ok g1
  rw [opsOf_ops, vals_of, vals_of]
  exact ⟨rfl, callT (n0 := 4) (k := 12) La_below prog_mix prog_names (by simpa using A55.spec_ok) (by simpa using A16L0.lp_fine) (by decide) (by simp) rfl ((run _ _ _ _ _ _).trans (T_ok ops row aggs h1 h2 h3 ho hr ha))⟩
 ·cases h⟩
end A16
end
section
open Go Go.Proofs
namespace A18
def T (m0 : Nat) (c0 : List Value) (m1 : Nat) (c1 : List Value) (m2 : Nat) (c2 : List Value) : GT Value := let x1 := AMac.runV (valsOf ((((c1).drop 0)).take (m1 * 3))) (valsOf ((((c2).drop 0)).take (m2 * 3))) (opsOf ((((c0).drop 0)).take (m0 * 6))); (.br (((Int.ofNat m0) == 0)) (.out (.tuple ([.bool (true), .int .i64 0]).toArray)) (.br (((Nat.ble (0 + (m0 * 6)) (c0).length && (((((c0).drop 0)).take (m0 * 6))).all scalV) && ((Nat.ble (0 + (m1 * 3)) (c1).length && (((((c1).drop 0)).take (m1 * 3))).all scalV) && ((Nat.ble (0 + (m2 * 3)) (c2).length && (((((c2).drop 0)).take (m2 * 3))).all scalV) && true)))) (.br ((AMac.gd0 m0 m1 m2 ((((c0).drop 0)).take (m0 * 6)) ((((c1).drop 0)).take (m1 * 3)) ((((c2).drop 0)).take (m2 * 3)))) (.br ((x1.2 == 0)) (.out (.tuple ([.bool ((A35.tru x1.1.1 x1.1.2.1)), .int .i64 x1.2]).toArray)) (.out (.tuple ([.bool (false), .int .i64 x1.2]).toArray))) .no) .no))
set_option maxRecDepth 1000000 in
theorem run (m0 : Nat) (c0 : List Value) (m1 : Nat) (c1 : List Value) (m2 : Nat) (c2 : List Value) : runK 4 [(16, A16.spec), (35, A35.spec)] [] 18 [.sl m0 6 c0, .sl m1 3 c1, .sl m2 3 c2] = (T m0 c0 m1 c1 m2 c2).eval := by kernel_rfl
theorem T_ok (ops : List O6) (row aggs : List W3) (h : AMac.gd0 ops.length row.length aggs.length (opsR ops) (vals row) (vals aggs) = true) : (T ops.length (opsR ops) row.length (vals row) aggs.length (vals aggs)).eval = some (.tuple #[.bool (AMac.trueV row aggs ops).1, .int .i64 (AMac.trueV row aggs ops).2]) := by
 have e1 : Nat.ble (0 + ops.length * 6) (opsR ops).length = true := by rw [Nat.ble_eq, opsR_len]; omega
 have e2 : ∀ l : List W3, Nat.ble (0 + l.length * 3) (vals l).length = true := fun l => by rw [Nat.ble_eq, vals_len]; omega
 have e3 : ∀ l : List W3, ((vals l).drop 0).take (l.length * 3) = vals l := fun l => by rw [List.drop_zero, List.take_of_length_le (by rw [vals_len]; exact Nat.le_refl _)]
 unfold T AMac.trueV
 simp only [A21.row_all, e1, e2, e3, opsR_scal, vals_scal, opsOf_ops, vals_of, h, GT.eval, Bool.and_self, Bool.and_true, cond_true]
 cases Int.ofNat ops.length == 0
 ·simp only [cond_false]
  cases (AMac.runV row aggs ops).2 == 0 <;> rfl
 ·rfl
def spec : Spec := fun aa => match aa with
 | [.sl n 6 cs, .sl nr 3 rs, .sl na 3 as_] => some (.need (AMac.gd0 n nr na cs rs as_) (.out (.tuple #[.bool (AMac.trueV (valsOf rs) (valsOf as_) (opsOf cs)).1, .int .i64 (AMac.trueV (valsOf rs) (valsOf as_) (opsOf cs)).2])))
 | _ => none
theorem spec_ok : SpecOk Tryz.prog La 18 spec := ⟨fnOk_ok (by kernel_rfl), fun aa t v h e => by
 unfold spec at h
 split at h
 ·rename_i n cs nr rs na as_
  cases h
  obtain ⟨g1, g2⟩ := GT.need_eval e
  cases g2
  obtain ⟨ops, row, aggs, rfl, rfl, rfl, rfl, rfl, rfl, ho, hr, ha, h1, h2, h3⟩ := A16.gd0_ok g1
  rw [opsOf_ops, vals_of, vals_of]
  exact ⟨rfl, callT (n0 := 4) (k := 12) La_below prog_mix prog_names (by simpa using ⟨A16.spec_ok, A35.spec_ok⟩) (by simp) (by decide) (by simp) rfl ((run _ _ _ _ _ _).trans (T_ok ops row aggs g1))⟩
 ·cases h⟩
end A18
end
section
open Go Go.Proofs
namespace A20
def T  : GT Value := (.out (.bool (true)))
set_option maxRecDepth 1000000 in
theorem run  : runK 4 [(16, fun aa => A16.spec (nzs [6, 3, 3] aa)), (18, fun aa => A18.spec (nzs [6, 3, 3] aa))] [] 20 [] = (T ).eval := by kernel_rfl
def spec : Spec := fun aa => match aa with
 | [] => some (.out (.bool true))
 | _ => none
theorem spec_ok : SpecOk Tryz.prog La 20 spec := ⟨fnOk_ok (by kernel_rfl), fun aa t v h e => by
 unfold spec at h
 split at h
 ·cases h; cases e
  exact ⟨rfl, callT (n0 := 4) (k := 12) La_below prog_mix prog_names (by simpa using ⟨A16.spec_ok.nil [6, 3, 3], A18.spec_ok.nil [6, 3, 3]⟩) (by simp) (by decide) (by simp) rfl run⟩
 ·cases h⟩
end A20
end
section
open Go Go.Proofs
namespace A6
def T (m0 : Nat) (c0 : List Value) (m1 : Nat) (c1 : List Value) (m2 : Nat) (c2 : List Value) : GT Value := let x3 := A6L0.rowJ m0 ((((c0).drop 0)).take (m0 * 6)) c1; let x2 := AMac.runV (valsOf ((((c2).drop 0)).take (m2 * 3))) (valsOf []) (opsOf (((((((((x3).drop 0)).take ((m0 + m1) * 6)) ++ [Value.int .i64 4, .int .i64 0, .string ⟨([61]).toArray⟩, .int .i64 0, .int .i64 0, .string ⟨([]).toArray⟩])).drop 0)).take (((m0 + m1) + 1) * 6))); let x4 := AMac.runV (valsOf ((((c2).drop 0)).take (m2 * 3))) (valsOf []) (opsOf ((((c1).drop 0)).take (m1 * 6))); let x5 := AMac.runV (valsOf ((((c2).drop 0)).take (m2 * 3))) (valsOf []) (opsOf ((((c0).drop 0)).take (m0 * 6))); let x1 := AMac.runV (valsOf []) (valsOf []) (opsOf (((([Value.int .i64 1, .int .i64 0, .string ⟨([]).toArray⟩, .int .i64 x5.1.1, .int .i64 x5.1.2.1, .string x5.1.2.2, .int .i64 1, .int .i64 0, .string ⟨([]).toArray⟩, .int .i64 x4.1.1, .int .i64 x4.1.2.1, .string x4.1.2.2, .int .i64 4, .int .i64 0, .string ⟨([61]).toArray⟩, .int .i64 0, .int .i64 0, .string ⟨([]).toArray⟩]).drop 0)).take 18)); let x6 := 0 + (((m0 + m1) + 1) * 6); (.br (((Nat.ble (0 + (m0 * 6)) (c0).length && (((((c0).drop 0)).take (m0 * 6))).all scalV) && ((Nat.ble (0 + (m2 * 3)) (c2).length && (((((c2).drop 0)).take (m2 * 3))).all scalV) && (true && true)))) (.br ((AMac.gd0 m0 m2 0 ((((c0).drop 0)).take (m0 * 6)) ((((c2).drop 0)).take (m2 * 3)) [])) (.br (((Nat.ble (0 + (m1 * 6)) (c1).length && (((((c1).drop 0)).take (m1 * 6))).all scalV) && ((Nat.ble (0 + (m2 * 3)) (c2).length && (((((c2).drop 0)).take (m2 * 3))).all scalV) && (true && true)))) (.br ((AMac.gd0 m1 m2 0 ((((c1).drop 0)).take (m1 * 6)) ((((c2).drop 0)).take (m2 * 3)) [])) (.br ((x5.2 != 0)) (.out (.bool (true))) (.br ((x4.2 != 0)) (.out (.bool (true))) (.br (decide ((IntKind.wrap .i64 ((Int.ofNat m0) + (Int.ofNat m1))) > 1000)) (.out (.bool (true))) (.br (Nat.beq m0 0) (.br ((true && ((c1).all scalV && true))) .no .no) (.br (Nat.ble (0 + m0) 140737488355328) (.br (Nat.ble ((0 + m0) * 64) 140737488355328) (.br (Nat.ble (0 + (m0 * 6)) (c0).length) (.br ((((((c0).drop 0)).take (m0 * 6))).all oneC) (.br ((((((((c0).drop 0)).take (m0 * 6))).all scalV && true) && ((c1).all scalV && true))) (.br (((rowP m1 (Int.ofNat m1) c1) && ((rowP m0 (Int.ofNat m0) ((((c0).drop 0)).take (m0 * 6))) && Nat.ble (m0 + m1) 1000))) (.br (Nat.ble ((m0 + m1) + 1) 140737488355328) (.br (Nat.ble (((m0 + m1) + 1) * 64) 140737488355328) (.br (Nat.ble (0 + ((m0 + m1) * 6)) (x3).length) (.br (((Nat.ble x6 ((((((x3).drop 0)).take ((m0 + m1) * 6)) ++ [Value.int .i64 4, .int .i64 0, .string ⟨([61]).toArray⟩, .int .i64 0, .int .i64 0, .string ⟨([]).toArray⟩])).length && ((((((((((x3).drop 0)).take ((m0 + m1) * 6)) ++ [Value.int .i64 4, .int .i64 0, .string ⟨([61]).toArray⟩, .int .i64 0, .int .i64 0, .string ⟨([]).toArray⟩])).drop 0)).take (((m0 + m1) + 1) * 6))).all scalV) && (true && (true && true)))) (.br ((rowP ((m0 + m1) + 1) (Int.ofNat ((m0 + m1) + 1)) (((((((((x3).drop 0)).take ((m0 + m1) * 6)) ++ [Value.int .i64 4, .int .i64 0, .string ⟨([61]).toArray⟩, .int .i64 0, .int .i64 0, .string ⟨([]).toArray⟩])).drop 0)).take (((m0 + m1) + 1) * 6)))) (.br (((AHei.checkV (Int.ofNat m2) 0 (opsOf (((((((((x3).drop 0)).take ((m0 + m1) * 6)) ++ [Value.int .i64 4, .int .i64 0, .string ⟨([61]).toArray⟩, .int .i64 0, .int .i64 0, .string ⟨([]).toArray⟩])).drop 0)).take (((m0 + m1) + 1) * 6)))) != 0)) (.out (.bool (true))) (.br (((Nat.ble x6 ((((((x3).drop 0)).take ((m0 + m1) * 6)) ++ [Value.int .i64 4, .int .i64 0, .string ⟨([61]).toArray⟩, .int .i64 0, .int .i64 0, .string ⟨([]).toArray⟩])).length && ((((((((((x3).drop 0)).take ((m0 + m1) * 6)) ++ [Value.int .i64 4, .int .i64 0, .string ⟨([61]).toArray⟩, .int .i64 0, .int .i64 0, .string ⟨([]).toArray⟩])).drop 0)).take (((m0 + m1) + 1) * 6))).all scalV) && ((Nat.ble (0 + (m2 * 3)) (c2).length && (((((c2).drop 0)).take (m2 * 3))).all scalV) && (true && true)))) (.br ((AMac.gd0 ((m0 + m1) + 1) m2 0 (((((((((x3).drop 0)).take ((m0 + m1) * 6)) ++ [Value.int .i64 4, .int .i64 0, .string ⟨([61]).toArray⟩, .int .i64 0, .int .i64 0, .string ⟨([]).toArray⟩])).drop 0)).take (((m0 + m1) + 1) * 6)) ((((c2).drop 0)).take (m2 * 3)) [])) (.br ((AMac.gd0 3 0 0 (((([Value.int .i64 1, .int .i64 0, .string ⟨([]).toArray⟩, .int .i64 x5.1.1, .int .i64 x5.1.2.1, .string x5.1.2.2, .int .i64 1, .int .i64 0, .string ⟨([]).toArray⟩, .int .i64 x4.1.1, .int .i64 x4.1.2.1, .string x4.1.2.2, .int .i64 4, .int .i64 0, .string ⟨([61]).toArray⟩, .int .i64 0, .int .i64 0, .string ⟨([]).toArray⟩]).drop 0)).take 18) [] [])) (.br (((x2.1.1 == x1.1.1) && ((x2.1.2.1 == x1.1.2.1) && (eqU x2.1.2.2.data.toList x1.1.2.2.data.toList && true)))) (.br ((x2.2 == 0)) (.br ((x1.2 == 0)) (.out (.bool (true))) (.out (.bool (false)))) (.out (.bool (false)))) (.out (.bool (false)))) .no) .no) .no)) .no) .no) .no) .no) .no) .no) .no) .no) .no) .no) .no))))) .no) .no) .no) .no)
set_option maxRecDepth 1000000 in
theorem run (m0 : Nat) (c0 : List Value) (m1 : Nat) (c1 : List Value) (m2 : Nat) (c2 : List Value) : runK 4 [(16, fun aa => A16.spec (nzs [6, 3, 3] aa)), (20, A20.spec), (21, A21.spec)] [A6L0.lp, A6L0.lpN] 6 [.sl m0 6 c0, .sl m1 6 c1, .sl m2 3 c2] = (T m0 c0 m1 c1 m2 c2).eval := by kernel_rfl
theorem shw_sh {a b : List O6} {row : List W3} (h : (AMac.runV row [] b).2 = 0) (ha : a.length ≤ 1000) (hb : b.length ≤ 1000) : b.map (A6L0.shw a.length) = b.map (AMac.sh a.length) := by
 refine List.map_congr_left fun o ho => ?_
 have hj := AMac.runV_jumps h o ho
 unfold A6L0.shw AMac.sh
 cases e7 : o.1 == 7
 ·cases e8 : o.1 == 8
  ·rfl
  ·have := hj (.inr (beq_iff_eq.1 e8))
   show (o.1, IntKind.wrap .i64 (o.2.1 + (a.length : Int)), o.2.2) = (o.1, o.2.1 + (a.length : Int), o.2.2)
   rw [wrap_in (by omega) (by omega)]
 ·have := hj (.inl (beq_iff_eq.1 e7))
  show (o.1, IntKind.wrap .i64 (o.2.1 + (a.length : Int)), o.2.2) = (o.1, o.2.1 + (a.length : Int), o.2.2)
  rw [wrap_in (by omega) (by omega)]
theorem gd0_of {ops : List O6} {row : List W3} (l0 : ops.length < 2199023255552) (l1 : row.length < 4398046511104) (i0 : ∀ o ∈ ops, inR o.2.2.2.2.1 = true) (i1 : ∀ v ∈ row, inR v.2.1 = true) :
  AMac.gd0 ops.length row.length 0 (opsR ops) (vals row) [] = true := by
 unfold AMac.gd0
 rw [opsOf_ops, vals_of]
 simp only [Bool.and_eq_true, List.all_eq_true]
 exact ⟨rowP_ops ops l0, A16L0.rowW_vals row l1, rfl, i0, i1, fun v hv => absurd hv (List.not_mem_nil)⟩
theorem ops_one (l : List O6) : (opsR l).all oneC = true := List.all_eq_true.2 fun x hx => by
 have := List.all_eq_true.1 (opsR_scal l) x hx
 cases x <;> first | rfl | cases this
set_option maxHeartbeats 0 in
theorem T_ok (a b : List O6) (row : List W3) (la : a.length < 2199023255500) (lb : b.length < 2199023255500) (lr : row.length < 4398046511104) (ia : ∀ o ∈ a, inR o.2.2.2.2.1 = true) (ib : ∀ o ∈ b, inR o.2.2.2.2.1 = true) (ir : ∀ v ∈ row, inR v.2.1 = true) :
  (T a.length (opsR a) b.length (opsR b) row.length (vals row)).eval = some (.bool true) := by
 have ga := gd0_of (ops := a) (by omega) lr ia ir
 have gb := gd0_of (ops := b) (by omega) lr ib ir
 have e1 : ∀ l : List O6, Nat.ble (0 + l.length * 6) (opsR l).length = true := fun l => by rw [Nat.ble_eq, opsR_len]; omega
 have e2 : Nat.ble (0 + row.length * 3) (vals row).length = true := by rw [Nat.ble_eq, vals_len]; omega
 have e3 : ((vals row).drop 0).take (row.length * 3) = vals row := by rw [List.drop_zero, List.take_of_length_le (by rw [vals_len]; exact Nat.le_refl _)]
 have i1 : ∀ n : Nat, Int.ofNat n = (n : Int) := fun _ => rfl
 have v0' : valsOf [] = [] := rfl
 have w1 : IntKind.wrap .i64 ((a.length : Int) + (b.length : Int)) = (a.length : Int) + b.length := wrap_in (by omega) (by omega)
 unfold T
 simp only [i1, A21.row_all, e1, e2, e3, opsR_scal, vals_scal, opsOf_ops, vals_of, v0', ga, gb, w1, GT.eval, Bool.and_self, Bool.and_true, cond_true]
 cases xa : (AMac.runV row [] a).2 != 0
 rotate_left
 ·rfl
 cases xb : (AMac.runV row [] b).2 != 0
 rotate_left
 ·rfl
 have xa0 : (AMac.runV row [] a).2 = 0 := by simpa [bne] using xa
 have xb0 : (AMac.runV row [] b).2 = 0 := by simpa [bne] using xb
 cases hk : decide ((a.length : Int) + b.length > 1000)
 rotate_left
 ·rfl
 have hk := of_decide_eq_false hk
 cases hz : Nat.beq a.length 0
 rotate_left
 ·obtain rfl : a = [] := List.eq_nil_of_length_eq_zero (Nat.eq_of_beq_eq_true hz)
  rw [AMac.runV_nil] at xa0; cases xa0
 have hx : AMac.runV row [] a = ((AMac.runV row [] a).1, 0) := Prod.ext rfl xa0
 have hy : AMac.runV row [] b = ((AMac.runV row [] b).1, 0) := Prod.ext rfl xb0
 have Ix := AMac.runV_I hx ir ia
 have Iy := AMac.runV_I hy ir ib
 generalize hX : (AMac.runV row [] a).1 = x at *
 generalize hY : (AMac.runV row [] b).1 = y at *
 have hj : A6L0.rowJ a.length (opsR a) (opsR b) = opsR (a ++ b.map (AMac.sh a.length)) := by
  unfold A6L0.rowJ
  rw [opsOf_ops, opsOf_ops, shw_sh xb0 (by omega) (by omega)]
 have hl : (a ++ b.map (AMac.sh a.length)).length = a.length + b.length := by simp
 have hlc : (a ++ b.map (AMac.sh a.length) ++ [AMac.eqOp]).length = a.length + b.length + 1 := by rw [List.length_append, hl]; rfl
 have t1 : ((opsR (a ++ b.map (AMac.sh a.length))).drop 0).take ((a.length + b.length) * 6) = opsR (a ++ b.map (AMac.sh a.length)) := by
  have := A21.row_all (a ++ b.map (AMac.sh a.length))
  rwa [hl] at this
 have t2 : opsR (a ++ b.map (AMac.sh a.length)) ++ [Value.int .i64 4, .int .i64 0, .string ⟨#[61]⟩, .int .i64 0, .int .i64 0, .string ⟨#[]⟩] = opsR (a ++ b.map (AMac.sh a.length) ++ [AMac.eqOp]) := A6L0.opsR_snoc _ AMac.eqOp
 have t3 : ((opsR (a ++ b.map (AMac.sh a.length) ++ [AMac.eqOp])).drop 0).take ((a.length + b.length + 1) * 6) = opsR (a ++ b.map (AMac.sh a.length) ++ [AMac.eqOp]) := by
  have := A21.row_all (a ++ b.map (AMac.sh a.length) ++ [AMac.eqOp])
  rwa [hlc] at this
 have n1 : Nat.ble (0 + a.length) 140737488355328 = true := by rw [Nat.ble_eq]; omega
 have n2 : Nat.ble ((0 + a.length) * 64) 140737488355328 = true := by rw [Nat.ble_eq]; omega
 have n3 : Nat.ble (a.length + b.length) 1000 = true := by rw [Nat.ble_eq]; omega
 have n4 : Nat.ble (a.length + b.length + 1) 140737488355328 = true := by rw [Nat.ble_eq]; omega
 have n5 : Nat.ble ((a.length + b.length + 1) * 64) 140737488355328 = true := by rw [Nat.ble_eq]; omega
 have n6 : Nat.ble (0 + (a.length + b.length) * 6) (opsR (a ++ b.map (AMac.sh a.length))).length = true := by rw [Nat.ble_eq, opsR_len, hl]; omega
 have n7 : Nat.ble (0 + (a.length + b.length + 1) * 6) (opsR (a ++ b.map (AMac.sh a.length) ++ [AMac.eqOp])).length = true := by rw [Nat.ble_eq, opsR_len, hlc]; omega
 have p1 : rowP b.length (b.length : Int) (opsR b) = true := rowP_ops b (by omega)
 have p2 : rowP a.length (a.length : Int) (opsR a) = true := rowP_ops a (by omega)
 have p3 : rowP (a.length + b.length + 1) ((a.length + b.length + 1 : Nat) : Int) (opsR (a ++ b.map (AMac.sh a.length) ++ [AMac.eqOp])) = true := by
  have := rowP_ops (a ++ b.map (AMac.sh a.length) ++ [AMac.eqOp]) (by omega)
  rwa [hlc] at this
 have ic : ∀ o ∈ a ++ b.map (AMac.sh a.length) ++ [AMac.eqOp], inR o.2.2.2.2.1 = true := fun o ho => by
  rcases List.mem_append.1 ho with ho | ho
  ·rcases List.mem_append.1 ho with ho | ho
   ·exact ia o ho
   ·obtain ⟨q, hq, rfl⟩ := List.mem_map.1 ho
    have := ib q hq
    unfold AMac.sh
    cases q.1 == 7 || q.1 == 8 <;> exact this
  ·rw [List.mem_singleton.1 ho]; rfl
 have gc := gd0_of (ops := a ++ b.map (AMac.sh a.length) ++ [AMac.eqOp]) (by omega) lr ic ir
 rw [hlc] at gc
 have lit : [Value.int .i64 1, .int .i64 0, .string ⟨#[]⟩, .int .i64 x.1, .int .i64 x.2.1, .string x.2.2, .int .i64 1, .int .i64 0, .string ⟨#[]⟩, .int .i64 y.1, .int .i64 y.2.1, .string y.2.2, .int .i64 4, .int .i64 0, .string ⟨#[61]⟩, .int .i64 0, .int .i64 0, .string ⟨#[]⟩] = opsR [AMac.pushOp x, AMac.pushOp y, AMac.eqOp] := rfl
 have t4 : ((opsR [AMac.pushOp x, AMac.pushOp y, AMac.eqOp]).drop 0).take 18 = opsR [AMac.pushOp x, AMac.pushOp y, AMac.eqOp] := rfl
 have g3 : AMac.gd0 3 0 0 (opsR [AMac.pushOp x, AMac.pushOp y, AMac.eqOp]) [] [] = true := gd0_of (ops := [AMac.pushOp x, AMac.pushOp y, AMac.eqOp]) (row := []) (show 3 < 2199023255552 by decide) (by decide) (fun o ho => by
  rcases List.mem_cons.1 ho with rfl | ho
  ·exact Ix
  rcases List.mem_cons.1 ho with rfl | ho
  ·exact Iy
  ·rw [List.mem_singleton.1 ho]; rfl) (fun v hv => absurd hv (List.not_mem_nil))
 simp only [cond_false, hj, t1, t2, t3, n1, n2, n3, n4, n5, n6, n7, p1, p2, p3, gc, lit, t4, g3, opsOf_ops, opsR_scal, ops_one, cond_true, Bool.and_self]
 cases hc : AHei.checkV (row.length : Int) 0 (a ++ b.map (AMac.sh a.length) ++ [AMac.eqOp]) != 0
 rotate_left
 ·rfl
 have hc0 : AHei.checkV (row.length : Int) 0 (a ++ b.map (AMac.sh a.length) ++ [AMac.eqOp]) = 0 := by simpa [bne] using hc
 obtain ⟨r1, r2⟩ := AMac.joined hx hy ir ia ib hc0
 have hu : ∀ l : List UInt8, eqU l l = true := Fit.eqU_refl
 simp only [r1, r2, hu, beq_self_eq_true, Bool.and_self, cond_true, cond_false]
def spec : Spec := fun aa => match aa with
 | [.sl n 6 cs, .sl m 6 ds, .sl nr 3 rs] => some (.need (AMac.gd0 n nr 0 cs rs [] && (AMac.gd0 m nr 0 ds rs [] && (Nat.blt n 2199023255500 && Nat.blt m 2199023255500))) (.out (.bool true)))
 | _ => none
theorem spec_ok : SpecOk Tryz.prog La 6 spec := ⟨fnOk_ok (by kernel_rfl), fun aa t v h e => by
 unfold spec at h
 split at h
 ·rename_i n cs m ds nr rs
  cases h
  obtain ⟨g1, g2⟩ := GT.need_eval e
  cases g2
  simp only [Bool.and_eq_true, Nat.blt_eq] at g1
  obtain ⟨g1, g2, g3, g4⟩ := g1
  obtain ⟨a, row, _, rfl, rfl, _, rfl, rfl, _, ia, ir, _, _, h2, _⟩ := A16.gd0_ok g1
  obtain ⟨b, row', _, rfl, e', _, rfl, _, _, ib, _, _, _, _, _⟩ := A16.gd0_ok g2
  exact ⟨rfl, callT (n0 := 4) (k := 12) La_below prog_mix prog_names (by simpa using ⟨A16.spec_ok.nil [6, 3, 3], A20.spec_ok, A21.spec_ok⟩) (by simpa using ⟨A6L0.lp_fine, A6L0.lpN_fine⟩) (by decide) (by simp) rfl ((run _ _ _ _ _ _).trans (T_ok a b row g3 g4 h2 ia ib ir))⟩
 ·cases h⟩
theorem spec_sl {a b : List O6} {row : List W3} (l0 : a.length < 2199023255500) (l1 : b.length < 2199023255500) (l2 : row.length < 4398046511104) (i0 : ∀ o ∈ a, inR o.2.2.2.2.1 = true) (i1 : ∀ o ∈ b, inR o.2.2.2.2.1 = true) (i2 : ∀ v ∈ row, inR v.2.1 = true) :
  CallsA Tryz.prog La 6 [.sl a.length 6 (opsR a), .sl b.length 6 (opsR b), .sl row.length 3 (vals row)] (.bool true) := by
 have g : (AMac.gd0 a.length row.length 0 (opsR a) (vals row) [] && (AMac.gd0 b.length row.length 0 (opsR b) (vals row) [] && (Nat.blt a.length 2199023255500 && Nat.blt b.length 2199023255500))) = true := by
  simp only [Bool.and_eq_true, Nat.blt_eq]
  exact ⟨gd0_of (by omega) l2 i0 i2, gd0_of (by omega) l2 i1 i2, l0, l1⟩
 refine (spec_ok.2 _ _ (.bool true) rfl ?_).2
 show (bif _ then _ else _) = _
 rw [g]; rfl
end A6
end
end Go.Proofs.YtaiokpmmjbiajaaGreatDoorDx
