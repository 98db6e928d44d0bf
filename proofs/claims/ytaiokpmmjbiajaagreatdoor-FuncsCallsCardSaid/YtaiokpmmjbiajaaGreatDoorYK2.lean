/- A part of the proof of this claim. No condition beyond those that each theorem names. -/
import Derived.Test.YtaiokpmmjbiajaaGreatDoorYK0
import Derived.Test.YtaiokpmmjbiajaaGreatDoorProg
import Derived.KernelRfl
import Derived.Test.YtaiokpmmjbiajaaGreatDoorYK1
set_option linter.unusedVariables false
set_option linter.unusedSimpArgs false
namespace Go.Proofs.YtaiokpmmjbiajaaGreatDoorDx
section
open Go Go.Proofs
namespace A102L1b
noncomputable def cfg : Cfg := cfgK Tryz.prog 4 (gpT []) (ltT 4 [])
def stA (s : ByteArray) (k : Nat) (i : Int) : KX := ⟨[(0, .string s), (3, .slice (some ⟨5, 0, none⟩) k 1), (4, .int .i64 i)], []⟩
def kp : Ex → List Nat
 | .normal => [0, 3, 4]
 | .exit _ => [0, 3, 4]
 | _ => []
def cr : Ex → St → List (Nat × Bool) := fun _ s => []
set_option maxRecDepth 1000000 in
theorem round (s : ByteArray) (k : Nat) (i : Int)  : codeK cfg (gpT []) (callK cfg (gpT []) (ltT 4 []) 12) (fun _ _ => none) false 1000 (loopAt Tryz.prog 102 1) (stK 35 6 [] (stA s k i)) (endK 6 100 35 kp cr) = ((bif decide (i < (Int.ofNat ((s).data.toList).length)) then (bif decide (0 ≤ i) then (bif Nat.blt (i).toNat ((s).data.toList).length then (bif decide ((Int.ofNat ((((s).data.toList).getD (i).toNat 0)).toNat) ≥ 128) then (bif decide (0 ≤ i) then (bif Nat.blt (i).toNat ((s).data.toList).length then (bif decide ((Int.ofNat ((((s).data.toList).getD (i).toNat 0)).toNat) < 192) then (some (.normal, ⟨[(0, .string s), (3, .slice (some ⟨5, 0, none⟩) k 1), (4, .int .i64 (IntKind.wrap .i64 (i + 1)))], []⟩)) else (some (.exit 2, ⟨[(0, .string s), (3, .slice (some ⟨5, 0, none⟩) k 1), (4, .int .i64 i)], []⟩))) else none) else none) else (some (.exit 2, ⟨[(0, .string s), (3, .slice (some ⟨5, 0, none⟩) k 1), (4, .int .i64 i)], []⟩))) else none) else none) else (some (.exit 2, ⟨[(0, .string s), (3, .slice (some ⟨5, 0, none⟩) k 1), (4, .int .i64 i)], []⟩)))) := by kernel_rfl
def len (s : ByteArray) : Int := Int.ofNat (1 + ((s.data.toList.drop 1).takeWhile Ref.contb).length)
def D : KD := ⟨35, 6, 100, [0, 3, 4], [], fun _ => [], fun x ro => match x.vs, x.cars, ro with
 | [(0, .string s), (3, .slice (some ⟨5, 0, none⟩) k 1), (4, .int .i64 1)], [], [] => .need (Nat.blt 0 s.data.toList.length && Nat.blt s.data.toList.length 4611686018427387904) (.out (.exit 2, stA s k (len s)))
 | _, _, _ => .no⟩
def lp : LpK := ⟨102, 4, 1, D⟩
theorem lp_fine : LpFine Tryz.prog La 4 lp := by
 refine ⟨by kernel_rfl, fun c base I hP hn hG hI hIL x ro ex y e => ?_⟩
 obtain ⟨vs, cars⟩ := x
 simp only [lp, D] at e ⊢
 split at e
 ·rename_i s k
  obtain ⟨g1, g2⟩ := GT.need_eval e
  simp only [Bool.and_eq_true, Nat.blt_eq] at g1
  cases g2
  exact A102L1.chain s (fun i => stA s k i) g1.2 (Step := @StepK (etaB base) c base I (loopAt Tryz.prog 102 1) 35 6 100 []) (fun i ex y hh => stepT prog_mix prog_names (by simp) (by simp) hP hn hG hI hIL ((round s k i).trans hh)) _ 1 rfl (by omega)
 ·cases e
end A102L1b
end
section
open Go Go.Proofs
namespace A102L0
def L : List LpK := [A102L1.lp, A102L1b.lp]
noncomputable def cfg : Cfg := cfgK Tryz.prog 4 (gpT []) (ltT 4 [A102L1.lp, A102L1b.lp])
def stN (s : ByteArray) : KX := ⟨[(0, .string s), (3, .slice none 0 0)], []⟩
def stR (s : ByteArray) (k : Nat) (row : List Value) : KX := ⟨[(0, .string s), (3, .slice (some ⟨5, 0, none⟩) k 1)], [row]⟩
def exN : KX := ⟨[(3, .slice none 0 0)], []⟩
def exR (k : Nat) (row : List Value) : KX := ⟨[(3, .slice (some ⟨5, 0, none⟩) k 1)], [row]⟩
def kp : Ex → List Nat
 | .normal => [0, 3]
 | _ => [3]
def cr : Ex → St → List (Nat × Bool) := fun _ s => match s.T.get 3 with
 | some (.slice (some p) _ _) => [(p.block, true)]
 | _ => []
def rest (s : ByteArray) : ByteArray := ⟨((s.data.toList.take s.data.toList.length).drop (A102L1.len s).toNat).toArray⟩
def head (s : ByteArray) : ByteArray := ⟨((s.data.toList.take (A102L1.len s).toNat).drop 0).toArray⟩
set_option maxRecDepth 1000000 in
theorem roundN (s : ByteArray) : codeK cfg (gpT []) (callK cfg (gpT []) (ltT 4 [A102L1.lp, A102L1b.lp]) 12) (ltT 4 [A102L1.lp, A102L1b.lp] 102) false 1000 (loopAt Tryz.prog 102 0) (stK 35 5 [] (stN s)) (endK 5 300 35 kp cr) =
 (bif (!eqU (s).data.toList []) then (bif (Nat.blt 0 ((s).data.toList).length && Nat.blt ((s).data.toList).length 4611686018427387904) then (bif (decide (0 ≤ (A102L1.len s)) && Nat.ble ((A102L1.len s)).toNat ((s).data.toList).length) then (bif (decide (0 ≤ (A102L1.len s)) && Nat.ble ((A102L1.len s)).toNat ((s).data.toList).length) then (some (.normal, stR (rest s) 1 [.string (head s)])) else none) else none) else none) else (some (.exit 0, exN))) := by kernel_rfl
set_option maxRecDepth 1000000 in
theorem roundR (s : ByteArray) (k : Nat) (row : List Value) : codeK cfg (gpT []) (callK cfg (gpT []) (ltT 4 [A102L1.lp, A102L1b.lp]) 12) (ltT 4 [A102L1.lp, A102L1b.lp] 102) false 1000 (loopAt Tryz.prog 102 0) (stK 35 5 [] (stR s k row)) (endK 5 300 35 kp cr) =
 (let r2 := ((row.drop 0).take (k * 1)) ++ [.string (head s)]; bif (!eqU (s).data.toList []) then (bif (Nat.blt 0 ((s).data.toList).length && Nat.blt ((s).data.toList).length 4611686018427387904) then (bif (decide (0 ≤ (A102L1.len s)) && Nat.ble ((A102L1.len s)).toNat ((s).data.toList).length) then (bif Nat.ble (k + 1) 140737488355328 then (bif Nat.ble ((k + 1) * 16) 140737488355328 then (bif Nat.ble (0 + (k * 1)) (row).length then (bif (decide (0 ≤ (A102L1.len s)) && Nat.ble ((A102L1.len s)).toNat ((s).data.toList).length) then (bif r2.all scalV && true then (some (.normal, stR (rest s) (k + 1) r2)) else none) else none) else none) else none) else none) else none) else none) else (bif row.all scalV && true then (some (.exit 0, exR k row)) else none)) := by kernel_rfl
theorem take_tw (p : UInt8 → Bool) : ∀ l : List UInt8, l.take (l.takeWhile p).length = l.takeWhile p ∧ l.drop (l.takeWhile p).length = l.dropWhile p
 | [] => ⟨rfl, rfl⟩
 | x :: l => by
  obtain ⟨a, b⟩ := take_tw p l
  rw [List.takeWhile_cons, List.dropWhile_cons]
  cases p x
  ·exact ⟨rfl, rfl⟩
  ·simp only [if_true, List.length_cons, List.take_succ_cons, List.drop_succ_cons, a, b]
   exact ⟨trivial, trivial⟩
theorem dw_le (p : UInt8 → Bool) : ∀ l : List UInt8, (l.dropWhile p).length ≤ l.length
 | [] => Nat.le_refl _
 | x :: l => by
  rw [List.dropWhile_cons]
  have := dw_le p l
  cases p x
  ·exact Nat.le_refl _
  ·simp only [if_true, List.length_cons]; omega
theorem tw_le (p : UInt8 → Bool) : ∀ l : List UInt8, (l.takeWhile p).length ≤ l.length
 | [] => Nat.le_refl _
 | x :: l => by
  rw [List.takeWhile_cons]
  have := tw_le p l
  cases p x
  ·simp
  ·simp only [if_true, List.length_cons]; omega
theorem fuel : ∀ (n m : Nat) (l : List UInt8), l.length ≤ n → l.length ≤ m → Ref.piecesN n l = Ref.piecesN m l
 | 0, m, l, h1, h2 => by
  have : l = [] := List.length_eq_zero_iff.1 (by omega)
  subst this
  cases m <;> rfl
 | n + 1, 0, l, h1, h2 => by
  have : l = [] := List.length_eq_zero_iff.1 (by omega)
  subst this; rfl
 | n + 1, m + 1, [], h1, h2 => rfl
 | n + 1, m + 1, b :: l, h1, h2 => by
  rw [Ref.piecesN, Ref.piecesN]
  have := dw_le Ref.contb l
  simp only [List.length_cons] at h1 h2
  rw [fuel n m _ (by omega) (by omega)]
theorem pieces_cons (b : UInt8) (l : List UInt8) : Ref.pieces (b :: l) = (b :: l.takeWhile Ref.contb) :: Ref.pieces (l.dropWhile Ref.contb) := by
 unfold Ref.pieces
 show Ref.piecesN (l.length + 1) (b :: l) = _
 rw [Ref.piecesN, fuel l.length (l.dropWhile Ref.contb).length _ (dw_le _ _) (Nat.le_refl _)]
def str (b : List UInt8) : Value := .string ⟨b.toArray⟩
def strs (l : List (List UInt8)) : List Value := l.map str
theorem strs_scal (l : List (List UInt8)) : (strs l).all scalV = true := by
 rw [List.all_eq_true]
 intro x hx
 obtain ⟨y, _, rfl⟩ := List.mem_map.1 hx
 rfl
theorem strs_len (l : List (List UInt8)) : (strs l).length = l.length := List.length_map _
def st (acc : List (List UInt8)) (s : ByteArray) : KX := bif Nat.beq acc.length 0 then stN s else stR s acc.length (strs acc)
def fin (l : List (List UInt8)) : KX := bif Nat.beq l.length 0 then exN else exR l.length (strs l)
theorem parts {s : ByteArray} {b : UInt8} {l : List UInt8} (h : s.data.toList = b :: l) : (rest s).data.toList = l.dropWhile Ref.contb ∧ head s = ⟨(b :: l.takeWhile Ref.contb).toArray⟩ ∧ (A102L1.len s).toNat ≤ s.data.toList.length ∧ 0 ≤ A102L1.len s := by
 obtain ⟨t1, t2⟩ := take_tw Ref.contb l
 have hl : (A102L1.len s).toNat = (l.takeWhile Ref.contb).length + 1 := by
  unfold A102L1.len
  rw [h]
  show (1 + (l.takeWhile Ref.contb).length) = _
  omega
 have := tw_le Ref.contb l
 refine ⟨?_, ?_, by rw [hl, h, List.length_cons]; omega, by unfold A102L1.len; exact Int.natCast_nonneg _⟩
 ·unfold rest
  rw [List.toList_toArray, List.take_length, hl, h, List.drop_succ_cons, t2]
 ·unfold head
  rw [List.drop_zero, hl, h, List.take_succ_cons, t1]
theorem chain {Step : KX → Ex → KX → Prop} (hN : ∀ (s : ByteArray) ex y, codeK cfg (gpT []) (callK cfg (gpT []) (ltT 4 [A102L1.lp, A102L1b.lp]) 12) (ltT 4 [A102L1.lp, A102L1b.lp] 102) false 1000 (loopAt Tryz.prog 102 0) (stK 35 5 [] (stN s)) (endK 5 300 35 kp cr) = some (ex, y) → Step (stN s) ex y)
  (hR : ∀ (s : ByteArray) (k : Nat) (row : List Value) ex y, codeK cfg (gpT []) (callK cfg (gpT []) (ltT 4 [A102L1.lp, A102L1b.lp]) 12) (ltT 4 [A102L1.lp, A102L1b.lp] 102) false 1000 (loopAt Tryz.prog 102 0) (stK 35 5 [] (stR s k row)) (endK 5 300 35 kp cr) = some (ex, y) → Step (stR s k row) ex y) :
  ∀ (n : Nat) (s : ByteArray) (acc : List (List UInt8)), s.data.toList.length ≤ n → acc.length + n ≤ 1000000 → ChainK Step (st acc s) (.exit 0) (fin (acc ++ Ref.pieces s.data.toList)) := by
 intro n
 induction n with
 | zero =>
  intro s acc hs hacc
  have he : s.data.toList = [] := List.length_eq_zero_iff.1 (by omega)
  have hp : Ref.pieces s.data.toList = [] := by rw [he]; rfl
  rw [hp, List.append_nil]
  unfold st fin
  cases hb : Nat.beq acc.length 0
  ·exact .stop (by simp) (hR s _ _ _ _ (by rw [roundR]; simp only [he, strs_scal]; rfl))
  ·exact .stop (by simp) (hN s _ _ (by rw [roundN]; simp only [he]; rfl))
 | succ n ih =>
  intro s acc hs hacc
  cases hsl : s.data.toList with
  | nil =>
   have hp : Ref.pieces ([] : List UInt8) = [] := rfl
   rw [hp, List.append_nil]
   unfold st fin
   cases hb : Nat.beq acc.length 0
   ·exact .stop (by simp) (hR s _ _ _ _ (by rw [roundR]; simp only [hsl, strs_scal]; rfl))
   ·exact .stop (by simp) (hN s _ _ (by rw [roundN]; simp only [hsl]; rfl))
  | cons b l =>
   obtain ⟨p1, p2, p3, p4⟩ := parts hsl
   rw [pieces_cons]
   have hne : (!eqU (b :: l) []) = true := rfl
   have q1 : Nat.blt 0 (b :: l).length = true := rfl
   rw [hsl, List.length_cons] at hs
   have q2 : Nat.blt (b :: l).length 4611686018427387904 = true := by rw [Nat.blt_eq, List.length_cons]; omega
   rw [hsl] at p3
   have q3 : Nat.ble (A102L1.len s).toNat (b :: l).length = true := by rw [Nat.ble_eq]; exact p3
   have q4 : decide (0 ≤ A102L1.len s) = true := decide_eq_true p4
   have hdl := dw_le Ref.contb l
   have key : Step (st acc s) .normal (st (acc ++ [b :: l.takeWhile Ref.contb]) (rest s)) := by
    unfold st
    have e1 : Nat.beq (acc ++ [b :: l.takeWhile Ref.contb]).length 0 = false := by rw [List.length_append]; rfl
    rw [e1]
    cases hb : Nat.beq acc.length 0
    ·refine hR s _ _ _ _ ?_
     rw [roundR]
     have w1 : ((strs acc).drop 0).take (acc.length * 1) ++ [Value.string (head s)] = strs (acc ++ [b :: l.takeWhile Ref.contb]) := by
      rw [List.drop_zero, Nat.mul_one, List.take_of_length_le (by rw [strs_len]; exact Nat.le_refl _), p2]
      unfold strs
      rw [List.map_append]; rfl
     have w2 : Nat.ble (acc.length + 1) 140737488355328 = true := by rw [Nat.ble_eq]; omega
     have w3 : Nat.ble ((acc.length + 1) * 16) 140737488355328 = true := by rw [Nat.ble_eq]; omega
     have w4 : Nat.ble (0 + acc.length * 1) (strs acc).length = true := by rw [Nat.ble_eq, strs_len]; omega
     dsimp only []
     simp only [hsl, hne, q1, q2, q3, q4, w1, w2, w3, w4, strs_scal, Bool.and_self, cond_true, cond_false, List.length_append, List.length_singleton]
    ·have : acc = [] := List.length_eq_zero_iff.1 (Nat.eq_of_beq_eq_true hb)
     subst this
     refine hN s _ _ ?_
     rw [roundN]
     simp only [hsl, hne, q1, q2, q3, q4, p2, Bool.and_self, cond_true, cond_false]
     rfl
   have ih' := ih (rest s) (acc ++ [b :: l.takeWhile Ref.contb]) (by rw [p1]; omega) (by rw [List.length_append]; simp; omega)
   rw [p1, List.append_assoc] at ih'
   exact .next key ih'
def D : KD := ⟨35, 5, 300, [0, 3], [], fun _ => [], fun x ro => match x.vs, x.cars, ro with
 | [(0, .string s), (3, .slice none 0 0)], [], [] => .need (Nat.ble s.data.toList.length 1000000) (.br (Nat.beq (Ref.pieces s.data.toList).length 0) (.out (.exit 0, exN)) (.out (.exit 0, exR (Ref.pieces s.data.toList).length (strs (Ref.pieces s.data.toList)))))
 | _, _, _ => .no⟩
def lp : LpK := ⟨102, 2, 0, D⟩
theorem lp_fine : LpFine Tryz.prog La 4 lp := by
 refine ⟨by kernel_rfl, fun c base I hP hn hG hI hIL x ro ex y e => ?_⟩
 obtain ⟨vs, cars⟩ := x
 simp only [lp, D] at e ⊢
 split at e
 ·rename_i s
  obtain ⟨g1, g2⟩ := GT.need_eval e
  rw [Nat.ble_eq] at g1
  have hsp : ∀ p ∈ ([] : List (FuncId × Spec)), SpecOk Tryz.prog La p.1 p.2 := by simp
  have hL : ∀ p ∈ [A102L1.lp, A102L1b.lp], LpFine Tryz.prog La 4 p := by simpa using ⟨A102L1.lp_fine, A102L1b.lp_fine⟩
  have key := chain (Step := @StepK (etaB base) c base I (loopAt Tryz.prog 102 0) 35 5 300 []) (fun s ex y h => stepN prog_mix prog_names hsp hL hP hn hG hI hIL (f := 102) (i := 0) (by kernel_rfl) (by kernel_rfl) h) (fun s k row ex y h => stepN prog_mix prog_names hsp hL hP hn hG hI hIL (f := 102) (i := 0) (by kernel_rfl) (by kernel_rfl) h) s.data.toList.length s [] (Nat.le_refl _) (by simpa using g1)
  rw [List.nil_append] at key
  have e0 : st [] s = stN s := rfl
  rw [e0] at key
  unfold fin at key
  cases hb : Nat.beq (Ref.pieces s.data.toList).length 0 with
  | true => rw [GT.eval, hb] at g2; cases g2; rw [hb] at key; exact key
  | false => rw [GT.eval, hb] at g2; cases g2; rw [hb] at key; exact key
 ·cases e
end A102L0
end
section
open Go Go.Proofs
namespace A46L3
noncomputable def cfg : Cfg := cfgK Tryz.prog 4 (gpT []) (ltT 4 [])
def stN : KX := ⟨[(4, .pointer (some ⟨305, 0, none⟩)), (5, .int .i64 0), (9, .slice none 0 0), (10, .int .i64 0), (11, .int .i64 0), (12, .string ⟨#[]⟩), (13, .int .i64 0)], [[.int .i64 0, .int .i64 0, .string ⟨#[]⟩]]⟩
def exA (s : ByteArray) : KX := ⟨[(4, .pointer (some ⟨305, 0, none⟩)), (5, .int .i64 0), (12, .string s)], [[.int .i64 0, .int .i64 0, .string ⟨#[]⟩]]⟩
def stA (f m i : Int) (s : ByteArray) (k : Nat) (row : List Value) : KX := ⟨[(4, .pointer (some ⟨305, 0, none⟩)), (5, .int .i64 0), (9, .slice (some ⟨306, 0, none⟩) k 1), (10, .int .i64 f), (11, .int .i64 m), (12, .string s), (13, .int .i64 i)], [[.int .i64 0, .int .i64 0, .string ⟨#[]⟩], row]⟩
def kp : Ex → List Nat
 | .normal => [4, 5, 9, 10, 11, 12, 13]
 | .exit _ => [4, 5, 12]
 | _ => []
def cr : Ex → St → List (Nat × Bool) := fun ex s => match ex, s.T.get 9 with
 | .normal, some (.slice (some p) _ _) => [(305, true), (p.block, true)]
 | _, _ => [(305, true)]
set_option maxRecDepth 1000000 in
theorem roundR (f m i : Int) (s : ByteArray) (k : Nat) (row : List Value)  : codeK cfg (gpT []) (callK cfg (gpT []) (ltT 4 []) 12) (fun _ _ => none) false 1000 (loopAt Tryz.prog 46 3) (stK 131 305 [] (stA f m i s k row)) (endK 305 100 131 kp cr) = (let x1 := 0 + ((i).toNat * 1); (bif decide (i < (IntKind.wrap .i64 (f + m))) then (bif decide (0 ≤ i) then (bif Nat.blt (i).toNat k then (bif isV row x1 .s then (bif Nat.ble (((s).data.toList).length + ((rdS row x1).data.toList).length) 9223372036854775807 then (bif row.all scalV && true then (some (.normal, ⟨[(4, .pointer (some ⟨305, 0, none⟩)), (5, .int .i64 0), (9, .slice (some ⟨306, 0, none⟩) k 1), (10, .int .i64 f), (11, .int .i64 m), (12, .string ⟨(((s).data.toList ++ (rdS row x1).data.toList)).toArray⟩), (13, .int .i64 (IntKind.wrap .i64 (i + 1)))], [[.int .i64 0, .int .i64 0, .string ⟨([]).toArray⟩], row]⟩)) else none) else none) else none) else none) else none) else (some (.exit 7, ⟨[(4, .pointer (some ⟨305, 0, none⟩)), (5, .int .i64 0), (12, .string s)], [[.int .i64 0, .int .i64 0, .string ⟨([]).toArray⟩]]⟩)))) := by kernel_rfl
set_option maxRecDepth 1000000 in
theorem roundN : codeK cfg (gpT []) (callK cfg (gpT []) (ltT 4 []) 12) (fun _ _ => none) false 1000 (loopAt Tryz.prog 46 3) (stK 131 305 [] stN) (endK 305 100 131 kp cr) = some (.exit 7, exA ⟨#[]⟩) := by kernel_rfl
def sB : Value → List UInt8
 | .string b => b.data.toList
 | _ => []
def isS : Value → Bool
 | .string _ => true
 | _ => false
def join (f m : Nat) (row : List Value) : List UInt8 := ((row.drop f).take m).flatMap sB
theorem isS_scal {row : List Value} (h : row.all isS = true) : row.all scalV = true := by
 rw [List.all_eq_true] at h ⊢
 intro x hx
 have := h x hx
 cases x <;> first | rfl | cases this
theorem sB_strs (l : List (List UInt8)) : (A102L0.strs l).flatMap sB = l.flatten := by
 induction l with
 | nil => rfl
 | cons x l ih =>
  show sB (A102L0.str x) ++ (A102L0.strs l).flatMap sB = x ++ l.flatten
  rw [ih]; rfl
theorem isS_strs (l : List (List UInt8)) : (A102L0.strs l).all isS = true := by
 rw [List.all_eq_true]
 intro x hx
 obtain ⟨y, _, rfl⟩ := List.mem_map.1 hx
 rfl
theorem join_strs (f m : Nat) (l : List (List UInt8)) : join f m (A102L0.strs l) = ((l.drop f).take m).flatten := by
 unfold join
 rw [← sB_strs]
 unfold A102L0.strs
 rw [List.map_take, List.map_drop]
theorem chain {Step : KX → Ex → KX → Prop} (f m : Nat) (row : List Value) (hk : f + m ≤ row.length) (hk2 : row.length ≤ 1000000) (hs : row.all isS = true)
  (hA : ∀ (i : Int) (s : ByteArray) ex y, codeK cfg (gpT []) (callK cfg (gpT []) (ltT 4 []) 12) (fun _ _ => none) false 1000 (loopAt Tryz.prog 46 3) (stK 131 305 [] (stA f m i s row.length row)) (endK 305 100 131 kp cr) = some (ex, y) → Step (stA f m i s row.length row) ex y) :
  ∀ (r j : Nat) (acc : List UInt8), j + r = f + m → acc.length + (join j r row).length ≤ 4611686018427387904 → ChainK Step (stA f m j ⟨acc.toArray⟩ row.length row) (.exit 7) (exA ⟨(acc ++ join j r row).toArray⟩) := by
 have hw : IntKind.wrap .i64 ((f : Int) + m) = ((f + m : Nat) : Int) := by rw [wrap_in (by omega) (by omega)]; omega
 intro r
 induction r with
 | zero =>
  intro j acc h hl
  have h1 : decide ((j : Int) < ((f + m : Nat) : Int)) = false := decide_eq_false (by omega)
  have hr := roundR f m j ⟨acc.toArray⟩ row.length row
  dsimp only [] at hr
  simp only [hw, h1, cond_false] at hr
  have e : join j 0 row = [] := by unfold join; rw [List.take_zero]; rfl
  rw [e, List.append_nil]
  exact .stop (by simp) (hA _ _ _ _ hr)
 | succ r ih =>
  intro j acc h hl
  have hj : j < row.length := by omega
  have h1 : decide ((j : Int) < ((f + m : Nat) : Int)) = true := decide_eq_true (by omega)
  have h2 : decide ((0 : Int) ≤ (j : Int)) = true := decide_eq_true (by omega)
  have h3 : Nat.blt ((j : Int)).toNat row.length = true := by rw [Nat.blt_eq, Int.toNat_natCast]; exact hj
  have h4 : 0 + ((j : Int)).toNat * 1 = j := by rw [Int.toNat_natCast]; omega
  have hx := List.all_eq_true.1 hs row[j] (List.getElem_mem hj)
  obtain ⟨t, ht⟩ : ∃ t, row[j] = .string t := by
   cases hv : row[j] <;> rw [hv] at hx <;> first | exact ⟨_, rfl⟩ | cases hx
  have h5 : isV row j .s = true := by unfold isV; rw [nth_eq', List.getElem?_eq_getElem hj, ht]
  have h6 : rdS row j = t := by unfold rdS; rw [nth_eq', List.getElem?_eq_getElem hj, ht]
  have hjn : join j (r + 1) row = t.data.toList ++ join (j + 1) r row := by
   unfold join
   rw [List.drop_eq_getElem_cons hj, List.take_succ_cons, List.flatMap_cons, ht]; rfl
  rw [hjn, List.length_append] at hl
  have h7 : Nat.ble (acc.length + t.data.toList.length) 9223372036854775807 = true := by rw [Nat.ble_eq]; omega
  have h8 : IntKind.wrap .i64 ((j : Int) + 1) = ((j + 1 : Nat) : Int) := by rw [wrap_in (by omega) (by omega)]; omega
  have hr := roundR f m j ⟨acc.toArray⟩ row.length row
  dsimp only [] at hr
  simp only [hw, h1, h2, h3, h4, h5, h6, h7, h8, isS_scal hs, Bool.and_self, cond_true] at hr
  rw [hjn, ← List.append_assoc]
  exact .next (hA _ _ _ _ hr) (ih (j + 1) (acc ++ t.data.toList) (by omega) (by rw [List.length_append]; omega))
def D : KD := ⟨131, 305, 100, [4, 5, 9, 10, 11, 12, 13], [], fun s => match s.T.get 9 with
 | some (.slice (some p) _ _) => [(4, true), (p.block, true)]
 | _ => [(4, true)], fun x ro => match x.vs, x.cars, ro with
 | [(4, .pointer (some ⟨305, 0, none⟩)), (5, .int .i64 0), (9, .slice none 0 0), (10, .int .i64 f), (11, .int .i64 m), (12, .string s), (13, .int .i64 i)], [[.int .i64 0, .int .i64 0, .string z]], [] =>
  .need (Nat.beq z.data.toList.length 0 && Nat.beq s.data.toList.length 0) (.need (decide (f = 0) && (decide (m = 0) && decide (i = 0))) (.out (.exit 7, exA ⟨#[]⟩)))
 | [(4, .pointer (some ⟨305, 0, none⟩)), (5, .int .i64 0), (9, .slice (some ⟨306, 0, none⟩) k 1), (10, .int .i64 f), (11, .int .i64 m), (12, .string s), (13, .int .i64 i)], [[.int .i64 0, .int .i64 0, .string z], row], [] =>
  .need (Nat.beq z.data.toList.length 0 && Nat.beq s.data.toList.length 0) (.need (decide (0 ≤ f) && (decide (0 ≤ m) && decide (i = f))) (.need (Nat.ble (f.toNat + m.toNat) k && (Nat.beq k row.length && (Nat.ble k 1000000 && (row.all isS && Nat.ble (join f.toNat m.toNat row).length 1000000)))) (.out (.exit 7, exA ⟨(join f.toNat m.toNat row).toArray⟩))))
 | _, _, _ => .no⟩
def lp : LpK := ⟨46, 29, 3, D⟩
theorem lp_fine : LpFine Tryz.prog La 4 lp := by
 refine ⟨by kernel_rfl, fun c base I hP hn hG hI hIL x ro ex y e => ?_⟩
 obtain ⟨vs, cars⟩ := x
 have hsp : ∀ p ∈ ([] : List (FuncId × Spec)), SpecOk Tryz.prog La p.1 p.2 := by simp
 simp only [lp, D] at e ⊢
 split at e
 ·rename_i f m s i z
  obtain ⟨g0, e1⟩ := GT.need_eval e
  obtain ⟨g1, e2⟩ := GT.need_eval e1
  simp only [Bool.and_eq_true, decide_eq_true_eq] at g0 g1
  have hz : z = ⟨#[]⟩ := A46L1.back z (List.length_eq_zero_iff.1 (Nat.eq_of_beq_eq_true g0.1))
  have hs : s = ⟨#[]⟩ := A46L1.back s (List.length_eq_zero_iff.1 (Nat.eq_of_beq_eq_true g0.2))
  obtain ⟨hf, hm, hi⟩ := g1
  subst hz hs hf hm hi
  cases e2
  exact .stop (by simp) (stepT prog_mix prog_names hsp (by simp) hP hn hG hI hIL roundN)
 ·rename_i k f m s i z row
  obtain ⟨g0, e1⟩ := GT.need_eval e
  obtain ⟨g1, e2⟩ := GT.need_eval e1
  obtain ⟨g2, e3⟩ := GT.need_eval e2
  simp only [Bool.and_eq_true, decide_eq_true_eq] at g0 g1 g2
  have hz : z = ⟨#[]⟩ := A46L1.back z (List.length_eq_zero_iff.1 (Nat.eq_of_beq_eq_true g0.1))
  have hs : s = ⟨#[]⟩ := A46L1.back s (List.length_eq_zero_iff.1 (Nat.eq_of_beq_eq_true g0.2))
  obtain ⟨hf, hm, hi⟩ := g1
  obtain ⟨q1, q2, q3, q4, q5⟩ := g2
  have hk := Nat.eq_of_beq_eq_true q2
  subst hk
  rw [Nat.ble_eq] at q1 q3 q5
  obtain ⟨f', rfl⟩ := Int.eq_ofNat_of_zero_le hf
  obtain ⟨m', rfl⟩ := Int.eq_ofNat_of_zero_le hm
  rw [Int.toNat_natCast, Int.toNat_natCast] at q1 q5 e3
  subst hz hs hi
  have key := chain (Step := @StepK (etaB base) c base I (loopAt Tryz.prog 46 3) 131 305 100 []) f' m' row q1 q3 q4 (fun i s ex y h => stepT prog_mix prog_names hsp (by simp) hP hn hG hI hIL h) m' f' [] rfl (by show 0 + _ ≤ _; omega)
  rw [List.nil_append] at key
  cases e3
  exact key
 ·cases e
end A46L3
end
section
open Go Go.Proofs
namespace A46
def T (s0 : ByteArray) (m1 : Nat) (c1 : List Value) : GT Value := let x1 := if (if (Int.ofNat ((Ref.pieces (rdS c1 2).data.toList)).length) < (rdI c1 4) then (Int.ofNat ((Ref.pieces (rdS c1 2).data.toList)).length) else (rdI c1 4)) > 0 then (if (Int.ofNat ((Ref.pieces (rdS c1 2).data.toList)).length) < (rdI c1 4) then (Int.ofNat ((Ref.pieces (rdS c1 2).data.toList)).length) else (rdI c1 4)) else 0; let x2 := if (IntKind.wrap .i64 ((Int.ofNat ((Ref.pieces (rdS c1 2).data.toList)).length) - x1)) < (rdI c1 7) then (IntKind.wrap .i64 ((Int.ofNat ((Ref.pieces (rdS c1 2).data.toList)).length) - x1)) else (rdI c1 7); let x3 := if (if 0 < (rdI c1 4) then 0 else (rdI c1 4)) > 0 then (if 0 < (rdI c1 4) then 0 else (rdI c1 4)) else 0; let x5 := Go.Lib.trimLeftB (rdS c1 2).data.toList (32 : UInt8); let x6 := A46L0.bv (Ref.catOut (valsOf c1)); let x7 := if (IntKind.wrap .i64 (0 - x3)) < (rdI c1 7) then (IntKind.wrap .i64 (0 - x3)) else (rdI c1 7); let x8 := A102L0.strs (Ref.pieces (rdS c1 2).data.toList); let x9 := Go.Lib.trimRightB x5 (32 : UInt8); let x10 := if x2 > 0 then x2 else 0; let x4 := A46L3.join (x1).toNat (x10).toNat x8; let o1 : GT Value := (.out (.tuple ([.agg ([.int .i64 0, .int .i64 0, .string ⟨([]).toArray⟩]).toArray, .int .i64 20]).toArray)); let o2 : GT Value := (.out (.tuple ([.agg ([.int .i64 4, .int .i64 0, .string ⟨([]).toArray⟩]).toArray, .int .i64 0]).toArray)); (.br (Nat.blt 0 m1) (.br (isV c1 2 .s) (.br (eqU (s0).data.toList [99, 111, 110, 99, 97, 116]) (.br ((true && ([((1 : Nat), c1)]).all fun p => p.snd.all scalV)) (.br (((decide ((Int.ofNat m1) = (Int.ofNat m1)) && ((isVals c1) && (Nat.beq (c1).length (m1 * 3) && Nat.blt m1 4398046511104))) && ((valsOf c1)).all A37L0.shortT)) (.br ((Ref.catBad (valsOf c1))) o1 (.br (Nat.beq ((Ref.catOut (valsOf c1))).length 0) o2 (.br (Nat.ble (0 + ((Ref.catOut (valsOf c1))).length) (x6).length) (.br ((((((x6).drop 0)).take ((Ref.catOut (valsOf c1))).length)).all isU8) (.br (decide ((Int.ofNat (((((((x6).drop 0)).take ((Ref.catOut (valsOf c1))).length)).map u8Of)).length) > 1024)) o1 (.out (.tuple ([.agg ([.int .i64 4, .int .i64 0, .string ⟨(((((((x6).drop 0)).take ((Ref.catOut (valsOf c1))).length)).map u8Of)).toArray⟩]).toArray, .int .i64 0]).toArray))) .no) .no))) .no) .no) (.br (eqU (s0).data.toList [108, 101, 110, 103, 116, 104]) (.br (Nat.ble ((rdS c1 2).data.toList).length 1000000) (.br (Nat.beq ((Ref.pieces (rdS c1 2).data.toList)).length 0) (.out (.tuple ([.agg ([.int .i64 2, .int .i64 0, .string ⟨([]).toArray⟩]).toArray, .int .i64 0]).toArray)) (.out (.tuple ([.agg ([.int .i64 2, .int .i64 (Int.ofNat ((Ref.pieces (rdS c1 2).data.toList)).length), .string ⟨([]).toArray⟩]).toArray, .int .i64 0]).toArray))) .no) (.br (eqU (s0).data.toList [108, 111, 119, 101, 114]) (.br ((Nat.ble ((rdS c1 2).data.toList).length 9223372036854775807 && true)) (.br (decide ((Int.ofNat ((Ref.casedR 65 97 (rdS c1 2)).data.toList).length) > 1024)) o1 (.out (.tuple ([.agg ([.int .i64 4, .int .i64 0, .string (Ref.casedR 65 97 (rdS c1 2))]).toArray, .int .i64 0]).toArray))) .no) (.br (eqU (s0).data.toList [117, 112, 112, 101, 114]) (.br ((Nat.ble ((rdS c1 2).data.toList).length 9223372036854775807 && true)) (.br (decide ((Int.ofNat ((Ref.casedR 97 65 (rdS c1 2)).data.toList).length) > 1024)) o1 (.out (.tuple ([.agg ([.int .i64 4, .int .i64 0, .string (Ref.casedR 97 65 (rdS c1 2))]).toArray, .int .i64 0]).toArray))) .no) (.br (eqU (s0).data.toList [116, 114, 105, 109]) (.br (Nat.blt (x5).length 1000000) (.br (decide ((Int.ofNat (x9).length) > 1024)) o1 (.out (.tuple ([.agg ([.int .i64 4, .int .i64 0, .string ⟨(x9).toArray⟩]).toArray, .int .i64 0]).toArray))) .no) (.br (Nat.ble ((rdS c1 2).data.toList).length 1000000) (.br (Nat.beq ((Ref.pieces (rdS c1 2).data.toList)).length 0) (.br (Nat.blt 1 m1) (.br (isV c1 4 (.i .i64)) (.br (Nat.blt 2 m1) (.br (isV c1 7 (.i .i64)) (.br ((decide (x3 = 0) && (decide ((if x7 > 0 then x7 else 0) = 0) && decide (x3 = 0)))) o2 .no) .no) .no) .no) .no) (.br (Nat.blt 1 m1) (.br (isV c1 4 (.i .i64)) (.br (Nat.blt 2 m1) (.br (isV c1 7 (.i .i64)) (.br ((x8.all scalV && true && true)) (.br ((decide (0 ≤ x1) && (decide (0 ≤ x10) && decide (x1 = x1)))) (.br ((Nat.ble ((x1).toNat + (x10).toNat) ((Ref.pieces (rdS c1 2).data.toList)).length && (Nat.beq ((Ref.pieces (rdS c1 2).data.toList)).length (x8).length && (Nat.ble ((Ref.pieces (rdS c1 2).data.toList)).length 1000000 && ((x8).all A46L3.isS && Nat.ble (x4).length 1000000))))) (.br (decide ((Int.ofNat (x4).length) > 1024)) o1 (.out (.tuple ([.agg ([.int .i64 4, .int .i64 0, .string ⟨(x4).toArray⟩]).toArray, .int .i64 0]).toArray))) .no) .no) .no) .no) .no) .no) .no)) .no)))))) .no) .no)
set_option maxRecDepth 1000000 in
theorem run (s0 : ByteArray) (m1 : Nat) (c1 : List Value) : callK (cfgK Tryz.prog 4 (gpT [(103, spec103)]) (ltT 4 [A46L0.lp, A46L1.lp, A46L2.lp, A46L3.lp, A102L0.lp])) (gpT [(103, spec103)]) (ltT 4 [A46L0.lp, A46L1.lp, A46L2.lp, A46L3.lp, A102L0.lp]) 12 (.fn 46) (absVs 0 [.v (.string s0), .sl m1 3 c1]) ⟨absH 0 [.v (.string s0), .sl m1 3 c1], 4⟩ (fun o => some o.1) = (T s0 m1 c1).eval := by kernel_rfl
set_option maxRecDepth 1000000 in
theorem flat (s0 : ByteArray) (m1 : Nat) (c1 : List Value) : (T s0 m1 c1).allB (pfd 3) = true := by kernel_rfl
theorem piecesN_len : ∀ (n : Nat) (l : List UInt8), (Ref.piecesN n l).length ≤ n
 | 0, _ => Nat.le_refl _
 | _ + 1, [] => Nat.zero_le _
 | n + 1, b :: l => by rw [Ref.piecesN, List.length_cons]; have := piecesN_len n (l.dropWhile Ref.contb); omega
theorem piecesN_flat : ∀ (n : Nat) (l : List UInt8), l.length ≤ n → (Ref.piecesN n l).flatten = l
 | 0, l, h => by
  have : l = [] := List.length_eq_zero_iff.1 (by omega)
  subst this; rfl
 | n + 1, [], _ => rfl
 | n + 1, b :: l, h => by
  have h2 := A102L0.dw_le Ref.contb l
  rw [List.length_cons] at h
  rw [Ref.piecesN, List.flatten_cons, piecesN_flat n _ (by omega), List.cons_append, List.takeWhile_append_dropWhile]
theorem join_le (t : List UInt8) (f m : Nat) : (A46L3.join f m (A102L0.strs (Ref.pieces t))).length ≤ t.length := by
 rw [A46L3.join_strs]
 have h1 := congrArg (fun p => (List.flatten p).length) (List.take_append_drop f (Ref.pieces t))
 have h2 := congrArg (fun p => (List.flatten p).length) (List.take_append_drop m ((Ref.pieces t).drop f))
 simp only [List.flatten_append, List.length_append] at h1 h2
 have e : (Ref.pieces t).flatten = t := piecesN_flat _ _ (Nat.le_refl _)
 rw [e] at h1
 omega
theorem u8_bv (l : List UInt8) : (A46L0.bv l).map u8Of = l := by
 have h := A46L0.u8L_bv l
 unfold u8L at h
 have := congrArg Array.toList (ByteArray.mk.inj h)
 rwa [List.toList_toArray, List.toList_toArray] at this
theorem from_eq (P : List (List UInt8)) (a : Int) : (if (if (Int.ofNat P.length) < a then (Int.ofNat P.length) else a) > 0 then (if (Int.ofNat P.length) < a then (Int.ofNat P.length) else a) else 0) = Ref.fromR P a := by
 unfold Ref.fromR
 show (if (if ((P.length : Nat) : Int) < a then ((P.length : Nat) : Int) else a) > 0 then (if ((P.length : Nat) : Int) < a then ((P.length : Nat) : Int) else a) else 0) = max 0 (min a ((P.length : Nat) : Int))
 split <;> split <;> omega
theorem cnt_eq (P : List (List UInt8)) (hP : P.length ≤ 1000000) (a b : Int) : (if (if (IntKind.wrap .i64 ((Int.ofNat P.length) - Ref.fromR P a)) < b then (IntKind.wrap .i64 ((Int.ofNat P.length) - Ref.fromR P a)) else b) > 0 then (if (IntKind.wrap .i64 ((Int.ofNat P.length) - Ref.fromR P a)) < b then (IntKind.wrap .i64 ((Int.ofNat P.length) - Ref.fromR P a)) else b) else 0) = Ref.cntR P a b := by
 have h1 : 0 ≤ Ref.fromR P a ∧ Ref.fromR P a ≤ (P.length : Int) := by
  unfold Ref.fromR
  show 0 ≤ max 0 (min a ((P.length : Nat) : Int)) ∧ max 0 (min a ((P.length : Nat) : Int)) ≤ _
  omega
 have hw : IntKind.wrap .i64 ((Int.ofNat P.length) - Ref.fromR P a) = (P.length : Int) - Ref.fromR P a := wrap_in (by show _ ≤ ((P.length : Nat) : Int) - _; omega) (by show ((P.length : Nat) : Int) - _ ≤ _; omega)
 rw [hw]
 unfold Ref.cntR
 show _ = max 0 (min b (((P.length : Nat) : Int) - Ref.fromR P a))
 generalize Ref.fromR P a = f at *
 split <;> split <;> omega
theorem z3 (a : Int) : (if (if 0 < a then 0 else a) > 0 then (if 0 < a then 0 else a) else 0) = 0 := by
 split <;> omega
def guard (s : ByteArray) (l : List W3) : Bool := l.all A37L0.shortT && (Nat.blt 0 l.length && (eqU s.data.toList [99, 111, 110, 99, 97, 116] || (eqU s.data.toList [108, 101, 110, 103, 116, 104] || (eqU s.data.toList [108, 111, 119, 101, 114] || (eqU s.data.toList [117, 112, 112, 101, 114] || (eqU s.data.toList [116, 114, 105, 109] || Nat.blt 2 l.length))))))
theorem tl_le (l : List UInt8) : (Lib.trimLeftB l 32).length ≤ l.length := A102L0.dw_le _ l
set_option maxHeartbeats 0 in
theorem T_ok (s : ByteArray) (l : List W3) (hl : l.length < 4398046511104) (hg : guard s l = true) : (T s l.length (vals l)).eval = some (ve (Ref.textual s l)) := by
 unfold guard at hg
 simp only [Bool.and_eq_true] at hg
 obtain ⟨hsh, h0, h3⟩ := hg
 have h0' : 0 < l.length := by rwa [Nat.blt_eq] at h0
 have hs1 : ∀ v ∈ l, v.2.2.data.toList.length ≤ 1024 := fun v hv => Nat.le_of_ble_eq_true (List.all_eq_true.1 hsh v hv)
 have hv := hs1 _ (A37.head_mem l h0')
 have q2 : rdS (vals l) 2 = (l.headD v0).2.2 := by have := rdS_vals l h0'; rw [A37.at0 l h0'] at this; exact this
 have d0 : isV (vals l) 2 .s = true := by have := vals_at 2 (by omega) l h0'; unfold isV; rw [show (2 : Nat) = 0 * 3 + 2 from rfl, this]; rfl
 have e1 : Nat.ble (l.headD v0).2.2.data.toList.length 1000000 = true := by rw [Nat.ble_eq]; omega
 have e2 : Nat.ble (l.headD v0).2.2.data.toList.length 9223372036854775807 = true := by rw [Nat.ble_eq]; omega
 have e3 : Nat.blt (Lib.trimLeftB (l.headD v0).2.2.data.toList 32).length 1000000 = true := by have := tl_le (l.headD v0).2.2.data.toList; rw [Nat.blt_eq]; omega
 have a1 : (true && [((1 : Nat), vals l)].all fun p => p.2.all scalV) = true := by simp [vals_scal]
 have g : Nat.blt l.length 4398046511104 = true := by rw [Nat.blt_eq]; exact hl
 have u1 : ∀ o : List UInt8, ((A46L0.bv o).drop 0).take o.length = A46L0.bv o := fun o => by rw [List.drop_zero, List.take_of_length_le (by rw [A46L0.bv_len]; exact Nat.le_refl _)]
 have u2 : ∀ o : List UInt8, Nat.ble (0 + o.length) o.length = true := fun o => by rw [Nat.ble_eq]; omega
 unfold T
 dsimp only [] at a1 ⊢
 simp only [a1, g, q2, d0, e1, e2, e3, h0, u1, u2, u8_bv, A46L0.bv_u8, A46L0.bv_len, isVals_vals, vals_len, Nat.beq_refl, decide_true, Bool.and_self, vals_of, hsh, GT.eval, Bool.and_true, cond_true]
 unfold Ref.textual
 dsimp only []
 generalize ht : (l.headD v0).2.2 = t at *
 cases n0 : eqU s.data.toList [99, 111, 110, 99, 97, 116]
 rotate_left
 ·simp only [cond_true]
  unfold Ref.concatR Ref.catBad Ref.catOut
  cases hc : Ref.catR [] l with
  | none => rfl
  | some o =>
   simp only [Option.isNone, Option.getD_some, cond_false]
   cases ho : Nat.beq o.length 0
   ·have := A37.textV_eq ⟨o.toArray⟩
    rw [List.toList_toArray] at this
    exact this
   ·have : o = [] := List.length_eq_zero_iff.1 (Nat.eq_of_beq_eq_true ho)
    subst this; rfl
 cases n1 : eqU s.data.toList [108, 101, 110, 103, 116, 104]
 rotate_left
 ·simp only [cond_true, cond_false]
  cases ho : Nat.beq (Ref.pieces t.data.toList).length 0
  ·rfl
  ·rw [Nat.eq_of_beq_eq_true ho]; rfl
 cases n2 : eqU s.data.toList [108, 111, 119, 101, 114]
 rotate_left
 ·exact A37.textV_eq _
 cases n3 : eqU s.data.toList [117, 112, 112, 101, 114]
 rotate_left
 ·exact A37.textV_eq _
 cases n4 : eqU s.data.toList [116, 114, 105, 109]
 rotate_left
 ·have := A37.textV_eq ⟨(Ref.trimR t.data.toList).toArray⟩
  rw [List.toList_toArray] at this
  exact this
 rw [n0, n1, n2, n3, n4] at h3
 have k2 : 2 < l.length := by
  have : Nat.blt 2 l.length = true := h3
  rwa [Nat.blt_eq] at this
 have k1 : 1 < l.length := by omega
 have b1 : Nat.blt 1 l.length = true := by rw [Nat.blt_eq]; exact k1
 have b2 : Nat.blt 2 l.length = true := by rw [Nat.blt_eq]; exact k2
 have c1 : rdI (vals l) 4 = (l.getD 1 v0).2.1 := by have := rdI_vals1 l k1; rw [A37.atj l 1 k1] at this; exact this
 have c2 : rdI (vals l) 7 = (l.getD 2 v0).2.1 := by have := rdI_vals1 l k2; rw [A37.atj l 2 k2] at this; exact this
 have d1 : isV (vals l) 4 (.i .i64) = true := by have := vals_at 1 (by omega) l k1; unfold isV; rw [show (4 : Nat) = 1 * 3 + 1 from rfl, this]; rfl
 have d2 : isV (vals l) 7 (.i .i64) = true := by have := vals_at 1 (by omega) l k2; unfold isV; rw [show (7 : Nat) = 2 * 3 + 1 from rfl, this]; rfl
 have pl : (Ref.pieces t.data.toList).length ≤ 1000000 := by
  have := piecesN_len t.data.toList.length t.data.toList
  unfold Ref.pieces
  omega
 simp only [b1, b2, c1, c2, d1, d2, cond_true, cond_false]
 generalize (l.getD 1 v0).2.1 = a
 generalize (l.getD 2 v0).2.1 = b
 have fin := A37.textV_eq ⟨(Ref.substrR t a b).toArray⟩
 rw [List.toList_toArray] at fin
 cases ho : Nat.beq (Ref.pieces t.data.toList).length 0
 ·simp only [cond_false]
  rw [from_eq, cnt_eq _ pl]
  have f0 : 0 ≤ Ref.fromR (Ref.pieces t.data.toList) a ∧ Ref.fromR (Ref.pieces t.data.toList) a ≤ ((Ref.pieces t.data.toList).length : Int) := by
   unfold Ref.fromR
   show 0 ≤ max 0 (min a (((Ref.pieces t.data.toList).length : Nat) : Int)) ∧ max 0 (min a (((Ref.pieces t.data.toList).length : Nat) : Int)) ≤ _
   omega
  have f1 : 0 ≤ Ref.cntR (Ref.pieces t.data.toList) a b ∧ Ref.fromR (Ref.pieces t.data.toList) a + Ref.cntR (Ref.pieces t.data.toList) a b ≤ ((Ref.pieces t.data.toList).length : Int) := by
   unfold Ref.cntR
   show 0 ≤ max 0 (min b ((((Ref.pieces t.data.toList).length : Nat) : Int) - Ref.fromR (Ref.pieces t.data.toList) a)) ∧ Ref.fromR (Ref.pieces t.data.toList) a + max 0 (min b ((((Ref.pieces t.data.toList).length : Nat) : Int) - Ref.fromR (Ref.pieces t.data.toList) a)) ≤ _
   omega
  have w1 : Nat.ble ((Ref.fromR (Ref.pieces t.data.toList) a).toNat + (Ref.cntR (Ref.pieces t.data.toList) a b).toNat) (Ref.pieces t.data.toList).length = true := by rw [Nat.ble_eq]; omega
  have w2 : Nat.ble (Ref.pieces t.data.toList).length 1000000 = true := by rw [Nat.ble_eq]; exact pl
  have w3 : Nat.ble (A46L3.join (Ref.fromR (Ref.pieces t.data.toList) a).toNat (Ref.cntR (Ref.pieces t.data.toList) a b).toNat (A102L0.strs (Ref.pieces t.data.toList))).length 1000000 = true := by
   have := join_le t.data.toList (Ref.fromR (Ref.pieces t.data.toList) a).toNat (Ref.cntR (Ref.pieces t.data.toList) a b).toNat
   rw [Nat.ble_eq]; omega
  have w4 : A46L3.join (Ref.fromR (Ref.pieces t.data.toList) a).toNat (Ref.cntR (Ref.pieces t.data.toList) a b).toNat (A102L0.strs (Ref.pieces t.data.toList)) = Ref.substrR t a b := by rw [A46L3.join_strs]; rfl
  simp only [w1, w2, w3, A46L3.isS_strs, A102L0.strs_scal, A102L0.strs_len, Nat.beq_refl, decide_eq_true f0.1, decide_eq_true f1.1, Bool.and_self, cond_true]
  rw [w4]
  exact fin
 ·have hp : Ref.pieces t.data.toList = [] := List.length_eq_zero_iff.1 (Nat.eq_of_beq_eq_true ho)
  have hs : Ref.substrR t a b = [] := by unfold Ref.substrR; rw [hp, List.drop_nil, List.take_nil]; rfl
  rw [hs]
  have hx : (if (if (IntKind.wrap .i64 (0 - 0)) < b then (IntKind.wrap .i64 (0 - 0)) else b) > 0 then (if (IntKind.wrap .i64 (0 - 0)) < b then (IntKind.wrap .i64 (0 - 0)) else b) else 0) = 0 := z3 b
  simp only [z3, hx, decide_true, Bool.and_self, cond_true]
  rfl
def spec : Spec := fun aa => match aa with
 | [.v (.string s), .sl n 3 cs] => some (.need (rowW n (Int.ofNat n) cs && guard s (valsOf cs)) (.out (ve (Ref.textual s (valsOf cs)))))
 | _ => none
theorem spec_ok : SpecOk Tryz.prog La 46 spec := ⟨fnOk_ok (by kernel_rfl), fun aa t v h e => by
 unfold spec at h
 split at h
 ·rename_i s n cs
  cases h
  obtain ⟨g1, g2⟩ := GT.need_eval e
  cases g2
  simp only [Bool.and_eq_true] at g1
  obtain ⟨_, hn, h4, h5⟩ := rowW_ok g1.1
  have hg := g1.2
  generalize valsOf cs = l at h4 h5 hg
  subst h4 h5
  exact ⟨rfl, callT La_below prog_mix prog_names (by simpa using ok103) (by simpa using ⟨A46L0.lp_fine, A46L1.lp_fine, A46L2.lp_fine, A46L3.lp_fine, A102L0.lp_fine⟩) (by decide) (by simp) rfl ((run _ _ _).trans (T_ok _ _ hn hg))⟩
 ·cases h⟩
end A46
end
section
open Go Go.Proofs
namespace A11L0
noncomputable def cfg : Cfg := cfgK Tryz.prog 4 (gpT []) (ltT 4 [])
def stN (nm : ByteArray) (n : Nat) (i : Int) : KX := ⟨[(0, .string nm), (1, .slice (some ⟨1, 0, none⟩) n 3), (4, .pointer (some ⟨4, 0, none⟩)), (5, .int .i64 0), (6, .slice none 0 0), (7, .int .i64 i)], []⟩
def stR (nm : ByteArray) (n : Nat) (i : Int) (k : Nat) (row : List Value) : KX := ⟨[(0, .string nm), (1, .slice (some ⟨1, 0, none⟩) n 3), (4, .pointer (some ⟨4, 0, none⟩)), (5, .int .i64 0), (6, .slice (some ⟨5, 0, none⟩) k 1), (7, .int .i64 i)], [row]⟩
def exN (nm : ByteArray) (n : Nat) : KX := ⟨[(0, .string nm), (1, .slice (some ⟨1, 0, none⟩) n 3), (4, .pointer (some ⟨4, 0, none⟩)), (5, .int .i64 0), (6, .slice none 0 0)], []⟩
def exR (nm : ByteArray) (n : Nat) (k : Nat) (row : List Value) : KX := ⟨[(0, .string nm), (1, .slice (some ⟨1, 0, none⟩) n 3), (4, .pointer (some ⟨4, 0, none⟩)), (5, .int .i64 0), (6, .slice (some ⟨5, 0, none⟩) k 1)], [row]⟩
def kp : Ex → List Nat
 | .normal => [0, 1, 4, 5, 6, 7]
 | _ => [0, 1, 4, 5, 6]
def cr : Ex → St → List (Nat × Bool) := fun _ s => match s.T.get 6 with
 | some (.slice (some p) _ _) => [(p.block, true)]
 | _ => []
set_option maxRecDepth 1000000 in
theorem roundN (nm : ByteArray) (n : Nat) (i : Int) (cs : List Value) : codeK cfg (gpT []) (callK cfg (gpT []) (ltT 4 []) 12) (fun _ _ => none) false 1000 (loopAt Tryz.prog 11 0) (stK 137 5 [(1, cs)] (stN nm n i)) (endK 5 100 137 kp cr) =
 (bif decide (i < (Int.ofNat n)) then (bif decide (0 ≤ i) then (bif Nat.blt (i).toNat n then (bif isV cs (0 + ((i).toNat * 3)) (.i .i64) then (some (.normal, stR nm n (IntKind.wrap .i64 (i + 1)) 1 [.int .i64 (rdI cs (0 + ((i).toNat * 3)))])) else none) else none) else none) else (some (.exit 0, exN nm n))) := by kernel_rfl
set_option maxRecDepth 1000000 in
theorem roundR (nm : ByteArray) (n : Nat) (i : Int) (k : Nat) (row : List Value) (cs : List Value) : codeK cfg (gpT []) (callK cfg (gpT []) (ltT 4 []) 12) (fun _ _ => none) false 1000 (loopAt Tryz.prog 11 0) (stK 137 5 [(1, cs)] (stR nm n i k row)) (endK 5 100 137 kp cr) =
 (let r2 := (((row).drop 0).take (k * 1)) ++ [.int .i64 (rdI cs (0 + ((i).toNat * 3)))]; bif decide (i < (Int.ofNat n)) then (bif decide (0 ≤ i) then (bif Nat.blt (i).toNat n then (bif isV cs (0 + ((i).toNat * 3)) (.i .i64) then (bif Nat.ble (k + 1) 140737488355328 then (bif Nat.ble ((k + 1) * 8) 140737488355328 then (bif Nat.ble (0 + (k * 1)) (row).length then (bif r2.all scalV && true then (some (.normal, stR nm n (IntKind.wrap .i64 (i + 1)) (k + 1) r2)) else none) else none) else none) else none) else none) else none) else none) else (bif row.all scalV && true then (some (.exit 0, exR nm n k row)) else none)) := by kernel_rfl
def row (l : List W3) (j : Nat) : List Int := (l.take j).map (·.1)
theorem row_succ (l : List W3) {j : Nat} (h : j < l.length) : row l (j + 1) = row l j ++ [l[j].1] := by
 unfold row
 rw [← List.take_append_getElem h, List.map_append]; rfl
theorem row_len (l : List W3) {j : Nat} (h : j ≤ l.length) : (row l j).length = j := by
 unfold row
 rw [List.length_map, List.length_take]; omega
theorem isV0 (l : List W3) {j : Nat} (h : j < l.length) : isV (vals l) (j * 3) (.i .i64) = true := by
 have := vals_at 0 (by omega) l h
 unfold isV
 rw [show j * 3 = j * 3 + 0 from rfl, this]; rfl
def st (nm : ByteArray) (n : Nat) (l : List W3) (j : Nat) : KX := bif Nat.beq j 0 then stN nm n j else stR nm n j j (ints .i64 (row l j))
def fin (nm : ByteArray) (n : Nat) (l : List W3) : KX := bif Nat.beq n 0 then exN nm n else exR nm n n (ints .i64 (l.map (·.1)))
def rowK (l : List W3) : List Value := ints .i64 (l.map (·.1))
def D : KD := ⟨137, 5, 100, [0, 1, 4, 5, 6, 7], [1], fun _ => [], fun x ro => match x.vs, x.cars, ro with
 | [(0, .string nm), (1, .slice (some ⟨1, 0, none⟩) n 3), (4, .pointer (some ⟨4, 0, none⟩)), (5, .int .i64 0), (6, .slice none 0 0), (7, .int .i64 0)], [], [(1, cs)] =>
  .need (rowW n (Int.ofNat n) cs) (.br (Nat.beq n 0) (.out (.exit 0, exN nm n)) (.out (.exit 0, exR nm n n (rowK (valsOf cs)))))
 | _, _, _ => .no⟩
def lp : LpK := ⟨11, 3, 0, D⟩
theorem lp_fine : LpFine Tryz.prog La 4 lp := by
 refine ⟨by kernel_rfl, fun c base I hP hn hG hI hIL x ro ex y e => ?_⟩
 obtain ⟨vs, cars⟩ := x
 simp only [lp, D] at e ⊢
 split at e
 ·rename_i nm n cs
  obtain ⟨g1, g2⟩ := GT.need_eval e
  obtain ⟨_, hn2, h4, h5⟩ := rowW_ok g1
  generalize valsOf cs = l at h4 h5 g2
  subst h4 h5
  have key := scan_from (Step := @StepK (etaB base) c base I (loopAt Tryz.prog 11 0) 137 5 100 [(1, vals l)]) (step := fun (_ : Unit) (_ : W3) => .inl ()) (fin := fun _ => (.exit 0, fin nm l.length l)) (st := fun _ j => st nm l.length l j) (l := l) (fun s => by simp) (fun s a r h => by cases h) (fun _ j hj => by
    have h1 : decide ((j : Int) < Int.ofNat l.length) = true := decide_eq_true (by show (j : Int) < (l.length : Int); omega)
    have h2 : decide ((0 : Int) ≤ j) = true := decide_eq_true (by omega)
    have h3 : Nat.blt ((j : Int)).toNat l.length = true := by rw [Nat.blt_eq]; simpa using hj
    have h4 : (0 + ((j : Int)).toNat * 3) = j * 3 := by simp
    have h5 : IntKind.wrap .i64 ((j : Int) + 1) = ((j + 1 : Nat) : Int) := by rw [wrap_in (by omega) (by omega)]; omega
    show @StepK (etaB base) c base I (loopAt Tryz.prog 11 0) 137 5 100 [(1, vals l)] (st nm l.length l j) .normal (st nm l.length l (j + 1))
    cases j with
    | zero =>
     have hr := roundN nm l.length ((0 : Nat) : Int) (vals l)
     simp only [h1, h2, h3, h4, h5, isV0 l hj, rdI_vals l hj, cond_true] at hr
     have e1 : st nm l.length l 0 = stN nm l.length ((0 : Nat) : Int) := rfl
     have e2 : st nm l.length l (0 + 1) = stR nm l.length ((0 + 1 : Nat) : Int) 1 [.int .i64 l[0].1] := by
      show stR nm l.length ((0 + 1 : Nat) : Int) (0 + 1) (ints .i64 (row l (0 + 1))) = _
      rw [row_succ l hj]; rfl
     rw [e1, e2]
     exact stepT prog_mix prog_names (by simp) (by simp) hP hn hG hI hIL hr
    | succ j =>
     have hk := row_len l (Nat.le_of_lt hj)
     have hr := roundR nm l.length ((j + 1 : Nat) : Int) (j + 1) (ints .i64 (row l (j + 1))) (vals l)
     have q1 : ((ints .i64 (row l (j + 1))).drop 0).take ((j + 1) * 1) ++ [.int .i64 (l[j + 1]).1] = ints .i64 (row l (j + 1 + 1)) := by
      rw [List.drop_zero, Nat.mul_one, List.take_of_length_le (by rw [ints_len, hk]; exact Nat.le_refl _), row_succ l hj]
      unfold ints
      rw [List.map_append]; rfl
     have q2 : Nat.ble (j + 1 + 1) 140737488355328 = true := by rw [Nat.ble_eq]; omega
     have q3 : Nat.ble ((j + 1 + 1) * 8) 140737488355328 = true := by rw [Nat.ble_eq]; omega
     have q4 : Nat.ble (0 + (j + 1) * 1) (ints .i64 (row l (j + 1))).length = true := by rw [Nat.ble_eq, ints_len, hk]; omega
     simp only [h1, h2, h3, h4, h5, isV0 l hj, rdI_vals l hj, q1, q2, q3, q4, ints_scal, Bool.and_true, cond_true] at hr
     have e1 : st nm l.length l (j + 1) = stR nm l.length ((j + 1 : Nat) : Int) (j + 1) (ints .i64 (row l (j + 1))) := rfl
     have e2 : st nm l.length l (j + 1 + 1) = stR nm l.length ((j + 1 + 1 : Nat) : Int) (j + 1 + 1) (ints .i64 (row l (j + 1 + 1))) := rfl
     rw [e1, e2]
     exact stepT prog_mix prog_names (by simp) (by simp) hP hn hG hI hIL hr) (fun _ => by
    have h1 : decide ((l.length : Int) < Int.ofNat l.length) = false := decide_eq_false (by show ¬ (l.length : Int) < (l.length : Int); omega)
    show @StepK (etaB base) c base I (loopAt Tryz.prog 11 0) 137 5 100 [(1, vals l)] (st nm l.length l l.length) (.exit 0) (fin nm l.length l)
    cases hl : l.length with
    | zero =>
     have hr := roundN nm l.length (l.length : Int) (vals l)
     simp only [h1, cond_false] at hr
     rw [hl] at hr
     exact stepT prog_mix prog_names (by simp) (by simp) hP hn hG hI hIL hr
    | succ j =>
     have hr := roundR nm l.length (l.length : Int) l.length (ints .i64 (row l l.length)) (vals l)
     simp only [h1, cond_false, ints_scal, Bool.and_true, cond_true] at hr
     have e3 : row l l.length = l.map (·.1) := by unfold row; rw [List.take_length]
     rw [hl] at hr e3
     have e1 : st nm (j + 1) l (j + 1) = stR nm (j + 1) ((j + 1 : Nat) : Int) (j + 1) (ints .i64 (row l (j + 1))) := rfl
     have e2 : fin nm (j + 1) l = exR nm (j + 1) (j + 1) (ints .i64 (l.map (·.1))) := rfl
     rw [e1, e2, ← e3]
     exact stepT prog_mix prog_names (by simp) (by simp) hP hn hG hI hIL hr) l.length 0 () (by omega)
  rw [List.drop_zero, scanF_fold] at key
  cases hb : Nat.beq l.length 0 with
  | true => rw [GT.eval, hb] at g2; cases g2; unfold fin at key; rw [hb] at key; exact key
  | false => rw [GT.eval, hb] at g2; cases g2; unfold fin at key; rw [hb] at key; exact key
 ·cases e
end A11L0
end
section
open Go Go.Proofs
namespace A11L1
noncomputable def cfg : Cfg := cfgK Tryz.prog 4 (gpT [(15, mayS)]) (ltT 4 [])
def stA (nm : ByteArray) (n : Nat) (e kind : Int) (e2 : Int) (sm : Bool) (i : Int) : KX := ⟨[(0, .string nm), (1, .slice (some ⟨1, 0, none⟩) n 3), (4, .pointer (some ⟨105, 0, none⟩)), (5, .int .i64 e), (8, .int .i64 kind), (9, .int .i64 e2), (10, .bool sm), (11, .int .i64 i)], [[.int .i64 0, .int .i64 0, .string ⟨#[]⟩]]⟩
def kp : Ex → List Nat
 | .normal => [0, 1, 4, 5, 8, 9, 10, 11]
 | .exit _ => [0, 1, 4, 5, 8, 10]
 | .ret => [4, 5]
def cr : Ex → St → List (Nat × Bool) := fun _ s => [(105, true)]
set_option maxRecDepth 1000000 in
theorem round (nm : ByteArray) (n : Nat) (e kind : Int) (e2 : Int) (sm : Bool) (i : Int) (cs : List Value) : codeK cfg (gpT [(15, mayS)]) (callK cfg (gpT [(15, mayS)]) (ltT 4 []) 12) (fun _ _ => none) false 1000 (loopAt Tryz.prog 11 1) (stK 137 105 [(1, cs)] (stA nm n e kind e2 sm i)) (endK 105 100 137 kp cr) = (let x1 := 0 + ((i).toNat * 3); let x2 := IntKind.wrap .i64 (i + 1); (bif decide (i < (Int.ofNat n)) then (bif decide (0 ≤ i) then (bif Nat.blt (i).toNat n then (bif isL cs x1 [(.i .i64), (.i .i64), .s] then (bif (!(A33.okv (rdI cs x1) (rdI cs (x1 + 1)) (rdS cs ((x1 + 1) + 1)))) then (some (.ret, ⟨[(4, .pointer (some ⟨105, 0, none⟩)), (5, .int .i64 22)], [[.int .i64 0, .int .i64 0, .string ⟨([]).toArray⟩]]⟩)) else (bif sm then (some (.normal, ⟨[(0, .string nm), (1, .slice (some ⟨1, 0, none⟩) n 3), (4, .pointer (some ⟨105, 0, none⟩)), (5, .int .i64 e), (8, .int .i64 kind), (9, .int .i64 e2), (10, .bool (true)), (11, .int .i64 x2)], [[.int .i64 0, .int .i64 0, .string ⟨([]).toArray⟩]]⟩)) else (bif decide (0 ≤ i) then (bif Nat.blt (i).toNat n then (bif isV cs (x1 + 0) (.i .i64) then (some (.normal, ⟨[(0, .string nm), (1, .slice (some ⟨1, 0, none⟩) n 3), (4, .pointer (some ⟨105, 0, none⟩)), (5, .int .i64 e), (8, .int .i64 kind), (9, .int .i64 e2), (10, .bool (((rdI cs (x1 + 0)) == 0))), (11, .int .i64 x2)], [[.int .i64 0, .int .i64 0, .string ⟨([]).toArray⟩]]⟩)) else none) else none) else none))) else none) else none) else none) else (some (.exit 2, ⟨[(0, .string nm), (1, .slice (some ⟨1, 0, none⟩) n 3), (4, .pointer (some ⟨105, 0, none⟩)), (5, .int .i64 e), (8, .int .i64 kind), (10, .bool (sm))], [[.int .i64 0, .int .i64 0, .string ⟨([]).toArray⟩]]⟩)))) := by kernel_rfl
def stV (nm : ByteArray) (n : Nat) (e kind e2 : Int) (sm : Bool) (i : Int) : KX := stA nm n e kind e2 sm i
def stRet : KX := ⟨[(4, .pointer (some ⟨105, 0, none⟩)), (5, .int .i64 22)], [[.int .i64 0, .int .i64 0, .string ⟨#[]⟩]]⟩
def stE (nm : ByteArray) (n : Nat) (e kind : Int) (sm : Bool) : KX := ⟨[(0, .string nm), (1, .slice (some ⟨1, 0, none⟩) n 3), (4, .pointer (some ⟨105, 0, none⟩)), (5, .int .i64 e), (8, .int .i64 kind), (10, .bool sm)], [[.int .i64 0, .int .i64 0, .string ⟨#[]⟩]]⟩
def stepF (sm : Bool) (v : W3) : Bool ⊕ (Ex × KX) := bif A10L1.bad v then .inr (.ret, stRet) else .inl (sm || v.1 == 0)
theorem scan_bad (f : Bool → Ex × KX) : ∀ (l : List W3) (sm : Bool), scanF stepF f sm l = bif l.any A10L1.bad then (.ret, stRet) else f (sm || (l.map (·.1)).any (· == 0))
 | [], sm => by rw [scanF]; simp
 | v :: l, sm => by
  rw [scanF]
  unfold stepF
  rw [List.any_cons, List.map_cons, List.any_cons]
  cases h : A10L1.bad v
  ·simp only [cond_false, Bool.false_or]
   rw [← Bool.or_assoc]
   exact scan_bad f l _
  ·rfl
def D : KD := ⟨137, 105, 100, [0, 1, 4, 5, 8, 9, 10, 11], [1], fun _ => [(4, true)], fun x ro => match x.vs, x.cars, ro with
 | [(0, .string nm), (1, .slice (some ⟨1, 0, none⟩) n 3), (4, .pointer (some ⟨105, 0, none⟩)), (5, .int .i64 e), (8, .int .i64 kind), (9, .int .i64 e2), (10, .bool sm), (11, .int .i64 0)], [[.int .i64 0, .int .i64 0, .string ⟨⟨[]⟩⟩]], [(1, cs)] =>
  .need (rowW n (Int.ofNat n) cs) (.br ((valsOf cs).any A10L1.bad) (.out (.ret, stRet)) (.out (.exit 2, stE nm n e kind (sm || ((valsOf cs).map (·.1)).any (· == 0)))))
 | _, _, _ => .no⟩
def lp : LpK := ⟨11, 11, 1, D⟩
theorem sp_ok : ∀ p ∈ [((15 : FuncId), mayS)], SpecOk Tryz.prog La p.1 p.2 := by simpa using ok15
theorem lp_fine : LpFine Tryz.prog La 4 lp := by
 refine ⟨by kernel_rfl, fun c base I hP hn hG hI hIL x ro ex y e => ?_⟩
 obtain ⟨vs, cars⟩ := x
 simp only [lp, D] at e ⊢
 split at e
 ·rename_i nm n e0 kind e2 sm cs
  obtain ⟨g1, g2⟩ := GT.need_eval e
  obtain ⟨_, hn2, h4, h5⟩ := rowW_ok g1
  generalize valsOf cs = l at h4 h5 g2
  subst h4 h5
  have key := scan_from (Step := @StepK (etaB base) c base I (loopAt Tryz.prog 11 1) 137 105 100 [(1, vals l)]) (step := stepF) (fin := fun sm => (.exit 2, stE nm l.length e0 kind sm)) (st := fun sm j => stV nm l.length e0 kind e2 sm j) (l := l) (fun s => by simp) (fun s a r h => by
    unfold stepF at h
    cases hb : A10L1.bad a <;> rw [hb] at h <;> cases h; simp [stRet]) (fun sm j hj => by
    have h1 : decide ((j : Int) < Int.ofNat l.length) = true := decide_eq_true (by show (j : Int) < (l.length : Int); omega)
    have h2 : decide ((0 : Int) ≤ j) = true := decide_eq_true (by omega)
    have h3 : Nat.blt ((j : Int)).toNat l.length = true := by rw [Nat.blt_eq]; simpa using hj
    have h4 : (0 + ((j : Int)).toNat * 3) = j * 3 := by simp
    have h5 : IntKind.wrap .i64 ((j : Int) + 1) = ((j + 1 : Nat) : Int) := by rw [wrap_in (by omega) (by omega)]; omega
    have hs : rdS (vals l) (j * 3 + 1 + 1) = l[j].2.2 := rdS_vals l hj
    have hv : isV (vals l) (j * 3 + 0) (.i .i64) = true := by
     have := vals_at 0 (by omega) l hj
     unfold isV; rw [this]; rfl
    have hr0 : rdI (vals l) (j * 3 + 0) = l[j].1 := rdI_vals l hj
    have hr := round nm l.length e0 kind e2 sm j (vals l)
    dsimp only [] at hr
    simp only [h1, h2, h3, h4, h5, isL_vals l hj, rdI_vals l hj, rdI_vals1 l hj, hs, hv, hr0, cond_true] at hr
    unfold stepF A10L1.bad
    cases hb : A33.okv l[j].1 l[j].2.1 l[j].2.2
    ·rw [hb] at hr
     exact stepT prog_mix prog_names sp_ok (by simp) hP hn hG hI hIL hr
    ·rw [hb] at hr
     simp only [Bool.not_true, cond_false] at hr ⊢
     cases sm
     ·exact stepT prog_mix prog_names sp_ok (by simp) hP hn hG hI hIL hr
     ·exact stepT prog_mix prog_names sp_ok (by simp) hP hn hG hI hIL hr) (fun sm => by
    have h1 : decide ((l.length : Int) < Int.ofNat l.length) = false := decide_eq_false (by show ¬ (l.length : Int) < (l.length : Int); omega)
    have hr := round nm l.length e0 kind e2 sm l.length (vals l)
    dsimp only [] at hr
    simp only [h1, cond_false] at hr
    exact stepT prog_mix prog_names sp_ok (by simp) hP hn hG hI hIL hr) l.length 0 sm (by omega)
  rw [List.drop_zero, scan_bad] at key
  cases hb : l.any A10L1.bad with
  | true => rw [hb] at key; rw [GT.eval, hb] at g2; cases g2; exact key
  | false => rw [hb] at key; rw [GT.eval, hb] at g2; cases g2; exact key
 ·cases e
end A11L1
end
section
open Go Go.Proofs
namespace A41L0
noncomputable def cfg : Cfg := cfgK Tryz.prog 4 (gpT [(97, A97.spec)]) (ltT 4 [])
def stN (n : Nat) (kind i : Int) : KX := ⟨[(0, .slice (some ⟨1, 0, none⟩) n 3), (1, .int .i64 kind), (4, .slice none 0 0), (5, .int .i64 0), (6, .slice none 0 0), (7, .int .i64 i)], []⟩
def stR (n : Nat) (kind i : Int) (k : Nat) (row : List Value) : KX := ⟨[(0, .slice (some ⟨1, 0, none⟩) n 3), (1, .int .i64 kind), (4, .slice none 0 0), (5, .int .i64 0), (6, .slice (some ⟨205, 0, none⟩) k 3), (7, .int .i64 i)], [row]⟩
def stRet (e : Int) : KX := ⟨[(4, .slice none 0 0), (5, .int .i64 e)], []⟩
def exN : KX := ⟨[(6, .slice none 0 0)], []⟩
def exR (k : Nat) (row : List Value) : KX := ⟨[(6, .slice (some ⟨205, 0, none⟩) k 3)], [row]⟩
def kp : Ex → List Nat
 | .normal => [0, 1, 4, 5, 6, 7]
 | .exit _ => [6]
 | .ret => [4, 5]
def cr : Ex → St → List (Nat × Bool) := fun ex s => match ex, s.T.get 6 with
 | .ret, _ => []
 | _, some (.slice (some p) _ _) => [(p.block, true)]
 | _, _ => []
set_option maxRecDepth 1000000 in
theorem roundN (n : Nat) (kind i : Int) (cs : List Value) : codeK cfg (gpT [(97, A97.spec)]) (callK cfg (gpT [(97, A97.spec)]) (ltT 4 []) 12) (fun _ _ => none) false 1000 (loopAt Tryz.prog 41 0) (stK 37 205 [(1, cs)] (stN n kind i)) (endK 205 100 37 kp cr) =
 (let x1 := 0 + ((i).toNat * 3); let x2 := IntKind.wrap .i64 (i + 1); let d := Ref.refDecV (rdI cs x1) (rdI cs (x1 + 1)); (bif decide (i < (Int.ofNat n)) then (bif decide (0 ≤ i) then (bif Nat.blt (i).toNat n then (bif isL cs x1 [(.i .i64), (.i .i64), .s] then (bif (kind == 3) then (bif (d.2 != 0) then (some (.ret, stRet d.2)) else (some (.normal, stR n kind x2 1 [.int .i64 d.1.1, .int .i64 d.1.2.1, .string d.1.2.2]))) else (some (.normal, stR n kind x2 1 [.int .i64 (rdI cs x1), .int .i64 (rdI cs (x1 + 1)), .string (rdS cs ((x1 + 1) + 1))]))) else none) else none) else none) else (some (.exit 0, exN)))) := by kernel_rfl
set_option maxRecDepth 1000000 in
theorem roundR (n : Nat) (kind i : Int) (k : Nat) (row : List Value) (cs : List Value) : codeK cfg (gpT [(97, A97.spec)]) (callK cfg (gpT [(97, A97.spec)]) (ltT 4 []) 12) (fun _ _ => none) false 1000 (loopAt Tryz.prog 41 0) (stK 37 205 [(1, cs)] (stR n kind i k row)) (endK 205 100 37 kp cr) =
 (let x1 := 0 + ((i).toNat * 3); let x2 := IntKind.wrap .i64 (i + 1); let d := Ref.refDecV (rdI cs x1) (rdI cs (x1 + 1)); let r1 := ((row.drop 0).take (k * 3)) ++ [.int .i64 d.1.1, .int .i64 d.1.2.1, .string d.1.2.2]; let r2 := ((row.drop 0).take (k * 3)) ++ [.int .i64 (rdI cs x1), .int .i64 (rdI cs (x1 + 1)), .string (rdS cs ((x1 + 1) + 1))]; (bif decide (i < (Int.ofNat n)) then (bif decide (0 ≤ i) then (bif Nat.blt (i).toNat n then (bif isL cs x1 [(.i .i64), (.i .i64), .s] then (bif (kind == 3) then (bif (d.2 != 0) then (some (.ret, stRet d.2)) else (bif Nat.ble (k + 1) 140737488355328 then (bif Nat.ble ((k + 1) * 32) 140737488355328 then (bif Nat.ble (0 + (k * 3)) (row).length then (bif r1.all scalV && true then (some (.normal, stR n kind x2 (k + 1) r1)) else none) else none) else none) else none)) else (bif Nat.ble (k + 1) 140737488355328 then (bif Nat.ble ((k + 1) * 32) 140737488355328 then (bif Nat.ble (0 + (k * 3)) (row).length then (bif r2.all scalV && true then (some (.normal, stR n kind x2 (k + 1) r2)) else none) else none) else none) else none)) else none) else none) else none) else (bif row.all scalV && true then (some (.exit 0, exR k row)) else none))) := by kernel_rfl
def conv (kind : Int) (v : W3) : W3 := bif kind == 3 then (Ref.refDecV v.1 v.2.1).1 else v
def err (kind : Int) (v : W3) : Int := bif kind == 3 then (Ref.refDecV v.1 v.2.1).2 else 0
def first (kind : Int) : List W3 → Int
 | [] => 0
 | v :: l => bif err kind v != 0 then err kind v else first kind l
def row (kind : Int) (l : List W3) (j : Nat) : List W3 := (l.take j).map (conv kind)
theorem row_succ (kind : Int) (l : List W3) {j : Nat} (h : j < l.length) : row kind l (j + 1) = row kind l j ++ [conv kind l[j]] := by
 unfold row
 rw [← List.take_append_getElem h, List.map_append]; rfl
theorem row_len (kind : Int) (l : List W3) {j : Nat} (h : j ≤ l.length) : (row kind l j).length = j := by
 unfold row
 rw [List.length_map, List.length_take]; omega
theorem vals_app (a b : List W3) : vals (a ++ b) = vals a ++ vals b := by unfold vals; exact List.flatMap_append
def st (n : Nat) (kind : Int) (l : List W3) (j : Nat) : KX := bif Nat.beq j 0 then stN n kind j else stR n kind j j (vals (row kind l j))
def fin (n : Nat) (kind : Int) (l : List W3) : KX := bif Nat.beq n 0 then exN else exR n (vals (l.map (conv kind)))
def stepF (kind : Int) (u : Unit) (v : W3) : Unit ⊕ (Ex × KX) := bif err kind v != 0 then .inr (.ret, stRet (err kind v)) else .inl ()
theorem scan_first (kind : Int) (f : Ex × KX) : ∀ l : List W3, scanF (stepF kind) (fun _ => f) () l = bif first kind l != 0 then (.ret, stRet (first kind l)) else f
 | [] => rfl
 | v :: l => by
  rw [scanF, first]
  unfold stepF
  cases h : err kind v != 0
  ·exact scan_first kind f l
  ·simp only [cond_true, h]
def rowO (kind : Int) (l : List W3) : List Value := vals (l.map (conv kind))
def D : KD := ⟨37, 205, 100, [0, 1, 4, 5, 6, 7], [1], fun _ => [], fun x ro => match x.vs, x.cars, ro with
 | [(0, .slice (some ⟨1, 0, none⟩) n 3), (1, .int .i64 kind), (4, .slice none 0 0), (5, .int .i64 0), (6, .slice none 0 0), (7, .int .i64 0)], [], [(1, cs)] =>
  .need (rowW n (Int.ofNat n) cs) (.br (first kind (valsOf cs) != 0) (.out (.ret, stRet (first kind (valsOf cs)))) (.br (Nat.beq n 0) (.out (.exit 0, exN)) (.out (.exit 0, exR n (rowO kind (valsOf cs))))))
 | _, _, _ => .no⟩
def lp : LpK := ⟨41, 3, 0, D⟩
theorem sp_ok : ∀ p ∈ [((97 : FuncId), A97.spec)], SpecOk Tryz.prog La p.1 p.2 := by simpa using A97.spec_ok
theorem lp_fine : LpFine Tryz.prog La 4 lp := by
 refine ⟨by kernel_rfl, fun c base I hP hn hG hI hIL x ro ex y e => ?_⟩
 obtain ⟨vs, cars⟩ := x
 simp only [lp, D] at e ⊢
 split at e
 ·rename_i n kind cs
  obtain ⟨g1, g2⟩ := GT.need_eval e
  obtain ⟨_, hn2, h4, h5⟩ := rowW_ok g1
  generalize valsOf cs = l at h4 h5 g2
  subst h4 h5
  have key := scan_from (Step := @StepK (etaB base) c base I (loopAt Tryz.prog 41 0) 37 205 100 [(1, vals l)]) (step := stepF kind) (fin := fun _ => (.exit 0, fin l.length kind l)) (st := fun _ j => st l.length kind l j) (l := l) (fun s => by simp) (fun s a r h => by
    unfold stepF at h
    cases hb : err kind a != 0 <;> rw [hb] at h <;> cases h; simp) (fun _ j hj => by
    have h1 : decide ((j : Int) < Int.ofNat l.length) = true := decide_eq_true (by show (j : Int) < (l.length : Int); omega)
    have h2 : decide ((0 : Int) ≤ j) = true := decide_eq_true (by omega)
    have h3 : Nat.blt ((j : Int)).toNat l.length = true := by rw [Nat.blt_eq]; simpa using hj
    have h4 : (0 + ((j : Int)).toNat * 3) = j * 3 := by simp
    have h5 : IntKind.wrap .i64 ((j : Int) + 1) = ((j + 1 : Nat) : Int) := by rw [wrap_in (by omega) (by omega)]; omega
    have hs : rdS (vals l) (j * 3 + 1 + 1) = l[j].2.2 := rdS_vals l hj
    have hc : ∀ v : W3, vals [v] = [.int .i64 v.1, .int .i64 v.2.1, .string v.2.2] := fun v => rfl
    cases j with
    | zero =>
     have hr := roundN l.length kind ((0 : Nat) : Int) (vals l)
     dsimp only [] at hr
     simp only [h1, h2, h3, h4, h5, isL_vals l hj, rdI_vals l hj, rdI_vals1 l hj, hs, cond_true] at hr
     have e1 : st l.length kind l 0 = stN l.length kind ((0 : Nat) : Int) := rfl
     have e2 : st l.length kind l (0 + 1) = stR l.length kind ((0 + 1 : Nat) : Int) 1 (vals [conv kind l[0]]) := by
      show stR l.length kind ((0 + 1 : Nat) : Int) (0 + 1) (vals (row kind l (0 + 1))) = _
      rw [row_succ kind l hj]; rfl
     rw [e1, e2]
     unfold stepF err conv
     cases hk : kind == 3
     ·rw [hk] at hr
      exact stepT prog_mix prog_names sp_ok (by simp) hP hn hG hI hIL hr
     ·rw [hk] at hr
      simp only [cond_true] at hr ⊢
      cases hd : (Ref.refDecV l[0].1 l[0].2.1).2 != 0
      ·rw [hd] at hr
       exact stepT prog_mix prog_names sp_ok (by simp) hP hn hG hI hIL hr
      ·rw [hd] at hr
       exact stepT prog_mix prog_names sp_ok (by simp) hP hn hG hI hIL hr
    | succ j =>
     have hk := row_len kind l (Nat.le_of_lt hj)
     have hr := roundR l.length kind ((j + 1 : Nat) : Int) (j + 1) (vals (row kind l (j + 1))) (vals l)
     dsimp only [] at hr
     have q1 : ∀ v : W3, ((vals (row kind l (j + 1))).drop 0).take ((j + 1) * 3) ++ [.int .i64 v.1, .int .i64 v.2.1, .string v.2.2] = vals (row kind l (j + 1) ++ [v]) := fun v => by
      rw [List.drop_zero, List.take_of_length_le (by rw [vals_len, hk]; exact Nat.le_refl _), vals_app]; rfl
     have q2 : Nat.ble (j + 1 + 1) 140737488355328 = true := by rw [Nat.ble_eq]; omega
     have q3 : Nat.ble ((j + 1 + 1) * 32) 140737488355328 = true := by rw [Nat.ble_eq]; omega
     have q4 : Nat.ble (0 + (j + 1) * 3) (vals (row kind l (j + 1))).length = true := by rw [Nat.ble_eq, vals_len, hk]; omega
     simp only [h1, h2, h3, h4, h5, isL_vals l hj, rdI_vals l hj, rdI_vals1 l hj, hs, q1, q2, q3, q4, vals_scal, Bool.and_true, cond_true] at hr
     have e1 : st l.length kind l (j + 1) = stR l.length kind ((j + 1 : Nat) : Int) (j + 1) (vals (row kind l (j + 1))) := rfl
     have e2 : st l.length kind l (j + 1 + 1) = stR l.length kind ((j + 1 + 1 : Nat) : Int) (j + 1 + 1) (vals (row kind l (j + 1) ++ [conv kind l[j + 1]])) := by
      show stR l.length kind ((j + 1 + 1 : Nat) : Int) (j + 1 + 1) (vals (row kind l (j + 1 + 1))) = _
      rw [row_succ kind l hj]
     rw [e1, e2]
     unfold stepF err
     have ec : conv kind l[j + 1] = bif kind == 3 then (Ref.refDecV l[j + 1].1 l[j + 1].2.1).1 else l[j + 1] := rfl
     rw [ec]
     cases hk : kind == 3
     ·rw [hk] at hr
      exact stepT prog_mix prog_names sp_ok (by simp) hP hn hG hI hIL (hr.trans (by rw [cond_false, cond_false]))
     ·rw [hk] at hr
      simp only [cond_true] at hr ⊢
      cases hd : (Ref.refDecV l[j + 1].1 l[j + 1].2.1).2 != 0
      ·rw [hd] at hr
       exact stepT prog_mix prog_names sp_ok (by simp) hP hn hG hI hIL hr
      ·rw [hd] at hr
       exact stepT prog_mix prog_names sp_ok (by simp) hP hn hG hI hIL hr) (fun _ => by
    have h1 : decide ((l.length : Int) < Int.ofNat l.length) = false := decide_eq_false (by show ¬ (l.length : Int) < (l.length : Int); omega)
    show @StepK (etaB base) c base I (loopAt Tryz.prog 41 0) 37 205 100 [(1, vals l)] (st l.length kind l l.length) (.exit 0) (fin l.length kind l)
    cases hl : l.length with
    | zero =>
     have hr := roundN l.length kind (l.length : Int) (vals l)
     dsimp only [] at hr
     simp only [h1, cond_false] at hr
     rw [hl] at hr
     exact stepT prog_mix prog_names sp_ok (by simp) hP hn hG hI hIL hr
    | succ j =>
     have hr := roundR l.length kind (l.length : Int) l.length (vals (row kind l l.length)) (vals l)
     dsimp only [] at hr
     simp only [h1, cond_false, vals_scal, Bool.and_true, cond_true] at hr
     have e3 : row kind l l.length = l.map (conv kind) := by unfold row; rw [List.take_length]
     rw [hl] at hr e3
     have e1 : st (j + 1) kind l (j + 1) = stR (j + 1) kind ((j + 1 : Nat) : Int) (j + 1) (vals (row kind l (j + 1))) := rfl
     have e2 : fin (j + 1) kind l = exR (j + 1) (vals (l.map (conv kind))) := rfl
     rw [e1, e2, ← e3]
     exact stepT prog_mix prog_names sp_ok (by simp) hP hn hG hI hIL hr) l.length 0 () (by omega)
  rw [List.drop_zero, scan_first] at key
  cases hf : first kind l != 0 with
  | true => rw [GT.eval, hf] at g2; cases g2; rw [hf] at key; exact key
  | false =>
   rw [hf] at key
   rw [GT.eval, hf] at g2
   simp only [cond_false] at g2 key
   cases hb : Nat.beq l.length 0 with
   | true => rw [GT.eval, hb] at g2; cases g2; unfold fin at key; rw [hb] at key; exact key
   | false => rw [GT.eval, hb] at g2; cases g2; unfold fin at key; rw [hb] at key; exact key
 ·cases e
end A41L0
end
section
open Go Go.Proofs
namespace A11
def T (s0 : ByteArray) (m1 : Nat) (c1 : List Value) : GT Value := let x3 := (rdI c1 0, rdI c1 1, rdS c1 2); let x5 := A11L0.rowK (valsOf c1); let x1 := A41L0.rowO (Ref.kindR s0 (List.map valI (List.take (m1 * 1) (List.drop 0 x5)))).fst (valsOf c1); let x2 := A41L0.first (Ref.kindR s0 ((((((x5).drop 0)).take (m1 * 1))).map valI)).1 (valsOf c1); let x4 := A41L0.rowO (Ref.kindR s0 ((((((x5).drop 0)).take (m1 * 1))).map valI)).1 (valsOf c1); let x6 := A46.guard s0 (valsOf (List.take (m1 * 3) (List.drop 0 c1))); let x7 := (rdI c1 3, rdI c1 4, rdS c1 5); let o1 : GT Value := (.br (Nat.blt 0 m1) (.br (isL c1 0 [(.i .i64), (.i .i64), .s]) (.out (.tuple ([.agg ([.int .i64 (rdI c1 0), .int .i64 (rdI c1 1), .string (rdS c1 2)]).toArray, .int .i64 0]).toArray)) .no) .no); let o2 : GT Value := (.out (.tuple ([.agg ([.int .i64 0, .int .i64 0, .string ⟨([]).toArray⟩]).toArray, .int .i64 0]).toArray)); let o3 : GT Value := (.br ((true && ([((1 : Nat), c1)]).all fun p => p.snd.all scalV)) (.br ((decide ((Int.ofNat m1) = (Int.ofNat m1)) && ((isVals c1) && (Nat.beq (c1).length (m1 * 3) && Nat.blt m1 4398046511104)))) (.br ((x2 != 0)) (.br ((x2 != 0)) (.out (.tuple ([.agg ([.int .i64 0, .int .i64 0, .string ⟨([]).toArray⟩]).toArray, .int .i64 x2]).toArray)) .no) (.br (Nat.beq m1 0) .no (.br (([(true, AA.v (.string s0)), ((fun (cs : List Value) => ((0 + m1 * 3).ble cs.length && (List.take (m1 * 3) (List.drop 0 cs)).all scalV, AA.sl m1 3 (List.take (m1 * 3) (List.drop 0 cs)))) x1)]).all fun x => x.fst) (.br (((decide ((Int.ofNat m1) = (Int.ofNat m1)) && ((isVals (List.take (m1 * 3) (List.drop 0 x1))) && (Nat.beq (((((x4).drop 0)).take (m1 * 3))).length (m1 * 3) && Nat.blt m1 4398046511104))) && Nat.blt 0 m1)) (.out (.tuple ([.agg ([.int .i64 (Ref.chosenR s0 (valsOf (List.take (m1 * 3) (List.drop 0 x1)))).1, .int .i64 (Ref.chosenR s0 (valsOf (List.take (m1 * 3) (List.drop 0 x1)))).2.1, .string (Ref.chosenR s0 (valsOf (List.take (m1 * 3) (List.drop 0 x1)))).2.2]).toArray, .int .i64 0]).toArray)) .no) .no))) .no) .no); let o4 : GT Value := (.br (Nat.blt 0 m1) (.br (isL c1 0 [(.i .i64), (.i .i64), .s]) (.out (.tuple ([.agg ([.int .i64 (Ref.refNum s0 x3).1.1, .int .i64 (Ref.refNum s0 x3).1.2.1, .string (Ref.refNum s0 x3).1.2.2]).toArray, .int .i64 (Ref.refNum s0 x3).2]).toArray)) .no) .no); let o5 : GT Value := (.br (eqU (s0).data.toList [99, 111, 97, 108, 101, 115, 99, 101]) o3 (.br (eqU (s0).data.toList [103, 114, 101, 97, 116, 101, 115, 116]) o3 (.br (eqU (s0).data.toList [108, 101, 97, 115, 116]) o3 (.br (eqU (s0).data.toList [97, 98, 115]) o4 (.br (eqU (s0).data.toList [99, 101, 105, 108]) o4 (.br (eqU (s0).data.toList [102, 108, 111, 111, 114]) o4 (.br (eqU (s0).data.toList [114, 111, 117, 110, 100]) o4 (.br (eqU (s0).data.toList [115, 105, 103, 110]) o4 (.br (eqU (s0).data.toList [116, 111, 100, 101, 99]) o4 (.br (eqU (s0).data.toList [116, 111, 105, 110, 116]) o4 (.br (eqU (s0).data.toList [116, 111, 116, 101, 120, 116]) (.br (Nat.blt 0 m1) (.br (isV c1 0 (.i .i64)) (.br (((rdI c1 0) == 4)) o1 (.br (Nat.blt 0 m1) (.br (isL c1 0 [(.i .i64), (.i .i64), .s]) (.br ((inR (rdI c1 1))) (.br (decide ((Int.ofNat ((Fit.showB (rdI c1 0) (rdI c1 1) (rdS c1 2)).data.toList).length) > 1024)) (.out (.tuple ([.agg ([.int .i64 0, .int .i64 0, .string ⟨([]).toArray⟩]).toArray, .int .i64 20]).toArray)) (.out (.tuple ([.agg ([.int .i64 4, .int .i64 0, .string (Fit.showB (rdI c1 0) (rdI c1 1) (rdS c1 2))]).toArray, .int .i64 0]).toArray))) .no) .no) .no)) .no) .no) (.br (([(true, AA.v (.string s0)), ((fun (cs : List Value) => ((0 + m1 * 3).ble cs.length && (List.take (m1 * 3) (List.drop 0 cs)).all scalV, AA.sl m1 3 (List.take (m1 * 3) (List.drop 0 cs)))) c1)]).all fun x => x.fst) (.br (((decide ((Int.ofNat m1) = (Int.ofNat m1)) && ((isVals (List.take (m1 * 3) (List.drop 0 c1))) && (Nat.beq (((((c1).drop 0)).take (m1 * 3))).length (m1 * 3) && Nat.blt m1 4398046511104))) && x6)) (.out (.tuple ([.agg ([.int .i64 (Ref.textual s0 (valsOf (List.take (m1 * 3) (List.drop 0 c1)))).1.1, .int .i64 (Ref.textual s0 (valsOf (List.take (m1 * 3) (List.drop 0 c1)))).1.2.1, .string (Ref.textual s0 (valsOf (List.take (m1 * 3) (List.drop 0 c1)))).1.2.2]).toArray, .int .i64 (Ref.textual s0 (valsOf (List.take (m1 * 3) (List.drop 0 c1)))).2]).toArray)) .no) .no)))))))))))); (.br ((true && ([((1 : Nat), c1)]).all fun p => p.snd.all scalV)) (.br ((decide ((Int.ofNat m1) = (Int.ofNat m1)) && ((isVals c1) && (Nat.beq (c1).length (m1 * 3) && Nat.blt m1 4398046511104)))) (.br (Nat.beq m1 0) (.out (.tuple ([.agg ([.int .i64 0, .int .i64 0, .string ⟨([]).toArray⟩]).toArray, .int .i64 100]).toArray)) (.br (([(true, AA.v (.string s0)), ((fun (cs : List Value) => ((0 + m1 * 1).ble cs.length && (List.take (m1 * 1) (List.drop 0 cs)).all scalV, AA.sl m1 1 (List.take (m1 * 1) (List.drop 0 cs)))) x5)]).all fun x => x.fst) (.br ((rowI m1 (Int.ofNat m1) ((((x5).drop 0)).take (m1 * 1)))) (.br (((Ref.kindR s0 ((((((x5).drop 0)).take (m1 * 1))).map valI)).2 != 0)) (.out (.tuple ([.agg ([.int .i64 0, .int .i64 0, .string ⟨([]).toArray⟩]).toArray, .int .i64 (Ref.kindR s0 ((((((x5).drop 0)).take (m1 * 1))).map valI)).2]).toArray)) (.br ((true && ([((1 : Nat), c1)]).all fun p => p.snd.all scalV)) (.br ((decide ((Int.ofNat m1) = (Int.ofNat m1)) && ((isVals c1) && (Nat.beq (c1).length (m1 * 3) && Nat.blt m1 4398046511104)))) (.br (((valsOf c1).any A10L1.bad)) (.out (.tuple ([.agg ([.int .i64 0, .int .i64 0, .string ⟨([]).toArray⟩]).toArray, .int .i64 22]).toArray)) (.br (eqU (s0).data.toList [110, 117, 108, 108, 105, 102]) (.br (Nat.blt 0 m1) (.br (isL c1 0 [(.i .i64), (.i .i64), .s]) (.br (Nat.blt 1 m1) (.br (isL c1 3 [(.i .i64), (.i .i64), .s]) (.br (((A40.eqK x3 x7) != 1)) o1 (.br (((A40.eqN x3 x7) != 0)) o2 o1)) .no) .no) .no) .no) (.br ((false || ((List.map (fun (x : W3) => x.fst) (valsOf c1)).any fun x => x == 0))) (.br ((!eqU (s0).data.toList [99, 111, 97, 108, 101, 115, 99, 101])) o2 o5) o5))) .no) .no)) .no) .no)) .no) .no)
set_option maxRecDepth 1000000 in
theorem run (s0 : ByteArray) (m1 : Nat) (c1 : List Value) : callK (cfgK Tryz.prog 4 (gpT [(15, mayS), (38, A38.spec), (40, A40.spec), (42, A42.spec), (43, A43.spec), (45, spec45), (46, A46.spec), (97, A97.spec)]) (ltT 4 [A11L0.lp, A11L1.lp, A41L0.lp])) (gpT [(15, mayS), (38, A38.spec), (40, A40.spec), (42, A42.spec), (43, A43.spec), (45, spec45), (46, A46.spec), (97, A97.spec)]) (ltT 4 [A11L0.lp, A11L1.lp, A41L0.lp]) 12 (.fn 11) (absVs 0 [.v (.string s0), .sl m1 3 c1]) ⟨absH 0 [.v (.string s0), .sl m1 3 c1], 4⟩ (fun o => some o.1) = (T s0 m1 c1).eval := by kernel_rfl
set_option maxRecDepth 1000000 in
theorem flat (s0 : ByteArray) (m1 : Nat) (c1 : List Value) : (T s0 m1 c1).allB (pfd 3) = true := by kernel_rfl
open Fit
theorem dec_first : ∀ l : List W3, A41L0.first 3 l = (Ref.refDecs l).2
 | [] => rfl
 | v :: l => by
  rw [A41L0.first, Ref.refDecs, dec_first l]
  show (bif (Ref.refDecV v.1 v.2.1).2 != 0 then (Ref.refDecV v.1 v.2.1).2 else (Ref.refDecs l).2) = _
  by_cases h : (Ref.refDecV v.1 v.2.1).2 = 0
  ·rw [if_neg (by simpa using h), h]
   by_cases h2 : (Ref.refDecs l).2 = 0
   ·rw [if_neg (by simpa using h2), h2]; rfl
   ·rw [if_pos h2]; rfl
  ·rw [if_pos h]
   have : ((Ref.refDecV v.1 v.2.1).2 != 0) = true := bne_iff_ne.2 h
   rw [this]; rfl
theorem dec_map : ∀ l : List W3, (Ref.refDecs l).2 = 0 → l.map (A41L0.conv 3) = (Ref.refDecs l).1
 | [], _ => rfl
 | v :: l, h => by
  rw [Ref.refDecs] at h ⊢
  by_cases h1 : (Ref.refDecV v.1 v.2.1).2 = 0
  ·rw [if_neg (by simpa using h1)] at h ⊢
   by_cases h2 : (Ref.refDecs l).2 = 0
   ·rw [if_neg (by simpa using h2)] at h ⊢
    rw [List.map_cons, dec_map l h2]; rfl
   ·rw [if_pos h2] at h; exact absurd h h2
  ·rw [if_pos h1] at h; exact absurd h h1
theorem not3_first {k : Int} (h : (k == 3) = false) : ∀ l : List W3, A41L0.first k l = 0
 | [] => rfl
 | v :: l => by
  rw [A41L0.first, not3_first h l]
  unfold A41L0.err
  rw [h]; rfl
theorem not3_map {k : Int} (h : (k == 3) = false) (l : List W3) : l.map (A41L0.conv k) = l := by
 have : A41L0.conv k = id := by
  funext v
  unfold A41L0.conv
  rw [h]; rfl
 rw [this, List.map_id]
theorem best (s : ByteArray) (k : Int) (l : List W3) : (bif A41L0.first k l != 0 then (v0, A41L0.first k l) else (Ref.chosenR s (l.map (A41L0.conv k)), 0)) = Ref.bestR s k l := by
 unfold Ref.bestR
 cases h : k == 3
 ·rw [not3_first h, not3_map h]; rfl
 ·obtain rfl : k = 3 := eq_of_beq h
  rw [dec_first]
  cases h2 : (Ref.refDecs l).2 != 0
  ·rw [dec_map l (bne_eq_false_iff_eq.1 h2)]; rfl
  ·rfl
theorem bestT {x : Option Value} (s : ByteArray) (k : Int) (l : List W3) (h : x = some (ve (bif A41L0.first k l != 0 then (v0, A41L0.first k l) else (Ref.chosenR s (l.map (A41L0.conv k)), 0)))) : x = some (ve (Ref.bestR s k l)) := by rw [h, best]
theorem kind_some {s : ByteArray} {l : List W3} (h : (Ref.kindR s (l.map (·.1))).2 = 0) : 0 < l.length := by
 rw [Ref.kind_eq] at h
 exact A10.kind_some h
theorem guard_of {s : ByteArray} {l : List W3} (hk : (Ref.kindR s (l.map (·.1))).2 = 0) (hb : l.any A10L1.bad = false) (h : ∀ t ∈ ([[110, 117, 108, 108, 105, 102], [99, 111, 97, 108, 101, 115, 99, 101], [103, 114, 101, 97, 116, 101, 115, 116], [108, 101, 97, 115, 116], [116, 111, 116, 101, 120, 116], [97, 98, 115], [99, 101, 105, 108], [102, 108, 111, 111, 114], [114, 111, 117, 110, 100], [115, 105, 103, 110], [116, 111, 100, 101, 99], [116, 111, 105, 110, 116]] : List (List UInt8)), eqU s.data.toList t = false) : A46.guard s l = true := by
 unfold A46.guard
 have h1 : l.all A37L0.shortT = true := List.all_eq_true.2 fun v hv => A10.short_of (okv_of hb v hv)
 have h2 : Nat.blt 0 l.length = true := by rw [Nat.blt_eq]; exact kind_some hk
 rw [h1, h2]
 rw [Ref.kind_eq] at hk
 simp only [List.mem_cons, List.not_mem_nil, or_false, forall_eq_or_imp, forall_eq] at h
 obtain ⟨p1, p2, p3, p4, p5, p6, p7, p8, p9, p10, p11, p12⟩ := h
 cases q1 : eqU s.data.toList [99, 111, 110, 99, 97, 116]
 rotate_left
 ·rfl
 cases q2 : eqU s.data.toList [108, 101, 110, 103, 116, 104]
 rotate_left
 ·rfl
 cases q3 : eqU s.data.toList [108, 111, 119, 101, 114]
 rotate_left
 ·rfl
 cases q4 : eqU s.data.toList [117, 112, 112, 101, 114]
 rotate_left
 ·rfl
 cases q5 : eqU s.data.toList [116, 114, 105, 109]
 rotate_left
 ·rfl
 unfold kindP at hk
 rw [p1, p2, p3, p4, p5, p6, p7, p8, p9, p10, p11, p12, q1, q2, q3, q4, q5] at hk
 simp only [cond_false] at hk
 cases hb : (l.map (·.1)).any A14L0.bad
 rotate_left
 ·rw [hb] at hk; cases hk
 rw [hb] at hk
 simp only [cond_false] at hk
 cases q6 : eqU s.data.toList [115, 117, 98, 115, 116, 114]
 ·rw [q6] at hk; cases hk
 ·rw [q6] at hk
  obtain ⟨a, b, c, e, _⟩ := sub_of (rP0 hk).1
  have := congrArg List.length e
  rw [List.length_map] at this
  have : Nat.blt 2 l.length = true := by rw [this]; rfl
  rw [this]; rfl
set_option maxHeartbeats 0 in
theorem T_ok (s : ByteArray) (l : List W3) (hl : l.length < 4398046511104) (hin : l.all (fun v => inR v.2.1) = true) : (T s l.length (vals l)).eval = some (ve (Ref.RefCall s l)) := by
 cases hb0 : Nat.beq l.length 0
 rotate_left
 ·have : l = [] := List.length_eq_zero_iff.1 (Nat.eq_of_beq_eq_true hb0)
  subst this
  unfold Ref.RefCall
  rw [List.map_nil, Ref.kind_eq, A10.kind_nil]; rfl
 have h0 : 0 < l.length := by
  cases l with
  | nil => cases hb0
  | cons v l => simp
 have g : Nat.blt l.length 4398046511104 = true := by rw [Nat.blt_eq]; exact hl
 have gs := vals_scal l
 have g2 := rowI_of (l := l.map (·.1)) (by rw [List.length_map]; omega)
 rw [List.length_map] at g2
 have a1 : (true && [((1 : Nat), vals l)].all fun p => p.2.all scalV) = true := by simp [vals_scal]
 have a3 : ((ints .i64 (l.map (·.1))).drop 0).take (l.length * 1) = ints .i64 (l.map (·.1)) := by rw [List.drop_zero, Nat.mul_one]; exact List.take_of_length_le (by rw [ints_len, List.length_map]; exact Nat.le_refl _)
 have a4 : ((vals l).drop 0).take (l.length * 3) = vals l := by rw [List.drop_zero]; exact List.take_of_length_le (by rw [vals_len]; exact Nat.le_refl _)
 have a7 : ∀ k : Int, ((vals (l.map (A41L0.conv k))).drop 0).take (l.length * 3) = vals (l.map (A41L0.conv k)) := fun k => by rw [List.drop_zero]; exact List.take_of_length_le (by rw [vals_len, List.length_map]; exact Nat.le_refl _)
 have a5 : (0 + l.length * 1).ble l.length = true := by rw [Nat.ble_eq]; omega
 have a6 : (0 + l.length * 3).ble (l.length * 3) = true := by rw [Nat.ble_eq]; omega
 have r0 : A11L0.rowK l = ints .i64 (l.map (·.1)) := rfl
 have r1 : ∀ k, A41L0.rowO k l = vals (l.map (A41L0.conv k)) := fun _ => rfl
 have b0 : Nat.blt 0 l.length = true := by rw [Nat.blt_eq]; exact h0
 have q0 : rdI (vals l) 0 = (l.headD v0).1 := by have := rdI_vals l h0; rw [A37.at0 l h0] at this; exact this
 have q1 : rdI (vals l) 1 = (l.headD v0).2.1 := by have := rdI_vals1 l h0; rw [A37.at0 l h0] at this; exact this
 have q2 : rdS (vals l) 2 = (l.headD v0).2.2 := by have := rdS_vals l h0; rw [A37.at0 l h0] at this; exact this
 have q3 : isL (vals l) 0 [.i .i64, .i .i64, .s] = true := isL_vals l h0
 have q4 : isV (vals l) 0 (.i .i64) = true := A11L0.isV0 l h0
 have q5 : inR (l.headD v0).2.1 = true := List.all_eq_true.1 hin _ (A37.head_mem l h0)
 unfold T
 dsimp only [] at a1 ⊢
 simp only [hb0, b0, q0, q1, q2, q3, q4, q5, r0, r1, a1, a3, a4, a5, a6, a7, g, gs, g2, isVals_vals, vals_len, ints_len, List.length_map, Nat.beq_refl, decide_true, Bool.and_self, vals_of, ints_vals, ints_scal, vals_scal, GT.eval, Bool.true_and, Bool.and_true, Bool.false_or, cond_true, cond_false, List.all_cons, List.all_nil]
 unfold Ref.RefCall
 generalize hK : (Ref.kindR s (l.map (·.1))).1 = K
 cases hk : (Ref.kindR s (l.map (·.1))).2 != 0
 rotate_left
 ·rfl
 have hk := bne_eq_false_iff_eq.1 hk
 simp only [cond_false]
 cases hbad : l.any A10L1.bad
 rotate_left
 ·rfl
 simp only [cond_false]
 cases n2 : eqU s.data.toList [110, 117, 108, 108, 105, 102]
 rotate_left
 ·obtain rfl := is_eq n2
  have k1 : 1 < l.length := A10.kind_nullif (by rw [← Ref.kind_eq]; exact hk)
  have t0 : rdI (vals l) 3 = (l.getD 1 v0).1 := by have := rdI_vals l k1; rw [A37.atj l 1 k1] at this; exact this
  have t1 : rdI (vals l) 4 = (l.getD 1 v0).2.1 := by have := rdI_vals1 l k1; rw [A37.atj l 1 k1] at this; exact this
  have t2 : rdS (vals l) 5 = (l.getD 1 v0).2.2 := by have := rdS_vals l k1; rw [A37.atj l 1 k1] at this; exact this
  have t3 : isL (vals l) 3 [.i .i64, .i .i64, .s] = true := isL_vals l k1
  have b1 : Nat.blt 1 l.length = true := by rw [Nat.blt_eq]; exact k1
  simp only [t0, t1, t2, t3, b1, cond_true]
  generalize l.headD v0 = v
  generalize l.getD 1 v0 = u
  unfold A40.eqK A40.eqN Ref.same A35.tru
  dsimp only
  cases v.1 == 0 || u.1 == 0
  ·cases (Ref.compareR v.1 v.2.1 v.2.2 u.1 u.2.1 u.2.2).2 && (Ref.compareR v.1 v.2.1 v.2.2 u.1 u.2.1 u.2.2).1 == 0 <;> rfl
  ·rfl
 simp only [cond_false]
 cases n1 : eqU s.data.toList [99, 111, 97, 108, 101, 115, 99, 101]
 rotate_left
 ·simp only [Bool.not_true, Bool.and_false, cond_false, cond_true]
  refine bestT s K l ?_
  cases (l.map (·.1)).any (· == 0) <;> cases A41L0.first K l != 0 <;> rfl
 simp only [Bool.not_false, Bool.and_true, cond_true, cond_false]
 cases hz : (l.map (·.1)).any (· == 0)
 rotate_left
 ·rfl
 simp only [cond_false]
 cases n3 : eqU s.data.toList [103, 114, 101, 97, 116, 101, 115, 116]
 rotate_left
 ·simp only [cond_true]
  refine bestT s K l ?_
  cases A41L0.first K l != 0 <;> rfl
 cases n4 : eqU s.data.toList [108, 101, 97, 115, 116]
 rotate_left
 ·simp only [cond_true, cond_false]
  refine bestT s K l ?_
  cases A41L0.first K l != 0 <;> rfl
 cases h_abs : eqU s.data.toList [97, 98, 115]
 rotate_left
 ·rfl
 cases h_ceil : eqU s.data.toList [99, 101, 105, 108]
 rotate_left
 ·rfl
 cases h_floor : eqU s.data.toList [102, 108, 111, 111, 114]
 rotate_left
 ·rfl
 cases h_round : eqU s.data.toList [114, 111, 117, 110, 100]
 rotate_left
 ·rfl
 cases h_sign : eqU s.data.toList [115, 105, 103, 110]
 rotate_left
 ·rfl
 cases h_todec : eqU s.data.toList [116, 111, 100, 101, 99]
 rotate_left
 ·rfl
 cases h_toint : eqU s.data.toList [116, 111, 105, 110, 116]
 rotate_left
 ·rfl
 cases n5 : eqU s.data.toList [116, 111, 116, 101, 120, 116]
 rotate_left
 ·cases (l.headD v0).1 == 4
  ·exact A37.textV_eq _
  ·rfl
 rw [guard_of hk hbad (by
  simp only [List.mem_cons, List.not_mem_nil, or_false, forall_eq_or_imp, forall_eq]
  exact ⟨n2, n1, n3, n4, n5, h_abs, h_ceil, h_floor, h_round, h_sign, h_todec, h_toint⟩)]
 rfl
def spec : Spec := fun aa => match aa with
 | [.v (.string s), .sl n 3 cs] => some (.need (rowW n (Int.ofNat n) cs && (valsOf cs).all (fun v => inR v.2.1)) (.out (ve (Ref.RefCall s (valsOf cs)))))
 | _ => none
theorem spec_ok : SpecOk Tryz.prog La 11 spec := ⟨fnOk_ok (by kernel_rfl), fun aa t v h e => by
 unfold spec at h
 split at h
 ·rename_i s n cs
  cases h
  obtain ⟨g1, g2⟩ := GT.need_eval e
  cases g2
  simp only [Bool.and_eq_true] at g1
  obtain ⟨_, hn, h4, h5⟩ := rowW_ok g1.1
  have hin := g1.2
  generalize valsOf cs = l at h4 h5 hin
  subst h4 h5
  exact ⟨rfl, callT La_below prog_mix prog_names (by simpa using ⟨ok15, A38.spec_ok, A40.spec_ok, A42.spec_ok, A43.spec_ok, ok45, A46.spec_ok, A97.spec_ok⟩) (by simpa using ⟨A11L0.lp_fine, A11L1.lp_fine, A41L0.lp_fine⟩) (by decide) (by simp) rfl ((run _ _ _).trans (T_ok _ _ hn hin))⟩
 ·cases h⟩
end A11
end
section
open Go Go.Proofs
namespace A12a
def T (m1 : Nat) (c1 : List Value) : GT Value := (.br ((0 != (Int.ofNat m1))) (.out (.bool (false))) (.out (.bool (true))))
set_option maxRecDepth 1000000 in
theorem run (m1 : Nat) (c1 : List Value) : callK (cfgK Tryz.prog 4 (gpT []) (ltT 4 [])) (gpT []) (ltT 4 []) 12 (.fn 12) (absVs 0 [.nil, .sl m1 3 c1]) ⟨absH 0 [.nil, .sl m1 3 c1], 4⟩ (fun o => some o.1) = (T m1 c1).eval := by kernel_rfl
set_option maxRecDepth 1000000 in
theorem flat (m1 : Nat) (c1 : List Value) : (T m1 c1).allB (pfd 3) = true := by kernel_rfl
end A12a
end
section
open Go Go.Proofs
namespace A12b
def T  : GT Value := (.out (.bool (true)))
set_option maxRecDepth 1000000 in
theorem run  : callK (cfgK Tryz.prog 4 (gpT []) (ltT 4 [])) (gpT []) (ltT 4 []) 12 (.fn 12) (absVs 0 [.nil, .nil]) ⟨absH 0 [.nil, .nil], 4⟩ (fun o => some o.1) = (T ).eval := by kernel_rfl
set_option maxRecDepth 1000000 in
theorem flat  : (T ).allB (pfd 3) = true := by kernel_rfl
end A12b
end
section
open Go Go.Proofs
namespace A12L0
noncomputable def cfg : Cfg := cfgK Tryz.prog 4 (gpT []) (ltT 4 [])
def stA (n m : Nat) (i : Int) : KX := ⟨[(0, .slice (some ⟨0, 0, none⟩) n 3), (1, .slice (some ⟨1, 0, none⟩) m 3), (5, .int .i64 i)], []⟩
def kp : Ex → List Nat
 | .normal => [0, 1, 5]
 | .exit _ => []
 | .ret => [4]
def cr : Ex → St → List (Nat × Bool) := fun _ _ => []
set_option maxRecDepth 1000000 in
theorem round (n m : Nat) (i : Int) (c0 : List Value) (c1 : List Value) : codeK cfg (gpT []) (callK cfg (gpT []) (ltT 4 []) 12) (fun _ _ => none) false 1000 (loopAt Tryz.prog 12 0) (stK 26 4 [(0, c0), (1, c1)] (stA n m i)) (endK 4 100 26 kp cr) = (let x1 := 0 + ((i).toNat * 3); (bif decide (i < (Int.ofNat n)) then (bif decide (0 ≤ i) then (bif Nat.blt (i).toNat n then (bif isL c0 x1 [(.i .i64), (.i .i64), .s] then (bif decide (0 ≤ i) then (bif Nat.blt (i).toNat m then (bif isL c1 x1 [(.i .i64), (.i .i64), .s] then (bif (!(((rdI c0 x1) == (rdI c1 x1)) && (((rdI c0 (x1 + 1)) == (rdI c1 (x1 + 1))) && (eqU (rdS c0 ((x1 + 1) + 1)).data.toList (rdS c1 ((x1 + 1) + 1)).data.toList && true)))) then (some (.ret, ⟨[(4, .bool (false))], []⟩)) else (some (.normal, ⟨[(0, .slice (some ⟨0, 0, none⟩) n 3), (1, .slice (some ⟨1, 0, none⟩) m 3), (5, .int .i64 (IntKind.wrap .i64 (i + 1)))], []⟩))) else none) else none) else none) else none) else none) else none) else (some (.exit 0, ⟨[], []⟩)))) := by kernel_rfl
def one (a b : W3) : Bool := (a.1 == b.1) && ((a.2.1 == b.2.1) && (eqU a.2.2.data.toList b.2.2.data.toList && true))
def sameB : List W3 → List W3 → Bool
 | [], [] => true
 | a :: l, b :: m => one a b && sameB l m
 | _, _ => false
theorem eqU_refl : ∀ l : List UInt8, eqU l l = true
 | [] => rfl
 | b :: l => by
  rw [eqU, eqU_refl l, Bool.and_true]
  exact Nat.beq_refl _
theorem one_refl (a : W3) : one a a = true := by unfold one; rw [beq_self_eq_true, beq_self_eq_true, eqU_refl]; rfl
theorem same_refl : ∀ l : List W3, sameB l l = true
 | [] => rfl
 | a :: l => by rw [sameB, one_refl, same_refl l]; rfl
theorem same_at : ∀ (l m : List W3), sameB l m = true → ∃ h : l.length = m.length, ∀ (j : Nat) (hj : j < l.length), one l[j] (m[j]'(h ▸ hj)) = true
 | [], [], _ => ⟨rfl, fun j hj => absurd hj (Nat.not_lt_zero _)⟩
 | [], _ :: _, h => by cases h
 | _ :: _, [], h => by cases h
 | a :: l, b :: m, h => by
  rw [sameB, Bool.and_eq_true] at h
  obtain ⟨h1, h2⟩ := same_at l m h.2
  refine ⟨by rw [List.length_cons, List.length_cons, h1], fun j hj => ?_⟩
  cases j with
  | zero => exact h.1
  | succ j => exact h2 j (by simpa using hj)
def D : KD := ⟨26, 4, 100, [0, 1, 5], [0, 1], fun _ => [], fun x ro => match x.vs, x.cars, ro with
 | [(0, .slice (some ⟨0, 0, none⟩) n 3), (1, .slice (some ⟨1, 0, none⟩) m 3), (5, .int .i64 0)], [], [(0, c0), (1, c1)] =>
  .need (rowW n (Int.ofNat n) c0 && (rowW m (Int.ofNat m) c1 && sameB (valsOf c0) (valsOf c1))) (.out (.exit 0, ⟨[], []⟩))
 | _, _, _ => .no⟩
def lp : LpK := ⟨12, 4, 0, D⟩
theorem lp_fine : LpFine Tryz.prog La 4 lp := by
 refine ⟨by kernel_rfl, fun c base I hP hn hG hI hIL x ro ex y e => ?_⟩
 obtain ⟨vs, cars⟩ := x
 have hsp : ∀ p ∈ ([] : List (FuncId × Spec)), SpecOk Tryz.prog La p.1 p.2 := by simp
 simp only [lp, D] at e ⊢
 split at e
 ·rename_i n m c0 c1
  obtain ⟨g1, g2⟩ := GT.need_eval e
  simp only [Bool.and_eq_true] at g1
  obtain ⟨_, hn2, h4, h5⟩ := rowW_ok g1.1
  obtain ⟨_, hm2, h6, h7⟩ := rowW_ok g1.2.1
  have hs := g1.2.2
  generalize valsOf c0 = l at h4 h5 hs
  generalize valsOf c1 = l' at h6 h7 hs
  subst h4 h5 h6 h7
  obtain ⟨hll, hat⟩ := same_at l l' hs
  have key := scan_from (Step := @StepK (etaB base) c base I (loopAt Tryz.prog 12 0) 26 4 100 [(0, vals l), (1, vals l')]) (step := fun (_ : Unit) (_ : W3) => .inl ()) (fin := fun _ => (.exit 0, ⟨[], []⟩)) (st := fun _ j => stA l.length l'.length j) (l := l) (fun s => by simp) (fun s a r h => by cases h) (fun _ j hj => by
    have hj' : j < l'.length := hll ▸ hj
    have h1 : decide ((j : Int) < Int.ofNat l.length) = true := decide_eq_true (by show (j : Int) < (l.length : Int); omega)
    have h2 : decide ((0 : Int) ≤ j) = true := decide_eq_true (by omega)
    have h3 : Nat.blt ((j : Int)).toNat l.length = true := by rw [Nat.blt_eq]; simpa using hj
    have h3' : Nat.blt ((j : Int)).toNat l'.length = true := by rw [Nat.blt_eq]; simpa using hj'
    have h4 : (0 + ((j : Int)).toNat * 3) = j * 3 := by simp
    have h5 : IntKind.wrap .i64 ((j : Int) + 1) = ((j + 1 : Nat) : Int) := by rw [wrap_in (by omega) (by omega)]; omega
    have s0 : rdS (vals l) (j * 3 + 1 + 1) = l[j].2.2 := rdS_vals l hj
    have s1 : rdS (vals l') (j * 3 + 1 + 1) = l'[j].2.2 := rdS_vals l' hj'
    have h6 := hat j hj
    unfold one at h6
    have hr := round l.length l'.length (j : Int) (vals l) (vals l')
    dsimp only [] at hr
    simp only [h1, h2, h3, h3', h4, h5, isL_vals l hj, isL_vals l' hj', rdI_vals l hj, rdI_vals1 l hj, rdI_vals l' hj', rdI_vals1 l' hj', s0, s1, h6, cond_true, Bool.not_true, cond_false] at hr
    exact stepT prog_mix prog_names hsp (by simp) hP hn hG hI hIL hr) (fun _ => by
    have h1 : decide ((l.length : Int) < Int.ofNat l.length) = false := decide_eq_false (by show ¬ (l.length : Int) < (l.length : Int); omega)
    have hr := round l.length l'.length (l.length : Int) (vals l) (vals l')
    dsimp only [] at hr
    simp only [h1, cond_false] at hr
    exact stepT prog_mix prog_names hsp (by simp) hP hn hG hI hIL hr) l.length 0 () (by omega)
  rw [List.drop_zero] at key
  have hf : scanF (fun (_ : Unit) (_ : W3) => (.inl () : Unit ⊕ (Ex × KX))) (fun _ => (.exit 0, ⟨[], []⟩)) () l = (.exit 0, ⟨[], []⟩) := by
   clear key
   induction l with
   | nil => rfl
   | cons a l ih => exact scanF_fold (f := fun (_ : Unit) (_ : W3) => ()) (fin := fun _ => (.exit 0, ⟨[], []⟩)) (a :: l) ()
  rw [hf] at key
  cases g2
  exact key
 ·cases e
end A12L0
end
section
open Go Go.Proofs
namespace A12
def T (m0 : Nat) (c0 : List Value) (m1 : Nat) (c1 : List Value) : GT Value := (.br (((Int.ofNat m0) != (Int.ofNat m1))) (.out (.bool (false))) (.br ((true && ([((0 : Nat), c0), ((1 : Nat), c1)]).all fun p => p.snd.all scalV)) (.br (((decide ((Int.ofNat m0) = (Int.ofNat m0)) && ((isVals c0) && (Nat.beq (c0).length (m0 * 3) && Nat.blt m0 4398046511104))) && ((decide ((Int.ofNat m1) = (Int.ofNat m1)) && ((isVals c1) && (Nat.beq (c1).length (m1 * 3) && Nat.blt m1 4398046511104))) && (A12L0.sameB (valsOf c0) (valsOf c1))))) (.out (.bool (true))) .no) .no))
set_option maxRecDepth 1000000 in
theorem run (m0 : Nat) (c0 : List Value) (m1 : Nat) (c1 : List Value) : callK (cfgK Tryz.prog 4 (gpT []) (ltT 4 [A12L0.lp])) (gpT []) (ltT 4 [A12L0.lp]) 12 (.fn 12) (absVs 0 [.sl m0 3 c0, .sl m1 3 c1]) ⟨absH 0 [.sl m0 3 c0, .sl m1 3 c1], 4⟩ (fun o => some o.1) = (T m0 c0 m1 c1).eval := by kernel_rfl
set_option maxRecDepth 1000000 in
theorem flat (m0 : Nat) (c0 : List Value) (m1 : Nat) (c1 : List Value) : (T m0 c0 m1 c1).allB (pfd 3) = true := by kernel_rfl
def spec : Spec := fun aa => match aa with
 | [.sl n 3 c0, .sl m 3 c1] => some (.need (rowW n (Int.ofNat n) c0 && (rowW m (Int.ofNat m) c1 && A12L0.sameB (valsOf c0) (valsOf c1))) (.out (.bool true)))
 | [.nil, .sl m 3 _] => some (.need (Nat.beq m 0) (.out (.bool true)))
 | [.nil, .nil] => some (.out (.bool true))
 | _ => none
theorem spec_ok : SpecOk Tryz.prog La 12 spec := ⟨fnOk_ok (by kernel_rfl), fun aa t v h e => by
 unfold spec at h
 split at h
 ·rename_i n c0 m c1
  cases h
  obtain ⟨g1, g2⟩ := GT.need_eval e
  cases g2
  have g0 := g1
  simp only [Bool.and_eq_true] at g1
  obtain ⟨_, hn, h4, h5⟩ := rowW_ok g1.1
  obtain ⟨_, hm, h6, h7⟩ := rowW_ok g1.2.1
  have hs := g1.2.2
  obtain ⟨hll, _⟩ := A12L0.same_at _ _ hs
  have hnm : n = m := by rw [← h5, ← h7, hll]
  subst hnm
  have e2 : (T n c0 n c1).eval = some (.bool true) := by
   have q1 : (Int.ofNat n != Int.ofNat n) = false := by rw [bne_self_eq_false]
   have s0 : c0.all scalV = true := by rw [h4]; exact vals_scal _
   have s1 : c1.all scalV = true := by rw [h6]; exact vals_scal _
   unfold rowW at g0
   unfold T
   simp only [decide_true, Bool.true_and] at g0
   simp only [GT.eval, q1, s0, s1, decide_true, Bool.true_and, List.all_cons, List.all_nil, Bool.and_self, cond_true, cond_false]
   rw [g0]; rfl
  exact ⟨rfl, callT La_below prog_mix prog_names (by simp) (by simpa using A12L0.lp_fine) (by decide) (by simp) rfl ((run _ _ _ _).trans e2)⟩
 ·rename_i m c1
  cases h
  obtain ⟨g1, g2⟩ := GT.need_eval e
  cases g2
  obtain rfl := Nat.eq_of_beq_eq_true g1
  exact ⟨rfl, callT La_below prog_mix prog_names (by simp) (by simp) (by decide) (by simp) rfl (A12a.run 0 c1)⟩
 ·cases h; cases e
  exact ⟨rfl, callT La_below prog_mix prog_names (by simp) (by simp) (by decide) (by simp) rfl A12b.run⟩
 ·cases h⟩
end A12
end
section
open Go Go.Proofs
namespace A3
def T (s0 : ByteArray) (m1 : Nat) (c1 : List Value) : GT Value := (.br (Nat.beq m1 0) (.br (([(true, AA.v (.string s0)), ((fun (cs : List Value) => ((0 + m1 * 3).ble cs.length && (List.take (m1 * 3) (List.drop 0 cs)).all scalV, AA.sl m1 3 (List.take (m1 * 3) (List.drop 0 cs)))) c1)]).all fun x => x.fst) (.br (((decide ((Int.ofNat m1) = (Int.ofNat m1)) && ((isVals (List.take (m1 * 3) (List.drop 0 c1))) && (Nat.beq (((((c1).drop 0)).take (m1 * 3))).length (m1 * 3) && Nat.blt m1 4398046511104))) && ((valsOf (List.take (m1 * 3) (List.drop 0 c1)))).all fun v => inR v.snd.fst)) (.br (((0 == (Ref.RefCall s0 (valsOf (List.take (m1 * 3) (List.drop 0 c1)))).1.1) && ((0 == (Ref.RefCall s0 (valsOf (List.take (m1 * 3) (List.drop 0 c1)))).1.2.1) && (eqU [] (Ref.RefCall s0 (valsOf (List.take (m1 * 3) (List.drop 0 c1)))).1.2.2.data.toList && true)))) (.br ((100 == (Ref.RefCall s0 (valsOf (List.take (m1 * 3) (List.drop 0 c1)))).2)) (.br (([(true, AA.nil), ((fun (cs : List Value) => ((0 + m1 * 3).ble cs.length && (List.take (m1 * 3) (List.drop 0 cs)).all scalV, AA.sl m1 3 (List.take (m1 * 3) (List.drop 0 cs)))) c1)]).all fun x => x.fst) (.br (Nat.beq m1 0) (.out (.bool (true))) .no) .no) (.out (.bool (false)))) (.out (.bool (false)))) .no) .no) (.br (Nat.ble (0 + m1) 140737488355328) (.br (Nat.ble ((0 + m1) * 32) 140737488355328) (.br (Nat.ble (0 + (m1 * 3)) (c1).length) (.br ((((((c1).drop 0)).take (m1 * 3))).all oneC) (.br (([(true, AA.v (.string s0)), ((fun (cs : List Value) => ((0 + m1 * 3).ble cs.length && (List.take (m1 * 3) (List.drop 0 cs)).all scalV, AA.sl m1 (3) (List.take (m1 * 3) (List.drop 0 cs)))) (List.take (m1 * 3) (List.drop 0 c1)))]).all fun x => x.fst) (.br (((decide ((Int.ofNat m1) = (Int.ofNat m1)) && ((isVals (List.take (m1 * 3) (List.drop 0 (List.take (m1 * 3) (List.drop 0 c1))))) && (Nat.beq (((((((((c1).drop 0)).take (m1 * 3))).drop 0)).take (m1 * 3))).length (m1 * 3) && Nat.blt m1 4398046511104))) && ((valsOf (List.take (m1 * 3) (List.drop 0 (List.take (m1 * 3) (List.drop 0 c1)))))).all fun v => inR v.snd.fst)) (.br (([(true, AA.v (.string s0)), ((fun (cs : List Value) => ((0 + m1 * 3).ble cs.length && (List.take (m1 * 3) (List.drop 0 cs)).all scalV, AA.sl m1 3 (List.take (m1 * 3) (List.drop 0 cs)))) c1)]).all fun x => x.fst) (.br (((decide ((Int.ofNat m1) = (Int.ofNat m1)) && ((isVals (List.take (m1 * 3) (List.drop 0 c1))) && (Nat.beq (((((c1).drop 0)).take (m1 * 3))).length (m1 * 3) && Nat.blt m1 4398046511104))) && ((valsOf (List.take (m1 * 3) (List.drop 0 c1)))).all fun v => inR v.snd.fst)) (.br ((((Fit.CallV s0 (valsOf (List.take (m1 * 3) (List.drop 0 (List.take (m1 * 3) (List.drop 0 c1)))))).1.1 == (Ref.RefCall s0 (valsOf (List.take (m1 * 3) (List.drop 0 c1)))).1.1) && (((Fit.CallV s0 (valsOf (List.take (m1 * 3) (List.drop 0 (List.take (m1 * 3) (List.drop 0 c1)))))).1.2.1 == (Ref.RefCall s0 (valsOf (List.take (m1 * 3) (List.drop 0 c1)))).1.2.1) && (eqU (Fit.CallV s0 (valsOf (List.take (m1 * 3) (List.drop 0 (List.take (m1 * 3) (List.drop 0 c1)))))).1.2.2.data.toList (Ref.RefCall s0 (valsOf (List.take (m1 * 3) (List.drop 0 c1)))).1.2.2.data.toList && true)))) (.br (((Fit.CallV s0 (valsOf (List.take (m1 * 3) (List.drop 0 (List.take (m1 * 3) (List.drop 0 c1)))))).2 == (Ref.RefCall s0 (valsOf (List.take (m1 * 3) (List.drop 0 c1)))).2)) (.br (([((fun (cs : List Value) => ((0 + m1 * 3).ble cs.length && (List.take (m1 * 3) (List.drop 0 cs)).all scalV, AA.sl m1 (3) (List.take (m1 * 3) (List.drop 0 cs)))) (List.take (m1 * 3) (List.drop 0 c1))), ((fun (cs : List Value) => ((0 + m1 * 3).ble cs.length && (List.take (m1 * 3) (List.drop 0 cs)).all scalV, AA.sl m1 3 (List.take (m1 * 3) (List.drop 0 cs)))) c1)]).all fun x => x.fst) (.br (((decide ((Int.ofNat m1) = (Int.ofNat m1)) && ((isVals (List.take (m1 * 3) (List.drop 0 (List.take (m1 * 3) (List.drop 0 c1))))) && (Nat.beq (((((((((c1).drop 0)).take (m1 * 3))).drop 0)).take (m1 * 3))).length (m1 * 3) && Nat.blt m1 4398046511104))) && ((decide ((Int.ofNat m1) = (Int.ofNat m1)) && ((isVals (List.take (m1 * 3) (List.drop 0 c1))) && (Nat.beq (((((c1).drop 0)).take (m1 * 3))).length (m1 * 3) && Nat.blt m1 4398046511104))) && (A12L0.sameB (valsOf (List.take (m1 * 3) (List.drop 0 (List.take (m1 * 3) (List.drop 0 c1))))) (valsOf (List.take (m1 * 3) (List.drop 0 c1))))))) (.out (.bool (true))) .no) .no) (.out (.bool (false)))) (.out (.bool (false)))) .no) .no) .no) .no) .no) .no) .no) .no))
set_option maxRecDepth 1000000 in
theorem run (s0 : ByteArray) (m1 : Nat) (c1 : List Value) : callK (cfgK Tryz.prog 4 (gpT [(10, A10n.spec), (11, A11.spec), (12, A12.spec), (13, A13.spec)]) (ltT 4 [])) (gpT [(10, A10n.spec), (11, A11.spec), (12, A12.spec), (13, A13.spec)]) (ltT 4 []) 12 (.fn 3) (absVs 0 [.v (.string s0), .sl m1 3 c1]) ⟨absH 0 [.v (.string s0), .sl m1 3 c1], 4⟩ (fun o => some o.1) = (T s0 m1 c1).eval := by kernel_rfl
set_option maxRecDepth 1000000 in
theorem flat (s0 : ByteArray) (m1 : Nat) (c1 : List Value) : (T s0 m1 c1).allB (pfd 3) = true := by kernel_rfl
open Fit
theorem in_all {l : List W3} (hin : l.all (fun v => inR v.2.1) = true) : ∀ v ∈ l, inR v.2.1 = true := fun v hv => List.all_eq_true.1 hin v hv
theorem one_all {l : List Value} (h : l.all scalV = true) : l.all oneC = true := by
 rw [List.all_eq_true] at h ⊢
 intro x hx
 have := h x hx
 cases x <;> first | rfl | cases this
set_option maxHeartbeats 0 in
theorem T_ok (s : ByteArray) (l : List W3) (hl : l.length < 4398046511104) (hin : l.all (fun v => inR v.2.1) = true) : (T s l.length (vals l)).eval = some (.bool true) := by
 have g : Nat.blt l.length 4398046511104 = true := by rw [Nat.blt_eq]; exact hl
 have gs := vals_scal l
 have go := one_all (vals_scal l)
 have a4 : ((vals l).drop 0).take (l.length * 3) = vals l := by rw [List.drop_zero]; exact List.take_of_length_le (by rw [vals_len]; exact Nat.le_refl _)
 have a6 : (0 + l.length * 3).ble (l.length * 3) = true := by rw [Nat.ble_eq]; omega
 have a7 : Nat.ble (0 + l.length) 140737488355328 = true := by rw [Nat.ble_eq]; omega
 have a8 : Nat.ble ((0 + l.length) * 32) 140737488355328 = true := by rw [Nat.ble_eq]; omega
 have hc : Ref.RefCall s l = CallV s l := Ref.call_eq s l (in_all hin)
 unfold T
 simp only [a4, a6, a7, a8, g, gs, go, hc, hin, isVals_vals, vals_len, Nat.beq_refl, decide_true, Bool.and_self, vals_of, GT.eval, Bool.and_true, cond_true, List.all_cons, List.all_nil, beq_self_eq_true, A12L0.eqU_refl, A12L0.same_refl]
 cases hb0 : Nat.beq l.length 0
 ·rfl
 ·have : l = [] := List.length_eq_zero_iff.1 (Nat.eq_of_beq_eq_true hb0)
  subst this
  have hn : CallV s [] = (v0, 100) := by
   unfold CallV
   rw [List.map_nil, A10.kind_nil]; rfl
  rw [hn]; rfl
theorem spec_sl {s : ByteArray} {l : List W3} (hl : l.length < 4398046511104) (hin : l.all (fun v => inR v.2.1) = true) : CallsA Tryz.prog La 3 [.v (.string s), .sl l.length 3 (vals l)] (.bool true) :=
 callT La_below prog_mix prog_names (by simpa using ⟨A10n.spec_ok, A11.spec_ok, A12.spec_ok, A13.spec_ok⟩) (by simp) (by decide) (by simp) rfl ((run _ _ _).trans (T_ok s l hl hin))
end A3
end
section
open Go Go.Proofs
namespace A11n
set_option maxRecDepth 1000000 in
theorem run (s0 : ByteArray) : callK (cfgK Tryz.prog 4 (gpT [(38, A38.spec)]) (ltT 4 [])) (gpT [(38, A38.spec)]) (ltT 4 []) 12 (.fn 11) (absVs 0 [.v (.string s0), .nil]) ⟨absH 0 [.v (.string s0), .nil], 4⟩ (fun o => some o.1) = some (ve (v0, 100)) := by kernel_rfl
def spec : Spec := fun aa => match aa with
 | [.v (.string s), .nil] => some (.out (ve (v0, 100)))
 | _ => none
theorem spec_ok : SpecOk Tryz.prog La 11 spec := ⟨fnOk_ok (by kernel_rfl), fun aa t v h e => by
 unfold spec at h
 split at h
 ·rename_i s
  cases h; cases e
  exact ⟨rfl, callT La_below prog_mix prog_names (by simpa using A38.spec_ok) (by simp) (by decide) (by simp) rfl (run s)⟩
 ·cases h⟩
end A11n
end
section
open Go Go.Proofs
namespace A3n
def T (s0 : ByteArray) : GT Value := (.out (.bool (true)))
set_option maxRecDepth 1000000 in
theorem run (s0 : ByteArray) : callK (cfgK Tryz.prog 4 (gpT [(10, A10n.spec), (11, A11n.spec), (12, A12.spec), (13, A13.spec)]) (ltT 4 [])) (gpT [(10, A10n.spec), (11, A11n.spec), (12, A12.spec), (13, A13.spec)]) (ltT 4 []) 12 (.fn 3) (absVs 0 [.v (.string s0), .nil]) ⟨absH 0 [.v (.string s0), .nil], 4⟩ (fun o => some o.1) = (T s0).eval := by kernel_rfl
set_option maxRecDepth 1000000 in
theorem flat (s0 : ByteArray) : (T s0).allB (pfd 3) = true := by kernel_rfl
theorem spec_nil (s : ByteArray) : CallsA Tryz.prog La 3 [.v (.string s), .nil] (.bool true) :=
 callT La_below prog_mix prog_names (by simpa using ⟨A10n.spec_ok, A11n.spec_ok, A12.spec_ok, A13.spec_ok⟩) (by simp) (by decide) (by simp) rfl (run s)
end A3n
end
end Go.Proofs.YtaiokpmmjbiajaaGreatDoorDx
