/- A part of the proof of this claim. No condition beyond those that each theorem names. -/
import Derived.Test.YtaiokpmmjbiajaaGreatDoorYK0
import Derived.Test.YtaiokpmmjbiajaaGreatDoorProg
import Derived.KernelRfl
import Derived.Lib.ValidLaws
import Derived.Lib.TrimUEq
import Derived.Lib.MapLaws
import Derived.Lib.RuneCount
import Derived.Laws.Cover4
import Derived.WideShapes
import Derived.Lib.ItoaNum
import Derived.Lib.Repeat
import Derived.Lib.TrimByte
import Derived.Lib.Replace
import Derived.Test.YtaiokpmmjbiajaaGreatDoorYLeaf0
import Derived.Test.YtaiokpmmjbiajaaGreatDoorYPLeafx1
import Derived.Lib.CountLaws
import Derived.Lib.ReplaceLaws
import Derived.Test.YtaiokpmmjbiajaaGreatDoorYPLeafx3
import Derived.Test.YtaiokpmmjbiajaaGreatDoorYPLeafx4
set_option linter.unusedVariables false
set_option linter.unusedSimpArgs false
namespace Go.Proofs.YtaiokpmmjbiajaaGreatDoorDx
section
open Go Go.Proofs
namespace A37L0
noncomputable def cfg : Cfg := cfgK Tryz.prog 4 (gpT []) (ltT 4 [])
def stA (n : Nat) (e : Int) (s : ByteArray) (i : Int) : KX := ⟨[(4, .pointer (some ⟨4, 0, none⟩)), (5, .int .i64 e), (8, .string s), (125, .slice (some ⟨1, 0, none⟩) n 3), (126, .int .i64 (Int.ofNat n)), (127, .int .i64 i)], []⟩
def stExit (e : Int) (s : ByteArray) : KX := ⟨[(4, .pointer (some ⟨4, 0, none⟩)), (5, .int .i64 e), (8, .string s)], []⟩
def kp : Ex → List Nat
 | .normal => [4, 5, 8, 125, 126, 127]
 | _ => [4, 5, 8]
def catB (s t : ByteArray) : ByteArray := ⟨(s.data.toList ++ t.data.toList).toArray⟩
set_option maxRecDepth 1000000 in
theorem round (n : Nat) (e : Int) (s : ByteArray) (i : Int) (cs : List Value) : codeK cfg (gpT []) (callK cfg (gpT []) (ltT 4 []) 12) (fun _ _ => none) false 1000 (loopAt Tryz.prog 37 0) (stK 140 6 [(1, cs)] (stA n e s i)) (endK 6 100 140 kp (fun _ _ => [])) =
 (let x := 0 + ((i).toNat * 3); bif decide (i < (Int.ofNat n)) then (bif decide (0 ≤ i) then (bif Nat.blt (i).toNat n then (bif isL cs x [(.i .i64), (.i .i64), .s] then (bif Nat.ble (((s).data.toList).length + ((rdS cs (x + 1 + 1)).data.toList).length) 9223372036854775807 then (some (.normal, stA n e (catB s (rdS cs (x + 1 + 1))) (IntKind.wrap .i64 (i + 1)))) else none) else none) else none) else none) else (some (.exit 1, stExit e s))) := by kernel_rfl
def cat (l : List W3) : ByteArray := l.foldl (fun s v => catB s v.2.2) ⟨#[]⟩
theorem cat_succ (l : List W3) {j : Nat} (h : j < l.length) : cat (l.take (j + 1)) = catB (cat (l.take j)) l[j].2.2 := by
 unfold cat
 rw [← List.take_append_getElem h, List.foldl_append]; rfl
theorem cat_len (l : List W3) (hs : ∀ v ∈ l, v.2.2.data.toList.length ≤ 1024) : ∀ j, j ≤ l.length → (cat (l.take j)).data.toList.length ≤ 1024 * j
 | 0, _ => by rw [List.take_zero]; exact Nat.le_refl _
 | j + 1, h => by
  have h1 := cat_len l hs j (by omega)
  have h2 := hs _ (List.getElem_mem (show j < l.length by omega))
  rw [cat_succ l (show j < l.length by omega)]
  show ((cat (l.take j)).data.toList ++ (l[j].2.2).data.toList).toArray.toList.length ≤ _
  rw [List.toList_toArray, List.length_append]
  omega
def shortT (v : W3) : Bool := Nat.ble v.2.2.data.toList.length 1024
def D : KD := ⟨140, 6, 100, [4, 5, 8, 125, 126, 127], [1], fun _ => [], fun x ro => match x.vs, x.cars, ro with
 | [(4, .pointer (some ⟨4, 0, none⟩)), (5, .int .i64 e), (8, .string ⟨⟨[]⟩⟩), (125, .slice (some ⟨1, 0, none⟩) n 3), (126, .int .i64 m), (127, .int .i64 0)], [], [(1, cs)] =>
  .need (rowW n m cs && (valsOf cs).all shortT) (.out (.exit 1, stExit e (cat (valsOf cs))))
 | _, _, _ => .no⟩
def lp : LpK := ⟨37, 41, 0, D⟩
theorem lp_fine : LpFine Tryz.prog La 4 lp := by
 refine ⟨by kernel_rfl, fun c base I hP hn hG hI hIL x ro ex y e => ?_⟩
 obtain ⟨vs, cars⟩ := x
 simp only [lp, D] at e ⊢
 split at e
 ·rename_i e0 n m cs
  obtain ⟨g1, g2⟩ := GT.need_eval e
  simp only [Bool.and_eq_true] at g1
  obtain ⟨rfl, hn2, h4, h5⟩ := rowW_ok g1.1
  have hsh := g1.2
  generalize valsOf cs = l at h4 h5 g2 hsh
  subst h4 h5
  have hs : ∀ v ∈ l, v.2.2.data.toList.length ≤ 1024 := fun v hv => Nat.le_of_ble_eq_true (List.all_eq_true.1 hsh v hv)
  have key := scan_from (Step := @StepK (etaB base) c base I (loopAt Tryz.prog 37 0) 140 6 100 [(1, vals l)]) (step := fun (_ : Unit) (v : W3) => .inl ()) (fin := fun _ => (.exit 1, stExit e0 (cat l))) (st := fun _ j => stA l.length e0 (cat (l.take j)) j) (l := l) (fun s => by simp) (fun s a r h => by cases h) (fun _ j hj => by
    have h1 : decide ((j : Int) < Int.ofNat l.length) = true := decide_eq_true (by show (j : Int) < (l.length : Int); omega)
    have h2 : decide ((0 : Int) ≤ j) = true := decide_eq_true (by omega)
    have h3 : Nat.blt ((j : Int)).toNat l.length = true := by rw [Nat.blt_eq]; simpa using hj
    have h4 : (0 + ((j : Int)).toNat * 3) = j * 3 := by simp
    have h5 : IntKind.wrap .i64 ((j : Int) + 1) = ((j + 1 : Nat) : Int) := by rw [wrap_in (by omega) (by omega)]; omega
    have hr1 : rdS (vals l) (j * 3 + 1 + 1) = l[j].2.2 := rdS_vals l hj
    have h6 := cat_len l hs j (by omega)
    have h7 := hs _ (List.getElem_mem hj)
    have h8 : Nat.ble ((cat (l.take j)).data.toList.length + l[j].2.2.data.toList.length) 9223372036854775807 = true := by rw [Nat.ble_eq]; omega
    have hr := round l.length e0 (cat (l.take j)) j (vals l)
    simp only [h1, h2, h3, h4, h5, isL_vals l hj, hr1, h8, cond_true] at hr
    rw [← cat_succ l hj] at hr
    exact stepT prog_mix prog_names (by simp) (by simp) hP hn hG hI hIL hr) (fun _ => by
    have h1 : decide ((l.length : Int) < Int.ofNat l.length) = false := decide_eq_false (by show ¬ (l.length : Int) < (l.length : Int); omega)
    have hr := round l.length e0 (cat (l.take l.length)) l.length (vals l)
    simp only [h1, cond_false] at hr
    have e1 : cat l = cat (l.take l.length) := by rw [List.take_length]
    show @StepK (etaB base) c base I (loopAt Tryz.prog 37 0) 140 6 100 [(1, vals l)] (stA l.length e0 (cat (l.take l.length)) l.length) (.exit 1) (stExit e0 (cat l))
    rw [e1]
    exact stepT prog_mix prog_names (by simp) (by simp) hP hn hG hI hIL hr) l.length 0 () (by omega)
  rw [List.drop_zero, scanF_fold] at key
  cases g2
  exact key
 ·cases e
end A37L0
end
section
open Go Go.Proofs
namespace A10L0
noncomputable def cfg : Cfg := cfgK Tryz.prog 4 (gpT []) (ltT 4 [])
def stN (nm : ByteArray) (n : Nat) (e i : Int) (nl : Bool) : KX := ⟨[(0, .string nm), (1, .slice (some ⟨1, 0, none⟩) n 3), (4, .pointer (some ⟨4, 0, none⟩)), (5, .int .i64 e), (6, .slice none 0 0), (7, .bool nl), (14, .slice (some ⟨1, 0, none⟩) n 3), (15, .int .i64 (Int.ofNat n)), (16, .int .i64 i)], []⟩
def stR (nm : ByteArray) (n : Nat) (e i : Int) (nl : Bool) (k : Nat) (row : List Value) : KX := ⟨[(0, .string nm), (1, .slice (some ⟨1, 0, none⟩) n 3), (4, .pointer (some ⟨4, 0, none⟩)), (5, .int .i64 e), (6, .slice (some ⟨5, 0, none⟩) k 1), (7, .bool nl), (14, .slice (some ⟨1, 0, none⟩) n 3), (15, .int .i64 (Int.ofNat n)), (16, .int .i64 i)], [row]⟩
def exN (nm : ByteArray) (n : Nat) (e : Int) (nl : Bool) : KX := ⟨[(0, .string nm), (1, .slice (some ⟨1, 0, none⟩) n 3), (4, .pointer (some ⟨4, 0, none⟩)), (5, .int .i64 e), (6, .slice none 0 0), (7, .bool nl)], []⟩
def exR (nm : ByteArray) (n : Nat) (e : Int) (nl : Bool) (k : Nat) (row : List Value) : KX := ⟨[(0, .string nm), (1, .slice (some ⟨1, 0, none⟩) n 3), (4, .pointer (some ⟨4, 0, none⟩)), (5, .int .i64 e), (6, .slice (some ⟨5, 0, none⟩) k 1), (7, .bool nl)], [row]⟩
def kp : Ex → List Nat
 | .normal => [0, 1, 4, 5, 6, 7, 14, 15, 16]
 | _ => [0, 1, 4, 5, 6, 7]
def cr : Ex → St → List (Nat × Bool) := fun _ s => match s.T.get 6 with
 | some (.slice (some p) _ _) => [(p.block, true)]
 | _ => []
set_option maxRecDepth 1000000 in
theorem roundN (nm : ByteArray) (n : Nat) (e i : Int) (nl : Bool) (cs : List Value) : codeK cfg (gpT []) (callK cfg (gpT []) (ltT 4 []) 12) (fun _ _ => none) false 1000 (loopAt Tryz.prog 10 0) (stK 84 5 [(1, cs)] (stN nm n e i nl)) (endK 5 100 84 kp cr) =
 (let x := rdI cs (0 + ((i).toNat * 3)); bif decide (i < (Int.ofNat n)) then (bif decide (0 ≤ i) then (bif Nat.blt (i).toNat n then (bif isL cs (0 + ((i).toNat * 3)) [(.i .i64), (.i .i64), .s] then (bif nl then (some (.normal, stR nm n e (IntKind.wrap .i64 (i + 1)) true 1 [.int .i64 x])) else (some (.normal, stR nm n e (IntKind.wrap .i64 (i + 1)) (x == 0) 1 [.int .i64 x]))) else none) else none) else none) else (some (.exit 0, exN nm n e nl))) := by kernel_rfl
set_option maxRecDepth 1000000 in
theorem roundR (nm : ByteArray) (n : Nat) (e i : Int) (nl : Bool) (k : Nat) (row : List Value) (cs : List Value) : codeK cfg (gpT []) (callK cfg (gpT []) (ltT 4 []) 12) (fun _ _ => none) false 1000 (loopAt Tryz.prog 10 0) (stK 84 5 [(1, cs)] (stR nm n e i nl k row)) (endK 5 100 84 kp cr) =
 (let x := rdI cs (0 + ((i).toNat * 3)); let r2 := (((row).drop 0).take (k * 1)) ++ [.int .i64 x]; bif decide (i < (Int.ofNat n)) then (bif decide (0 ≤ i) then (bif Nat.blt (i).toNat n then (bif isL cs (0 + ((i).toNat * 3)) [(.i .i64), (.i .i64), .s] then (bif Nat.ble (k + 1) 140737488355328 then (bif Nat.ble ((k + 1) * 8) 140737488355328 then (bif Nat.ble (0 + (k * 1)) (row).length then (bif nl then (bif r2.all scalV && true then (some (.normal, stR nm n e (IntKind.wrap .i64 (i + 1)) true (k + 1) r2)) else none) else (bif r2.all scalV && true then (some (.normal, stR nm n e (IntKind.wrap .i64 (i + 1)) (x == 0) (k + 1) r2)) else none)) else none) else none) else none) else none) else none) else none) else (bif row.all scalV && true then (some (.exit 0, exR nm n e nl k row)) else none)) := by kernel_rfl
def row (l : List W3) (j : Nat) : List Int := (l.take j).map (·.1)
theorem row_succ (l : List W3) {j : Nat} (h : j < l.length) : row l (j + 1) = row l j ++ [l[j].1] := by
 unfold row
 rw [← List.take_append_getElem h, List.map_append]; rfl
theorem row_len (l : List W3) {j : Nat} (h : j ≤ l.length) : (row l j).length = j := by
 unfold row
 rw [List.length_map, List.length_take]; omega
def nl (l : List W3) (j : Nat) : Bool := (row l j).any (· == 0)
theorem nl_succ (l : List W3) {j : Nat} (h : j < l.length) : nl l (j + 1) = (nl l j || l[j].1 == 0) := by
 unfold nl
 rw [row_succ l h, List.any_append]; simp
def st (nm : ByteArray) (n : Nat) (e : Int) (l : List W3) (j : Nat) : KX := bif Nat.beq j 0 then stN nm n e j false else stR nm n e j (nl l j) j (ints .i64 (row l j))
def fin (nm : ByteArray) (n : Nat) (e : Int) (l : List W3) : KX := bif Nat.beq n 0 then exN nm n e false else exR nm n e ((l.map (·.1)).any (· == 0)) n (ints .i64 (l.map (·.1)))
def D : KD := ⟨84, 5, 100, [0, 1, 4, 5, 6, 7, 14, 15, 16], [1], fun _ => [], fun x ro => match x.vs, x.cars, ro with
 | [(0, .string nm), (1, .slice (some ⟨1, 0, none⟩) n 3), (4, .pointer (some ⟨4, 0, none⟩)), (5, .int .i64 e), (6, .slice none 0 0), (7, .bool false), (14, .slice (some ⟨1, 0, none⟩) n' 3), (15, .int .i64 m), (16, .int .i64 0)], [], [(1, cs)] =>
  .need (Nat.beq n' n && rowW n m cs) (.br (Nat.beq n 0) (.out (.exit 0, exN nm n e false)) (.out (.exit 0, exR nm n e (((valsOf cs).map (·.1)).any (· == 0)) n (ints .i64 ((valsOf cs).map (·.1))))))
 | _, _, _ => .no⟩
def lp : LpK := ⟨10, 4, 0, D⟩
theorem lp_fine : LpFine Tryz.prog La 4 lp := by
 refine ⟨by kernel_rfl, fun c base I hP hn hG hI hIL x ro ex y e => ?_⟩
 obtain ⟨vs, cars⟩ := x
 simp only [lp, D] at e ⊢
 split at e
 ·rename_i nm n e0 n' m cs
  obtain ⟨g1, g2⟩ := GT.need_eval e
  simp only [Bool.and_eq_true] at g1
  obtain rfl := Nat.eq_of_beq_eq_true g1.1
  obtain ⟨rfl, hn2, h4, h5⟩ := rowW_ok g1.2
  generalize valsOf cs = l at h4 h5 g2
  subst h4 h5
  have key := scan_from (Step := @StepK (etaB base) c base I (loopAt Tryz.prog 10 0) 84 5 100 [(1, vals l)]) (step := fun (_ : Unit) (_ : W3) => .inl ()) (fin := fun _ => (.exit 0, fin nm l.length e0 l)) (st := fun _ j => st nm l.length e0 l j) (l := l) (fun s => by simp) (fun s a r h => by cases h) (fun _ j hj => by
    have h1 : decide ((j : Int) < Int.ofNat l.length) = true := decide_eq_true (by show (j : Int) < (l.length : Int); omega)
    have h2 : decide ((0 : Int) ≤ j) = true := decide_eq_true (by omega)
    have h3 : Nat.blt ((j : Int)).toNat l.length = true := by rw [Nat.blt_eq]; simpa using hj
    have h4 : (0 + ((j : Int)).toNat * 3) = j * 3 := by simp
    have h5 : IntKind.wrap .i64 ((j : Int) + 1) = ((j + 1 : Nat) : Int) := by rw [wrap_in (by omega) (by omega)]; omega
    show @StepK (etaB base) c base I (loopAt Tryz.prog 10 0) 84 5 100 [(1, vals l)] (st nm l.length e0 l j) .normal (st nm l.length e0 l (j + 1))
    cases j with
    | zero =>
     have hr := roundN nm l.length e0 ((0 : Nat) : Int) false (vals l)
     simp only [h1, h2, h3, h4, h5, isL_vals l hj, rdI_vals l hj, cond_true] at hr
     have e1 : st nm l.length e0 l 0 = stN nm l.length e0 ((0 : Nat) : Int) false := rfl
     have e2 : st nm l.length e0 l (0 + 1) = stR nm l.length e0 ((0 + 1 : Nat) : Int) (l[0].1 == 0) 1 [.int .i64 l[0].1] := by
      show stR nm l.length e0 ((0 + 1 : Nat) : Int) (nl l (0 + 1)) (0 + 1) (ints .i64 (row l (0 + 1))) = _
      rw [nl_succ l hj, row_succ l hj]; rfl
     rw [e1, e2]
     exact stepT prog_mix prog_names (by simp) (by simp) hP hn hG hI hIL hr
    | succ j =>
     have hk := row_len l (Nat.le_of_lt hj)
     have hr := roundR nm l.length e0 ((j + 1 : Nat) : Int) (nl l (j + 1)) (j + 1) (ints .i64 (row l (j + 1))) (vals l)
     have q1 : ((ints .i64 (row l (j + 1))).drop 0).take ((j + 1) * 1) ++ [.int .i64 (l[j + 1]).1] = ints .i64 (row l (j + 1 + 1)) := by
      rw [List.drop_zero, Nat.mul_one, List.take_of_length_le (by rw [ints_len, hk]; exact Nat.le_refl _), row_succ l hj]
      unfold ints
      rw [List.map_append]; rfl
     have q2 : Nat.ble (j + 1 + 1) 140737488355328 = true := by rw [Nat.ble_eq]; omega
     have q3 : Nat.ble ((j + 1 + 1) * 8) 140737488355328 = true := by rw [Nat.ble_eq]; omega
     have q4 : Nat.ble (0 + (j + 1) * 1) (ints .i64 (row l (j + 1))).length = true := by rw [Nat.ble_eq, ints_len, hk]; omega
     simp only [h1, h2, h3, h4, h5, isL_vals l hj, rdI_vals l hj, q1, q2, q3, q4, ints_scal, Bool.and_true, cond_true] at hr
     have e1 : st nm l.length e0 l (j + 1) = stR nm l.length e0 ((j + 1 : Nat) : Int) (nl l (j + 1)) (j + 1) (ints .i64 (row l (j + 1))) := rfl
     have e2 : st nm l.length e0 l (j + 1 + 1) = stR nm l.length e0 ((j + 1 + 1 : Nat) : Int) (nl l (j + 1) || l[j + 1].1 == 0) (j + 1 + 1) (ints .i64 (row l (j + 1 + 1))) := by rw [← nl_succ l hj]; rfl
     rw [e1, e2]
     cases hz : nl l (j + 1) <;> rw [hz] at hr <;> exact stepT prog_mix prog_names (by simp) (by simp) hP hn hG hI hIL hr) (fun _ => by
    have h1 : decide ((l.length : Int) < Int.ofNat l.length) = false := decide_eq_false (by show ¬ (l.length : Int) < (l.length : Int); omega)
    show @StepK (etaB base) c base I (loopAt Tryz.prog 10 0) 84 5 100 [(1, vals l)] (st nm l.length e0 l l.length) (.exit 0) (fin nm l.length e0 l)
    cases hl : l.length with
    | zero =>
     have hr := roundN nm l.length e0 (l.length : Int) false (vals l)
     simp only [h1, cond_false] at hr
     rw [hl] at hr
     exact stepT prog_mix prog_names (by simp) (by simp) hP hn hG hI hIL hr
    | succ j =>
     have hr := roundR nm l.length e0 (l.length : Int) (nl l l.length) l.length (ints .i64 (row l l.length)) (vals l)
     simp only [h1, cond_false, ints_scal, Bool.and_true, cond_true] at hr
     have e3 : row l l.length = l.map (·.1) := by unfold row; rw [List.take_length]
     have e4 : nl l l.length = (l.map (·.1)).any (· == 0) := by unfold nl; rw [e3]
     rw [hl] at hr e3 e4
     have e1 : st nm (j + 1) e0 l (j + 1) = stR nm (j + 1) e0 ((j + 1 : Nat) : Int) (nl l (j + 1)) (j + 1) (ints .i64 (row l (j + 1))) := rfl
     have e2 : fin nm (j + 1) e0 l = exR nm (j + 1) e0 ((l.map (·.1)).any (· == 0)) (j + 1) (ints .i64 (l.map (·.1))) := rfl
     rw [e1, e2, ← e4, ← e3]
     exact stepT prog_mix prog_names (by simp) (by simp) hP hn hG hI hIL hr) l.length 0 () (by omega)
  rw [List.drop_zero, scanF_fold] at key
  cases hb : Nat.beq l.length 0 with
  | true => rw [GT.eval, hb] at g2; cases g2; unfold fin at key; rw [hb] at key; exact key
  | false => rw [GT.eval, hb] at g2; cases g2; unfold fin at key; rw [hb] at key; exact key
 ·cases e
end A10L0
end
section
open Go Go.Proofs
namespace A10L1
noncomputable def cfg : Cfg := cfgK Tryz.prog 4 (gpT [(33, A33.spec)]) (ltT 4 [])
def stA (nm : ByteArray) (n : Nat) (e : Int) (nl : Bool) (i : Int) : KX := ⟨[(0, .string nm), (1, .slice (some ⟨1, 0, none⟩) n 3), (4, .pointer (some ⟨105, 0, none⟩)), (5, .int .i64 e), (7, .bool nl), (42, .slice (some ⟨1, 0, none⟩) n 3), (43, .int .i64 (Int.ofNat n)), (44, .int .i64 i)], [[.int .i64 0, .int .i64 0, .string ⟨#[]⟩]]⟩
def stExit (nm : ByteArray) (n : Nat) (e : Int) (nl : Bool) : KX := ⟨[(0, .string nm), (1, .slice (some ⟨1, 0, none⟩) n 3), (4, .pointer (some ⟨105, 0, none⟩)), (5, .int .i64 e), (7, .bool nl)], [[.int .i64 0, .int .i64 0, .string ⟨#[]⟩]]⟩
def stRet (e : Int) : KX := ⟨[(4, .pointer (some ⟨105, 0, none⟩)), (5, .int .i64 e)], [[.int .i64 0, .int .i64 0, .string ⟨#[]⟩]]⟩
def kp : Ex → List Nat
 | .normal => [0, 1, 4, 5, 7, 42, 43, 44]
 | .ret => [4, 5]
 | _ => [0, 1, 4, 5, 7]
def cr : Ex → St → List (Nat × Bool) := fun _ s => [(105, true)]
set_option maxRecDepth 1000000 in
theorem round (nm : ByteArray) (n : Nat) (e : Int) (nl : Bool) (i : Int) (cs : List Value) : codeK cfg (gpT [(33, A33.spec)]) (callK cfg (gpT [(33, A33.spec)]) (ltT 4 []) 12) (fun _ _ => none) false 1000 (loopAt Tryz.prog 10 1) (stK 84 105 [(1, cs)] (stA nm n e nl i)) (endK 105 100 84 kp cr) =
 (let x := 0 + ((i).toNat * 3); bif decide (i < (Int.ofNat n)) then (bif decide (0 ≤ i) then (bif Nat.blt (i).toNat n then (bif isL cs x [(.i .i64), (.i .i64), .s] then (bif ((bif A33.okv (rdI cs x) (rdI cs (x + 1)) (rdS cs (x + 1 + 1)) then (0 : Int) else 1) != 0) then (some (.ret, stRet 22)) else (some (.normal, stA nm n e nl (IntKind.wrap .i64 (i + 1))))) else none) else none) else none) else (some (.exit 2, stExit nm n e nl))) := by kernel_rfl
def bad (v : W3) : Bool := !A33.okv v.1 v.2.1 v.2.2
theorem bad_eq (b : Bool) : ((bif b then (0 : Int) else 1) != 0) = !b := by cases b <;> rfl
def D : KD := ⟨84, 105, 100, [0, 1, 4, 5, 7, 42, 43, 44], [1], fun _ => [(4, true)], fun x ro => match x.vs, x.cars, ro with
 | [(0, .string nm), (1, .slice (some ⟨1, 0, none⟩) n 3), (4, .pointer (some ⟨105, 0, none⟩)), (5, .int .i64 e), (7, .bool nl), (42, .slice (some ⟨1, 0, none⟩) n' 3), (43, .int .i64 m), (44, .int .i64 0)], [[.int .i64 0, .int .i64 0, .string ⟨⟨[]⟩⟩]], [(1, cs)] =>
  .need (Nat.beq n' n && rowW n m cs) (.br ((valsOf cs).any bad) (.out (.ret, stRet 22)) (.out (.exit 2, stExit nm n e nl)))
 | _, _, _ => .no⟩
def lp : LpK := ⟨10, 13, 1, D⟩
theorem sp_ok : ∀ p ∈ [((33 : FuncId), A33.spec)], SpecOk Tryz.prog La p.1 p.2 := by simpa using A33.spec_ok
theorem lp_fine : LpFine Tryz.prog La 4 lp := by
 refine ⟨by kernel_rfl, fun c base I hP hn hG hI hIL x ro ex y e => ?_⟩
 obtain ⟨vs, cars⟩ := x
 simp only [lp, D] at e ⊢
 split at e
 ·rename_i nm n e0 nl n' m cs
  obtain ⟨g1, g2⟩ := GT.need_eval e
  simp only [Bool.and_eq_true] at g1
  obtain rfl := Nat.eq_of_beq_eq_true g1.1
  obtain ⟨rfl, hn2, h4, h5⟩ := rowW_ok g1.2
  generalize valsOf cs = l at h4 h5 g2
  subst h4 h5
  have key := scan_from (Step := @StepK (etaB base) c base I (loopAt Tryz.prog 10 1) 84 105 100 [(1, vals l)]) (step := fun (_ : Unit) (v : W3) => bif bad v then .inr (.ret, stRet 22) else .inl ()) (fin := fun _ => (.exit 2, stExit nm l.length e0 nl)) (st := fun _ j => stA nm l.length e0 nl j) (l := l) (fun s => by simp) (fun s a r h => by
    cases hb : bad a <;> rw [hb] at h <;> cases h; simp) (fun _ j hj => by
    have h1 : decide ((j : Int) < Int.ofNat l.length) = true := decide_eq_true (by show (j : Int) < (l.length : Int); omega)
    have h2 : decide ((0 : Int) ≤ j) = true := decide_eq_true (by omega)
    have h3 : Nat.blt ((j : Int)).toNat l.length = true := by rw [Nat.blt_eq]; simpa using hj
    have h4 : (0 + ((j : Int)).toNat * 3) = j * 3 := by simp
    have h5 : IntKind.wrap .i64 ((j : Int) + 1) = ((j + 1 : Nat) : Int) := by rw [wrap_in (by omega) (by omega)]; omega
    have hs : rdS (vals l) (j * 3 + 1 + 1) = l[j].2.2 := rdS_vals l hj
    have hr := round nm l.length e0 nl j (vals l)
    simp only [h1, h2, h3, h4, h5, isL_vals l hj, rdI_vals l hj, rdI_vals1 l hj, hs, cond_true, bad_eq] at hr
    unfold bad
    cases hb : A33.okv l[j].1 l[j].2.1 l[j].2.2 <;> rw [hb] at hr <;> exact stepT prog_mix prog_names sp_ok (by simp) hP hn hG hI hIL hr) (fun _ => by
    have h1 : decide ((l.length : Int) < Int.ofNat l.length) = false := decide_eq_false (by show ¬ (l.length : Int) < (l.length : Int); omega)
    have hr := round nm l.length e0 nl l.length (vals l)
    simp only [h1, cond_false] at hr
    exact stepT prog_mix prog_names sp_ok (by simp) hP hn hG hI hIL hr) l.length 0 () (by omega)
  rw [List.drop_zero, scanF_any] at key
  cases hb : l.any bad with
  | true => rw [hb] at key; rw [GT.eval, hb] at g2; cases g2; exact key
  | false => rw [hb] at key; rw [GT.eval, hb] at g2; cases g2; exact key
 ·cases e
end A10L1
end
end Go.Proofs.YtaiokpmmjbiajaaGreatDoorDx
namespace Go.Proofs.YtaiokpmmjbiajaaGreatDoorU8
section
open Go Go.Lib
def Scal (n : Int) : Prop := (0 ≤ n ∧ n < 55296) ∨ (57344 ≤ n ∧ n ≤ 1114111)
def enc (n : Int) : List UInt8 := (Utf8.encode n).data.toList
def u8s (l : List Int) : List UInt8 := l.flatMap enc
theorem u8s_nil : u8s [] = [] := rfl
theorem u8s_cons (n : Int) (l : List Int) : u8s (n :: l) = enc n ++ u8s l := rfl
theorem u8s_append (a b : List Int) : u8s (a ++ b) = u8s a ++ u8s b := by simp [u8s]
theorem enc_eq {n : Int} (h : Scal n) : enc n =
  if n < 128 then [UInt8.ofNat n.toNat]
  else if n < 2048 then [UInt8.ofNat (192 + n.toNat / 64), UInt8.ofNat (128 + n.toNat % 64)]
  else if n < 65536 then [UInt8.ofNat (224 + n.toNat / 4096), UInt8.ofNat (128 + n.toNat / 64 % 64), UInt8.ofNat (128 + n.toNat % 64)]
  else [UInt8.ofNat (240 + n.toNat / 262144), UInt8.ofNat (128 + n.toNat / 4096 % 64), UInt8.ofNat (128 + n.toNat / 64 % 64), UInt8.ofNat (128 + n.toNat % 64)] := by
 unfold enc Utf8.encode
 have hv : Utf8.valid n = true := by
  unfold Utf8.valid
  unfold Scal at h
  simp only [Bool.or_eq_true, Bool.and_eq_true, decide_eq_true_eq]
  omega
 simp only [hv, if_true]
 unfold Scal at h
 by_cases h1 : n < 128
 ·rw [if_pos h1, if_pos (by omega)]
 by_cases h2 : n < 2048
 ·rw [if_neg h1, if_pos h2, if_neg (by omega), if_pos (by omega)]
 by_cases h3 : n < 65536
 ·rw [if_neg h1, if_neg h2, if_pos h3, if_neg (by omega), if_neg (by omega), if_pos (by omega)]
 ·rw [if_neg h1, if_neg h2, if_neg h3, if_neg (by omega), if_neg (by omega), if_neg (by omega)]
theorem tn {n : Nat} (h : n < 256) : (UInt8.ofNat n).toNat = n := by simp; omega
theorem dec_enc {n : Int} (h : Scal n) (t : List UInt8) : decodeL (enc n ++ t) = (n.toNat, (enc n).length) := by
 rw [decodeL_N, enc_eq h]
 unfold Scal at h
 obtain ⟨m, rfl⟩ : ∃ m : Nat, n = m := ⟨n.toNat, by omega⟩
 simp only [Int.toNat_natCast]
 by_cases h1 : m < 128
 ·rw [if_pos (by omega)]
  simp only [List.cons_append, List.nil_append, List.getD_cons_zero, tn (show m < 256 by omega), List.length_cons, List.length_nil]
  unfold decodeN
  rw [if_pos h1]
 by_cases h2 : m < 2048
 ·rw [if_neg (by omega), if_pos (by omega)]
  simp only [List.cons_append, List.nil_append, List.getD_cons_zero, List.getD_cons_succ, tn (show 192 + m / 64 < 256 by omega), tn (show 128 + m % 64 < 256 by omega), List.length_cons, List.length_nil]
  unfold decodeN
  rw [if_neg (by omega), if_pos ⟨by omega, by omega, by omega⟩, if_pos (by omega)]
  congr 1; omega
 by_cases h3 : m < 65536
 ·rw [if_neg (by omega), if_neg (by omega), if_pos (by omega)]
  simp only [List.cons_append, List.nil_append, List.getD_cons_zero, List.getD_cons_succ, tn (show 224 + m / 4096 < 256 by omega), tn (show 128 + m / 64 % 64 < 256 by omega), tn (show 128 + m % 64 < 256 by omega), List.length_cons, List.length_nil]
  have e : (224 + m / 4096) % 16 * 4096 + (128 + m / 64 % 64) % 64 * 64 + (128 + m % 64) % 64 = m := by omega
  unfold decodeN
  rw [if_neg (by omega), if_neg (by omega), if_pos ⟨by omega, ⟨by omega, by omega⟩, by omega, by omega⟩, e, if_pos (by omega)]
 ·rw [if_neg (by omega), if_neg (by omega), if_neg (by omega)]
  simp only [List.cons_append, List.nil_append, List.getD_cons_zero, List.getD_cons_succ, tn (show 240 + m / 262144 < 256 by omega), tn (show 128 + m / 4096 % 64 < 256 by omega), tn (show 128 + m / 64 % 64 < 256 by omega), tn (show 128 + m % 64 < 256 by omega), List.length_cons, List.length_nil]
  have e : (240 + m / 262144) % 8 * 262144 + (128 + m / 4096 % 64) % 64 * 4096 + (128 + m / 64 % 64) % 64 * 64 + (128 + m % 64) % 64 = m := by omega
  unfold decodeN
  rw [if_neg (by omega), if_neg (by omega), if_neg (by omega), if_pos ⟨by omega, ⟨by omega, by omega⟩, ⟨by omega, by omega⟩, by omega, by omega⟩, e, if_pos (by omega)]
theorem enc_len {n : Int} (h : Scal n) : 1 ≤ (enc n).length ∧ (enc n).length ≤ 4 ∧ ((enc n).length = 1 → n < 128) := by
 rw [enc_eq h]
 by_cases h1 : n < 128
 ·simp [h1]
 by_cases h2 : n < 2048
 ·simp [h1, h2]
 by_cases h3 : n < 65536
 ·simp [h1, h2, h3]
 ·simp [h1, h2, h3]
theorem of_tn {b : UInt8} {n : Nat} (h : n = b.toNat) : UInt8.ofNat n = b := by subst h; simp
theorem enc_dec (l : List UInt8) (hne : l ≠ []) (h : ¬ ((decodeL l).1 = 65533 ∧ (decodeL l).2 = 1)) : Scal ((decodeL l).1 : Int) ∧ enc ((decodeL l).1 : Int) ++ l.drop (decodeL l).2 = l := by
 rw [decodeL_N] at h ⊢
 have hb : ∀ b : UInt8, b.toNat < 256 := fun b => b.toNat_lt
 match l, hne with
 | b0 :: t, _ =>
 have q0 := hb b0
 unfold decodeN at h ⊢
 simp only [List.getD_cons_zero, List.getD_cons_succ] at h ⊢
 by_cases h0 : b0.toNat < 128
 ·rw [if_pos h0] at h ⊢
  simp only
  have hs : Scal (b0.toNat : Int) := by unfold Scal; omega
  refine ⟨hs, ?_⟩
  rw [enc_eq hs, if_pos (by omega)]
  simp
 rw [if_neg h0] at h ⊢
 cases t with
 | nil =>
  rw [if_neg (by simp), if_neg (by simp), if_neg (by simp)] at h
  simp at h
 | cons b1 t =>
 have q1 := hb b1
 simp only [List.getD_cons_zero, List.getD_cons_succ, List.length_cons] at h ⊢
 by_cases c1 : b0.toNat / 32 = 6 ∧ (1 < t.length + 1 + 1 ∧ b1.toNat / 64 = 2)
 ·rw [if_pos c1] at h ⊢
  by_cases d : b0.toNat % 32 * 64 + b1.toNat % 64 ≥ 128
  ·rw [if_pos d] at h ⊢
   simp only
   have hs : Scal ((b0.toNat % 32 * 64 + b1.toNat % 64 : Nat) : Int) := by unfold Scal; omega
   refine ⟨hs, ?_⟩
   rw [enc_eq hs, if_neg (by omega), if_pos (by omega), Int.toNat_natCast]
   simp only [List.cons_append, List.nil_append, List.drop_succ_cons, List.drop_zero]
   rw [of_tn (b := b0) (by omega), of_tn (b := b1) (by omega)]
  ·rw [if_neg d] at h; simp at h
 rw [if_neg c1] at h ⊢
 cases t with
 | nil =>
  rw [if_neg (by simp), if_neg (by simp)] at h
  simp at h
 | cons b2 t =>
 have q2 := hb b2
 simp only [List.getD_cons_zero, List.getD_cons_succ, List.length_cons] at h ⊢
 by_cases c2 : b0.toNat / 16 = 14 ∧ (1 < t.length + 1 + 1 + 1 ∧ b1.toNat / 64 = 2) ∧ (2 < t.length + 1 + 1 + 1 ∧ b2.toNat / 64 = 2)
 ·rw [if_pos c2] at h ⊢
  generalize hm : b0.toNat % 16 * 4096 + b1.toNat % 64 * 64 + b2.toNat % 64 = m at h ⊢
  by_cases d : m ≥ 2048 ∧ (m < 55296 ∨ (57344 ≤ m ∧ m ≤ 1114111))
  ·rw [if_pos d] at h ⊢
   simp only
   have hs : Scal (m : Int) := by unfold Scal; omega
   refine ⟨hs, ?_⟩
   rw [enc_eq hs, if_neg (by omega), if_neg (by omega), if_pos (by omega), Int.toNat_natCast]
   simp only [List.cons_append, List.nil_append, List.drop_succ_cons, List.drop_zero]
   rw [of_tn (b := b0) (by omega), of_tn (b := b1) (by omega), of_tn (b := b2) (by omega)]
  ·rw [if_neg d] at h; simp at h
 rw [if_neg c2] at h ⊢
 cases t with
 | nil =>
  rw [if_neg (by simp)] at h
  simp at h
 | cons b3 t =>
 have q3 := hb b3
 simp only [List.getD_cons_zero, List.getD_cons_succ, List.length_cons] at h ⊢
 by_cases c3 : b0.toNat / 8 = 30 ∧ (1 < t.length + 1 + 1 + 1 + 1 ∧ b1.toNat / 64 = 2) ∧ (2 < t.length + 1 + 1 + 1 + 1 ∧ b2.toNat / 64 = 2) ∧ (3 < t.length + 1 + 1 + 1 + 1 ∧ b3.toNat / 64 = 2)
 ·rw [if_pos c3] at h ⊢
  generalize hm : b0.toNat % 8 * 262144 + b1.toNat % 64 * 4096 + b2.toNat % 64 * 64 + b3.toNat % 64 = m at h ⊢
  by_cases d : m ≥ 65536 ∧ (m < 55296 ∨ (57344 ≤ m ∧ m ≤ 1114111))
  ·rw [if_pos d] at h ⊢
   simp only
   have hs : Scal (m : Int) := by unfold Scal; omega
   refine ⟨hs, ?_⟩
   rw [enc_eq hs, if_neg (by omega), if_neg (by omega), if_neg (by omega), Int.toNat_natCast]
   simp only [List.cons_append, List.nil_append, List.drop_succ_cons, List.drop_zero]
   rw [of_tn (b := b0) (by omega), of_tn (b := b1) (by omega), of_tn (b := b2) (by omega), of_tn (b := b3) (by omega)]
  ·rw [if_neg d] at h; simp at h
 rw [if_neg c3] at h
 simp at h
theorem valid_split : ∀ (n : Nat) (l : List UInt8), l.length ≤ n → validD l = true → ∃ p : List Int, (∀ x ∈ p, Scal x) ∧ l = u8s p
 | 0, l, hl, _ => ⟨[], fun x h => by (cases h), by cases l with | nil => rfl | cons => simp at hl⟩
 | n + 1, l, hl, hv => by
  by_cases hne : l = []
  ·exact ⟨[], fun x h => by (cases h), hne⟩
  rw [validD_step l hne] at hv
  by_cases hd : (decodeL l).1 = 65533 ∧ (decodeL l).2 = 1
  ·rw [if_pos hd] at hv; cases hv
  rw [if_neg hd] at hv
  obtain ⟨h1, h2⟩ := enc_dec l hne hd
  have h3 := enc_len h1
  have h4 := congrArg List.length h2
  have h5 := decodeL_le l hne
  have h6 := decodeL_width l
  simp only [List.length_append, List.length_drop] at h4
  obtain ⟨p, h7, h8⟩ := valid_split n (l.drop (decodeL l).2) (by simp; omega) hv
  exact ⟨(decodeL l).1 :: p, fun x hx => by
   rcases List.mem_cons.1 hx with rfl | hx
   ·exact h1
   ·exact h7 x hx, by rw [u8s_cons, ← h8, h2]⟩
theorem runes_u8s (l : List Int) : runesBytes l = ⟨(u8s l).toArray⟩ := by
 have : ∀ (l : List Int) (b : ByteArray), l.foldl (fun r n => r ++ Utf8.encode n) b = ⟨(b.data.toList ++ u8s l).toArray⟩ := by
  intro l
  induction l with
  | nil => intro b; obtain ⟨a⟩ := b; simp [u8s]
  | cons n l ih => intro b; rw [List.foldl_cons, ih, u8s_cons]; simp [enc]
 rw [runesBytes, this]
 rfl
end
end Go.Proofs.YtaiokpmmjbiajaaGreatDoorU8
namespace Go.Proofs.YtaiokpmmjbiajaaGreatDoorTxt
section
set_option maxRecDepth 4000
open Go.Proofs.YtaiokpmmjbiajaaGreatDoorU8 Go.Lib
open Go.WideShapes (bytes_inj)
def pts (s : ByteArray) : Nat → Nat → List Int
 | 0, _ => []
 | n + 1, i => if i < s.size then Int.ofNat (Utf8.decode s i).1 :: pts s n (i + (Utf8.decode s i).2) else []
def from_ (l : List Int) (a1 : Int) : Nat := (min (max a1 0) (l.length : Int)).toNat
def cnt (l : List Int) (a1 a2 : Int) : Nat := (min (max a2 0) ((l.length : Int) - min (max a1 0) (l.length : Int))).toNat
def pieceB (s : ByteArray) (a1 a2 : Int) : ByteArray :=
 runesBytes (((pts s s.size 0).drop (from_ (pts s s.size 0) a1)).take (cnt (pts s s.size 0) a1 a2))
def one (lo hi d : Int) (c : UInt8) : UInt8 := if lo ≤ (c.toNat : Int) ∧ (c.toNat : Int) ≤ hi then UInt8.ofNat (((c.toNat : Int) + d) % 256).toNat else c
def casedB (lo hi d : Int) (s : ByteArray) : ByteArray := ⟨(s.data.toList.map (one lo hi d)).toArray⟩
def frac (r : Nat) : List UInt8 := if Lib.trimRightB (Lib.repeatL [48] (4 - (Lib.decDigits r).length) ++ Lib.decDigits r) 48 = [] then [48] else Lib.trimRightB (Lib.repeatL [48] (4 - (Lib.decDigits r).length) ++ Lib.decDigits r) 48
def decText (n : Int) : List UInt8 := (if n < 0 then [45] else []) ++ Lib.decDigits (n.natAbs / 10000) ++ [46] ++ frac (n.natAbs % 10000)
def T (p : List Int) : ByteArray := ⟨(u8s p).toArray⟩
theorem T_size (p : List Int) : (T p).size = (u8s p).length := by simp [T, ByteArray.size]
theorem T_data (p : List Int) : (T p).data.toList = u8s p := by simp [T]
theorem dec_at (p q : List Int) (n : Int) (hn : Scal n) : Utf8.decode (T (p ++ n :: q)) (u8s p).length = (n.toNat, (enc n).length) := by
 rw [← decodeL_drop, T_data, u8s_append, List.drop_left, u8s_cons]
 exact dec_enc hn _
theorem pts_at : ∀ (q p : List Int) (k : Nat), (∀ x ∈ p ++ q, Scal x) → (u8s q).length ≤ k → pts (T (p ++ q)) k (u8s p).length = q
 | [], p, 0, h, hk => rfl
 | [], p, k + 1, h, hk => by
  rw [pts, if_neg (by rw [T_size]; simp)]
 | n :: q, p, 0, h, hk => by
  have := enc_len (h n (by simp))
  rw [u8s_cons, List.length_append] at hk
  omega
 | n :: q, p, k + 1, h, hk => by
  have hn := h n (by simp)
  have hl := enc_len hn
  rw [u8s_cons, List.length_append] at hk
  rw [pts, if_pos (by rw [T_size, u8s_append, u8s_cons]; simp; omega), dec_at p q n hn]
  have e : p ++ n :: q = (p ++ [n]) ++ q := by simp
  have e2 : (u8s p).length + (enc n).length = (u8s (p ++ [n])).length := by rw [u8s_append, u8s_cons]; simp [u8s_nil]
  simp only
  rw [e, e2, pts_at q (p ++ [n]) k (by rw [← e]; exact h) (by omega)]
  congr 1
  have : 0 ≤ n := by unfold Scal at hn; omega
  show ((n.toNat : Nat) : Int) = n
  omega
theorem pts_eq (p : List Int) (h : ∀ x ∈ p, Scal x) : pts (T p) (T p).size 0 = p := pts_at p [] _ h (by rw [T_size]; exact Nat.le_refl _)
theorem count_at : ∀ (q p : List Int) (k : Nat), (∀ x ∈ p ++ q, Scal x) → (u8s q).length ≤ k → runeCountFrom (T (p ++ q)) k (u8s p).length = q.length
 | [], p, 0, h, hk => rfl
 | [], p, k + 1, h, hk => by
  rw [runeCountFrom, if_neg (by rw [T_size]; simp)]; rfl
 | n :: q, p, 0, h, hk => by
  have := enc_len (h n (by simp))
  rw [u8s_cons, List.length_append] at hk
  omega
 | n :: q, p, k + 1, h, hk => by
  have hn := h n (by simp)
  have hl := enc_len hn
  rw [u8s_cons, List.length_append] at hk
  rw [runeCountFrom, if_pos (by rw [T_size, u8s_append, u8s_cons]; simp; omega), dec_at p q n hn]
  have e : p ++ n :: q = (p ++ [n]) ++ q := by simp
  have e2 : (u8s p).length + (enc n).length = (u8s (p ++ [n])).length := by rw [u8s_append, u8s_cons]; simp [u8s_nil]
  simp only
  rw [e, e2, count_at q (p ++ [n]) k (by rw [← e]; exact h) (by omega)]
  simp; omega
theorem count_eq (p : List Int) (h : ∀ x ∈ p, Scal x) : runeCount (T p) = p.length := count_at p [] _ h (by rw [T_size]; exact Nat.le_refl _)
theorem piece_eq (p : List Int) (h : ∀ x ∈ p, Scal x) (a n : Int) : pieceB (T p) a n = T ((p.drop (from_ p a)).take (cnt p a n)) := by
 unfold pieceB
 rw [pts_eq p h, runes_u8s]; rfl
def Ok (p : List Int) : Prop := (∀ x ∈ p, Scal x) ∧ (u8s p).length ≤ 1024
theorem u8s_take (p : List Int) (n : Nat) : (u8s (p.take n)).length ≤ (u8s p).length := by
 have e : u8s p = u8s (p.take n) ++ u8s (p.drop n) := by rw [← u8s_append, List.take_append_drop]
 rw [e]; simp
theorem u8s_drop (p : List Int) (n : Nat) : (u8s (p.drop n)).length ≤ (u8s p).length := by
 have e : u8s p = u8s (p.take n) ++ u8s (p.drop n) := by rw [← u8s_append, List.take_append_drop]
 rw [e]; simp
theorem Ok.part {p : List Int} (h : Ok p) (i n : Nat) : Ok ((p.drop i).take n) :=
 ⟨fun x hx => h.1 x (List.mem_of_mem_drop (List.mem_of_mem_take hx)), Nat.le_trans (u8s_take _ _) (Nat.le_trans (u8s_drop _ _) h.2)⟩
theorem Ok.left {p q : List Int} (h : Ok (p ++ q)) : Ok p := ⟨fun x hx => h.1 x (by simp [hx]), by have := h.2; rw [u8s_append] at this; simp at this; omega⟩
theorem Ok.right {p q : List Int} (h : Ok (p ++ q)) : Ok q := ⟨fun x hx => h.1 x (by simp [hx]), by have := h.2; rw [u8s_append] at this; simp at this; omega⟩
theorem valid_pts {l : List UInt8} (h : validD l = true) : ∃ p : List Int, (∀ x ∈ p, Scal x) ∧ l = u8s p := valid_split l.length l (Nat.le_refl _) h
theorem data_T {s : ByteArray} {p : List Int} (h : s.data.toList = u8s p) : s = T p := by
 apply bytes_inj
 rw [T_data]; exact h
end
end Go.Proofs.YtaiokpmmjbiajaaGreatDoorTxt
namespace Go.Proofs.YtaiokpmmjbiajaaGreatDoorDx.Fit
section
open Go
abbrev is (s : ByteArray) (l : List UInt8) : Bool := eqU s.data.toList l
def textV (t : ByteArray) : W3 × Int := bif decide (Int.ofNat t.data.toList.length > 1024) then (v0, 20) else ((4, 0, t), 0)
def rndP (s : ByteArray) (v : W3) : W3 × Int := bif v.1 == 2 then (v, 0) else ((2, A80.rnd s v.2.1, ⟨#[]⟩), 0)
def chosenP (s : ByteArray) (l : List W3) : W3 × Int := bif (A34.best s l).1 != 0 then (v0, (A34.best s l).1) else ((A34.best s l).2, 0)
def signI (n : Int) : Int := bif decide (n < 0) then -1 else bif decide (n > 0) then 1 else 0
def textL (k n : Int) (s : ByteArray) : List UInt8 :=
 bif !A33.okv k n s then [] else bif k == 0 then [110, 117, 108, 108] else bif k == 1 then (bif n == 1 then [116, 114, 117, 101] else [102, 97, 108, 115, 101])
 else bif k == 2 then Lib.itoa n else bif k == 3 then _root_.Go.Proofs.YtaiokpmmjbiajaaGreatDoorTxt.decText n else [39] ++ Lib.replaceAll s.data.toList [39] [39, 39] ++ [39]
def showB (k n : Int) (s : ByteArray) : ByteArray := ⟨(textL k n s).toArray⟩
def callV (s : ByteArray) (l : List W3) : W3 × Int :=
 let v := l.headD v0
 bif is s [97, 98, 115] then (bif decide (v.2.1 < 0) then A79.negV v.1 v.2.1 else (v, 0)) else
 bif is s [99, 101, 105, 108] then rndP s v else
 bif is s [102, 108, 111, 111, 114] then rndP s v else
 bif is s [114, 111, 117, 110, 100] then rndP s v else
 bif is s [115, 105, 103, 110] then ((2, signI v.2.1, ⟨#[]⟩), 0) else
 bif is s [116, 111, 105, 110, 116] then A82.intV v.1 v.2.1 else
 bif is s [116, 111, 100, 101, 99] then A75.decV v.1 v.2.1 else
 bif is s [103, 114, 101, 97, 116, 101, 115, 116] then chosenP s l else
 bif is s [108, 101, 97, 115, 116] then chosenP s l else
 bif is s [108, 101, 110, 103, 116, 104] then ((2, Int.ofNat (Lib.runeCount v.2.2), ⟨#[]⟩), 0) else
 bif is s [108, 111, 119, 101, 114] then textV (_root_.Go.Proofs.YtaiokpmmjbiajaaGreatDoorTxt.casedB 65 90 32 v.2.2) else
 bif is s [117, 112, 112, 101, 114] then textV (_root_.Go.Proofs.YtaiokpmmjbiajaaGreatDoorTxt.casedB 97 122 (-32) v.2.2) else
 bif is s [116, 114, 105, 109] then textV ⟨(Lib.trimB v.2.2.data.toList 32).toArray⟩ else
 bif is s [115, 117, 98, 115, 116, 114] then textV (_root_.Go.Proofs.YtaiokpmmjbiajaaGreatDoorTxt.pieceB v.2.2 (l.getD 1 v0).2.1 (l.getD 2 v0).2.1) else
 bif is s [116, 111, 116, 101, 120, 116] then (bif v.1 == 4 then (v, 0) else textV (showB v.1 v.2.1 v.2.2)) else
 textV (A37L0.cat l)
def rP (b : Bool) (k : Int) : Int × Int := bif b then (k, 0) else (0, 100)
def kindP (s : ByteArray) (l : List Int) : Int × Int :=
 bif l.any A14L0.bad then rP false 0 else
 bif eqU s.data.toList [97, 98, 115] then rP (A14.num l) (l.headD 0) else
 bif eqU s.data.toList [99, 101, 105, 108] then rP (A14.num l) 2 else
 bif eqU s.data.toList [102, 108, 111, 111, 114] then rP (A14.num l) 2 else
 bif eqU s.data.toList [114, 111, 117, 110, 100] then rP (A14.num l) 2 else
 bif eqU s.data.toList [115, 105, 103, 110] then rP (A14.num l) 2 else
 bif eqU s.data.toList [116, 111, 105, 110, 116] then rP (A14.num l) 2 else
 bif eqU s.data.toList [116, 111, 100, 101, 99] then rP (A14.num l) 3 else
 bif eqU s.data.toList [99, 111, 97, 108, 101, 115, 99, 101] then rP ((A53.res l).2 && decide (Int.ofNat l.length ≥ 1)) (A53.res l).1 else
 bif eqU s.data.toList [103, 114, 101, 97, 116, 101, 115, 116] then rP ((A53.res l).2 && decide (Int.ofNat l.length ≥ 1)) (A53.res l).1 else
 bif eqU s.data.toList [108, 101, 97, 115, 116] then rP ((A53.res l).2 && decide (Int.ofNat l.length ≥ 1)) (A53.res l).1 else
 bif eqU s.data.toList [110, 117, 108, 108, 105, 102] then rP (Int.ofNat l.length == 2 && (A53.res l).2) (l.headD 0) else
 bif eqU s.data.toList [99, 111, 110, 99, 97, 116] then rP (l.foldl (fun b k => b && A14L1.ok1 k) (decide (Int.ofNat l.length ≥ 1))) 4 else
 bif eqU s.data.toList [108, 101, 110, 103, 116, 104] then rP (A14.txt l) 2 else
 bif eqU s.data.toList [108, 111, 119, 101, 114] then rP (A14.txt l) 4 else
 bif eqU s.data.toList [117, 112, 112, 101, 114] then rP (A14.txt l) 4 else
 bif eqU s.data.toList [116, 114, 105, 109] then rP (A14.txt l) 4 else
 bif eqU s.data.toList [116, 111, 116, 101, 120, 116] then rP (Int.ofNat l.length == 1) 4 else
 bif eqU s.data.toList [115, 117, 98, 115, 116, 114] then rP (A14.sub l) 4 else
 rP false 0
def two (p : Int × Int) : Value := .tuple #[.int .i64 p.1, .int .i64 p.2]
theorem two_r (b : Bool) (k : Int) : two (rP b k) = A14.r b k := by cases b <;> rfl
theorem kindV_two (s : ByteArray) (l : List Int) : A14.kindV s l = two (kindP s l) := by
 unfold kindP A14.kindV
 simp only [Bool.apply_cond two, two_r]
def CallV (s : ByteArray) (l : List W3) : W3 × Int :=
 bif (kindP s (l.map (·.1))).2 != 0 then (v0, (kindP s (l.map (·.1))).2) else
 bif l.any A10L1.bad then (v0, 22) else
 bif is s [99, 111, 97, 108, 101, 115, 99, 101] then chosenP s l else
 bif is s [110, 117, 108, 108, 105, 102] then
  (bif A35.tru (bif (l.headD v0).1 == 0 || (l.getD 1 v0).1 == 0 then 0 else 1) (bif (A76.compare (l.headD v0).1 (l.headD v0).2.1 (l.headD v0).2.2 (l.getD 1 v0).1 (l.getD 1 v0).2.1 (l.getD 1 v0).2.2).2 && (A76.compare (l.headD v0).1 (l.headD v0).2.1 (l.headD v0).2.2 (l.getD 1 v0).1 (l.getD 1 v0).2.1 (l.getD 1 v0).2.2).1 == 0 then 1 else 0) then (v0, 0) else (l.headD v0, 0)) else
 bif (l.map (·.1)).any (· == 0) then (v0, 0) else callV s l
end
end Go.Proofs.YtaiokpmmjbiajaaGreatDoorDx.Fit
namespace Go.Proofs.YtaiokpmmjbiajaaGreatDoorDx
section
open Go Go.Proofs
theorem SpecOk.to {P : Program} {La : World → Prop} {f : FuncId} {sp sp' : Spec} (h : SpecOk P La f sp) (e : ∀ aa t' v, sp' aa = some t' → t'.eval = some v → ∃ t, sp aa = some t ∧ t.eval = some v) : SpecOk P La f sp' :=
 ⟨h.1, fun aa t' v h1 h2 => by
  obtain ⟨t, h3, h4⟩ := e aa t' v h1 h2
  exact h.2 aa t v h3 h4⟩
def spec85 : Spec := fun aa => match aa with
 | [.v (.string s), .v (.int .u8 a), .v (.int .u8 b), .v (.int .i64 d)] => some (.need (Nat.ble s.data.toList.length 9223372036854775807 && (decide (-1000 ≤ d) && decide (d ≤ 1000))) (.out (.string (_root_.Go.Proofs.YtaiokpmmjbiajaaGreatDoorTxt.casedB a b d s))))
 | _ => none
def spec87 : Spec := fun aa => match aa with
 | [.v (.string s), .v (.int .i64 a), .v (.int .i64 b)] => some (.need (Nat.ble s.data.toList.length 70368744177664 && (inR a && inR b)) (.out (.string (_root_.Go.Proofs.YtaiokpmmjbiajaaGreatDoorTxt.pieceB s a b))))
 | _ => none
def spec88 : Spec := fun aa => match aa with
 | [a] => (vOf a).bind fun x => some (.need (Nat.ble x.2.2.data.toList.length 9223372036854775807 && inR x.2.1) (.out (.string (Fit.showB x.1 x.2.1 x.2.2))))
 | _ => none
namespace A83
def rc (s : ByteArray) : Int := Int.ofNat (Lib.runeCount s)
def spec : Spec := fun aa => match aa with
 | [.v (.string a)] => some (.need (Nat.blt a.data.toList.length 9223372036854775807) (.out (.int .i64 (rc a))))
 | _ => none
theorem spec_ok : SpecOk Tryz.prog La 83 spec := spec83_ok.to fun aa t' v h1 h2 => by
 unfold spec at h1
 split at h1
 ·cases h1; exact ⟨_, rfl, h2⟩
 ·cases h1
end A83
namespace A80
theorem rounded_ve (s : ByteArray) (k n : Int) (t : ByteArray) : rounded s k n t = ve (Fit.rndP s (k, n, t)) := by
 unfold rounded Fit.rndP
 cases h : k == 2
 ·rfl
 ·rfl
def specP : Spec := fun aa => match aa with
 | [.v (.string s), a] => (vOf a).bind fun x => some (.out (ve (Fit.rndP s x)))
 | _ => none
theorem specP_ok : SpecOk Tryz.prog La 80 specP := spec_ok.to fun aa t' v h1 h2 => by
 unfold specP at h1
 split at h1
 ·rename_i s a
  obtain ⟨x, h3, h4⟩ := opt_bind h1
  cases h4
  refine ⟨.out (rounded s x.1 x.2.1 x.2.2), ?_, ?_⟩
  ·show ((vOf a).bind fun x => some (GT.out (rounded s x.1 x.2.1 x.2.2))) = _
   rw [h3]; rfl
  ·rw [rounded_ve]; exact h2
 ·cases h1
end A80
namespace A34
theorem chosen_ve (s : ByteArray) (l : List W3) : chosenV s l = ve (Fit.chosenP s l) := by
 unfold chosenV Fit.chosenP
 cases h : (best s l).1 != 0 <;> rfl
def specP : Spec := fun aa => match aa with
 | [.v (.string s), .sl n 3 cs] => some (.need (rowW n (Int.ofNat n) cs && (valsOf cs).all (fun v => inR v.2.1)) (.out (ve (Fit.chosenP s (valsOf cs)))))
 | _ => none
theorem specP_ok : SpecOk Tryz.prog La 34 specP := spec_ok.to fun aa t' v h1 h2 => by
 unfold specP at h1
 split at h1
 ·rename_i s n cs
  cases h1
  rw [← chosen_ve] at h2
  exact ⟨_, rfl, h2⟩
 ·cases h1
end A34
namespace A36
def eqK (a b : W3) : Int := bif a.1 == 0 || b.1 == 0 then 0 else 1
def eqN (a b : W3) : Int := bif a.1 == 0 || b.1 == 0 then 0 else bif (A76.compare a.1 a.2.1 a.2.2 b.1 b.2.1 b.2.2).2 && (A76.compare a.1 a.2.1 a.2.2 b.1 b.2.1 b.2.2).1 == 0 then 1 else 0
theorem eqv_eq (a b : W3) : eqv a.1 a.2.1 a.2.2 b.1 b.2.1 b.2.2 = .agg #[.int .i64 (eqK a b), .int .i64 (eqN a b), .string ⟨#[]⟩] := by
 unfold eqv eqK eqN
 cases a.1 == 0 || b.1 == 0
 ·cases (A76.compare a.1 a.2.1 a.2.2 b.1 b.2.1 b.2.2).2 && (A76.compare a.1 a.2.1 a.2.2 b.1 b.2.1 b.2.2).1 == 0 <;> rfl
 ·rfl
def specP : Spec := fun aa => match aa with
 | [a, b] => (vOf a).bind fun x => (vOf b).bind fun y => some (.out (.agg #[.int .i64 (eqK x y), .int .i64 (eqN x y), .string ⟨#[]⟩]))
 | _ => none
theorem specP_ok : SpecOk Tryz.prog La 36 specP := spec_ok.to fun aa t' v h1 h2 => by
 unfold specP at h1
 split at h1
 ·rename_i a b
  obtain ⟨x, h3, h1⟩ := opt_bind h1
  obtain ⟨y, h4, h1⟩ := opt_bind h1
  cases h1
  refine ⟨.out (eqv x.1 x.2.1 x.2.2 y.1 y.2.1 y.2.2), ?_, ?_⟩
  ·show ((vOf a).bind fun x => (vOf b).bind fun y => some (GT.out (eqv x.1 x.2.1 x.2.2 y.1 y.2.1 y.2.2))) = _
   rw [h3, h4]; rfl
  ·rw [eqv_eq]; exact h2
 ·cases h1
end A36
namespace A14
def specP : Spec := fun aa => match aa with
 | [.v (.string s), .sl n 1 cs] => some (.need (rowI n (Int.ofNat n) cs) (.out (Fit.two (Fit.kindP s (cs.map valI)))))
 | [.v (.string s), .nil] => some (.out (Fit.two (0, 100)))
 | _ => none
theorem specP_ok : SpecOk Tryz.prog La 14 specP := spec_ok.to fun aa t' v h1 h2 => by
 unfold specP at h1
 split at h1
 ·cases h1
  rw [← Fit.kindV_two] at h2
  exact ⟨_, rfl, h2⟩
 ·cases h1
  exact ⟨_, rfl, h2⟩
 ·cases h1
end A14
end
end Go.Proofs.YtaiokpmmjbiajaaGreatDoorDx
namespace Go.Proofs.YtaiokpmmjbiajaaGreatDoorDx.Fit
section
open Go
theorem eqU_eq : ∀ {a b : List UInt8}, eqU a b = true → a = b
 | [], [], _ => rfl
 | [], _ :: _, h => by cases h
 | _ :: _, [], h => by cases h
 | x :: a, y :: b, h => by
  unfold eqU at h
  simp only [Bool.and_eq_true] at h
  rw [UInt8.toNat_inj.1 (Nat.eq_of_beq_eq_true h.1), eqU_eq h.2]
theorem is_eq {s : ByteArray} {l : List UInt8} (h : is s l = true) : s = ⟨l.toArray⟩ := by
 obtain ⟨a⟩ := s
 have := eqU_eq h
 simp only at this
 rw [← this]
theorem eqU_refl : ∀ a : List UInt8, eqU a a = true
 | [] => rfl
 | x :: a => by unfold eqU; rw [Nat.beq_refl, eqU_refl a]; rfl
theorem okv_numS {k n : Int} {s : ByteArray} (h : k = 2 ∨ k = 3) (ho : A33.okv k n s = true) : s = ⟨#[]⟩ := by
 rcases h with rfl | rfl <;> exact is_eq (l := []) ho
theorem okv_textS {n : Int} {s : ByteArray} (ho : A33.okv 4 n s = true) : n = 0 ∧ s.data.toList.length ≤ 1024 ∧ Lib.validD s.data.toList = true := by
 have h : (n == 0 && (decide (s.data.toList.length ≤ 1024) && Lib.validD s.data.toList)) = true := ho
 simp only [Bool.and_eq_true, decide_eq_true_eq, beq_iff_eq] at h
 exact ⟨h.1, h.2.1, h.2.2⟩
theorem num_of {l : List Int} (h : A14.num l = true) : ∃ k, l = [k] ∧ (k = 0 ∨ k = 2 ∨ k = 3) := by
 unfold A14.num at h
 split at h
 ·rename_i a
  simp only [Bool.or_eq_true, beq_iff_eq] at h
  exact ⟨a, rfl, h⟩
 ·cases h
theorem txt_of {l : List Int} (h : A14.txt l = true) : ∃ k, l = [k] ∧ (k = 0 ∨ k = 4) := by
 unfold A14.txt at h
 split at h
 ·rename_i a
  simp only [Bool.or_eq_true, beq_iff_eq] at h
  exact ⟨a, rfl, h⟩
 ·cases h
theorem sub_of {l : List Int} (h : A14.sub l = true) : ∃ a b c, l = [a, b, c] ∧ (a = 0 ∨ a = 4) := by
 unfold A14.sub at h
 split at h
 ·rename_i a b c
  simp only [Bool.or_eq_true, Bool.and_eq_true, beq_iff_eq] at h
  exact ⟨a, b, c, rfl, h.1⟩
 ·cases h
theorem map_one {l : List W3} {k : Int} (h : l.map (·.1) = [k]) : ∃ v, l = [v] ∧ v.1 = k := by
 match l, h with
 | [v], h => exact ⟨v, rfl, by simpa using h⟩
def Ok5 (k : Int) : Prop := k = 0 ∨ k = 1 ∨ k = 2 ∨ k = 3 ∨ k = 4
def Inv (p : Int × Bool × Bool) (l : List Int) : Prop := Ok5 p.1 ∧ (p.2.1 = true → ∀ k ∈ l, k = 0 ∨ k = p.1) ∧ (p.2.2 = true → (p.1 = 0 ∨ p.1 = 2 ∨ p.1 = 3) ∧ ∀ k ∈ l, k = 0 ∨ ((k = 2 ∨ k = 3) ∧ k ≤ p.1)) ∧ (p.1 = 0 → ∀ k ∈ l, k = 0)
theorem step_inv {p : Int × Bool × Bool} {l : List Int} {k : Int} (h : Inv p l) (hk : Ok5 k) : Inv (A53.step p k) (l ++ [k]) := by
 obtain ⟨a, b, c⟩ := p
 obtain ⟨h1, h2, h3, h4⟩ := h
 simp only at h1 h2 h3 h4
 unfold A53.step
 cases hz : k == 0
 ·have hz : k ≠ 0 := beq_eq_false_iff_ne.1 hz
  simp only [cond_false]
  have hm : (if k > a then k else a) ≥ k ∧ (if k > a then k else a) ≥ a ∧ ((if k > a then k else a) = k ∨ (if k > a then k else a) = a) := by split <;> omega
  generalize (if k > a then k else a) = m at hm
  unfold Ok5 at hk h1
  refine ⟨?_, fun h => ?_, fun h => ?_, fun h => ?_⟩
  ·show Ok5 m; unfold Ok5; omega
  ·simp only [Bool.and_eq_true, Bool.or_eq_true, beq_iff_eq] at h
   obtain ⟨hb, he⟩ := h
   intro x hx
   show x = 0 ∨ x = m
   rcases List.mem_append.1 hx with hx | hx
   ·rcases h2 hb x hx with e | e
    ·exact .inl e
    ·rcases he with e2 | e2 <;> omega
   ·rw [List.mem_singleton] at hx
    rcases he with e2 | e2 <;> omega
  ·simp only [Bool.and_eq_true, Bool.or_eq_true, beq_iff_eq] at h
   obtain ⟨hb, he⟩ := h
   obtain ⟨g1, g2⟩ := h3 hb
   refine ⟨by show m = 0 ∨ m = 2 ∨ m = 3; omega, fun x hx => ?_⟩
   show x = 0 ∨ ((x = 2 ∨ x = 3) ∧ x ≤ m)
   rcases List.mem_append.1 hx with hx | hx
   ·rcases g2 x hx with e | e
    ·exact .inl e
    ·right; omega
   ·rw [List.mem_singleton] at hx
    subst hx
    exact .inr ⟨he, hm.1⟩
  ·exact absurd h (by show ¬ m = 0; omega)
 ·have hz : k = 0 := beq_iff_eq.1 hz
  subst hz
  simp only [cond_true]
  refine ⟨h1, fun h x hx => ?_, fun h => ⟨(h3 h).1, fun x hx => ?_⟩, fun h x hx => ?_⟩
  ·rcases List.mem_append.1 hx with hx | hx
   ·exact h2 h x hx
   ·rw [List.mem_singleton] at hx; exact .inl hx
  ·rcases List.mem_append.1 hx with hx | hx
   ·exact (h3 h).2 x hx
   ·rw [List.mem_singleton] at hx; exact .inl hx
  ·rcases List.mem_append.1 hx with hx | hx
   ·exact h4 h x hx
   ·rw [List.mem_singleton] at hx; exact hx
theorem fold_inv : ∀ (r l : List Int) (p : Int × Bool × Bool), Inv p l → (∀ k ∈ r, Ok5 k) → Inv (r.foldl A53.step p) (l ++ r)
 | [], l, p, h, _ => by rw [List.append_nil]; exact h
 | k :: r, l, p, h, hr => by
  have := fold_inv r (l ++ [k]) (A53.step p k) (step_inv h (hr k (by simp))) fun x hx => hr x (by simp [hx])
  rw [List.append_assoc] at this
  exact this
theorem alike_fit {l : List Int} (h5 : ∀ k ∈ l, Ok5 k) (h : (A53.res l).2 = true) : ∀ k ∈ l, k = 0 ∨ k = (A53.res l).1 ∨ ((A53.res l).1 = 3 ∧ (k = 2 ∨ k = 3)) := by
 have hi : Inv (A53.alike l) l := fold_inv l [] (0, true, true) ⟨.inl rfl, (fun _ k hk => by cases hk), (fun _ => ⟨.inl rfl, fun k hk => by cases hk⟩), (fun _ k hk => by cases hk)⟩ h5
 obtain ⟨h1, h2, h3, h4⟩ := hi
 unfold A53.res at h ⊢
 simp only [Bool.or_eq_true] at h
 intro k hk
 rcases h with h | h
 ·rcases h2 h k hk with e | e
  ·exact .inl e
  ·exact .inr (.inl e)
 ·obtain ⟨g1, g2⟩ := h3 h
  rcases g2 k hk with e | ⟨e1, e2⟩
  ·exact .inl e
  ·show k = 0 ∨ k = (A53.alike l).1 ∨ ((A53.alike l).1 = 3 ∧ (k = 2 ∨ k = 3))
   omega
theorem decV_fit {k n : Int} (h : k = 2 ∨ k = 3) : (A75.decV k n).2 = 0 → (A75.decV k n).1.1 = 3 ∧ (A75.decV k n).1.2.2 = ⟨#[]⟩ := by
 unfold A75.decV
 rw [if_neg (by omega), if_pos h]
 split
 ·intro _; exact ⟨rfl, rfl⟩
 ·intro h; cases h
theorem catB_data (a b : ByteArray) : (A37L0.catB a b).data.toList = a.data.toList ++ b.data.toList := by unfold A37L0.catB; rw [List.toList_toArray]
theorem Ok5_of {l : List Int} (h : l.any A14L0.bad = false) : ∀ k ∈ l, Ok5 k := by
 intro k hk
 have := (List.any_eq_false.1 h) k hk
 unfold A14L0.bad at this
 unfold Ok5
 simp at this
 omega
theorem okv_of {l : List W3} (h : l.any A10L1.bad = false) : ∀ v ∈ l, A33.okv v.1 v.2.1 v.2.2 = true := by
 intro v hv
 have := (List.any_eq_false.1 h) v hv
 unfold A10L1.bad at this
 simpa using this
theorem nonnull {l : List W3} (h : (l.map (fun v : W3 => v.1)).any (· == 0) = false) : ∀ v ∈ l, v.1 ≠ 0 := by
 intro v hv e
 have := (List.any_eq_false.1 h) v.1 (List.mem_map_of_mem hv)
 rw [e] at this
 exact this rfl
theorem rP0 {b : Bool} {k : Int} (h : (rP b k).2 = 0) : b = true ∧ (rP b k).1 = k := by
 cases b
 ·cases h
 ·exact ⟨rfl, rfl⟩
abbrev ks (l : List W3) : List Int := l.map (fun v : W3 => v.1)
section
variable {l : List W3} (hok : ∀ v ∈ l, A33.okv v.1 v.2.1 v.2.2 = true)
include hok
theorem one_num (hn : A14.num (ks l) = true) (hz : (ks l).any (· == 0) = false) : ∃ v, l = [v] ∧ (v.1 = 2 ∨ v.1 = 3) ∧ v.2.2 = ⟨#[]⟩ := by
 obtain ⟨k, e, hk⟩ := num_of hn
 obtain ⟨v, rfl, rfl⟩ := map_one e
 have h0 := nonnull hz v (by simp)
 have h2 : v.1 = 2 ∨ v.1 = 3 := by omega
 exact ⟨v, rfl, h2, okv_numS h2 (hok v (by simp))⟩
theorem one_txt (hn : A14.txt (ks l) = true) (hz : (ks l).any (· == 0) = false) : ∃ v, l = [v] ∧ v.1 = 4 ∧ v.2.2.data.toList.length ≤ 1024 ∧ Lib.validD v.2.2.data.toList = true := by
 obtain ⟨k, e, hk⟩ := txt_of hn
 obtain ⟨v, rfl, rfl⟩ := map_one e
 have h0 := nonnull hz v (by simp)
 have h4 : v.1 = 4 := by omega
 have ho := hok v (by simp)
 rw [h4] at ho
 exact ⟨v, rfl, h4, (okv_textS ho).2⟩
end
end
end Go.Proofs.YtaiokpmmjbiajaaGreatDoorDx.Fit
namespace Go.Proofs.YtaiokpmmjbiajaaGreatDoorDx
section
open Go Go.Proofs
open Go.Proofs.YtaiokpmmjbiajaaGreatDoor.PLeaf
theorem len_size (s : ByteArray) : s.data.toList.length = s.size := by rw [Array.length_toList]; rfl
theorem ok85 : SpecOk Tryz.prog La 85 spec85 := spec_lib (by kernel_rfl) fun aa t v h e => by
 unfold spec85 at h
 split at h
 ·rename_i s a b d
  cases h
  obtain ⟨g1, g2⟩ := GT.need_eval e
  cases g2
  simp only [Bool.and_eq_true, decide_eq_true_eq, Nat.ble_eq, len_size] at g1
  refine ⟨[.string s, .int .u8 a, .int .u8 b, .int .i64 d], rfl, rfl, fun W hW => funcs_cased.calls s a b d (_root_.Go.Proofs.YtaiokpmmjbiajaaGreatDoorTxt.casedB a b d s) W ?_⟩
  unfold funcs_cased.f
  rw [if_pos g1.1, if_pos g1.2.1, if_pos g1.2.2]
  rfl
 ·cases h
theorem ok87 : SpecOk Tryz.prog La 87 spec87 := spec_lib (by kernel_rfl) fun aa t v h e => by
 unfold spec87 at h
 split at h
 ·rename_i s a b
  cases h
  obtain ⟨g1, g2⟩ := GT.need_eval e
  cases g2
  simp only [Bool.and_eq_true, inR, decide_eq_true_eq, Nat.ble_eq, len_size] at g1
  obtain ⟨h1, ⟨h2, h3⟩, h4, h5⟩ := g1
  refine ⟨[.string s, .int .i64 a, .int .i64 b], rfl, rfl, fun W hW => funcs_piece.calls s a b (_root_.Go.Proofs.YtaiokpmmjbiajaaGreatDoorTxt.pieceB s a b) W ?_⟩
  have e2 : ∀ (n i : Nat), funcs_piece.pts s n i = _root_.Go.Proofs.YtaiokpmmjbiajaaGreatDoorTxt.pts s n i := by
   intro n
   induction n with
   | zero => intro i; rfl
   | succ n ih => intro i; unfold funcs_piece.pts _root_.Go.Proofs.YtaiokpmmjbiajaaGreatDoorTxt.pts; rw [ih]
  unfold funcs_piece.f
  rw [if_pos h1, if_pos h2, if_pos (by omega), if_pos h4, if_pos (by omega)]
  unfold funcs_piece.g _root_.Go.Proofs.YtaiokpmmjbiajaaGreatDoorTxt.pieceB
  rw [e2]; rfl
 ·cases h
theorem check_f (k n : Int) (s : ByteArray) (hs : s.size ≤ 9223372036854775807) : value_Check.f k n s = some (if A33.okv k n s = true then 0 else 1) := by
 have he : eqU s.data.toList [] = decide (s.size = 0) := by
  rw [← len_size]
  cases s.data.toList <;> rfl
 unfold value_Check.f A33.okv
 rw [he]
 by_cases h0 : k = 0
 ·subst h0; simp
 by_cases h1 : k = 1
 ·subst h1; simp
 by_cases h2 : k = 2
 ·subst h2; simp
 by_cases h3 : k = 3
 ·subst h3; simp
 by_cases h4 : k = 4
 ·subst h4; simp [hs, and_assoc, len_size]
 ·simp [h0, h1, h2, h3, h4]
def quoteL : List UInt8 → List UInt8
 | [] => []
 | b :: l => if b = 39 then 39 :: 39 :: quoteL l else b :: quoteL l
theorem quoteL_replace : ∀ s : List UInt8, Lib.replaceK [39] [39, 39] (Lib.count s [39]) s = quoteL s
 | [] => rfl
 | b :: l => by
  have ih := quoteL_replace l
  by_cases hb : b = 39
  ·subst hb
   have hi : Lib.index (39 :: l) [39] = (0 : Nat) := by simp [Lib.index]
   rw [Lib.count_hit (by simp) hi, Nat.add_comm, Lib.replaceK_hit _ _ _ _ 0 hi]
   simp only [List.length_singleton, Nat.zero_add, List.drop_succ_cons, List.drop_zero, List.take_zero, List.nil_append]
   rw [ih, quoteL, if_pos rfl]
   rfl
  ·have hp : ([39] : List UInt8).isPrefixOf (b :: l) = false := by simp [List.isPrefixOf]; exact fun e => hb e.symm
   rw [quoteL, if_neg hb]
   by_cases hl : Lib.index l [39] = -1
   ·have hi : Lib.index (b :: l) [39] = -1 := by rw [Lib.index, hp, hl]; rfl
    rw [Lib.count_miss hi]
    rw [Lib.count_miss hl] at ih
    rw [← ih]
    rfl
   ·have hge := Lib.index_ge l [39]
    obtain ⟨i, hi⟩ : ∃ i : Nat, Lib.index l [39] = i := ⟨(Lib.index l [39]).toNat, by omega⟩
    have hi' : Lib.index (b :: l) [39] = ((i + 1 : Nat) : Int) := by
     rw [Lib.index, hp, hi]
     have : ¬ ((i : Int) == -1) = true := fun e => by have := beq_iff_eq.1 e; omega
     rw [if_neg this]
     simp
    rw [Lib.count_hit (by simp) hi', Nat.add_comm, Lib.replaceK_hit _ _ _ _ _ hi']
    rw [Lib.count_hit (by simp) hi, Nat.add_comm, Lib.replaceK_hit _ _ _ _ _ hi] at ih
    rw [← ih]
    simp [Nat.add_assoc]
theorem replaceAll_quote (s : List UInt8) : Lib.replaceAll s [39] [39, 39] = quoteL s := by
 unfold Lib.replaceAll Lib.replace Lib.replaceNum
 rw [if_neg (by decide), if_pos (.inl (by decide))]
 exact quoteL_replace s
theorem quoteL_len : ∀ s, (quoteL s).length ≤ 2 * s.length
 | [] => by simp [quoteL]
 | b :: l => by
  have := quoteL_len l
  unfold quoteL
  split <;> simp <;> omega
theorem show_f (k n : Int) (s : ByteArray) (hs : s.size ≤ 9223372036854775807) (hn : inR n = true) : value_Show.f k n s = some (Fit.showB k n s) := by
 unfold inR at hn
 simp only [Bool.and_eq_true, decide_eq_true_eq] at hn
 unfold value_Show.f Fit.showB Fit.textL
 rw [check_f k n s hs, Option.bind_some]
 cases ho : A33.okv k n s
 ·simp
 ·simp only [if_true, Bool.not_true, cond_false]
  by_cases h1 : k = 1
  ·subst h1
   by_cases h : n = 1
   ·subst h; rfl
   ·simp [h, beq_eq_false_iff_ne.2 h]
  by_cases h2 : k = 2
  ·subst h2
   simp [strconv_Itoa.f, hn.1, show n ≤ 9223372036854775807 by omega]
  by_cases h3 : k = 3
  ·subst h3
   simp [value_decimal.f, hn.1, show n ≤ 9223372036854775807 by omega]
   rfl
  by_cases h4 : k = 4
  ·subst h4
   obtain ⟨_, h5, h6⟩ := Fit.okv_textS ho
   rw [len_size] at h5
   have hq := quoteL_len s.data.toList
   rw [len_size] at hq
   have hc := Lib.count_le s.data.toList [39]
   rw [len_size] at hc
   have hrep : strings_ReplaceAll.f s ⟨#[39]⟩ ⟨#[39, 39]⟩ = some ⟨(quoteL s.data.toList).toArray⟩ := by
    unfold strings_ReplaceAll.f
    have s1 : (⟨#[39]⟩ : ByteArray).size = 1 := rfl
    have s2 : (⟨#[39, 39]⟩ : ByteArray).size = 2 := rfl
    rw [if_pos (by omega), s1, if_pos (by omega), s2, if_pos (by show s.size + Lib.count s.data.toList [39] * 2 ≤ _; omega)]
    show some (⟨(Lib.replaceAll s.data.toList [39] [39, 39]).toArray⟩ : ByteArray) = _
    rw [replaceAll_quote]
   have hqs : (⟨(quoteL s.data.toList).toArray⟩ : ByteArray).size = (quoteL s.data.toList).length := by simp [ByteArray.size]
   simp only [hrep, Option.bind_some]
   rw [if_neg (by decide), if_neg (by decide), if_neg (by decide), if_pos (by decide), if_pos (by rw [hqs]; omega)]
   refine congrArg some (WideShapes.bytes_inj ?_)
   rw [replaceAll_quote]
   simp
  have h0 : k = 0 := by
   unfold A33.okv at ho
   by_cases h0 : k = 0
   ·exact h0
   ·simp [beq_eq_false_iff_ne.2 h0, beq_eq_false_iff_ne.2 h1, beq_eq_false_iff_ne.2 h2, beq_eq_false_iff_ne.2 h3, beq_eq_false_iff_ne.2 h4] at ho
  subst h0
  rfl
def mayS : Spec := fun aa => match aa with
 | [a] => (vOf a).bind fun x => some (.out (.bool (A33.okv x.1 x.2.1 x.2.2)))
 | _ => none
theorem okB_eq (k n : Int) (s : ByteArray) : YtaiokpmmjbiajaaGreatDoor.Pure.okB k n s = A33.okv k n s := by
 have he : eqU s.data.toList [] = decide (s.size = 0) := by
  rw [← len_size]
  cases s.data.toList <;> rfl
 unfold YtaiokpmmjbiajaaGreatDoor.Pure.okB A33.okv
 rw [he]
 have hd : ∀ a b : Int, (a == b) = decide (a = b) := fun a b => by
  by_cases h : a = b
  ·rw [decide_eq_true h, beq_iff_eq.2 h]
  ·rw [decide_eq_false h, beq_eq_false_iff_ne.2 h]
 by_cases h0 : k = 0
 ·subst h0; simp [hd]
 by_cases h1 : k = 1
 ·subst h1; simp [hd]
 by_cases h2 : k = 2
 ·subst h2; simp
 by_cases h3 : k = 3
 ·subst h3; simp
 by_cases h4 : k = 4
 ·subst h4; simp [len_size, Bool.and_assoc, hd]
 ·simp [h0, h1, h2, h3, h4]
theorem ok15 : SpecOk Tryz.prog La 15 mayS := spec_lib (by kernel_rfl) fun aa t v h e => by
 unfold mayS at h
 split at h
 ·rename_i a
  obtain ⟨⟨k0, n0, s0⟩, h1, h⟩ := opt_bind h
  cases h; cases e
  rw [vOf_ok h1]
  refine ⟨[.agg #[.int .i64 k0, .int .i64 n0, .string s0]], rfl, rfl, fun W hW => marqueeref01_May.calls 9301 k0 n0 s0 (A33.okv k0 n0 s0) W ?_⟩
  rw [← okB_eq]
  exact YtaiokpmmjbiajaaGreatDoor.Pure.may_eq 0 k0 n0 s0
 ·cases h
theorem ok88 : SpecOk Tryz.prog La 88 spec88 := spec_lib (by kernel_rfl) fun aa t v h e => by
 unfold spec88 at h
 split at h
 ·rename_i a
  obtain ⟨⟨k0, n0, s0⟩, h1, h⟩ := opt_bind h
  cases h
  obtain ⟨g1, g2⟩ := GT.need_eval e
  cases g2
  simp only [Bool.and_eq_true, Nat.ble_eq, len_size] at g1
  rw [vOf_ok h1]
  exact ⟨[.agg #[.int .i64 k0, .int .i64 n0, .string s0]], rfl, rfl, fun W hW => value_Show.calls k0 n0 s0 (Fit.showB k0 n0 s0) W hW (show_f k0 n0 s0 g1.1 g1.2)⟩
 ·cases h
end
section
open Go Go.Proofs
namespace A37
def T (s0 : ByteArray) (m1 : Nat) (c1 : List Value) : GT Value := let x2 := A82.intV (rdI c1 0) (rdI c1 1); let x3 := A79.negV (rdI c1 0) (rdI c1 1); let x4 := A75.decV (rdI c1 0) (rdI c1 1); let x5 := Go.Lib.trimB (rdS c1 2).data.toList (32 : UInt8); let x6 := A37L0.cat (valsOf c1); let o1 : GT Value := (.out (.tuple ([.agg ([.int .i64 (rdI c1 0), .int .i64 (rdI c1 1), .string (rdS c1 2)]).toArray, .int .i64 0]).toArray)); let o2 : GT Value := (.out (.tuple ([.agg ([.int .i64 (Fit.rndP s0 (rdI c1 0, rdI c1 1, rdS c1 2)).1.1, .int .i64 (Fit.rndP s0 (rdI c1 0, rdI c1 1, rdS c1 2)).1.2.1, .string (Fit.rndP s0 (rdI c1 0, rdI c1 1, rdS c1 2)).1.2.2]).toArray, .int .i64 (Fit.rndP s0 (rdI c1 0, rdI c1 1, rdS c1 2)).2]).toArray)); let o3 : GT Value := (.br (([(true, AA.v (.string s0)), ((fun (cs : List Value) => ((0 + m1 * 3).ble cs.length && (List.take (m1 * 3) (List.drop 0 cs)).all scalV, AA.sl m1 3 (List.take (m1 * 3) (List.drop 0 cs)))) c1)]).all fun x => x.fst) (.br (((decide ((Int.ofNat m1) = (Int.ofNat m1)) && ((isVals (List.take (m1 * 3) (List.drop 0 c1))) && (Nat.beq (((((c1).drop 0)).take (m1 * 3))).length (m1 * 3) && Nat.blt m1 4398046511104))) && ((valsOf (List.take (m1 * 3) (List.drop 0 c1)))).all fun v => inR v.snd.fst)) (.out (.tuple ([.agg ([.int .i64 (Fit.chosenP s0 (valsOf (List.take (m1 * 3) (List.drop 0 c1)))).1.1, .int .i64 (Fit.chosenP s0 (valsOf (List.take (m1 * 3) (List.drop 0 c1)))).1.2.1, .string (Fit.chosenP s0 (valsOf (List.take (m1 * 3) (List.drop 0 c1)))).1.2.2]).toArray, .int .i64 (Fit.chosenP s0 (valsOf (List.take (m1 * 3) (List.drop 0 c1)))).2]).toArray)) .no) .no); let o4 : GT Value := (.out (.tuple ([.agg ([.int .i64 0, .int .i64 0, .string ⟨([]).toArray⟩]).toArray, .int .i64 20]).toArray)); (.br (Nat.blt 0 m1) (.br (isL c1 0 [(.i .i64), (.i .i64), .s]) (.br (eqU (s0).data.toList [97, 98, 115]) (.br (decide ((rdI c1 1) < 0)) (.out (.tuple ([.agg ([.int .i64 x3.1.1, .int .i64 x3.1.2.1, .string x3.1.2.2]).toArray, .int .i64 x3.2]).toArray)) o1) (.br (eqU (s0).data.toList [99, 101, 105, 108]) o2 (.br (eqU (s0).data.toList [102, 108, 111, 111, 114]) o2 (.br (eqU (s0).data.toList [114, 111, 117, 110, 100]) o2 (.br (eqU (s0).data.toList [115, 105, 103, 110]) (.br (decide ((rdI c1 1) < 0)) (.out (.tuple ([.agg ([.int .i64 2, .int .i64 (-1), .string ⟨([]).toArray⟩]).toArray, .int .i64 0]).toArray)) (.br (decide ((rdI c1 1) > 0)) (.out (.tuple ([.agg ([.int .i64 2, .int .i64 1, .string ⟨([]).toArray⟩]).toArray, .int .i64 0]).toArray)) (.out (.tuple ([.agg ([.int .i64 2, .int .i64 0, .string ⟨([]).toArray⟩]).toArray, .int .i64 0]).toArray)))) (.br (eqU (s0).data.toList [116, 111, 105, 110, 116]) (.out (.tuple ([.agg ([.int .i64 x2.1.1, .int .i64 x2.1.2.1, .string x2.1.2.2]).toArray, .int .i64 x2.2]).toArray)) (.br (eqU (s0).data.toList [116, 111, 100, 101, 99]) (.br ((inR (rdI c1 1))) (.out (.tuple ([.agg ([.int .i64 x4.1.1, .int .i64 x4.1.2.1, .string x4.1.2.2]).toArray, .int .i64 x4.2]).toArray)) .no) (.br (eqU (s0).data.toList [103, 114, 101, 97, 116, 101, 115, 116]) o3 (.br (eqU (s0).data.toList [108, 101, 97, 115, 116]) o3 (.br (eqU (s0).data.toList [108, 101, 110, 103, 116, 104]) (.br (Nat.blt ((rdS c1 2).data.toList).length 9223372036854775807) (.out (.tuple ([.agg ([.int .i64 2, .int .i64 (A83.rc (rdS c1 2)), .string ⟨([]).toArray⟩]).toArray, .int .i64 0]).toArray)) .no) (.br (eqU (s0).data.toList [108, 111, 119, 101, 114]) (.br ((Nat.ble ((rdS c1 2).data.toList).length 9223372036854775807 && true)) (.br (decide ((Int.ofNat ((Go.Proofs.YtaiokpmmjbiajaaGreatDoorTxt.casedB 65 90 32 (rdS c1 2)).data.toList).length) > 1024)) o4 (.out (.tuple ([.agg ([.int .i64 4, .int .i64 0, .string (Go.Proofs.YtaiokpmmjbiajaaGreatDoorTxt.casedB 65 90 32 (rdS c1 2))]).toArray, .int .i64 0]).toArray))) .no) (.br (eqU (s0).data.toList [117, 112, 112, 101, 114]) (.br ((Nat.ble ((rdS c1 2).data.toList).length 9223372036854775807 && true)) (.br (decide ((Int.ofNat ((Go.Proofs.YtaiokpmmjbiajaaGreatDoorTxt.casedB 97 122 (-32) (rdS c1 2)).data.toList).length) > 1024)) o4 (.out (.tuple ([.agg ([.int .i64 4, .int .i64 0, .string (Go.Proofs.YtaiokpmmjbiajaaGreatDoorTxt.casedB 97 122 (-32) (rdS c1 2))]).toArray, .int .i64 0]).toArray))) .no) (.br (eqU (s0).data.toList [116, 114, 105, 109]) (.br (Nat.ble ((rdS c1 2).data.toList).length 9223372036854775807) (.br (decide ((Int.ofNat (x5).length) > 1024)) o4 (.out (.tuple ([.agg ([.int .i64 4, .int .i64 0, .string ⟨(x5).toArray⟩]).toArray, .int .i64 0]).toArray))) .no) (.br (eqU (s0).data.toList [115, 117, 98, 115, 116, 114]) (.br (Nat.blt 1 m1) (.br (isV c1 4 (.i .i64)) (.br (Nat.blt 2 m1) (.br (isV c1 7 (.i .i64)) (.br ((Nat.ble ((rdS c1 2).data.toList).length 70368744177664 && ((inR (rdI c1 4)) && (inR (rdI c1 7))))) (.br (decide ((Int.ofNat ((Go.Proofs.YtaiokpmmjbiajaaGreatDoorTxt.pieceB (rdS c1 2) (rdI c1 4) (rdI c1 7)).data.toList).length) > 1024)) o4 (.out (.tuple ([.agg ([.int .i64 4, .int .i64 0, .string (Go.Proofs.YtaiokpmmjbiajaaGreatDoorTxt.pieceB (rdS c1 2) (rdI c1 4) (rdI c1 7))]).toArray, .int .i64 0]).toArray))) .no) .no) .no) .no) .no) (.br (eqU (s0).data.toList [116, 111, 116, 101, 120, 116]) (.br (((rdI c1 0) == 4)) o1 (.br ((Nat.ble ((rdS c1 2).data.toList).length 9223372036854775807 && (inR (rdI c1 1)))) (.br (decide ((Int.ofNat ((Fit.showB (rdI c1 0) (rdI c1 1) (rdS c1 2)).data.toList).length) > 1024)) o4 (.out (.tuple ([.agg ([.int .i64 4, .int .i64 0, .string (Fit.showB (rdI c1 0) (rdI c1 1) (rdS c1 2))]).toArray, .int .i64 0]).toArray))) .no)) (.br ((true && ([((1 : Nat), c1)]).all fun p => p.snd.all scalV)) (.br (((decide ((Int.ofNat m1) = (Int.ofNat m1)) && ((isVals c1) && (Nat.beq (c1).length (m1 * 3) && Nat.blt m1 4398046511104))) && ((valsOf c1)).all A37L0.shortT)) (.br (decide ((Int.ofNat (x6.data.toList).length) > 1024)) o4 (.out (.tuple ([.agg ([.int .i64 4, .int .i64 0, .string x6]).toArray, .int .i64 0]).toArray))) .no) .no)))))))))))))))) .no) .no)
set_option maxRecDepth 1000000 in
theorem run (s0 : ByteArray) (m1 : Nat) (c1 : List Value) : callK (cfgK Tryz.prog 4 (gpT [(34, A34.specP), (75, A75.spec), (79, A79.spec), (80, A80.specP), (82, A82.spec), (83, A83.spec), (85, spec85), (86, spec86), (87, spec87), (88, spec88)]) (ltT 4 [A37L0.lp])) (gpT [(34, A34.specP), (75, A75.spec), (79, A79.spec), (80, A80.specP), (82, A82.spec), (83, A83.spec), (85, spec85), (86, spec86), (87, spec87), (88, spec88)]) (ltT 4 [A37L0.lp]) 12 (.fn 37) (absVs 0 [.v (.string s0), .sl m1 3 c1]) ⟨absH 0 [.v (.string s0), .sl m1 3 c1], 4⟩ (fun o => some o.1) = (T s0 m1 c1).eval := by kernel_rfl
set_option maxRecDepth 1000000 in
theorem flat (s0 : ByteArray) (m1 : Nat) (c1 : List Value) : (T s0 m1 c1).allB (pfd 3) = true := by kernel_rfl
theorem at0 (l : List W3) (h : 0 < l.length) : l[0] = l.headD v0 := by cases l with
 | nil => cases h
 | cons v l => rfl
theorem atj (l : List W3) (j : Nat) (h : j < l.length) : l[j] = l.getD j v0 := by simp [List.getD_eq_getElem?_getD, h]
theorem head_mem (l : List W3) (h : 0 < l.length) : l.headD v0 ∈ l := by rw [← at0 l h]; exact List.getElem_mem h
theorem getD_mem (l : List W3) (j : Nat) (h : j < l.length) : l.getD j v0 ∈ l := by rw [← atj l j h]; exact List.getElem_mem h
def guard (s : ByteArray) (l : List W3) : Bool := l.all (fun v => inR v.2.1) && (l.all A37L0.shortT && (Nat.blt 0 l.length && (!eqU s.data.toList [115, 117, 98, 115, 116, 114] || Nat.blt 2 l.length)))
theorem textV_eq (t : ByteArray) : GT.eval (.br (decide (Int.ofNat t.data.toList.length > 1024)) (.out (.tuple ([.agg ([.int .i64 0, .int .i64 0, .string ⟨([]).toArray⟩]).toArray, .int .i64 20]).toArray)) (.out (.tuple ([.agg ([.int .i64 4, .int .i64 0, .string t]).toArray, .int .i64 0]).toArray))) = some (ve (Fit.textV t)) := by
 unfold Fit.textV
 cases h : decide (Int.ofNat t.data.toList.length > 1024) <;> simp only [GT.eval] <;> rfl
set_option maxHeartbeats 0 in
theorem T_ok (s : ByteArray) (l : List W3) (hl : l.length < 4398046511104) (hg : guard s l = true) : (T s l.length (vals l)).eval = some (ve (Fit.callV s l)) := by
 unfold guard at hg
 simp only [Bool.and_eq_true] at hg
 obtain ⟨hin, hsh, h0, h3⟩ := hg
 have h0' : 0 < l.length := by rwa [Nat.blt_eq] at h0
 have hs1 : ∀ v ∈ l, v.2.2.data.toList.length ≤ 1024 := fun v hv => Nat.le_of_ble_eq_true (List.all_eq_true.1 hsh v hv)
 have hi1 : ∀ v ∈ l, inR v.2.1 = true := fun v hv => List.all_eq_true.1 hin v hv
 have q0 : rdI (vals l) 0 = (l.headD v0).1 := by have := rdI_vals l h0'; rw [at0 l h0'] at this; exact this
 have q1 : rdI (vals l) 1 = (l.headD v0).2.1 := by have := rdI_vals1 l h0'; rw [at0 l h0'] at this; exact this
 have q2 : rdS (vals l) 2 = (l.headD v0).2.2 := by have := rdS_vals l h0'; rw [at0 l h0'] at this; exact this
 have q3 : isL (vals l) 0 [.i .i64, .i .i64, .s] = true := isL_vals l h0'
 have e2 : Nat.ble (l.headD v0).2.2.data.toList.length 9223372036854775807 = true := by have := hs1 _ (head_mem l h0'); rw [Nat.ble_eq]; omega
 have e3 : Nat.blt (l.headD v0).2.2.data.toList.length 9223372036854775807 = true := by have := hs1 _ (head_mem l h0'); rw [Nat.blt_eq]; omega
 have e4 : Nat.ble (l.headD v0).2.2.data.toList.length 70368744177664 = true := by have := hs1 _ (head_mem l h0'); rw [Nat.ble_eq]; omega
 have e5 : inR (l.headD v0).2.1 = true := hi1 _ (head_mem l h0')
 have a1 : (true && [((1 : Nat), vals l)].all fun p => p.2.all scalV) = true := by simp [vals_scal]
 have a3 : ((vals l).drop 0).take (l.length * 3) = vals l := by rw [List.drop_zero]; exact List.take_of_length_le (by rw [vals_len]; exact Nat.le_refl _)
 have a5 : (0 + l.length * 3).ble (vals l).length = true := by rw [Nat.ble_eq, vals_len]; omega
 have a6 : (0 + l.length * 3).ble (l.length * 3) = true := by rw [Nat.ble_eq]; omega
 have g : Nat.blt l.length 4398046511104 = true := by rw [Nat.blt_eq]; exact hl
 unfold T
 dsimp only [] at a1 ⊢
 simp only [a1, a3, a5, a6, g, q0, q1, q2, q3, e2, e3, e4, e5, h0, isVals_vals, vals_len, Nat.beq_refl, decide_true, Bool.and_self, vals_of, vals_scal, hin, hsh, GT.eval, Bool.true_and, Bool.and_true, cond_true, List.all_cons, List.all_nil]
 unfold Fit.callV Fit.is
 dsimp only []
 cases n0 : eqU s.data.toList [97, 98, 115]
 rotate_left
 ·cases decide ((l.headD v0).2.1 < 0) <;> rfl
 cases n1 : eqU s.data.toList [99, 101, 105, 108]
 rotate_left
 ·rfl
 cases n2 : eqU s.data.toList [102, 108, 111, 111, 114]
 rotate_left
 ·rfl
 cases n3 : eqU s.data.toList [114, 111, 117, 110, 100]
 rotate_left
 ·rfl
 cases n4 : eqU s.data.toList [115, 105, 103, 110]
 rotate_left
 ·unfold Fit.signI
  cases decide ((l.headD v0).2.1 < 0) <;> cases decide ((l.headD v0).2.1 > 0) <;> rfl
 cases n5 : eqU s.data.toList [116, 111, 105, 110, 116]
 rotate_left
 ·rfl
 cases n6 : eqU s.data.toList [116, 111, 100, 101, 99]
 rotate_left
 ·rfl
 cases n7 : eqU s.data.toList [103, 114, 101, 97, 116, 101, 115, 116]
 rotate_left
 ·rfl
 cases n8 : eqU s.data.toList [108, 101, 97, 115, 116]
 rotate_left
 ·rfl
 cases n9 : eqU s.data.toList [108, 101, 110, 103, 116, 104]
 rotate_left
 ·rfl
 cases n10 : eqU s.data.toList [108, 111, 119, 101, 114]
 rotate_left
 ·exact textV_eq _
 cases n11 : eqU s.data.toList [117, 112, 112, 101, 114]
 rotate_left
 ·exact textV_eq _
 cases n12 : eqU s.data.toList [116, 114, 105, 109]
 rotate_left
 ·have := textV_eq ⟨(Lib.trimB (l.headD v0).2.2.data.toList 32).toArray⟩
  rw [List.toList_toArray] at this
  exact this
 cases n13 : eqU s.data.toList [115, 117, 98, 115, 116, 114]
 rotate_left
 ·rw [n13] at h3
  have k2 : 2 < l.length := by
   have : Nat.blt 2 l.length = true := h3
   rwa [Nat.blt_eq] at this
  have k1 : 1 < l.length := by omega
  have b1 : Nat.blt 1 l.length = true := by rw [Nat.blt_eq]; exact k1
  have b2 : Nat.blt 2 l.length = true := by rw [Nat.blt_eq]; exact k2
  have c1 : rdI (vals l) 4 = (l.getD 1 v0).2.1 := by have := rdI_vals1 l k1; rw [atj l 1 k1] at this; exact this
  have c2 : rdI (vals l) 7 = (l.getD 2 v0).2.1 := by have := rdI_vals1 l k2; rw [atj l 2 k2] at this; exact this
  have d1 : isV (vals l) 4 (.i .i64) = true := by have := vals_at 1 (by omega) l k1; unfold isV; rw [show (4 : Nat) = 1 * 3 + 1 from rfl, this]; rfl
  have d2 : isV (vals l) 7 (.i .i64) = true := by have := vals_at 1 (by omega) l k2; unfold isV; rw [show (7 : Nat) = 2 * 3 + 1 from rfl, this]; rfl
  simp only [b1, b2, c1, c2, d1, d2, hi1 _ (getD_mem l 1 k1), hi1 _ (getD_mem l 2 k2), Bool.and_self, cond_true, cond_false]
  exact textV_eq _
 cases n14 : eqU s.data.toList [116, 111, 116, 101, 120, 116]
 rotate_left
 ·cases (l.headD v0).1 == 4
  ·exact textV_eq _
  ·rfl
 exact textV_eq _
def spec : Spec := fun aa => match aa with
 | [.v (.string s), .sl n 3 cs] => some (.need (rowW n (Int.ofNat n) cs && guard s (valsOf cs)) (.out (ve (Fit.callV s (valsOf cs)))))
 | _ => none
theorem spec_ok (h85 : SpecOk Tryz.prog La 85 spec85) (h87 : SpecOk Tryz.prog La 87 spec87) (h88 : SpecOk Tryz.prog La 88 spec88) : SpecOk Tryz.prog La 37 spec := ⟨fnOk_ok (by kernel_rfl), fun aa t v h e => by
 unfold spec at h
 split at h
 ·rename_i s n cs
  cases h
  obtain ⟨g1, g2⟩ := GT.need_eval e
  cases g2
  simp only [Bool.and_eq_true] at g1
  obtain ⟨_, hn, h4, h5⟩ := rowW_ok g1.1
  have hg := g1.2
  generalize valsOf cs = l at h4 h5 hg
  subst h4 h5
  exact ⟨rfl, callT La_below prog_mix prog_names (by simpa using ⟨A34.specP_ok, A75.spec_ok, A79.spec_ok, A80.specP_ok, A82.spec_ok, A83.spec_ok, h85, spec86_ok, h87, h88⟩) (by simpa using A37L0.lp_fine) (by decide) (by simp) rfl ((run _ _ _).trans (T_ok _ _ hn hg))⟩
 ·cases h⟩
end A37
end
section
open Go Go.Proofs
namespace A10
def T (s0 : ByteArray) (m1 : Nat) (c1 : List Value) : GT Value := let x1 := (rdI c1 3, rdI c1 4, rdS c1 5); let x2 := (rdI c1 0, rdI c1 1, rdS c1 2); let o1 : GT Value := (.out (.tuple ([.agg ([.int .i64 0, .int .i64 0, .string ⟨([]).toArray⟩]).toArray, .int .i64 0]).toArray)); (.br ((true && ([((1 : Nat), c1)]).all fun p => p.snd.all scalV)) (.br ((Nat.beq m1 m1 && (decide ((Int.ofNat m1) = (Int.ofNat m1)) && ((isVals c1) && (Nat.beq (c1).length (m1 * 3) && Nat.blt m1 4398046511104))))) (.br (Nat.beq m1 0) (.out (.tuple ([.agg ([.int .i64 0, .int .i64 0, .string ⟨([]).toArray⟩]).toArray, .int .i64 100]).toArray)) (.br (([(true, AA.v (.string s0)), ((fun (cs : List Value) => ((0 + m1 * 1).ble cs.length && (List.take (m1 * 1) (List.drop 0 cs)).all scalV, AA.sl m1 1 (List.take (m1 * 1) (List.drop 0 cs)))) (ints IntKind.i64 (List.map (fun (x : W3) => x.fst) (valsOf c1))))]).all fun x => x.fst) (.br ((rowI m1 (Int.ofNat m1) (((((((((valsOf c1)).map fun (x : W3) => x.fst)).map (Value.int IntKind.i64))).drop 0)).take (m1 * 1)))) (.br (((Fit.kindP s0 (((((((((((valsOf c1)).map fun (x : W3) => x.fst)).map (Value.int IntKind.i64))).drop 0)).take (m1 * 1))).map valI)).2 != 0)) (.out (.tuple ([.agg ([.int .i64 0, .int .i64 0, .string ⟨([]).toArray⟩]).toArray, .int .i64 (Fit.kindP s0 (((((((((((valsOf c1)).map fun (x : W3) => x.fst)).map (Value.int IntKind.i64))).drop 0)).take (m1 * 1))).map valI)).2]).toArray)) (.br ((true && ([((1 : Nat), c1)]).all fun p => p.snd.all scalV)) (.br ((Nat.beq m1 m1 && (decide ((Int.ofNat m1) = (Int.ofNat m1)) && ((isVals c1) && (Nat.beq (c1).length (m1 * 3) && Nat.blt m1 4398046511104))))) (.br (((valsOf c1).any A10L1.bad)) (.out (.tuple ([.agg ([.int .i64 0, .int .i64 0, .string ⟨([]).toArray⟩]).toArray, .int .i64 22]).toArray)) (.br (eqU (s0).data.toList [99, 111, 97, 108, 101, 115, 99, 101]) (.br (([(true, AA.v (.string s0)), ((fun (cs : List Value) => ((0 + m1 * 3).ble cs.length && (List.take (m1 * 3) (List.drop 0 cs)).all scalV, AA.sl m1 3 (List.take (m1 * 3) (List.drop 0 cs)))) c1)]).all fun x => x.fst) (.br (((decide ((Int.ofNat m1) = (Int.ofNat m1)) && ((isVals (List.take (m1 * 3) (List.drop 0 c1))) && (Nat.beq (((((c1).drop 0)).take (m1 * 3))).length (m1 * 3) && Nat.blt m1 4398046511104))) && ((valsOf (List.take (m1 * 3) (List.drop 0 c1)))).all fun v => inR v.snd.fst)) (.out (.tuple ([.agg ([.int .i64 (Fit.chosenP s0 (valsOf (List.take (m1 * 3) (List.drop 0 c1)))).1.1, .int .i64 (Fit.chosenP s0 (valsOf (List.take (m1 * 3) (List.drop 0 c1)))).1.2.1, .string (Fit.chosenP s0 (valsOf (List.take (m1 * 3) (List.drop 0 c1)))).1.2.2]).toArray, .int .i64 (Fit.chosenP s0 (valsOf (List.take (m1 * 3) (List.drop 0 c1)))).2]).toArray)) .no) .no) (.br (eqU (s0).data.toList [110, 117, 108, 108, 105, 102]) (.br (Nat.blt 0 m1) (.br (isL c1 0 [(.i .i64), (.i .i64), .s]) (.br (Nat.blt 1 m1) (.br (isL c1 3 [(.i .i64), (.i .i64), .s]) (.br ((A35.tru (A36.eqK x2 x1) (A36.eqN x2 x1))) o1 (.br (Nat.blt 0 m1) (.br (isL c1 0 [(.i .i64), (.i .i64), .s]) (.out (.tuple ([.agg ([.int .i64 (rdI c1 0), .int .i64 (rdI c1 1), .string (rdS c1 2)]).toArray, .int .i64 0]).toArray)) .no) .no)) .no) .no) .no) .no) (.br (((List.map (fun (x : W3) => x.fst) (valsOf c1)).any fun x => x == 0)) o1 (.br (([(true, AA.v (.string s0)), ((fun (cs : List Value) => ((0 + m1 * 3).ble cs.length && (List.take (m1 * 3) (List.drop 0 cs)).all scalV, AA.sl m1 3 (List.take (m1 * 3) (List.drop 0 cs)))) c1)]).all fun x => x.fst) (.br (((decide ((Int.ofNat m1) = (Int.ofNat m1)) && ((isVals (List.take (m1 * 3) (List.drop 0 c1))) && (Nat.beq (((((c1).drop 0)).take (m1 * 3))).length (m1 * 3) && Nat.blt m1 4398046511104))) && (A37.guard s0 (valsOf (List.take (m1 * 3) (List.drop 0 c1)))))) (.out (.tuple ([.agg ([.int .i64 (Fit.callV s0 (valsOf (List.take (m1 * 3) (List.drop 0 c1)))).1.1, .int .i64 (Fit.callV s0 (valsOf (List.take (m1 * 3) (List.drop 0 c1)))).1.2.1, .string (Fit.callV s0 (valsOf (List.take (m1 * 3) (List.drop 0 c1)))).1.2.2]).toArray, .int .i64 (Fit.callV s0 (valsOf (List.take (m1 * 3) (List.drop 0 c1)))).2]).toArray)) .no) .no))))) .no) .no)) .no) .no)) .no) .no)
set_option maxRecDepth 1000000 in
theorem run (s0 : ByteArray) (m1 : Nat) (c1 : List Value) : callK (cfgK Tryz.prog 4 (gpT [(14, A14.specP), (34, A34.specP), (35, A35.spec), (36, A36.specP), (37, A37.spec)]) (ltT 4 [A10L0.lp, A10L1.lp])) (gpT [(14, A14.specP), (34, A34.specP), (35, A35.spec), (36, A36.specP), (37, A37.spec)]) (ltT 4 [A10L0.lp, A10L1.lp]) 12 (.fn 10) (absVs 0 [.v (.string s0), .sl m1 3 c1]) ⟨absH 0 [.v (.string s0), .sl m1 3 c1], 4⟩ (fun o => some o.1) = (T s0 m1 c1).eval := by kernel_rfl
set_option maxRecDepth 1000000 in
theorem flat (s0 : ByteArray) (m1 : Nat) (c1 : List Value) : (T s0 m1 c1).allB (pfd 3) = true := by kernel_rfl
open Fit
theorem kind_nil (s : ByteArray) : kindP s [] = (0, 100) := by
 unfold kindP
 simp [rP, A14.num, A14.txt, A14.sub]
theorem kind_some {s : ByteArray} {l : List W3} (h : (kindP s (l.map (·.1))).2 = 0) : 0 < l.length := by
 cases l with
 | nil => rw [List.map_nil, kind_nil] at h; cases h
 | cons v l => simp
theorem kind_sub {l : List W3} (h : (kindP ⟨#[115, 117, 98, 115, 116, 114]⟩ (l.map (·.1))).2 = 0) : 2 < l.length := by
 unfold kindP at h
 cases hb : (l.map (·.1)).any A14L0.bad <;> rw [hb] at h
 ·have h : (rP (A14.sub (l.map (·.1))) 4).2 = 0 := h
  obtain ⟨a, b, c, e, _⟩ := sub_of (rP0 h).1
  have := congrArg List.length e
  simp at this
  omega
 ·cases h
theorem kind_nullif {l : List W3} (h : (kindP ⟨#[110, 117, 108, 108, 105, 102]⟩ (l.map (·.1))).2 = 0) : 1 < l.length := by
 unfold kindP at h
 cases hb : (l.map (·.1)).any A14L0.bad <;> rw [hb] at h
 ·have h : (rP (Int.ofNat (l.map (·.1)).length == 2 && (A53.res (l.map (·.1))).2) ((l.map (·.1)).headD 0)).2 = 0 := h
  have := (rP0 h).1
  simp only [Bool.and_eq_true, beq_iff_eq, List.length_map] at this
  have e : (l.length : Int) = 2 := this.1
  omega
 ·cases h
theorem short_of {v : W3} (h : A33.okv v.1 v.2.1 v.2.2 = true) : A37L0.shortT v = true := by
 obtain ⟨k, n, s⟩ := v
 have he : eqU s.data.toList [] = true → A37L0.shortT (k, n, s) = true := fun h => by rw [is_eq (l := []) h]; rfl
 unfold A33.okv at h
 simp only at h
 cases e0 : k == 0
 ·rw [e0, cond_false] at h
  cases e1 : k == 1
  ·rw [e1, cond_false] at h
   cases e2 : k == 2 || k == 3
   ·rw [e2, cond_false] at h
    simp only [Bool.and_eq_true, decide_eq_true_eq] at h
    unfold A37L0.shortT
    rw [Nat.ble_eq]; exact h.2.2.1
   ·rw [e2, cond_true] at h; exact he h
  ·rw [e1, cond_true, Bool.and_eq_true] at h; exact he h.1
 ·rw [e0, cond_true, Bool.and_eq_true] at h; exact he h.2
theorem guard_of {s : ByteArray} {l : List W3} (hin : l.all (fun v => inR v.2.1) = true) (hk : (kindP s (l.map (·.1))).2 = 0) (hb : l.any A10L1.bad = false) : A37.guard s l = true := by
 unfold A37.guard
 have h1 : l.all A37L0.shortT = true := List.all_eq_true.2 fun v hv => short_of (okv_of hb v hv)
 have h2 : Nat.blt 0 l.length = true := by rw [Nat.blt_eq]; exact kind_some hk
 rw [hin, h1, h2]
 cases h : eqU s.data.toList [115, 117, 98, 115, 116, 114]
 ·rfl
 ·obtain rfl := is_eq h
  have : Nat.blt 2 l.length = true := by rw [Nat.blt_eq]; exact kind_sub hk
  rw [this]; rfl
set_option maxHeartbeats 0 in
theorem T_ok (s : ByteArray) (l : List W3) (hl : l.length < 4398046511104) (hin : l.all (fun v => inR v.2.1) = true) : (T s l.length (vals l)).eval = some (ve (CallV s l)) := by
 have g : Nat.blt l.length 4398046511104 = true := by rw [Nat.blt_eq]; exact hl
 have gs := vals_scal l
 have g2 := rowI_of (l := l.map (·.1)) (by rw [List.length_map]; omega)
 rw [List.length_map] at g2
 have a1 : (true && [((1 : Nat), vals l)].all fun p => p.2.all scalV) = true := by simp [vals_scal]
 have a3 : ((ints .i64 (l.map (·.1))).drop 0).take (l.length * 1) = ints .i64 (l.map (·.1)) := by rw [List.drop_zero, Nat.mul_one]; exact List.take_of_length_le (by rw [ints_len, List.length_map]; exact Nat.le_refl _)
 have a4 : ((vals l).drop 0).take (l.length * 3) = vals l := by rw [List.drop_zero]; exact List.take_of_length_le (by rw [vals_len]; exact Nat.le_refl _)
 have a5 : (0 + l.length * 1).ble l.length = true := by rw [Nat.ble_eq]; omega
 have a6 : (0 + l.length * 3).ble (l.length * 3) = true := by rw [Nat.ble_eq]; omega
 have e0 : ∀ f : List Int, f.map (Value.int .i64) = ints .i64 f := fun _ => rfl
 unfold T
 dsimp only [] at a1 ⊢
 simp only [e0, a1, a3, a4, a5, a6, g, gs, g2, isVals_vals, vals_len, ints_len, List.length_map, Nat.beq_refl, decide_true, Bool.and_self, vals_of, ints_vals, ints_scal, hin, GT.eval, Bool.true_and, Bool.and_true, cond_true, List.all_cons, List.all_nil]
 unfold CallV is
 cases hb0 : Nat.beq l.length 0
 rotate_left
 ·have : l = [] := List.length_eq_zero_iff.1 (Nat.eq_of_beq_eq_true hb0)
  subst this
  rw [List.map_nil, kind_nil]; rfl
 simp only [cond_false]
 cases hk : (kindP s (l.map (·.1))).2 != 0
 rotate_left
 ·rfl
 have hk := bne_eq_false_iff_eq.1 hk
 simp only [cond_false]
 cases hbad : l.any A10L1.bad
 rotate_left
 ·rfl
 simp only [cond_false]
 have h0 := kind_some hk
 cases n1 : eqU s.data.toList [99, 111, 97, 108, 101, 115, 99, 101]
 rotate_left
 ·rfl
 simp only [cond_false]
 cases n2 : eqU s.data.toList [110, 117, 108, 108, 105, 102]
 rotate_left
 ·obtain rfl := is_eq n2
  have k1 := kind_nullif hk
  have q0 : rdI (vals l) 0 = (l.headD v0).1 := by have := rdI_vals l h0; rw [A37.at0 l h0] at this; exact this
  have q1 : rdI (vals l) 1 = (l.headD v0).2.1 := by have := rdI_vals1 l h0; rw [A37.at0 l h0] at this; exact this
  have q2 : rdS (vals l) 2 = (l.headD v0).2.2 := by have := rdS_vals l h0; rw [A37.at0 l h0] at this; exact this
  have q3 : isL (vals l) 0 [.i .i64, .i .i64, .s] = true := isL_vals l h0
  have r0 : rdI (vals l) 3 = (l.getD 1 v0).1 := by have := rdI_vals l k1; rw [A37.atj l 1 k1] at this; exact this
  have r1 : rdI (vals l) 4 = (l.getD 1 v0).2.1 := by have := rdI_vals1 l k1; rw [A37.atj l 1 k1] at this; exact this
  have r2 : rdS (vals l) 5 = (l.getD 1 v0).2.2 := by have := rdS_vals l k1; rw [A37.atj l 1 k1] at this; exact this
  have r3 : isL (vals l) 3 [.i .i64, .i .i64, .s] = true := isL_vals l k1
  have b0 : Nat.blt 0 l.length = true := by rw [Nat.blt_eq]; exact h0
  have b1 : Nat.blt 1 l.length = true := by rw [Nat.blt_eq]; exact k1
  simp only [q0, q1, q2, q3, r0, r1, r2, r3, b0, b1, cond_true]
  generalize l.headD v0 = v
  generalize l.getD 1 v0 = u
  have et : A35.tru (A36.eqK (v.1, v.2.1, v.2.2) (u.1, u.2.1, u.2.2)) (A36.eqN (v.1, v.2.1, v.2.2) (u.1, u.2.1, u.2.2)) = A35.tru (bif v.1 == 0 || u.1 == 0 then 0 else 1) (bif (A76.compare v.1 v.2.1 v.2.2 u.1 u.2.1 u.2.2).2 && (A76.compare v.1 v.2.1 v.2.2 u.1 u.2.1 u.2.2).1 == 0 then 1 else 0) := by
   unfold A36.eqK A36.eqN
   dsimp only
   cases v.1 == 0 || u.1 == 0 <;> rfl
  rw [et]
  cases A35.tru (bif v.1 == 0 || u.1 == 0 then 0 else 1) (bif (A76.compare v.1 v.2.1 v.2.2 u.1 u.2.1 u.2.2).2 && (A76.compare v.1 v.2.1 v.2.2 u.1 u.2.1 u.2.2).1 == 0 then 1 else 0) <;> rfl
 simp only [cond_false]
 cases hz : (l.map (·.1)).any (· == 0)
 rotate_left
 ·rfl
 rw [guard_of hin hk hbad]
 rfl
def spec : Spec := fun aa => match aa with
 | [.v (.string s), .sl n 3 cs] => some (.need (rowW n (Int.ofNat n) cs && (valsOf cs).all (fun v => inR v.2.1)) (.out (ve (CallV s (valsOf cs)))))
 | _ => none
theorem spec_ok (h85 : SpecOk Tryz.prog La 85 spec85) (h87 : SpecOk Tryz.prog La 87 spec87) (h88 : SpecOk Tryz.prog La 88 spec88) : SpecOk Tryz.prog La 10 spec := ⟨fnOk_ok (by kernel_rfl), fun aa t v h e => by
 unfold spec at h
 split at h
 ·rename_i s n cs
  cases h
  obtain ⟨g1, g2⟩ := GT.need_eval e
  cases g2
  simp only [Bool.and_eq_true] at g1
  obtain ⟨_, hn, h4, h5⟩ := rowW_ok g1.1
  have hin := g1.2
  generalize valsOf cs = l at h4 h5 hin
  subst h4 h5
  exact ⟨rfl, callT La_below prog_mix prog_names (by simpa using ⟨A14.specP_ok, A34.specP_ok, A35.spec_ok, A36.specP_ok, A37.spec_ok h85 h87 h88⟩) (by simpa using ⟨A10L0.lp_fine, A10L1.lp_fine⟩) (by decide) (by simp) rfl ((run _ _ _).trans (T_ok _ _ hn hin))⟩
 ·cases h⟩
end A10
end
section
open Go Go.Proofs
namespace A13
set_option maxRecDepth 1000000 in
theorem run : callK (cfgK Tryz.prog 4 (gpT [(10, A10.spec), (14, A14.specP)]) (ltT 4 [])) (gpT [(10, A10.spec), (14, A14.specP)]) (ltT 4 []) 12 (.fn 13) (absVs 0 []) ⟨absH 0 [], 4⟩ (fun o => some o.1) = some (.bool true) := by kernel_rfl
def spec : Spec := fun aa => match aa with
 | [] => some (.out (.bool true))
 | _ => none
theorem spec_ok : SpecOk Tryz.prog La 13 spec := ⟨fnOk_ok (by kernel_rfl), fun aa t v h e => by
 unfold spec at h
 split at h
 ·cases h; cases e
  exact ⟨rfl, callT La_below prog_mix prog_names (by simpa using ⟨A10.spec_ok ok85 ok87 ok88, A14.specP_ok⟩) (by simp) (by decide) (by simp) rfl run⟩
 ·cases h⟩
end A13
end
section
open Go Go.Proofs
namespace A10n
def T (s0 : ByteArray) : GT Value := .out (ve (v0, 100))
set_option maxRecDepth 1000000 in
theorem run (s0 : ByteArray) : callK (cfgK Tryz.prog 4 (gpT [(14, A14.specP)]) (ltT 4 [])) (gpT [(14, A14.specP)]) (ltT 4 []) 12 (.fn 10) (absVs 0 [.v (.string s0), .nil]) ⟨absH 0 [.v (.string s0), .nil], 4⟩ (fun o => some o.1) = some (ve (v0, 100)) := by kernel_rfl
def spec : Spec := fun aa => match aa with
 | [.v (.string s), .sl n 3 cs] => some (.need (rowW n (Int.ofNat n) cs && (valsOf cs).all (fun v => inR v.2.1)) (.out (ve (Fit.CallV s (valsOf cs)))))
 | [.v (.string s), .nil] => some (.out (ve (v0, 100)))
 | _ => none
theorem spec_ok : SpecOk Tryz.prog La 10 spec := ⟨fnOk_ok (by kernel_rfl), fun aa t v h e => by
 unfold spec at h
 split at h
 ·cases h
  exact (A10.spec_ok ok85 ok87 ok88).2 _ _ _ rfl e
 ·rename_i s
  cases h; cases e
  exact ⟨rfl, callT La_below prog_mix prog_names (by simpa using A14.specP_ok) (by simp) (by decide) (by simp) rfl (run s)⟩
 ·cases h⟩
end A10n
end
end Go.Proofs.YtaiokpmmjbiajaaGreatDoorDx
namespace Go.Proofs.YtaiokpmmjbiajaaGreatDoorDx.Ref
section
open Go Go.Proofs.YtaiokpmmjbiajaaGreatDoorDx.Fit
abbrev wr (x : Int) : Int := IntKind.wrap .i64 x
theorem wr_in {x : Int} (h : -9223372036854775808 ≤ x) (h2 : x ≤ 9223372036854775807) : wr x = x := IntWalk.i64_in x ⟨h, h2⟩
theorem inR_iff {n : Int} : inR n = true ↔ -9223372036854775808 ≤ n ∧ n < 9223372036854775808 := by unfold inR; simp
theorem quot (n : Int) : n = 10000 * n.tdiv 10000 + n.tmod 10000 ∧ -10000 < n.tmod 10000 ∧ n.tmod 10000 < 10000 ∧ (0 ≤ n → 0 ≤ n.tmod 10000 ∧ 0 ≤ n.tdiv 10000) ∧ (n ≤ 0 → n.tmod 10000 ≤ 0 ∧ n.tdiv 10000 ≤ 0) := by
 rcases Int.lt_or_le n 0 with h | h
 ·obtain ⟨m, rfl⟩ : ∃ m : Int, n = -m := ⟨-n, by omega⟩
  rw [Int.neg_tdiv, Int.neg_tmod, Int.tdiv_eq_ediv_of_nonneg (by omega), Int.tmod_eq_emod_of_nonneg (by omega)]
  omega
 ·rw [Int.tdiv_eq_ediv_of_nonneg h, Int.tmod_eq_emod_of_nonneg h]
  omega
def numK (k : Int) : Bool := k == 0 || (k == 2 || k == 3)
def raStep (k : Int) (out : Int) : Option Int := bif k == 0 || k == out then some out else bif out == 0 then some k else bif numK out && numK k then some 3 else none
def ra : Int → List Int → Option Int
 | out, [] => some out
 | out, k :: l => match raStep k out with
  | some o => ra o l
  | none => none
def refAlike (l : List Int) : Int × Bool := match ra 0 l with
 | some o => (o, true)
 | none => (0, false)
def J (o : Option Int) (p : Int × Bool × Bool) : Prop :=
 (o = some p.1 ∧ (p.2.1 = true ∨ p.2.2 = true) ∧ (p.1 = 0 → p.2.1 = true ∧ p.2.2 = true) ∧ (p.2.2 = true → p.1 = 0 ∨ p.1 = 2 ∨ p.1 = 3) ∧ (p.2.1 = true → p.1 = 2 ∨ p.1 = 3 → p.2.2 = true) ∧ (p.2.1 = false → p.1 = 3)) ∨ (o = none ∧ p.2.1 = false ∧ p.2.2 = false)
theorem dead : ∀ (l : List Int) (p : Int × Bool × Bool), p.2.1 = false → p.2.2 = false → (l.foldl A53.step p).2.1 = false ∧ (l.foldl A53.step p).2.2 = false
 | [], p, h1, h2 => ⟨h1, h2⟩
 | k :: l, p, h1, h2 => by
  refine dead l _ ?_ ?_ <;>
  ·unfold A53.step
   cases k == 0 <;> simp [h1, h2]
theorem ra_eq : ∀ (l : List Int) (out : Int) (p : Int × Bool × Bool), Ok5 out → J (some out) p → (∀ k ∈ l, Ok5 k) → J (ra out l) (l.foldl A53.step p)
 | [], out, p, _, h, _ => h
 | k :: l, out, p, ho, h, hl => by
  rcases h with ⟨e, h1, h2, h3, h4, h5⟩ | ⟨e, _⟩
  rotate_left
  ·cases e
  obtain ⟨a, b, c⟩ := p
  cases e
  simp only at h1 h2 h3 h4 h5
  have hk := hl k (by simp)
  have hl' : ∀ x ∈ l, Ok5 x := fun x hx => hl x (by simp [hx])
  show J (ra a (k :: l)) (l.foldl A53.step (A53.step (a, b, c) k))
  rw [ra]
  unfold raStep A53.step
  unfold Ok5 at hk ho
  by_cases k0 : k = 0
  ·subst k0
   exact ra_eq l a (a, b, c) ho (.inl ⟨rfl, h1, h2, h3, h4, h5⟩) hl'
  have e0 : (k == 0) = false := beq_eq_false_iff_ne.2 k0
  simp only [e0, Bool.false_or, cond_false]
  have emax : ∀ m : Int, (if k > a then k else a) = m → m ≥ k ∧ m ≥ a ∧ (m = k ∨ m = a) := by intro m h; split at h <;> omega
  generalize (if k > a then k else a) = m at emax
  obtain ⟨m1, m2, m3⟩ := emax m rfl
  by_cases a0 : a = 0
  ·subst a0
   obtain ⟨rfl, rfl⟩ := h2 rfl
   have e1 : (k == 0) = false := e0
   simp only [e1, cond_false, BEq.rfl, cond_true, Bool.true_and, Bool.true_or]
   refine ra_eq l k _ hk (.inl ⟨?_, .inl rfl, fun h => ?_, fun h => ?_, fun _ h => ?_, fun h => by cases h⟩) hl'
   ·show some k = some m; congr 1; omega
   ·exact absurd h (by show ¬ m = 0; omega)
   ·simp only [Bool.or_eq_true, beq_iff_eq] at h
    show m = 0 ∨ m = 2 ∨ m = 3; omega
   ·simp only [Bool.or_eq_true, beq_iff_eq]
    have h : m = 2 ∨ m = 3 := h
    omega
  have ea : (a == 0) = false := beq_eq_false_iff_ne.2 a0
  by_cases ka : k = a
  ·subst ka
   simp only [BEq.rfl, cond_true, ea, Bool.false_or, Bool.and_true]
   obtain rfl : m = k := by omega
   refine ra_eq l m _ hk (.inl ⟨rfl, ?_, fun h => absurd h a0, fun h => ?_, fun hb h => ?_, h5⟩) hl'
   ·cases b
    ·right
     have := h5 rfl
     subst this
     simp only [Bool.and_eq_true]
     exact ⟨by simpa using h1, rfl⟩
    ·exact .inl rfl
   ·simp only [Bool.and_eq_true] at h; exact h3 h.1
   ·have h : m = 2 ∨ m = 3 := h
    simp only [Bool.and_eq_true, Bool.or_eq_true, beq_iff_eq]
    exact ⟨h4 hb h, h⟩
  have eka : (k == a) = false := beq_eq_false_iff_ne.2 ka
  have eak : (a == k) = false := beq_eq_false_iff_ne.2 (fun h => ka h.symm)
  simp only [eka, eak, ea, cond_false, Bool.or_false, Bool.and_false]
  by_cases hn : (a = 2 ∨ a = 3) ∧ (k = 2 ∨ k = 3)
  ·have e1 : numK a = true := by unfold numK; simp only [Bool.or_eq_true, beq_iff_eq]; omega
   have e2 : numK k = true := by unfold numK; simp only [Bool.or_eq_true, beq_iff_eq]; omega
   have e3 : (k == 2 || k == 3) = true := by simp only [Bool.or_eq_true, beq_iff_eq]; omega
   have hc : c = true := by
    cases hb : b
    ·rw [hb] at h1; simpa using h1
    ·exact h4 hb hn.1
   simp only [e1, e2, e3, Bool.and_self, cond_true, hc]
   have hm3 : m = 3 := by omega
   subst hm3
   exact ra_eq l 3 _ (by unfold Ok5; omega) (.inl ⟨rfl, .inr rfl, (fun h => by cases h), (fun _ => .inr (.inr rfl)), (fun _ _ => rfl), (fun _ => rfl)⟩) hl'
  ·have e1 : (numK a && numK k) = false := by
    cases hx : numK a && numK k
    ·rfl
    ·unfold numK at hx; simp only [Bool.and_eq_true, Bool.or_eq_true, beq_iff_eq] at hx; omega
   simp only [e1, cond_false]
   have hc : (c && (k == 2 || k == 3)) = false := by
    cases hx : c && (k == 2 || k == 3)
    ·rfl
    ·simp only [Bool.and_eq_true, Bool.or_eq_true, beq_iff_eq] at hx
     have := h3 hx.1
     omega
   rw [hc]
   obtain ⟨d1, d2⟩ := dead l (m, false, false) rfl rfl
   exact .inr ⟨rfl, d1, d2⟩
theorem alike_ok {l : List Int} (h : ∀ k ∈ l, Ok5 k) : (refAlike l).2 = (A53.res l).2 ∧ ((A53.res l).2 = true → (refAlike l).1 = (A53.res l).1) := by
 have := ra_eq l 0 (0, true, true) (.inl rfl) (.inl ⟨rfl, .inl rfl, fun _ => ⟨rfl, rfl⟩, (fun _ => .inl rfl), (fun _ h => by rcases h with h | h <;> cases h), (fun h => by cases h)⟩) h
 unfold refAlike A53.res
 rcases this with ⟨e, h1, _⟩ | ⟨e, h1, h2⟩
 ·rw [e]
  have : ((A53.alike l).2.1 || (A53.alike l).2.2) = true := by simp only [Bool.or_eq_true]; exact h1
  rw [this]
  exact ⟨rfl, fun _ => rfl⟩
 ·rw [e]
  have : ((A53.alike l).2.1 || (A53.alike l).2.2) = false := by simp only [Bool.or_eq_false_iff]; exact ⟨h1, h2⟩
  rw [this]
  exact ⟨rfl, fun h => by cases h⟩
def kindR (s : ByteArray) (l : List Int) : Int × Int :=
 bif l.any A14L0.bad then rP false 0 else
 bif eqU s.data.toList [97, 98, 115] then rP (A14.num l) (l.headD 0) else
 bif eqU s.data.toList [99, 101, 105, 108] then rP (A14.num l) 2 else
 bif eqU s.data.toList [102, 108, 111, 111, 114] then rP (A14.num l) 2 else
 bif eqU s.data.toList [114, 111, 117, 110, 100] then rP (A14.num l) 2 else
 bif eqU s.data.toList [115, 105, 103, 110] then rP (A14.num l) 2 else
 bif eqU s.data.toList [116, 111, 105, 110, 116] then rP (A14.num l) 2 else
 bif eqU s.data.toList [116, 111, 100, 101, 99] then rP (A14.num l) 3 else
 bif eqU s.data.toList [99, 111, 97, 108, 101, 115, 99, 101] then rP ((refAlike l).2 && decide (Int.ofNat l.length ≥ 1)) (refAlike l).1 else
 bif eqU s.data.toList [103, 114, 101, 97, 116, 101, 115, 116] then rP ((refAlike l).2 && decide (Int.ofNat l.length ≥ 1)) (refAlike l).1 else
 bif eqU s.data.toList [108, 101, 97, 115, 116] then rP ((refAlike l).2 && decide (Int.ofNat l.length ≥ 1)) (refAlike l).1 else
 bif eqU s.data.toList [99, 111, 110, 99, 97, 116] then rP (l.foldl (fun b k => b && A14L1.ok1 k) (decide (Int.ofNat l.length ≥ 1))) 4 else
 bif eqU s.data.toList [108, 101, 110, 103, 116, 104] then rP (A14.txt l) 2 else
 bif eqU s.data.toList [108, 111, 119, 101, 114] then rP (A14.txt l) 4 else
 bif eqU s.data.toList [116, 114, 105, 109] then rP (A14.txt l) 4 else
 bif eqU s.data.toList [117, 112, 112, 101, 114] then rP (A14.txt l) 4 else
 bif eqU s.data.toList [110, 117, 108, 108, 105, 102] then rP ((refAlike l).2 && Int.ofNat l.length == 2) (l.headD 0) else
 bif eqU s.data.toList [115, 117, 98, 115, 116, 114] then rP (A14.sub l) 4 else
 bif eqU s.data.toList [116, 111, 116, 101, 120, 116] then rP (Int.ofNat l.length == 1) 4 else
 rP false 0
theorem rP_and {a b c d : Int} {x y z : Bool} (h1 : x = y) (h2 : y = true → a = b) : rP (x && z) a = rP (y && z) b := by
 subst h1
 cases x
 ·rfl
 ·rw [h2 rfl]
theorem kind_eq (s : ByteArray) (l : List Int) : kindR s l = kindP s l := by
 unfold kindR kindP
 cases hb : l.any A14L0.bad
 rotate_left
 ·rfl
 obtain ⟨h1, h2⟩ := alike_ok (Ok5_of hb)
 have h3 : rP ((refAlike l).2 && decide (Int.ofNat l.length ≥ 1)) (refAlike l).1 = rP ((A53.res l).2 && decide (Int.ofNat l.length ≥ 1)) (A53.res l).1 := rP_and (c := 0) (d := 0) h1 h2
 have h4 : rP ((refAlike l).2 && Int.ofNat l.length == 2) (l.headD 0) = rP (Int.ofNat l.length == 2 && (A53.res l).2) (l.headD 0) := by rw [h1, Bool.and_comm]
 rw [h3, h4]
 simp only [cond_false]
 cases h_abs : eqU s.data.toList [97, 98, 115]
 rotate_left
 ·obtain rfl := is_eq h_abs
  rfl
 cases h_ceil : eqU s.data.toList [99, 101, 105, 108]
 rotate_left
 ·obtain rfl := is_eq h_ceil
  rfl
 cases h_floor : eqU s.data.toList [102, 108, 111, 111, 114]
 rotate_left
 ·obtain rfl := is_eq h_floor
  rfl
 cases h_round : eqU s.data.toList [114, 111, 117, 110, 100]
 rotate_left
 ·obtain rfl := is_eq h_round
  rfl
 cases h_sign : eqU s.data.toList [115, 105, 103, 110]
 rotate_left
 ·obtain rfl := is_eq h_sign
  rfl
 cases h_toint : eqU s.data.toList [116, 111, 105, 110, 116]
 rotate_left
 ·obtain rfl := is_eq h_toint
  rfl
 cases h_todec : eqU s.data.toList [116, 111, 100, 101, 99]
 rotate_left
 ·obtain rfl := is_eq h_todec
  rfl
 cases h_coalesce : eqU s.data.toList [99, 111, 97, 108, 101, 115, 99, 101]
 rotate_left
 ·obtain rfl := is_eq h_coalesce
  rfl
 cases h_greatest : eqU s.data.toList [103, 114, 101, 97, 116, 101, 115, 116]
 rotate_left
 ·obtain rfl := is_eq h_greatest
  rfl
 cases h_least : eqU s.data.toList [108, 101, 97, 115, 116]
 rotate_left
 ·obtain rfl := is_eq h_least
  rfl
 cases h_concat : eqU s.data.toList [99, 111, 110, 99, 97, 116]
 rotate_left
 ·obtain rfl := is_eq h_concat
  rfl
 cases h_length : eqU s.data.toList [108, 101, 110, 103, 116, 104]
 rotate_left
 ·obtain rfl := is_eq h_length
  rfl
 cases h_lower : eqU s.data.toList [108, 111, 119, 101, 114]
 rotate_left
 ·obtain rfl := is_eq h_lower
  rfl
 cases h_trim : eqU s.data.toList [116, 114, 105, 109]
 rotate_left
 ·obtain rfl := is_eq h_trim
  rfl
 cases h_upper : eqU s.data.toList [117, 112, 112, 101, 114]
 rotate_left
 ·obtain rfl := is_eq h_upper
  rfl
 cases h_nullif : eqU s.data.toList [110, 117, 108, 108, 105, 102]
 rotate_left
 ·obtain rfl := is_eq h_nullif
  rfl
 cases h_substr : eqU s.data.toList [115, 117, 98, 115, 116, 114]
 rotate_left
 ·obtain rfl := is_eq h_substr
  rfl
 cases h_totext : eqU s.data.toList [116, 111, 116, 101, 120, 116]
 rotate_left
 ·obtain rfl := is_eq h_totext
  rfl
 simp only [cond_false]
def refDecV (k n : Int) : W3 × Int := if k = 0 then (v0, 0) else if k = 2 then (if n ≤ 922337203685477 ∧ n ≥ -922337203685477 then ((3, wr (n * 10000), ⟨#[]⟩), 0) else (v0, 20)) else if k = 3 then ((3, n, ⟨#[]⟩), 0) else (v0, 22)
theorem dec_eq {k n : Int} (hn : inR n = true) : refDecV k n = A75.decV k n := by
 obtain ⟨n1, n2⟩ := inR_iff.1 hn
 unfold refDecV A75.decV
 by_cases h0 : k = 0
 ·rw [if_pos h0, if_pos h0]
 rw [if_neg h0, if_neg h0]
 by_cases h2 : k = 2
 ·subst h2
  rw [if_pos rfl, if_pos (show (2 : Int) = 2 ∨ (2 : Int) = 3 from .inl rfl)]
  have e : A127.dec 2 n = A127i.dec n := rfl
  rw [e]
  unfold A127i.dec
  by_cases h : n ≤ 922337203685477 ∧ n ≥ -922337203685477
  ·rw [if_pos h, if_neg (show ¬ (18446744073709551616 ≤ n * 10000 ∨ n * 10000 ≤ -18446744073709551616) by omega), if_pos (by simp only [Bool.and_eq_true, decide_eq_true_eq]; omega)]
  ·rw [if_neg h, if_neg (by simp only [Bool.and_eq_true, decide_eq_true_eq]; omega)]
 ·by_cases h3 : k = 3
  ·subst h3
   rw [if_neg h2, if_pos rfl, if_pos (show (3 : Int) = 2 ∨ (3 : Int) = 3 from .inr rfl)]
   rfl
  ·rw [if_neg h2, if_neg h3, if_neg (by omega)]
theorem wrap_range (x : Int) : inR (wr x) = true := by
 rw [inR_iff]
 unfold wr
 rw [IntKind.wrap_i64]; omega
def splitR (k n : Int) : Int × Int := if k = 2 then (n, 0) else if n.tmod 10000 < 0 then (wr (wr (n.tdiv 10000) - 1), wr (n.tmod 10000 + 10000)) else (wr (n.tdiv 10000), n.tmod 10000)
def numR (k0 n0 k1 n1 : Int) : Int := if A131.cmpI (splitR k0 n0).1 (splitR k1 n1).1 ≠ 0 then A131.cmpI (splitR k0 n0).1 (splitR k1 n1).1 else A131.cmpI (splitR k0 n0).2 (splitR k1 n1).2
def textR (a b : List UInt8) : Int := if ltU a b = true then -1 else if ltU b a = true then 1 else 0
def isNum (k : Int) : Bool := k == 2 || k == 3
def compareR (k0 n0 : Int) (s0 : ByteArray) (k1 n1 : Int) (s1 : ByteArray) : Int × Bool :=
 if isNum k0 = true ∧ isNum k1 = true then (numR k0 n0 k1 n1, true) else if k0 = 4 ∧ k1 = 4 then (textR s0.data.toList s1.data.toList, true) else if k0 = 1 ∧ k1 = 1 then (A131.cmpI n0 n1, true) else (0, false)
theorem split_form {k n : Int} (hk : k = 2 ∨ k = 3) (hn : inR n = true) : (k = 2 → splitR k n = (n, 0)) ∧ (k = 3 → n = 10000 * (splitR k n).1 + (splitR k n).2 ∧ 0 ≤ (splitR k n).2 ∧ (splitR k n).2 < 10000) := by
 obtain ⟨n1, n2⟩ := inR_iff.1 hn
 obtain ⟨q1, q2, q3, q4, q5⟩ := quot n
 refine ⟨fun h => by unfold splitR; rw [if_pos h], fun h => ?_⟩
 unfold splitR
 rw [if_neg (by omega), wr_in (show -9223372036854775808 ≤ n.tdiv 10000 by omega) (by omega)]
 split
 ·rw [wr_in (by omega) (by omega), wr_in (by omega) (by omega)]
  show n = 10000 * (n.tdiv 10000 - 1) + (n.tmod 10000 + 10000) ∧ 0 ≤ n.tmod 10000 + 10000 ∧ n.tmod 10000 + 10000 < 10000
  omega
 ·show n = 10000 * n.tdiv 10000 + n.tmod 10000 ∧ 0 ≤ n.tmod 10000 ∧ n.tmod 10000 < 10000
  omega
theorem cmpI_cases (a b : Int) : (a < b ∧ A131.cmpI a b = -1) ∨ (b < a ∧ A131.cmpI a b = 1) ∨ (a = b ∧ A131.cmpI a b = 0) := by
 unfold A131.cmpI
 by_cases h : a < b
 ·rw [if_pos h]; exact .inl ⟨h, rfl⟩
 ·by_cases h2 : b < a
  ·rw [if_neg h, if_pos h2]; exact .inr (.inl ⟨h2, rfl⟩)
  ·rw [if_neg h, if_neg h2]; exact .inr (.inr ⟨by omega, rfl⟩)
theorem cmpID_cases {n d : Int} (hd : inR d = true) : (10000 * n < d ∧ A131.cmpID n d = -1) ∨ (d < 10000 * n ∧ A131.cmpID n d = 1) ∨ (10000 * n = d ∧ A131.cmpID n d = 0) := by
 obtain ⟨n1, n2⟩ := inR_iff.1 hd
 obtain ⟨q1, q2, q3, q4, q5⟩ := quot d
 have e : IntKind.wrap .i64 (Int.tdiv d 10000) = d.tdiv 10000 := wr_in (by omega) (by omega)
 unfold A131.cmpID
 rw [e]
 split
 ·exact .inl ⟨by omega, rfl⟩
 ·split
  ·exact .inr (.inl ⟨by omega, rfl⟩)
  ·rcases cmpI_cases 0 (d.tmod 10000) with ⟨h, e⟩ | ⟨h, e⟩ | ⟨h, e⟩
   ·exact .inl ⟨by omega, e⟩
   ·exact .inr (.inl ⟨by omega, e⟩)
   ·exact .inr (.inr ⟨by omega, e⟩)
theorem num_eq {k0 n0 k1 n1 : Int} (h0 : k0 = 2 ∨ k0 = 3) (h1 : k1 = 2 ∨ k1 = 3) (hn0 : inR n0 = true) (hn1 : inR n1 = true) : numR k0 n0 k1 n1 = A131.num k0 n0 k1 n1 := by
 obtain ⟨a1, a2⟩ := split_form h0 hn0
 obtain ⟨b1, b2⟩ := split_form h1 hn1
 unfold numR A131.num
 generalize splitR k0 n0 = p at a1 a2
 generalize splitR k1 n1 = q at b1 b2
 obtain ⟨w, f⟩ := p
 obtain ⟨x, g⟩ := q
 simp only [Prod.mk.injEq] at a1 a2 b1 b2 ⊢
 have c1 := cmpI_cases w x
 have c2 := cmpI_cases f g
 have c3 := cmpI_cases n0 n1
 have c4 := cmpID_cases (n := n0) hn1
 have c5 := cmpID_cases (n := n1) hn0
 generalize A131.cmpI w x = r1 at c1 ⊢
 generalize A131.cmpI f g = r2 at c2 ⊢
 generalize A131.cmpI n0 n1 = r3 at c3 ⊢
 generalize A131.cmpID n0 n1 = r4 at c4 ⊢
 generalize A131.cmpID n1 n0 = r5 at c5 ⊢
 rcases h0 with rfl | rfl <;> rcases h1 with rfl | rfl
 ·rw [if_pos rfl]
  have := a1 rfl; have := b1 rfl
  split <;> omega
 ·rw [if_neg (show ¬ ((2 : Int) = 3) by decide), if_neg (show ¬ ((2 : Int) = 3) by decide)]
  have := a1 rfl; have := b2 rfl
  split <;> omega
 ·rw [if_neg (show ¬ ((3 : Int) = 2) by decide), if_pos rfl]
  have := a2 rfl; have := b1 rfl
  split <;> omega
 ·rw [if_pos rfl]
  have := a2 rfl; have := b2 rfl
  split <;> omega
theorem text_eq : ∀ (a b : List UInt8), textR a b = Lib.compareBytes a b
 | [], [] => rfl
 | [], _ :: _ => rfl
 | _ :: _, [] => rfl
 | x :: a, y :: b => by
  have ih := text_eq a b
  unfold textR at ih ⊢
  rw [Lib.compareBytes, ← ih]
  have e1 : ltU (x :: a) (y :: b) = (Nat.blt x.toNat y.toNat || (Nat.beq x.toNat y.toNat && ltU a b)) := rfl
  have e2 : ltU (y :: b) (x :: a) = (Nat.blt y.toNat x.toNat || (Nat.beq y.toNat x.toNat && ltU b a)) := rfl
  rw [e1, e2]
  have bl : ∀ m n : Nat, Nat.blt m n = decide (m < n) := fun m n => by
   cases h : Nat.blt m n
   ·exact (decide_eq_false (fun hh => by rw [show Nat.blt m n = true from by rw [Nat.blt_eq]; exact hh] at h; cases h)).symm
   ·rw [Nat.blt_eq] at h; exact (decide_eq_true h).symm
  have be : ∀ m n : Nat, Nat.beq m n = decide (m = n) := fun m n => by
   cases h : Nat.beq m n
   ·exact (decide_eq_false (fun hh => by subst hh; rw [Nat.beq_refl] at h; cases h)).symm
   ·exact (decide_eq_true (Nat.eq_of_beq_eq_true h)).symm
  rw [bl, bl, be, be]
  by_cases h1 : x < y
  ·have h1' : x.toNat < y.toNat := h1
   rw [if_pos h1, decide_eq_true h1']; rfl
  ·have h1' : ¬ x.toNat < y.toNat := h1
   rw [if_neg h1, decide_eq_false h1']
   by_cases h2 : y < x
   ·have h2' : y.toNat < x.toNat := h2
    rw [if_pos h2, decide_eq_true h2', decide_eq_false (show ¬ x.toNat = y.toNat by omega)]; rfl
   ·have h2' : ¬ y.toNat < x.toNat := h2
    rw [if_neg h2, decide_eq_false h2', decide_eq_true (show x.toNat = y.toNat by omega), decide_eq_true (show y.toNat = x.toNat by omega)]
    simp
theorem compare_eq {k0 n0 : Int} {s0 : ByteArray} {k1 n1 : Int} {s1 : ByteArray} (hn0 : inR n0 = true) (hn1 : inR n1 = true) : compareR k0 n0 s0 k1 n1 s1 = A76.compare k0 n0 s0 k1 n1 s1 := by
 have rk : ∀ k : Int, (k < 0 ∧ A129.rank k = 4) ∨ (5 ≤ k ∧ A129.rank k = 4) ∨ (k = 0 ∧ A129.rank k = 0) ∨ (k = 1 ∧ A129.rank k = 1) ∨ (k = 2 ∧ A129.rank k = 2) ∨ (k = 3 ∧ A129.rank k = 2) ∨ (k = 4 ∧ A129.rank k = 3) := by
  intro k; unfold A129.rank; repeat' split
  all_goals omega
 have nm : ∀ k : Int, isNum k = true ↔ k = 2 ∨ k = 3 := by intro k; unfold isNum; simp
 have r0 := rk k0
 have r1 := rk k1
 unfold compareR A76.compare
 simp only [nm]
 by_cases c1 : (k0 = 2 ∨ k0 = 3) ∧ (k1 = 2 ∨ k1 = 3)
 ·rw [if_pos c1, if_neg (by omega), if_neg (by omega), if_pos (by omega), num_eq c1.1 c1.2 hn0 hn1]
 rw [if_neg c1]
 by_cases c2 : k0 = 4 ∧ k1 = 4
 ·rw [if_pos c2, if_neg (by omega), if_neg (by omega), if_neg (by omega), if_pos (by omega), text_eq]
 rw [if_neg c2]
 by_cases c3 : k0 = 1 ∧ k1 = 1
 ·rw [if_pos c3, if_neg (by omega), if_pos (by omega)]
 rw [if_neg c3]
 by_cases c4 : A129.rank k0 = A129.rank k1
 ·rw [if_neg (by simpa using c4), if_neg (by omega), if_neg (by omega), if_neg (by omega)]
 ·rw [if_pos c4]
def refDecs : List W3 → List W3 × Int
 | [] => ([], 0)
 | v :: l => if (refDecV v.1 v.2.1).2 ≠ 0 then ([], (refDecV v.1 v.2.1).2) else if (refDecs l).2 ≠ 0 then ([], (refDecs l).2) else ((refDecV v.1 v.2.1).1 :: (refDecs l).1, 0)
def takes (s : ByteArray) (best v : W3) : Bool := bif eqU s.data.toList [99, 111, 97, 108, 101, 115, 99, 101] then best.1 == 0 else
 (eqU s.data.toList [103, 114, 101, 97, 116, 101, 115, 116] && decide ((compareR v.1 v.2.1 v.2.2 best.1 best.2.1 best.2.2).1 > 0)) || (eqU s.data.toList [108, 101, 97, 115, 116] && decide ((compareR v.1 v.2.1 v.2.2 best.1 best.2.1 best.2.2).1 < 0))
def chosenR (s : ByteArray) (l : List W3) : W3 := l.tail.foldl (fun b v => bif takes s b v then v else b) (l.headD v0)
def bestR (s : ByteArray) (kind : Int) (l : List W3) : W3 × Int := bif kind == 3 then (bif (refDecs l).2 != 0 then (v0, (refDecs l).2) else (chosenR s (refDecs l).1, 0)) else (chosenR s l, 0)
def conv (kind : Int) (v : W3) : W3 := bif kind == 3 then (A75.decV v.1 v.2.1).1 else v
def err (kind : Int) (v : W3) : Bool := kind == 3 && (v.1 != 0 && (A75.decV v.1 v.2.1).2 != 0)
theorem decV_err {k n : Int} (h : k = 0 ∨ k = 2 ∨ k = 3) (he : (A75.decV k n).2 ≠ 0) : (A75.decV k n).2 = 20 := by
 unfold A75.decV at he ⊢
 split
 ·rename_i h0; rw [if_pos h0] at he; exact absurd rfl he
 ·rename_i h0
  rw [if_neg h0] at he
  rw [if_pos (by omega)] at he ⊢
  split
  ·rename_i h1; rw [if_pos h1] at he; exact absurd rfl he
  ·rfl
theorem go_eq (s : ByteArray) (kind : Int) : ∀ (l : List W3) (p : Bool × W3), (kind = 3 → ∀ v ∈ l, v.1 = 0 ∨ v.1 = 2 ∨ v.1 = 3) →
  (l.any (err kind) = true → (A34L1.go s kind p l).1 = 20) ∧ (l.any (err kind) = false → A34L1.go s kind p l = (0, (((l.filter fun v => v.1 != 0).map (conv kind)).foldl (A34L1.pick s) p).2))
 | [], p, _ => ⟨(fun h => by cases h), fun _ => rfl⟩
 | v :: l, p, hk => by
  have hl : kind = 3 → ∀ v ∈ l, v.1 = 0 ∨ v.1 = 2 ∨ v.1 = 3 := fun h x hx => hk h x (by simp [hx])
  rw [A34L1.go, List.any_cons, List.filter_cons]
  cases hz : v.1 == 0
  ·have hz' : (v.1 != 0) = true := by unfold bne; rw [hz]; rfl
   simp only [cond_false, hz', if_true, List.map_cons, List.foldl_cons]
   cases h3 : kind == 3
   ·have e1 : err kind v = false := by unfold err; rw [h3]; rfl
    have e2 : conv kind v = v := by unfold conv; rw [h3]; rfl
    rw [e1, e2, Bool.false_or]
    exact go_eq s kind l _ hl
   ·have e1 : err kind v = ((A75.decV v.1 v.2.1).2 != 0) := by unfold err; rw [h3, hz']; rfl
    have e2 : conv kind v = (A75.decV v.1 v.2.1).1 := by unfold conv; rw [h3]; rfl
    rw [e1, e2]
    simp only [cond_true]
    cases hd : (A75.decV v.1 v.2.1).2 != 0
    ·rw [Bool.false_or]
     exact go_eq s kind l _ hl
    ·refine ⟨fun _ => ?_, fun h => by cases h⟩
     show (A75.decV v.1 v.2.1).2 = 20
     exact decV_err (hk (beq_iff_eq.1 h3) v (by simp)) (bne_iff_ne.1 hd)
  ·have hz' : (v.1 != 0) = false := by unfold bne; rw [hz]; rfl
   have e1 : err kind v = false := by unfold err; rw [hz']; simp
   rw [e1, Bool.false_or]
   simp only [cond_true, hz', Bool.false_eq_true, if_false]
   exact go_eq s kind l p hl
theorem refDecs_eq : ∀ (l : List W3), (∀ v ∈ l, inR v.2.1 = true ∧ (v.1 = 0 ∨ v.1 = 2 ∨ v.1 = 3)) →
  (l.any (err 3) = true → refDecs l = ([], 20)) ∧ (l.any (err 3) = false → refDecs l = (l.map (conv 3), 0))
 | [], _ => ⟨(fun h => by cases h), fun _ => rfl⟩
 | v :: l, h => by
  obtain ⟨h1, h2⟩ := h v (by simp)
  obtain ⟨i1, i2⟩ := refDecs_eq l fun x hx => h x (by simp [hx])
  rw [refDecs, dec_eq h1, List.any_cons]
  have e2 : conv 3 v = (A75.decV v.1 v.2.1).1 := rfl
  by_cases hd : (A75.decV v.1 v.2.1).2 = 0
  ·have e1 : err 3 v = false := by unfold err; rw [hd]; simp
   rw [e1, Bool.false_or, if_neg (by simpa using hd)]
   refine ⟨fun ha => ?_, fun ha => ?_⟩
   ·rw [i1 ha]; rfl
   ·rw [i2 ha, List.map_cons, e2]; rfl
  ·have hz : v.1 ≠ 0 := fun h0 => by rw [h0] at hd; exact hd rfl
   have e1 : err 3 v = true := by unfold err; rw [bne_iff_ne.2 hz, bne_iff_ne.2 hd]; rfl
   rw [e1, Bool.true_or, if_pos hd, decV_err h2 hd]
   exact ⟨fun _ => rfl, fun h => by cases h⟩
theorem pick_true (s : ByteArray) (hc : eqU s.data.toList [99, 111, 97, 108, 101, 115, 99, 101] = false) : ∀ (l : List W3) (b : W3), inR b.2.1 = true → (∀ v ∈ l, inR v.2.1 = true) → (l.foldl (A34L1.pick s) (true, b)).2 = l.foldl (fun b v => bif takes s b v then v else b) b
 | [], b, _, _ => rfl
 | v :: l, b, hb, hl => by
  have hv := hl v (by simp)
  have hl' : ∀ v ∈ l, inR v.2.1 = true := fun x hx => hl x (by simp [hx])
  have e : A34L1.pick s (true, b) v = (true, bif takes s b v then v else b) := by
   unfold A34L1.pick A34L1.better takes
   rw [hc, compare_eq hv hb]
   simp only [cond_false, Bool.not_true, Bool.false_or]
   cases (eqU s.data.toList [103, 114, 101, 97, 116, 101, 115, 116] && decide ((A76.compare v.1 v.2.1 v.2.2 b.1 b.2.1 b.2.2).1 > 0)) || (eqU s.data.toList [108, 101, 97, 115, 116] && decide ((A76.compare v.1 v.2.1 v.2.2 b.1 b.2.1 b.2.2).1 < 0)) <;> rfl
  rw [List.foldl_cons, e, List.foldl_cons]
  refine pick_true s hc l _ ?_ hl'
  cases takes s b v
  ·exact hb
  ·exact hv
theorem coal_true {s : ByteArray} (hc : eqU s.data.toList [99, 111, 97, 108, 101, 115, 99, 101] = true) : ∀ (l : List W3) (b : W3), (l.foldl (A34L1.pick s) (true, b)).2 = b
 | [], b => rfl
 | v :: l, b => by
  obtain rfl := is_eq hc
  have e : A34L1.pick ⟨#[99, 111, 97, 108, 101, 115, 99, 101]⟩ (true, b) v = (true, b) := rfl
  rw [List.foldl_cons, e]
  exact coal_true hc l b
theorem coal_ref {s : ByteArray} (hc : eqU s.data.toList [99, 111, 97, 108, 101, 115, 99, 101] = true) : ∀ (l : List W3) (b : W3), b.1 ≠ 0 → l.foldl (fun b v => bif takes s b v then v else b) b = b
 | [], b, _ => rfl
 | v :: l, b, hb => by
  have e : takes s b v = false := by unfold takes; rw [hc]; exact beq_eq_false_iff_ne.2 hb
  rw [List.foldl_cons, e]
  exact coal_ref hc l b hb
theorem coal_eq {s : ByteArray} (hc : eqU s.data.toList [99, 111, 97, 108, 101, 115, 99, 101] = true) : ∀ (l : List W3) , (∀ v ∈ l, v.1 = 0 → v = v0) → ((l.filter fun v => v.1 != 0).foldl (A34L1.pick s) (false, v0)).2 = l.foldl (fun b v => bif takes s b v then v else b) v0
 | [], _ => rfl
 | v :: l, h => by
  have hl : ∀ v ∈ l, v.1 = 0 → v = v0 := fun x hx => h x (by simp [hx])
  have e : takes s v0 v = true := by unfold takes; rw [hc]; rfl
  rw [List.filter_cons, List.foldl_cons, e]
  by_cases hz : v.1 = 0
  ·have hz' : (v.1 != 0) = false := by rw [hz]; rfl
   rw [hz']
   simp only [Bool.false_eq_true, if_false, cond_true]
   rw [h v (by simp) hz]
   exact coal_eq hc l hl
  ·have hz' : (v.1 != 0) = true := bne_iff_ne.2 hz
   rw [hz']
   simp only [if_true, cond_true, List.foldl_cons]
   have e2 : A34L1.pick s (false, v0) v = (true, v) := by obtain rfl := is_eq hc; rfl
   rw [e2, coal_true hc, coal_ref hc l v hz]
theorem coal_head {s : ByteArray} (hc : eqU s.data.toList [99, 111, 97, 108, 101, 115, 99, 101] = true) : ∀ (l : List W3), chosenR s l = l.foldl (fun b v => bif takes s b v then v else b) v0
 | [] => rfl
 | v :: l => by
  have e : takes s v0 v = true := by unfold takes; rw [hc]; rfl
  rw [List.foldl_cons, e]; rfl
theorem filter_conv {kind : Int} : ∀ (l : List W3), (∀ v ∈ l, ((conv kind v).1 = 0 ↔ v.1 = 0)) → (l.filter fun v => v.1 != 0).map (conv kind) = (l.map (conv kind)).filter fun v => v.1 != 0
 | [], _ => rfl
 | v :: l, h => by
  have ih := filter_conv l fun x hx => h x (by simp [hx])
  have hv := h v (by simp)
  rw [List.filter_cons, List.map_cons, List.filter_cons]
  by_cases hz : v.1 = 0
  ·have a : (v.1 != 0) = false := by rw [hz]; rfl
   have b : ((conv kind v).1 != 0) = false := by rw [hv.2 hz]; rfl
   rw [a, b]; simpa using ih
  ·have a : (v.1 != 0) = true := bne_iff_ne.2 hz
   have b : ((conv kind v).1 != 0) = true := bne_iff_ne.2 fun h => hz (hv.1 h)
   rw [a, b]
   simp only [if_true, List.map_cons, ih]
theorem conv_null {kind : Int} {v : W3} (ho : A33.okv v.1 v.2.1 v.2.2 = true) (hin : inR v.2.1 = true) (hk : v.1 = 0 ∨ v.1 = kind ∨ (kind = 3 ∧ (v.1 = 2 ∨ v.1 = 3))) (he : err kind v = false) : ((conv kind v).1 = 0 ↔ v.1 = 0) ∧ ((conv kind v).1 = 0 → conv kind v = v0) ∧ inR (conv kind v).2.1 = true := by
 have nul : v.1 = 0 → v = v0 := by
  obtain ⟨k, n, s⟩ := v
  intro h
  simp only at h
  subst h
  have h2 : (n == 0 && eqU s.data.toList []) = true := ho
  simp only [Bool.and_eq_true, beq_iff_eq] at h2
  rw [h2.1, is_eq (l := []) h2.2]; rfl
 unfold conv err at *
 cases h3 : kind == 3
 ·exact ⟨Iff.rfl, nul, hin⟩
 ·have h3' := beq_iff_eq.1 h3
  rw [h3] at he
  simp only [cond_true]
  by_cases hz : v.1 = 0
  ·rw [nul hz]; exact ⟨Iff.rfl, fun _ => rfl, rfl⟩
  ·have h2 : v.1 = 2 ∨ v.1 = 3 := by omega
   have hd : (A75.decV v.1 v.2.1).2 = 0 := by
    rw [bne_iff_ne.2 hz] at he
    exact bne_eq_false_iff_eq.1 he
   have d := decV_fit h2 hd
   refine ⟨⟨(fun h => by rw [d.1] at h; cases h), fun h => absurd h hz⟩, (fun h => by rw [d.1] at h; cases h), ?_⟩
   unfold A75.decV at hd ⊢
   rw [if_neg (by omega), if_pos h2] at hd ⊢
   split
   ·rcases h2 with e | e
    ·rw [e]
     show inR (A127i.dec v.2.1).1 = true
     unfold A127i.dec
     dsimp only
     split
     ·rfl
     ·exact wrap_range _
    ·rw [e]; exact hin
   ·rfl
theorem best_eq (s : ByteArray) (l : List W3) (hok : ∀ v ∈ l, A33.okv v.1 v.2.1 v.2.2 = true) (hin : ∀ v ∈ l, inR v.2.1 = true) (h5 : ∀ k ∈ ks l, Ok5 k) (hr : (A53.res (ks l)).2 = true) (hne : l ≠ [])
  (hs : eqU s.data.toList [99, 111, 97, 108, 101, 115, 99, 101] = true ∨ (eqU s.data.toList [99, 111, 97, 108, 101, 115, 99, 101] = false ∧ (ks l).any (· == 0) = false)) : bestR s (A53.res (ks l)).1 l = chosenP s l := by
 have hfit : ∀ v ∈ l, v.1 = 0 ∨ v.1 = (A53.res (ks l)).1 ∨ ((A53.res (ks l)).1 = 3 ∧ (v.1 = 2 ∨ v.1 = 3)) := fun v hv => alike_fit h5 hr v.1 (List.mem_map_of_mem hv)
 unfold chosenP A34.best
 have ek : (l.map (·.1)) = ks l := rfl
 rw [ek]
 generalize (A53.res (ks l)).1 = kind at hfit ⊢
 have hk3 : kind = 3 → ∀ v ∈ l, v.1 = 0 ∨ v.1 = 2 ∨ v.1 = 3 := fun h v hv => by have := hfit v hv; omega
 obtain ⟨g1, g2⟩ := go_eq s kind l (false, 0, 0, ⟨#[]⟩) hk3
 unfold bestR
 cases he : l.any (err kind)
 ·have g := g2 he
  have hcn : ∀ v ∈ l, ((conv kind v).1 = 0 ↔ v.1 = 0) ∧ ((conv kind v).1 = 0 → conv kind v = v0) ∧ inR (conv kind v).2.1 = true := fun v hv => conv_null (hok v hv) (hin v hv) (hfit v hv) (by have := List.any_eq_false.1 he v hv; simpa using this)
  have key : (((l.filter fun v => v.1 != 0).map (conv kind)).foldl (A34L1.pick s) (false, 0, 0, ⟨#[]⟩)).2 = chosenR s (l.map (conv kind)) := by
   rw [filter_conv l fun v hv => (hcn v hv).1]
   have hall : ∀ u ∈ l.map (conv kind), ∃ v ∈ l, conv kind v = u := fun u hu => by obtain ⟨v, a, b⟩ := List.mem_map.1 hu; exact ⟨v, a, b⟩
   rcases hs with hc | ⟨hc, hz⟩
   ·rw [coal_head hc]
    exact coal_eq hc _ fun u hu h0 => by
     obtain ⟨v, a, rfl⟩ := hall u hu
     exact (hcn v a).2.1 h0
   ·have hz' := nonnull hz
    have ef : (l.map (conv kind)).filter (fun v => v.1 != 0) = l.map (conv kind) := List.filter_eq_self.2 fun u hu => by
     obtain ⟨v, a, rfl⟩ := hall u hu
     exact bne_iff_ne.2 fun h => hz' v a ((hcn v a).1.1 h)
    rw [ef]
    cases l with
    | nil => exact absurd rfl hne
    | cons v l =>
     rw [List.map_cons, List.foldl_cons]
     have e2 : A34L1.pick s (false, 0, 0, ⟨#[]⟩) (conv kind v) = (true, conv kind v) := by
      unfold A34L1.pick A34L1.better; rfl
     rw [e2, pick_true s hc _ _ (hcn v (by simp)).2.2 fun u hu => by
      obtain ⟨x, a, rfl⟩ := List.mem_map.1 hu
      exact (hcn x (by simp [a])).2.2]
     rfl
  rw [g, key]
  cases h3 : kind == 3
  ·have : l.map (conv kind) = l := by
    have : (conv kind) = id := by funext v; unfold conv; rw [h3]; rfl
    rw [this, List.map_id]
   rw [this]; rfl
  ·have h3' := beq_iff_eq.1 h3
   subst h3'
   rw [(refDecs_eq l fun v hv => ⟨hin v hv, hk3 rfl v hv⟩).2 he]; rfl
 ·have g := g1 he
  have h3 : kind = 3 := by
   obtain ⟨v, _, h⟩ := List.any_eq_true.1 he
   unfold err at h
   simp only [Bool.and_eq_true, beq_iff_eq] at h
   exact h.1
  subst h3
  rw [(refDecs_eq l fun v hv => ⟨hin v hv, hk3 rfl v hv⟩).1 he, g]
  rfl
end
section
open Go Go.Proofs.YtaiokpmmjbiajaaGreatDoorDx.Fit
def roundR (s : ByteArray) (n : Int) : Int :=
 bif eqU s.data.toList [102, 108, 111, 111, 114] then (bif decide (n.tmod 10000 < 0) then wr (wr (n.tdiv 10000) - 1) else wr (n.tdiv 10000)) else
 bif eqU s.data.toList [99, 101, 105, 108] then (bif decide (n.tmod 10000 > 0) then wr (wr (n.tdiv 10000) + 1) else wr (n.tdiv 10000)) else
 bif eqU s.data.toList [114, 111, 117, 110, 100] then (bif decide (n.tmod 10000 ≥ 5000) then (bif decide (n.tmod 10000 ≤ -5000) then wr (wr (wr (n.tdiv 10000) + 1) - 1) else wr (wr (n.tdiv 10000) + 1)) else (bif decide (n.tmod 10000 ≤ -5000) then wr (wr (n.tdiv 10000) - 1) else wr (n.tdiv 10000))) else
 wr (n.tdiv 10000)
def refNum (s : ByteArray) (v : W3) : W3 × Int :=
 bif eqU s.data.toList [97, 98, 115] then (bif v.2.1 == -9223372036854775808 then (v0, 20) else ((v.1, (if wr (0 - v.2.1) > v.2.1 then wr (0 - v.2.1) else v.2.1), ⟨#[]⟩), 0)) else
 bif eqU s.data.toList [115, 105, 103, 110] then ((2, signI v.2.1, ⟨#[]⟩), 0) else
 bif eqU s.data.toList [116, 111, 100, 101, 99] then refDecV v.1 v.2.1 else
 bif v.1 == 2 then (v, 0) else ((2, roundR s v.2.1, ⟨#[]⟩), 0)
theorem abs_eq {v : W3} (hk : v.1 = 2 ∨ v.1 = 3) (hs : v.2.2 = ⟨#[]⟩) (hn : inR v.2.1 = true) : refNum ⟨#[97, 98, 115]⟩ v = bif decide (v.2.1 < 0) then A79.negV v.1 v.2.1 else (v, 0) := by
 obtain ⟨k, n, s⟩ := v
 simp only at hk hs hn
 subst hs
 obtain ⟨n1, n2⟩ := inR_iff.1 hn
 show (bif n == -9223372036854775808 then (v0, (20 : Int)) else ((k, (if wr (0 - n) > n then wr (0 - n) else n), ⟨#[]⟩), 0)) = bif decide (n < 0) then A79.negV k n else ((k, n, ⟨#[]⟩), 0)
 have hk0 : ¬ k = 0 := by omega
 have eN : A79.negV k n = (if n = IntKind.wrap .i64 (0 - n) ∧ n ≠ 0 then (v0, 20) else ((k, IntKind.wrap .i64 (0 - n), ⟨#[]⟩), 0)) := by
  unfold A79.negV
  rw [if_neg hk0, if_pos hk]
 rw [eN]
 by_cases h1 : n = -9223372036854775808
 ·subst h1
  rw [if_pos (show (-9223372036854775808 : Int) = IntKind.wrap .i64 (0 - -9223372036854775808) ∧ (-9223372036854775808 : Int) ≠ 0 by decide)]
  rfl
 ·have e : wr (0 - n) = 0 - n := wr_in (by omega) (by omega)
  have e' : IntKind.wrap .i64 (0 - n) = 0 - n := e
  rw [beq_eq_false_iff_ne.2 h1, e']
  simp only [e, cond_false]
  by_cases h2 : n < 0
  ·rw [decide_eq_true h2, if_pos (show 0 - n > n by omega), if_neg (show ¬ (n = 0 - n ∧ n ≠ 0) by omega)]; rfl
  ·rw [decide_eq_false h2]
   simp only [cond_false]
   have : (if 0 - n > n then 0 - n else n) = n := by split <;> omega
   rw [this]
theorem rnd_eq {s : ByteArray} {v : W3} (hk : v.1 = 2 ∨ v.1 = 3) (hn : inR v.2.1 = true) (hs : s = ⟨#[99, 101, 105, 108]⟩ ∨ s = ⟨#[102, 108, 111, 111, 114]⟩ ∨ s = ⟨#[114, 111, 117, 110, 100]⟩) : refNum s v = rndP s v := by
 obtain ⟨k, n, t⟩ := v
 simp only at hk hn
 obtain ⟨n1, n2⟩ := inR_iff.1 hn
 obtain ⟨q1, q2, q3, q4, q5⟩ := quot n
 have e : IntKind.wrap .i64 (0 - n.tmod 10000) = 0 - n.tmod 10000 := wr_in (by omega) (by omega)
 have key : roundR s n = A80.rnd s n := by
  unfold roundR A80.rnd
  rcases hs with rfl | rfl | rfl
  ·show (bif decide (n.tmod 10000 > 0) then wr (wr (n.tdiv 10000) + 1) else wr (n.tdiv 10000)) = (bif (true && decide (Int.tmod n 10000 > 0)) || (false && decide (Int.tmod n 10000 ≥ 5000)) then _ else bif (false && decide (Int.tmod n 10000 < 0)) || (false && decide (IntKind.wrap .i64 (0 - Int.tmod n 10000) ≥ 5000)) then _ else _)
   simp only [Bool.true_and, Bool.false_and, Bool.or_false, cond_false]
  ·show (bif decide (n.tmod 10000 < 0) then wr (wr (n.tdiv 10000) - 1) else wr (n.tdiv 10000)) = (bif (false && decide (Int.tmod n 10000 > 0)) || (false && decide (Int.tmod n 10000 ≥ 5000)) then _ else bif (true && decide (Int.tmod n 10000 < 0)) || (false && decide (IntKind.wrap .i64 (0 - Int.tmod n 10000) ≥ 5000)) then _ else _)
   simp only [Bool.true_and, Bool.false_and, Bool.or_false, cond_false]
  ·show (bif decide (n.tmod 10000 ≥ 5000) then (bif decide (n.tmod 10000 ≤ -5000) then wr (wr (wr (n.tdiv 10000) + 1) - 1) else wr (wr (n.tdiv 10000) + 1)) else (bif decide (n.tmod 10000 ≤ -5000) then wr (wr (n.tdiv 10000) - 1) else wr (n.tdiv 10000))) = (bif (false && decide (Int.tmod n 10000 > 0)) || (true && decide (Int.tmod n 10000 ≥ 5000)) then _ else bif (false && decide (Int.tmod n 10000 < 0)) || (true && decide (IntKind.wrap .i64 (0 - Int.tmod n 10000) ≥ 5000)) then _ else _)
   simp only [Bool.true_and, Bool.false_and, Bool.false_or]
   rw [e]
   by_cases h1 : n.tmod 10000 ≥ 5000
   ·rw [decide_eq_true h1, decide_eq_false (show ¬ n.tmod 10000 ≤ -5000 by omega)]; rfl
   ·rw [decide_eq_false h1]
    by_cases h2 : n.tmod 10000 ≤ -5000
    ·rw [decide_eq_true h2, decide_eq_true (show 0 - n.tmod 10000 ≥ 5000 by omega)]; rfl
    ·rw [decide_eq_false h2, decide_eq_false (show ¬ 0 - n.tmod 10000 ≥ 5000 by omega)]; rfl
 have e0 : refNum s (k, n, t) = (bif k == 2 then ((k, n, t), 0) else ((2, roundR s n, ⟨#[]⟩), 0)) := by rcases hs with rfl | rfl | rfl <;> rfl
 rw [e0, key]; rfl
theorem toint_eq {v : W3} (hk : v.1 = 2 ∨ v.1 = 3) (hs : v.2.2 = ⟨#[]⟩) : refNum ⟨#[116, 111, 105, 110, 116]⟩ v = A82.intV v.1 v.2.1 := by
 obtain ⟨k, n, s⟩ := v
 simp only at hk hs
 subst hs
 rcases hk with rfl | rfl <;> rfl
end
section
open Go Go.Proofs.YtaiokpmmjbiajaaGreatDoorDx.Fit Go.Proofs.YtaiokpmmjbiajaaGreatDoorU8 Go.Proofs.YtaiokpmmjbiajaaGreatDoorTxt
def catR : List UInt8 → List W3 → Option (List UInt8)
 | out, [] => some out
 | out, v :: l => if (out ++ v.2.2.data.toList).length > 1024 then none else catR (out ++ v.2.2.data.toList) l
def concatR (l : List W3) : W3 × Int := match catR [] l with
 | none => (v0, 20)
 | some out => textV ⟨out.toArray⟩
theorem cat_data : ∀ (l : List W3) (a : ByteArray), (l.foldl (fun s v => A37L0.catB s v.2.2) a).data.toList = a.data.toList ++ l.flatMap (fun v => v.2.2.data.toList)
 | [], a => by simp
 | v :: l, a => by rw [List.foldl_cons, cat_data l, catB_data, List.flatMap_cons, List.append_assoc]
theorem catR_eq : ∀ (l : List W3) (out : List UInt8), (catR out l = none ∧ (out ++ l.flatMap (fun v => v.2.2.data.toList)).length > 1024) ∨ catR out l = some (out ++ l.flatMap (fun v => v.2.2.data.toList))
 | [], out => .inr (by simp [catR])
 | v :: l, out => by
  rw [catR, List.flatMap_cons, ← List.append_assoc]
  split
  ·left
   refine ⟨rfl, ?_⟩
   rw [List.length_append]; omega
  ·exact catR_eq l _
theorem concat_eq (l : List W3) : concatR l = textV (A37L0.cat l) := by
 have hd : (A37L0.cat l).data.toList = l.flatMap (fun v => v.2.2.data.toList) := by
  have := cat_data l ⟨#[]⟩
  exact this.trans (List.nil_append _)
 unfold concatR
 rcases catR_eq l [] with ⟨h1, h2⟩ | h1
 ·rw [h1]
  rw [List.nil_append] at h2
  unfold textV
  rw [hd, decide_eq_true (show Int.ofNat (l.flatMap fun v => v.2.2.data.toList).length > 1024 by show ((l.flatMap fun v => v.2.2.data.toList).length : Int) > 1024; omega)]; rfl
 ·rw [h1, List.nil_append, ← hd]
def contb (b : UInt8) : Bool := decide (128 ≤ b.toNat) && decide (b.toNat < 192)
def piecesN : Nat → List UInt8 → List (List UInt8)
 | 0, _ => []
 | _ + 1, [] => []
 | n + 1, b :: l => (b :: l.takeWhile contb) :: piecesN n (l.dropWhile contb)
def pieces (l : List UInt8) : List (List UInt8) := piecesN l.length l
theorem enc_head {x : Int} (h : Scal x) : ∃ b t, enc x = b :: t ∧ contb b = false ∧ t.all contb = true := by
 have hh := enc_eq h
 have ct : ∀ {n : Nat}, 128 ≤ n → n < 192 → contb (UInt8.ofNat n) = true := by intro n h1 h2; unfold contb; rw [tn (by omega)]; simp [h1, h2]
 have cf : ∀ {n : Nat}, n < 256 → (n < 128 ∨ 192 ≤ n) → contb (UInt8.ofNat n) = false := by
  intro n h1 h2; unfold contb; rw [tn h1]; simp; omega
 unfold Scal at h
 by_cases c1 : x < 128
 ·rw [if_pos c1] at hh
  exact ⟨_, _, hh, cf (by omega) (by omega), rfl⟩
 by_cases c2 : x < 2048
 ·rw [if_neg c1, if_pos c2] at hh
  refine ⟨_, _, hh, cf (by omega) (by omega), ?_⟩
  simp only [List.all_cons, List.all_nil, Bool.and_true]
  exact ct (by omega) (by omega)
 by_cases c3 : x < 65536
 ·rw [if_neg c1, if_neg c2, if_pos c3] at hh
  refine ⟨_, _, hh, cf (by omega) (by omega), ?_⟩
  simp only [List.all_cons, List.all_nil, Bool.and_true, Bool.and_eq_true]
  exact ⟨ct (by omega) (by omega), ct (by omega) (by omega)⟩
 ·rw [if_neg c1, if_neg c2, if_neg c3] at hh
  refine ⟨_, _, hh, cf (by omega) (by omega), ?_⟩
  simp only [List.all_cons, List.all_nil, Bool.and_true, Bool.and_eq_true]
  exact ⟨ct (by omega) (by omega), ct (by omega) (by omega), ct (by omega) (by omega)⟩
theorem take_all {p : UInt8 → Bool} : ∀ {t r : List UInt8}, t.all p = true → (∀ b r', r = b :: r' → p b = false) → (t ++ r).takeWhile p = t ∧ (t ++ r).dropWhile p = r
 | [], r, _, hr => by
  cases r with
  | nil => exact ⟨rfl, rfl⟩
  | cons b r' =>
   have := hr b r' rfl
   simp [List.takeWhile, List.dropWhile, this]
 | x :: t, r, h, hr => by
  simp only [List.all_cons, Bool.and_eq_true] at h
  obtain ⟨a, b⟩ := take_all h.2 hr
  simp only [List.cons_append, List.takeWhile, List.dropWhile, h.1, a, b]
  exact ⟨trivial, trivial⟩
theorem piecesN_u8s : ∀ (p : List Int) (n : Nat), (∀ x ∈ p, Scal x) → (u8s p).length ≤ n → piecesN n (u8s p) = p.map enc
 | [], n, _, _ => by cases n <;> rfl
 | x :: p, n, h, hn => by
  obtain ⟨b, t, e, h1, h2⟩ := enc_head (h x (by simp))
  rw [u8s_cons, e] at hn ⊢
  have hhead : ∀ c r, u8s p = c :: r → contb c = false := by
   intro c r hc
   cases p with
   | nil => cases hc
   | cons y q =>
    obtain ⟨b', t', e', h1', h2'⟩ := enc_head (h y (by simp))
    rw [u8s_cons, e'] at hc
    cases hc
    exact h1'
  obtain ⟨a1, a2⟩ := take_all h2 hhead
  cases n with
  | zero => simp at hn
  | succ n =>
   rw [List.cons_append, piecesN, a1, a2, List.map_cons, e, piecesN_u8s p n (fun y hy => h y (by simp [hy])) (by simp at hn; omega)]
theorem pieces_u8s (p : List Int) (h : ∀ x ∈ p, Scal x) : pieces (u8s p) = p.map enc := piecesN_u8s p _ h (Nat.le_refl _)
theorem length_eq (s : ByteArray) (h : Lib.validD s.data.toList = true) : Int.ofNat (pieces s.data.toList).length = Int.ofNat (Lib.runeCount s) := by
 obtain ⟨p, h1, h2⟩ := valid_pts h
 rw [data_T h2, T_data, pieces_u8s p h1, count_eq p h1, List.length_map]
def fromR (l : List (List UInt8)) (a : Int) : Int := max 0 (min a (Int.ofNat l.length))
def cntR (l : List (List UInt8)) (a b : Int) : Int := max 0 (min b (Int.ofNat l.length - fromR l a))
def substrR (s : ByteArray) (a b : Int) : List UInt8 := (((pieces s.data.toList).drop (fromR (pieces s.data.toList) a).toNat).take (cntR (pieces s.data.toList) a b).toNat).flatten
theorem substr_eq (s : ByteArray) (h : Lib.validD s.data.toList = true) (a b : Int) : (⟨(substrR s a b).toArray⟩ : ByteArray) = pieceB s a b := by
 obtain ⟨p, h1, h2⟩ := valid_pts h
 have hs := data_T h2
 subst hs
 rw [piece_eq p h1]
 unfold substrR T
 rw [List.toList_toArray, pieces_u8s p h1]
 have e1 : (fromR (p.map enc) a).toNat = _root_.Go.Proofs.YtaiokpmmjbiajaaGreatDoorTxt.from_ p a := by
  unfold fromR _root_.Go.Proofs.YtaiokpmmjbiajaaGreatDoorTxt.from_
  rw [List.length_map]
  show (max 0 (min a (p.length : Int))).toNat = _
  omega
 have e2 : (cntR (p.map enc) a b).toNat = _root_.Go.Proofs.YtaiokpmmjbiajaaGreatDoorTxt.cnt p a b := by
  unfold cntR fromR _root_.Go.Proofs.YtaiokpmmjbiajaaGreatDoorTxt.cnt
  rw [List.length_map]
  show (max 0 (min b ((p.length : Int) - max 0 (min a (p.length : Int))))).toNat = _
  omega
 rw [e1, e2, ← List.map_drop, ← List.map_take]
 rfl
def trimR (l : List UInt8) : List UInt8 := Lib.trimRightB (Lib.trimLeftB l 32) 32
theorem dw_app (p : UInt8 → Bool) (a : List UInt8) (x : UInt8) : (a ++ [x]).dropWhile p = if a.all p = true then (if p x = true then [] else [x]) else a.dropWhile p ++ [x] := by
 induction a with
 | nil => simp [List.dropWhile]; cases p x <;> simp
 | cons y a ih =>
  rw [List.cons_append, List.dropWhile_cons, List.dropWhile_cons, List.all_cons, ih]
  cases hy : p y <;> simp
theorem dw_nil {p : UInt8 → Bool} : ∀ {a : List UInt8}, a.all p = true → a.dropWhile p = []
 | [], _ => rfl
 | x :: a, h => by
  simp only [List.all_cons, Bool.and_eq_true] at h
  rw [List.dropWhile_cons, h.1]
  exact dw_nil h.2
theorem trim_comm (p : UInt8 → Bool) : ∀ l : List UInt8, ((l.reverse.dropWhile p).reverse).dropWhile p = ((l.dropWhile p).reverse.dropWhile p).reverse
 | [] => rfl
 | x :: l => by
  have ih := trim_comm p l
  rw [List.reverse_cons, dw_app, List.dropWhile_cons]
  cases hx : p x
  ·simp only [Bool.false_eq_true, if_false]
   rw [List.reverse_cons, dw_app]
   simp only [hx, Bool.false_eq_true, if_false]
   split
   ·simp [List.dropWhile, hx]
   ·rw [List.reverse_append, List.reverse_singleton, List.singleton_append, List.dropWhile_cons, hx]; simp
  ·simp only [if_true]
   rw [← ih]
   split
   ·rename_i ha
    rw [dw_nil ha]
   ·rw [List.reverse_append, List.reverse_singleton, List.singleton_append, List.dropWhile_cons, hx]; simp
theorem trim_eq (l : List UInt8) : trimR l = Lib.trimB l 32 := (trim_comm (· == 32) l).symm
def oneR (fr tw : Int) (c : UInt8) : UInt8 := if fr ≤ (c.toNat : Int) ∧ (c.toNat : Int) ≤ fr + 25 then UInt8.ofNat ((c.toNat : Int) - fr + tw).toNat else c
def casedR (fr tw : Int) (s : ByteArray) : ByteArray := ⟨(s.data.toList.map (oneR fr tw)).toArray⟩
theorem lower_eq (s : ByteArray) : casedR 65 97 s = casedB 65 90 32 s := by
 unfold casedR casedB
 congr 2
 refine List.map_congr_left fun c _ => ?_
 unfold oneR one
 have := c.toNat_lt
 by_cases h : (65 : Int) ≤ (c.toNat : Int) ∧ (c.toNat : Int) ≤ 90
 ·rw [if_pos (by omega), if_pos h]
  congr 1; omega
 ·rw [if_neg (by omega), if_neg h]
theorem upper_eq (s : ByteArray) : casedR 97 65 s = casedB 97 122 (-32) s := by
 unfold casedR casedB
 congr 2
 refine List.map_congr_left fun c _ => ?_
 unfold oneR one
 have := c.toNat_lt
 by_cases h : (97 : Int) ≤ (c.toNat : Int) ∧ (c.toNat : Int) ≤ 122
 ·rw [if_pos (by omega), if_pos h]
  congr 1; omega
 ·rw [if_neg (by omega), if_neg h]
def textual (s : ByteArray) (l : List W3) : W3 × Int :=
 let t := (l.headD v0).2.2
 bif eqU s.data.toList [99, 111, 110, 99, 97, 116] then concatR l else
 bif eqU s.data.toList [108, 101, 110, 103, 116, 104] then ((2, Int.ofNat (pieces t.data.toList).length, ⟨#[]⟩), 0) else
 bif eqU s.data.toList [108, 111, 119, 101, 114] then textV (casedR 65 97 t) else
 bif eqU s.data.toList [117, 112, 112, 101, 114] then textV (casedR 97 65 t) else
 bif eqU s.data.toList [116, 114, 105, 109] then textV ⟨(trimR t.data.toList).toArray⟩ else
 textV ⟨(substrR t (l.getD 1 v0).2.1 (l.getD 2 v0).2.1).toArray⟩
def same (a b : W3) : Bool := A35.tru (bif a.1 == 0 || b.1 == 0 then 0 else 1) (bif (compareR a.1 a.2.1 a.2.2 b.1 b.2.1 b.2.2).2 && (compareR a.1 a.2.1 a.2.2 b.1 b.2.1 b.2.2).1 == 0 then 1 else 0)
def RefCall (s : ByteArray) (l : List W3) : W3 × Int :=
 bif (kindR s (l.map (·.1))).2 != 0 then (v0, (kindR s (l.map (·.1))).2) else
 bif l.any A10L1.bad then (v0, 22) else
 bif eqU s.data.toList [110, 117, 108, 108, 105, 102] then (bif same (l.headD v0) (l.getD 1 v0) then (v0, 0) else (l.headD v0, 0)) else
 bif (l.map (·.1)).any (· == 0) && !eqU s.data.toList [99, 111, 97, 108, 101, 115, 99, 101] then (v0, 0) else
 bif eqU s.data.toList [99, 111, 97, 108, 101, 115, 99, 101] then bestR s (kindR s (l.map (·.1))).1 l else
 bif eqU s.data.toList [103, 114, 101, 97, 116, 101, 115, 116] then bestR s (kindR s (l.map (·.1))).1 l else
 bif eqU s.data.toList [108, 101, 97, 115, 116] then bestR s (kindR s (l.map (·.1))).1 l else
 bif eqU s.data.toList [97, 98, 115] then refNum s (l.headD v0) else
 bif eqU s.data.toList [99, 101, 105, 108] then refNum s (l.headD v0) else
 bif eqU s.data.toList [102, 108, 111, 111, 114] then refNum s (l.headD v0) else
 bif eqU s.data.toList [114, 111, 117, 110, 100] then refNum s (l.headD v0) else
 bif eqU s.data.toList [115, 105, 103, 110] then refNum s (l.headD v0) else
 bif eqU s.data.toList [116, 111, 100, 101, 99] then refNum s (l.headD v0) else
 bif eqU s.data.toList [116, 111, 105, 110, 116] then refNum s (l.headD v0) else
 bif eqU s.data.toList [116, 111, 116, 101, 120, 116] then (bif (l.headD v0).1 == 4 then (l.headD v0, 0) else textV (showB (l.headD v0).1 (l.headD v0).2.1 (l.headD v0).2.2)) else
 textual s l
theorem call_eq (s : ByteArray) (l : List W3) (hin : ∀ v ∈ l, inR v.2.1 = true) : RefCall s l = CallV s l := by
 unfold RefCall CallV
 rw [kind_eq]
 cases hk : (kindP s (l.map (·.1))).2 != 0
 rotate_left
 ·rfl
 have hk := bne_eq_false_iff_eq.1 hk
 simp only [cond_false]
 cases hbad : l.any A10L1.bad
 rotate_left
 ·rfl
 have hok := okv_of hbad
 simp only [cond_false]
 have hb5 : (ks l).any A14L0.bad = false := by
  cases hb : (ks l).any A14L0.bad
  ·rfl
  ·unfold kindP at hk
   rw [show (l.map (·.1)).any A14L0.bad = true from hb] at hk
   cases hk
 have h5 := Ok5_of hb5
 have hin0 : inR (l.headD v0).2.1 = true := by cases l with
  | nil => rfl
  | cons v l => exact hin v (by simp)
 have hin1 : inR (l.getD 1 v0).2.1 = true := by match l with
  | [] => rfl
  | [_] => rfl
  | v :: u :: l => exact hin u (by simp)
 have hkind := hk
 have hkp := kindV_two s (ks l)
 unfold kindP at hkind
 rw [show (l.map (·.1)).any A14L0.bad = false from hb5] at hkind
 simp only [cond_false] at hkind
 cases h_abs : eqU s.data.toList [97, 98, 115]
 rotate_left
 ·obtain rfl := is_eq h_abs
  have hkind : (rP (A14.num (ks l)) ((ks l).headD 0)).2 = 0 := hkind
  obtain ⟨hn, hkd⟩ := rP0 hkind
  clear hkp hkind hk h_abs
  show (bif (ks l).any (· == 0) && true then (v0, 0) else refNum ⟨#[97, 98, 115]⟩ (l.headD v0)) = (bif (ks l).any (· == 0) then (v0, 0) else (bif decide ((l.headD v0).2.1 < 0) then A79.negV (l.headD v0).1 (l.headD v0).2.1 else (l.headD v0, 0)))
  cases hz : (ks l).any (· == 0)
  rotate_left
  ·rfl
  obtain ⟨v, rfl, h2, hs⟩ := one_num hok hn hz
  exact abs_eq h2 hs hin0
 simp only [h_abs, cond_false] at hkind
 cases h_ceil : eqU s.data.toList [99, 101, 105, 108]
 rotate_left
 ·obtain rfl := is_eq h_ceil
  have hkind : (rP (A14.num (ks l)) 2).2 = 0 := hkind
  obtain ⟨hn, hkd⟩ := rP0 hkind
  clear hkp hkind hk h_ceil
  show (bif (ks l).any (· == 0) && true then (v0, 0) else refNum ⟨#[99, 101, 105, 108]⟩ (l.headD v0)) = (bif (ks l).any (· == 0) then (v0, 0) else rndP ⟨#[99, 101, 105, 108]⟩ (l.headD v0))
  cases hz : (ks l).any (· == 0)
  rotate_left
  ·rfl
  obtain ⟨v, rfl, h2, hs⟩ := one_num hok hn hz
  exact rnd_eq h2 hin0 (.inl rfl)
 simp only [h_ceil, cond_false] at hkind
 cases h_floor : eqU s.data.toList [102, 108, 111, 111, 114]
 rotate_left
 ·obtain rfl := is_eq h_floor
  have hkind : (rP (A14.num (ks l)) 2).2 = 0 := hkind
  obtain ⟨hn, hkd⟩ := rP0 hkind
  clear hkp hkind hk h_floor
  show (bif (ks l).any (· == 0) && true then (v0, 0) else refNum ⟨#[102, 108, 111, 111, 114]⟩ (l.headD v0)) = (bif (ks l).any (· == 0) then (v0, 0) else rndP ⟨#[102, 108, 111, 111, 114]⟩ (l.headD v0))
  cases hz : (ks l).any (· == 0)
  rotate_left
  ·rfl
  obtain ⟨v, rfl, h2, hs⟩ := one_num hok hn hz
  exact rnd_eq h2 hin0 (.inr (.inl rfl))
 simp only [h_floor, cond_false] at hkind
 cases h_round : eqU s.data.toList [114, 111, 117, 110, 100]
 rotate_left
 ·obtain rfl := is_eq h_round
  have hkind : (rP (A14.num (ks l)) 2).2 = 0 := hkind
  obtain ⟨hn, hkd⟩ := rP0 hkind
  clear hkp hkind hk h_round
  show (bif (ks l).any (· == 0) && true then (v0, 0) else refNum ⟨#[114, 111, 117, 110, 100]⟩ (l.headD v0)) = (bif (ks l).any (· == 0) then (v0, 0) else rndP ⟨#[114, 111, 117, 110, 100]⟩ (l.headD v0))
  cases hz : (ks l).any (· == 0)
  rotate_left
  ·rfl
  obtain ⟨v, rfl, h2, hs⟩ := one_num hok hn hz
  exact rnd_eq h2 hin0 (.inr (.inr rfl))
 simp only [h_round, cond_false] at hkind
 cases h_sign : eqU s.data.toList [115, 105, 103, 110]
 rotate_left
 ·obtain rfl := is_eq h_sign
  have hkind : (rP (A14.num (ks l)) 2).2 = 0 := hkind
  obtain ⟨hn, hkd⟩ := rP0 hkind
  clear hkp hkind hk h_sign
  show (bif (ks l).any (· == 0) && true then (v0, 0) else refNum ⟨#[115, 105, 103, 110]⟩ (l.headD v0)) = (bif (ks l).any (· == 0) then (v0, 0) else ((2, signI (l.headD v0).2.1, ⟨#[]⟩), 0))
  cases hz : (ks l).any (· == 0)
  rotate_left
  ·rfl
  rfl
 simp only [h_sign, cond_false] at hkind
 cases h_toint : eqU s.data.toList [116, 111, 105, 110, 116]
 rotate_left
 ·obtain rfl := is_eq h_toint
  have hkind : (rP (A14.num (ks l)) 2).2 = 0 := hkind
  obtain ⟨hn, hkd⟩ := rP0 hkind
  clear hkp hkind hk h_toint
  show (bif (ks l).any (· == 0) && true then (v0, 0) else refNum ⟨#[116, 111, 105, 110, 116]⟩ (l.headD v0)) = (bif (ks l).any (· == 0) then (v0, 0) else A82.intV (l.headD v0).1 (l.headD v0).2.1)
  cases hz : (ks l).any (· == 0)
  rotate_left
  ·rfl
  obtain ⟨v, rfl, h2, hs⟩ := one_num hok hn hz
  exact toint_eq h2 hs
 simp only [h_toint, cond_false] at hkind
 cases h_todec : eqU s.data.toList [116, 111, 100, 101, 99]
 rotate_left
 ·obtain rfl := is_eq h_todec
  have hkind : (rP (A14.num (ks l)) 3).2 = 0 := hkind
  obtain ⟨hn, hkd⟩ := rP0 hkind
  clear hkp hkind hk h_todec
  show (bif (ks l).any (· == 0) && true then (v0, 0) else refNum ⟨#[116, 111, 100, 101, 99]⟩ (l.headD v0)) = (bif (ks l).any (· == 0) then (v0, 0) else A75.decV (l.headD v0).1 (l.headD v0).2.1)
  cases hz : (ks l).any (· == 0)
  rotate_left
  ·rfl
  exact dec_eq hin0
 simp only [h_todec, cond_false] at hkind
 cases h_coalesce : eqU s.data.toList [99, 111, 97, 108, 101, 115, 99, 101]
 rotate_left
 ·obtain rfl := is_eq h_coalesce
  have hkind : (rP ((A53.res (ks l)).2 && decide (Int.ofNat (ks l).length ≥ 1)) (A53.res (ks l)).1).2 = 0 := hkind
  obtain ⟨hn, hkd⟩ := rP0 hkind
  clear hkp hkind hk h_coalesce
  simp only [Bool.and_eq_true, decide_eq_true_eq] at hn
  have hne : l ≠ [] := fun e => by subst e; exact absurd hn.2 (by decide)
  have hkd : (kindP ⟨#[99, 111, 97, 108, 101, 115, 99, 101]⟩ (l.map (·.1))).1 = (A53.res (ks l)).1 := by
   unfold kindP
   rw [show (l.map (·.1)).any A14L0.bad = false from hb5]
   exact hkd
  show (bif (ks l).any (· == 0) && false then (v0, 0) else bestR ⟨#[99, 111, 97, 108, 101, 115, 99, 101]⟩ (kindP ⟨#[99, 111, 97, 108, 101, 115, 99, 101]⟩ (l.map (·.1))).1 l) = chosenP ⟨#[99, 111, 97, 108, 101, 115, 99, 101]⟩ l
  rw [Bool.and_false, hkd]
  exact best_eq _ l hok hin h5 hn.1 hne (.inl rfl)
 simp only [h_coalesce, cond_false] at hkind
 cases h_greatest : eqU s.data.toList [103, 114, 101, 97, 116, 101, 115, 116]
 rotate_left
 ·obtain rfl := is_eq h_greatest
  have hkind : (rP ((A53.res (ks l)).2 && decide (Int.ofNat (ks l).length ≥ 1)) (A53.res (ks l)).1).2 = 0 := hkind
  obtain ⟨hn, hkd⟩ := rP0 hkind
  clear hkp hkind hk h_greatest
  simp only [Bool.and_eq_true, decide_eq_true_eq] at hn
  have hne : l ≠ [] := fun e => by subst e; exact absurd hn.2 (by decide)
  have hkd : (kindP ⟨#[103, 114, 101, 97, 116, 101, 115, 116]⟩ (l.map (·.1))).1 = (A53.res (ks l)).1 := by
   unfold kindP
   rw [show (l.map (·.1)).any A14L0.bad = false from hb5]
   exact hkd
  show (bif (ks l).any (· == 0) && true then (v0, 0) else bestR ⟨#[103, 114, 101, 97, 116, 101, 115, 116]⟩ (kindP ⟨#[103, 114, 101, 97, 116, 101, 115, 116]⟩ (l.map (·.1))).1 l) = (bif (ks l).any (· == 0) then (v0, 0) else chosenP ⟨#[103, 114, 101, 97, 116, 101, 115, 116]⟩ l)
  cases hz : (ks l).any (· == 0)
  rotate_left
  ·rfl
  rw [hkd]
  exact best_eq _ l hok hin h5 hn.1 hne (.inr ⟨rfl, hz⟩)
 simp only [h_greatest, cond_false] at hkind
 cases h_least : eqU s.data.toList [108, 101, 97, 115, 116]
 rotate_left
 ·obtain rfl := is_eq h_least
  have hkind : (rP ((A53.res (ks l)).2 && decide (Int.ofNat (ks l).length ≥ 1)) (A53.res (ks l)).1).2 = 0 := hkind
  obtain ⟨hn, hkd⟩ := rP0 hkind
  clear hkp hkind hk h_least
  simp only [Bool.and_eq_true, decide_eq_true_eq] at hn
  have hne : l ≠ [] := fun e => by subst e; exact absurd hn.2 (by decide)
  have hkd : (kindP ⟨#[108, 101, 97, 115, 116]⟩ (l.map (·.1))).1 = (A53.res (ks l)).1 := by
   unfold kindP
   rw [show (l.map (·.1)).any A14L0.bad = false from hb5]
   exact hkd
  show (bif (ks l).any (· == 0) && true then (v0, 0) else bestR ⟨#[108, 101, 97, 115, 116]⟩ (kindP ⟨#[108, 101, 97, 115, 116]⟩ (l.map (·.1))).1 l) = (bif (ks l).any (· == 0) then (v0, 0) else chosenP ⟨#[108, 101, 97, 115, 116]⟩ l)
  cases hz : (ks l).any (· == 0)
  rotate_left
  ·rfl
  rw [hkd]
  exact best_eq _ l hok hin h5 hn.1 hne (.inr ⟨rfl, hz⟩)
 simp only [h_least, cond_false] at hkind
 cases h_nullif : eqU s.data.toList [110, 117, 108, 108, 105, 102]
 rotate_left
 ·obtain rfl := is_eq h_nullif
  have hkind : (rP (Int.ofNat (ks l).length == 2 && (A53.res (ks l)).2) ((ks l).headD 0)).2 = 0 := hkind
  obtain ⟨hn, hkd⟩ := rP0 hkind
  clear hkp hkind hk h_nullif
  show (bif same (l.headD v0) (l.getD 1 v0) then (v0, 0) else (l.headD v0, 0)) = _
  unfold same
  rw [compare_eq hin0 hin1]; rfl
 simp only [h_nullif, cond_false] at hkind
 cases h_concat : eqU s.data.toList [99, 111, 110, 99, 97, 116]
 rotate_left
 ·obtain rfl := is_eq h_concat
  have hkind : (rP ((ks l).foldl (fun b k => b && A14L1.ok1 k) (decide (Int.ofNat (ks l).length ≥ 1))) 4).2 = 0 := hkind
  obtain ⟨hn, hkd⟩ := rP0 hkind
  clear hkp hkind hk h_concat
  show (bif (ks l).any (· == 0) && true then (v0, 0) else concatR l) = (bif (ks l).any (· == 0) then (v0, 0) else textV (A37L0.cat l))
  cases hz : (ks l).any (· == 0)
  rotate_left
  ·rfl
  exact concat_eq l
 simp only [h_concat, cond_false] at hkind
 cases h_length : eqU s.data.toList [108, 101, 110, 103, 116, 104]
 rotate_left
 ·obtain rfl := is_eq h_length
  have hkind : (rP (A14.txt (ks l)) 2).2 = 0 := hkind
  obtain ⟨hn, hkd⟩ := rP0 hkind
  clear hkp hkind hk h_length
  show (bif (ks l).any (· == 0) && true then (v0, 0) else ((2, Int.ofNat (pieces (l.headD v0).2.2.data.toList).length, ⟨#[]⟩), 0)) = (bif (ks l).any (· == 0) then (v0, 0) else ((2, Int.ofNat (Lib.runeCount (l.headD v0).2.2), ⟨#[]⟩), 0))
  cases hz : (ks l).any (· == 0)
  rotate_left
  ·rfl
  obtain ⟨v, rfl, h4, h6, h7⟩ := one_txt hok hn hz
  simp only [Bool.false_and, cond_false]
  have := length_eq v.2.2 h7
  show ((2, Int.ofNat (pieces v.2.2.data.toList).length, (⟨#[]⟩ : ByteArray)), (0 : Int)) = ((2, Int.ofNat (Lib.runeCount v.2.2), ⟨#[]⟩), 0)
  rw [this]
 simp only [h_length, cond_false] at hkind
 cases h_lower : eqU s.data.toList [108, 111, 119, 101, 114]
 rotate_left
 ·obtain rfl := is_eq h_lower
  have hkind : (rP (A14.txt (ks l)) 4).2 = 0 := hkind
  obtain ⟨hn, hkd⟩ := rP0 hkind
  clear hkp hkind hk h_lower
  show (bif (ks l).any (· == 0) && true then (v0, 0) else textV (casedR 65 97 (l.headD v0).2.2)) = (bif (ks l).any (· == 0) then (v0, 0) else textV (_root_.Go.Proofs.YtaiokpmmjbiajaaGreatDoorTxt.casedB 65 90 32 (l.headD v0).2.2))
  cases hz : (ks l).any (· == 0)
  rotate_left
  ·rfl
  rw [lower_eq]; rfl
 simp only [h_lower, cond_false] at hkind
 cases h_upper : eqU s.data.toList [117, 112, 112, 101, 114]
 rotate_left
 ·obtain rfl := is_eq h_upper
  have hkind : (rP (A14.txt (ks l)) 4).2 = 0 := hkind
  obtain ⟨hn, hkd⟩ := rP0 hkind
  clear hkp hkind hk h_upper
  show (bif (ks l).any (· == 0) && true then (v0, 0) else textV (casedR 97 65 (l.headD v0).2.2)) = (bif (ks l).any (· == 0) then (v0, 0) else textV (_root_.Go.Proofs.YtaiokpmmjbiajaaGreatDoorTxt.casedB 97 122 (-32) (l.headD v0).2.2))
  cases hz : (ks l).any (· == 0)
  rotate_left
  ·rfl
  rw [upper_eq]; rfl
 simp only [h_upper, cond_false] at hkind
 cases h_trim : eqU s.data.toList [116, 114, 105, 109]
 rotate_left
 ·obtain rfl := is_eq h_trim
  have hkind : (rP (A14.txt (ks l)) 4).2 = 0 := hkind
  obtain ⟨hn, hkd⟩ := rP0 hkind
  clear hkp hkind hk h_trim
  show (bif (ks l).any (· == 0) && true then (v0, 0) else textV ⟨(trimR (l.headD v0).2.2.data.toList).toArray⟩) = (bif (ks l).any (· == 0) then (v0, 0) else textV ⟨(Lib.trimB (l.headD v0).2.2.data.toList 32).toArray⟩)
  cases hz : (ks l).any (· == 0)
  rotate_left
  ·rfl
  rw [trim_eq]; rfl
 simp only [h_trim, cond_false] at hkind
 cases h_totext : eqU s.data.toList [116, 111, 116, 101, 120, 116]
 rotate_left
 ·obtain rfl := is_eq h_totext
  have hkind : (rP (Int.ofNat (ks l).length == 1) 4).2 = 0 := hkind
  obtain ⟨hn, hkd⟩ := rP0 hkind
  clear hkp hkind hk h_totext
  show (bif (ks l).any (· == 0) && true then (v0, 0) else (bif (l.headD v0).1 == 4 then (l.headD v0, 0) else textV (showB (l.headD v0).1 (l.headD v0).2.1 (l.headD v0).2.2))) = (bif (ks l).any (· == 0) then (v0, 0) else (bif (l.headD v0).1 == 4 then (l.headD v0, 0) else textV (showB (l.headD v0).1 (l.headD v0).2.1 (l.headD v0).2.2)))
  rw [Bool.and_true]
 simp only [h_totext, cond_false] at hkind
 cases h_substr : eqU s.data.toList [115, 117, 98, 115, 116, 114]
 rotate_left
 ·obtain rfl := is_eq h_substr
  have hkind : (rP (A14.sub (ks l)) 4).2 = 0 := hkind
  obtain ⟨hn, hkd⟩ := rP0 hkind
  clear hkp hkind hk h_substr
  show (bif (ks l).any (· == 0) && true then (v0, 0) else textV ⟨(substrR (l.headD v0).2.2 (l.getD 1 v0).2.1 (l.getD 2 v0).2.1).toArray⟩) = (bif (ks l).any (· == 0) then (v0, 0) else textV (_root_.Go.Proofs.YtaiokpmmjbiajaaGreatDoorTxt.pieceB (l.headD v0).2.2 (l.getD 1 v0).2.1 (l.getD 2 v0).2.1))
  cases hz : (ks l).any (· == 0)
  rotate_left
  ·rfl
  obtain ⟨a, b, c, e, ha⟩ := sub_of hn
  cases l with
  | nil => cases e
  | cons v l =>
   have ea : v.1 = a := (List.cons.inj e).1
   have := nonnull hz v (by simp)
   have e4 : v.1 = 4 := by omega
   have ho := hok v (by simp)
   rw [e4] at ho
   have := substr_eq v.2.2 (okv_textS ho).2.2 ((v :: l).getD 1 v0).2.1 ((v :: l).getD 2 v0).2.1
   show textV ⟨(substrR v.2.2 ((v :: l).getD 1 v0).2.1 ((v :: l).getD 2 v0).2.1).toArray⟩ = textV (_root_.Go.Proofs.YtaiokpmmjbiajaaGreatDoorTxt.pieceB v.2.2 ((v :: l).getD 1 v0).2.1 ((v :: l).getD 2 v0).2.1)
   rw [this]
 simp only [h_substr, cond_false] at hkind
 cases hkind
end
end Go.Proofs.YtaiokpmmjbiajaaGreatDoorDx.Ref
section
namespace Go.Proofs.YtaiokpmmjbiajaaGreatDoorDx.ShowR
open Go Go.Proofs
set_option maxRecDepth 4000
open Go.RowKit Go.Proofs.YtaiokpmmjbiajaaGreatDoor.PLeaf Go.Proofs.YtaiokpmmjbiajaaGreatDoorW.PrintWords
open Go.Proofs.YtaiokpmmjbiajaaGreatDoor.Pure (okB may_eq kinds toList_nil toList_nil' toList_e)
open Go.WideShapes (bytes_inj)
theorem dd_big {u : Nat} (h : 10 ≤ u) : Lib.decDigits u = Lib.decDigits (u / 10) ++ [UInt8.ofNat (48 + u % 10)] := by
  conv => lhs; rw [Lib.decDigits]
  rw [dif_neg (by omega)]
theorem dd_small {u : Nat} (h : u < 10) : Lib.decDigits u = [UInt8.ofNat (48 + u)] := by rw [Lib.decDigits, dif_pos h]
theorem u64n {n : Int} (h0 : 0 ≤ n) (h1 : n < 18446744073709551616) : IntKind.u64.wrap n = n := by rw [IntKind.wrap_u64]; omega
theorem one_digit (n : Nat) (h : n < 18446744073709551616) : strOfNums [(IntKind.u64.wrap (48 + (Int.tmod (n : Int) 10))) % 256] = ⟨#[UInt8.ofNat (48 + n % 10)]⟩ := by
  have e : Int.tmod (n : Int) 10 = ((n % 10 : Nat) : Int) := by rw [Int.tmod_eq_emod_of_nonneg (by omega)]; omega
  rw [e, u64n (by omega) (by omega)]
  unfold strOfNums
  have : ((48 + ((n % 10 : Nat) : Int)) % 256).toNat = 48 + n % 10 := by omega
  simp only [List.map, this]
theorem next_digits (n : Nat) (h : n < 18446744073709551616) : IntKind.u64.wrap (Int.tdiv (n : Int) 10) = ((n / 10 : Nat) : Int) := by
  have e : Int.tdiv (n : Int) 10 = ((n / 10 : Nat) : Int) := by rw [Int.tdiv_eq_ediv_of_nonneg (by omega)]; omega
  rw [e, u64n (by omega) (by omega)]
theorem digits_loop : ∀ (j k n : Nat) (out : ByteArray), n < 10 ^ j → n < 18446744073709551616 → j < k → out.size + j ≤ 4000000000 →
    marqueeref01_digits.l0 k (n : Int) out = some ⟨((if n = 0 then [] else Lib.decDigits n) ++ out.data.toList).toArray⟩
  | 0, 0, _, _, _, _, h, _ => absurd h (Nat.lt_irrefl 0)
  | 0, k + 1, n, out, h, _, _, _ => by
    obtain rfl : n = 0 := by simpa using h
    rw [marqueeref01_digits.l0, if_neg (by omega)]
    simp
  | j + 1, 0, _, _, _, _, h, _ => absurd h (Nat.not_lt_zero _)
  | j + 1, k + 1, n, out, h, hn, hk, hs => by
    rw [marqueeref01_digits.l0]
    by_cases h0 : n = 0
    · subst h0
      rw [if_neg (by omega)]
      simp
    · have hsz : (strOfNums [(IntKind.u64.wrap (48 + (Int.tmod (n : Int) 10))) % 256]).size = 1 := strOfNums_size _
      have hdata : ((strOfNums [(IntKind.u64.wrap (48 + (Int.tmod (n : Int) 10))) % 256]) ++ out).data.toList = UInt8.ofNat (48 + n % 10) :: out.data.toList := by
        rw [one_digit n hn]; simp
      rw [if_pos (by omega), Option.bind_some, if_pos (by omega), next_digits n hn]
      have h10 : n / 10 < 10 ^ j := by rw [Nat.pow_succ] at h; omega
      rw [digits_loop j k (n / 10) _ h10 (by omega) (by omega) (by rw [ByteArray.size_append]; omega), hdata, if_neg h0]
      by_cases h1 : n < 10
      · rw [if_pos (by omega), dd_small h1]
        have : n % 10 = n := by omega
        simp [this]
      · rw [if_neg (by omega), dd_big (u := n) (by omega)]
        simp
theorem digits_eq (n k : Nat) (h : n < 18446744073709551616) (hk : 20 < k) : marqueeref01_digits.f k (n : Int) = some ⟨(Lib.decDigits n).toArray⟩ := by
  unfold marqueeref01_digits.f
  rw [next_digits n h, one_digit n h, digits_loop 20 k (n / 10) _ (by omega) (by omega) hk (by simp [ByteArray.size])]
  by_cases h1 : n < 10
  · rw [if_pos (by omega), dd_small h1]
    have : n % 10 = n := by omega
    simp [this]
  · rw [if_neg (by omega), dd_big (u := n) (by omega)]
theorem dd_len (n : Nat) (h : n < 18446744073709551616) : (Lib.decDigits n).length ≤ 20 := by
  have : ∀ (j n : Nat), n < 10 ^ (j + 1) → (Lib.decDigits n).length ≤ j + 1 := by
    intro j
    induction j with
    | zero => intro n h; rw [dd_small (by simpa using h)]; simp
    | succ j ih =>
      intro n h
      by_cases h1 : n < 10
      · rw [dd_small h1]; simp
      · rw [dd_big (by omega)]
        have := ih (n / 10) (by rw [Nat.pow_succ] at h; omega)
        simp; omega
  exact this 19 n (by omega)
theorem Digits_eq (n : Int) (k : Nat) (h : (Lit.int .i64 n).wf = true) (hk : 20 < k) : marqueeref01_Digits.f k n = some ⟨(Lib.itoa n).toArray⟩ := by
  have hw : -9223372036854775808 ≤ n ∧ n ≤ 9223372036854775807 := (Lit.wf_int_iff .i64 n).1 h
  unfold marqueeref01_Digits.f
  by_cases hn : n < 0
  · have e : IntKind.u64.wrap (-(IntKind.u64.wrap n)) = ((n.natAbs : Nat) : Int) := by rw [IntKind.wrap_u64, IntKind.wrap_u64]; omega
    have hl := dd_len n.natAbs (by omega)
    rw [if_pos hn, e, digits_eq n.natAbs k (by omega) hk, Option.bind_some, if_pos (by simp [ByteArray.size]; omega)]
    unfold Lib.itoa
    rw [if_pos hn]
    exact congrArg some (bytes_inj (by simp))
  · have e : IntKind.u64.wrap n = ((n.toNat : Nat) : Int) := by rw [IntKind.wrap_u64]; omega
    have hl := dd_len n.toNat (by omega)
    rw [if_neg hn, e, digits_eq n.toNat k (by omega) hk, Option.bind_some, if_pos (by simp [ByteArray.size]; omega)]
    unfold Lib.itoa
    rw [if_neg hn]
    exact congrArg some (bytes_inj (by simp))
def pad (r : Nat) : List UInt8 := Lib.repeatL [48] (4 - (Lib.decDigits r).length) ++ Lib.decDigits r
def fr (l : List UInt8) : List UInt8 := if Lib.trimRightB l 48 = [] then [48] else Lib.trimRightB l 48
theorem frac_eq (r : Nat) : value_decimal.frac r = fr (pad r) := rfl
theorem pad_eq (r : Nat) (h : r < 10000) : pad r = [UInt8.ofNat (48 + r / 1000), UInt8.ofNat (48 + r / 100 % 10), UInt8.ofNat (48 + r / 10 % 10), UInt8.ofNat (48 + r % 10)] := by
  unfold pad
  by_cases h1 : r < 10
  · have e1 : r / 1000 = 0 := by omega
    have e2 : r / 100 % 10 = 0 := by omega
    have e3 : r / 10 % 10 = 0 := by omega
    have e4 : r % 10 = r := by omega
    rw [dd_small h1, e1, e2, e3, e4]
    simp [Lib.repeatL]
  by_cases h2 : r < 100
  · have e1 : r / 1000 = 0 := by omega
    have e2 : r / 100 % 10 = 0 := by omega
    have e3 : r / 10 % 10 = r / 10 := by omega
    rw [dd_big (by omega), dd_small (by omega), e1, e2, e3]
    simp [Lib.repeatL]
  by_cases h3 : r < 1000
  · have e1 : r / 1000 = 0 := by omega
    have e2 : r / 100 % 10 = r / 10 / 10 := by omega
    rw [dd_big (by omega), dd_big (u := r / 10) (by omega), dd_small (u := r / 10 / 10) (by omega), e1, e2]
    simp [Lib.repeatL]
  · have e1 : r / 1000 = r / 10 / 10 / 10 := by omega
    have e2 : r / 100 % 10 = r / 10 / 10 % 10 := by omega
    rw [dd_big (by omega), dd_big (u := r / 10) (by omega), dd_big (u := r / 10 / 10) (by omega), dd_small (u := r / 10 / 10 / 10) (by omega), e1, e2]
    simp [Lib.repeatL]
theorem dd_10000 (r : Nat) (h : r < 10000) : Lib.decDigits (r + 10000) = 49 :: pad r := by
  rw [pad_eq r h, dd_big (by omega), dd_big (u := (r + 10000) / 10) (by omega), dd_big (u := (r + 10000) / 10 / 10) (by omega), dd_big (u := (r + 10000) / 10 / 10 / 10) (by omega), dd_small (u := (r + 10000) / 10 / 10 / 10 / 10) (by omega)]
  have e0 : (r + 10000) / 10 / 10 / 10 / 10 = 1 := by omega
  have e1 : (r + 10000) / 10 / 10 / 10 % 10 = r / 1000 := by omega
  have e2 : (r + 10000) / 10 / 10 % 10 = r / 100 % 10 := by omega
  have e3 : (r + 10000) / 10 % 10 = r / 10 % 10 := by omega
  have e4 : (r + 10000) % 10 = r % 10 := by omega
  rw [e0, e1, e2, e3, e4]
  rfl
theorem trimR_keep (l : List UInt8) (x : UInt8) (h : x ≠ 48) : Lib.trimRightB (l ++ [x]) 48 = l ++ [x] := by
  unfold Lib.trimRightB
  simp [List.dropWhile, h]
theorem trimR_drop (l : List UInt8) : Lib.trimRightB (l ++ [48]) 48 = Lib.trimRightB l 48 := by
  unfold Lib.trimRightB
  simp [List.dropWhile]
theorem dec_loop (q : Nat) (hq : q < 18446744073709551616 / 10000) (u : Int) (hu : IntKind.u64.wrap (Int.tdiv u 10000) = (q : Int)) (sg : ByteArray) (hsg : sg.size ≤ 1) :
    ∀ (j k : Nat) (l : List UInt8), l.length = j + 1 → j < 10 → 22 + j < k →
    marqueeref01_dec.l0 k u sg ⟨l.toArray⟩ = some ⟨(sg.data.toList ++ Lib.decDigits q ++ [46] ++ fr l).toArray⟩ := by
  intro j
  induction j with
  | zero =>
    intro k l hl _ hk
    obtain ⟨x, rfl⟩ : ∃ x, l = [x] := by
      match l, hl with
      | [x], _ => exact ⟨x, rfl⟩
    have hf : fr [x] = [x] := by
      unfold fr
      by_cases hx : x = 48
      · subst hx; rfl
      · have := trimR_keep [] x hx
        simp at this
        rw [this]; simp
    have hlen := dd_len q (by omega)
    have hQ : (⟨(Lib.decDigits q).toArray⟩ : ByteArray).size = (Lib.decDigits q).length := by simp [ByteArray.size]
    have hdot : (⟨#[46]⟩ : ByteArray).size = 1 := rfl
    have hL : (⟨[x].toArray⟩ : ByteArray).size = 1 := rfl
    obtain ⟨k, rfl⟩ : ∃ k', k = k' + 1 := ⟨k - 1, by omega⟩
    rw [marqueeref01_dec.l0, if_neg (by simp [ByteArray.size]), hu, digits_eq q k (by omega) (by omega), Option.bind_some]
    rw [if_pos (by rw [hQ]; omega), if_pos (by rw [ByteArray.size_append, hQ]; omega), if_pos (by rw [ByteArray.size_append, ByteArray.size_append, hQ, hdot, hL]; omega), hf]
    exact congrArg some (bytes_inj (by simp))
  | succ j ih =>
    intro k l hl hj hk
    have hne : l ≠ [] := fun e => by subst e; simp at hl
    obtain ⟨l', x, rfl⟩ : ∃ l' x, l = l' ++ [x] := ⟨l.dropLast, l.getLast hne, (List.dropLast_concat_getLast hne).symm⟩
    have hl' : l'.length = j + 1 := by simpa using hl
    have hsz : (⟨(l' ++ [x]).toArray⟩ : ByteArray).size = j + 2 := by simp [ByteArray.size, hl']
    have hlen := dd_len q (by omega)
    have hQ : (⟨(Lib.decDigits q).toArray⟩ : ByteArray).size = (Lib.decDigits q).length := by simp [ByteArray.size]
    have hdot : (⟨#[46]⟩ : ByteArray).size = 1 := rfl
    have hL := hsz
    obtain ⟨k, rfl⟩ : ∃ k', k = k' + 1 := ⟨k - 1, by omega⟩
    have hbt : bt ⟨(l' ++ [x]).toArray⟩ ((j : Int) + 1) = x.toNat := by
      unfold bt
      have e : ((j : Int) + 1).toNat = j + 1 := by omega
      rw [dif_pos (by rw [hsz]; omega)]
      simp only [e]
      have : (⟨(l' ++ [x]).toArray⟩ : ByteArray)[j + 1]'(by rw [hsz]; omega) = x := by
        show (l' ++ [x]).toArray[j + 1]'_ = x
        simp [← hl']
      rw [this]
    have hex : (⟨(l' ++ [x]).toArray⟩ : ByteArray).extract 0 ((j : Int) + 1).toNat = ⟨l'.toArray⟩ := by
      have e : ((j : Int) + 1).toNat = j + 1 := by omega
      rw [e]
      apply bytes_inj
      simp [← hl']
    have hw : wrap64 (((⟨(l' ++ [x]).toArray⟩ : ByteArray).size : Int) - 1) = (j : Int) + 1 := by rw [hsz]; unfold wrap64; omega
    rw [marqueeref01_dec.l0, hw, if_pos (by rw [hsz]; omega), if_pos (by omega), if_pos (by rw [hsz]; omega), hbt]
    by_cases hx : x = 48
    · subst hx
      rw [if_pos (by rfl), if_pos (by rw [hsz]; omega), hex, ih k l' hl' (by omega) (by omega)]
      unfold fr
      rw [trimR_drop]
    · have hx' : ¬ (x.toNat : Int) = 48 := fun e => hx (UInt8.toNat_inj.1 (show x.toNat = 48 by omega))
      have hf : fr (l' ++ [x]) = l' ++ [x] := by unfold fr; rw [trimR_keep _ _ hx]; simp
      rw [if_neg hx', hu, digits_eq q k (by omega) (by omega), Option.bind_some]
      rw [if_pos (by rw [hQ]; omega), if_pos (by rw [ByteArray.size_append, hQ]; omega), if_pos (by rw [ByteArray.size_append, ByteArray.size_append, hQ, hdot, hL]; omega), hf]
      exact congrArg some (bytes_inj (by simp))
theorem dec_j (m : Nat) (hm : m ≤ 9223372036854775808) (sg : ByteArray) (hsg : sg.size ≤ 1) (k : Nat) (hk : 40 < k) :
    marqueeref01_dec.j0 k (m : Int) sg = some ⟨(sg.data.toList ++ Lib.decDigits (m / 10000) ++ [46] ++ value_decimal.frac (m % 10000)).toArray⟩ := by
  obtain ⟨k, rfl⟩ : ∃ k', k = k' + 1 := ⟨k - 1, by omega⟩
  have e1 : Int.tmod (m : Int) 10000 = ((m % 10000 : Nat) : Int) := by rw [Int.tmod_eq_emod_of_nonneg (by omega)]; omega
  have e2 : IntKind.u64.wrap (Int.tdiv (m : Int) 10000) = ((m / 10000 : Nat) : Int) := by
    rw [Int.tdiv_eq_ediv_of_nonneg (by omega), u64n (by omega) (by omega)]; omega
  have e3 : IntKind.u64.wrap (((m % 10000 : Nat) : Int) + 10000) = ((m % 10000 + 10000 : Nat) : Int) := by rw [u64n (by omega) (by omega)]; omega
  have hp := pad_eq (m % 10000) (by omega)
  have hpl : (pad (m % 10000)).length = 4 := by rw [hp]; rfl
  rw [marqueeref01_dec.j0, e1, e3, digits_eq _ k (by omega) (by omega), Option.bind_some, dd_10000 _ (by omega)]
  rw [if_pos (by simp [ByteArray.size]; omega)]
  have hex : (⟨(49 :: pad (m % 10000)).toArray⟩ : ByteArray).extract 1 (⟨(49 :: pad (m % 10000)).toArray⟩ : ByteArray).size = ⟨(pad (m % 10000)).toArray⟩ := by
    apply bytes_inj
    simp [ByteArray.size, hpl, List.take_of_length_le]
  rw [hex, dec_loop (m / 10000) (by omega) _ e2 sg hsg 3 k _ hpl (by omega) (by omega), frac_eq]
theorem dec_eq (n : Int) (k : Nat) (h : (Lit.int .i64 n).wf = true) (hk : 40 < k) : marqueeref01_dec.f k n = some ⟨(value_decimal.text n).toArray⟩ := by
  have hw : -9223372036854775808 ≤ n ∧ n ≤ 9223372036854775807 := (Lit.wf_int_iff .i64 n).1 h
  unfold marqueeref01_dec.f value_decimal.text
  by_cases hn : n < 0
  · have e : IntKind.u64.wrap (-(IntKind.u64.wrap n)) = ((n.natAbs : Nat) : Int) := by rw [IntKind.wrap_u64, IntKind.wrap_u64]; omega
    rw [if_pos hn, e, dec_j n.natAbs (by omega) _ (by simp [ByteArray.size]) k hk, if_pos hn]
  · have e : IntKind.u64.wrap n = ((n.natAbs : Nat) : Int) := by rw [IntKind.wrap_u64]; omega
    rw [if_neg hn, e, dec_j n.natAbs (by omega) _ (by simp [ByteArray.size]) k hk, if_neg hn]
theorem show_loop (s : ByteArray) (hs : s.size ≤ 1024) (a b : Int) : ∀ (f k i : Nat) (out : ByteArray), s.size - i = f → i ≤ s.size → f < k → out.size + 2 * f ≤ 1000000 →
    marqueeref01_Show.l0 k out (i : Int) a b s = some ⟨(out.data.toList ++ quoteL (s.data.toList.drop i) ++ [39]).toArray⟩ := by
  intro f
  induction f with
  | zero =>
    intro k i out hf hi hk ho
    obtain ⟨k, rfl⟩ : ∃ k', k = k' + 1 := ⟨k - 1, by omega⟩
    rw [marqueeref01_Show.l0, if_neg (by omega), if_pos (by omega), List.drop_of_length_le (by rw [data_length]; omega)]
    exact congrArg some (bytes_inj (by simp [quoteL]))
  | succ f ih =>
    intro k i out hf hi hk ho
    obtain ⟨k, rfl⟩ : ∃ k', k = k' + 1 := ⟨k - 1, by omega⟩
    have hlt : i < s.data.toList.length := by rw [data_length]; omega
    have hd : s.data.toList.drop i = s.data.toList[i] :: s.data.toList.drop (i + 1) := List.drop_eq_getElem_cons hlt
    have hbt : bt s (i : Int) = (s.data.toList[i].toNat : Int) := by
      unfold bt
      rw [dif_pos (by omega)]
      rfl
    have hw : wrap64 ((i : Int) + 1) = ((i + 1 : Nat) : Int) := by unfold wrap64; omega
    have hex : (s.extract ((i : Int)).toNat (((i + 1 : Nat) : Int)).toNat).data.toList = [s.data.toList[i]] := by
      simp [List.take_one, hd]
    have hes : (s.extract ((i : Int)).toNat (((i + 1 : Nat) : Int)).toNat).size = 1 := by rw [← data_length, hex]; rfl
    have hq1 : (⟨#[39]⟩ : ByteArray).size = 1 := rfl
    rw [marqueeref01_Show.l0, if_pos (by omega), if_pos (by omega), hbt, hw, hd]
    by_cases hb : s.data.toList[i] = 39
    · rw [if_pos (by rw [hb]; rfl), if_pos (by omega), if_pos (by omega), if_pos (by omega), if_pos (by rw [ByteArray.size_append, hes, hq1]; omega)]
      rw [ih k (i + 1) _ (by omega) (by omega) (by omega) (by rw [ByteArray.size_append, ByteArray.size_append, hes, hq1]; omega)]
      rw [quoteL, if_pos hb]
      refine congrArg some (bytes_inj ?_)
      simp only [ByteArray.data_append, Array.toList_append, hex, hb]
      simp
    · have hb' : ¬ (s.data.toList[i].toNat : Int) = 39 := fun e => hb (UInt8.toNat_inj.1 (show s.data.toList[i].toNat = 39 by omega))
      rw [if_neg hb', if_pos (by omega), if_pos (by omega), if_pos (by rw [hes]; omega)]
      rw [ih k (i + 1) _ (by omega) (by omega) (by omega) (by rw [ByteArray.size_append, hes]; omega)]
      rw [quoteL, if_neg hb]
      refine congrArg some (bytes_inj ?_)
      simp only [ByteArray.data_append, Array.toList_append, hex]
      simp
def textQ (k n : Int) (s : ByteArray) : List UInt8 :=
  if okB k n s = false then []
  else if k = 0 then [110, 117, 108, 108] else if k = 1 then (if n = 1 then [116, 114, 117, 101] else [102, 97, 108, 115, 101])
  else if k = 2 then Lib.itoa n else if k = 3 then value_decimal.text n else [39] ++ quoteL s.data.toList ++ [39]
theorem show_ref (j : Nat) (k n : Int) (s : ByteArray) (hn : (Lit.int .i64 n).wf = true) : marqueeref01_Show.f (9301 + j) k n s = some ⟨(textQ k n s).toArray⟩ := by
  unfold marqueeref01_Show.f textQ
  rw [may_eq j k n s, Option.bind_some]
  cases ho : okB k n s
  · simp
  · simp only [if_true]
    rcases kinds k with rfl | rfl | rfl | rfl | rfl | ⟨h0, h1, h2, h3, h4⟩
    · rfl
    · by_cases h : n = 1 <;> simp [h]
    · simp [Digits_eq n (9301 + j) hn (by omega)]
    · simp [dec_eq n (9301 + j) hn (by omega)]
    · have hsz : s.size ≤ 1024 := by simp [okB] at ho; exact ho.1.2
      have h := show_loop s hsz 4 n s.size (9301 + j) 0 ⟨#[39]⟩ (by omega) (by omega) (by omega) (by have s1 : (⟨#[39]⟩ : ByteArray).size = 1 := rfl
                                                                                                     rw [s1]; omega)
      rw [if_neg (by decide), if_neg (by decide), if_neg (by decide), if_neg (by decide)]
      simpa using h
    · simp [okB, h0, h1, h2, h3, h4] at ho
theorem textQ_eq (k n : Int) (s : ByteArray) : textQ k n s = Fit.textL k n s := by
  unfold textQ Fit.textL
  rw [okB_eq]
  cases ho : A33.okv k n s
  · rfl
  · simp only [Bool.not_true, cond_false, Bool.true_eq_false, if_false]
    have hd : ∀ a b : Int, (a == b) = decide (a = b) := fun a b => by
      by_cases h : a = b
      · rw [decide_eq_true h, beq_iff_eq.2 h]
      · rw [decide_eq_false h, beq_eq_false_iff_ne.2 h]
    simp only [hd, replaceAll_quote]
    by_cases h0 : k = 0
    · simp [h0]
    by_cases h1 : k = 1
    · by_cases h : n = 1 <;> simp [h1, h]
    by_cases h2 : k = 2
    · simp [h2]
    by_cases h3 : k = 3
    · simp [h3]; rfl
    · simp [h0, h1, h2, h3]
end Go.Proofs.YtaiokpmmjbiajaaGreatDoorDx.ShowR
namespace Go.Proofs.YtaiokpmmjbiajaaGreatDoorDx
open Go Go.Proofs
open Go.Proofs.YtaiokpmmjbiajaaGreatDoor.PLeaf
def spec45 : Spec := fun aa => match aa with
  | [a] => (vOf a).bind fun x => some (.need (inR x.2.1) (.out (.string (Fit.showB x.1 x.2.1 x.2.2))))
  | _ => none
theorem ok45 : SpecOk Tryz.prog La 45 spec45 := spec_lib (by kernel_rfl) fun aa t v h e => by
  unfold spec45 at h
  split at h
  · rename_i a
    obtain ⟨⟨k0, n0, s0⟩, h1, h⟩ := opt_bind h
    cases h
    obtain ⟨g1, g2⟩ := GT.need_eval e
    cases g2
    rw [vOf_ok h1]
    unfold inR at g1
    simp only [Bool.and_eq_true, decide_eq_true_eq] at g1
    refine ⟨[.agg #[.int .i64 k0, .int .i64 n0, .string s0]], rfl, rfl, fun W hW => marqueeref01_Show.calls 9301 k0 n0 s0 (Fit.showB k0 n0 s0) W ?_⟩
    have := ShowR.show_ref 0 k0 n0 s0 ((Lit.wf_int_iff .i64 n0).2 ⟨g1.1, by show n0 ≤ 9223372036854775807; omega⟩)
    rw [ShowR.textQ_eq] at this
    exact this
  · cases h
def spec103 : Spec := fun aa => match aa with
  | [.v (.string s), .v (.int .u8 a), .v (.int .u8 b)] => some (.need (Nat.ble s.data.toList.length 9223372036854775807 && (decide (0 ≤ a) && (decide (a ≤ 200) && (decide (0 ≤ b) && decide (b ≤ 200))))) (.out (.string (Ref.casedR a b s))))
  | _ => none
theorem ok103 : SpecOk Tryz.prog La 103 spec103 := spec_lib (by kernel_rfl) fun aa t v h e => by
  unfold spec103 at h
  split at h
  · rename_i s a b
    cases h
    obtain ⟨g1, g2⟩ := GT.need_eval e
    cases g2
    simp only [Bool.and_eq_true, decide_eq_true_eq, Nat.ble_eq, len_size] at g1
    refine ⟨[.string s, .int .u8 a, .int .u8 b], rfl, rfl, fun W hW => marqueeref10_cased.calls s a b (Ref.casedR a b s) W ?_⟩
    unfold marqueeref10_cased.f
    rw [if_pos g1.1, if_pos g1.2.1, if_pos g1.2.2.1, if_pos g1.2.2.2.1, if_pos g1.2.2.2.2]
    rfl
  · cases h
end Go.Proofs.YtaiokpmmjbiajaaGreatDoorDx
end
namespace Go.Proofs.YtaiokpmmjbiajaaGreatDoorDx
section
open Go Go.Proofs
namespace A38L0
noncomputable def cfg : Cfg := cfgK Tryz.prog 4 (gpT []) (ltT 4 [])
def stA (nm : ByteArray) (n : Nat) (r : Int) (e : Int) (i : Int) : KX := ⟨[(0, .string nm), (1, .slice (some ⟨1, 0, none⟩) n 1), (4, .int .i64 r), (5, .int .i64 e), (6, .int .i64 (Int.ofNat n)), (7, .int .i64 i)], []⟩
def stExit (nm : ByteArray) (n : Nat) (r : Int) (e : Int) : KX := ⟨[(0, .string nm), (1, .slice (some ⟨1, 0, none⟩) n 1), (4, .int .i64 r), (5, .int .i64 e), (6, .int .i64 (Int.ofNat n))], []⟩
def stRet (r : Int) (e : Int) : KX := ⟨[(4, .int .i64 r), (5, .int .i64 e)], []⟩
def kp : Ex → List Nat
 | .normal => [0, 1, 4, 5, 6, 7]
 | .exit _ => [0, 1, 4, 5, 6]
 | .ret => [4, 5]
set_option maxRecDepth 1000000 in
theorem round (nm : ByteArray) (n : Nat) (r : Int) (e : Int) (i : Int) (cs : List Value) : codeK cfg (gpT []) (callK cfg (gpT []) (ltT 4 []) 12) (fun _ _ => none) false 1000 (loopAt Tryz.prog 38 0) (stK 158 4 [(1, cs)] (stA nm n r e i)) (endK 4 100 158 kp (fun _ _ => [])) = (let x1 := 0 + ((i).toNat * 1); (bif decide (i < (Int.ofNat n)) then (bif decide (0 ≤ i) then (bif Nat.blt (i).toNat n then (bif isV cs x1 (.i .i64) then (bif decide ((rdI cs x1) ≥ 0) then (bif (!decide ((rdI cs x1) ≤ 4)) then (some (.ret, stRet 0 100)) else (some (.normal, stA nm n r e (IntKind.wrap .i64 (i + 1))))) else (some (.ret, stRet 0 100))) else none) else none) else none) else (some (.exit 0, stExit nm n r e)))
) := by kernel_rfl
def stepF (p : ByteArray × Int × Int) (k : Int) : (ByteArray × Int × Int) ⊕ (Ex × KX) := bif A14L0.bad k then .inr (.ret, stRet 0 100) else .inl p
def D : KD := ⟨158, 4, 100, [0, 1, 4, 5, 6, 7], [1], fun _ => [], fun x ro => match x.vs, x.cars, ro with
 | [(0, .string nm), (1, .slice (some ⟨1, 0, none⟩) n 1), (4, .int .i64 r), (5, .int .i64 e), (6, .int .i64 m), (7, .int .i64 0)], [], [(1, cs)] =>
  .need (rowI n m cs) (.br ((cs.map valI).any A14L0.bad) (.out (.ret, stRet 0 100)) (.out (.exit 0, stExit nm n r e)))
 | _, _, _ => .no⟩
def lp : LpK := ⟨38, 3, 0, D⟩
theorem lp_fine : LpFine Tryz.prog La 4 lp := by
 refine ⟨by kernel_rfl, fun c base I hP hn hG hI hIL x ro ex y e => ?_⟩
 obtain ⟨vs, cars⟩ := x
 simp only [lp, D] at e ⊢
 split at e
 ·rename_i nm n r e0 m cs
  obtain ⟨g1, g2⟩ := GT.need_eval e
  obtain ⟨rfl, hn2, l, rfl, h4, rfl⟩ := rowI_ok g1
  have key := scan_from (Step := @StepK (etaB base) c base I (loopAt Tryz.prog 38 0) 158 4 100 [(1, ints .i64 l)]) (step := stepF) (fin := fun p => (.exit 0, stExit p.1 l.length p.2.1 p.2.2)) (st := fun p j => stA p.1 l.length p.2.1 p.2.2 j) (l := l) (fun s => by simp) (fun s a r h => by
    unfold stepF at h
    cases hb : A14L0.bad a <;> rw [hb] at h <;> cases h; simp) (fun p j hj => by
    have h1 : decide ((j : Int) < Int.ofNat l.length) = true := decide_eq_true (by show (j : Int) < (l.length : Int); omega)
    have h2 : decide ((0 : Int) ≤ j) = true := decide_eq_true (by omega)
    have h3 : Nat.blt ((j : Int)).toNat l.length = true := by rw [Nat.blt_eq]; simpa using hj
    have h4 : (0 + ((j : Int)).toNat * 1) = j := by simp
    have h5 : IntKind.wrap .i64 ((j : Int) + 1) = ((j + 1 : Nat) : Int) := by rw [wrap_in (by omega) (by omega)]; omega
    have hr := round p.1 l.length p.2.1 p.2.2 j (ints .i64 l)
    dsimp only [] at hr
    simp only [h1, h2, h3, h4, h5, isV_ints _ l hj, rdI_ints _ l hj, cond_true] at hr
    unfold stepF A14L0.bad
    generalize l[j] = k at hr ⊢
    by_cases c1 : k < 0
    ·simp only [decide_eq_false (show ¬ k ≥ 0 by omega), cond_false] at hr
     rw [decide_eq_true c1]
     exact stepT prog_mix prog_names (by simp) (by simp) hP hn hG hI hIL hr
    ·simp only [decide_eq_true (show k ≥ 0 by omega), cond_true] at hr
     rw [decide_eq_false c1]
     by_cases c2 : k > 4
     ·simp only [decide_eq_false (show ¬ k ≤ 4 by omega), Bool.not_false, cond_true] at hr
      rw [decide_eq_true c2]
      exact stepT prog_mix prog_names (by simp) (by simp) hP hn hG hI hIL hr
     ·simp only [decide_eq_true (show k ≤ 4 by omega), Bool.not_true, cond_false] at hr
      rw [decide_eq_false c2]
      exact stepT prog_mix prog_names (by simp) (by simp) hP hn hG hI hIL hr) (fun p => by
    have h1 : decide ((l.length : Int) < Int.ofNat l.length) = false := decide_eq_false (by show ¬ (l.length : Int) < (l.length : Int); omega)
    have hr := round p.1 l.length p.2.1 p.2.2 l.length (ints .i64 l)
    simp only [h1, cond_false] at hr
    exact stepT prog_mix prog_names (by simp) (by simp) hP hn hG hI hIL hr) l.length 0 (nm, r, e0) (by omega)
  rw [List.drop_zero] at key
  unfold stepF at key
  rw [scanF_any] at key
  rw [h4] at g2
  cases hb : l.any A14L0.bad with
  | true => rw [hb] at key g2; cases g2; exact key
  | false => rw [hb] at key g2; cases g2; exact key
 ·cases e
end A38L0
end
section
open Go Go.Proofs
namespace A38L1
noncomputable def cfg : Cfg := cfgK Tryz.prog 4 (gpT []) (ltT 4 [])
def stA (n : Nat) (r : Int) (e : Int) (ok : Bool) (o : Int) (i : Int) : KX := ⟨[(1, .slice (some ⟨1, 0, none⟩) n 1), (4, .int .i64 r), (5, .int .i64 e), (6, .int .i64 (Int.ofNat n)), (8, .bool ok), (9, .int .i64 o), (10, .int .i64 i)], []⟩
def stExit (r : Int) (e : Int) (ok : Bool) (o : Int) : KX := ⟨[(4, .int .i64 r), (5, .int .i64 e), (8, .bool ok), (9, .int .i64 o)], []⟩
def kp : Ex → List Nat
 | .normal => [1, 4, 5, 6, 8, 9, 10]
 | .exit _ => [4, 5, 8, 9]
 | _ => []
set_option maxRecDepth 1000000 in
theorem round (n : Nat) (r : Int) (e : Int) (ok : Bool) (o : Int) (i : Int) (cs : List Value) : codeK cfg (gpT []) (callK cfg (gpT []) (ltT 4 []) 12) (fun _ _ => none) false 1000 (loopAt Tryz.prog 38 1) (stK 158 104 [(1, cs)] (stA n r e ok o i)) (endK 104 100 158 kp (fun _ _ => [])) = (let x1 := IntKind.wrap .i64 (i + 1); let x2 := 0 + ((i).toNat * 1); (bif decide (i < (Int.ofNat n)) then (bif ok then (bif decide (0 ≤ i) then (bif Nat.blt (i).toNat n then (bif isV cs x2 (.i .i64) then (bif ((rdI cs x2) == 0) then (some (.normal, stA n r e (true) o x1)) else (some (.normal, stA n r e (((rdI cs x2) == 4)) o x1))) else none) else none) else none) else (some (.normal, stA n r e (false) o x1))) else (some (.exit 3, stExit r e (ok) o)))
) := by kernel_rfl
def D : KD := ⟨158, 104, 100, [1, 4, 5, 6, 8, 9, 10], [1], fun _ => [], fun x ro => match x.vs, x.cars, ro with
 | [(1, .slice (some ⟨1, 0, none⟩) n 1), (4, .int .i64 r), (5, .int .i64 e), (6, .int .i64 m), (8, .bool ok), (9, .int .i64 o), (10, .int .i64 0)], [], [(1, cs)] =>
  .need (rowI n m cs) (.out (.exit 3, stExit r e ((cs.map valI).foldl (fun b k => b && A14L1.ok1 k) ok) o))
 | _, _, _ => .no⟩
def lp : LpK := ⟨38, 28, 1, D⟩
theorem lp_fine : LpFine Tryz.prog La 4 lp := by
 refine ⟨by kernel_rfl, fun c base I hP hn hG hI hIL x ro ex y e => ?_⟩
 obtain ⟨vs, cars⟩ := x
 simp only [lp, D] at e ⊢
 split at e
 ·rename_i n r e0 m ok o cs
  obtain ⟨g1, g2⟩ := GT.need_eval e
  obtain ⟨rfl, hn2, l, rfl, h4, rfl⟩ := rowI_ok g1
  have key := scan_from (Step := @StepK (etaB base) c base I (loopAt Tryz.prog 38 1) 158 104 100 [(1, ints .i64 l)]) (step := fun b k => .inl (b && A14L1.ok1 k)) (fin := fun b => (.exit 3, stExit r e0 b o)) (st := fun b j => stA l.length r e0 b o j) (l := l) (fun s => by simp) (fun s a r h => by cases h) (fun b j hj => by
    have h1 : decide ((j : Int) < Int.ofNat l.length) = true := decide_eq_true (by show (j : Int) < (l.length : Int); omega)
    have h2 : decide ((0 : Int) ≤ j) = true := decide_eq_true (by omega)
    have h3 : Nat.blt ((j : Int)).toNat l.length = true := by rw [Nat.blt_eq]; simpa using hj
    have h4 : (0 + ((j : Int)).toNat * 1) = j := by simp
    have h5 : IntKind.wrap .i64 ((j : Int) + 1) = ((j + 1 : Nat) : Int) := by rw [wrap_in (by omega) (by omega)]; omega
    have hr := round l.length r e0 b o j (ints .i64 l)
    simp only [h1, h2, h3, h4, h5, isV_ints _ l hj, rdI_ints _ l hj, cond_true] at hr
    refine stepT prog_mix prog_names (by simp) (by simp) hP hn hG hI hIL (hr.trans ?_)
    unfold A14L1.ok1
    cases b <;> cases e1 : (l[j] == 0) <;> cases e2 : (l[j] == 4) <;> simp [e1, e2]) (fun b => by
    have h1 : decide ((l.length : Int) < Int.ofNat l.length) = false := decide_eq_false (by show ¬ (l.length : Int) < (l.length : Int); omega)
    have hr := round l.length r e0 b o l.length (ints .i64 l)
    simp only [h1, cond_false] at hr
    exact stepT prog_mix prog_names (by simp) (by simp) hP hn hG hI hIL hr) l.length 0 ok (by omega)
  rw [List.drop_zero, scanF_fold] at key
  cases g2
  rw [h4]
  exact key
 ·cases e
end A38L1
end
section
open Go Go.Proofs
namespace A91L0
noncomputable def cfg : Cfg := cfgK Tryz.prog 4 (gpT []) (ltT 4 [])
def stA (n : Nat) (r : Int) (b : Bool) (o : Int) (i : Int) : KX := ⟨[(0, .slice (some ⟨0, 0, none⟩) n 1), (2, .int .i64 r), (3, .bool b), (4, .int .i64 o), (5, .int .i64 i)], []⟩
def stExit (o : Int) : KX := ⟨[(4, .int .i64 o)], []⟩
def stRet (r : Int) (b : Bool) : KX := ⟨[(2, .int .i64 r), (3, .bool b)], []⟩
def kp : Ex → List Nat
 | .normal => [0, 2, 3, 4, 5]
 | .exit _ => [4]
 | .ret => [2, 3]
set_option maxRecDepth 1000000 in
theorem round (n : Nat) (r : Int) (b : Bool) (o : Int) (i : Int) (cs : List Value) : codeK cfg (gpT []) (callK cfg (gpT []) (ltT 4 []) 12) (fun _ _ => none) false 1000 (loopAt Tryz.prog 91 0) (stK 44 4 [(0, cs)] (stA n r b o i)) (endK 4 100 44 kp (fun _ _ => [])) = (let x1 := 0 + ((i).toNat * 1); let x2 := IntKind.wrap .i64 (i + 1); (bif decide (i < (Int.ofNat n)) then (bif decide (0 ≤ i) then (bif Nat.blt (i).toNat n then (bif isV cs x1 (.i .i64) then (bif ((rdI cs x1) == 0) then (some (.normal, stA n r (b) o x2)) else (bif decide (0 ≤ i) then (bif Nat.blt (i).toNat n then (bif isV cs x1 (.i .i64) then (bif ((rdI cs x1) == o) then (some (.normal, stA n r (b) o x2)) else (bif (o == 0) then (bif decide (0 ≤ i) then (bif Nat.blt (i).toNat n then (bif isV cs x1 (.i .i64) then (some (.normal, stA n r (b) (rdI cs x1) x2)) else none) else none) else none) else (bif (o == 0) then (bif decide (0 ≤ i) then (bif Nat.blt (i).toNat n then (bif isV cs x1 (.i .i64) then (bif ((rdI cs x1) == 0) then (some (.normal, stA n r (b) 3 x2)) else (bif ((rdI cs x1) == 2) then (some (.normal, stA n r (b) 3 x2)) else (bif ((rdI cs x1) == 3) then (some (.normal, stA n r (b) 3 x2)) else (some (.ret, stRet 0 (false)))))) else none) else none) else none) else (bif (o == 2) then (bif decide (0 ≤ i) then (bif Nat.blt (i).toNat n then (bif isV cs x1 (.i .i64) then (bif ((rdI cs x1) == 0) then (some (.normal, stA n r (b) 3 x2)) else (bif ((rdI cs x1) == 2) then (some (.normal, stA n r (b) 3 x2)) else (bif ((rdI cs x1) == 3) then (some (.normal, stA n r (b) 3 x2)) else (some (.ret, stRet 0 (false)))))) else none) else none) else none) else (bif (o == 3) then (bif decide (0 ≤ i) then (bif Nat.blt (i).toNat n then (bif isV cs x1 (.i .i64) then (bif ((rdI cs x1) == 0) then (some (.normal, stA n r (b) 3 x2)) else (bif ((rdI cs x1) == 2) then (some (.normal, stA n r (b) 3 x2)) else (bif ((rdI cs x1) == 3) then (some (.normal, stA n r (b) 3 x2)) else (some (.ret, stRet 0 (false)))))) else none) else none) else none) else (some (.ret, stRet 0 (false)))))))) else none) else none) else none)) else none) else none) else none) else (some (.exit 0, stExit o)))
) := by kernel_rfl
def stepF (p : Int × Int × Bool) (k : Int) : (Int × Int × Bool) ⊕ (Ex × KX) := match Ref.raStep k p.1 with
 | some o => .inl (o, p.2)
 | none => .inr (.ret, stRet 0 false)
theorem scan_ra : ∀ (l : List Int) (p : Int × Int × Bool), scanF stepF (fun p => (.exit 0, stExit p.1)) p l = match Ref.ra p.1 l with
  | some o => (.exit 0, stExit o)
  | none => (.ret, stRet 0 false)
 | [], p => rfl
 | k :: l, p => by
  rw [scanF, Ref.ra]
  unfold stepF
  cases h : Ref.raStep k p.1 with
  | none => rfl
  | some o => exact scan_ra l (o, p.2)
def raB (o : Int) (l : List Int) : Bool := (Ref.ra o l).isSome
def raO (o : Int) (l : List Int) : Int := (Ref.ra o l).getD 0
def D : KD := ⟨44, 4, 100, [0, 2, 3, 4, 5], [0], fun _ => [], fun x ro => match x.vs, x.cars, ro with
 | [(0, .slice (some ⟨0, 0, none⟩) n 1), (2, .int .i64 r), (3, .bool b), (4, .int .i64 o), (5, .int .i64 0)], [], [(0, cs)] =>
  .need (rowI n (Int.ofNat n) cs) (.br (raB o (cs.map valI)) (.out (.exit 0, stExit (raO o (cs.map valI)))) (.out (.ret, stRet 0 false)))
 | _, _, _ => .no⟩
def lp : LpK := ⟨91, 3, 0, D⟩
theorem lp_fine : LpFine Tryz.prog La 4 lp := by
 refine ⟨by kernel_rfl, fun c base I hP hn hG hI hIL x ro ex y e => ?_⟩
 obtain ⟨vs, cars⟩ := x
 simp only [lp, D] at e ⊢
 split at e
 ·rename_i n r b o cs
  obtain ⟨g1, g2⟩ := GT.need_eval e
  obtain ⟨_, hn2, l, rfl, h4, rfl⟩ := rowI_ok g1
  have key := scan_from (Step := @StepK (etaB base) c base I (loopAt Tryz.prog 91 0) 44 4 100 [(0, ints .i64 l)]) (step := stepF) (fin := fun p => (.exit 0, stExit p.1)) (st := fun p j => stA l.length p.2.1 p.2.2 p.1 j) (l := l) (fun s => by simp) (fun s a r h => by
    unfold stepF at h
    split at h <;> cases h; simp) (fun p j hj => by
    have h1 : decide ((j : Int) < Int.ofNat l.length) = true := decide_eq_true (by show (j : Int) < (l.length : Int); omega)
    have h2 : decide ((0 : Int) ≤ j) = true := decide_eq_true (by omega)
    have h3 : Nat.blt ((j : Int)).toNat l.length = true := by rw [Nat.blt_eq]; simpa using hj
    have h4 : (0 + ((j : Int)).toNat * 1) = j := by simp
    have h5 : IntKind.wrap .i64 ((j : Int) + 1) = ((j + 1 : Nat) : Int) := by rw [wrap_in (by omega) (by omega)]; omega
    obtain ⟨o, r, b⟩ := p
    have hr := round l.length r b o j (ints .i64 l)
    dsimp only [] at hr
    simp only [h1, h2, h3, h4, h5, isV_ints _ l hj, rdI_ints _ l hj, cond_true] at hr
    unfold stepF Ref.raStep Ref.numK
    dsimp only []
    cases e0 : l[j] == 0
    ·simp only [e0, cond_false, Bool.false_or] at hr ⊢
     cases e1 : l[j] == o
     ·simp only [e1, cond_false] at hr ⊢
      cases e2 : o == 0
      ·simp only [e2, cond_false, Bool.false_or] at hr ⊢
       cases e3 : o == 2 <;> cases e4 : o == 3 <;> cases e5 : l[j] == 2 <;> cases e6 : l[j] == 3 <;> simp only [e3, e4, e5, e6, cond_true, cond_false] at hr <;> exact stepT prog_mix prog_names (by simp) (by simp) hP hn hG hI hIL hr
      ·simp only [e2, cond_true] at hr ⊢
       exact stepT prog_mix prog_names (by simp) (by simp) hP hn hG hI hIL hr
     ·simp only [e1, cond_true] at hr ⊢
      exact stepT prog_mix prog_names (by simp) (by simp) hP hn hG hI hIL hr
    ·simp only [e0, cond_true, Bool.true_or] at hr ⊢
     exact stepT prog_mix prog_names (by simp) (by simp) hP hn hG hI hIL hr) (fun p => by
    have h1 : decide ((l.length : Int) < Int.ofNat l.length) = false := decide_eq_false (by show ¬ (l.length : Int) < (l.length : Int); omega)
    have hr := round l.length p.2.1 p.2.2 p.1 l.length (ints .i64 l)
    simp only [h1, cond_false] at hr
    exact stepT prog_mix prog_names (by simp) (by simp) hP hn hG hI hIL hr) l.length 0 (o, r, b) (by omega)
  rw [List.drop_zero, scan_ra] at key
  rw [h4] at g2
  cases hb : Ref.ra o l with
  | none =>
   unfold raB raO at g2
   rw [hb] at key g2; cases g2; exact key
  | some q =>
   unfold raB raO at g2
   rw [hb] at key g2; cases g2; exact key
 ·cases e
end A91L0
end
section
open Go Go.Proofs
namespace A91
def T (m0 : Nat) (c0 : List Value) : GT Value := (.br ((true && ([((0 : Nat), c0)]).all fun p => p.snd.all scalV)) (.br ((rowI m0 (Int.ofNat m0) c0)) (.br ((A91L0.raB 0 ((c0).map valI))) (.out (.tuple ([.int .i64 (A91L0.raO 0 ((c0).map valI)), .bool (true)]).toArray)) (.out (.tuple ([.int .i64 0, .bool (false)]).toArray))) .no) .no)
set_option maxRecDepth 1000000 in
theorem run (m0 : Nat) (c0 : List Value) : callK (cfgK Tryz.prog 4 (gpT []) (ltT 4 [A91L0.lp])) (gpT []) (ltT 4 [A91L0.lp]) 12 (.fn 91) (absVs 0 [.sl m0 1 c0]) ⟨absH 0 [.sl m0 1 c0], 4⟩ (fun o => some o.1) = (T m0 c0).eval := by kernel_rfl
set_option maxRecDepth 1000000 in
theorem flat (m0 : Nat) (c0 : List Value) : (T m0 c0).allB (pfd 3) = true := by kernel_rfl
def two (p : Int × Bool) : Value := .tuple #[.int .i64 p.1, .bool p.2]
theorem T_ok (l : List Int) (hl : l.length < 4611686018427387904) : (T l.length (ints .i64 l)).eval = some (two (Ref.refAlike l)) := by
 have g := rowI_of hl
 unfold T Ref.refAlike two A91L0.raB A91L0.raO
 simp only [g, ints_vals, ints_scal, GT.eval, Bool.true_and, Bool.and_true, cond_true, List.all_cons, List.all_nil]
 cases Ref.ra 0 l <;> rfl
def spec : Spec := fun aa => match aa with
 | [.sl n 1 cs] => some (.need (rowI n (Int.ofNat n) cs) (.out (two (Ref.refAlike (cs.map valI)))))
 | [.nil] => some (.out (two (0, true)))
 | _ => none
set_option maxRecDepth 1000000 in
theorem runN : callK (cfgK Tryz.prog 4 (gpT []) (ltT 4 [])) (gpT []) (ltT 4 []) 12 (.fn 91) (absVs 0 [.nil]) ⟨absH 0 [.nil], 4⟩ (fun o => some o.1) = some (two (0, true)) := by kernel_rfl
theorem spec_ok : SpecOk Tryz.prog La 91 spec := ⟨fnOk_ok (by kernel_rfl), fun aa t v h e => by
 unfold spec at h
 split at h
 ·rename_i n cs
  cases h
  obtain ⟨g1, g2⟩ := GT.need_eval e
  cases g2
  obtain ⟨_, hn, l, rfl, h4, rfl⟩ := rowI_ok g1
  rw [h4]
  exact ⟨rfl, callT La_below prog_mix prog_names (by simp) (by simpa using A91L0.lp_fine) (by decide) (by simp) rfl ((run _ _).trans (T_ok _ hn))⟩
 ·cases h; cases e
  exact ⟨rfl, callT La_below prog_mix prog_names (by simp) (by simp) (by decide) (by simp) rfl runN⟩
 ·cases h⟩
end A91
end
section
open Go Go.Proofs
namespace A38n
def T (s0 : ByteArray) : GT Value := let o1 : GT Value := (.out (.tuple ([.int .i64 0, .int .i64 100]).toArray)); (.br (eqU (s0).data.toList [97, 98, 115]) o1 (.br (eqU (s0).data.toList [99, 101, 105, 108]) o1 (.br (eqU (s0).data.toList [102, 108, 111, 111, 114]) o1 (.br (eqU (s0).data.toList [114, 111, 117, 110, 100]) o1 (.br (eqU (s0).data.toList [115, 105, 103, 110]) o1 (.br (eqU (s0).data.toList [116, 111, 105, 110, 116]) o1 (.br (eqU (s0).data.toList [116, 111, 100, 101, 99]) o1 (.br (eqU (s0).data.toList [99, 111, 97, 108, 101, 115, 99, 101]) o1 (.br (eqU (s0).data.toList [103, 114, 101, 97, 116, 101, 115, 116]) o1 (.br (eqU (s0).data.toList [108, 101, 97, 115, 116]) o1 (.br (eqU (s0).data.toList [99, 111, 110, 99, 97, 116]) o1 (.br (eqU (s0).data.toList [108, 101, 110, 103, 116, 104]) o1 (.br (eqU (s0).data.toList [108, 111, 119, 101, 114]) o1 (.br (eqU (s0).data.toList [116, 114, 105, 109]) o1 (.br (eqU (s0).data.toList [117, 112, 112, 101, 114]) o1 (.br (eqU (s0).data.toList [110, 117, 108, 108, 105, 102]) o1 (.br (eqU (s0).data.toList [115, 117, 98, 115, 116, 114]) o1 (.br (eqU (s0).data.toList [116, 111, 116, 101, 120, 116]) o1 o1))))))))))))))))))
set_option maxRecDepth 1000000 in
theorem run (s0 : ByteArray) : callK (cfgK Tryz.prog 4 (gpT [(91, A91.spec)]) (ltT 4 [])) (gpT [(91, A91.spec)]) (ltT 4 []) 12 (.fn 38) (absVs 0 [.v (.string s0), .nil]) ⟨absH 0 [.v (.string s0), .nil], 4⟩ (fun o => some o.1) = (T s0).eval := by kernel_rfl
set_option maxRecDepth 1000000 in
theorem flat (s0 : ByteArray) : (T s0).allB (pfd 3) = true := by kernel_rfl
end A38n
end
section
open Go Go.Proofs
namespace A38
def T (s0 : ByteArray) (m1 : Nat) (c1 : List Value) : GT Value := let o1 : GT Value := (.out (.tuple ([.int .i64 0, .int .i64 100]).toArray)); let o2 : GT Value := (.out (.tuple ([.int .i64 (rdI c1 0), .int .i64 0]).toArray)); let o3 : GT Value := (.br (Nat.blt 0 m1) (.br (isV c1 0 (.i .i64)) o2 .no) .no); let o4 : GT Value := (.out (.tuple ([.int .i64 2, .int .i64 0]).toArray)); let o5 : GT Value := (.br (((Int.ofNat m1) == 1)) (.br (Nat.blt 0 m1) (.br (isV c1 0 (.i .i64)) (.br (((rdI c1 0) == 0)) o4 (.br (((rdI c1 0) == 2)) o4 (.br ((!((rdI c1 0) == 3))) o1 o4))) .no) .no) o1); let o6 : GT Value := (.out (.tuple ([.int .i64 3, .int .i64 0]).toArray)); let o7 : GT Value := (.br (([((fun (cs : List Value) => ((0 + m1 * 1).ble cs.length && (List.take (m1 * 1) (List.drop 0 cs)).all scalV, AA.sl m1 1 (List.take (m1 * 1) (List.drop 0 cs)))) c1)]).all fun x => x.fst) (.br ((rowI m1 (Int.ofNat m1) ((((c1).drop 0)).take (m1 * 1)))) (.br ((Ref.refAlike ((((((c1).drop 0)).take (m1 * 1))).map valI)).2) (.br ((!decide ((Int.ofNat m1) ≥ 1))) o1 (.out (.tuple ([.int .i64 (Ref.refAlike ((((((c1).drop 0)).take (m1 * 1))).map valI)).1, .int .i64 0]).toArray))) o1) .no) .no); let o8 : GT Value := (.out (.tuple ([.int .i64 4, .int .i64 0]).toArray)); let o9 : GT Value := (.br (((Int.ofNat m1) == 1)) (.br (Nat.blt 0 m1) (.br (isV c1 0 (.i .i64)) (.br (((rdI c1 0) == 0)) o8 (.br ((!((rdI c1 0) == 4))) o1 o8)) .no) .no) o1); let o10 : GT Value := (.br (Nat.blt 2 m1) (.br (isV c1 2 (.i .i64)) (.br (((rdI c1 2) == 0)) o8 (.br ((!((rdI c1 2) == 2))) o1 o8)) .no) .no); let o11 : GT Value := (.br (Nat.blt 1 m1) (.br (isV c1 1 (.i .i64)) (.br (((rdI c1 1) == 0)) o10 (.br (((rdI c1 1) == 2)) o10 o1)) .no) .no); (.br ((true && ([((1 : Nat), c1)]).all fun p => p.snd.all scalV)) (.br ((rowI m1 (Int.ofNat m1) c1)) (.br (((List.map valI c1).any A14L0.bad)) o1 (.br (eqU (s0).data.toList [97, 98, 115]) (.br (((Int.ofNat m1) == 1)) (.br (Nat.blt 0 m1) (.br (isV c1 0 (.i .i64)) (.br (((rdI c1 0) == 0)) o3 (.br (((rdI c1 0) == 2)) o3 (.br (Nat.blt 0 m1) (.br (isV c1 0 (.i .i64)) (.br ((!((rdI c1 0) == 3))) o1 o2) .no) .no))) .no) .no) o1) (.br (eqU (s0).data.toList [99, 101, 105, 108]) o5 (.br (eqU (s0).data.toList [102, 108, 111, 111, 114]) o5 (.br (eqU (s0).data.toList [114, 111, 117, 110, 100]) o5 (.br (eqU (s0).data.toList [115, 105, 103, 110]) o5 (.br (eqU (s0).data.toList [116, 111, 105, 110, 116]) o5 (.br (eqU (s0).data.toList [116, 111, 100, 101, 99]) (.br (((Int.ofNat m1) == 1)) (.br (Nat.blt 0 m1) (.br (isV c1 0 (.i .i64)) (.br (((rdI c1 0) == 0)) o6 (.br (((rdI c1 0) == 2)) o6 (.br ((!((rdI c1 0) == 3))) o1 o6))) .no) .no) o1) (.br (eqU (s0).data.toList [99, 111, 97, 108, 101, 115, 99, 101]) o7 (.br (eqU (s0).data.toList [103, 114, 101, 97, 116, 101, 115, 116]) o7 (.br (eqU (s0).data.toList [108, 101, 97, 115, 116]) o7 (.br (eqU (s0).data.toList [99, 111, 110, 99, 97, 116]) (.br ((true && ([((1 : Nat), c1)]).all fun p => p.snd.all scalV)) (.br ((rowI m1 (Int.ofNat m1) c1)) (.br ((!(List.foldl (fun b k => b && A14L1.ok1 k) (decide (Int.ofNat m1 ≥ 1)) (List.map valI c1)))) o1 o8) .no) .no) (.br (eqU (s0).data.toList [108, 101, 110, 103, 116, 104]) (.br (((Int.ofNat m1) == 1)) (.br (Nat.blt 0 m1) (.br (isV c1 0 (.i .i64)) (.br (((rdI c1 0) == 0)) o4 (.br ((!((rdI c1 0) == 4))) o1 o4)) .no) .no) o1) (.br (eqU (s0).data.toList [108, 111, 119, 101, 114]) o9 (.br (eqU (s0).data.toList [116, 114, 105, 109]) o9 (.br (eqU (s0).data.toList [117, 112, 112, 101, 114]) o9 (.br (eqU (s0).data.toList [110, 117, 108, 108, 105, 102]) (.br (([((fun (cs : List Value) => ((0 + m1 * 1).ble cs.length && (List.take (m1 * 1) (List.drop 0 cs)).all scalV, AA.sl m1 1 (List.take (m1 * 1) (List.drop 0 cs)))) c1)]).all fun x => x.fst) (.br ((rowI m1 (Int.ofNat m1) ((((c1).drop 0)).take (m1 * 1)))) (.br ((Ref.refAlike ((((((c1).drop 0)).take (m1 * 1))).map valI)).2) (.br (((Int.ofNat m1) == 2)) (.br (Nat.blt 0 m1) (.br (isV c1 0 (.i .i64)) (.br ((!((Int.ofNat m1) == 2))) o1 o2) .no) .no) (.br ((!((Int.ofNat m1) == 2))) o1 (.out (.tuple ([.int .i64 0, .int .i64 0]).toArray)))) o1) .no) .no) (.br (eqU (s0).data.toList [115, 117, 98, 115, 116, 114]) (.br (((Int.ofNat m1) == 3)) (.br (Nat.blt 0 m1) (.br (isV c1 0 (.i .i64)) (.br (((rdI c1 0) == 0)) o11 (.br (((rdI c1 0) == 4)) o11 o1)) .no) .no) o1) (.br (eqU (s0).data.toList [116, 111, 116, 101, 120, 116]) (.br ((!((Int.ofNat m1) == 1))) o1 o8) o1))))))))))))))))))) .no) .no)
set_option maxRecDepth 1000000 in
theorem run (s0 : ByteArray) (m1 : Nat) (c1 : List Value) : callK (cfgK Tryz.prog 4 (gpT [(91, A91.spec)]) (ltT 4 [A38L0.lp, A38L1.lp])) (gpT [(91, A91.spec)]) (ltT 4 [A38L0.lp, A38L1.lp]) 12 (.fn 38) (absVs 0 [.v (.string s0), .sl m1 1 c1]) ⟨absH 0 [.v (.string s0), .sl m1 1 c1], 4⟩ (fun o => some o.1) = (T s0 m1 c1).eval := by kernel_rfl
set_option maxRecDepth 1000000 in
theorem flat (s0 : ByteArray) (m1 : Nat) (c1 : List Value) : (T s0 m1 c1).allB (pfd 3) = true := by kernel_rfl
theorem long_ne (n k : Nat) (h : n < k) : (Int.ofNat k == Int.ofNat n) = false := beq_eq_false_iff_ne.2 fun e => by have := Int.ofNat.inj e; omega
set_option maxHeartbeats 0 in
theorem T_ok (s : ByteArray) (l : List Int) (hl : l.length < 4611686018427387904) : (T s l.length (ints .i64 l)).eval = some (Fit.two (Ref.kindR s l)) := by
 have g := rowI_of hl
 have a3 : ((ints .i64 l).drop 0).take (l.length * 1) = ints .i64 l := by rw [List.drop_zero, Nat.mul_one]; exact List.take_of_length_le (by rw [ints_len]; exact Nat.le_refl _)
 have a5 : (0 + l.length * 1).ble l.length = true := by rw [Nat.ble_eq]; omega
 unfold T Ref.kindR
 simp only [g, a3, a5, ints_vals, ints_scal, ints_len, GT.eval, Bool.true_and, Bool.and_true, cond_true, List.all_cons, List.all_nil]
 cases hb : l.any A14L0.bad
 rotate_left
 ·rfl
 simp only [cond_false]
 clear hb g a3 a5
 cases n0 : eqU s.data.toList [97, 98, 115]
 rotate_left
 ·simp only [cond_true]
  match l with
  | [] => rfl
  | [a] =>
   show (bif a == 0 then _ else bif a == 2 then _ else bif !(a == 3) then _ else _) = some (Fit.two (Fit.rP (a == 0 || (a == 2 || a == 3)) _))
   cases a == 0 <;> cases a == 2 <;> cases a == 3 <;> rfl
  | a :: b :: r =>
   have e : (Int.ofNat (a :: b :: r).length == 1) = false := long_ne 1 _ (by simp)
   rw [e]; rfl
 simp only [cond_false]
 cases n1 : eqU s.data.toList [99, 101, 105, 108]
 rotate_left
 ·simp only [cond_true]
  match l with
  | [] => rfl
  | [a] =>
   show (bif a == 0 then _ else bif a == 2 then _ else bif !(a == 3) then _ else _) = some (Fit.two (Fit.rP (a == 0 || (a == 2 || a == 3)) _))
   cases a == 0 <;> cases a == 2 <;> cases a == 3 <;> rfl
  | a :: b :: r =>
   have e : (Int.ofNat (a :: b :: r).length == 1) = false := long_ne 1 _ (by simp)
   rw [e]; rfl
 simp only [cond_false]
 cases n2 : eqU s.data.toList [102, 108, 111, 111, 114]
 rotate_left
 ·simp only [cond_true]
  match l with
  | [] => rfl
  | [a] =>
   show (bif a == 0 then _ else bif a == 2 then _ else bif !(a == 3) then _ else _) = some (Fit.two (Fit.rP (a == 0 || (a == 2 || a == 3)) _))
   cases a == 0 <;> cases a == 2 <;> cases a == 3 <;> rfl
  | a :: b :: r =>
   have e : (Int.ofNat (a :: b :: r).length == 1) = false := long_ne 1 _ (by simp)
   rw [e]; rfl
 simp only [cond_false]
 cases n3 : eqU s.data.toList [114, 111, 117, 110, 100]
 rotate_left
 ·simp only [cond_true]
  match l with
  | [] => rfl
  | [a] =>
   show (bif a == 0 then _ else bif a == 2 then _ else bif !(a == 3) then _ else _) = some (Fit.two (Fit.rP (a == 0 || (a == 2 || a == 3)) _))
   cases a == 0 <;> cases a == 2 <;> cases a == 3 <;> rfl
  | a :: b :: r =>
   have e : (Int.ofNat (a :: b :: r).length == 1) = false := long_ne 1 _ (by simp)
   rw [e]; rfl
 simp only [cond_false]
 cases n4 : eqU s.data.toList [115, 105, 103, 110]
 rotate_left
 ·simp only [cond_true]
  match l with
  | [] => rfl
  | [a] =>
   show (bif a == 0 then _ else bif a == 2 then _ else bif !(a == 3) then _ else _) = some (Fit.two (Fit.rP (a == 0 || (a == 2 || a == 3)) _))
   cases a == 0 <;> cases a == 2 <;> cases a == 3 <;> rfl
  | a :: b :: r =>
   have e : (Int.ofNat (a :: b :: r).length == 1) = false := long_ne 1 _ (by simp)
   rw [e]; rfl
 simp only [cond_false]
 cases n5 : eqU s.data.toList [116, 111, 105, 110, 116]
 rotate_left
 ·simp only [cond_true]
  match l with
  | [] => rfl
  | [a] =>
   show (bif a == 0 then _ else bif a == 2 then _ else bif !(a == 3) then _ else _) = some (Fit.two (Fit.rP (a == 0 || (a == 2 || a == 3)) _))
   cases a == 0 <;> cases a == 2 <;> cases a == 3 <;> rfl
  | a :: b :: r =>
   have e : (Int.ofNat (a :: b :: r).length == 1) = false := long_ne 1 _ (by simp)
   rw [e]; rfl
 simp only [cond_false]
 cases n6 : eqU s.data.toList [116, 111, 100, 101, 99]
 rotate_left
 ·simp only [cond_true]
  match l with
  | [] => rfl
  | [a] =>
   show (bif a == 0 then _ else bif a == 2 then _ else bif !(a == 3) then _ else _) = some (Fit.two (Fit.rP (a == 0 || (a == 2 || a == 3)) _))
   cases a == 0 <;> cases a == 2 <;> cases a == 3 <;> rfl
  | a :: b :: r =>
   have e : (Int.ofNat (a :: b :: r).length == 1) = false := long_ne 1 _ (by simp)
   rw [e]; rfl
 simp only [cond_false]
 cases n7 : eqU s.data.toList [99, 111, 97, 108, 101, 115, 99, 101]
 rotate_left
 ·simp only [cond_true]
  generalize Ref.refAlike l = p
  cases p.2 <;> cases decide (Int.ofNat l.length ≥ 1) <;> rfl
 simp only [cond_false]
 cases n8 : eqU s.data.toList [103, 114, 101, 97, 116, 101, 115, 116]
 rotate_left
 ·simp only [cond_true]
  generalize Ref.refAlike l = p
  cases p.2 <;> cases decide (Int.ofNat l.length ≥ 1) <;> rfl
 simp only [cond_false]
 cases n9 : eqU s.data.toList [108, 101, 97, 115, 116]
 rotate_left
 ·simp only [cond_true]
  generalize Ref.refAlike l = p
  cases p.2 <;> cases decide (Int.ofNat l.length ≥ 1) <;> rfl
 simp only [cond_false]
 cases n10 : eqU s.data.toList [99, 111, 110, 99, 97, 116]
 rotate_left
 ·simp only [cond_true]
  generalize List.foldl (fun b k => b && A14L1.ok1 k) (decide (Int.ofNat l.length ≥ 1)) l = b
  cases b <;> rfl
 simp only [cond_false]
 cases n11 : eqU s.data.toList [108, 101, 110, 103, 116, 104]
 rotate_left
 ·simp only [cond_true]
  match l with
  | [] => rfl
  | [a] =>
   show (bif a == 0 then _ else bif !(a == 4) then _ else _) = some (Fit.two (Fit.rP (a == 0 || a == 4) _))
   cases a == 0 <;> cases a == 4 <;> rfl
  | a :: b :: r =>
   have e : (Int.ofNat (a :: b :: r).length == 1) = false := long_ne 1 _ (by simp)
   rw [e]; rfl
 simp only [cond_false]
 cases n12 : eqU s.data.toList [108, 111, 119, 101, 114]
 rotate_left
 ·simp only [cond_true]
  match l with
  | [] => rfl
  | [a] =>
   show (bif a == 0 then _ else bif !(a == 4) then _ else _) = some (Fit.two (Fit.rP (a == 0 || a == 4) _))
   cases a == 0 <;> cases a == 4 <;> rfl
  | a :: b :: r =>
   have e : (Int.ofNat (a :: b :: r).length == 1) = false := long_ne 1 _ (by simp)
   rw [e]; rfl
 simp only [cond_false]
 cases n13 : eqU s.data.toList [116, 114, 105, 109]
 rotate_left
 ·simp only [cond_true]
  match l with
  | [] => rfl
  | [a] =>
   show (bif a == 0 then _ else bif !(a == 4) then _ else _) = some (Fit.two (Fit.rP (a == 0 || a == 4) _))
   cases a == 0 <;> cases a == 4 <;> rfl
  | a :: b :: r =>
   have e : (Int.ofNat (a :: b :: r).length == 1) = false := long_ne 1 _ (by simp)
   rw [e]; rfl
 simp only [cond_false]
 cases n14 : eqU s.data.toList [117, 112, 112, 101, 114]
 rotate_left
 ·simp only [cond_true]
  match l with
  | [] => rfl
  | [a] =>
   show (bif a == 0 then _ else bif !(a == 4) then _ else _) = some (Fit.two (Fit.rP (a == 0 || a == 4) _))
   cases a == 0 <;> cases a == 4 <;> rfl
  | a :: b :: r =>
   have e : (Int.ofNat (a :: b :: r).length == 1) = false := long_ne 1 _ (by simp)
   rw [e]; rfl
 simp only [cond_false]
 cases n15 : eqU s.data.toList [110, 117, 108, 108, 105, 102]
 rotate_left
 ·simp only [cond_true]
  generalize Ref.refAlike l = p
  match l with
  | [] => cases p.2 <;> rfl
  | [a] => cases p.2 <;> rfl
  | [a, b] => cases p.2 <;> rfl
  | a :: b :: c :: r =>
   have e : (Int.ofNat (a :: b :: c :: r).length == 2) = false := long_ne 2 _ (by simp)
   rw [e]
   cases p.2 <;> rfl
 simp only [cond_false]
 cases n16 : eqU s.data.toList [115, 117, 98, 115, 116, 114]
 rotate_left
 ·simp only [cond_true]
  match l with
  | [] => rfl
  | [a] => rfl
  | [a, b] => rfl
  | [a, b, c] =>
   show (bif a == 0 then (bif b == 0 then (bif c == 0 then _ else bif !(c == 2) then _ else _) else bif b == 2 then (bif c == 0 then _ else bif !(c == 2) then _ else _) else _) else bif a == 4 then (bif b == 0 then (bif c == 0 then _ else bif !(c == 2) then _ else _) else bif b == 2 then (bif c == 0 then _ else bif !(c == 2) then _ else _) else _) else _) = some (Fit.two (Fit.rP ((a == 0 || a == 4) && ((b == 0 || b == 2) && (c == 0 || c == 2))) _))
   cases a == 0 <;> cases a == 4 <;> cases b == 0 <;> cases b == 2 <;> cases c == 0 <;> cases c == 2 <;> rfl
  | a :: b :: c :: d :: r =>
   have e : (Int.ofNat (a :: b :: c :: d :: r).length == 3) = false := long_ne 3 _ (by simp)
   rw [e]; rfl
 simp only [cond_false]
 cases n17 : eqU s.data.toList [116, 111, 116, 101, 120, 116]
 rotate_left
 ·simp only [cond_true]
  cases Int.ofNat l.length == 1 <;> rfl
 rfl
def spec : Spec := fun aa => match aa with
 | [.v (.string s), .sl n 1 cs] => some (.need (rowI n (Int.ofNat n) cs) (.out (Fit.two (Ref.kindR s (cs.map valI)))))
 | [.v (.string s), .nil] => some (.out (Fit.two (0, 100)))
 | _ => none
theorem T_nil (s : ByteArray) : (A38n.T s).eval = some (Fit.two (0, 100)) := by
 unfold A38n.T
 simp only [GT.eval, A14.same]
 rfl
theorem spec_ok : SpecOk Tryz.prog La 38 spec := ⟨fnOk_ok (by kernel_rfl), fun aa t v h e => by
 unfold spec at h
 split at h
 ·rename_i s n cs
  cases h
  obtain ⟨g1, g2⟩ := GT.need_eval e
  cases g2
  obtain ⟨_, hn, l, rfl, h4, rfl⟩ := rowI_ok g1
  rw [h4]
  exact ⟨rfl, callT La_below prog_mix prog_names (by simpa using A91.spec_ok) (by simpa using ⟨A38L0.lp_fine, A38L1.lp_fine⟩) (by decide) (by simp) rfl ((run _ _ _).trans (T_ok _ _ hn))⟩
 ·cases h; cases e
  exact ⟨rfl, callT La_below prog_mix prog_names (by simpa using A91.spec_ok) (by simp) (by decide) (by simp) rfl ((A38n.run _).trans (T_nil _))⟩
 ·cases h⟩
end A38
end
section
open Go Go.Proofs
namespace A95
def T (k0 n0 : Int) (s0 : ByteArray) (k1 n1 : Int) (s1 : ByteArray) : GT Value := let x1 := IntKind.wrap .i64 (Int.tdiv n1 10000); let x2 := IntKind.wrap .i64 (Int.tdiv n0 10000); let x5 := IntKind.wrap .i64 (x2 - 1); let x6 := IntKind.wrap .i64 (x1 - 1); let x7 := Int.tmod n1 10000; let x3 := IntKind.wrap .i64 (x7 + 10000); let x8 := Int.tmod n0 10000; let x4 := IntKind.wrap .i64 (x8 + 10000); let o1 : GT Value := (.out (.tuple ([.int .i64 (-1), .bool (true)]).toArray)); let o2 : GT Value := (.out (.tuple ([.int .i64 1, .bool (true)]).toArray)); let o3 : GT Value := (.out (.tuple ([.int .i64 0, .bool (true)]).toArray)); let o4 : GT Value := (.br (decide (n0 < n1)) o1 (.br (decide (n0 > n1)) o2 o3)); let o5 : GT Value := (.br ((k0 == 2)) (.br ((k1 == 2)) o4 (.br (decide (x7 < 0)) (.br (decide (n0 < x6)) o1 (.br (decide (n0 > x6)) o2 (.br (decide (0 < x3)) o1 (.br (decide (0 > x3)) o2 o3)))) (.br (decide (n0 < x1)) o1 (.br (decide (n0 > x1)) o2 (.br (decide (0 < x7)) o1 (.br (decide (0 > x7)) o2 o3)))))) (.br (decide (x8 < 0)) (.br ((k1 == 2)) (.br (decide (x5 < n1)) o1 (.br (decide (x5 > n1)) o2 (.br (decide (x4 < 0)) o1 (.br (decide (x4 > 0)) o2 o3)))) (.br (decide (x7 < 0)) (.br (decide (x5 < x6)) o1 (.br (decide (x5 > x6)) o2 (.br (decide (x4 < x3)) o1 (.br (decide (x4 > x3)) o2 o3)))) (.br (decide (x5 < x1)) o1 (.br (decide (x5 > x1)) o2 (.br (decide (x4 < x7)) o1 (.br (decide (x4 > x7)) o2 o3)))))) (.br ((k1 == 2)) (.br (decide (x2 < n1)) o1 (.br (decide (x2 > n1)) o2 (.br (decide (x8 < 0)) o1 (.br (decide (x8 > 0)) o2 o3)))) (.br (decide (x7 < 0)) (.br (decide (x2 < x6)) o1 (.br (decide (x2 > x6)) o2 (.br (decide (x8 < x3)) o1 (.br (decide (x8 > x3)) o2 o3)))) (.br (decide (x2 < x1)) o1 (.br (decide (x2 > x1)) o2 (.br (decide (x8 < x7)) o1 (.br (decide (x8 > x7)) o2 o3)))))))); let o6 : GT Value := (.out (.tuple ([.int .i64 0, .bool (false)]).toArray)); let o7 : GT Value := (.br ((k0 == 1)) (.br ((k1 == 1)) o4 o6) o6); let o8 : GT Value := (.br ((k0 == 4)) (.br ((k1 == 4)) (.br (ltU s0.data.toList s1.data.toList) o1 (.br ((!(ltU s0.data.toList s1.data.toList || eqU s0.data.toList s1.data.toList))) o2 o3)) o7) o7); let o9 : GT Value := (.br ((k1 == 2)) o5 (.br ((k1 == 3)) o5 o8)); (.br ((k0 == 2)) o9 (.br ((k0 == 3)) o9 o8))
set_option maxRecDepth 1000000 in
theorem run (k0 n0 : Int) (s0 : ByteArray) (k1 n1 : Int) (s1 : ByteArray) : callK (cfgK Tryz.prog 4 (gpT []) (ltT 4 [])) (gpT []) (ltT 4 []) 12 (.fn 95) (absVs 0 [.v (.agg #[.int .i64 k0, .int .i64 n0, .string s0]), .v (.agg #[.int .i64 k1, .int .i64 n1, .string s1])]) ⟨absH 0 [.v (.agg #[.int .i64 k0, .int .i64 n0, .string s0]), .v (.agg #[.int .i64 k1, .int .i64 n1, .string s1])], 4⟩ (fun o => some o.1) = (T k0 n0 s0 k1 n1 s1).eval := by kernel_rfl
set_option maxRecDepth 1000000 in
theorem flat (k0 n0 : Int) (s0 : ByteArray) (k1 n1 : Int) (s1 : ByteArray) : (T k0 n0 s0 k1 n1 s1).allB (pfd 3) = true := by kernel_rfl
theorem bif_t {α : Type} {p : Prop} [Decidable p] (h : p) (x y : α) : (bif decide p then x else y) = x := by rw [decide_eq_true h]; rfl
theorem bif_f {α : Type} {p : Prop} [Decidable p] (h : ¬ p) (x y : α) : (bif decide p then x else y) = y := by rw [decide_eq_false h]; rfl
def tw (p : Int × Bool) : Value := .tuple #[.int .i64 p.1, .bool p.2]
def o (z : Int) : Option Value := some (.tuple ([.int .i64 z, .bool true]).toArray)
theorem cmpT (w x f g : Int) : (bif decide (w < x) then o (-1) else bif decide (w > x) then o 1 else bif decide (f < g) then o (-1) else bif decide (f > g) then o 1 else o 0) = some (tw (if A131.cmpI w x ≠ 0 then A131.cmpI w x else A131.cmpI f g, true)) := by
 unfold A131.cmpI
 by_cases h1 : w < x
 ·rw [decide_eq_true h1, if_pos h1]; rfl
 ·rw [decide_eq_false h1, if_neg h1]
  by_cases h2 : x < w
  ·rw [decide_eq_true (show w > x from h2), if_pos h2]; rfl
  ·rw [decide_eq_false (show ¬ w > x from h2), if_neg h2]
   by_cases h3 : f < g
   ·rw [decide_eq_true h3, if_pos h3]; rfl
   ·rw [decide_eq_false h3, if_neg h3]
    by_cases h4 : g < f
    ·rw [decide_eq_true (show f > g from h4), if_pos h4]; rfl
    ·rw [decide_eq_false (show ¬ f > g from h4), if_neg h4]; rfl
theorem tri : ∀ (a b : List UInt8), ltU a b = false → ltU b a = !eqU a b
 | [], [], _ => rfl
 | [], _ :: _, h => by cases h
 | _ :: _, [], _ => rfl
 | x :: a, y :: b, h => by
  have e1 : ltU (x :: a) (y :: b) = (Nat.blt x.toNat y.toNat || (Nat.beq x.toNat y.toNat && ltU a b)) := rfl
  have e2 : ltU (y :: b) (x :: a) = (Nat.blt y.toNat x.toNat || (Nat.beq y.toNat x.toNat && ltU b a)) := rfl
  have e3 : eqU (x :: a) (y :: b) = (Nat.beq x.toNat y.toNat && eqU a b) := rfl
  rw [e1] at h
  rw [e2, e3]
  simp only [Bool.or_eq_false_iff] at h
  obtain ⟨h1, h2⟩ := h
  have h1' : ¬ x.toNat < y.toNat := fun hh => by rw [show Nat.blt x.toNat y.toNat = true from by rw [Nat.blt_eq]; exact hh] at h1; cases h1
  by_cases he : x.toNat = y.toNat
  ·have b1 : Nat.beq x.toNat y.toNat = true := by rw [he]; exact Nat.beq_refl _
   have b2 : Nat.beq y.toNat x.toNat = true := by rw [he]; exact Nat.beq_refl _
   have b3 : Nat.blt y.toNat x.toNat = false := by
    cases hb : Nat.blt y.toNat x.toNat
    ·rfl
    ·rw [Nat.blt_eq] at hb; omega
   rw [b1, Bool.true_and] at h2
   rw [b1, b2, b3, tri a b h2]; rfl
  ·have b1 : Nat.beq x.toNat y.toNat = false := by
    cases hb : Nat.beq x.toNat y.toNat
    ·rfl
    ·exact absurd (Nat.eq_of_beq_eq_true hb) he
   have b3 : Nat.blt y.toNat x.toNat = true := by rw [Nat.blt_eq]; omega
   rw [b1, b3]; rfl
theorem T_ok (k0 n0 : Int) (s0 : ByteArray) (k1 n1 : Int) (s1 : ByteArray) : (T k0 n0 s0 k1 n1 s1).eval = some (tw (Ref.compareR k0 n0 s0 k1 n1 s1)) := by
 have c22 : ((2 : Int) == 2) = true := rfl
 have c23 : ((2 : Int) == 3) = false := rfl
 have c32 : ((3 : Int) == 2) = false := rfl
 have c33 : ((3 : Int) == 3) = true := rfl
 have sp : ∀ n : Int, Ref.splitR 3 n = if n.tmod 10000 < 0 then (Ref.wr (Ref.wr (n.tdiv 10000) - 1), Ref.wr (n.tmod 10000 + 10000)) else (Ref.wr (n.tdiv 10000), n.tmod 10000) := fun n => by
  unfold Ref.splitR; rw [if_neg (by decide)]
 have s2 : ∀ n : Int, Ref.splitR 2 n = (n, 0) := fun n => by unfold Ref.splitR; rw [if_pos rfl]
 have num : ∀ a b : Int, Ref.isNum a = true → Ref.isNum b = true → Ref.compareR a n0 s0 b n1 s1 = (if A131.cmpI (Ref.splitR a n0).1 (Ref.splitR b n1).1 ≠ 0 then A131.cmpI (Ref.splitR a n0).1 (Ref.splitR b n1).1 else A131.cmpI (Ref.splitR a n0).2 (Ref.splitR b n1).2, true) := fun a b ha hb => by
  unfold Ref.compareR; rw [if_pos ⟨ha, hb⟩]; rfl
 by_cases a2 : k0 = 2
 ·subst a2
  by_cases b2 : k1 = 2
  ·subst b2
   rw [num 2 2 rfl rfl, s2, s2]
   simp only [T, GT.eval, c22, cond_true]
   exact cmpT n0 n1 0 0
  ·by_cases b3 : k1 = 3
   ·subst b3
    rw [num 2 3 rfl rfl, s2, sp]
    simp only [T, GT.eval, c22, c32, c33, cond_true, cond_false]
    by_cases h : n1.tmod 10000 < 0
    ·rw [if_pos h]; refine (bif_t h _ _).trans ?_; exact cmpT n0 _ 0 _
    ·rw [if_neg h]; refine (bif_f h _ _).trans ?_; exact cmpT n0 _ 0 _
   ·unfold Ref.compareR Ref.isNum
    simp [T, GT.eval, tw, b2, b3, beq_eq_false_iff_ne.2 b2, beq_eq_false_iff_ne.2 b3]
 by_cases a3 : k0 = 3
 ·subst a3
  by_cases b2 : k1 = 2
  ·subst b2
   rw [num 3 2 rfl rfl, s2, sp]
   simp only [T, GT.eval, c22, c32, c33, cond_true, cond_false]
   by_cases h : n0.tmod 10000 < 0
   ·rw [if_pos h]; refine (bif_t h _ _).trans ?_; exact cmpT _ n1 _ 0
   ·rw [if_neg h]; refine (bif_f h _ _).trans ?_; exact cmpT _ n1 _ 0
  ·by_cases b3 : k1 = 3
   ·subst b3
    rw [num 3 3 rfl rfl, sp, sp]
    simp only [T, GT.eval, c22, c32, c33, cond_true, cond_false]
    by_cases h : n0.tmod 10000 < 0
    ·rw [if_pos h]; refine (bif_t h _ _).trans ?_
     by_cases h2 : n1.tmod 10000 < 0
     ·rw [if_pos h2]; refine (bif_t h2 _ _).trans ?_; exact cmpT _ _ _ _
     ·rw [if_neg h2]; refine (bif_f h2 _ _).trans ?_; exact cmpT _ _ _ _
    ·rw [if_neg h]; refine (bif_f h _ _).trans ?_
     by_cases h2 : n1.tmod 10000 < 0
     ·rw [if_pos h2]; refine (bif_t h2 _ _).trans ?_; exact cmpT _ _ _ _
     ·rw [if_neg h2]; refine (bif_f h2 _ _).trans ?_; exact cmpT _ _ _ _
   ·unfold Ref.compareR Ref.isNum
    simp [T, GT.eval, tw, b2, b3, beq_eq_false_iff_ne.2 b2, beq_eq_false_iff_ne.2 b3]
 have e2 := beq_eq_false_iff_ne.2 a2
 have e3 := beq_eq_false_iff_ne.2 a3
 have hn : Ref.isNum k0 = false := by unfold Ref.isNum; rw [e2, e3]; rfl
 unfold Ref.compareR
 rw [if_neg (by rw [hn]; simp)]
 by_cases a4 : k0 = 4
 ·subst a4
  by_cases b4 : k1 = 4
  ·subst b4
   rw [if_pos ⟨rfl, rfl⟩]
   unfold Ref.textR
   cases h1 : ltU s0.data.toList s1.data.toList
   ·rw [tri _ _ h1]
    cases h2 : eqU s0.data.toList s1.data.toList <;> simp [T, GT.eval, tw, h1, h2]
   ·simp [T, GT.eval, tw, h1]
  ·simp [T, GT.eval, tw, b4, beq_eq_false_iff_ne.2 b4]
 by_cases a1 : k0 = 1
 ·subst a1
  by_cases b1 : k1 = 1
  ·subst b1
   rw [if_neg (by simp), if_pos ⟨rfl, rfl⟩]
   unfold A131.cmpI
   by_cases h1 : n0 < n1 <;> by_cases h2 : n1 < n0 <;> simp [T, GT.eval, tw, h1, h2]
  ·simp [T, GT.eval, tw, b1, beq_eq_false_iff_ne.2 b1]
 simp [T, GT.eval, tw, a4, a1, e2, e3, beq_eq_false_iff_ne.2 a4, beq_eq_false_iff_ne.2 a1]
def spec : Spec := fun aa => match aa with
 | [a, b] => (vOf a).bind fun x => (vOf b).bind fun y => some (.out (.tuple #[.int .i64 (Ref.compareR x.1 x.2.1 x.2.2 y.1 y.2.1 y.2.2).1, .bool (Ref.compareR x.1 x.2.1 x.2.2 y.1 y.2.1 y.2.2).2]))
 | _ => none
theorem spec_ok : SpecOk Tryz.prog La 95 spec := ⟨fnOk_ok (by kernel_rfl), fun aa t v h e => by
 unfold spec at h
 split at h
 ·rename_i a b
  obtain ⟨⟨k0, n0, s0⟩, h1, h⟩ := opt_bind h
  obtain ⟨⟨k1, n1, s1⟩, h2, h⟩ := opt_bind h
  cases h; cases e
  rw [vOf_ok h1, vOf_ok h2]
  exact ⟨rfl, callT (l := []) (L := []) (n0 := 4) (k := 12) La_below prog_mix prog_names (by simp) (by simp) (by decide) (by simp) rfl ((run k0 n0 s0 k1 n1 s1).trans (T_ok _ _ _ _ _ _))⟩
 ·cases h⟩
end A95
end
section
open Go Go.Proofs
namespace A40
def T (k0 n0 : Int) (s0 : ByteArray) (k1 n1 : Int) (s1 : ByteArray) : GT Value := let o1 : GT Value := (.out (.agg ([.int .i64 0, .int .i64 0, .string ⟨([]).toArray⟩]).toArray)); let o2 : GT Value := (.out (.agg ([.int .i64 1, .int .i64 0, .string ⟨([]).toArray⟩]).toArray)); (.br ((k0 == 0)) o1 (.br ((k1 == 0)) o1 (.br ((Ref.compareR k0 n0 s0 k1 n1 s1).2) (.br (((Ref.compareR k0 n0 s0 k1 n1 s1).1 == 0)) (.out (.agg ([.int .i64 1, .int .i64 1, .string ⟨([]).toArray⟩]).toArray)) o2) o2)))
set_option maxRecDepth 1000000 in
theorem run (k0 n0 : Int) (s0 : ByteArray) (k1 n1 : Int) (s1 : ByteArray) : callK (cfgK Tryz.prog 4 (gpT [(95, A95.spec)]) (ltT 4 [])) (gpT [(95, A95.spec)]) (ltT 4 []) 12 (.fn 40) (absVs 0 [.v (.agg #[.int .i64 k0, .int .i64 n0, .string s0]), .v (.agg #[.int .i64 k1, .int .i64 n1, .string s1])]) ⟨absH 0 [.v (.agg #[.int .i64 k0, .int .i64 n0, .string s0]), .v (.agg #[.int .i64 k1, .int .i64 n1, .string s1])], 4⟩ (fun o => some o.1) = (T k0 n0 s0 k1 n1 s1).eval := by kernel_rfl
set_option maxRecDepth 1000000 in
theorem flat (k0 n0 : Int) (s0 : ByteArray) (k1 n1 : Int) (s1 : ByteArray) : (T k0 n0 s0 k1 n1 s1).allB (pfd 3) = true := by kernel_rfl
def eqK (a b : W3) : Int := bif a.1 == 0 || b.1 == 0 then 0 else 1
def eqN (a b : W3) : Int := bif a.1 == 0 || b.1 == 0 then 0 else bif (Ref.compareR a.1 a.2.1 a.2.2 b.1 b.2.1 b.2.2).2 && (Ref.compareR a.1 a.2.1 a.2.2 b.1 b.2.1 b.2.2).1 == 0 then 1 else 0
theorem T_ok (a b : W3) : (T a.1 a.2.1 a.2.2 b.1 b.2.1 b.2.2).eval = some (.agg #[.int .i64 (eqK a b), .int .i64 (eqN a b), .string ⟨#[]⟩]) := by
 unfold eqK eqN T
 simp only [GT.eval]
 cases a.1 == 0 <;> cases b.1 == 0 <;> cases (Ref.compareR a.1 a.2.1 a.2.2 b.1 b.2.1 b.2.2).2 <;> cases (Ref.compareR a.1 a.2.1 a.2.2 b.1 b.2.1 b.2.2).1 == 0 <;> rfl
def spec : Spec := fun aa => match aa with
 | [a, b] => (vOf a).bind fun x => (vOf b).bind fun y => some (.out (.agg #[.int .i64 (eqK x y), .int .i64 (eqN x y), .string ⟨#[]⟩]))
 | _ => none
theorem spec_ok : SpecOk Tryz.prog La 40 spec := ⟨fnOk_ok (by kernel_rfl), fun aa t v h e => by
 unfold spec at h
 split at h
 ·rename_i a b
  obtain ⟨x, h1, h⟩ := opt_bind h
  obtain ⟨y, h2, h⟩ := opt_bind h
  cases h; cases e
  rw [vOf_ok h1, vOf_ok h2]
  exact ⟨rfl, callT (l := [(95, A95.spec)]) (L := []) (n0 := 4) (k := 12) La_below prog_mix prog_names (by simpa using A95.spec_ok) (by simp) (by decide) (by simp) rfl ((run _ _ _ _ _ _).trans (T_ok _ _))⟩
 ·cases h⟩
end A40
end
section
open Go Go.Proofs
namespace A42L0
noncomputable def cfg : Cfg := cfgK Tryz.prog 4 (gpT [(95, A95.spec)]) (ltT 4 [])
def stA (nm : ByteArray) (n : Nat) (i kb nb : Int) (sb : ByteArray) : KX := ⟨[(0, .string nm), (1, .slice (some ⟨1, 0, none⟩) n 3), (4, .pointer (some ⟨4, 0, none⟩)), (5, .pointer (some ⟨6, 0, none⟩)), (6, .int .i64 i)], [[.int .i64 kb, .int .i64 nb, .string sb]]⟩
def kp : Ex → List Nat
 | .normal => [0, 1, 4, 5, 6]
 | .exit _ => [4, 5]
 | _ => []
def cr : Ex → St → List (Nat × Bool) := fun _ s => [(6, true)]
set_option maxRecDepth 1000000 in
theorem round (nm : ByteArray) (n : Nat) (i kb nb : Int) (sb : ByteArray) (cs : List Value) : codeK cfg (gpT [(95, A95.spec)]) (callK cfg (gpT [(95, A95.spec)]) (ltT 4 []) 12) (fun _ _ => none) false 1000 (loopAt Tryz.prog 42 0) (stK 55 6 [(1, cs)] (stA nm n i kb nb sb)) (endK 6 100 55 kp cr) = (let x1 := 0 + ((i).toNat * 3); let x2 := IntKind.wrap .i64 (i + 1); let x3 := rdS cs ((x1 + 1) + 1); (bif decide (i < (Int.ofNat n)) then (bif decide (0 ≤ i) then (bif Nat.blt (i).toNat n then (bif isL cs x1 [(.i .i64), (.i .i64), .s] then (bif eqU (nm).data.toList [99, 111, 97, 108, 101, 115, 99, 101] then (bif (kb == 0) then (bif decide (0 ≤ i) then (bif Nat.blt (i).toNat n then (bif isL cs x1 [(.i .i64), (.i .i64), .s] then (some (.normal, ⟨[(0, .string nm), (1, .slice (some ⟨1, 0, none⟩) n 3), (4, .pointer (some ⟨4, 0, none⟩)), (5, .pointer (some ⟨6, 0, none⟩)), (6, .int .i64 x2)], [[.int .i64 (rdI cs x1), .int .i64 (rdI cs (x1 + 1)), .string x3]]⟩)) else none) else none) else none) else (some (.normal, ⟨[(0, .string nm), (1, .slice (some ⟨1, 0, none⟩) n 3), (4, .pointer (some ⟨4, 0, none⟩)), (5, .pointer (some ⟨6, 0, none⟩)), (6, .int .i64 x2)], [[.int .i64 kb, .int .i64 nb, .string sb]]⟩))) else (bif eqU (nm).data.toList [103, 114, 101, 97, 116, 101, 115, 116] then (bif decide ((Ref.compareR (rdI cs x1) (rdI cs (x1 + 1)) x3 kb nb sb).1 > 0) then (bif decide (0 ≤ i) then (bif Nat.blt (i).toNat n then (bif isL cs x1 [(.i .i64), (.i .i64), .s] then (some (.normal, ⟨[(0, .string nm), (1, .slice (some ⟨1, 0, none⟩) n 3), (4, .pointer (some ⟨4, 0, none⟩)), (5, .pointer (some ⟨6, 0, none⟩)), (6, .int .i64 x2)], [[.int .i64 (rdI cs x1), .int .i64 (rdI cs (x1 + 1)), .string x3]]⟩)) else none) else none) else none) else (bif eqU (nm).data.toList [108, 101, 97, 115, 116] then (bif decide ((Ref.compareR (rdI cs x1) (rdI cs (x1 + 1)) x3 kb nb sb).1 < 0) then (bif decide (0 ≤ i) then (bif Nat.blt (i).toNat n then (bif isL cs x1 [(.i .i64), (.i .i64), .s] then (some (.normal, ⟨[(0, .string nm), (1, .slice (some ⟨1, 0, none⟩) n 3), (4, .pointer (some ⟨4, 0, none⟩)), (5, .pointer (some ⟨6, 0, none⟩)), (6, .int .i64 x2)], [[.int .i64 (rdI cs x1), .int .i64 (rdI cs (x1 + 1)), .string x3]]⟩)) else none) else none) else none) else (some (.normal, ⟨[(0, .string nm), (1, .slice (some ⟨1, 0, none⟩) n 3), (4, .pointer (some ⟨4, 0, none⟩)), (5, .pointer (some ⟨6, 0, none⟩)), (6, .int .i64 x2)], [[.int .i64 kb, .int .i64 nb, .string sb]]⟩))) else (some (.normal, ⟨[(0, .string nm), (1, .slice (some ⟨1, 0, none⟩) n 3), (4, .pointer (some ⟨4, 0, none⟩)), (5, .pointer (some ⟨6, 0, none⟩)), (6, .int .i64 x2)], [[.int .i64 kb, .int .i64 nb, .string sb]]⟩)))) else (bif eqU (nm).data.toList [108, 101, 97, 115, 116] then (bif decide ((Ref.compareR (rdI cs x1) (rdI cs (x1 + 1)) x3 kb nb sb).1 < 0) then (bif decide (0 ≤ i) then (bif Nat.blt (i).toNat n then (bif isL cs x1 [(.i .i64), (.i .i64), .s] then (some (.normal, ⟨[(0, .string nm), (1, .slice (some ⟨1, 0, none⟩) n 3), (4, .pointer (some ⟨4, 0, none⟩)), (5, .pointer (some ⟨6, 0, none⟩)), (6, .int .i64 x2)], [[.int .i64 (rdI cs x1), .int .i64 (rdI cs (x1 + 1)), .string x3]]⟩)) else none) else none) else none) else (some (.normal, ⟨[(0, .string nm), (1, .slice (some ⟨1, 0, none⟩) n 3), (4, .pointer (some ⟨4, 0, none⟩)), (5, .pointer (some ⟨6, 0, none⟩)), (6, .int .i64 x2)], [[.int .i64 kb, .int .i64 nb, .string sb]]⟩))) else (some (.normal, ⟨[(0, .string nm), (1, .slice (some ⟨1, 0, none⟩) n 3), (4, .pointer (some ⟨4, 0, none⟩)), (5, .pointer (some ⟨6, 0, none⟩)), (6, .int .i64 x2)], [[.int .i64 kb, .int .i64 nb, .string sb]]⟩))))) else none) else none) else none) else (some (.exit 0, ⟨[(4, .pointer (some ⟨4, 0, none⟩)), (5, .pointer (some ⟨6, 0, none⟩))], [[.int .i64 kb, .int .i64 nb, .string sb]]⟩)))) := by kernel_rfl
def upd (nm : ByteArray) (b v : W3) : W3 := bif Ref.takes nm b v then v else b
def stV (nm : ByteArray) (n : Nat) (i : Int) (b : W3) : KX := stA nm n i b.1 b.2.1 b.2.2
def stE (b : W3) : KX := ⟨[(4, .pointer (some ⟨4, 0, none⟩)), (5, .pointer (some ⟨6, 0, none⟩))], [[.int .i64 b.1, .int .i64 b.2.1, .string b.2.2]]⟩
def best (nm : ByteArray) (k n : Int) (s : ByteArray) (l : List W3) : W3 := l.tail.foldl (upd nm) (k, n, s)
def D : KD := ⟨55, 6, 100, [0, 1, 4, 5, 6], [1], fun _ => [(5, true)], fun x ro => match x.vs, x.cars, ro with
 | [(0, .string nm), (1, .slice (some ⟨1, 0, none⟩) n 3), (4, .pointer (some ⟨4, 0, none⟩)), (5, .pointer (some ⟨6, 0, none⟩)), (6, .int .i64 1)], [[.int .i64 kb, .int .i64 nb, .string sb]], [(1, cs)] =>
  .need (rowW n (Int.ofNat n) cs && Nat.blt 0 n) (.out (.exit 0, stE (best nm kb nb sb (valsOf cs))))
 | _, _, _ => .no⟩
def lp : LpK := ⟨42, 3, 0, D⟩
theorem sp_ok : ∀ p ∈ [((95 : FuncId), A95.spec)], SpecOk Tryz.prog La p.1 p.2 := by simpa using A95.spec_ok
theorem next (nm : ByteArray) (l : List W3) (hn : l.length < 4398046511104) (p : W3) {j : Nat} (hj : j < l.length) :
  codeK cfg (gpT [(95, A95.spec)]) (callK cfg (gpT [(95, A95.spec)]) (ltT 4 []) 12) (fun _ _ => none) false 1000 (loopAt Tryz.prog 42 0) (stK 55 6 [(1, vals l)] (stV nm l.length j p)) (endK 6 100 55 kp cr) =
  some (.normal, stV nm l.length ((j + 1 : Nat) : Int) (upd nm p l[j])) := by
 have h1 : decide ((j : Int) < Int.ofNat l.length) = true := decide_eq_true (by show (j : Int) < (l.length : Int); omega)
 have h2 : decide ((0 : Int) ≤ j) = true := decide_eq_true (by omega)
 have h3 : Nat.blt ((j : Int)).toNat l.length = true := by rw [Nat.blt_eq]; simpa using hj
 have h4 : (0 + ((j : Int)).toNat * 3) = j * 3 := by simp
 have h5 : IntKind.wrap .i64 ((j : Int) + 1) = ((j + 1 : Nat) : Int) := by rw [wrap_in (by omega) (by omega)]; omega
 have hs : rdS (vals l) (j * 3 + 1 + 1) = l[j].2.2 := rdS_vals l hj
 unfold stV
 rw [round]
 dsimp only []
 simp only [h1, h2, h3, h4, h5, isL_vals l hj, rdI_vals l hj, rdI_vals1 l hj, hs, cond_true]
 generalize l[j] = v
 unfold upd Ref.takes
 obtain ⟨kb, nb, sb⟩ := p
 dsimp only []
 generalize eqU nm.data.toList [99, 111, 97, 108, 101, 115, 99, 101] = q
 generalize eqU nm.data.toList [103, 114, 101, 97, 116, 101, 115, 116] = g
 generalize eqU nm.data.toList [108, 101, 97, 115, 116] = m
 generalize (Ref.compareR v.1 v.2.1 v.2.2 kb nb sb).1 = c1
 cases q <;> cases (kb == 0) <;> cases g <;> cases m <;> cases decide (c1 > 0) <;> cases decide (c1 < 0) <;> rfl
theorem lp_fine : LpFine Tryz.prog La 4 lp := by
 refine ⟨by kernel_rfl, fun c base I hP hn hG hI hIL x ro ex y e => ?_⟩
 obtain ⟨vs, cars⟩ := x
 simp only [lp, D] at e ⊢
 split at e
 ·rename_i nm n kb nb sb cs
  obtain ⟨g1, g2⟩ := GT.need_eval e
  simp only [Bool.and_eq_true] at g1
  obtain ⟨_, hn2, h4, h5⟩ := rowW_ok g1.1
  have h0 := g1.2
  generalize valsOf cs = l at h4 h5 g2
  subst h4 h5
  rw [Nat.blt_eq] at h0
  have hlen : l.tail.length + 1 = l.length := by cases l with
   | nil => cases h0
   | cons v l => simp
  have key := scan_from (Step := @StepK (etaB base) c base I (loopAt Tryz.prog 42 0) 55 6 100 [(1, vals l)]) (step := fun p v => .inl (upd nm p v)) (fin := fun p => (.exit 0, stE p)) (st := fun p j => stV nm l.length ((j + 1 : Nat) : Int) p) (l := l.tail) (fun s => by simp) (fun s a r h => by cases h) (fun p j hj => by
    have hr := next nm l hn2 p (j := j + 1) (by omega)
    have et : l[j + 1]'(by omega) = l.tail[j] := by simp
    rw [et] at hr
    exact stepT prog_mix prog_names sp_ok (by simp) hP hn hG hI hIL hr) (fun p => by
    have h1 : decide (((l.tail.length + 1 : Nat) : Int) < Int.ofNat l.length) = false := decide_eq_false (by show ¬ ((l.tail.length + 1 : Nat) : Int) < (l.length : Int); omega)
    have hr := round nm l.length ((l.tail.length + 1 : Nat) : Int) p.1 p.2.1 p.2.2 (vals l)
    dsimp only [] at hr
    simp only [h1, cond_false] at hr
    exact stepT prog_mix prog_names sp_ok (by simp) hP hn hG hI hIL hr) l.tail.length 0 (kb, nb, sb) (by omega)
  rw [List.drop_zero, scanF_fold] at key
  cases g2
  exact key
 ·cases e
end A42L0
end
section
open Go Go.Proofs
namespace A42
def T (s0 : ByteArray) (m1 : Nat) (c1 : List Value) : GT Value := let x1 := A42L0.best s0 (rdI c1 0) (rdI c1 1) (rdS c1 2) (valsOf c1); (.br (Nat.blt 0 m1) (.br (isL c1 0 [(.i .i64), (.i .i64), .s]) (.br ((true && ([((1 : Nat), c1)]).all fun p => p.snd.all scalV)) (.br (((decide ((Int.ofNat m1) = (Int.ofNat m1)) && ((isVals c1) && (Nat.beq (c1).length (m1 * 3) && Nat.blt m1 4398046511104))) && Nat.blt 0 m1)) (.out (.agg ([.int .i64 x1.1, .int .i64 x1.2.1, .string x1.2.2]).toArray)) .no) .no) .no) .no)
set_option maxRecDepth 1000000 in
theorem run (s0 : ByteArray) (m1 : Nat) (c1 : List Value) : callK (cfgK Tryz.prog 4 (gpT [(95, A95.spec)]) (ltT 4 [A42L0.lp])) (gpT [(95, A95.spec)]) (ltT 4 [A42L0.lp]) 12 (.fn 42) (absVs 0 [.v (.string s0), .sl m1 3 c1]) ⟨absH 0 [.v (.string s0), .sl m1 3 c1], 4⟩ (fun o => some o.1) = (T s0 m1 c1).eval := by kernel_rfl
set_option maxRecDepth 1000000 in
theorem flat (s0 : ByteArray) (m1 : Nat) (c1 : List Value) : (T s0 m1 c1).allB (pfd 3) = true := by kernel_rfl
theorem T_ok (s : ByteArray) (l : List W3) (hl : l.length < 4398046511104) (h0 : Nat.blt 0 l.length = true) : (T s l.length (vals l)).eval = some (vv (Ref.chosenR s l)) := by
 have g : Nat.blt l.length 4398046511104 = true := by rw [Nat.blt_eq]; exact hl
 have h0' : 0 < l.length := by rwa [Nat.blt_eq] at h0
 have q0 : rdI (vals l) 0 = (l.headD v0).1 := by have := rdI_vals l h0'; rw [A37.at0 l h0'] at this; exact this
 have q1 : rdI (vals l) 1 = (l.headD v0).2.1 := by have := rdI_vals1 l h0'; rw [A37.at0 l h0'] at this; exact this
 have q2 : rdS (vals l) 2 = (l.headD v0).2.2 := by have := rdS_vals l h0'; rw [A37.at0 l h0'] at this; exact this
 have q3 : isL (vals l) 0 [.i .i64, .i .i64, .s] = true := isL_vals l h0'
 unfold T
 simp only [g, h0, q0, q1, q2, q3, isVals_vals, vals_len, vals_scal, vals_of, Nat.beq_refl, decide_true, Bool.and_self, GT.eval, cond_true, List.all_cons, List.all_nil]
 rfl
def spec : Spec := fun aa => match aa with
 | [.v (.string s), .sl n 3 cs] => some (.need (rowW n (Int.ofNat n) cs && Nat.blt 0 n) (.out (vv (Ref.chosenR s (valsOf cs)))))
 | [.v (.string _), .nil] => some .no
 | _ => none
theorem spec_ok : SpecOk Tryz.prog La 42 spec := ⟨fnOk_ok (by kernel_rfl), fun aa t v h e => by
 unfold spec at h
 split at h
 ·rename_i s n cs
  cases h
  obtain ⟨g1, g2⟩ := GT.need_eval e
  cases g2
  simp only [Bool.and_eq_true] at g1
  obtain ⟨_, hn, h4, h5⟩ := rowW_ok g1.1
  have h0 := g1.2
  generalize valsOf cs = l at h4 h5
  subst h4 h5
  exact ⟨rfl, callT La_below prog_mix prog_names (by simpa using A95.spec_ok) (by simpa using A42L0.lp_fine) (by decide) (by simp) rfl ((run _ _ _).trans (T_ok _ _ hn h0))⟩
 ·cases h; cases e
 ·cases h⟩
end A42
end
section
open Go Go.Proofs
namespace A97
def T (k0 n0 : Int) (s0 : ByteArray) : GT Value := let x1 := IntKind.wrap .i64 (n0 * 10000); let o1 : GT Value := (.out (.tuple ([.agg ([.int .i64 0, .int .i64 0, .string ⟨([]).toArray⟩]).toArray, .int .i64 0]).toArray)); let o2 : GT Value := (.out (.tuple ([.agg ([.int .i64 0, .int .i64 0, .string ⟨([]).toArray⟩]).toArray, .int .i64 20]).toArray)); let o3 : GT Value := (.br ((k0 == 0)) o1 (.br ((k0 == 0)) o1 (.br ((k0 == 3)) (.out (.tuple ([.agg ([.int .i64 3, .int .i64 n0, .string ⟨([]).toArray⟩]).toArray, .int .i64 0]).toArray)) (.br (decide (n0 ≤ 922337203685477)) (.br ((!decide (n0 ≥ (-922337203685477)))) o2 (.out (.tuple ([.agg ([.int .i64 3, .int .i64 x1, .string ⟨([]).toArray⟩]).toArray, .int .i64 0]).toArray))) o2)))); let o4 : GT Value := (.out (.tuple ([.agg ([.int .i64 0, .int .i64 0, .string ⟨([]).toArray⟩]).toArray, .int .i64 22]).toArray)); let o5 : GT Value := (.br ((k0 == 2)) o3 (.br ((!(k0 == 3))) (.br ((k0 != 0)) o4 o3) o3)); (.br ((k0 == 2)) o5 (.br ((!(k0 == 3))) (.br ((k0 != 0)) o4 o5) o5))
set_option maxRecDepth 1000000 in
theorem run (k0 n0 : Int) (s0 : ByteArray) : callK (cfgK Tryz.prog 4 (gpT []) (ltT 4 [])) (gpT []) (ltT 4 []) 12 (.fn 97) (absVs 0 [.v (.agg #[.int .i64 k0, .int .i64 n0, .string s0])]) ⟨absH 0 [.v (.agg #[.int .i64 k0, .int .i64 n0, .string s0])], 4⟩ (fun o => some o.1) = (T k0 n0 s0).eval := by kernel_rfl
set_option maxRecDepth 1000000 in
theorem flat (k0 n0 : Int) (s0 : ByteArray) : (T k0 n0 s0).allB (pfd 3) = true := by kernel_rfl
theorem T_ok (k n : Int) (s : ByteArray) : (T k n s).eval = some (ve (Ref.refDecV k n)) := by
 unfold Ref.refDecV
 by_cases h0 : k = 0
 ·subst h0; rfl
 by_cases h2 : k = 2
 ·subst h2
  by_cases a : n ≤ 922337203685477 <;> by_cases b : n ≥ -922337203685477 <;> simp [T, GT.eval, ve, vv, v0, a, b]
 by_cases h3 : k = 3
 ·subst h3; rfl
 simp [T, GT.eval, ve, vv, v0, h0, h2, h3, beq_eq_false_iff_ne.mpr h2, beq_eq_false_iff_ne.mpr h3, bne_iff_ne.mpr h0]
def spec : Spec := fun aa => match aa with
 | [a] => (vOf a).bind fun x => some (.out (ve (Ref.refDecV x.1 x.2.1)))
 | _ => none
theorem spec_ok : SpecOk Tryz.prog La 97 spec := ⟨fnOk_ok (by kernel_rfl), fun aa t v h e => by
 unfold spec at h
 split at h
 ·rename_i a
  obtain ⟨⟨k0, n0, s0⟩, h1, h⟩ := opt_bind h
  cases h; cases e
  rw [vOf_ok h1]
  exact ⟨rfl, callT (l := []) (L := []) (n0 := 4) (k := 12) La_below prog_mix prog_names (by simp) (by simp) (by decide) (by simp) rfl ((run k0 n0 s0).trans (T_ok _ _ _))⟩
 ·cases h⟩
end A97
end
section
open Go Go.Proofs
namespace A43
def T (s0 : ByteArray) (k1 n1 : Int) (s1 : ByteArray) : GT Value := let x1 := IntKind.wrap .i64 (Int.tdiv n1 10000); let x2 := Int.tmod n1 10000; let x3 := IntKind.wrap .i64 (x1 + 1); let x4 := IntKind.wrap .i64 (x1 - 1); let x5 := IntKind.wrap .i64 (0 - n1); let o1 : GT Value := (.out (.tuple ([.agg ([.int .i64 2, .int .i64 x4, .string ⟨([]).toArray⟩]).toArray, .int .i64 0]).toArray)); let o2 : GT Value := (.out (.tuple ([.agg ([.int .i64 2, .int .i64 x1, .string ⟨([]).toArray⟩]).toArray, .int .i64 0]).toArray)); let o3 : GT Value := (.out (.tuple ([.agg ([.int .i64 2, .int .i64 x3, .string ⟨([]).toArray⟩]).toArray, .int .i64 0]).toArray)); (.br (eqU (s0).data.toList [97, 98, 115]) (.br ((n1 == (-9223372036854775808))) (.out (.tuple ([.agg ([.int .i64 0, .int .i64 0, .string ⟨([]).toArray⟩]).toArray, .int .i64 20]).toArray)) (.out (.tuple ([.agg ([.int .i64 k1, .int .i64 (if x5 > n1 then x5 else n1), .string ⟨([]).toArray⟩]).toArray, .int .i64 0]).toArray))) (.br (eqU (s0).data.toList [115, 105, 103, 110]) (.br (decide (n1 < 0)) (.out (.tuple ([.agg ([.int .i64 2, .int .i64 (-1), .string ⟨([]).toArray⟩]).toArray, .int .i64 0]).toArray)) (.br (decide (n1 > 0)) (.out (.tuple ([.agg ([.int .i64 2, .int .i64 1, .string ⟨([]).toArray⟩]).toArray, .int .i64 0]).toArray)) (.out (.tuple ([.agg ([.int .i64 2, .int .i64 0, .string ⟨([]).toArray⟩]).toArray, .int .i64 0]).toArray)))) (.br (eqU (s0).data.toList [116, 111, 100, 101, 99]) (.out (.tuple ([.agg ([.int .i64 (Ref.refDecV k1 n1).1.1, .int .i64 (Ref.refDecV k1 n1).1.2.1, .string (Ref.refDecV k1 n1).1.2.2]).toArray, .int .i64 (Ref.refDecV k1 n1).2]).toArray)) (.br ((k1 == 2)) (.out (.tuple ([.agg ([.int .i64 k1, .int .i64 n1, .string s1]).toArray, .int .i64 0]).toArray)) (.br (eqU (s0).data.toList [102, 108, 111, 111, 114]) (.br (decide (x2 < 0)) o1 o2) (.br (eqU (s0).data.toList [99, 101, 105, 108]) (.br (decide (x2 > 0)) o3 o2) (.br (eqU (s0).data.toList [114, 111, 117, 110, 100]) (.br (decide (x2 ≥ 5000)) (.br (decide (x2 ≤ (-5000))) (.out (.tuple ([.agg ([.int .i64 2, .int .i64 (IntKind.wrap .i64 (x3 - 1)), .string ⟨([]).toArray⟩]).toArray, .int .i64 0]).toArray)) o3) (.br (decide (x2 ≤ (-5000))) o1 o2)) o2)))))))
set_option maxRecDepth 1000000 in
theorem run (s0 : ByteArray) (k1 n1 : Int) (s1 : ByteArray) : callK (cfgK Tryz.prog 4 (gpT [(97, A97.spec)]) (ltT 4 [])) (gpT [(97, A97.spec)]) (ltT 4 []) 12 (.fn 43) (absVs 0 [.v (.string s0), .v (.agg #[.int .i64 k1, .int .i64 n1, .string s1])]) ⟨absH 0 [.v (.string s0), .v (.agg #[.int .i64 k1, .int .i64 n1, .string s1])], 4⟩ (fun o => some o.1) = (T s0 k1 n1 s1).eval := by kernel_rfl
set_option maxRecDepth 1000000 in
theorem flat (s0 : ByteArray) (k1 n1 : Int) (s1 : ByteArray) : (T s0 k1 n1 s1).allB (pfd 3) = true := by kernel_rfl
theorem T_ok (s : ByteArray) (v : W3) : (T s v.1 v.2.1 v.2.2).eval = some (ve (Ref.refNum s v)) := by
 unfold Ref.refNum Ref.roundR T
 dsimp only []
 simp only [GT.eval]
 cases n0 : eqU s.data.toList [97, 98, 115]
 rotate_left
 ·cases v.2.1 == -9223372036854775808 <;> rfl
 simp only [cond_false]
 cases n1 : eqU s.data.toList [115, 105, 103, 110]
 rotate_left
 ·unfold Fit.signI
  cases decide (v.2.1 < 0) <;> cases decide (v.2.1 > 0) <;> rfl
 simp only [cond_false]
 cases n2 : eqU s.data.toList [116, 111, 100, 101, 99]
 rotate_left
 ·rfl
 simp only [cond_false]
 cases v.1 == 2
 rotate_left
 ·rfl
 simp only [cond_false]
 cases n3 : eqU s.data.toList [102, 108, 111, 111, 114]
 rotate_left
 ·cases decide (Int.tmod v.2.1 10000 < 0) <;> rfl
 simp only [cond_false]
 cases n4 : eqU s.data.toList [99, 101, 105, 108]
 rotate_left
 ·cases decide (Int.tmod v.2.1 10000 > 0) <;> rfl
 simp only [cond_false]
 cases n5 : eqU s.data.toList [114, 111, 117, 110, 100]
 rotate_left
 ·cases decide (Int.tmod v.2.1 10000 ≥ 5000) <;> cases decide (Int.tmod v.2.1 10000 ≤ -5000) <;> rfl
 rfl
def spec : Spec := fun aa => match aa with
 | [.v (.string s), a] => (vOf a).bind fun x => some (.out (ve (Ref.refNum s x)))
 | _ => none
theorem spec_ok : SpecOk Tryz.prog La 43 spec := ⟨fnOk_ok (by kernel_rfl), fun aa t v h e => by
 unfold spec at h
 split at h
 ·rename_i s a
  obtain ⟨x, h1, h⟩ := opt_bind h
  cases h; cases e
  rw [vOf_ok h1]
  exact ⟨rfl, callT (l := [(97, A97.spec)]) (L := []) (n0 := 4) (k := 12) La_below prog_mix prog_names (by simpa using A97.spec_ok) (by simp) (by decide) (by simp) rfl ((run _ _ _ _).trans (T_ok _ _))⟩
 ·cases h⟩
end A43
end
section
open Go Go.Proofs
namespace A46L0
noncomputable def cfg : Cfg := cfgK Tryz.prog 4 (gpT []) (ltT 4 [])
def box : List Value := [.int .i64 0, .int .i64 0, .string ⟨#[]⟩]
def stN (n : Nat) (e i : Int) : KX := ⟨[(1, .slice (some ⟨1, 0, none⟩) n 3), (4, .pointer (some ⟨5, 0, none⟩)), (5, .int .i64 e), (7, .slice none 0 0), (8, .int .i64 i)], [box]⟩
def stR (n : Nat) (e i : Int) (k : Nat) (row : List Value) : KX := ⟨[(1, .slice (some ⟨1, 0, none⟩) n 3), (4, .pointer (some ⟨5, 0, none⟩)), (5, .int .i64 e), (7, .slice (some ⟨6, 0, none⟩) k 1), (8, .int .i64 i)], [box, row]⟩
def stRet : KX := ⟨[(4, .pointer (some ⟨5, 0, none⟩)), (5, .int .i64 20)], [box]⟩
def exN (e : Int) : KX := ⟨[(4, .pointer (some ⟨5, 0, none⟩)), (5, .int .i64 e), (7, .slice none 0 0)], [box]⟩
def exR (e : Int) (k : Nat) (row : List Value) : KX := ⟨[(4, .pointer (some ⟨5, 0, none⟩)), (5, .int .i64 e), (7, .slice (some ⟨6, 0, none⟩) k 1)], [box, row]⟩
def kp : Ex → List Nat
 | .normal => [1, 4, 5, 7, 8]
 | .exit _ => [4, 5, 7]
 | .ret => [4, 5]
def cr : Ex → St → List (Nat × Bool) := fun ex s => match ex, s.T.get 7 with
 | .ret, _ => [(5, true)]
 | _, some (.slice (some p) _ _) => [(5, true), (p.block, true)]
 | _, _ => [(5, true)]
set_option maxRecDepth 1000000 in
theorem roundN (n : Nat) (e i : Int) (cs : List Value) : codeK cfg (gpT []) (callK cfg (gpT []) (ltT 4 []) 12) (fun _ _ => none) false 1000 (loopAt Tryz.prog 46 0) (stK 131 5 [(1, cs)] (stN n e i)) (endK 5 100 131 kp cr) = (let x1 := rdS cs ((0 + ((i).toNat * 3)) + 2); let x2 := 0 + (x1.data.toList).length; let x3 := IntKind.wrap .i64 (i + 1); (bif decide (i < (Int.ofNat n)) then (bif decide (0 ≤ i) then (bif Nat.blt (i).toNat n then (bif isV cs ((0 + ((i).toNat * 3)) + 2) .s then (bif Nat.beq (x1.data.toList).length 0 then (some (.normal, stN n e x3)) else (bif Nat.ble x2 140737488355328 then (bif Nat.ble (x2 * 1) 140737488355328 then (bif (((x1.data.toList).map fun b => Value.int IntKind.u8 ↑b.toNat)).all oneC then (bif decide ((Int.ofNat (x1.data.toList).length) > 1024) then (some (.ret, stRet)) else (bif (((x1.data.toList).map fun b => Value.int IntKind.u8 ↑b.toNat)).all scalV && true then (some (.normal, ⟨[(1, .slice (some ⟨1, 0, none⟩) n 3), (4, .pointer (some ⟨5, 0, none⟩)), (5, .int .i64 e), (7, .slice (some ⟨6, 0, none⟩) (x1.data.toList).length 1), (8, .int .i64 x3)], [[.int .i64 0, .int .i64 0, .string ⟨([]).toArray⟩], ((x1.data.toList).map fun b => Value.int IntKind.u8 ↑b.toNat)]⟩)) else none)) else none) else none) else none)) else none) else none) else none) else (some (.exit 1, exN e)))) := by kernel_rfl
set_option maxRecDepth 1000000 in
theorem roundR (n : Nat) (e i : Int) (k : Nat) (row : List Value) (cs : List Value) : codeK cfg (gpT []) (callK cfg (gpT []) (ltT 4 []) 12) (fun _ _ => none) false 1000 (loopAt Tryz.prog 46 0) (stK 131 5 [(1, cs)] (stR n e i k row)) (endK 5 100 131 kp cr) = (let x1 := rdS cs ((0 + ((i).toNat * 3)) + 2); let x2 := IntKind.wrap .i64 (i + 1); (bif decide (i < (Int.ofNat n)) then (bif decide (0 ≤ i) then (bif Nat.blt (i).toNat n then (bif isV cs ((0 + ((i).toNat * 3)) + 2) .s then (bif Nat.beq (x1.data.toList).length 0 then (bif decide ((Int.ofNat k) > 1024) then (some (.ret, stRet)) else (bif (row).all scalV && true then (some (.normal, stR n e x2 k (row))) else none)) else (bif Nat.ble (k + (x1.data.toList).length) 140737488355328 then (bif Nat.ble ((k + (x1.data.toList).length) * 1) 140737488355328 then (bif (((x1.data.toList).map fun b => Value.int IntKind.u8 ↑b.toNat)).all oneC then (bif Nat.ble (0 + (k * 1)) (row).length then (bif decide ((Int.ofNat (k + (x1.data.toList).length)) > 1024) then (some (.ret, stRet)) else (bif ((((((row).drop 0)).take (k * 1)) ++ ((x1.data.toList).map fun b => Value.int IntKind.u8 ↑b.toNat))).all scalV && true then (some (.normal, stR n e x2 (k + (x1.data.toList).length) ((((((row).drop 0)).take (k * 1)) ++ ((x1.data.toList).map fun b => Value.int IntKind.u8 ↑b.toNat))))) else none)) else none) else none) else none) else none)) else none) else none) else none) else (bif (row).all scalV && true then (some (.exit 1, exR e k row)) else none))) := by kernel_rfl
def _root_.Go.Proofs.YtaiokpmmjbiajaaGreatDoorDx.Ref.catBad (l : List W3) : Bool := (Ref.catR [] l).isNone
def _root_.Go.Proofs.YtaiokpmmjbiajaaGreatDoorDx.Ref.catOut (l : List W3) : List UInt8 := (Ref.catR [] l).getD []
def bv (l : List UInt8) : List Value := l.map fun b => Value.int IntKind.u8 ↑b.toNat
theorem bv_scal (l : List UInt8) : (bv l).all scalV = true := by
 rw [List.all_eq_true]
 intro x hx
 obtain ⟨y, _, rfl⟩ := List.mem_map.1 hx
 rfl
theorem bv_one (l : List UInt8) : (bv l).all oneC = true := by
 rw [List.all_eq_true]
 intro x hx
 obtain ⟨y, _, rfl⟩ := List.mem_map.1 hx
 rfl
theorem bv_len (l : List UInt8) : (bv l).length = l.length := List.length_map _
theorem bv_u8 (l : List UInt8) : (bv l).all isU8 = true := by
 rw [List.all_eq_true]
 intro x hx
 obtain ⟨y, _, rfl⟩ := List.mem_map.1 hx
 rfl
theorem u8L_bv (l : List UInt8) : u8L (bv l) = ⟨l.toArray⟩ := by
 unfold u8L bv
 rw [List.map_map]
 have : (u8Of ∘ fun b : UInt8 => Value.int IntKind.u8 (b.toNat : Int)) = id := by
  funext b
  show UInt8.ofNat ((b.toNat : Int)).toNat = b
  simp
 rw [this, List.map_id]
def st (n : Nat) (acc : List UInt8) (j : Nat) : KX := bif Nat.beq acc.length 0 then stN n 0 j else stR n 0 j acc.length (bv acc)
def fin (acc : List UInt8) : KX := bif Nat.beq acc.length 0 then exN 0 else exR 0 acc.length (bv acc)
def res : Option (List UInt8) → Ex × KX
 | none => (.ret, stRet)
 | some acc => (.exit 1, fin acc)
theorem chain {Step : KX → Ex → KX → Prop} (l : List W3) (hn : l.length < 4398046511104) (hs : ∀ v ∈ l, v.2.2.data.toList.length ≤ 1000000)
  (hN : ∀ (i : Int) ex y, codeK cfg (gpT []) (callK cfg (gpT []) (ltT 4 []) 12) (fun _ _ => none) false 1000 (loopAt Tryz.prog 46 0) (stK 131 5 [(1, vals l)] (stN l.length 0 i)) (endK 5 100 131 kp cr) = some (ex, y) → Step (stN l.length 0 i) ex y)
  (hR : ∀ (i : Int) (k : Nat) (row : List Value) ex y, codeK cfg (gpT []) (callK cfg (gpT []) (ltT 4 []) 12) (fun _ _ => none) false 1000 (loopAt Tryz.prog 46 0) (stK 131 5 [(1, vals l)] (stR l.length 0 i k row)) (endK 5 100 131 kp cr) = some (ex, y) → Step (stR l.length 0 i k row) ex y) :
  ∀ (k j : Nat) (acc : List UInt8), j + k = l.length → acc.length ≤ 1024 → ChainK Step (st l.length acc j) (res (Ref.catR acc (l.drop j))).1 (res (Ref.catR acc (l.drop j))).2 := by
 intro k
 induction k with
 | zero =>
  intro j acc h ha
  obtain rfl : j = l.length := by omega
  have h1 : decide ((l.length : Int) < Int.ofNat l.length) = false := decide_eq_false (by show ¬ (l.length : Int) < (l.length : Int); omega)
  rw [List.drop_length]
  show ChainK Step _ (.exit 1) (fin acc)
  unfold st fin
  cases hb : Nat.beq acc.length 0
  ·exact .stop (by simp) (hR _ _ _ _ _ (by rw [roundR]; dsimp only []; simp only [h1, bv_scal, Bool.and_true]; rfl))
  ·exact .stop (by simp) (hN _ _ _ (by rw [roundN]; dsimp only []; simp only [h1]; rfl))
 | succ k ih =>
  intro j acc h ha
  have hj : j < l.length := by omega
  have h1 : decide ((j : Int) < Int.ofNat l.length) = true := decide_eq_true (by show (j : Int) < (l.length : Int); omega)
  have h2 : decide ((0 : Int) ≤ j) = true := decide_eq_true (by omega)
  have h3 : Nat.blt ((j : Int)).toNat l.length = true := by rw [Nat.blt_eq]; simpa using hj
  have h4 : (0 + ((j : Int)).toNat * 3) = j * 3 := by simp
  have h5 : IntKind.wrap .i64 ((j : Int) + 1) = ((j + 1 : Nat) : Int) := by rw [wrap_in (by omega) (by omega)]; omega
  have h6 : rdS (vals l) (j * 3 + 2) = l[j].2.2 := rdS_vals l hj
  have h7 : isV (vals l) (j * 3 + 2) .s = true := by unfold isV; rw [vals_at 2 (by omega) l hj]; rfl
  have hsz := hs l[j] (List.getElem_mem hj)
  rw [List.drop_eq_getElem_cons hj, Ref.catR]
  generalize l[j].2.2 = t at h6 hsz ⊢
  have oe : ∀ y : List UInt8, (y.map fun b => Value.int IntKind.u8 ↑b.toNat).all oneC = true := bv_one
  have se : ∀ y : List UInt8, (y.map fun b => Value.int IntKind.u8 ↑b.toNat).all scalV = true := bv_scal
  have hgt : ∀ m : Nat, decide ((Int.ofNat m) > 1024) = decide (m > 1024) := fun m => by
   by_cases h : m > 1024
   ·rw [decide_eq_true h, decide_eq_true (by show (m : Int) > 1024; omega)]
   ·rw [decide_eq_false h, decide_eq_false (by show ¬ (m : Int) > 1024; omega)]
  have hL : (acc ++ t.data.toList).length = acc.length + t.data.toList.length := List.length_append
  cases ha0 : acc with
  | nil =>
   subst ha0
   have e1 : st l.length ([] : List UInt8) j = stN l.length 0 j := rfl
   rw [e1, List.nil_append]
   have hr := roundN l.length 0 (j : Int) (vals l)
   dsimp only [] at hr
   simp only [h1, h2, h3, h4, h5, h6, h7, cond_true, oe, se, hgt, Bool.and_true] at hr
   cases hx : t.data.toList with
   | nil =>
    rw [hx] at hr
    rw [if_neg (by simp)]
    exact .next (hN _ _ _ hr) (ih (j + 1) [] (by omega) (by simp))
   | cons b r =>
    rw [← hx]
    have q0 : Nat.beq t.data.toList.length 0 = false := by rw [hx]; rfl
    have q1 : Nat.ble (0 + t.data.toList.length) 140737488355328 = true := by rw [Nat.ble_eq]; omega
    have q2 : Nat.ble ((0 + t.data.toList.length) * 1) 140737488355328 = true := by rw [Nat.ble_eq]; omega
    simp only [q0, q1, q2, cond_true, cond_false] at hr
    by_cases hg : t.data.toList.length > 1024
    ·rw [if_pos hg]
     rw [decide_eq_true hg] at hr
     exact .stop (by simp [res]) (hN _ _ _ hr)
    ·rw [if_neg hg]
     rw [decide_eq_false hg] at hr
     have e2 : st l.length t.data.toList (j + 1) = stR l.length 0 ((j + 1 : Nat) : Int) t.data.toList.length (bv t.data.toList) := by unfold st; rw [q0]; rfl
     have hi := ih (j + 1) t.data.toList (by omega) (by omega)
     rw [e2] at hi
     exact .next (hN _ _ _ hr) hi
  | cons c a =>
   rw [← ha0]
   have q0 : Nat.beq acc.length 0 = false := by rw [ha0]; rfl
   have e1 : st l.length acc j = stR l.length 0 j acc.length (bv acc) := by unfold st; rw [q0]; rfl
   rw [e1]
   have hr := roundR l.length 0 (j : Int) acc.length (bv acc) (vals l)
   have w1 : ((bv acc).drop 0).take (acc.length * 1) = bv acc := by rw [List.drop_zero, Nat.mul_one, List.take_of_length_le (by rw [bv_len]; exact Nat.le_refl _)]
   dsimp only [] at hr
   have q3 : Nat.ble (0 + acc.length * 1) (bv acc).length = true := by rw [Nat.ble_eq, bv_len]; omega
   have sb : (bv acc ++ t.data.toList.map fun b => Value.int IntKind.u8 ↑b.toNat).all scalV = true := by rw [List.all_append, bv_scal, se]; rfl
   have eb : (bv acc ++ t.data.toList.map fun b => Value.int IntKind.u8 ↑b.toNat) = bv (acc ++ t.data.toList) := by unfold bv; rw [List.map_append]
   simp only [h1, h2, h3, h4, h5, h6, h7, cond_true, oe, hgt, Bool.and_true, w1, q3, sb, bv_scal] at hr
   have q0' : Nat.beq (acc ++ t.data.toList).length 0 = false := by rw [ha0]; rfl
   have e2 : st l.length (acc ++ t.data.toList) (j + 1) = stR l.length 0 ((j + 1 : Nat) : Int) (acc.length + t.data.toList.length) (bv (acc ++ t.data.toList)) := by unfold st; rw [q0', hL]; rfl
   rw [hL]
   cases hb : Nat.beq t.data.toList.length 0 with
   | true =>
    have hx : t.data.toList = [] := List.length_eq_zero_iff.1 (Nat.eq_of_beq_eq_true hb)
    have hxl : t.data.toList.length = 0 := Nat.eq_of_beq_eq_true hb
    rw [hb] at hr
    simp only [cond_true] at hr
    rw [if_neg (by omega)]
    rw [decide_eq_false (by omega)] at hr
    have hi := ih (j + 1) (acc ++ t.data.toList) (by omega) (by omega)
    rw [e2] at hi
    rw [hxl] at hi
    rw [hx, List.append_nil] at hi ⊢
    exact .next (hR _ _ _ _ _ hr) hi
   | false =>
    have q1 : Nat.ble (acc.length + t.data.toList.length) 140737488355328 = true := by rw [Nat.ble_eq]; omega
    have q2 : Nat.ble ((acc.length + t.data.toList.length) * 1) 140737488355328 = true := by rw [Nat.ble_eq]; omega
    rw [hb] at hr
    simp only [q1, q2, cond_true, cond_false, eb] at hr
    by_cases hg : acc.length + t.data.toList.length > 1024
    ·rw [if_pos hg]
     rw [decide_eq_true hg] at hr
     exact .stop (by simp [res]) (hR _ _ _ _ _ hr)
    ·rw [if_neg hg]
     rw [decide_eq_false hg] at hr
     have hi := ih (j + 1) (acc ++ t.data.toList) (by omega) (by omega)
     rw [e2] at hi
     exact .next (hR _ _ _ _ _ hr) hi
def D : KD := ⟨131, 5, 100, [1, 4, 5, 7, 8], [1], fun _ => [(4, true)], fun x ro => match x.vs, x.cars, ro with
 | [(1, .slice (some ⟨1, 0, none⟩) n 3), (4, .pointer (some ⟨5, 0, none⟩)), (5, .int .i64 0), (7, .slice none 0 0), (8, .int .i64 0)], [[.int .i64 0, .int .i64 0, .string z]], [(1, cs)] =>
  .need (Nat.beq z.data.toList.length 0) (.need (rowW n (Int.ofNat n) cs && (valsOf cs).all A37L0.shortT) (.br (Ref.catBad (valsOf cs)) (.out (.ret, stRet)) (.br (Nat.beq (Ref.catOut (valsOf cs)).length 0) (.out (.exit 1, exN 0)) (.out (.exit 1, exR 0 (Ref.catOut (valsOf cs)).length (bv (Ref.catOut (valsOf cs))))))))
 | _, _, _ => .no⟩
def lp : LpK := ⟨46, 6, 0, D⟩
theorem lp_fine : LpFine Tryz.prog La 4 lp := by
 refine ⟨by kernel_rfl, fun c base I hP hn hG hI hIL x ro ex y e => ?_⟩
 obtain ⟨vs, cars⟩ := x
 simp only [lp, D] at e ⊢
 split at e
 ·rename_i n z cs
  obtain ⟨g0, e⟩ := GT.need_eval e
  obtain ⟨g1, g2⟩ := GT.need_eval e
  have hz : z = ⟨#[]⟩ := ByteArray.ext (Array.toList_inj.1 (List.length_eq_zero_iff.1 (Nat.eq_of_beq_eq_true g0)))
  subst hz
  simp only [Bool.and_eq_true] at g1
  obtain ⟨_, hn2, h4, h5⟩ := rowW_ok g1.1
  have hsh := g1.2
  generalize valsOf cs = l at h4 h5 g2 hsh
  subst h4 h5
  have hsp : ∀ p ∈ ([] : List (FuncId × Spec)), SpecOk Tryz.prog La p.1 p.2 := by simp
  have key := chain (Step := @StepK (etaB base) c base I (loopAt Tryz.prog 46 0) 131 5 100 [(1, vals l)]) l hn2 (fun v hv => by
   have := List.all_eq_true.1 hsh v hv
   unfold A37L0.shortT at this
   rw [Nat.ble_eq] at this
   omega) (fun i ex y h => stepT prog_mix prog_names hsp (by simp) hP hn hG hI hIL h) (fun i k row ex y h => stepT prog_mix prog_names hsp (by simp) hP hn hG hI hIL h) l.length 0 [] (by omega) (by simp)
  rw [List.drop_zero] at key
  have e0 : st l.length [] 0 = stN l.length 0 (0 : Int) := rfl
  rw [e0] at key
  unfold Ref.catBad Ref.catOut at g2
  cases hc : Ref.catR [] l with
  | none => rw [hc] at g2 key; cases g2; exact key
  | some out =>
   rw [hc] at g2 key
   rw [GT.eval] at g2
   simp only [Option.isNone, Option.getD_some, cond_false] at g2
   dsimp only [res, fin] at key
   cases hb : Nat.beq out.length 0 with
   | true => rw [GT.eval, hb] at g2; cases g2; rw [hb] at key; exact key
   | false => rw [GT.eval, hb] at g2; cases g2; rw [hb] at key; exact key
 ·cases e
end A46L0
end
section
open Go Go.Proofs
namespace A46L1
noncomputable def cfg : Cfg := cfgK Tryz.prog 4 (gpT []) (ltT 4 [])
def stA (s : ByteArray) : KX := ⟨[(4, .pointer (some ⟨5, 0, none⟩)), (5, .int .i64 0), (6, .string s)], [[.int .i64 0, .int .i64 0, .string ⟨#[]⟩]]⟩
def kp : Ex → List Nat
 | .normal => [4, 5, 6]
 | .exit _ => [4, 5, 6]
 | _ => []
def cr : Ex → St → List (Nat × Bool) := fun _ _ => [(5, true)]
set_option maxRecDepth 1000000 in
theorem round (s : ByteArray)  : codeK cfg (gpT []) (callK cfg (gpT []) (ltT 4 []) 12) (fun _ _ => none) false 1000 (loopAt Tryz.prog 46 1) (stK 131 5 [] (stA s)) (endK 5 100 131 kp cr) = ((bif (!eqU (s).data.toList []) then (bif Nat.blt 0 ((s).data.toList).length then (bif ((Int.ofNat ((((s).data.toList).getD 0 0)).toNat) == 32) then (bif (true && Nat.ble 1 ((s).data.toList).length) then (some (.normal, stA ⟨((((((s).data.toList).take ((s).data.toList).length)).drop 1)).toArray⟩)) else none) else (some (.exit 3, stA s))) else none) else (some (.exit 3, stA s)))) := by kernel_rfl
theorem is32 (b : UInt8) : (Int.ofNat b.toNat == 32) = (b == 32) := by
 cases h : b == 32
 ·have : b ≠ 32 := fun e => by rw [e] at h; cases h
  exact beq_eq_false_iff_ne.2 fun e => this (UInt8.toNat_inj.1 (Int.ofNat.inj e))
 ·rw [eq_of_beq h]; rfl
theorem back (s : ByteArray) {l : List UInt8} (h : s.data.toList = l) : s = ⟨l.toArray⟩ := by subst h; rfl
theorem chain {Step : KX → Ex → KX → Prop} (hA : ∀ (s : ByteArray) ex y, codeK cfg (gpT []) (callK cfg (gpT []) (ltT 4 []) 12) (fun _ _ => none) false 1000 (loopAt Tryz.prog 46 1) (stK 131 5 [] (stA s)) (endK 5 100 131 kp cr) = some (ex, y) → Step (stA s) ex y) :
  ∀ (l : List UInt8), ChainK Step (stA ⟨l.toArray⟩) (.exit 3) (stA ⟨(Lib.trimLeftB l 32).toArray⟩)
 | [] => .stop (by simp) (hA _ _ _ (by rw [round]; rfl))
 | b :: l => by
  have hr := round ⟨(b :: l).toArray⟩
  have q0 : (!eqU (b :: l) []) = true := rfl
  have q1 : Nat.blt 0 (b :: l).length = true := rfl
  have q2 : (true && Nat.ble 1 (b :: l).length) = true := rfl
  have q3 : (b :: l).getD 0 0 = b := rfl
  simp only [q0, q1, q2, q3, is32, cond_true, List.take_length, List.drop_succ_cons, List.drop_zero] at hr
  unfold Lib.trimLeftB
  rw [List.dropWhile_cons]
  cases hb : b == 32
  ·rw [hb] at hr
   exact .stop (by simp) (hA _ _ _ hr)
  ·rw [hb] at hr
   exact .next (hA _ _ _ hr) (chain hA l)
def D : KD := ⟨131, 5, 100, [4, 5, 6], [], fun _ => [(4, true)], fun x ro => match x.vs, x.cars, ro with
 | [(4, .pointer (some ⟨5, 0, none⟩)), (5, .int .i64 0), (6, .string s)], [[.int .i64 0, .int .i64 0, .string z]], [] =>
  .need (Nat.beq z.data.toList.length 0) (.out (.exit 3, stA ⟨(Lib.trimLeftB s.data.toList 32).toArray⟩))
 | _, _, _ => .no⟩
def lp : LpK := ⟨46, 19, 1, D⟩
theorem lp_fine : LpFine Tryz.prog La 4 lp := by
 refine ⟨by kernel_rfl, fun c base I hP hn hG hI hIL x ro ex y e => ?_⟩
 obtain ⟨vs, cars⟩ := x
 simp only [lp, D] at e ⊢
 split at e
 ·rename_i s z
  obtain ⟨g0, e⟩ := GT.need_eval e
  have hz : z = ⟨#[]⟩ := back z (List.length_eq_zero_iff.1 (Nat.eq_of_beq_eq_true g0))
  subst hz
  have hsp : ∀ p ∈ ([] : List (FuncId × Spec)), SpecOk Tryz.prog La p.1 p.2 := by simp
  have key := chain (Step := @StepK (etaB base) c base I (loopAt Tryz.prog 46 1) 131 5 100 []) (fun s ex y h => stepT prog_mix prog_names hsp (by simp) hP hn hG hI hIL h) s.data.toList
  cases e
  exact key
 ·cases e
end A46L1
end
section
open Go Go.Proofs
namespace A46L2
noncomputable def cfg : Cfg := cfgK Tryz.prog 4 (gpT []) (ltT 4 [])
def stA (s : ByteArray) : KX := ⟨[(4, .pointer (some ⟨105, 0, none⟩)), (5, .int .i64 0), (6, .string s)], [[.int .i64 0, .int .i64 0, .string ⟨#[]⟩]]⟩
def kp : Ex → List Nat
 | .normal => [4, 5, 6]
 | .exit _ => [4, 5, 6]
 | _ => []
def cr : Ex → St → List (Nat × Bool) := fun _ _ => [(105, true)]
set_option maxRecDepth 1000000 in
theorem round (s : ByteArray)  : codeK cfg (gpT []) (callK cfg (gpT []) (ltT 4 []) 12) (fun _ _ => none) false 1000 (loopAt Tryz.prog 46 2) (stK 131 105 [] (stA s)) (endK 105 100 131 kp cr) = (let x1 := IntKind.wrap .i64 ((Int.ofNat ((s).data.toList).length) - 1); (bif (!eqU (s).data.toList []) then (bif decide (0 ≤ x1) then (bif Nat.blt (x1).toNat ((s).data.toList).length then (bif ((Int.ofNat ((((s).data.toList).getD (x1).toNat 0)).toNat) == 32) then (bif (decide (0 ≤ x1) && Nat.ble (x1).toNat ((s).data.toList).length) then (some (.normal, stA ⟨((((((s).data.toList).take (x1).toNat)).drop 0)).toArray⟩)) else none) else (some (.exit 5, stA s))) else none) else none) else (some (.exit 5, stA s)))) := by kernel_rfl
theorem chain {Step : KX → Ex → KX → Prop} (hA : ∀ (s : ByteArray) ex y, codeK cfg (gpT []) (callK cfg (gpT []) (ltT 4 []) 12) (fun _ _ => none) false 1000 (loopAt Tryz.prog 46 2) (stK 131 105 [] (stA s)) (endK 105 100 131 kp cr) = some (ex, y) → Step (stA s) ex y) :
  ∀ (l : List UInt8), l.length < 1000000 → ChainK Step (stA ⟨l.reverse.toArray⟩) (.exit 5) (stA ⟨(l.dropWhile (· == 32)).reverse.toArray⟩)
 | [], _ => .stop (by simp) (hA _ _ _ (by rw [round]; rfl))
 | b :: l, hl => by
  have hr := round ⟨(l.reverse ++ [b]).toArray⟩
  have q : (l.reverse ++ [b]).length = l.length + 1 := by simp
  rw [List.length_cons] at hl
  have qw : IntKind.wrap .i64 ((Int.ofNat (l.length + 1)) - 1) = (l.length : Int) := by
   rw [show (Int.ofNat (l.length + 1)) - 1 = (l.length : Int) by show ((l.length + 1 : Nat) : Int) - 1 = _; omega]
   exact wrap_in (by omega) (by omega)
  have q0 : (!eqU (l.reverse ++ [b]) []) = true := by
   cases h : l.reverse ++ [b] with
   | nil => rw [h] at q; cases q
   | cons _ _ => rfl
  have q1 : Nat.blt ((l.length : Int)).toNat (l.length + 1) = true := by rw [Nat.blt_eq, Int.toNat_natCast]; omega
  have q2 : decide ((0 : Int) ≤ (l.length : Int)) = true := decide_eq_true (by omega)
  have q4 : Nat.ble ((l.length : Int)).toNat (l.length + 1) = true := by rw [Nat.ble_eq, Int.toNat_natCast]; omega
  have q3 : (l.reverse ++ [b]).getD ((l.length : Int)).toNat 0 = b := by
   rw [Int.toNat_natCast, List.getD_eq_getElem?_getD, List.getElem?_append_right (by simp)]
   simp
  have q5 : (l.reverse ++ [b]).take ((l.length : Int)).toNat = l.reverse := by
   rw [Int.toNat_natCast, List.take_append_of_le_length (by simp), List.take_of_length_le (by simp)]
  dsimp only [] at hr
  simp only [q, qw, q0, q1, q2, q3, q4, q5, A46L1.is32, cond_true, Bool.and_self, List.drop_zero] at hr
  rw [List.dropWhile_cons, List.reverse_cons]
  cases hb : b == 32
  ·rw [hb] at hr
   simp only [Bool.false_eq_true, if_false, List.reverse_cons]
   exact .stop (by simp) (hA _ _ _ hr)
  ·rw [hb] at hr
   exact .next (hA _ _ _ hr) (chain hA l (by omega))
def D : KD := ⟨131, 105, 100, [4, 5, 6], [], fun _ => [(5, true)], fun x ro => match x.vs, x.cars, ro with
 | [(4, .pointer (some ⟨105, 0, none⟩)), (5, .int .i64 0), (6, .string s)], [[.int .i64 0, .int .i64 0, .string z]], [] =>
  .need (Nat.beq z.data.toList.length 0) (.need (Nat.blt s.data.toList.length 1000000) (.out (.exit 5, stA ⟨(Lib.trimRightB s.data.toList 32).toArray⟩)))
 | _, _, _ => .no⟩
def lp : LpK := ⟨46, 21, 2, D⟩
theorem lp_fine : LpFine Tryz.prog La 4 lp := by
 refine ⟨by kernel_rfl, fun c base I hP hn hG hI hIL x ro ex y e => ?_⟩
 obtain ⟨vs, cars⟩ := x
 simp only [lp, D] at e ⊢
 split at e
 ·rename_i s z
  obtain ⟨g0, e1⟩ := GT.need_eval e
  obtain ⟨g1, e2⟩ := GT.need_eval e1
  have hz : z = ⟨#[]⟩ := A46L1.back z (List.length_eq_zero_iff.1 (Nat.eq_of_beq_eq_true g0))
  subst hz
  rw [Nat.blt_eq] at g1
  have hsp : ∀ p ∈ ([] : List (FuncId × Spec)), SpecOk Tryz.prog La p.1 p.2 := by simp
  have key := chain (Step := @StepK (etaB base) c base I (loopAt Tryz.prog 46 2) 131 105 100 []) (fun s ex y h => stepT prog_mix prog_names hsp (by simp) hP hn hG hI hIL h) s.data.toList.reverse (by rw [List.length_reverse]; exact g1)
  rw [List.reverse_reverse] at key
  cases e2
  exact key
 ·cases e
end A46L2
end
section
open Go
set_option linter.unusedSectionVars false
theorem loops_in : ∀ (q : Code) {b x : Code}, b ∈ loopsOf q → x ∈ loopsOf b → x ∈ loopsOf q
 | .loop a, b, x, hb, hx => by
  unfold loopsOf at hb ⊢
  rcases List.mem_cons.1 hb with rfl | hb
  ·exact List.mem_cons_of_mem _ hx
  ·exact List.mem_cons_of_mem _ (loops_in a hb hx)
 | .seq a c, b, x, hb, hx => by
  unfold loopsOf at hb ⊢
  rcases List.mem_append.1 hb with hb | hb
  ·exact List.mem_append_left _ (loops_in a hb hx)
  ·exact List.mem_append_right _ (loops_in c hb hx)
 | .cond _ a c, b, x, hb, hx => by
  unfold loopsOf at hb ⊢
  rcases List.mem_append.1 hb with hb | hb
  ·exact List.mem_append_left _ (loops_in a hb hx)
  ·exact List.mem_append_right _ (loops_in c hb hx)
 | .block _ a, b, x, hb, hx => by
  unfold loopsOf at hb ⊢
  exact loops_in a hb hx
 | .skip, b, x, hb, hx => by unfold loopsOf at hb; cases hb
 | .label _, b, x, hb, hx => by unfold loopsOf at hb; cases hb
 | .region _ _ _, b, x, hb, hx => by unfold loopsOf at hb; cases hb
 | .exit _, b, x, hb, hx => by unfold loopsOf at hb; cases hb
 | .ret, b, x, hb, hx => by unfold loopsOf at hb; cases hb
 | .scope _, b, x, hb, hx => by unfold loopsOf at hb; cases hb
 | .goto _, b, x, hb, hx => by unfold loopsOf at hb; cases hb
 | .rangeFunc _ _ _ _, b, x, hb, hx => by unfold loopsOf at hb; cases hb
section
variable {P : Program} {La : World → Prop} {n0 : Nat} {l : List (FuncId × Spec)} {L : List LpK}
theorem stepN (hmix : P.follows .mixedOrders = true) (hnames : (P.funcs.toList.all fun fn => !(fn.name == "runtime.NumGoroutine")) = true) (hsp : ∀ p ∈ l, SpecOk P La p.1 p.2) (hL : ∀ p ∈ L, LpFine P La n0 p) {c : Cfg} {base : Nat} {I : World → Prop} (hP : c.P = P) (hn : c.n0 = n0) (hG : c.G = 0) (hI : Inv base I) (hIL : ∀ w, I w → La w)
  {f i : Nat} (hf : fnOk P f = true) (hi : Nat.blt i (loopsOf (bodyOf P f)).length = true) {k K m n R : Nat} {ro : Rows} {x y : KX} {ex : Ex} {keep : Ex → List Nat} {car : Ex → St → List (Nat × Bool)}
  (run : codeK (cfgK P n0 (gpT l) (ltT n0 L)) (gpT l) (callK (cfgK P n0 (gpT l) (ltT n0 L)) (gpT l) (ltT n0 L) K) (ltT n0 L f) false k (loopAt P f i) (stK m n ro x) (endK n R m keep car) = some (ex, y)) : @StepK (etaB base) c base I (loopAt P f i) m n R ro x ex y := by
 obtain ⟨fn, h1, h2, _⟩ := fnOk_ok hf
 obtain ⟨q, hq⟩ : ∃ q, fn.body = some q := by
  cases hb : fn.body with
  | none => rw [hb] at h2; cases h2
  | some q => exact ⟨q, rfl⟩
 have hbody : bodyOf P f = q := by unfold bodyOf; rw [h1]; simp only [hq]
 have hmem : loopAt P f i ∈ loopsOf q := by
  rw [Nat.blt_eq] at hi
  unfold loopAt
  rw [hbody] at hi ⊢
  rw [List.getD_eq_getElem?_getD, List.getElem?_eq_getElem hi]
  exact List.getElem_mem hi
 refine @step_K (etaB base) c base I P n0 (gpT l) (ltT n0 L) hP hn hG hI hmix hnames (cfgK_ok _ _ _ _) (@prim_T (etaB base) P La n0 l _ base I hIL hsp) (lops_fine hL base I hI hIL) (ltT n0 L f) (loopAt P f i) (fun x hx => ?_) k K m n R ro x y ex keep car run
 have := (lops_fine (l := l) hL base I hI hIL) f fn q (by rw [show (cfgK P n0 (gpT l) (ltT n0 L)).fns = fun f => P.funcs[f]? from cfgL_fns]; exact h1) hq x (loops_in q hmem hx)
 rwa [show (cfgK P n0 (gpT l) (ltT n0 L)).lops = fun f => lpOfG (ltT n0 L f) from cfgL_lops] at this
end
end
section
open Go Go.Proofs
namespace A102L1
noncomputable def cfg : Cfg := cfgK Tryz.prog 4 (gpT []) (ltT 4 [])
def stA (s : ByteArray) (i : Int) : KX := ⟨[(0, .string s), (3, .slice none 0 0), (4, .int .i64 i)], []⟩
def kp : Ex → List Nat
 | .normal => [0, 3, 4]
 | .exit _ => [0, 3, 4]
 | _ => []
def cr : Ex → St → List (Nat × Bool) := fun _ s => []
set_option maxRecDepth 1000000 in
theorem round (s : ByteArray) (i : Int)  : codeK cfg (gpT []) (callK cfg (gpT []) (ltT 4 []) 12) (fun _ _ => none) false 1000 (loopAt Tryz.prog 102 1) (stK 35 5 [] (stA s i)) (endK 5 100 35 kp cr) = ((bif decide (i < (Int.ofNat ((s).data.toList).length)) then (bif decide (0 ≤ i) then (bif Nat.blt (i).toNat ((s).data.toList).length then (bif decide ((Int.ofNat ((((s).data.toList).getD (i).toNat 0)).toNat) ≥ 128) then (bif decide (0 ≤ i) then (bif Nat.blt (i).toNat ((s).data.toList).length then (bif decide ((Int.ofNat ((((s).data.toList).getD (i).toNat 0)).toNat) < 192) then (some (.normal, ⟨[(0, .string s), (3, .slice none 0 0), (4, .int .i64 (IntKind.wrap .i64 (i + 1)))], []⟩)) else (some (.exit 2, ⟨[(0, .string s), (3, .slice none 0 0), (4, .int .i64 i)], []⟩))) else none) else none) else (some (.exit 2, ⟨[(0, .string s), (3, .slice none 0 0), (4, .int .i64 i)], []⟩))) else none) else none) else (some (.exit 2, ⟨[(0, .string s), (3, .slice none 0 0), (4, .int .i64 i)], []⟩)))) := by kernel_rfl
theorem chain (s : ByteArray) (st : Int → KX) (hs : s.data.toList.length < 4611686018427387904) {Step : KX → Ex → KX → Prop} (h : ∀ (i : Int) ex y, (bif decide (i < (Int.ofNat ((s).data.toList).length)) then (bif decide (0 ≤ i) then (bif Nat.blt (i).toNat ((s).data.toList).length then (bif decide ((Int.ofNat ((((s).data.toList).getD (i).toNat 0)).toNat) ≥ 128) then (bif decide (0 ≤ i) then (bif Nat.blt (i).toNat ((s).data.toList).length then (bif decide ((Int.ofNat ((((s).data.toList).getD (i).toNat 0)).toNat) < 192) then (some (Ex.normal, st (IntKind.wrap .i64 (i + 1)))) else (some (.exit 2, st i))) else none) else none) else (some (.exit 2, st i))) else none) else none) else (some (.exit 2, st i))) = some (ex, y) → Step (st i) ex y) :
  ∀ (r : List UInt8) (i : Nat), s.data.toList.drop i = r → i ≤ s.data.toList.length → ChainK Step (st i) (.exit 2) (st ((i + (r.takeWhile Ref.contb).length : Nat) : Int))
 | [], i, hr, hi => by
  have hle : s.data.toList.length ≤ i := List.drop_eq_nil_iff.1 hr
  have h1 : decide ((i : Int) < Int.ofNat s.data.toList.length) = false := decide_eq_false (by show ¬ (i : Int) < (s.data.toList.length : Int); omega)
  exact .stop (by simp) (h i _ _ (by rw [h1]; rfl))
 | b :: r, i, hr, hi => by
  have hlt : i < s.data.toList.length := by
   rcases Nat.lt_or_ge i s.data.toList.length with h | h
   ·exact h
   ·rw [List.drop_eq_nil_iff.2 h] at hr; cases hr
  have hd := List.drop_eq_getElem_cons hlt
  rw [hr] at hd
  obtain ⟨hb, hr2⟩ := List.cons.inj hd
  have h1 : decide ((i : Int) < Int.ofNat s.data.toList.length) = true := decide_eq_true (by show (i : Int) < (s.data.toList.length : Int); omega)
  have h2 : decide ((0 : Int) ≤ (i : Int)) = true := decide_eq_true (by omega)
  have h3 : Nat.blt ((i : Int)).toNat s.data.toList.length = true := by rw [Nat.blt_eq]; simpa using hlt
  have h4 : s.data.toList.getD ((i : Int)).toNat 0 = b := by rw [Int.toNat_natCast, List.getD_eq_getElem?_getD, List.getElem?_eq_getElem hlt, ← hb]; rfl
  have h5 : IntKind.wrap .i64 ((i : Int) + 1) = ((i + 1 : Nat) : Int) := by rw [wrap_in (by omega) (by omega)]; omega
  have hh := h i
  simp only [h1, h2, h3, h4, h5, cond_true] at hh
  rw [List.takeWhile_cons]
  by_cases c1 : 128 ≤ b.toNat
  ·have e1 : decide (Int.ofNat b.toNat ≥ 128) = true := decide_eq_true (by show (b.toNat : Int) ≥ 128; omega)
   by_cases c2 : b.toNat < 192
   ·have e2 : decide (Int.ofNat b.toNat < 192) = true := decide_eq_true (by show (b.toNat : Int) < 192; omega)
    have hc : Ref.contb b = true := by unfold Ref.contb; rw [decide_eq_true c1, decide_eq_true c2]; rfl
    rw [hc, if_pos rfl, List.length_cons]
    have ih := chain s st hs h r (i + 1) hr2.symm (by omega)
    rw [show i + ((r.takeWhile Ref.contb).length + 1) = i + 1 + (r.takeWhile Ref.contb).length by omega]
    exact .next (hh _ _ (by rw [e1, e2]; rfl)) ih
   ·have e2 : decide (Int.ofNat b.toNat < 192) = false := decide_eq_false (by show ¬ (b.toNat : Int) < 192; omega)
    have hc : Ref.contb b = false := by unfold Ref.contb; rw [decide_eq_false c2]; simp
    rw [hc, if_neg (by simp)]
    exact .stop (by simp) (hh _ _ (by rw [e1, e2]; rfl))
  ·have e1 : decide (Int.ofNat b.toNat ≥ 128) = false := decide_eq_false (by show ¬ (b.toNat : Int) ≥ 128; omega)
   have hc : Ref.contb b = false := by unfold Ref.contb; rw [decide_eq_false c1]; rfl
   rw [hc, if_neg (by simp)]
   exact .stop (by simp) (hh _ _ (by rw [e1]; rfl))
def len (s : ByteArray) : Int := Int.ofNat (1 + ((s.data.toList.drop 1).takeWhile Ref.contb).length)
def D : KD := ⟨35, 5, 100, [0, 3, 4], [], fun _ => [], fun x ro => match x.vs, x.cars, ro with
 | [(0, .string s), (3, .slice none 0 0), (4, .int .i64 1)], [], [] => .need (Nat.blt 0 s.data.toList.length && Nat.blt s.data.toList.length 4611686018427387904) (.out (.exit 2, stA s (len s)))
 | _, _, _ => .no⟩
def lp : LpK := ⟨102, 4, 1, D⟩
theorem lp_fine : LpFine Tryz.prog La 4 lp := by
 refine ⟨by kernel_rfl, fun c base I hP hn hG hI hIL x ro ex y e => ?_⟩
 obtain ⟨vs, cars⟩ := x
 simp only [lp, D] at e ⊢
 split at e
 ·rename_i s
  obtain ⟨g1, g2⟩ := GT.need_eval e
  simp only [Bool.and_eq_true, Nat.blt_eq] at g1
  cases g2
  exact chain s (fun i => stA s i) g1.2 (Step := @StepK (etaB base) c base I (loopAt Tryz.prog 102 1) 35 5 100 []) (fun i ex y hh => stepT prog_mix prog_names (by simp) (by simp) hP hn hG hI hIL ((round s i).trans hh)) _ 1 rfl (by omega)
 ·cases e
end A102L1
end
end Go.Proofs.YtaiokpmmjbiajaaGreatDoorDx
