/- A part of the proof of this claim. No condition beyond those that each theorem names. -/
import Derived.Test.YtaiokpmmjbiajaaGreatDoorJK0
import Derived.Test.YtaiokpmmjbiajaaGreatDoorProg
import Derived.KernelRfl
import Derived.Lib.ValidLaws
import Derived.Lib.TrimUEq
import Derived.Lib.MapLaws
import Derived.Lib.RuneCount
import Derived.Laws.Cover4
import Derived.WideShapes
import Derived.Lib.ItoaNum
import Derived.Lib.Repeat
import Derived.Lib.TrimByte
import Derived.Lib.Replace
import Derived.Test.YtaiokpmmjbiajaaGreatDoorJLeaf0
import Derived.Test.YtaiokpmmjbiajaaGreatDoorJPLeafx1
import Derived.Lib.CountLaws
import Derived.Lib.ReplaceLaws
set_option linter.unusedVariables false
set_option linter.unusedSimpArgs false
namespace Go.Proofs.YtaiokpmmjbiajaaGreatDoorDx
section
open Go Go.Proofs
namespace A37L0
noncomputable def cfg : Cfg := cfgK Tryz.prog 4 (gpT []) (ltT 4 [])
def stA (n : Nat) (e : Int) (s : ByteArray) (i : Int) : KX := ⟨[(4, .pointer (some ⟨4, 0, none⟩)), (5, .int .i64 e), (8, .string s), (125, .slice (some ⟨1, 0, none⟩) n 3), (126, .int .i64 (Int.ofNat n)), (127, .int .i64 i)], []⟩
def stExit (e : Int) (s : ByteArray) : KX := ⟨[(4, .pointer (some ⟨4, 0, none⟩)), (5, .int .i64 e), (8, .string s)], []⟩
def kp : Ex → List Nat
 | .normal => [4, 5, 8, 125, 126, 127]
 | _ => [4, 5, 8]
def catB (s t : ByteArray) : ByteArray := ⟨(s.data.toList ++ t.data.toList).toArray⟩
set_option maxRecDepth 1000000 in
theorem round (n : Nat) (e : Int) (s : ByteArray) (i : Int) (cs : List Value) : rndK cfg [] [] 37 0 (stK 140 6 [(1, cs)] (stA n e s i)) (endK 6 100 140 kp (fun _ _ => [])) =
 (let x := 0 + ((i).toNat * 3); bif decide (i < (Int.ofNat n)) then (bif decide (0 ≤ i) then (bif Nat.blt (i).toNat n then (bif isL cs x [(.i .i64), (.i .i64), .s] then (bif Nat.ble (((s).data.toList).length + ((rdS cs (x + 1 + 1)).data.toList).length) 9223372036854775807 then (some (.normal, stA n e (catB s (rdS cs (x + 1 + 1))) (IntKind.wrap .i64 (i + 1)))) else none) else none) else none) else none) else (some (.exit 1, stExit e s))) := by kernel_rfl
def cat (l : List W3) : ByteArray := l.foldl (fun s v => catB s v.2.2) ⟨#[]⟩
theorem cat_succ (l : List W3) {j : Nat} (h : j < l.length) : cat (l.take (j + 1)) = catB (cat (l.take j)) l[j].2.2 := by
 unfold cat
 rw [← List.take_append_getElem h, List.foldl_append]; rfl
theorem cat_len (l : List W3) (hs : ∀ v ∈ l, v.2.2.data.toList.length ≤ 1024) : ∀ j, j ≤ l.length → (cat (l.take j)).data.toList.length ≤ 1024 * j
 | 0, _ => by rw [List.take_zero]; exact Nat.le_refl _
 | j + 1, h => by
  have h1 := cat_len l hs j (by omega)
  have h2 := hs _ (List.getElem_mem (show j < l.length by omega))
  rw [cat_succ l (show j < l.length by omega)]
  show ((cat (l.take j)).data.toList ++ (l[j].2.2).data.toList).toArray.toList.length ≤ _
  rw [List.toList_toArray, List.length_append]
  omega
def shortT (v : W3) : Bool := Nat.ble v.2.2.data.toList.length 1024
def D : KD := ⟨140, 6, 100, [4, 5, 8, 125, 126, 127], [1], fun _ => [], fun x ro => match x.vs, x.cars, ro with
 | [(4, .pointer (some ⟨4, 0, none⟩)), (5, .int .i64 e), (8, .string ⟨⟨[]⟩⟩), (125, .slice (some ⟨1, 0, none⟩) n 3), (126, .int .i64 m), (127, .int .i64 0)], [], [(1, cs)] =>
  .need (rowW n m cs && (valsOf cs).all shortT) (.out (.exit 1, stExit e (cat (valsOf cs))))
 | _, _, _ => .no⟩
def lp : LpK := ⟨37, 41, 0, D⟩
theorem lp_fine : LpFine Tryz.prog La 4 lp := by
 refine ⟨by kernel_rfl, fun c base I hP hn hG hI hIL x ro ex y e => ?_⟩
 obtain ⟨vs, cars⟩ := x
 simp only [lp, D] at e ⊢
 split at e
 ·rename_i e0 n m cs
  obtain ⟨g1, g2⟩ := GT.need_eval e
  simp only [Bool.and_eq_true] at g1
  obtain ⟨rfl, hn2, h4, h5⟩ := rowW_ok g1.1
  have hsh := g1.2
  generalize valsOf cs = l at h4 h5 g2 hsh
  subst h4 h5
  have hs : ∀ v ∈ l, v.2.2.data.toList.length ≤ 1024 := fun v hv => Nat.le_of_ble_eq_true (List.all_eq_true.1 hsh v hv)
  have key := scan_from (Step := @StepK (etaB base) c base I (loopAt Tryz.prog 37 0) 140 6 100 [(1, vals l)]) (step := fun (_ : Unit) (v : W3) => .inl ()) (fin := fun _ => (.exit 1, stExit e0 (cat l))) (st := fun _ j => stA l.length e0 (cat (l.take j)) j) (l := l) (fun s => by simp) (fun s a r h => by cases h) (fun _ j hj => by
    have h1 := ltI hj
    have h2 := geI j
    have h3 := bltI hj
    have h4 : (0 + ((j : Int)).toNat * 3) = j * 3 := by simp
    have h5 := wrI j (by omega)
    have hr1 : rdS (vals l) (j * 3 + 1 + 1) = l[j].2.2 := rdS_vals l hj
    have h6 := cat_len l hs j (by omega)
    have h7 := hs _ (List.getElem_mem hj)
    have h8 : Nat.ble ((cat (l.take j)).data.toList.length + l[j].2.2.data.toList.length) 9223372036854775807 = true := by rw [Nat.ble_eq]; omega
    have hr := round l.length e0 (cat (l.take j)) j (vals l)
    simp only [h1, h2, h3, h4, h5, isL_vals l hj, hr1, h8, cond_true] at hr
    rw [← cat_succ l hj] at hr
    exact stepT prog_mix prog_names (by simp) (by simp) hP hn hG hI hIL hr) (fun _ => by
    have h1 := nltI l.length
    have hr := round l.length e0 (cat (l.take l.length)) l.length (vals l)
    simp only [h1, cond_false] at hr
    have e1 : cat l = cat (l.take l.length) := by rw [List.take_length]
    show @StepK (etaB base) c base I (loopAt Tryz.prog 37 0) 140 6 100 [(1, vals l)] (stA l.length e0 (cat (l.take l.length)) l.length) (.exit 1) (stExit e0 (cat l))
    rw [e1]
    exact stepT prog_mix prog_names (by simp) (by simp) hP hn hG hI hIL hr) l.length 0 () (by omega)
  rw [List.drop_zero, scanF_fold] at key
  cases g2
  exact key
 ·cases e
end A37L0
end
section
open Go Go.Proofs
namespace A10L0
noncomputable def cfg : Cfg := cfgK Tryz.prog 4 (gpT []) (ltT 4 [])
def stN (nm : ByteArray) (n : Nat) (e i : Int) (nl : Bool) : KX := ⟨[(0, .string nm), (1, .slice (some ⟨1, 0, none⟩) n 3), (4, .pointer (some ⟨4, 0, none⟩)), (5, .int .i64 e), (6, .slice none 0 0), (7, .bool nl), (14, .slice (some ⟨1, 0, none⟩) n 3), (15, .int .i64 (Int.ofNat n)), (16, .int .i64 i)], []⟩
def stR (nm : ByteArray) (n : Nat) (e i : Int) (nl : Bool) (k : Nat) (row : List Value) : KX := ⟨[(0, .string nm), (1, .slice (some ⟨1, 0, none⟩) n 3), (4, .pointer (some ⟨4, 0, none⟩)), (5, .int .i64 e), (6, .slice (some ⟨5, 0, none⟩) k 1), (7, .bool nl), (14, .slice (some ⟨1, 0, none⟩) n 3), (15, .int .i64 (Int.ofNat n)), (16, .int .i64 i)], [row]⟩
def exN (nm : ByteArray) (n : Nat) (e : Int) (nl : Bool) : KX := ⟨[(0, .string nm), (1, .slice (some ⟨1, 0, none⟩) n 3), (4, .pointer (some ⟨4, 0, none⟩)), (5, .int .i64 e), (6, .slice none 0 0), (7, .bool nl)], []⟩
def exR (nm : ByteArray) (n : Nat) (e : Int) (nl : Bool) (k : Nat) (row : List Value) : KX := ⟨[(0, .string nm), (1, .slice (some ⟨1, 0, none⟩) n 3), (4, .pointer (some ⟨4, 0, none⟩)), (5, .int .i64 e), (6, .slice (some ⟨5, 0, none⟩) k 1), (7, .bool nl)], [row]⟩
def kp : Ex → List Nat
 | .normal => [0, 1, 4, 5, 6, 7, 14, 15, 16]
 | _ => [0, 1, 4, 5, 6, 7]
def cr : Ex → St → List (Nat × Bool) := fun _ s => match s.T.get 6 with
 | some (.slice (some p) _ _) => [(p.block, true)]
 | _ => []
set_option maxRecDepth 1000000 in
theorem roundN (nm : ByteArray) (n : Nat) (e i : Int) (nl : Bool) (cs : List Value) : rndK cfg [] [] 10 0 (stK 84 5 [(1, cs)] (stN nm n e i nl)) (endK 5 100 84 kp cr) =
 (let x := rdI cs (0 + ((i).toNat * 3)); bif decide (i < (Int.ofNat n)) then (bif decide (0 ≤ i) then (bif Nat.blt (i).toNat n then (bif isL cs (0 + ((i).toNat * 3)) [(.i .i64), (.i .i64), .s] then (bif nl then (some (.normal, stR nm n e (IntKind.wrap .i64 (i + 1)) true 1 [.int .i64 x])) else (some (.normal, stR nm n e (IntKind.wrap .i64 (i + 1)) (x == 0) 1 [.int .i64 x]))) else none) else none) else none) else (some (.exit 0, exN nm n e nl))) := by kernel_rfl
set_option maxRecDepth 1000000 in
theorem roundR (nm : ByteArray) (n : Nat) (e i : Int) (nl : Bool) (k : Nat) (row : List Value) (cs : List Value) : rndK cfg [] [] 10 0 (stK 84 5 [(1, cs)] (stR nm n e i nl k row)) (endK 5 100 84 kp cr) =
 (let x := rdI cs (0 + ((i).toNat * 3)); let r2 := (((row).drop 0).take (k * 1)) ++ [.int .i64 x]; bif decide (i < (Int.ofNat n)) then (bif decide (0 ≤ i) then (bif Nat.blt (i).toNat n then (bif isL cs (0 + ((i).toNat * 3)) [(.i .i64), (.i .i64), .s] then (bif Nat.ble (k + 1) 140737488355328 then (bif Nat.ble ((k + 1) * 8) 140737488355328 then (bif Nat.ble (0 + (k * 1)) (row).length then (bif nl then (bif r2.all scalV && true then (some (.normal, stR nm n e (IntKind.wrap .i64 (i + 1)) true (k + 1) r2)) else none) else (bif r2.all scalV && true then (some (.normal, stR nm n e (IntKind.wrap .i64 (i + 1)) (x == 0) (k + 1) r2)) else none)) else none) else none) else none) else none) else none) else none) else (bif row.all scalV && true then (some (.exit 0, exR nm n e nl k row)) else none)) := by kernel_rfl
def row (l : List W3) (j : Nat) : List Int := (l.take j).map (·.1)
theorem row_succ (l : List W3) {j : Nat} (h : j < l.length) : row l (j + 1) = row l j ++ [l[j].1] := by
 unfold row
 rw [← List.take_append_getElem h, List.map_append]; rfl
theorem row_len (l : List W3) {j : Nat} (h : j ≤ l.length) : (row l j).length = j := by
 unfold row
 rw [List.length_map, List.length_take]; omega
def nl (l : List W3) (j : Nat) : Bool := (row l j).any (· == 0)
theorem nl_succ (l : List W3) {j : Nat} (h : j < l.length) : nl l (j + 1) = (nl l j || l[j].1 == 0) := by
 unfold nl
 rw [row_succ l h, List.any_append]; simp
def st (nm : ByteArray) (n : Nat) (e : Int) (l : List W3) (j : Nat) : KX := bif Nat.beq j 0 then stN nm n e j false else stR nm n e j (nl l j) j (ints .i64 (row l j))
def fin (nm : ByteArray) (n : Nat) (e : Int) (l : List W3) : KX := bif Nat.beq n 0 then exN nm n e false else exR nm n e ((l.map (·.1)).any (· == 0)) n (ints .i64 (l.map (·.1)))
def D : KD := ⟨84, 5, 100, [0, 1, 4, 5, 6, 7, 14, 15, 16], [1], fun _ => [], fun x ro => match x.vs, x.cars, ro with
 | [(0, .string nm), (1, .slice (some ⟨1, 0, none⟩) n 3), (4, .pointer (some ⟨4, 0, none⟩)), (5, .int .i64 e), (6, .slice none 0 0), (7, .bool false), (14, .slice (some ⟨1, 0, none⟩) n' 3), (15, .int .i64 m), (16, .int .i64 0)], [], [(1, cs)] =>
  .need (Nat.beq n' n && rowW n m cs) (.br (Nat.beq n 0) (.out (.exit 0, exN nm n e false)) (.out (.exit 0, exR nm n e (((valsOf cs).map (·.1)).any (· == 0)) n (ints .i64 ((valsOf cs).map (·.1))))))
 | _, _, _ => .no⟩
def lp : LpK := ⟨10, 4, 0, D⟩
theorem lp_fine : LpFine Tryz.prog La 4 lp := by
 refine ⟨by kernel_rfl, fun c base I hP hn hG hI hIL x ro ex y e => ?_⟩
 obtain ⟨vs, cars⟩ := x
 simp only [lp, D] at e ⊢
 split at e
 ·rename_i nm n e0 n' m cs
  obtain ⟨g1, g2⟩ := GT.need_eval e
  simp only [Bool.and_eq_true] at g1
  obtain rfl := Nat.eq_of_beq_eq_true g1.1
  obtain ⟨rfl, hn2, h4, h5⟩ := rowW_ok g1.2
  generalize valsOf cs = l at h4 h5 g2
  subst h4 h5
  have key := scan_from (Step := @StepK (etaB base) c base I (loopAt Tryz.prog 10 0) 84 5 100 [(1, vals l)]) (step := fun (_ : Unit) (_ : W3) => .inl ()) (fin := fun _ => (.exit 0, fin nm l.length e0 l)) (st := fun _ j => st nm l.length e0 l j) (l := l) (fun s => by simp) (fun s a r h => by cases h) (fun _ j hj => by
    have h1 := ltI hj
    have h2 := geI j
    have h3 := bltI hj
    have h4 : (0 + ((j : Int)).toNat * 3) = j * 3 := by simp
    have h5 := wrI j (by omega)
    show @StepK (etaB base) c base I (loopAt Tryz.prog 10 0) 84 5 100 [(1, vals l)] (st nm l.length e0 l j) .normal (st nm l.length e0 l (j + 1))
    cases j with
    | zero =>
     have hr := roundN nm l.length e0 ((0 : Nat) : Int) false (vals l)
     simp only [h1, h2, h3, h4, h5, isL_vals l hj, rdI_vals l hj, cond_true] at hr
     have e1 : st nm l.length e0 l 0 = stN nm l.length e0 ((0 : Nat) : Int) false := rfl
     have e2 : st nm l.length e0 l (0 + 1) = stR nm l.length e0 ((0 + 1 : Nat) : Int) (l[0].1 == 0) 1 [.int .i64 l[0].1] := by
      show stR nm l.length e0 ((0 + 1 : Nat) : Int) (nl l (0 + 1)) (0 + 1) (ints .i64 (row l (0 + 1))) = _
      rw [nl_succ l hj, row_succ l hj]; rfl
     rw [e1, e2]
     exact stepT prog_mix prog_names (by simp) (by simp) hP hn hG hI hIL hr
    | succ j =>
     have hk := row_len l (Nat.le_of_lt hj)
     have hr := roundR nm l.length e0 ((j + 1 : Nat) : Int) (nl l (j + 1)) (j + 1) (ints .i64 (row l (j + 1))) (vals l)
     have q1 : ((ints .i64 (row l (j + 1))).drop 0).take ((j + 1) * 1) ++ [.int .i64 (l[j + 1]).1] = ints .i64 (row l (j + 1 + 1)) := by
      rw [List.drop_zero, Nat.mul_one, List.take_of_length_le (by rw [ints_len, hk]; exact Nat.le_refl _), row_succ l hj]
      unfold ints
      rw [List.map_append]; rfl
     have q2 : Nat.ble (j + 1 + 1) 140737488355328 = true := by rw [Nat.ble_eq]; omega
     have q3 : Nat.ble ((j + 1 + 1) * 8) 140737488355328 = true := by rw [Nat.ble_eq]; omega
     have q4 : Nat.ble (0 + (j + 1) * 1) (ints .i64 (row l (j + 1))).length = true := by rw [Nat.ble_eq, ints_len, hk]; omega
     simp only [h1, h2, h3, h4, h5, isL_vals l hj, rdI_vals l hj, q1, q2, q3, q4, ints_scal, Bool.and_true, cond_true] at hr
     have e1 : st nm l.length e0 l (j + 1) = stR nm l.length e0 ((j + 1 : Nat) : Int) (nl l (j + 1)) (j + 1) (ints .i64 (row l (j + 1))) := rfl
     have e2 : st nm l.length e0 l (j + 1 + 1) = stR nm l.length e0 ((j + 1 + 1 : Nat) : Int) (nl l (j + 1) || l[j + 1].1 == 0) (j + 1 + 1) (ints .i64 (row l (j + 1 + 1))) := by rw [← nl_succ l hj]; rfl
     rw [e1, e2]
     cases hz : nl l (j + 1) <;> rw [hz] at hr <;> exact stepT prog_mix prog_names (by simp) (by simp) hP hn hG hI hIL hr) (fun _ => by
    have h1 := nltI l.length
    show @StepK (etaB base) c base I (loopAt Tryz.prog 10 0) 84 5 100 [(1, vals l)] (st nm l.length e0 l l.length) (.exit 0) (fin nm l.length e0 l)
    cases hl : l.length with
    | zero =>
     have hr := roundN nm l.length e0 (l.length : Int) false (vals l)
     simp only [h1, cond_false] at hr
     rw [hl] at hr
     exact stepT prog_mix prog_names (by simp) (by simp) hP hn hG hI hIL hr
    | succ j =>
     have hr := roundR nm l.length e0 (l.length : Int) (nl l l.length) l.length (ints .i64 (row l l.length)) (vals l)
     simp only [h1, cond_false, ints_scal, Bool.and_true, cond_true] at hr
     have e3 : row l l.length = l.map (·.1) := by unfold row; rw [List.take_length]
     have e4 : nl l l.length = (l.map (·.1)).any (· == 0) := by unfold nl; rw [e3]
     rw [hl] at hr e3 e4
     have e1 : st nm (j + 1) e0 l (j + 1) = stR nm (j + 1) e0 ((j + 1 : Nat) : Int) (nl l (j + 1)) (j + 1) (ints .i64 (row l (j + 1))) := rfl
     have e2 : fin nm (j + 1) e0 l = exR nm (j + 1) e0 ((l.map (·.1)).any (· == 0)) (j + 1) (ints .i64 (l.map (·.1))) := rfl
     rw [e1, e2, ← e4, ← e3]
     exact stepT prog_mix prog_names (by simp) (by simp) hP hn hG hI hIL hr) l.length 0 () (by omega)
  rw [List.drop_zero, scanF_fold] at key
  cases hb : Nat.beq l.length 0 with
  | true => rw [GT.eval, hb] at g2; cases g2; unfold fin at key; rw [hb] at key; exact key
  | false => rw [GT.eval, hb] at g2; cases g2; unfold fin at key; rw [hb] at key; exact key
 ·cases e
end A10L0
end
section
open Go Go.Proofs
namespace A10L1
noncomputable def cfg : Cfg := cfgK Tryz.prog 4 (gpT [(33, A33.spec)]) (ltT 4 [])
def stA (nm : ByteArray) (n : Nat) (e : Int) (nl : Bool) (i : Int) : KX := ⟨[(0, .string nm), (1, .slice (some ⟨1, 0, none⟩) n 3), (4, .pointer (some ⟨105, 0, none⟩)), (5, .int .i64 e), (7, .bool nl), (42, .slice (some ⟨1, 0, none⟩) n 3), (43, .int .i64 (Int.ofNat n)), (44, .int .i64 i)], [[.int .i64 0, .int .i64 0, .string ⟨#[]⟩]]⟩
def stExit (nm : ByteArray) (n : Nat) (e : Int) (nl : Bool) : KX := ⟨[(0, .string nm), (1, .slice (some ⟨1, 0, none⟩) n 3), (4, .pointer (some ⟨105, 0, none⟩)), (5, .int .i64 e), (7, .bool nl)], [[.int .i64 0, .int .i64 0, .string ⟨#[]⟩]]⟩
def stRet (e : Int) : KX := ⟨[(4, .pointer (some ⟨105, 0, none⟩)), (5, .int .i64 e)], [[.int .i64 0, .int .i64 0, .string ⟨#[]⟩]]⟩
def kp : Ex → List Nat
 | .normal => [0, 1, 4, 5, 7, 42, 43, 44]
 | .ret => [4, 5]
 | _ => [0, 1, 4, 5, 7]
def cr : Ex → St → List (Nat × Bool) := fun _ s => [(105, true)]
set_option maxRecDepth 1000000 in
theorem round (nm : ByteArray) (n : Nat) (e : Int) (nl : Bool) (i : Int) (cs : List Value) : rndK cfg [(33, A33.spec)] [] 10 1 (stK 84 105 [(1, cs)] (stA nm n e nl i)) (endK 105 100 84 kp cr) =
 (let x := 0 + ((i).toNat * 3); bif decide (i < (Int.ofNat n)) then (bif decide (0 ≤ i) then (bif Nat.blt (i).toNat n then (bif isL cs x [(.i .i64), (.i .i64), .s] then (bif ((bif A33.okv (rdI cs x) (rdI cs (x + 1)) (rdS cs (x + 1 + 1)) then (0 : Int) else 1) != 0) then (some (.ret, stRet 22)) else (some (.normal, stA nm n e nl (IntKind.wrap .i64 (i + 1))))) else none) else none) else none) else (some (.exit 2, stExit nm n e nl))) := by kernel_rfl
def bad (v : W3) : Bool := !A33.okv v.1 v.2.1 v.2.2
theorem bad_eq (b : Bool) : ((bif b then (0 : Int) else 1) != 0) = !b := by cases b <;> rfl
def D : KD := ⟨84, 105, 100, [0, 1, 4, 5, 7, 42, 43, 44], [1], fun _ => [(4, true)], fun x ro => match x.vs, x.cars, ro with
 | [(0, .string nm), (1, .slice (some ⟨1, 0, none⟩) n 3), (4, .pointer (some ⟨105, 0, none⟩)), (5, .int .i64 e), (7, .bool nl), (42, .slice (some ⟨1, 0, none⟩) n' 3), (43, .int .i64 m), (44, .int .i64 0)], [[.int .i64 0, .int .i64 0, .string ⟨⟨[]⟩⟩]], [(1, cs)] =>
  .need (Nat.beq n' n && rowW n m cs) (.br ((valsOf cs).any bad) (.out (.ret, stRet 22)) (.out (.exit 2, stExit nm n e nl)))
 | _, _, _ => .no⟩
def lp : LpK := ⟨10, 13, 1, D⟩
theorem sp_ok : ∀ p ∈ [((33 : FuncId), A33.spec)], SpecOk Tryz.prog La p.1 p.2 := by simpa using A33.spec_ok
theorem lp_fine : LpFine Tryz.prog La 4 lp := by
 refine ⟨by kernel_rfl, fun c base I hP hn hG hI hIL x ro ex y e => ?_⟩
 obtain ⟨vs, cars⟩ := x
 simp only [lp, D] at e ⊢
 split at e
 ·rename_i nm n e0 nl n' m cs
  obtain ⟨g1, g2⟩ := GT.need_eval e
  simp only [Bool.and_eq_true] at g1
  obtain rfl := Nat.eq_of_beq_eq_true g1.1
  obtain ⟨rfl, hn2, h4, h5⟩ := rowW_ok g1.2
  generalize valsOf cs = l at h4 h5 g2
  subst h4 h5
  have key := scan_from (Step := @StepK (etaB base) c base I (loopAt Tryz.prog 10 1) 84 105 100 [(1, vals l)]) (step := fun (_ : Unit) (v : W3) => bif bad v then .inr (.ret, stRet 22) else .inl ()) (fin := fun _ => (.exit 2, stExit nm l.length e0 nl)) (st := fun _ j => stA nm l.length e0 nl j) (l := l) (fun s => by simp) (fun s a r h => by
    cases hb : bad a <;> rw [hb] at h <;> cases h; simp) (fun _ j hj => by
    have h1 := ltI hj
    have h2 := geI j
    have h3 := bltI hj
    have h4 : (0 + ((j : Int)).toNat * 3) = j * 3 := by simp
    have h5 := wrI j (by omega)
    have hs : rdS (vals l) (j * 3 + 1 + 1) = l[j].2.2 := rdS_vals l hj
    have hr := round nm l.length e0 nl j (vals l)
    simp only [h1, h2, h3, h4, h5, isL_vals l hj, rdI_vals l hj, rdI_vals1 l hj, hs, cond_true, bad_eq] at hr
    unfold bad
    cases hb : A33.okv l[j].1 l[j].2.1 l[j].2.2 <;> rw [hb] at hr <;> exact stepT prog_mix prog_names sp_ok (by simp) hP hn hG hI hIL hr) (fun _ => by
    have h1 := nltI l.length
    have hr := round nm l.length e0 nl l.length (vals l)
    simp only [h1, cond_false] at hr
    exact stepT prog_mix prog_names sp_ok (by simp) hP hn hG hI hIL hr) l.length 0 () (by omega)
  rw [List.drop_zero, scanF_any] at key
  cases hb : l.any bad with
  | true => rw [hb] at key; rw [GT.eval, hb] at g2; cases g2; exact key
  | false => rw [hb] at key; rw [GT.eval, hb] at g2; cases g2; exact key
 ·cases e
end A10L1
end
end Go.Proofs.YtaiokpmmjbiajaaGreatDoorDx
namespace Go.Proofs.YtaiokpmmjbiajaaGreatDoorU8
section
open Go Go.Lib
def Scal (n : Int) : Prop := (0 ≤ n ∧ n < 55296) ∨ (57344 ≤ n ∧ n ≤ 1114111)
def enc (n : Int) : List UInt8 := (Utf8.encode n).data.toList
def u8s (l : List Int) : List UInt8 := l.flatMap enc
theorem u8s_nil : u8s [] = [] := rfl
theorem u8s_cons (n : Int) (l : List Int) : u8s (n :: l) = enc n ++ u8s l := rfl
theorem u8s_append (a b : List Int) : u8s (a ++ b) = u8s a ++ u8s b := by simp [u8s]
theorem enc_eq {n : Int} (h : Scal n) : enc n =
  if n < 128 then [UInt8.ofNat n.toNat]
  else if n < 2048 then [UInt8.ofNat (192 + n.toNat / 64), UInt8.ofNat (128 + n.toNat % 64)]
  else if n < 65536 then [UInt8.ofNat (224 + n.toNat / 4096), UInt8.ofNat (128 + n.toNat / 64 % 64), UInt8.ofNat (128 + n.toNat % 64)]
  else [UInt8.ofNat (240 + n.toNat / 262144), UInt8.ofNat (128 + n.toNat / 4096 % 64), UInt8.ofNat (128 + n.toNat / 64 % 64), UInt8.ofNat (128 + n.toNat % 64)] := by
 unfold enc Utf8.encode
 have hv : Utf8.valid n = true := by
  unfold Utf8.valid
  unfold Scal at h
  simp only [Bool.or_eq_true, Bool.and_eq_true, decide_eq_true_eq]
  omega
 simp only [hv, if_true]
 unfold Scal at h
 by_cases h1 : n < 128
 ·rw [if_pos h1, if_pos (by omega)]
 by_cases h2 : n < 2048
 ·rw [if_neg h1, if_pos h2, if_neg (by omega), if_pos (by omega)]
 by_cases h3 : n < 65536
 ·rw [if_neg h1, if_neg h2, if_pos h3, if_neg (by omega), if_neg (by omega), if_pos (by omega)]
 ·rw [if_neg h1, if_neg h2, if_neg h3, if_neg (by omega), if_neg (by omega), if_neg (by omega)]
theorem tn {n : Nat} (h : n < 256) : (UInt8.ofNat n).toNat = n := by simp; omega
theorem dec_enc {n : Int} (h : Scal n) (t : List UInt8) : decodeL (enc n ++ t) = (n.toNat, (enc n).length) := by
 rw [decodeL_N, enc_eq h]
 unfold Scal at h
 obtain ⟨m, rfl⟩ : ∃ m : Nat, n = m := ⟨n.toNat, by omega⟩
 simp only [Int.toNat_natCast]
 by_cases h1 : m < 128
 ·rw [if_pos (by omega)]
  simp only [List.cons_append, List.nil_append, List.getD_cons_zero, tn (show m < 256 by omega), List.length_cons, List.length_nil]
  unfold decodeN
  rw [if_pos h1]
 by_cases h2 : m < 2048
 ·rw [if_neg (by omega), if_pos (by omega)]
  simp only [List.cons_append, List.nil_append, List.getD_cons_zero, List.getD_cons_succ, tn (show 192 + m / 64 < 256 by omega), tn (show 128 + m % 64 < 256 by omega), List.length_cons, List.length_nil]
  unfold decodeN
  rw [if_neg (by omega), if_pos ⟨by omega, by omega, by omega⟩, if_pos (by omega)]
  congr 1; omega
 by_cases h3 : m < 65536
 ·rw [if_neg (by omega), if_neg (by omega), if_pos (by omega)]
  simp only [List.cons_append, List.nil_append, List.getD_cons_zero, List.getD_cons_succ, tn (show 224 + m / 4096 < 256 by omega), tn (show 128 + m / 64 % 64 < 256 by omega), tn (show 128 + m % 64 < 256 by omega), List.length_cons, List.length_nil]
  have e : (224 + m / 4096) % 16 * 4096 + (128 + m / 64 % 64) % 64 * 64 + (128 + m % 64) % 64 = m := by omega
  unfold decodeN
  rw [if_neg (by omega), if_neg (by omega), if_pos ⟨by omega, ⟨by omega, by omega⟩, by omega, by omega⟩, e, if_pos (by omega)]
 ·rw [if_neg (by omega), if_neg (by omega), if_neg (by omega)]
  simp only [List.cons_append, List.nil_append, List.getD_cons_zero, List.getD_cons_succ, tn (show 240 + m / 262144 < 256 by omega), tn (show 128 + m / 4096 % 64 < 256 by omega), tn (show 128 + m / 64 % 64 < 256 by omega), tn (show 128 + m % 64 < 256 by omega), List.length_cons, List.length_nil]
  have e : (240 + m / 262144) % 8 * 262144 + (128 + m / 4096 % 64) % 64 * 4096 + (128 + m / 64 % 64) % 64 * 64 + (128 + m % 64) % 64 = m := by omega
  unfold decodeN
  rw [if_neg (by omega), if_neg (by omega), if_neg (by omega), if_pos ⟨by omega, ⟨by omega, by omega⟩, ⟨by omega, by omega⟩, by omega, by omega⟩, e, if_pos (by omega)]
theorem enc_len {n : Int} (h : Scal n) : 1 ≤ (enc n).length ∧ (enc n).length ≤ 4 ∧ ((enc n).length = 1 → n < 128) := by
 rw [enc_eq h]
 by_cases h1 : n < 128
 ·simp [h1]
 by_cases h2 : n < 2048
 ·simp [h1, h2]
 by_cases h3 : n < 65536
 ·simp [h1, h2, h3]
 ·simp [h1, h2, h3]
theorem valid_u8s : ∀ (l : List Int), (∀ n ∈ l, Scal n) → validD (u8s l) = true
 | [], _ => rfl
 | n :: l, h => by
  have hn := h n List.mem_cons_self
  have hl := enc_len hn
  rw [u8s_cons, validD_step _ (by intro e; have := congrArg List.length e; simp at this; simp [this.1] at hl), dec_enc hn]
  rw [if_neg (by
   rintro ⟨h1, h2⟩
   have := hl.2.2 h2
   unfold Scal at hn
   simp only at h1
   omega)]
  simp only [List.drop_left]
  exact valid_u8s l fun m hm => h m (List.mem_cons_of_mem _ hm)
theorem of_tn {b : UInt8} {n : Nat} (h : n = b.toNat) : UInt8.ofNat n = b := by subst h; simp
theorem enc_dec (l : List UInt8) (hne : l ≠ []) (h : ¬ ((decodeL l).1 = 65533 ∧ (decodeL l).2 = 1)) : Scal ((decodeL l).1 : Int) ∧ enc ((decodeL l).1 : Int) ++ l.drop (decodeL l).2 = l := by
 rw [decodeL_N] at h ⊢
 have hb : ∀ b : UInt8, b.toNat < 256 := fun b => b.toNat_lt
 match l, hne with
 | b0 :: t, _ =>
 have q0 := hb b0
 unfold decodeN at h ⊢
 simp only [List.getD_cons_zero, List.getD_cons_succ] at h ⊢
 by_cases h0 : b0.toNat < 128
 ·rw [if_pos h0] at h ⊢
  simp only
  have hs : Scal (b0.toNat : Int) := by unfold Scal; omega
  refine ⟨hs, ?_⟩
  rw [enc_eq hs, if_pos (by omega)]
  simp
 rw [if_neg h0] at h ⊢
 cases t with
 | nil =>
  rw [if_neg (by simp), if_neg (by simp), if_neg (by simp)] at h
  simp at h
 | cons b1 t =>
 have q1 := hb b1
 simp only [List.getD_cons_zero, List.getD_cons_succ, List.length_cons] at h ⊢
 by_cases c1 : b0.toNat / 32 = 6 ∧ (1 < t.length + 1 + 1 ∧ b1.toNat / 64 = 2)
 ·rw [if_pos c1] at h ⊢
  by_cases d : b0.toNat % 32 * 64 + b1.toNat % 64 ≥ 128
  ·rw [if_pos d] at h ⊢
   simp only
   have hs : Scal ((b0.toNat % 32 * 64 + b1.toNat % 64 : Nat) : Int) := by unfold Scal; omega
   refine ⟨hs, ?_⟩
   rw [enc_eq hs, if_neg (by omega), if_pos (by omega), Int.toNat_natCast]
   simp only [List.cons_append, List.nil_append, List.drop_succ_cons, List.drop_zero]
   rw [of_tn (b := b0) (by omega), of_tn (b := b1) (by omega)]
  ·rw [if_neg d] at h; simp at h
 rw [if_neg c1] at h ⊢
 cases t with
 | nil =>
  rw [if_neg (by simp), if_neg (by simp)] at h
  simp at h
 | cons b2 t =>
 have q2 := hb b2
 simp only [List.getD_cons_zero, List.getD_cons_succ, List.length_cons] at h ⊢
 by_cases c2 : b0.toNat / 16 = 14 ∧ (1 < t.length + 1 + 1 + 1 ∧ b1.toNat / 64 = 2) ∧ (2 < t.length + 1 + 1 + 1 ∧ b2.toNat / 64 = 2)
 ·rw [if_pos c2] at h ⊢
  generalize hm : b0.toNat % 16 * 4096 + b1.toNat % 64 * 64 + b2.toNat % 64 = m at h ⊢
  by_cases d : m ≥ 2048 ∧ (m < 55296 ∨ (57344 ≤ m ∧ m ≤ 1114111))
  ·rw [if_pos d] at h ⊢
   simp only
   have hs : Scal (m : Int) := by unfold Scal; omega
   refine ⟨hs, ?_⟩
   rw [enc_eq hs, if_neg (by omega), if_neg (by omega), if_pos (by omega), Int.toNat_natCast]
   simp only [List.cons_append, List.nil_append, List.drop_succ_cons, List.drop_zero]
   rw [of_tn (b := b0) (by omega), of_tn (b := b1) (by omega), of_tn (b := b2) (by omega)]
  ·rw [if_neg d] at h; simp at h
 rw [if_neg c2] at h ⊢
 cases t with
 | nil =>
  rw [if_neg (by simp)] at h
  simp at h
 | cons b3 t =>
 have q3 := hb b3
 simp only [List.getD_cons_zero, List.getD_cons_succ, List.length_cons] at h ⊢
 by_cases c3 : b0.toNat / 8 = 30 ∧ (1 < t.length + 1 + 1 + 1 + 1 ∧ b1.toNat / 64 = 2) ∧ (2 < t.length + 1 + 1 + 1 + 1 ∧ b2.toNat / 64 = 2) ∧ (3 < t.length + 1 + 1 + 1 + 1 ∧ b3.toNat / 64 = 2)
 ·rw [if_pos c3] at h ⊢
  generalize hm : b0.toNat % 8 * 262144 + b1.toNat % 64 * 4096 + b2.toNat % 64 * 64 + b3.toNat % 64 = m at h ⊢
  by_cases d : m ≥ 65536 ∧ (m < 55296 ∨ (57344 ≤ m ∧ m ≤ 1114111))
  ·rw [if_pos d] at h ⊢
   simp only
   have hs : Scal (m : Int) := by unfold Scal; omega
   refine ⟨hs, ?_⟩
   rw [enc_eq hs, if_neg (by omega), if_neg (by omega), if_neg (by omega), Int.toNat_natCast]
   simp only [List.cons_append, List.nil_append, List.drop_succ_cons, List.drop_zero]
   rw [of_tn (b := b0) (by omega), of_tn (b := b1) (by omega), of_tn (b := b2) (by omega), of_tn (b := b3) (by omega)]
  ·rw [if_neg d] at h; simp at h
 rw [if_neg c3] at h
 simp at h
theorem valid_split : ∀ (n : Nat) (l : List UInt8), l.length ≤ n → validD l = true → ∃ p : List Int, (∀ x ∈ p, Scal x) ∧ l = u8s p
 | 0, l, hl, _ => ⟨[], fun x h => by (cases h), by cases l with | nil => rfl | cons => simp at hl⟩
 | n + 1, l, hl, hv => by
  by_cases hne : l = []
  ·exact ⟨[], fun x h => by (cases h), hne⟩
  rw [validD_step l hne] at hv
  by_cases hd : (decodeL l).1 = 65533 ∧ (decodeL l).2 = 1
  ·rw [if_pos hd] at hv; cases hv
  rw [if_neg hd] at hv
  obtain ⟨h1, h2⟩ := enc_dec l hne hd
  have h3 := enc_len h1
  have h4 := congrArg List.length h2
  have h5 := decodeL_le l hne
  have h6 := decodeL_width l
  simp only [List.length_append, List.length_drop] at h4
  obtain ⟨p, h7, h8⟩ := valid_split n (l.drop (decodeL l).2) (by simp; omega) hv
  exact ⟨(decodeL l).1 :: p, fun x hx => by
   rcases List.mem_cons.1 hx with rfl | hx
   ·exact h1
   ·exact h7 x hx, by rw [u8s_cons, ← h8, h2]⟩
theorem runes_u8s (l : List Int) : runesBytes l = ⟨(u8s l).toArray⟩ := by
 have : ∀ (l : List Int) (b : ByteArray), l.foldl (fun r n => r ++ Utf8.encode n) b = ⟨(b.data.toList ++ u8s l).toArray⟩ := by
  intro l
  induction l with
  | nil => intro b; obtain ⟨a⟩ := b; simp [u8s]
  | cons n l ih => intro b; rw [List.foldl_cons, ih, u8s_cons]; simp [enc]
 rw [runesBytes, this]
 rfl
end
end Go.Proofs.YtaiokpmmjbiajaaGreatDoorU8
namespace Go.Proofs.YtaiokpmmjbiajaaGreatDoorTxt
section
set_option maxRecDepth 4000
open Go.Proofs.YtaiokpmmjbiajaaGreatDoorU8 Go.Lib
open Go.WideShapes (bytes_inj)
def pts (s : ByteArray) : Nat → Nat → List Int
 | 0, _ => []
 | n + 1, i => if i < s.size then Int.ofNat (Utf8.decode s i).1 :: pts s n (i + (Utf8.decode s i).2) else []
def from_ (l : List Int) (a1 : Int) : Nat := (min (max a1 0) (l.length : Int)).toNat
def cnt (l : List Int) (a1 a2 : Int) : Nat := (min (max a2 0) ((l.length : Int) - min (max a1 0) (l.length : Int))).toNat
def pieceB (s : ByteArray) (a1 a2 : Int) : ByteArray :=
 runesBytes (((pts s s.size 0).drop (from_ (pts s s.size 0) a1)).take (cnt (pts s s.size 0) a1 a2))
def one (lo hi d : Int) (c : UInt8) : UInt8 := if lo ≤ (c.toNat : Int) ∧ (c.toNat : Int) ≤ hi then UInt8.ofNat (((c.toNat : Int) + d) % 256).toNat else c
def casedB (lo hi d : Int) (s : ByteArray) : ByteArray := ⟨(s.data.toList.map (one lo hi d)).toArray⟩
def frac (r : Nat) : List UInt8 := if Lib.trimRightB (Lib.repeatL [48] (4 - (Lib.decDigits r).length) ++ Lib.decDigits r) 48 = [] then [48] else Lib.trimRightB (Lib.repeatL [48] (4 - (Lib.decDigits r).length) ++ Lib.decDigits r) 48
def decText (n : Int) : List UInt8 := (if n < 0 then [45] else []) ++ Lib.decDigits (n.natAbs / 10000) ++ [46] ++ frac (n.natAbs % 10000)
def T (p : List Int) : ByteArray := ⟨(u8s p).toArray⟩
theorem T_size (p : List Int) : (T p).size = (u8s p).length := by simp [T, ByteArray.size]
theorem T_data (p : List Int) : (T p).data.toList = u8s p := by simp [T]
theorem dec_at (p q : List Int) (n : Int) (hn : Scal n) : Utf8.decode (T (p ++ n :: q)) (u8s p).length = (n.toNat, (enc n).length) := by
 rw [← decodeL_drop, T_data, u8s_append, List.drop_left, u8s_cons]
 exact dec_enc hn _
theorem pts_at : ∀ (q p : List Int) (k : Nat), (∀ x ∈ p ++ q, Scal x) → (u8s q).length ≤ k → pts (T (p ++ q)) k (u8s p).length = q
 | [], p, 0, h, hk => rfl
 | [], p, k + 1, h, hk => by
  rw [pts, if_neg (by rw [T_size]; simp)]
 | n :: q, p, 0, h, hk => by
  have := enc_len (h n (by simp))
  rw [u8s_cons, List.length_append] at hk
  omega
 | n :: q, p, k + 1, h, hk => by
  have hn := h n (by simp)
  have hl := enc_len hn
  rw [u8s_cons, List.length_append] at hk
  rw [pts, if_pos (by rw [T_size, u8s_append, u8s_cons]; simp; omega), dec_at p q n hn]
  have e : p ++ n :: q = (p ++ [n]) ++ q := by simp
  have e2 : (u8s p).length + (enc n).length = (u8s (p ++ [n])).length := by rw [u8s_append, u8s_cons]; simp [u8s_nil]
  simp only
  rw [e, e2, pts_at q (p ++ [n]) k (by rw [← e]; exact h) (by omega)]
  congr 1
  have : 0 ≤ n := by unfold Scal at hn; omega
  show ((n.toNat : Nat) : Int) = n
  omega
theorem pts_eq (p : List Int) (h : ∀ x ∈ p, Scal x) : pts (T p) (T p).size 0 = p := pts_at p [] _ h (by rw [T_size]; exact Nat.le_refl _)
theorem piece_eq (p : List Int) (h : ∀ x ∈ p, Scal x) (a n : Int) : pieceB (T p) a n = T ((p.drop (from_ p a)).take (cnt p a n)) := by
 unfold pieceB
 rw [pts_eq p h, runes_u8s]; rfl
def Ok (p : List Int) : Prop := (∀ x ∈ p, Scal x) ∧ (u8s p).length ≤ 1024
theorem u8s_take (p : List Int) (n : Nat) : (u8s (p.take n)).length ≤ (u8s p).length := by
 have e : u8s p = u8s (p.take n) ++ u8s (p.drop n) := by rw [← u8s_append, List.take_append_drop]
 rw [e]; simp
theorem u8s_drop (p : List Int) (n : Nat) : (u8s (p.drop n)).length ≤ (u8s p).length := by
 have e : u8s p = u8s (p.take n) ++ u8s (p.drop n) := by rw [← u8s_append, List.take_append_drop]
 rw [e]; simp
theorem Ok.part {p : List Int} (h : Ok p) (i n : Nat) : Ok ((p.drop i).take n) :=
 ⟨fun x hx => h.1 x (List.mem_of_mem_drop (List.mem_of_mem_take hx)), Nat.le_trans (u8s_take _ _) (Nat.le_trans (u8s_drop _ _) h.2)⟩
theorem Ok.left {p q : List Int} (h : Ok (p ++ q)) : Ok p := ⟨fun x hx => h.1 x (by simp [hx]), by have := h.2; rw [u8s_append] at this; simp at this; omega⟩
theorem Ok.right {p q : List Int} (h : Ok (p ++ q)) : Ok q := ⟨fun x hx => h.1 x (by simp [hx]), by have := h.2; rw [u8s_append] at this; simp at this; omega⟩
def turn (lo hi d n : Int) : Int := if lo ≤ n ∧ n ≤ hi then n + d else n
theorem one_high (lo hi d : Int) (hh : hi < 128) (k : Nat) (h : 128 ≤ k) (hk : k < 256) : one lo hi d (UInt8.ofNat k) = UInt8.ofNat k := by
 unfold one
 rw [tn hk, if_neg (by omega)]
theorem enc_turn (lo hi d : Int) (hl : 0 ≤ lo) (hh : hi < 128) (h1 : 0 ≤ lo + d) (h2 : hi + d < 128) (n : Int) (hn : Scal n) : (enc n).map (one lo hi d) = enc (turn lo hi d n) ∧ Scal (turn lo hi d n) ∧ (enc (turn lo hi d n)).length = (enc n).length := by
 by_cases hlt : n < 128
 ·have h0 : 0 ≤ n := by unfold Scal at hn; omega
  have hs : Scal (turn lo hi d n) := by unfold turn Scal; split <;> omega
  have ht : turn lo hi d n < 128 := by unfold turn; split <;> omega
  refine ⟨?_, hs, ?_⟩
  ·rw [enc_eq hn, enc_eq hs, if_pos hlt, if_pos ht]
   simp only [List.map]
   unfold one turn
   rw [tn (by omega)]
   by_cases c : lo ≤ n ∧ n ≤ hi
   ·rw [if_pos (by omega), if_pos c]
    congr 2; omega
   ·rw [if_neg (by omega), if_neg c]
  ·rw [enc_eq hn, enc_eq hs, if_pos hlt, if_pos ht]; rfl
 ·have e : turn lo hi d n = n := by unfold turn; rw [if_neg (by omega)]
  rw [e]
  refine ⟨?_, hn, rfl⟩
  unfold Scal at hn
  rw [enc_eq hn, if_neg hlt]
  by_cases c2 : n < 2048
  ·rw [if_pos c2]
   simp only [List.map]
   rw [one_high lo hi d hh _ (by omega) (by omega), one_high lo hi d hh _ (by omega) (by omega)]
  by_cases c3 : n < 65536
  ·rw [if_neg c2, if_pos c3]
   simp only [List.map]
   rw [one_high lo hi d hh _ (by omega) (by omega), one_high lo hi d hh _ (by omega) (by omega), one_high lo hi d hh _ (by omega) (by omega)]
  ·rw [if_neg c2, if_neg c3]
   simp only [List.map]
   rw [one_high lo hi d hh _ (by omega) (by omega), one_high lo hi d hh _ (by omega) (by omega), one_high lo hi d hh _ (by omega) (by omega), one_high lo hi d hh _ (by omega) (by omega)]
theorem u8s_turn (lo hi d : Int) (hl : 0 ≤ lo) (hh : hi < 128) (h1 : 0 ≤ lo + d) (h2 : hi + d < 128) : ∀ (p : List Int), (∀ x ∈ p, Scal x) → (u8s p).map (one lo hi d) = u8s (p.map (turn lo hi d)) ∧ (∀ x ∈ p.map (turn lo hi d), Scal x) ∧ (u8s (p.map (turn lo hi d))).length = (u8s p).length
 | [], _ => ⟨rfl, (fun x h => by cases h), rfl⟩
 | n :: p, h => by
  obtain ⟨a1, a2, a3⟩ := enc_turn lo hi d hl hh h1 h2 n (h n (by simp))
  obtain ⟨b1, b2, b3⟩ := u8s_turn lo hi d hl hh h1 h2 p fun x hx => h x (by simp [hx])
  refine ⟨by rw [u8s_cons, List.map_append, a1, b1]; rfl, fun x hx => ?_, by rw [List.map_cons, u8s_cons, u8s_cons, List.length_append, List.length_append, a3, b3]⟩
  rcases List.mem_cons.1 hx with rfl | hx
  ·exact a2
  ·exact b2 x hx
theorem enc_ends (n : Int) (h : Scal n) (h32 : n ≠ 32) : ∃ a b l l', enc n = a :: l ∧ enc n = l' ++ [b] ∧ a ≠ 32 ∧ b ≠ 32 := by
 have ne : ∀ k : Nat, k < 256 → k ≠ 32 → UInt8.ofNat k ≠ 32 := fun k hk h e => h (by have := congrArg UInt8.toNat e; rw [tn hk] at this; simpa using this)
 have h0 : 0 ≤ n := by unfold Scal at h; omega
 rw [enc_eq h]
 unfold Scal at h
 by_cases c1 : n < 128
 ·rw [if_pos c1]
  exact ⟨_, _, [], [], rfl, rfl, ne _ (by omega) (by omega), ne _ (by omega) (by omega)⟩
 by_cases c2 : n < 2048
 ·rw [if_neg c1, if_pos c2]
  exact ⟨_, _, _, [_], rfl, rfl, ne _ (by omega) (by omega), ne _ (by omega) (by omega)⟩
 by_cases c3 : n < 65536
 ·rw [if_neg c1, if_neg c2, if_pos c3]
  exact ⟨_, _, _, [_, _], rfl, rfl, ne _ (by omega) (by omega), ne _ (by omega) (by omega)⟩
 ·rw [if_neg c1, if_neg c2, if_neg c3]
  exact ⟨_, _, _, [_, _, _], rfl, rfl, ne _ (by omega) (by omega), ne _ (by omega) (by omega)⟩
theorem enc32 : enc 32 = [32] := by rw [enc_eq (by unfold Scal; omega)]; rfl
theorem left_T : ∀ (p : List Int), (∀ x ∈ p, Scal x) → ∃ k, trimLeftB (u8s p) 32 = u8s (p.drop k)
 | [], _ => ⟨0, rfl⟩
 | n :: p, h => by
  by_cases c : n = 32
  ·subst c
   obtain ⟨k, hk⟩ := left_T p fun x hx => h x (by simp [hx])
   refine ⟨k + 1, ?_⟩
   rw [u8s_cons, enc32]
   exact hk
  ·obtain ⟨a, b, l, l', e1, e2, h1, h2⟩ := enc_ends n (h n (by simp)) c
   refine ⟨0, ?_⟩
   rw [List.drop_zero, u8s_cons, e1]
   unfold trimLeftB
   rw [List.cons_append, List.dropWhile_cons_of_neg (by simpa using h1)]
theorem right_T : ∀ (q : List Int), (∀ x ∈ q, Scal x) → ∃ k, trimRightB (u8s q.reverse) 32 = u8s (q.reverse.take k)
 | [], _ => ⟨0, rfl⟩
 | n :: q, h => by
  by_cases c : n = 32
  ·subst c
   obtain ⟨k, hk⟩ := right_T q fun x hx => h x (by simp [hx])
   refine ⟨min k q.length, ?_⟩
   have e : u8s (32 :: q).reverse = u8s q.reverse ++ [32] := by rw [List.reverse_cons, u8s_append, u8s_cons, enc32]; rfl
   rw [e]
   unfold trimRightB
   rw [List.reverse_append]
   have : (u8s (q.reverse.take k)) = u8s (((32 : Int) :: q).reverse.take (min k q.length)) := by
    rw [List.reverse_cons, List.take_append_of_le_length (by simp; omega)]
    congr 1
    rw [List.take_eq_take_iff]
    simp
   rw [← this, ← hk]
   rfl
  ·obtain ⟨a, b, l, l', e1, e2, h1, h2⟩ := enc_ends n (h n (by simp)) c
   refine ⟨(n :: q).length, ?_⟩
   rw [List.take_of_length_le (by simp)]
   have e : u8s (n :: q).reverse = (u8s q.reverse ++ l') ++ [b] := by rw [List.reverse_cons, u8s_append, u8s_cons, e2]; simp [u8s_nil]
   rw [e]
   unfold trimRightB
   rw [List.reverse_append, List.reverse_singleton, List.singleton_append, List.dropWhile_cons_of_neg (by simpa using h2)]
   simp
theorem trim_T (p : List Int) (h : Ok p) : ∃ q, Ok q ∧ trimB (u8s p) 32 = u8s q := by
 obtain ⟨k, hk⟩ := right_T p.reverse (fun x hx => h.1 x (by simpa using hx))
 rw [List.reverse_reverse] at hk
 have h1 : Ok (p.take k) := by have := Ok.part h 0 k; simpa using this
 obtain ⟨j, hj⟩ := left_T (p.take k) h1.1
 refine ⟨(p.take k).drop j, ?_, ?_⟩
 ·have := Ok.part h1 j (p.take k).length
  rwa [List.take_of_length_le (by simp)] at this
 ·unfold trimB
  rw [hk, hj]
theorem valid_pts {l : List UInt8} (h : validD l = true) : ∃ p : List Int, (∀ x ∈ p, Scal x) ∧ l = u8s p := valid_split l.length l (Nat.le_refl _) h
theorem ascii_u8s : ∀ l : List UInt8, (∀ c ∈ l, c.toNat < 128) → ∃ p : List Int, (∀ x ∈ p, Scal x) ∧ l = u8s p
 | [], _ => ⟨[], (fun x h => by cases h), rfl⟩
 | b :: l, h => by
  obtain ⟨p, h1, h2⟩ := ascii_u8s l fun c hc => h c (by simp [hc])
  have hb := h b (by simp)
  have hs : Scal (b.toNat : Int) := by unfold Scal; omega
  refine ⟨(b.toNat : Int) :: p, fun x hx => ?_, ?_⟩
  ·rcases List.mem_cons.1 hx with rfl | hx
   ·exact hs
   ·exact h1 x hx
  ·rw [u8s_cons, ← h2, enc_eq hs, if_pos (by omega)]
   simp
theorem ascii_valid {l : List UInt8} (h : ∀ c ∈ l, c.toNat < 128) : validD l = true := by
 obtain ⟨p, h1, rfl⟩ := ascii_u8s l h
 exact valid_u8s p h1
theorem dec_ascii : ∀ (u : Nat), ∀ c ∈ decDigits u, c.toNat < 128 := by
 intro u
 induction u using Nat.strongRecOn with
 | _ u ih =>
  intro c hc
  rw [decDigits] at hc
  split at hc
  ·rw [List.mem_singleton] at hc
   subst hc
   rw [tn (by omega)]; omega
  ·rcases List.mem_append.1 hc with hc | hc
   ·exact ih _ (by omega) c hc
   ·rw [List.mem_singleton] at hc
    subst hc
    rw [tn (by omega)]; omega
theorem itoa_ascii (n : Int) : ∀ c ∈ itoa n, c.toNat < 128 := by
 intro c hc
 unfold itoa at hc
 split at hc
 ·rcases List.mem_cons.1 hc with rfl | hc
  ·decide
  ·exact dec_ascii _ c hc
 ·exact dec_ascii _ c hc
theorem rep_mem (l : List UInt8) : ∀ (n : Nat) (c : UInt8), c ∈ repeatL l n → c ∈ l
 | 0, c, h => by cases h
 | n + 1, c, h => by
  rw [repeatL] at h
  rcases List.mem_append.1 h with h | h
  ·exact h
  ·exact rep_mem l n c h
theorem trimR_mem (l : List UInt8) (b c : UInt8) (h : c ∈ trimRightB l b) : c ∈ l := by
 unfold trimRightB at h
 have := (List.dropWhile_suffix _).mem (List.mem_reverse.1 h)
 exact List.mem_reverse.1 this
theorem decText_ascii (n : Int) : ∀ c ∈ decText n, c.toNat < 128 := by
 intro c hc
 unfold decText at hc
 simp only [List.mem_append] at hc
 rcases hc with ((hc | hc) | hc) | hc
 ·split at hc
  ·rw [List.mem_singleton] at hc; subst hc; decide
  ·cases hc
 ·exact dec_ascii _ c hc
 ·rw [List.mem_singleton] at hc; subst hc; decide
 ·unfold frac at hc
  split at hc
  ·rw [List.mem_singleton] at hc; subst hc; decide
  ·have := trimR_mem _ _ _ hc
   rcases List.mem_append.1 this with h | h
   ·have := rep_mem _ _ _ h
    rw [List.mem_singleton] at this; subst this; decide
   ·exact dec_ascii _ c h
theorem append_valid {a b : List UInt8} (ha : validD a = true) (hb : validD b = true) : validD (a ++ b) = true := by
 obtain ⟨p, h1, rfl⟩ := valid_pts ha
 obtain ⟨q, h2, rfl⟩ := valid_pts hb
 rw [← u8s_append]
 exact valid_u8s _ fun x hx => (List.mem_append.1 hx).elim (h1 x) (h2 x)
theorem cased_valid (lo hi d : Int) (hl : 0 ≤ lo) (hh : hi < 128) (h1 : 0 ≤ lo + d) (h2 : hi + d < 128) (s : ByteArray) (h : validD s.data.toList = true) : validD (casedB lo hi d s).data.toList = true := by
 obtain ⟨p, a, b⟩ := valid_pts h
 obtain ⟨c1, c2, _⟩ := u8s_turn lo hi d hl hh h1 h2 p a
 show validD (s.data.toList.map (one lo hi d)).toArray.toList = true
 rw [List.toList_toArray, b, c1]
 exact valid_u8s _ c2
theorem trim_valid (s : List UInt8) (hs : s.length ≤ 1024) (h : validD s = true) : validD (trimB s 32) = true := by
 obtain ⟨p, a, rfl⟩ := valid_pts h
 obtain ⟨q, h1, h2⟩ := trim_T p ⟨a, hs⟩
 rw [h2]
 exact valid_u8s _ h1.1
theorem data_T {s : ByteArray} {p : List Int} (h : s.data.toList = u8s p) : s = T p := by
 apply bytes_inj
 rw [T_data]; exact h
theorem piece_valid (s : ByteArray) (h : validD s.data.toList = true) (a n : Int) : validD (pieceB s a n).data.toList = true := by
 obtain ⟨p, h1, h2⟩ := valid_pts h
 rw [data_T h2, piece_eq p h1, T_data]
 exact valid_u8s _ fun x hx => h1 x (List.mem_of_mem_drop (List.mem_of_mem_take hx))
end
end Go.Proofs.YtaiokpmmjbiajaaGreatDoorTxt
namespace Go.Proofs.YtaiokpmmjbiajaaGreatDoorDx.Fit
section
open Go
abbrev is (s : ByteArray) (l : List UInt8) : Bool := eqU s.data.toList l
def textV (t : ByteArray) : W3 × Int := bif decide (Int.ofNat t.data.toList.length > 1024) then (v0, 20) else ((4, 0, t), 0)
def rndP (s : ByteArray) (v : W3) : W3 × Int := bif v.1 == 2 then (v, 0) else ((2, A80.rnd s v.2.1, ⟨#[]⟩), 0)
def chosenP (s : ByteArray) (l : List W3) : W3 × Int := bif (A34.best s l).1 != 0 then (v0, (A34.best s l).1) else ((A34.best s l).2, 0)
def signI (n : Int) : Int := bif decide (n < 0) then -1 else bif decide (n > 0) then 1 else 0
def textL (k n : Int) (s : ByteArray) : List UInt8 :=
 bif !A33.okv k n s then [] else bif k == 0 then [110, 117, 108, 108] else bif k == 1 then (bif n == 1 then [116, 114, 117, 101] else [102, 97, 108, 115, 101])
 else bif k == 2 then Lib.itoa n else bif k == 3 then _root_.Go.Proofs.YtaiokpmmjbiajaaGreatDoorTxt.decText n else [39] ++ Lib.replaceAll s.data.toList [39] [39, 39] ++ [39]
def showB (k n : Int) (s : ByteArray) : ByteArray := ⟨(textL k n s).toArray⟩
def callV (s : ByteArray) (l : List W3) : W3 × Int :=
 let v := l.headD v0
 bif is s [97, 98, 115] then (bif decide (v.2.1 < 0) then A79.negV v.1 v.2.1 else (v, 0)) else
 bif is s [99, 101, 105, 108] then rndP s v else
 bif is s [102, 108, 111, 111, 114] then rndP s v else
 bif is s [114, 111, 117, 110, 100] then rndP s v else
 bif is s [115, 105, 103, 110] then ((2, signI v.2.1, ⟨#[]⟩), 0) else
 bif is s [116, 111, 105, 110, 116] then A82.intV v.1 v.2.1 else
 bif is s [116, 111, 100, 101, 99] then A75.decV v.1 v.2.1 else
 bif is s [103, 114, 101, 97, 116, 101, 115, 116] then chosenP s l else
 bif is s [108, 101, 97, 115, 116] then chosenP s l else
 bif is s [108, 101, 110, 103, 116, 104] then ((2, Int.ofNat (Lib.runeCount v.2.2), ⟨#[]⟩), 0) else
 bif is s [108, 111, 119, 101, 114] then textV (_root_.Go.Proofs.YtaiokpmmjbiajaaGreatDoorTxt.casedB 65 90 32 v.2.2) else
 bif is s [117, 112, 112, 101, 114] then textV (_root_.Go.Proofs.YtaiokpmmjbiajaaGreatDoorTxt.casedB 97 122 (-32) v.2.2) else
 bif is s [116, 114, 105, 109] then textV ⟨(Lib.trimB v.2.2.data.toList 32).toArray⟩ else
 bif is s [115, 117, 98, 115, 116, 114] then textV (_root_.Go.Proofs.YtaiokpmmjbiajaaGreatDoorTxt.pieceB v.2.2 (l.getD 1 v0).2.1 (l.getD 2 v0).2.1) else
 bif is s [116, 111, 116, 101, 120, 116] then (bif v.1 == 4 then (v, 0) else textV (showB v.1 v.2.1 v.2.2)) else
 textV (A37L0.cat l)
def rP (b : Bool) (k : Int) : Int × Int := bif b then (k, 0) else (0, 100)
def kindP (s : ByteArray) (l : List Int) : Int × Int :=
 bif l.any A14L0.bad then rP false 0 else
 bif eqU s.data.toList [97, 98, 115] then rP (A14.num l) (l.headD 0) else
 bif eqU s.data.toList [99, 101, 105, 108] then rP (A14.num l) 2 else
 bif eqU s.data.toList [102, 108, 111, 111, 114] then rP (A14.num l) 2 else
 bif eqU s.data.toList [114, 111, 117, 110, 100] then rP (A14.num l) 2 else
 bif eqU s.data.toList [115, 105, 103, 110] then rP (A14.num l) 2 else
 bif eqU s.data.toList [116, 111, 105, 110, 116] then rP (A14.num l) 2 else
 bif eqU s.data.toList [116, 111, 100, 101, 99] then rP (A14.num l) 3 else
 bif eqU s.data.toList [99, 111, 97, 108, 101, 115, 99, 101] then rP ((A53.res l).2 && decide (Int.ofNat l.length ≥ 1)) (A53.res l).1 else
 bif eqU s.data.toList [103, 114, 101, 97, 116, 101, 115, 116] then rP ((A53.res l).2 && decide (Int.ofNat l.length ≥ 1)) (A53.res l).1 else
 bif eqU s.data.toList [108, 101, 97, 115, 116] then rP ((A53.res l).2 && decide (Int.ofNat l.length ≥ 1)) (A53.res l).1 else
 bif eqU s.data.toList [110, 117, 108, 108, 105, 102] then rP (Int.ofNat l.length == 2 && (A53.res l).2) (l.headD 0) else
 bif eqU s.data.toList [99, 111, 110, 99, 97, 116] then rP (l.foldl (fun b k => b && A14L1.ok1 k) (decide (Int.ofNat l.length ≥ 1))) 4 else
 bif eqU s.data.toList [108, 101, 110, 103, 116, 104] then rP (A14.txt l) 2 else
 bif eqU s.data.toList [108, 111, 119, 101, 114] then rP (A14.txt l) 4 else
 bif eqU s.data.toList [117, 112, 112, 101, 114] then rP (A14.txt l) 4 else
 bif eqU s.data.toList [116, 114, 105, 109] then rP (A14.txt l) 4 else
 bif eqU s.data.toList [116, 111, 116, 101, 120, 116] then rP (Int.ofNat l.length == 1) 4 else
 bif eqU s.data.toList [115, 117, 98, 115, 116, 114] then rP (A14.sub l) 4 else
 rP false 0
def two (p : Int × Int) : Value := .tuple #[.int .i64 p.1, .int .i64 p.2]
theorem two_r (b : Bool) (k : Int) : two (rP b k) = A14.r b k := by cases b <;> rfl
theorem kindV_two (s : ByteArray) (l : List Int) : A14.kindV s l = two (kindP s l) := by
 unfold kindP A14.kindV
 simp only [Bool.apply_cond two, two_r]
def CallV (s : ByteArray) (l : List W3) : W3 × Int :=
 bif (kindP s (l.map (·.1))).2 != 0 then (v0, (kindP s (l.map (·.1))).2) else
 bif l.any A10L1.bad then (v0, 22) else
 bif is s [99, 111, 97, 108, 101, 115, 99, 101] then chosenP s l else
 bif is s [110, 117, 108, 108, 105, 102] then
  (bif A35.tru (bif (l.headD v0).1 == 0 || (l.getD 1 v0).1 == 0 then 0 else 1) (bif (A76.compare (l.headD v0).1 (l.headD v0).2.1 (l.headD v0).2.2 (l.getD 1 v0).1 (l.getD 1 v0).2.1 (l.getD 1 v0).2.2).2 && (A76.compare (l.headD v0).1 (l.headD v0).2.1 (l.headD v0).2.2 (l.getD 1 v0).1 (l.getD 1 v0).2.1 (l.getD 1 v0).2.2).1 == 0 then 1 else 0) then (v0, 0) else (l.headD v0, 0)) else
 bif (l.map (·.1)).any (· == 0) then (v0, 0) else callV s l
end
section
open Go
theorem eqU_eq : ∀ {a b : List UInt8}, eqU a b = true → a = b
 | [], [], _ => rfl
 | [], _ :: _, h => by cases h
 | _ :: _, [], h => by cases h
 | x :: a, y :: b, h => by
  unfold eqU at h
  simp only [Bool.and_eq_true] at h
  rw [UInt8.toNat_inj.1 (Nat.eq_of_beq_eq_true h.1), eqU_eq h.2]
theorem is_eq {s : ByteArray} {l : List UInt8} (h : is s l = true) : s = ⟨l.toArray⟩ := by
 obtain ⟨a⟩ := s
 have := eqU_eq h
 simp only at this
 rw [← this]
theorem eqU_refl : ∀ a : List UInt8, eqU a a = true
 | [] => rfl
 | x :: a => by unfold eqU; rw [Nat.beq_refl, eqU_refl a]; rfl
theorem okv_text {s : ByteArray} : A33.okv 4 0 s = (decide (s.data.toList.length ≤ 1024) && Lib.validD s.data.toList) := rfl
theorem okv_num {k n : Int} (h : k = 2 ∨ k = 3) : A33.okv k n ⟨#[]⟩ = true := by rcases h with rfl | rfl <;> rfl
theorem okv_numS {k n : Int} {s : ByteArray} (h : k = 2 ∨ k = 3) (ho : A33.okv k n s = true) : s = ⟨#[]⟩ := by
 rcases h with rfl | rfl <;> exact is_eq (l := []) ho
theorem okv_textS {n : Int} {s : ByteArray} (ho : A33.okv 4 n s = true) : n = 0 ∧ s.data.toList.length ≤ 1024 ∧ Lib.validD s.data.toList = true := by
 have h : (n == 0 && (decide (s.data.toList.length ≤ 1024) && Lib.validD s.data.toList)) = true := ho
 simp only [Bool.and_eq_true, decide_eq_true_eq, beq_iff_eq] at h
 exact ⟨h.1, h.2.1, h.2.2⟩
def Fits (kind : Int) (p : W3 × Int) : Prop := if p.2 = 0 then A33.okv p.1.1 p.1.2.1 p.1.2.2 = true ∧ (p.1.1 = 0 ∨ p.1.1 = kind) else p.1 = v0
theorem fits_err {kind e : Int} (h : e ≠ 0) : Fits kind (v0, e) := by unfold Fits; rw [if_neg h]
theorem fits_null {kind : Int} : Fits kind (v0, 0) := by unfold Fits; rw [if_pos rfl]; exact ⟨rfl, .inl rfl⟩
theorem fits_num {kind n : Int} (h : kind = 2 ∨ kind = 3) : Fits kind ((kind, n, ⟨#[]⟩), 0) := by unfold Fits; rw [if_pos rfl]; exact ⟨okv_num h, .inr rfl⟩
theorem fits_val {kind : Int} {v : W3} (h : A33.okv v.1 v.2.1 v.2.2 = true) (hk : v.1 = kind) : Fits kind (v, 0) := by unfold Fits; rw [if_pos rfl]; exact ⟨h, .inr hk⟩
theorem fits_text {t : ByteArray} (h : Lib.validD t.data.toList = true) : Fits 4 (textV t) := by
 unfold textV
 cases hb : decide (Int.ofNat t.data.toList.length > 1024)
 ·have hl : ¬ (t.data.toList.length : Int) > 1024 := of_decide_eq_false hb
  refine fits_val (v := (4, 0, t)) ?_ rfl
  show A33.okv 4 0 t = true
  rw [okv_text, h, decide_eq_true (by omega)]; rfl
 ·exact fits_err (by decide)
theorem num_of {l : List Int} (h : A14.num l = true) : ∃ k, l = [k] ∧ (k = 0 ∨ k = 2 ∨ k = 3) := by
 unfold A14.num at h
 split at h
 ·rename_i a
  simp only [Bool.or_eq_true, beq_iff_eq] at h
  exact ⟨a, rfl, h⟩
 ·cases h
theorem txt_of {l : List Int} (h : A14.txt l = true) : ∃ k, l = [k] ∧ (k = 0 ∨ k = 4) := by
 unfold A14.txt at h
 split at h
 ·rename_i a
  simp only [Bool.or_eq_true, beq_iff_eq] at h
  exact ⟨a, rfl, h⟩
 ·cases h
theorem sub_of {l : List Int} (h : A14.sub l = true) : ∃ a b c, l = [a, b, c] ∧ (a = 0 ∨ a = 4) := by
 unfold A14.sub at h
 split at h
 ·rename_i a b c
  simp only [Bool.or_eq_true, Bool.and_eq_true, beq_iff_eq] at h
  exact ⟨a, b, c, rfl, h.1⟩
 ·cases h
theorem map_one {l : List W3} {k : Int} (h : l.map (·.1) = [k]) : ∃ v, l = [v] ∧ v.1 = k := by
 match l, h with
 | [v], h => exact ⟨v, rfl, by simpa using h⟩
def Ok5 (k : Int) : Prop := k = 0 ∨ k = 1 ∨ k = 2 ∨ k = 3 ∨ k = 4
def Inv (p : Int × Bool × Bool) (l : List Int) : Prop := Ok5 p.1 ∧ (p.2.1 = true → ∀ k ∈ l, k = 0 ∨ k = p.1) ∧ (p.2.2 = true → (p.1 = 0 ∨ p.1 = 2 ∨ p.1 = 3) ∧ ∀ k ∈ l, k = 0 ∨ ((k = 2 ∨ k = 3) ∧ k ≤ p.1)) ∧ (p.1 = 0 → ∀ k ∈ l, k = 0)
theorem step_inv {p : Int × Bool × Bool} {l : List Int} {k : Int} (h : Inv p l) (hk : Ok5 k) : Inv (A53.step p k) (l ++ [k]) := by
 obtain ⟨a, b, c⟩ := p
 obtain ⟨h1, h2, h3, h4⟩ := h
 simp only at h1 h2 h3 h4
 unfold A53.step
 cases hz : k == 0
 ·have hz : k ≠ 0 := beq_eq_false_iff_ne.1 hz
  simp only [cond_false]
  have hm : (if k > a then k else a) ≥ k ∧ (if k > a then k else a) ≥ a ∧ ((if k > a then k else a) = k ∨ (if k > a then k else a) = a) := by split <;> omega
  generalize (if k > a then k else a) = m at hm
  unfold Ok5 at hk h1
  refine ⟨?_, fun h => ?_, fun h => ?_, fun h => ?_⟩
  ·show Ok5 m; unfold Ok5; omega
  ·simp only [Bool.and_eq_true, Bool.or_eq_true, beq_iff_eq] at h
   obtain ⟨hb, he⟩ := h
   intro x hx
   show x = 0 ∨ x = m
   rcases List.mem_append.1 hx with hx | hx
   ·rcases h2 hb x hx with e | e
    ·exact .inl e
    ·rcases he with e2 | e2 <;> omega
   ·rw [List.mem_singleton] at hx
    rcases he with e2 | e2 <;> omega
  ·simp only [Bool.and_eq_true, Bool.or_eq_true, beq_iff_eq] at h
   obtain ⟨hb, he⟩ := h
   obtain ⟨g1, g2⟩ := h3 hb
   refine ⟨by show m = 0 ∨ m = 2 ∨ m = 3; omega, fun x hx => ?_⟩
   show x = 0 ∨ ((x = 2 ∨ x = 3) ∧ x ≤ m)
   rcases List.mem_append.1 hx with hx | hx
   ·rcases g2 x hx with e | e
    ·exact .inl e
    ·right; omega
   ·rw [List.mem_singleton] at hx
    subst hx
    exact .inr ⟨he, hm.1⟩
  ·exact absurd h (by show ¬ m = 0; omega)
 ·have hz : k = 0 := beq_iff_eq.1 hz
  subst hz
  simp only [cond_true]
  refine ⟨h1, fun h x hx => ?_, fun h => ⟨(h3 h).1, fun x hx => ?_⟩, fun h x hx => ?_⟩
  ·rcases List.mem_append.1 hx with hx | hx
   ·exact h2 h x hx
   ·rw [List.mem_singleton] at hx; exact .inl hx
  ·rcases List.mem_append.1 hx with hx | hx
   ·exact (h3 h).2 x hx
   ·rw [List.mem_singleton] at hx; exact .inl hx
  ·rcases List.mem_append.1 hx with hx | hx
   ·exact h4 h x hx
   ·rw [List.mem_singleton] at hx; exact hx
theorem fold_inv : ∀ (r l : List Int) (p : Int × Bool × Bool), Inv p l → (∀ k ∈ r, Ok5 k) → Inv (r.foldl A53.step p) (l ++ r)
 | [], l, p, h, _ => by rw [List.append_nil]; exact h
 | k :: r, l, p, h, hr => by
  have := fold_inv r (l ++ [k]) (A53.step p k) (step_inv h (hr k (by simp))) fun x hx => hr x (by simp [hx])
  rw [List.append_assoc] at this
  exact this
theorem alike_fit {l : List Int} (h5 : ∀ k ∈ l, Ok5 k) (h : (A53.res l).2 = true) : ∀ k ∈ l, k = 0 ∨ k = (A53.res l).1 ∨ ((A53.res l).1 = 3 ∧ (k = 2 ∨ k = 3)) := by
 have hi : Inv (A53.alike l) l := fold_inv l [] (0, true, true) ⟨.inl rfl, (fun _ k hk => by cases hk), (fun _ => ⟨.inl rfl, fun k hk => by cases hk⟩), (fun _ k hk => by cases hk)⟩ h5
 obtain ⟨h1, h2, h3, h4⟩ := hi
 unfold A53.res at h ⊢
 simp only [Bool.or_eq_true] at h
 intro k hk
 rcases h with h | h
 ·rcases h2 h k hk with e | e
  ·exact .inl e
  ·exact .inr (.inl e)
 ·obtain ⟨g1, g2⟩ := h3 h
  rcases g2 k hk with e | ⟨e1, e2⟩
  ·exact .inl e
  ·show k = 0 ∨ k = (A53.alike l).1 ∨ ((A53.alike l).1 = 3 ∧ (k = 2 ∨ k = 3))
   omega
theorem decV_fit {k n : Int} (h : k = 2 ∨ k = 3) : (A75.decV k n).2 = 0 → (A75.decV k n).1.1 = 3 ∧ (A75.decV k n).1.2.2 = ⟨#[]⟩ := by
 unfold A75.decV
 rw [if_neg (by omega), if_pos h]
 split
 ·intro _; exact ⟨rfl, rfl⟩
 ·intro h; cases h
theorem go_fit (s : ByteArray) (kind : Int) : ∀ (l : List W3) (p : Bool × W3), (∀ v ∈ l, A33.okv v.1 v.2.1 v.2.2 = true ∧ (v.1 = 0 ∨ v.1 = kind ∨ (kind = 3 ∧ (v.1 = 2 ∨ v.1 = 3)))) → (p.2 = v0 ∨ A33.okv p.2.1 p.2.2.1 p.2.2.2 = true ∧ p.2.1 = kind) → (A34L1.go s kind p l).1 = 0 →
  ((A34L1.go s kind p l).2 = v0 ∨ A33.okv (A34L1.go s kind p l).2.1 (A34L1.go s kind p l).2.2.1 (A34L1.go s kind p l).2.2.2 = true ∧ (A34L1.go s kind p l).2.1 = kind)
 | [], p, h, hp, _ => hp
 | v :: l, p, h, hp, he => by
  have hl : ∀ v ∈ l, A33.okv v.1 v.2.1 v.2.2 = true ∧ (v.1 = 0 ∨ v.1 = kind ∨ (kind = 3 ∧ (v.1 = 2 ∨ v.1 = 3))) := fun x hx => h x (by simp [hx])
  obtain ⟨hv, hk⟩ := h v (by simp)
  have pk : ∀ (q : Bool × W3) (u : W3), (q.2 = v0 ∨ A33.okv q.2.1 q.2.2.1 q.2.2.2 = true ∧ q.2.1 = kind) → A33.okv u.1 u.2.1 u.2.2 = true → u.1 = kind → ((A34L1.pick s q u).2 = v0 ∨ A33.okv (A34L1.pick s q u).2.1 (A34L1.pick s q u).2.2.1 (A34L1.pick s q u).2.2.2 = true ∧ (A34L1.pick s q u).2.1 = kind) := by
   intro q u hq h1 h2
   unfold A34L1.pick
   cases A34L1.better s q.1 (A76.compare u.1 u.2.1 u.2.2 q.2.1 q.2.2.1 q.2.2.2).1
   ·exact hq
   ·exact .inr ⟨h1, h2⟩
  rw [A34L1.go] at he ⊢
  cases hz : v.1 == 0
  ·rw [hz] at he
   simp only [cond_false] at he ⊢
   have hz := beq_eq_false_iff_ne.1 hz
   cases h3 : kind == 3
   ·rw [h3] at he
    simp only [cond_false] at he ⊢
    have h3 := beq_eq_false_iff_ne.1 h3
    exact go_fit s kind l _ hl (pk p v hp hv (by omega)) he
   ·rw [h3] at he
    have h3 := beq_iff_eq.1 h3
    simp only [cond_true] at he ⊢
    have hk2 : v.1 = 2 ∨ v.1 = 3 := by omega
    cases hd : (A75.decV v.1 v.2.1).2 != 0
    ·rw [hd] at he
     simp only [cond_false] at he ⊢
     have hd := bne_eq_false_iff_eq.1 hd
     obtain ⟨d1, d2⟩ := decV_fit hk2 hd
     exact go_fit s kind l _ hl (pk p _ hp (by rw [d1, d2]; rfl) (by rw [d1, h3])) he
    ·rw [hd] at he
     simp only [cond_true] at he
     rw [he] at hd
     cases hd
  ·rw [hz] at he
   simp only [cond_true] at he ⊢
   exact go_fit s kind l p hl hp he
theorem chosen_fit (s : ByteArray) (l : List W3) (hok : ∀ v ∈ l, A33.okv v.1 v.2.1 v.2.2 = true) (h5 : ∀ k ∈ l.map (·.1), Ok5 k) (hr : (A53.res (l.map (·.1))).2 = true) : Fits (A53.res (l.map (·.1))).1 (chosenP s l) := by
 unfold chosenP
 cases hb : (A34.best s l).1 != 0
 ·have hb := bne_eq_false_iff_eq.1 hb
  have := go_fit s (A53.res (l.map fun v : W3 => v.1)).1 l (false, 0, 0, ⟨#[]⟩) (fun v hv => ⟨hok v hv, alike_fit h5 hr v.1 (List.mem_map_of_mem hv)⟩) (.inl rfl) hb
  rcases this with h | ⟨h1, h2⟩
  ·show Fits _ ((A34.best s l).2, 0)
   rw [show (A34.best s l).2 = v0 from h]
   exact fits_null
  ·exact fits_val h1 h2
 ·exact fits_err (bne_iff_ne.1 hb)
theorem catB_data (a b : ByteArray) : (A37L0.catB a b).data.toList = a.data.toList ++ b.data.toList := by unfold A37L0.catB; rw [List.toList_toArray]
theorem cat_valid : ∀ (l : List W3) (a : ByteArray), Lib.validD a.data.toList = true → (∀ v ∈ l, Lib.validD v.2.2.data.toList = true) → Lib.validD (l.foldl (fun s v => A37L0.catB s v.2.2) a).data.toList = true
 | [], a, h, _ => h
 | v :: l, a, h, hl => cat_valid l _ (by rw [catB_data]; exact _root_.Go.Proofs.YtaiokpmmjbiajaaGreatDoorTxt.append_valid h (hl v (by simp))) fun x hx => hl x (by simp [hx])
theorem fold_ok1 : ∀ (l : List Int) (b : Bool), l.foldl (fun b k => b && A14L1.ok1 k) b = true → b = true ∧ ∀ k ∈ l, k = 0 ∨ k = 4
 | [], b, h => ⟨h, fun k hk => by cases hk⟩
 | k :: l, b, h => by
  obtain ⟨h1, h2⟩ := fold_ok1 l _ h
  simp only [Bool.and_eq_true] at h1
  refine ⟨h1.1, fun x hx => ?_⟩
  rcases List.mem_cons.1 hx with rfl | hx
  ·have := h1.2
   unfold A14L1.ok1 at this
   simpa using this
  ·exact h2 x hx
theorem asc (l : List UInt8) (h : l.all (fun c => decide (c.toNat < 128)) = true) : ∀ c ∈ l, c.toNat < 128 := fun c hc => of_decide_eq_true (List.all_eq_true.1 h c hc)
theorem text_valid (k n : Int) (s : ByteArray) (h4 : k ≠ 4) : Lib.validD (showB k n s).data.toList = true := by
 show Lib.validD (textL k n s).toArray.toList = true
 rw [List.toList_toArray]
 refine _root_.Go.Proofs.YtaiokpmmjbiajaaGreatDoorTxt.ascii_valid fun c hc => ?_
 unfold textL at hc
 cases ho : A33.okv k n s
 ·rw [ho] at hc; cases hc
 ·have hk : k = 0 ∨ k = 1 ∨ k = 2 ∨ k = 3 := by
   unfold A33.okv at ho
   cases e0 : k == 0
   ·cases e1 : k == 1
    ·cases e2 : k == 2 || k == 3
     ·simp [e0, e1, e2, beq_eq_false_iff_ne.2 h4] at ho
     ·simp only [Bool.or_eq_true, beq_iff_eq] at e2; omega
    ·simp only [beq_iff_eq] at e1; omega
   ·simp only [beq_iff_eq] at e0; omega
  rw [ho] at hc
  rcases hk with rfl | rfl | rfl | rfl
  ·exact asc [110, 117, 108, 108] (by decide) c hc
  ·have hc : c ∈ (bif n == 1 then ([116, 114, 117, 101] : List UInt8) else [102, 97, 108, 115, 101]) := hc
   cases hn : n == 1
   ·rw [hn] at hc; exact asc [102, 97, 108, 115, 101] (by decide) c hc
   ·rw [hn] at hc; exact asc [116, 114, 117, 101] (by decide) c hc
  ·exact _root_.Go.Proofs.YtaiokpmmjbiajaaGreatDoorTxt.itoa_ascii n c hc
  ·exact _root_.Go.Proofs.YtaiokpmmjbiajaaGreatDoorTxt.decText_ascii n c hc
theorem Ok5_of {l : List Int} (h : l.any A14L0.bad = false) : ∀ k ∈ l, Ok5 k := by
 intro k hk
 have := (List.any_eq_false.1 h) k hk
 unfold A14L0.bad at this
 unfold Ok5
 simp at this
 omega
theorem okv_of {l : List W3} (h : l.any A10L1.bad = false) : ∀ v ∈ l, A33.okv v.1 v.2.1 v.2.2 = true := by
 intro v hv
 have := (List.any_eq_false.1 h) v hv
 unfold A10L1.bad at this
 simpa using this
theorem nonnull {l : List W3} (h : (l.map (fun v : W3 => v.1)).any (· == 0) = false) : ∀ v ∈ l, v.1 ≠ 0 := by
 intro v hv e
 have := (List.any_eq_false.1 h) v.1 (List.mem_map_of_mem hv)
 rw [e] at this
 exact this rfl
theorem rP0 {b : Bool} {k : Int} (h : (rP b k).2 = 0) : b = true ∧ (rP b k).1 = k := by
 cases b
 ·cases h
 ·exact ⟨rfl, rfl⟩
abbrev ks (l : List W3) : List Int := l.map (fun v : W3 => v.1)
section
variable {l : List W3} (hok : ∀ v ∈ l, A33.okv v.1 v.2.1 v.2.2 = true)
include hok
theorem one_num (hn : A14.num (ks l) = true) (hz : (ks l).any (· == 0) = false) : ∃ v, l = [v] ∧ (v.1 = 2 ∨ v.1 = 3) ∧ v.2.2 = ⟨#[]⟩ := by
 obtain ⟨k, e, hk⟩ := num_of hn
 obtain ⟨v, rfl, rfl⟩ := map_one e
 have h0 := nonnull hz v (by simp)
 have h2 : v.1 = 2 ∨ v.1 = 3 := by omega
 exact ⟨v, rfl, h2, okv_numS h2 (hok v (by simp))⟩
theorem one_txt (hn : A14.txt (ks l) = true) (hz : (ks l).any (· == 0) = false) : ∃ v, l = [v] ∧ v.1 = 4 ∧ v.2.2.data.toList.length ≤ 1024 ∧ Lib.validD v.2.2.data.toList = true := by
 obtain ⟨k, e, hk⟩ := txt_of hn
 obtain ⟨v, rfl, rfl⟩ := map_one e
 have h0 := nonnull hz v (by simp)
 have h4 : v.1 = 4 := by omega
 have ho := hok v (by simp)
 rw [h4] at ho
 exact ⟨v, rfl, h4, (okv_textS ho).2⟩
theorem fit_abs (hn : A14.num (ks l) = true) (hz : (ks l).any (· == 0) = false) : Fits ((ks l).headD 0) (bif decide ((l.headD v0).2.1 < 0) then A79.negV (l.headD v0).1 (l.headD v0).2.1 else (l.headD v0, 0)) := by
 obtain ⟨v, rfl, h2, hs⟩ := one_num hok hn hz
 show Fits v.1 (bif decide (v.2.1 < 0) then A79.negV v.1 v.2.1 else (v, 0))
 cases decide (v.2.1 < 0)
 ·exact fits_val (hok v (by simp)) rfl
 ·show Fits v.1 (A79.negV v.1 v.2.1)
  unfold A79.negV
  rw [if_neg (by omega), if_pos h2]
  split
  ·exact fits_err (by decide)
  ·exact fits_num h2
theorem fit_rnd (s : ByteArray) (hn : A14.num (ks l) = true) (hz : (ks l).any (· == 0) = false) : Fits 2 (rndP s (l.headD v0)) := by
 obtain ⟨v, rfl, h2, hs⟩ := one_num hok hn hz
 show Fits 2 (rndP s v)
 unfold rndP
 cases h : v.1 == 2
 ·exact fits_num (.inl rfl)
 ·exact fits_val (hok v (by simp)) (beq_iff_eq.1 h)
theorem fit_int (hn : A14.num (ks l) = true) (hz : (ks l).any (· == 0) = false) : Fits 2 (A82.intV (l.headD v0).1 (l.headD v0).2.1) := by
 obtain ⟨v, rfl, h2, hs⟩ := one_num hok hn hz
 show Fits 2 (A82.intV v.1 v.2.1)
 unfold A82.intV
 rw [if_neg (by omega)]
 split
 ·exact fits_num (.inl rfl)
 ·rw [if_pos (by omega)]; exact fits_num (.inl rfl)
theorem fit_dec (hn : A14.num (ks l) = true) (hz : (ks l).any (· == 0) = false) : Fits 3 (A75.decV (l.headD v0).1 (l.headD v0).2.1) := by
 obtain ⟨v, rfl, h2, hs⟩ := one_num hok hn hz
 show Fits 3 (A75.decV v.1 v.2.1)
 unfold A75.decV
 rw [if_neg (by omega), if_pos h2]
 split
 ·exact fits_num (.inr rfl)
 ·exact fits_err (by decide)
end
theorem fit (s : ByteArray) (l : List W3) (hk : (kindP s (l.map (·.1))).2 = 0) : Fits (kindP s (l.map (·.1))).1 (CallV s l) := by
 unfold CallV
 rw [hk]
 simp only [bne_self_eq_false, cond_false]
 cases hbad : l.any A10L1.bad
 ·have hok := okv_of hbad
  simp only [cond_false]
  have h5 : ∀ k ∈ l.map (fun v : W3 => v.1), Ok5 k := by
   refine Ok5_of ?_
   cases hb : (l.map (fun v : W3 => v.1)).any A14L0.bad
   ·rfl
   ·unfold kindP at hk
    rw [hb] at hk
    cases hk
  have hb5 : (l.map (fun v : W3 => v.1)).any A14L0.bad = false := by
   cases hb : (l.map (fun v : W3 => v.1)).any A14L0.bad
   ·rfl
   ·unfold kindP at hk
    rw [hb] at hk
    cases hk
  have hkind := hk
  unfold kindP at hkind ⊢
  rw [hb5] at hkind ⊢
  simp only [cond_false] at hkind ⊢
  unfold callV is
  dsimp only []
  cases h_abs : eqU s.data.toList [97, 98, 115]
  rotate_left
  ·obtain rfl := is_eq h_abs
   have hkind : (rP (A14.num (ks l)) ((ks l).headD 0)).2 = 0 := hkind
   obtain ⟨hn, hkd⟩ := rP0 hkind
   show Fits (rP (A14.num (ks l)) ((ks l).headD 0)).1 (bif (ks l).any (· == 0) then (v0, 0) else (bif decide ((l.headD v0).2.1 < 0) then A79.negV (l.headD v0).1 (l.headD v0).2.1 else (l.headD v0, 0)))
   rw [hkd]
   clear hkd hkind hk h_abs
   cases hz : (ks l).any (· == 0)
   rotate_left
   ·exact fits_null
   exact fit_abs hok hn hz
  simp only [h_abs, cond_false] at hkind ⊢
  cases h_ceil : eqU s.data.toList [99, 101, 105, 108]
  rotate_left
  ·obtain rfl := is_eq h_ceil
   have hkind : (rP (A14.num (ks l)) 2).2 = 0 := hkind
   obtain ⟨hn, hkd⟩ := rP0 hkind
   show Fits (rP (A14.num (ks l)) 2).1 (bif (ks l).any (· == 0) then (v0, 0) else rndP ⟨[99, 101, 105, 108].toArray⟩ (l.headD v0))
   rw [hkd]
   clear hkd hkind hk h_ceil
   cases hz : (ks l).any (· == 0)
   rotate_left
   ·exact fits_null
   exact fit_rnd hok _ hn hz
  simp only [h_ceil, cond_false] at hkind ⊢
  cases h_floor : eqU s.data.toList [102, 108, 111, 111, 114]
  rotate_left
  ·obtain rfl := is_eq h_floor
   have hkind : (rP (A14.num (ks l)) 2).2 = 0 := hkind
   obtain ⟨hn, hkd⟩ := rP0 hkind
   show Fits (rP (A14.num (ks l)) 2).1 (bif (ks l).any (· == 0) then (v0, 0) else rndP ⟨[102, 108, 111, 111, 114].toArray⟩ (l.headD v0))
   rw [hkd]
   clear hkd hkind hk h_floor
   cases hz : (ks l).any (· == 0)
   rotate_left
   ·exact fits_null
   exact fit_rnd hok _ hn hz
  simp only [h_floor, cond_false] at hkind ⊢
  cases h_round : eqU s.data.toList [114, 111, 117, 110, 100]
  rotate_left
  ·obtain rfl := is_eq h_round
   have hkind : (rP (A14.num (ks l)) 2).2 = 0 := hkind
   obtain ⟨hn, hkd⟩ := rP0 hkind
   show Fits (rP (A14.num (ks l)) 2).1 (bif (ks l).any (· == 0) then (v0, 0) else rndP ⟨[114, 111, 117, 110, 100].toArray⟩ (l.headD v0))
   rw [hkd]
   clear hkd hkind hk h_round
   cases hz : (ks l).any (· == 0)
   rotate_left
   ·exact fits_null
   exact fit_rnd hok _ hn hz
  simp only [h_round, cond_false] at hkind ⊢
  cases h_sign : eqU s.data.toList [115, 105, 103, 110]
  rotate_left
  ·obtain rfl := is_eq h_sign
   have hkind : (rP (A14.num (ks l)) 2).2 = 0 := hkind
   obtain ⟨hn, hkd⟩ := rP0 hkind
   show Fits (rP (A14.num (ks l)) 2).1 (bif (ks l).any (· == 0) then (v0, 0) else ((2, signI (l.headD v0).2.1, ⟨#[]⟩), 0))
   rw [hkd]
   clear hkd hkind hk h_sign
   cases hz : (ks l).any (· == 0)
   rotate_left
   ·exact fits_null
   exact fits_num (.inl rfl)
  simp only [h_sign, cond_false] at hkind ⊢
  cases h_toint : eqU s.data.toList [116, 111, 105, 110, 116]
  rotate_left
  ·obtain rfl := is_eq h_toint
   have hkind : (rP (A14.num (ks l)) 2).2 = 0 := hkind
   obtain ⟨hn, hkd⟩ := rP0 hkind
   show Fits (rP (A14.num (ks l)) 2).1 (bif (ks l).any (· == 0) then (v0, 0) else A82.intV (l.headD v0).1 (l.headD v0).2.1)
   rw [hkd]
   clear hkd hkind hk h_toint
   cases hz : (ks l).any (· == 0)
   rotate_left
   ·exact fits_null
   exact fit_int hok hn hz
  simp only [h_toint, cond_false] at hkind ⊢
  cases h_todec : eqU s.data.toList [116, 111, 100, 101, 99]
  rotate_left
  ·obtain rfl := is_eq h_todec
   have hkind : (rP (A14.num (ks l)) 3).2 = 0 := hkind
   obtain ⟨hn, hkd⟩ := rP0 hkind
   show Fits (rP (A14.num (ks l)) 3).1 (bif (ks l).any (· == 0) then (v0, 0) else A75.decV (l.headD v0).1 (l.headD v0).2.1)
   rw [hkd]
   clear hkd hkind hk h_todec
   cases hz : (ks l).any (· == 0)
   rotate_left
   ·exact fits_null
   exact fit_dec hok hn hz
  simp only [h_todec, cond_false] at hkind ⊢
  cases h_coalesce : eqU s.data.toList [99, 111, 97, 108, 101, 115, 99, 101]
  rotate_left
  ·obtain rfl := is_eq h_coalesce
   have hkind : (rP ((A53.res (ks l)).2 && decide (Int.ofNat (ks l).length ≥ 1)) (A53.res (ks l)).1).2 = 0 := hkind
   obtain ⟨hn, hkd⟩ := rP0 hkind
   show Fits (rP ((A53.res (ks l)).2 && decide (Int.ofNat (ks l).length ≥ 1)) (A53.res (ks l)).1).1 (chosenP ⟨[99, 111, 97, 108, 101, 115, 99, 101].toArray⟩ l)
   rw [hkd]
   clear hkd hkind hk h_coalesce
   simp only [Bool.and_eq_true] at hn
   exact chosen_fit _ l hok h5 hn.1
  simp only [h_coalesce, cond_false] at hkind ⊢
  cases h_greatest : eqU s.data.toList [103, 114, 101, 97, 116, 101, 115, 116]
  rotate_left
  ·obtain rfl := is_eq h_greatest
   have hkind : (rP ((A53.res (ks l)).2 && decide (Int.ofNat (ks l).length ≥ 1)) (A53.res (ks l)).1).2 = 0 := hkind
   obtain ⟨hn, hkd⟩ := rP0 hkind
   show Fits (rP ((A53.res (ks l)).2 && decide (Int.ofNat (ks l).length ≥ 1)) (A53.res (ks l)).1).1 (bif (ks l).any (· == 0) then (v0, 0) else chosenP ⟨[103, 114, 101, 97, 116, 101, 115, 116].toArray⟩ l)
   rw [hkd]
   clear hkd hkind hk h_greatest
   cases hz : (ks l).any (· == 0)
   rotate_left
   ·exact fits_null
   simp only [Bool.and_eq_true] at hn
   exact chosen_fit _ l hok h5 hn.1
  simp only [h_greatest, cond_false] at hkind ⊢
  cases h_least : eqU s.data.toList [108, 101, 97, 115, 116]
  rotate_left
  ·obtain rfl := is_eq h_least
   have hkind : (rP ((A53.res (ks l)).2 && decide (Int.ofNat (ks l).length ≥ 1)) (A53.res (ks l)).1).2 = 0 := hkind
   obtain ⟨hn, hkd⟩ := rP0 hkind
   show Fits (rP ((A53.res (ks l)).2 && decide (Int.ofNat (ks l).length ≥ 1)) (A53.res (ks l)).1).1 (bif (ks l).any (· == 0) then (v0, 0) else chosenP ⟨[108, 101, 97, 115, 116].toArray⟩ l)
   rw [hkd]
   clear hkd hkind hk h_least
   cases hz : (ks l).any (· == 0)
   rotate_left
   ·exact fits_null
   simp only [Bool.and_eq_true] at hn
   exact chosen_fit _ l hok h5 hn.1
  simp only [h_least, cond_false] at hkind ⊢
  cases h_nullif : eqU s.data.toList [110, 117, 108, 108, 105, 102]
  rotate_left
  ·obtain rfl := is_eq h_nullif
   have hkind : (rP (Int.ofNat (ks l).length == 2 && (A53.res (ks l)).2) ((ks l).headD 0)).2 = 0 := hkind
   obtain ⟨hn, hkd⟩ := rP0 hkind
   show Fits (rP (Int.ofNat (ks l).length == 2 && (A53.res (ks l)).2) ((ks l).headD 0)).1 (bif A35.tru (bif (l.headD v0).1 == 0 || (l.getD 1 v0).1 == 0 then 0 else 1) (bif (A76.compare (l.headD v0).1 (l.headD v0).2.1 (l.headD v0).2.2 (l.getD 1 v0).1 (l.getD 1 v0).2.1 (l.getD 1 v0).2.2).2 && (A76.compare (l.headD v0).1 (l.headD v0).2.1 (l.headD v0).2.2 (l.getD 1 v0).1 (l.getD 1 v0).2.1 (l.getD 1 v0).2.2).1 == 0 then 1 else 0) then (v0, 0) else (l.headD v0, 0))
   rw [hkd]
   clear hkd hkind hk h_nullif
   cases A35.tru (bif (l.headD v0).1 == 0 || (l.getD 1 v0).1 == 0 then 0 else 1) (bif (A76.compare (l.headD v0).1 (l.headD v0).2.1 (l.headD v0).2.2 (l.getD 1 v0).1 (l.getD 1 v0).2.1 (l.getD 1 v0).2.2).2 && (A76.compare (l.headD v0).1 (l.headD v0).2.1 (l.headD v0).2.2 (l.getD 1 v0).1 (l.getD 1 v0).2.1 (l.getD 1 v0).2.2).1 == 0 then 1 else 0)
   rotate_left
   ·exact fits_null
   simp only [cond_false]
   cases l with
   | nil => cases hn
   | cons v l => exact fits_val (hok v (by simp)) rfl
  simp only [h_nullif, cond_false] at hkind ⊢
  cases h_concat : eqU s.data.toList [99, 111, 110, 99, 97, 116]
  rotate_left
  ·obtain rfl := is_eq h_concat
   have hkind : (rP ((ks l).foldl (fun b k => b && A14L1.ok1 k) (decide (Int.ofNat (ks l).length ≥ 1))) 4).2 = 0 := hkind
   obtain ⟨hn, hkd⟩ := rP0 hkind
   show Fits (rP ((ks l).foldl (fun b k => b && A14L1.ok1 k) (decide (Int.ofNat (ks l).length ≥ 1))) 4).1 (bif (ks l).any (· == 0) then (v0, 0) else textV (A37L0.cat l))
   rw [hkd]
   clear hkd hkind hk h_concat
   cases hz : (ks l).any (· == 0)
   rotate_left
   ·exact fits_null
   obtain ⟨_, h4⟩ := fold_ok1 _ _ hn
   refine fits_text (cat_valid l _ rfl fun v hv => ?_)
   have e4 : v.1 = 4 := by have := h4 v.1 (List.mem_map_of_mem hv); have := nonnull hz v hv; omega
   have ho := hok v hv
   rw [e4] at ho
   exact (okv_textS ho).2.2
  simp only [h_concat, cond_false] at hkind ⊢
  cases h_length : eqU s.data.toList [108, 101, 110, 103, 116, 104]
  rotate_left
  ·obtain rfl := is_eq h_length
   have hkind : (rP (A14.txt (ks l)) 2).2 = 0 := hkind
   obtain ⟨hn, hkd⟩ := rP0 hkind
   show Fits (rP (A14.txt (ks l)) 2).1 (bif (ks l).any (· == 0) then (v0, 0) else ((2, Int.ofNat (Lib.runeCount (l.headD v0).2.2), ⟨#[]⟩), 0))
   rw [hkd]
   clear hkd hkind hk h_length
   cases hz : (ks l).any (· == 0)
   rotate_left
   ·exact fits_null
   exact fits_num (.inl rfl)
  simp only [h_length, cond_false] at hkind ⊢
  cases h_lower : eqU s.data.toList [108, 111, 119, 101, 114]
  rotate_left
  ·obtain rfl := is_eq h_lower
   have hkind : (rP (A14.txt (ks l)) 4).2 = 0 := hkind
   obtain ⟨hn, hkd⟩ := rP0 hkind
   show Fits (rP (A14.txt (ks l)) 4).1 (bif (ks l).any (· == 0) then (v0, 0) else textV (_root_.Go.Proofs.YtaiokpmmjbiajaaGreatDoorTxt.casedB 65 90 32 (l.headD v0).2.2))
   rw [hkd]
   clear hkd hkind hk h_lower
   cases hz : (ks l).any (· == 0)
   rotate_left
   ·exact fits_null
   obtain ⟨v, rfl, h4, h6, h7⟩ := one_txt hok hn hz
   exact fits_text (_root_.Go.Proofs.YtaiokpmmjbiajaaGreatDoorTxt.cased_valid 65 90 32 (by decide) (by decide) (by decide) (by decide) v.2.2 h7)
  simp only [h_lower, cond_false] at hkind ⊢
  cases h_upper : eqU s.data.toList [117, 112, 112, 101, 114]
  rotate_left
  ·obtain rfl := is_eq h_upper
   have hkind : (rP (A14.txt (ks l)) 4).2 = 0 := hkind
   obtain ⟨hn, hkd⟩ := rP0 hkind
   show Fits (rP (A14.txt (ks l)) 4).1 (bif (ks l).any (· == 0) then (v0, 0) else textV (_root_.Go.Proofs.YtaiokpmmjbiajaaGreatDoorTxt.casedB 97 122 (-32) (l.headD v0).2.2))
   rw [hkd]
   clear hkd hkind hk h_upper
   cases hz : (ks l).any (· == 0)
   rotate_left
   ·exact fits_null
   obtain ⟨v, rfl, h4, h6, h7⟩ := one_txt hok hn hz
   exact fits_text (_root_.Go.Proofs.YtaiokpmmjbiajaaGreatDoorTxt.cased_valid 97 122 (-32) (by decide) (by decide) (by decide) (by decide) v.2.2 h7)
  simp only [h_upper, cond_false] at hkind ⊢
  cases h_trim : eqU s.data.toList [116, 114, 105, 109]
  rotate_left
  ·obtain rfl := is_eq h_trim
   have hkind : (rP (A14.txt (ks l)) 4).2 = 0 := hkind
   obtain ⟨hn, hkd⟩ := rP0 hkind
   show Fits (rP (A14.txt (ks l)) 4).1 (bif (ks l).any (· == 0) then (v0, 0) else textV ⟨(Lib.trimB (l.headD v0).2.2.data.toList 32).toArray⟩)
   rw [hkd]
   clear hkd hkind hk h_trim
   cases hz : (ks l).any (· == 0)
   rotate_left
   ·exact fits_null
   obtain ⟨v, rfl, h4, h6, h7⟩ := one_txt hok hn hz
   exact fits_text (by rw [List.toList_toArray]; exact _root_.Go.Proofs.YtaiokpmmjbiajaaGreatDoorTxt.trim_valid _ h6 h7)
  simp only [h_trim, cond_false] at hkind ⊢
  cases h_totext : eqU s.data.toList [116, 111, 116, 101, 120, 116]
  rotate_left
  ·obtain rfl := is_eq h_totext
   have hkind : (rP (Int.ofNat (ks l).length == 1) 4).2 = 0 := hkind
   obtain ⟨hn, hkd⟩ := rP0 hkind
   show Fits (rP (Int.ofNat (ks l).length == 1) 4).1 (bif (ks l).any (· == 0) then (v0, 0) else (bif (l.headD v0).1 == 4 then (l.headD v0, 0) else textV (showB (l.headD v0).1 (l.headD v0).2.1 (l.headD v0).2.2)))
   rw [hkd]
   clear hkd hkind hk h_totext
   cases hz : (ks l).any (· == 0)
   rotate_left
   ·exact fits_null
   simp only [cond_false]
   cases l with
   | nil => cases hn
   | cons v l =>
    show Fits 4 (bif v.1 == 4 then (v, 0) else textV (showB v.1 v.2.1 v.2.2))
    cases h4 : v.1 == 4
    ·exact fits_text (text_valid _ _ _ (beq_eq_false_iff_ne.1 h4))
    ·exact fits_val (hok v (by simp)) (beq_iff_eq.1 h4)
  simp only [h_totext, cond_false] at hkind ⊢
  cases h_substr : eqU s.data.toList [115, 117, 98, 115, 116, 114]
  rotate_left
  ·obtain rfl := is_eq h_substr
   have hkind : (rP (A14.sub (ks l)) 4).2 = 0 := hkind
   obtain ⟨hn, hkd⟩ := rP0 hkind
   show Fits (rP (A14.sub (ks l)) 4).1 (bif (ks l).any (· == 0) then (v0, 0) else textV (_root_.Go.Proofs.YtaiokpmmjbiajaaGreatDoorTxt.pieceB (l.headD v0).2.2 (l.getD 1 v0).2.1 (l.getD 2 v0).2.1))
   rw [hkd]
   clear hkd hkind hk h_substr
   cases hz : (ks l).any (· == 0)
   rotate_left
   ·exact fits_null
   obtain ⟨a, b, c, e, ha⟩ := sub_of hn
   cases l with
   | nil => cases e
   | cons v l =>
    have ea : v.1 = a := (List.cons.inj e).1
    have := nonnull hz v (by simp)
    have e4 : v.1 = 4 := by omega
    have ho := hok v (by simp)
    rw [e4] at ho
    exact fits_text (_root_.Go.Proofs.YtaiokpmmjbiajaaGreatDoorTxt.piece_valid v.2.2 (okv_textS ho).2.2 _ _)
  simp only [h_substr, cond_false] at hkind ⊢
  cases hkind
 ·exact fits_err (by decide)
end
end Go.Proofs.YtaiokpmmjbiajaaGreatDoorDx.Fit
namespace Go.Proofs.YtaiokpmmjbiajaaGreatDoorDx.Ref
section
open Go Go.Proofs.YtaiokpmmjbiajaaGreatDoorDx.Fit
abbrev wr (x : Int) : Int := IntKind.wrap .i64 x
theorem inR_iff {n : Int} : inR n = true ↔ -9223372036854775808 ≤ n ∧ n < 9223372036854775808 := by unfold inR; simp
theorem quot (n : Int) : n = 10000 * n.tdiv 10000 + n.tmod 10000 ∧ -10000 < n.tmod 10000 ∧ n.tmod 10000 < 10000 ∧ (0 ≤ n → 0 ≤ n.tmod 10000 ∧ 0 ≤ n.tdiv 10000) ∧ (n ≤ 0 → n.tmod 10000 ≤ 0 ∧ n.tdiv 10000 ≤ 0) := by
 rcases Int.lt_or_le n 0 with h | h
 ·obtain ⟨m, rfl⟩ : ∃ m : Int, n = -m := ⟨-n, by omega⟩
  rw [Int.neg_tdiv, Int.neg_tmod, Int.tdiv_eq_ediv_of_nonneg (by omega), Int.tmod_eq_emod_of_nonneg (by omega)]
  omega
 ·rw [Int.tdiv_eq_ediv_of_nonneg h, Int.tmod_eq_emod_of_nonneg h]
  omega
def numK (k : Int) : Bool := k == 0 || (k == 2 || k == 3)
def raStep (k : Int) (out : Int) : Option Int := bif k == 0 || k == out then some out else bif out == 0 then some k else bif numK out && numK k then some 3 else none
def ra : Int → List Int → Option Int
 | out, [] => some out
 | out, k :: l => match raStep k out with
  | some o => ra o l
  | none => none
def refDecV (k n : Int) : W3 × Int := if k = 0 then (v0, 0) else if k = 2 then (if n ≤ 922337203685477 ∧ n ≥ -922337203685477 then ((3, wr (n * 10000), ⟨#[]⟩), 0) else (v0, 20)) else if k = 3 then ((3, n, ⟨#[]⟩), 0) else (v0, 22)
theorem dec_eq {k n : Int} (hn : inR n = true) : refDecV k n = A75.decV k n := by
 obtain ⟨n1, n2⟩ := inR_iff.1 hn
 unfold refDecV A75.decV
 by_cases h0 : k = 0
 ·rw [if_pos h0, if_pos h0]
 rw [if_neg h0, if_neg h0]
 by_cases h2 : k = 2
 ·subst h2
  rw [if_pos rfl, if_pos (show (2 : Int) = 2 ∨ (2 : Int) = 3 from .inl rfl)]
  have e : A127.dec 2 n = A127i.dec n := rfl
  rw [e]
  unfold A127i.dec
  by_cases h : n ≤ 922337203685477 ∧ n ≥ -922337203685477
  ·rw [if_pos h, if_neg (show ¬ (18446744073709551616 ≤ n * 10000 ∨ n * 10000 ≤ -18446744073709551616) by omega), if_pos (by simp only [Bool.and_eq_true, decide_eq_true_eq]; omega)]
  ·rw [if_neg h, if_neg (by simp only [Bool.and_eq_true, decide_eq_true_eq]; omega)]
 ·by_cases h3 : k = 3
  ·subst h3
   rw [if_neg h2, if_pos rfl, if_pos (show (3 : Int) = 2 ∨ (3 : Int) = 3 from .inr rfl)]
   rfl
  ·rw [if_neg h2, if_neg h3, if_neg (by omega)]
def splitR (k n : Int) : Int × Int := if k = 2 then (n, 0) else if n.tmod 10000 < 0 then (wr (wr (n.tdiv 10000) - 1), wr (n.tmod 10000 + 10000)) else (wr (n.tdiv 10000), n.tmod 10000)
def numR (k0 n0 k1 n1 : Int) : Int := if A131.cmpI (splitR k0 n0).1 (splitR k1 n1).1 ≠ 0 then A131.cmpI (splitR k0 n0).1 (splitR k1 n1).1 else A131.cmpI (splitR k0 n0).2 (splitR k1 n1).2
def textR (a b : List UInt8) : Int := if ltU a b = true then -1 else if ltU b a = true then 1 else 0
def isNum (k : Int) : Bool := k == 2 || k == 3
def compareR (k0 n0 : Int) (s0 : ByteArray) (k1 n1 : Int) (s1 : ByteArray) : Int × Bool :=
 if isNum k0 = true ∧ isNum k1 = true then (numR k0 n0 k1 n1, true) else if k0 = 4 ∧ k1 = 4 then (textR s0.data.toList s1.data.toList, true) else if k0 = 1 ∧ k1 = 1 then (A131.cmpI n0 n1, true) else (0, false)
def conv (kind : Int) (v : W3) : W3 := bif kind == 3 then (A75.decV v.1 v.2.1).1 else v
def err (kind : Int) (v : W3) : Bool := kind == 3 && (v.1 != 0 && (A75.decV v.1 v.2.1).2 != 0)
end
section
open Go Go.Proofs.YtaiokpmmjbiajaaGreatDoorDx.Fit
def roundR (s : ByteArray) (n : Int) : Int :=
 bif eqU s.data.toList [102, 108, 111, 111, 114] then (bif decide (n.tmod 10000 < 0) then wr (wr (n.tdiv 10000) - 1) else wr (n.tdiv 10000)) else
 bif eqU s.data.toList [99, 101, 105, 108] then (bif decide (n.tmod 10000 > 0) then wr (wr (n.tdiv 10000) + 1) else wr (n.tdiv 10000)) else
 bif eqU s.data.toList [114, 111, 117, 110, 100] then (bif decide (n.tmod 10000 ≥ 5000) then (bif decide (n.tmod 10000 ≤ -5000) then wr (wr (wr (n.tdiv 10000) + 1) - 1) else wr (wr (n.tdiv 10000) + 1)) else (bif decide (n.tmod 10000 ≤ -5000) then wr (wr (n.tdiv 10000) - 1) else wr (n.tdiv 10000))) else
 wr (n.tdiv 10000)
end
section
open Go Go.Proofs.YtaiokpmmjbiajaaGreatDoorDx.Fit Go.Proofs.YtaiokpmmjbiajaaGreatDoorU8 Go.Proofs.YtaiokpmmjbiajaaGreatDoorTxt
theorem take_all {p : UInt8 → Bool} : ∀ {t r : List UInt8}, t.all p = true → (∀ b r', r = b :: r' → p b = false) → (t ++ r).takeWhile p = t ∧ (t ++ r).dropWhile p = r
 | [], r, _, hr => by
  cases r with
  | nil => exact ⟨rfl, rfl⟩
  | cons b r' =>
   have := hr b r' rfl
   simp [List.takeWhile, List.dropWhile, this]
 | x :: t, r, h, hr => by
  simp only [List.all_cons, Bool.and_eq_true] at h
  obtain ⟨a, b⟩ := take_all h.2 hr
  simp only [List.cons_append, List.takeWhile, List.dropWhile, h.1, a, b]
  exact ⟨trivial, trivial⟩
def same (a b : W3) : Bool := A35.tru (bif a.1 == 0 || b.1 == 0 then 0 else 1) (bif (compareR a.1 a.2.1 a.2.2 b.1 b.2.1 b.2.2).2 && (compareR a.1 a.2.1 a.2.2 b.1 b.2.1 b.2.2).1 == 0 then 1 else 0)
end
end Go.Proofs.YtaiokpmmjbiajaaGreatDoorDx.Ref
namespace Go.Proofs.YtaiokpmmjbiajaaGreatDoorDx.Ari
section
open Go Go.Proofs Go.Proofs.YtaiokpmmjbiajaaGreatDoorDx.Fit
def bad (k : Int) : Bool := !(k == 0 || (k == 2 || k == 3))
def ofV (k : Int) (p : Int × Bool) : W3 × Int := bif p.2 then ((k, p.1, ⟨#[]⟩), 0) else (v0, 20)
def addI (a b : Int) : Int × Bool := (IntKind.wrap .i64 (a + b), !(decide (a < 0) == decide (b < 0)) || (decide (IntKind.wrap .i64 (a + b) < 0) == decide (a < 0)))
def subI (a b : Int) : Int × Bool := (IntKind.wrap .i64 (a - b), (decide (a < 0) == decide (b < 0)) || (decide (IntKind.wrap .i64 (a - b) < 0) == decide (a < 0)))
def twoV (f : Int → Int → Int × Bool) (a b : W3) : W3 × Int :=
 bif bad a.1 || bad b.1 then (v0, 22) else bif a.1 == 0 || b.1 == 0 then (v0, 0) else
 bif a.1 == 2 && b.1 == 2 then ofV 2 (f a.2.1 b.2.1) else
 bif (A127.dec a.1 a.2.1).2 && (A127.dec b.1 b.2.1).2 then ofV 3 (f (A127.dec a.1 a.2.1).1 (A127.dec b.1 b.2.1).1) else (v0, 20)
theorem kinds (k : Int) : k = 0 ∨ k = 2 ∨ k = 3 ∨ (bad k = true ∧ (k == 0) = false ∧ (k == 2) = false ∧ (k == 3) = false ∧ (k != 0) = true) := by
 by_cases h0 : k = 0
 ·exact .inl h0
 by_cases h2 : k = 2
 ·exact .inr (.inl h2)
 by_cases h3 : k = 3
 ·exact .inr (.inr (.inl h3))
 have e0 := beq_eq_false_iff_ne.2 h0
 have e2 := beq_eq_false_iff_ne.2 h2
 have e3 := beq_eq_false_iff_ne.2 h3
 exact .inr (.inr (.inr ⟨by unfold bad; rw [e0, e2, e3]; rfl, e0, e2, e3, bne_iff_ne.2 h0⟩))
def _root_.Go.Proofs.YtaiokpmmjbiajaaGreatDoorDx.Ref.firstV (k k' n' : Int) (div : Bool) : Int × Bool :=
 bif bad k || bad k' then (22, true) else bif k == 0 || k' == 0 then (0, true) else bif div && n' == 0 then (21, true) else (0, false)
def _root_.Go.Proofs.YtaiokpmmjbiajaaGreatDoorDx.Ref.decR (k n : Int) : Int × Bool := bif k == 3 then (n, true) else (IntKind.wrap .i64 (n * 10000), decide (n ≤ 922337203685477) && decide (n ≥ -922337203685477))
def _root_.Go.Proofs.YtaiokpmmjbiajaaGreatDoorDx.Ref.sumR (a b : Int) : Int × Bool := (IntKind.wrap .i64 (a + b), !(decide (a > 0) && (decide (b > 0) && decide (IntKind.wrap .i64 (a + b) < 0))) && !(decide (a < 0) && (decide (b < 0) && decide (IntKind.wrap .i64 (a + b) ≥ 0))))
def _root_.Go.Proofs.YtaiokpmmjbiajaaGreatDoorDx.Ref.diffR (a b : Int) : Int × Bool := (IntKind.wrap .i64 (a - b), !(decide (a ≥ 0) && (decide (b < 0) && decide (IntKind.wrap .i64 (a - b) < 0))) && !(decide (a < 0) && (decide (b > 0) && decide (IntKind.wrap .i64 (a - b) ≥ 0))))
def _root_.Go.Proofs.YtaiokpmmjbiajaaGreatDoorDx.Ref.zeroV (k k' n' : Int) : Bool × Int := bif bad k || bad k' then (false, 22) else bif k == 0 || k' == 0 then (true, 0) else bif n' == 0 then (false, 21) else (false, 0)
def refTwo (g : Int → Int → Int × Bool) (a b : W3) : W3 × Int :=
 bif (Ref.firstV a.1 b.1 b.2.1 false).2 then (v0, (Ref.firstV a.1 b.1 b.2.1 false).1) else
 bif a.1 == 2 && b.1 == 2 then ofV 2 (g a.2.1 b.2.1) else
 bif (Ref.decR a.1 a.2.1).2 && (Ref.decR b.1 b.2.1).2 then ofV 3 (g (Ref.decR a.1 a.2.1).1 (Ref.decR b.1 b.2.1).1) else (v0, 20)
theorem in_iff {n : Int} : inR n = true ↔ -9223372036854775808 ≤ n ∧ n < 9223372036854775808 := by
 unfold inR
 rw [Bool.and_eq_true, decide_eq_true_eq, decide_eq_true_eq]
theorem dec_eq {k n : Int} (hk : k = 2 ∨ k = 3) (hn : inR n = true) : (A127.dec k n).2 = (Ref.decR k n).2 ∧ ((Ref.decR k n).2 = true → (A127.dec k n).1 = (Ref.decR k n).1 ∧ inR (Ref.decR k n).1 = true) := by
 have h1 := in_iff.1 hn
 rcases hk with rfl | rfl
 ·have e1 : A127.dec 2 n = A127i.dec n := rfl
  have e2 : Ref.decR 2 n = (IntKind.wrap .i64 (n * 10000), decide (n ≤ 922337203685477) && decide (n ≥ -922337203685477)) := rfl
  rw [e1, e2]
  unfold A127i.dec
  dsimp only
  refine ⟨?_, fun h => ?_⟩
  ·rw [Bool.eq_iff_iff]
   simp only [Bool.and_eq_true, decide_eq_true_eq]
   omega
  ·simp only [Bool.and_eq_true, decide_eq_true_eq] at h
   rw [if_neg (by omega)]
   exact ⟨rfl, in_iff.2 (by rw [IntKind.wrap_i64]; omega)⟩
 ·exact ⟨rfl, fun _ => ⟨rfl, hn⟩⟩
def rem (a b : Int) : Int := bif b != -1 then Int.tmod a b else 0
def refModV (a b : W3) : W3 × Int :=
 bif (Ref.firstV a.1 b.1 b.2.1 true).2 then (v0, (Ref.firstV a.1 b.1 b.2.1 true).1) else
 bif a.1 == 3 || b.1 == 3 then (bif (Ref.decR a.1 a.2.1).2 && (Ref.decR b.1 b.2.1).2 then ((3, rem (Ref.decR a.1 a.2.1).1 (Ref.decR b.1 b.2.1).1, ⟨#[]⟩), 0) else (v0, 20)) else ((2, rem a.2.1 b.2.1, ⟨#[]⟩), 0)
theorem first_ne {k k' n' : Int} (h : (Ref.firstV k k' n' true).2 = false) : n' ≠ 0 := by
 unfold Ref.firstV at h
 intro e
 subst e
 cases h1 : bad k || bad k' <;> rw [h1] at h
 ·cases h2 : k == 0 || k' == 0 <;> rw [h2] at h
  ·cases h
  ·cases h
 ·cases h
theorem dec_ne {k n : Int} (hn : n ≠ 0) (h : (Ref.decR k n).2 = true) : (Ref.decR k n).1 ≠ 0 := by
 unfold Ref.decR at h ⊢
 cases hk : k == 3 <;> rw [hk] at h
 ·simp only [cond_false, Bool.and_eq_true, decide_eq_true_eq] at h ⊢
  rw [IntKind.wrap_i64]; omega
 ·exact hn
def left (a b : Int) : Int × Bool := (rem a b, true)
def modV (a b : W3) : W3 × Int :=
 bif (Ref.zeroV a.1 b.1 b.2.1).2 != 0 then (v0, (Ref.zeroV a.1 b.1 b.2.1).2) else bif (Ref.zeroV a.1 b.1 b.2.1).1 then (v0, (Ref.zeroV a.1 b.1 b.2.1).2) else twoV left a b
theorem zero_ne {k k' n' : Int} (h1 : (Ref.zeroV k k' n').1 = false) (h2 : ((Ref.zeroV k k' n').2 != 0) = false) : n' ≠ 0 := by
 unfold Ref.zeroV at h1 h2
 intro e
 subst e
 cases h3 : bad k || bad k' <;> rw [h3] at h1 h2
 ·cases h4 : k == 0 || k' == 0 <;> rw [h4] at h1 h2
  ·cases h2
  ·cases h1
 ·cases h2
theorem dec_ne' {k n : Int} (hk : k = 2 ∨ k = 3) (hi : inR n = true) (hn : n ≠ 0) (h : (A127.dec k n).2 = true) : (A127.dec k n).1 ≠ 0 := by
 obtain ⟨d1, d2⟩ := dec_eq hk hi
 rw [d1] at h
 rw [(d2 h).1]
 exact dec_ne hn h
def _root_.Go.Proofs.YtaiokpmmjbiajaaGreatDoorDx.Ref.lgc (v : W3) : Int := bif v.1 != 1 then 0 else bif v.2.1 != 0 then 1 else -1
def _root_.Go.Proofs.YtaiokpmmjbiajaaGreatDoorDx.Ref.toldV (c : Int) : W3 := bif c == 0 then v0 else bif c == 1 then (1, 1, ⟨#[]⟩) else (1, 0, ⟨#[]⟩)
def _root_.Go.Proofs.YtaiokpmmjbiajaaGreatDoorDx.Ref.notV (a : W3) : W3 := Ref.toldV (-(Ref.lgc a))
def _root_.Go.Proofs.YtaiokpmmjbiajaaGreatDoorDx.Ref.andV (a b : W3) : W3 := Ref.toldV (min (Ref.lgc a) (Ref.lgc b))
def _root_.Go.Proofs.YtaiokpmmjbiajaaGreatDoorDx.Ref.orV (a b : W3) : W3 := Ref.toldV (max (Ref.lgc a) (Ref.lgc b))
def _root_.Go.Proofs.YtaiokpmmjbiajaaGreatDoorDx.Ref.truthV (b : Bool) : W3 := bif b then (1, 1, ⟨#[]⟩) else (1, 0, ⟨#[]⟩)
def _root_.Go.Proofs.YtaiokpmmjbiajaaGreatDoorDx.Ref.cmpV (s : ByteArray) (p : Int × Bool) : W3 :=
 bif !p.2 then v0 else bif eqU s.data.toList [60] then Ref.truthV (decide (p.1 < 0)) else bif eqU s.data.toList [60, 61] then Ref.truthV (decide (p.1 ≤ 0)) else bif eqU s.data.toList [62] then Ref.truthV (decide (p.1 > 0)) else Ref.truthV (decide (p.1 ≥ 0))
end
end Go.Proofs.YtaiokpmmjbiajaaGreatDoorDx.Ari
namespace Go.Proofs.YtaiokpmmjbiajaaGreatDoorDx
section
open Go Go.Proofs
def oo (p : O6) : Value := .agg #[.int .i64 p.1, .int .i64 p.2.1, .string p.2.2.1, .int .i64 p.2.2.2.1, .int .i64 p.2.2.2.2.1, .string p.2.2.2.2.2]
def oOf (a : AA) : Option O6 := match a with
 | .v (.agg ⟨[.int .i64 k, .int .i64 n, .string t, .int .i64 vk, .int .i64 vn, .string vs]⟩) => some (k, n, t, vk, vn, vs)
 | _ => none
theorem oOf_ok {a : AA} {p : O6} (h : oOf a = some p) : a = .v (oo p) := by
 unfold oOf at h
 split at h
 ·cases h; rfl
 ·cases h
def Ref.asksV (k n : Int) : Int × Int :=
 bif k == 1 || (k == 2 || k == 9) then (0, 1) else bif k == 3 || (k == 5 || k == 10) then (1, 1) else bif k == 4 then (2, 1) else bif k == 6 then (n, 1) else bif k == 8 then (1, 0) else (0, 0)
def Ref.needsV (k n : Int) : Int × Int :=
 bif k == 1 || (k == 2 || k == 9) then (0, 1) else bif k == 3 || (k == 5 || k == 10) then (1, 0) else bif k == 4 then (2, -1) else bif k == 6 then (n, IntKind.wrap .i64 (1 - n)) else bif k == 8 then (1, -1) else (0, 0)
theorem eqU_comm : ∀ a b : List UInt8, eqU a b = eqU b a
 | [], [] => rfl
 | [], _ :: _ => rfl
 | _ :: _, [] => rfl
 | x :: a, y :: b => by
  rw [eqU, eqU, eqU_comm a b]
  congr 1
  cases h : Nat.beq y.toNat x.toNat
  ·cases h' : Nat.beq x.toNat y.toNat
   ·rfl
   ·have := Nat.eq_of_beq_eq_true h'
    rw [this, Nat.beq_refl] at h; cases h
  ·have := Nat.eq_of_beq_eq_true h
   rw [this, Nat.beq_refl]
def Ref.opIn (t : ByteArray) : Bool := eqU t.data.toList [43] || (eqU t.data.toList [45] || (eqU t.data.toList [42] || (eqU t.data.toList [47] || (eqU t.data.toList [37] || (eqU t.data.toList [61] || (eqU t.data.toList [33, 61] || (eqU t.data.toList [60] || (eqU t.data.toList [60, 61] || (eqU t.data.toList [62] || (eqU t.data.toList [62, 61] || (eqU t.data.toList [97, 110, 100] || eqU t.data.toList [111, 114])))))))))))
def Ref.mayV (k n : Int) (t : ByteArray) (at_ len lf la : Int) : Bool :=
 bif k == 1 || k == 10 then true else bif k == 2 then decide (n ≥ 0) && decide (n < lf) else bif k == 9 then decide (n ≥ 0) && decide (n < la) else
 bif k == 3 then eqU t.data.toList [45] || eqU t.data.toList [110, 111, 116] else bif k == 4 then Ref.opIn t else bif k == 5 then n == 0 || n == 1 else
 bif k == 6 then decide (n ≥ 0) && decide (n ≤ 1024) else bif k == 7 || k == 8 then decide (n > at_) && decide (n ≤ len) else false
end
section
open Go
set_option linter.unusedSectionVars false
section
variable {P : Program} {La : World → Prop} {n0 : Nat} {l : List (FuncId × Spec)} {L : List LpK}
end
end
end Go.Proofs.YtaiokpmmjbiajaaGreatDoorDx
section
namespace Go.Proofs.YtaiokpmmjbiajaaGreatDoorDx.AHei
open Go
theorem ins_ints (h : Int) : ∀ (l : List Int) (j : Nat), j < l.length → ins (ints .i64 l) j (.int .i64 h) = ints .i64 (l.set j h)
 | [], j, hj => by simp at hj
 | x :: l, 0, hj => rfl
 | x :: l, j + 1, hj => by
  show (bif Nat.beq (j + 1) 0 then _ else (Value.int .i64 x) :: ins (ints .i64 l) (j + 1 - 1) (.int .i64 h)) = _
  rw [Nat.add_sub_cancel, ins_ints h l j (by simpa using hj)]; rfl
theorem puts_ints {l : List Int} {j : Nat} (hj : j < l.length) (h : Int) : puts (ints .i64 l) j [.int .i64 h] = ints .i64 (l.set j h) := by
 show puts (ins (ints .i64 l) j (.int .i64 h)) (j + 1) [] = _
 rw [ins_ints h l j hj]; rfl
def put (t : List Int) (j : Nat) (h : Int) : Option (List Int) := bif decide (t.getD j 0 < 0) then some (t.set j h) else bif t.getD j 0 == h then some t else none
def step (N lf la : Int) (s : List Int × Int) (i : Nat) (o : O6) : Option (List Int × Int) :=
 bif decide (s.1.getD i 0 < 0) || (!Ref.mayV o.1 o.2.1 o.2.2.1 i N lf la || (decide (s.1.getD i 0 < (Ref.needsV o.1 o.2.1).1) || decide (s.1.getD i 0 + (Ref.needsV o.1 o.2.1).2 > 1024))) then none else
 ((bif o.1 == 7 || o.1 == 8 then put s.1 o.2.1.toNat (s.1.getD i 0 + (Ref.needsV o.1 o.2.1).2) else some s.1).bind fun t => bif o.1 == 7 then some t else put t (i + 1) (s.1.getD i 0 + (Ref.needsV o.1 o.2.1).2)).map fun t => (t, max s.2 (s.1.getD i 0 + (Ref.needsV o.1 o.2.1).2))
def run (N lf la : Int) : Nat → List O6 → List Int × Int → Option (List Int × Int)
 | _, [], s => some s
 | i, o :: l, s => (step N lf la s i o).bind (run N lf la (i + 1) l)
structure Good (n : Nat) (s : List Int × Int) : Prop where
 len : s.1.length = n + 1
 le : ∀ x ∈ s.1, -1 ≤ x ∧ x ≤ 1024
 m0 : 0 ≤ s.2
 m1 : s.2 ≤ 1024
theorem getD_mem {l : List Int} {j : Nat} (h : j < l.length) : l.getD j 0 ∈ l := by
 rw [List.getD_eq_getElem?_getD, List.getElem?_eq_getElem h]; exact List.getElem_mem h
theorem put_good {n : Nat} {t t' : List Int} {j : Nat} {h : Int} (hl : t.length = n + 1) (hle : ∀ x ∈ t, -1 ≤ x ∧ x ≤ 1024) (h0 : 0 ≤ h) (h1 : h ≤ 1024) (e : put t j h = some t') : t'.length = n + 1 ∧ ∀ x ∈ t', -1 ≤ x ∧ x ≤ 1024 := by
 unfold put at e
 cases h2 : decide (t.getD j 0 < 0) <;> rw [h2] at e
 ·cases h3 : t.getD j 0 == h <;> rw [h3] at e
  ·cases e
  ·cases e; exact ⟨hl, hle⟩
 ·cases e
  refine ⟨by simpa using hl, fun x hx => ?_⟩
  rcases List.mem_or_eq_of_mem_set hx with hx | rfl
  ·exact hle x hx
  ·omega
theorem needs_ok {k n : Int} (hn : k = 6 → 0 ≤ n ∧ n ≤ 1024) : 0 ≤ (Ref.needsV k n).1 ∧ (Ref.needsV k n).1 ≤ 1024 ∧ 0 ≤ (Ref.needsV k n).1 + (Ref.needsV k n).2 ∧ (Ref.needsV k n).1 + (Ref.needsV k n).2 ≤ 1 := by
 unfold Ref.needsV
 cases k == 1 || (k == 2 || k == 9)
 rotate_left
 ·simp only [cond_true, cond_false]; omega
 cases k == 3 || (k == 5 || k == 10)
 rotate_left
 ·simp only [cond_true, cond_false]; omega
 cases k == 4
 rotate_left
 ·simp only [cond_true, cond_false]; omega
 cases h6 : k == 6
 rotate_left
 ·obtain ⟨a, b⟩ := hn (beq_iff_eq.1 h6)
  simp only [cond_true, cond_false]
  rw [wrap_in (by omega) (by omega)]
  omega
 cases k == 8 <;> (simp only [cond_true, cond_false]; omega)
theorem may6 {k n : Int} {t : ByteArray} {i N lf la : Int} (h : Ref.mayV k n t i N lf la = true) (hk : k = 6) : 0 ≤ n ∧ n ≤ 1024 := by
 subst hk
 unfold Ref.mayV at h
 simp only [show ((6 : Int) == 1 || (6 : Int) == 10) = false from rfl, show ((6 : Int) == 2) = false from rfl, show ((6 : Int) == 9) = false from rfl, show ((6 : Int) == 3) = false from rfl, show ((6 : Int) == 4) = false from rfl, show ((6 : Int) == 5) = false from rfl, show ((6 : Int) == 6) = true from rfl, cond_true, cond_false, Bool.and_eq_true, decide_eq_true_eq] at h
 omega
theorem may78 {k n : Int} {t : ByteArray} {i N lf la : Int} (h : Ref.mayV k n t i N lf la = true) (hk : k = 7 ∨ k = 8) : i < n ∧ n ≤ N := by
 unfold Ref.mayV at h
 rcases hk with rfl | rfl
 ·simp only [show ((7 : Int) == 1 || (7 : Int) == 10) = false from rfl, show ((7 : Int) == 2) = false from rfl, show ((7 : Int) == 9) = false from rfl, show ((7 : Int) == 3) = false from rfl, show ((7 : Int) == 4) = false from rfl, show ((7 : Int) == 5) = false from rfl, show ((7 : Int) == 6) = false from rfl, show ((7 : Int) == 7 || (7 : Int) == 8) = true from rfl, cond_true, cond_false, Bool.and_eq_true, decide_eq_true_eq] at h
  omega
 ·simp only [show ((8 : Int) == 1 || (8 : Int) == 10) = false from rfl, show ((8 : Int) == 2) = false from rfl, show ((8 : Int) == 9) = false from rfl, show ((8 : Int) == 3) = false from rfl, show ((8 : Int) == 4) = false from rfl, show ((8 : Int) == 5) = false from rfl, show ((8 : Int) == 6) = false from rfl, show ((8 : Int) == 7 || (8 : Int) == 8) = true from rfl, cond_true, cond_false, Bool.and_eq_true, decide_eq_true_eq] at h
  omega
theorem step_good {N lf la : Int} {n : Nat} {s s' : List Int × Int} {i : Nat} {o : O6} (h : Good n s) (e : step N lf la s i o = some s') : Good n s' := by
 unfold step at e
 cases hc : decide (s.1.getD i 0 < 0) || (!Ref.mayV o.1 o.2.1 o.2.2.1 i N lf la || (decide (s.1.getD i 0 < (Ref.needsV o.1 o.2.1).1) || decide (s.1.getD i 0 + (Ref.needsV o.1 o.2.1).2 > 1024))) <;> rw [hc] at e
 rotate_left
 ·cases e
 simp only [Bool.or_eq_false_iff, Bool.not_eq_false', decide_eq_false_iff_not] at hc
 obtain ⟨c1, c2, c3, c4⟩ := hc
 obtain ⟨n1, n2, n3, n4⟩ := needs_ok (k := o.1) (n := o.2.1) (may6 c2)
 have h0 : 0 ≤ s.1.getD i 0 + (Ref.needsV o.1 o.2.1).2 := by omega
 have h1 : s.1.getD i 0 + (Ref.needsV o.1 o.2.1).2 ≤ 1024 := by omega
 generalize s.1.getD i 0 + (Ref.needsV o.1 o.2.1).2 = g at *
 simp only [cond_false] at e
 obtain ⟨t2, e2, rfl⟩ := Option.map_eq_some_iff.1 e
 obtain ⟨t1, e1, e3⟩ := opt_bind e2
 have p1 : t1.length = n + 1 ∧ ∀ x ∈ t1, -1 ≤ x ∧ x ≤ 1024 := by
  cases q : o.1 == 7 || o.1 == 8 <;> rw [q] at e1
  ·cases e1; exact ⟨h.len, h.le⟩
  ·exact put_good h.len h.le h0 h1 e1
 have p2 : t2.length = n + 1 ∧ ∀ x ∈ t2, -1 ≤ x ∧ x ≤ 1024 := by
  cases q : o.1 == 7 <;> rw [q] at e3
  ·exact put_good p1.1 p1.2 h0 h1 e3
  ·cases e3; exact p1
 have := h.m0; have := h.m1
 exact ⟨p2.1, p2.2, by show 0 ≤ max s.2 g; omega, by show max s.2 g ≤ 1024; omega⟩
def first (n : Nat) : List Int := 0 :: List.replicate n (-1)
theorem first_good (n : Nat) : Good n (first n, 0) := by
 refine ⟨by simp [first], fun x hx => ?_, Int.le_refl 0, (by show (0 : Int) ≤ 1024; omega)⟩
 rcases List.mem_cons.1 hx with rfl | hx
 ·omega
 ·have := (List.mem_replicate.1 hx).2; omega
def tall (N lf la : Int) (l : List O6) (s : List Int × Int) : List Int := ((run N lf la 0 l s).map (·.1)).getD []
def most (N lf la : Int) (l : List O6) (s : List Int × Int) : Int := ((run N lf la 0 l s).map (·.2)).getD 0
def fine (N lf la : Int) (l : List O6) (s : List Int × Int) : Bool := (run N lf la 0 l s).isSome
end Go.Proofs.YtaiokpmmjbiajaaGreatDoorDx.AHei
namespace Go.Proofs.YtaiokpmmjbiajaaGreatDoorDx.AHei
open Go
def isM1 : Nat → List Value → Bool
 | 0, [] => true
 | n + 1, .int .i64 (-1) :: l => isM1 n l
 | _, _ => false
theorem isM1_ok : ∀ {n : Nat} {l : List Value}, isM1 n l = true → l = ints .i64 (List.replicate n (-1))
 | 0, [], _ => rfl
 | n + 1, .int .i64 (-1) :: l, h => by
  have := isM1_ok (n := n) (l := l) h
  rw [this]; rfl
def rowM (m : Nat) : List Value := ints .i64 (List.replicate m (-1))
def isF (n : Nat) : List Value → Bool
 | .int .i64 0 :: l => isM1 n l
 | _ => false
theorem isF_ok {n : Nat} {l : List Value} (h : isF n l = true) : l = ints .i64 (first n) := by
 unfold isF at h
 split at h
 ·rw [isM1_ok h]; rfl
 ·cases h
theorem isM1_of : ∀ n : Nat, isM1 n (ints .i64 (List.replicate n (-1))) = true
 | 0 => rfl
 | n + 1 => isM1_of n
theorem isF_of (n : Nat) : isF n (puts (rowM (n + 1)) 0 [.int .i64 0]) = true := isM1_of n
theorem run_good {N lf la : Int} {n : Nat} : ∀ {l : List O6} {i : Nat} {s t : List Int × Int}, Good n s → run N lf la i l s = some t → Good n t
 | [], i, s, t, h, e => by cases e; exact h
 | o :: l, i, s, t, h, e => by
  unfold run at e
  obtain ⟨u, e1, e2⟩ := opt_bind e
  exact run_good (step_good h e1) e2
def heights (lf la : Int) (l : List O6) : Int × Bool :=
 bif (l.length : Int) == 0 then (0, false) else bif decide ((l.length : Int) > 4096) then (0, false) else
 bif fine l.length lf la l (first l.length, 0) then (most l.length lf la l (first l.length, 0), (tall l.length lf la l (first l.length, 0)).getD l.length 0 == 1) else (0, false)
theorem tall_len {lf la : Int} {l : List O6} (h : fine l.length lf la l (first l.length, 0) = true) : (tall l.length lf la l (first l.length, 0)).length = l.length + 1 := by
 unfold fine at h
 unfold tall
 cases e : run l.length lf la 0 l (first l.length, 0) with
 | none => rw [e] at h; cases h
 | some t => exact (run_good (first_good _) e).len
end Go.Proofs.YtaiokpmmjbiajaaGreatDoorDx.AHei
end
namespace Go.Proofs.YtaiokpmmjbiajaaGreatDoorDx
section
open Go Go.Proofs
namespace A60L0N
noncomputable def cfg : Cfg := cfgK Tryz.prog 4 (gpT []) (ltT 4 [])
def stA (n : Nat) (lf la k i : Int) : KX := ⟨[(0, .slice (some ⟨0, 0, none⟩) n 6), (1, .int .i64 lf), (2, .int .i64 la), (7, .int .i64 k), (8, .slice none 0 0), (9, .int .i64 i)], []⟩
def kp : Ex → List Nat
 | .normal => [0, 1, 2, 7, 8, 9]
 | .exit _ => [0, 1, 2, 7, 8]
 | _ => []
def cr : Ex → St → List (Nat × Bool) := fun e s => match e with
 | .ret => []
 | _ => match s.T.get 8 with
  | some (.slice (some q) _ _) => [(q.block, true)]
  | _ => []
set_option maxRecDepth 1000000 in
theorem round (n : Nat) (lf la k i : Int)  : rndK cfg [] [] 60 0 (stK 148 4 [] (stA n lf la k i)) (endK 4 100 148 kp cr) = ((bif decide (i ≤ k) then (some (.normal, ⟨[(0, .slice (some ⟨0, 0, none⟩) n 6), (1, .int .i64 lf), (2, .int .i64 la), (7, .int .i64 k), (8, .slice (some ⟨4, 0, none⟩) 1 1), (9, .int .i64 (IntKind.wrap .i64 (i + 1)))], [[.int .i64 (-1)]]⟩)) else (some (.exit 0, ⟨[(0, .slice (some ⟨0, 0, none⟩) n 6), (1, .int .i64 lf), (2, .int .i64 la), (7, .int .i64 k), (8, .slice none 0 0)], []⟩)))) := by kernel_rfl
end A60L0N
end
section
open Go Go.Proofs
namespace A60L0R
noncomputable def cfg : Cfg := cfgK Tryz.prog 4 (gpT []) (ltT 4 [])
def stA (n : Nat) (lf la k i : Int) (m : Nat) (row : List Value) : KX := ⟨[(0, .slice (some ⟨0, 0, none⟩) n 6), (1, .int .i64 lf), (2, .int .i64 la), (7, .int .i64 k), (8, .slice (some ⟨4, 0, none⟩) m 1), (9, .int .i64 i)], [row]⟩
def kp : Ex → List Nat
 | .normal => [0, 1, 2, 7, 8, 9]
 | .exit _ => [0, 1, 2, 7, 8]
 | _ => []
def cr : Ex → St → List (Nat × Bool) := fun e s => match e with
 | .ret => []
 | _ => match s.T.get 8 with
  | some (.slice (some q) _ _) => [(q.block, true)]
  | _ => []
set_option maxRecDepth 1000000 in
theorem round (n : Nat) (lf la k i : Int) (m : Nat) (row : List Value)  : rndK cfg [] [] 60 0 (stK 148 4 [] (stA n lf la k i m row)) (endK 4 100 148 kp cr) = ((bif decide (i ≤ k) then (bif Nat.ble (m + 1) 140737488355328 then (bif Nat.ble ((m + 1) * 8) 140737488355328 then (bif Nat.ble (0 + (m * 1)) (row).length then (bif (((((((row).drop 0)).take (m * 1)) ++ [Value.int .i64 (-1)])).all scalV && true) then (some (.normal, ⟨[(0, .slice (some ⟨0, 0, none⟩) n 6), (1, .int .i64 lf), (2, .int .i64 la), (7, .int .i64 k), (8, .slice (some ⟨4, 0, none⟩) (m + 1) 1), (9, .int .i64 (IntKind.wrap .i64 (i + 1)))], [(((((row).drop 0)).take (m * 1)) ++ [Value.int .i64 (-1)])]⟩)) else none) else none) else none) else none) else (bif ((row).all scalV && true) then (some (.exit 0, ⟨[(0, .slice (some ⟨0, 0, none⟩) n 6), (1, .int .i64 lf), (2, .int .i64 la), (7, .int .i64 k), (8, .slice (some ⟨4, 0, none⟩) m 1)], [row]⟩)) else none))) := by kernel_rfl
end A60L0R
end
end Go.Proofs.YtaiokpmmjbiajaaGreatDoorDx
namespace Go.Proofs.YtaiokpmmjbiajaaGreatDoorDx.AHei
section
open Go
def putR (t : List Int) (j : Nat) (h : Int) : Option (List Int) := bif decide (t.getD j 0 ≥ 0) && (t.getD j 0 != h) then none else some (t.set j h)
def stepR (N lf la : Int) (s : List Int × Int) (i : Nat) (o : O6) : Option (List Int × Int) :=
 bif !Ref.mayV o.1 o.2.1 o.2.2.1 i N lf la || (decide (s.1.getD i 0 < (Ref.asksV o.1 o.2.1).1) || decide (s.1.getD i 0 - (Ref.asksV o.1 o.2.1).1 + (Ref.asksV o.1 o.2.1).2 > 1024)) then none else
 ((bif o.1 == 7 then some s.1 else putR s.1 (i + 1) (s.1.getD i 0 - (Ref.asksV o.1 o.2.1).1 + (Ref.asksV o.1 o.2.1).2)).bind fun t => bif o.1 == 7 || o.1 == 8 then putR t o.2.1.toNat (s.1.getD i 0 - (Ref.asksV o.1 o.2.1).1 + (Ref.asksV o.1 o.2.1).2) else some t).map fun t => (t, max s.2 (s.1.getD i 0 - (Ref.asksV o.1 o.2.1).1 + (Ref.asksV o.1 o.2.1).2))
theorem asks_ok {k n : Int} (hn : k = 6 → 0 ≤ n ∧ n ≤ 1024) : (Ref.asksV k n).1 = (Ref.needsV k n).1 ∧ (Ref.asksV k n).2 = (Ref.needsV k n).1 + (Ref.needsV k n).2 := by
 unfold Ref.needsV Ref.asksV
 cases k == 1 || (k == 2 || k == 9)
 rotate_left
 ·exact ⟨rfl, rfl⟩
 cases k == 3 || (k == 5 || k == 10)
 rotate_left
 ·exact ⟨rfl, rfl⟩
 cases k == 4
 rotate_left
 ·exact ⟨rfl, rfl⟩
 cases h6 : k == 6
 rotate_left
 ·obtain ⟨a, b⟩ := hn (beq_iff_eq.1 h6)
  simp only [cond_true, cond_false]
  rw [wrap_in (by omega) (by omega)]
  exact ⟨trivial, by omega⟩
 cases k == 8 <;> exact ⟨rfl, rfl⟩
theorem putR_eq (t : List Int) (j : Nat) (g : Int) : putR t j g = put t j g := by
 unfold putR put
 by_cases h : t.getD j 0 < 0
 ·rw [decide_eq_true h, decide_eq_false (show ¬ t.getD j 0 ≥ 0 by omega)]; rfl
 ·rw [decide_eq_false h, decide_eq_true (show t.getD j 0 ≥ 0 by omega)]
  cases e : t.getD j 0 == g
  ·rw [bne, e]; rfl
  ·rw [bne, e]
   simp only [Bool.true_and, Bool.not_true, cond_false, cond_true]
   have e := beq_iff_eq.1 e
   congr 1
   rcases Nat.lt_or_ge j t.length with hj | hj
   ·rw [List.getD_eq_getElem?_getD, List.getElem?_eq_getElem hj] at e
    have e : t[j] = g := e
    rw [← e, List.set_getElem_self]
   ·rw [List.set_eq_of_length_le hj]
theorem getD_set_ne {t : List Int} {a b : Nat} {g : Int} (h : a ≠ b) : (t.set a g).getD b 0 = t.getD b 0 := by
 rw [List.getD_eq_getElem?_getD, List.getD_eq_getElem?_getD, List.getElem?_set_ne h]
theorem put_comm (t : List Int) (a b : Nat) (g : Int) : (put t a g).bind (fun t => put t b g) = (put t b g).bind fun t => put t a g := by
 by_cases hab : a = b
 ·subst hab; rfl
 unfold put
 cases h1 : decide (t.getD a 0 < 0) <;> cases h2 : decide (t.getD b 0 < 0) <;> cases h3 : t.getD a 0 == g <;> cases h4 : t.getD b 0 == g <;>
  simp only [cond_true, cond_false, Option.bind_some, Option.bind_none, getD_set_ne hab, getD_set_ne (fun e => hab e.symm), h1, h2, h3, h4] <;> first | rfl | (rw [List.set_comm _ _ hab])
theorem stepR_eq {N lf la : Int} {s : List Int × Int} {i : Nat} {o : O6} : stepR N lf la s i o = step N lf la s i o := by
 unfold stepR step
 cases c2 : Ref.mayV o.1 o.2.1 o.2.2.1 i N lf la
 ·simp only [Bool.not_false, Bool.true_or, cond_true, Bool.or_true]
 obtain ⟨a1, a2⟩ := asks_ok (k := o.1) (n := o.2.1) (may6 c2)
 obtain ⟨n1, n2, n3, n4⟩ := needs_ok (k := o.1) (n := o.2.1) (may6 c2)
 have e : s.1.getD i 0 - (Ref.asksV o.1 o.2.1).1 + (Ref.asksV o.1 o.2.1).2 = s.1.getD i 0 + (Ref.needsV o.1 o.2.1).2 := by omega
 rw [e, a1]
 generalize s.1.getD i 0 = h at *
 generalize h + (Ref.needsV o.1 o.2.1).2 = g at *
 simp only [putR_eq, Bool.not_true, Bool.false_or]
 by_cases c3 : h < (Ref.needsV o.1 o.2.1).1
 ·rw [decide_eq_true c3]; simp only [Bool.true_or, Bool.or_true, cond_true]
 rw [decide_eq_false c3, decide_eq_false (show ¬ h < 0 by omega)]
 simp only [Bool.false_or]
 cases decide (g > 1024)
 rotate_left
 ·rfl
 simp only [cond_false]
 cases o.1 == 7
 ·cases o.1 == 8
  ·simp only [Bool.or_self, cond_false, Option.bind_some]
   cases put s.1 (i + 1) g <;> rfl
  ·simp only [Bool.false_or, cond_false, cond_true]
   rw [put_comm]
 ·simp only [Bool.true_or, cond_true, Option.bind_some]
  cases put s.1 o.2.1.toNat g <;> rfl
def runR (N lf la : Int) : Nat → List O6 → List Int × Int → Option (List Int × Int)
 | _, [], s => some s
 | i, o :: l, s => (stepR N lf la s i o).bind (runR N lf la (i + 1) l)
theorem runR_eq {N lf la : Int} : ∀ (l : List O6) (i : Nat) (s : List Int × Int), runR N lf la i l s = run N lf la i l s
 | [], i, s => rfl
 | o :: l, i, s => by
  unfold runR run
  rw [stepR_eq]
  congr 1
  funext t
  exact runR_eq l (i + 1) t
theorem step_max {N lf la : Int} {s s' : List Int × Int} {i : Nat} {o : O6} (h : ∀ x ∈ s.1, x ≤ s.2) (e : step N lf la s i o = some s') : ∀ x ∈ s'.1, x ≤ s'.2 := by
 have hp : ∀ {t t' : List Int} {j : Nat} {g : Int}, (∀ x ∈ t, x ≤ max s.2 g) → put t j g = some t' → ∀ x ∈ t', x ≤ max s.2 g := by
  intro t t' j g ht e
  unfold put at e
  cases h2 : decide (t.getD j 0 < 0) <;> rw [h2] at e
  ·cases h3 : t.getD j 0 == g <;> rw [h3] at e
   ·cases e
   ·cases e; exact ht
  ·cases e
   intro x hx
   rcases List.mem_or_eq_of_mem_set hx with hx | rfl
   ·exact ht x hx
   ·omega
 unfold step at e
 cases hc : decide (s.1.getD i 0 < 0) || (!Ref.mayV o.1 o.2.1 o.2.2.1 i N lf la || (decide (s.1.getD i 0 < (Ref.needsV o.1 o.2.1).1) || decide (s.1.getD i 0 + (Ref.needsV o.1 o.2.1).2 > 1024))) <;> rw [hc] at e
 rotate_left
 ·cases e
 generalize s.1.getD i 0 + (Ref.needsV o.1 o.2.1).2 = g at *
 simp only [cond_false] at e
 obtain ⟨t2, e2, rfl⟩ := Option.map_eq_some_iff.1 e
 obtain ⟨t1, e1, e3⟩ := opt_bind e2
 have h0 : ∀ x ∈ s.1, x ≤ max s.2 g := fun x hx => by have := h x hx; omega
 have p1 : ∀ x ∈ t1, x ≤ max s.2 g := by
  cases q : o.1 == 7 || o.1 == 8 <;> rw [q] at e1
  ·cases e1; exact h0
  ·exact hp h0 e1
 cases q : o.1 == 7 <;> rw [q] at e3
 ·exact hp p1 e3
 ·cases e3; exact p1
theorem run_max {N lf la : Int} : ∀ {l : List O6} {i : Nat} {s t : List Int × Int}, (∀ x ∈ s.1, x ≤ s.2) → run N lf la i l s = some t → ∀ x ∈ t.1, x ≤ t.2
 | [], i, s, t, h, e => by cases e; exact h
 | o :: l, i, s, t, h, e => by
  unfold run at e
  obtain ⟨u, e1, e2⟩ := opt_bind e
  exact run_max (step_max h e1) e2
def heightsR (lf la : Int) (l : List O6) : Int :=
 bif (l.length : Int) == 0 then 0 else bif decide ((l.length : Int) > 4096) then 0 else
 bif fine l.length lf la l (first l.length, 0) then (bif (tall l.length lf la l (first l.length, 0)).getD l.length 0 != 1 then 0 else most l.length lf la l (first l.length, 0)) else 0
theorem heightsR_zero (lf la : Int) (l : List O6) : (heightsR lf la l == 0) = !(heights lf la l).2 := by
 unfold heightsR heights
 cases (l.length : Int) == 0
 rotate_left
 ·rfl
 cases decide ((l.length : Int) > 4096)
 rotate_left
 ·rfl
 cases hf : fine l.length lf la l (first l.length, 0)
 ·rfl
 simp only [cond_true, cond_false]
 cases h1 : (tall l.length lf la l (first l.length, 0)).getD l.length 0 == 1
 ·rw [bne, h1]; rfl
 ·rw [bne, h1]
  simp only [Bool.not_true, cond_false]
  have hl := tall_len hf
  have hm := getD_mem (l := tall l.length lf la l (first l.length, 0)) (j := l.length) (by omega)
  have : (tall l.length lf la l (first l.length, 0)).getD l.length 0 ≤ most l.length lf la l (first l.length, 0) := by
   unfold fine at hf
   unfold tall most at *
   cases e : run l.length lf la 0 l (first l.length, 0) with
   | none => rw [e] at hf; cases hf
   | some t =>
    rw [e] at hm
    exact run_max (fun x hx => by have := (first_good l.length).le x hx; rcases List.mem_cons.1 hx with rfl | hx; exact Int.le_refl 0; have := (List.mem_replicate.1 hx).2; show x ≤ 0; omega) e _ hm
  have h1 := beq_iff_eq.1 h1
  exact beq_eq_false_iff_ne.2 (by omega)
def bad (lf la : Int) (o : O6) : Bool := (o.1 == 2 && decide (o.2.1 ≥ lf)) || (o.1 == 9 && decide (o.2.1 ≥ la))
theorem may_bad {lf la N i : Int} {o : O6} (h : bad lf la o = true) : Ref.mayV o.1 o.2.1 o.2.2.1 i N lf la = false := by
 unfold bad at h
 unfold Ref.mayV
 simp only [Bool.or_eq_true, Bool.and_eq_true, beq_iff_eq, decide_eq_true_eq] at h
 rcases h with ⟨h1, h2⟩ | ⟨h1, h2⟩ <;> rw [h1]
 ·show (decide (o.2.1 ≥ 0) && decide (o.2.1 < lf)) = false
  rw [decide_eq_false (show ¬ o.2.1 < lf by omega), Bool.and_false]
 ·show (decide (o.2.1 ≥ 0) && decide (o.2.1 < la)) = false
  rw [decide_eq_false (show ¬ o.2.1 < la by omega), Bool.and_false]
theorem may_fine {lf la N i : Int} {o : O6} (hf : lf ≤ 9223372036854775807) (ha : la ≤ 9223372036854775807) (h : bad lf la o = false) : Ref.mayV o.1 o.2.1 o.2.2.1 i N 9223372036854775807 9223372036854775807 = Ref.mayV o.1 o.2.1 o.2.2.1 i N lf la := by
 unfold bad at h
 simp only [Bool.or_eq_false_iff, Bool.and_eq_false_iff, decide_eq_false_iff_not] at h
 unfold Ref.mayV
 cases o.1 == 1 || o.1 == 10
 rotate_left
 ·rfl
 cases h2 : o.1 == 2
 rotate_left
 ·have := h.1.resolve_left (by rw [h2]; simp)
  rw [decide_eq_true (show o.2.1 < lf by omega), decide_eq_true (show o.2.1 < 9223372036854775807 by omega)]
  rfl
 cases h9 : o.1 == 9
 rotate_left
 ·have := h.2.resolve_left (by rw [h9]; simp)
  rw [decide_eq_true (show o.2.1 < la by omega), decide_eq_true (show o.2.1 < 9223372036854775807 by omega)]
  rfl
 rfl
theorem run_fine {lf la N : Int} (hf : lf ≤ 9223372036854775807) (ha : la ≤ 9223372036854775807) : ∀ (l : List O6) (i : Nat) (s : List Int × Int), l.any (bad lf la) = false → run N 9223372036854775807 9223372036854775807 i l s = run N lf la i l s
 | [], i, s, h => rfl
 | o :: l, i, s, h => by
  rw [List.any_cons, Bool.or_eq_false_iff] at h
  unfold run
  have : step N 9223372036854775807 9223372036854775807 s i o = step N lf la s i o := by
   unfold step; rw [may_fine hf ha h.1]
  rw [this]
  congr 1
  funext t
  exact run_fine hf ha l (i + 1) t h.2
theorem run_bad {lf la N : Int} : ∀ (l : List O6) (i : Nat) (s : List Int × Int), l.any (bad lf la) = true → run N lf la i l s = none
 | [], i, s, h => by cases h
 | o :: l, i, s, h => by
  rw [List.any_cons, Bool.or_eq_true] at h
  unfold run
  rcases h with h | h
  ·have : step N lf la s i o = none := by
    unfold step; rw [may_bad h]; simp only [Bool.not_false, Bool.true_or, Bool.or_true, cond_true]
   rw [this]; rfl
  ·cases step N lf la s i o with
   | none => rfl
   | some t => exact run_bad l (i + 1) t h
def checkV (lf la : Int) (l : List O6) : Int := bif (heights lf la l).2 then 0 else 120
theorem check_eq {lf la : Int} (hf : lf ≤ 9223372036854775807) (ha : la ≤ 9223372036854775807) (l : List O6) :
  (bif l.any (bad lf la) then 120 else bif (heights 9223372036854775807 9223372036854775807 l).2 then 0 else 120) = checkV lf la l := by
 unfold checkV heights fine tall most
 cases h : l.any (bad lf la)
 ·rw [run_fine hf ha l 0 _ h]; rfl
 ·rw [run_bad l 0 _ h]
  cases (l.length : Int) == 0 <;> cases decide ((l.length : Int) > 4096) <;> rfl
end
end Go.Proofs.YtaiokpmmjbiajaaGreatDoorDx.AHei
namespace Go.Proofs.YtaiokpmmjbiajaaGreatDoorDx
section
open Go Go.Proofs
namespace A60L0
def rowJ (j : Nat) : List Value := ints .i64 (List.replicate j (-1))
def st (n : Nat) (lf la k : Int) (j : Nat) : KX := bif Nat.beq j 0 then A60L0N.stA n lf la k j else A60L0R.stA n lf la k j j (rowJ j)
def fin (n : Nat) (lf la k : Int) (m : Nat) : KX := ⟨[(0, .slice (some ⟨0, 0, none⟩) n 6), (1, .int .i64 lf), (2, .int .i64 la), (7, .int .i64 k), (8, .slice (some ⟨4, 0, none⟩) m 1)], [AHei.rowM m]⟩
def D : KD := ⟨148, 4, 100, [0, 1, 2, 7, 8, 9], [], fun _ => [], fun x ro => match x.vs, x.cars, ro with
 | [(0, .slice (some ⟨0, 0, none⟩) n 6), (1, .int .i64 lf), (2, .int .i64 la), (7, .int .i64 k), (8, .slice none 0 0), (9, .int .i64 0)], [], [] =>
  .need (decide (k = Int.ofNat n) && Nat.ble n 4096) (.out (.exit 0, fin n lf la k (n + 1)))
 | _, _, _ => .no⟩
def lp : LpK := ⟨60, 6, 0, D⟩
theorem lp_fine : LpFine Tryz.prog La 4 lp := by
 refine ⟨by kernel_rfl, fun c base I hP hn hG hI hIL x ro ex y e => ?_⟩
 obtain ⟨vs, cars⟩ := x
 simp only [lp, D] at e ⊢
 split at e
 ·rename_i n lf la k
  obtain ⟨g1, g2⟩ := GT.need_eval e
  cases g2
  simp only [Bool.and_eq_true, decide_eq_true_eq] at g1
  obtain ⟨rfl, g3⟩ := g1
  have g3 := Nat.le_of_ble_eq_true g3
  have main : ∀ d j, j + d = n + 1 → ChainK (@StepK (etaB base) c base I (loopAt Tryz.prog 60 0) 148 4 100 []) (st n lf la n j) (.exit 0) (fin n lf la n (n + 1)) := by
   intro d
   induction d with
   | zero =>
    intro j hj
    obtain rfl : j = n + 1 := by omega
    have hr := A60L0R.round n lf la n ((n + 1 : Nat) : Int) (n + 1) (rowJ (n + 1))
    have h1 : decide (((n + 1 : Nat) : Int) ≤ (n : Int)) = false := decide_eq_false (by omega)
    have h2 : (rowJ (n + 1)).all scalV = true := ints_scal _ _
    simp only [h1, h2, cond_false, Bool.and_true, cond_true] at hr
    exact .stop (by simp) (stepT prog_mix prog_names (by simp) (by simp) hP hn hG hI hIL hr)
   | succ d ih =>
    intro j hj
    have ih := ih (j + 1) (by omega)
    refine .next ?_ ih
    have h1 : decide ((j : Int) ≤ (n : Int)) = true := decide_eq_true (by omega)
    have h5 := wrI j (by omega)
    cases j with
    | zero =>
     have hr := A60L0N.round n lf la n ((0 : Nat) : Int)
     simp only [h1, h5, cond_true] at hr
     exact stepT prog_mix prog_names (by simp) (by simp) hP hn hG hI hIL hr
    | succ j =>
     have hr := A60L0R.round n lf la n ((j + 1 : Nat) : Int) (j + 1) (rowJ (j + 1))
     have hl : (rowJ (j + 1)).length = j + 1 := by unfold rowJ; rw [ints_len]; simp
     have q1 : ((rowJ (j + 1)).drop 0).take ((j + 1) * 1) ++ [.int .i64 (-1)] = rowJ (j + 1 + 1) := by
      rw [List.drop_zero, Nat.mul_one, List.take_of_length_le (by rw [hl]; exact Nat.le_refl _)]
      unfold rowJ ints
      rw [show List.replicate (j + 1 + 1) (-1 : Int) = List.replicate (j + 1) (-1) ++ [-1] from List.replicate_succ', List.map_append]; rfl
     have q2 : Nat.ble (j + 1 + 1) 140737488355328 = true := by rw [Nat.ble_eq]; omega
     have q3 : Nat.ble ((j + 1 + 1) * 8) 140737488355328 = true := by rw [Nat.ble_eq]; omega
     have q4 : Nat.ble (0 + (j + 1) * 1) (rowJ (j + 1)).length = true := by rw [Nat.ble_eq, hl]; omega
     have q5 : (rowJ (j + 1 + 1)).all scalV = true := ints_scal _ _
     simp only [h1, h5, q1, q2, q3, q4, q5, Bool.and_true, cond_true] at hr
     exact stepT prog_mix prog_names (by simp) (by simp) hP hn hG hI hIL hr
  exact main (n + 1) 0 (by omega)
 ·cases e
end A60L0
end
section
open Go Go.Proofs
namespace A115
def T (k0 vk0 vn0 n0 : Int) (vs0 t0 : ByteArray) : GT Value := let o1 : GT Value := (.out (.tuple ([.int .i64 0, .int .i64 1]).toArray)); let o2 : GT Value := (.out (.tuple ([.int .i64 1, .int .i64 1]).toArray)); (.br ((k0 == 1)) o1 (.br ((k0 == 2)) o1 (.br ((k0 == 9)) o1 (.br ((k0 == 3)) o2 (.br ((k0 == 5)) o2 (.br ((k0 == 10)) o2 (.br ((k0 == 4)) (.out (.tuple ([.int .i64 2, .int .i64 1]).toArray)) (.br ((k0 == 6)) (.out (.tuple ([.int .i64 n0, .int .i64 1]).toArray)) (.br ((k0 == 8)) (.out (.tuple ([.int .i64 1, .int .i64 0]).toArray)) (.out (.tuple ([.int .i64 0, .int .i64 0]).toArray)))))))))))
set_option maxRecDepth 1000000 in
theorem run (k0 vk0 vn0 n0 : Int) (vs0 t0 : ByteArray) : runK 4 [] [] 115 [.v (.agg #[.int .i64 k0, .int .i64 n0, .string t0, .int .i64 vk0, .int .i64 vn0, .string vs0])] = (T k0 vk0 vn0 n0 vs0 t0).eval := by kernel_rfl
theorem T_ok (o : O6) : (T o.1 o.2.2.2.1 o.2.2.2.2.1 o.2.1 o.2.2.2.2.2 o.2.2.1).eval = some (.tuple #[.int .i64 (Ref.asksV o.1 o.2.1).1, .int .i64 (Ref.asksV o.1 o.2.1).2]) := by
 unfold T Ref.asksV
 simp only [GT.eval]
 cases o.1 == 1 <;> cases o.1 == 2 <;> cases o.1 == 9 <;> cases o.1 == 3 <;> cases o.1 == 5 <;> cases o.1 == 10 <;> cases o.1 == 4 <;> cases o.1 == 6 <;> cases o.1 == 8 <;> rfl
def spec : Spec := fun aa => match aa with
 | [a] => (oOf a).bind fun o => some (.out (.tuple #[.int .i64 (Ref.asksV o.1 o.2.1).1, .int .i64 (Ref.asksV o.1 o.2.1).2]))
 | _ => none
theorem spec_ok : SpecOk Tryz.prog La 115 spec := ⟨fnOk_ok (by kernel_rfl), fun aa t v h e => by
 unfold spec at h
 split at h
 ·rename_i a
  obtain ⟨x, h1, h⟩ := opt_bind h
  cases h; cases e
  rw [oOf_ok h1]
  exact ⟨rfl, callT (l := []) (L := []) (n0 := 4) (k := 12) La_below prog_mix prog_names (by simp) (by simp) (by decide) (by simp) rfl ((run _ _ _ _ _ _).trans (T_ok x))⟩
 ·cases h⟩
end A115
end
section
open Go Go.Proofs
namespace A116
def T (k0 vk0 vn0 n0 : Int) (vs0 t0 : ByteArray) (a1 : Int) (a2 : Int) (a3 : Int) (a4 : Int) : GT Value := let o1 : GT Value := (.br (decide (n0 > a1)) (.out (.bool (decide (n0 ≤ a2)))) (.out (.bool (false)))); (.br ((k0 == 1)) (.out (.bool (true))) (.br ((k0 == 10)) (.out (.bool (true))) (.br ((k0 == 2)) (.br (decide (n0 ≥ 0)) (.out (.bool (decide (n0 < a3)))) (.out (.bool (false)))) (.br ((k0 == 9)) (.br (decide (n0 ≥ 0)) (.out (.bool (decide (n0 < a4)))) (.out (.bool (false)))) (.br ((k0 == 3)) (.br (eqU [45] t0.data.toList) (.out (.bool (true))) (.br (eqU [110, 111, 116] t0.data.toList) (.out (.bool (true))) (.out (.bool (false))))) (.br ((k0 == 4)) (.br (eqU [43] t0.data.toList) (.out (.bool (true))) (.br (eqU [45] t0.data.toList) (.out (.bool (true))) (.br (eqU [42] t0.data.toList) (.out (.bool (true))) (.br (eqU [47] t0.data.toList) (.out (.bool (true))) (.br (eqU [37] t0.data.toList) (.out (.bool (true))) (.br (eqU [61] t0.data.toList) (.out (.bool (true))) (.br (eqU [33, 61] t0.data.toList) (.out (.bool (true))) (.br (eqU [60] t0.data.toList) (.out (.bool (true))) (.br (eqU [60, 61] t0.data.toList) (.out (.bool (true))) (.br (eqU [62] t0.data.toList) (.out (.bool (true))) (.br (eqU [62, 61] t0.data.toList) (.out (.bool (true))) (.br (eqU [97, 110, 100] t0.data.toList) (.out (.bool (true))) (.br (eqU [111, 114] t0.data.toList) (.out (.bool (true))) (.out (.bool (false)))))))))))))))) (.br ((k0 == 5)) (.br ((n0 == 0)) (.out (.bool (true))) (.out (.bool ((n0 == 1))))) (.br ((k0 == 6)) (.br (decide (n0 ≥ 0)) (.out (.bool (decide (n0 ≤ 1024)))) (.out (.bool (false)))) (.br ((k0 == 7)) o1 (.br ((k0 == 8)) o1 (.out (.bool (false)))))))))))))
set_option maxRecDepth 1000000 in
theorem run (k0 vk0 vn0 n0 : Int) (vs0 t0 : ByteArray) (a1 : Int) (a2 : Int) (a3 : Int) (a4 : Int) : runK 5 [] [] 116 [.v (.agg #[.int .i64 k0, .int .i64 n0, .string t0, .int .i64 vk0, .int .i64 vn0, .string vs0]), .v (.int .i64 a1), .v (.int .i64 a2), .v (.int .i64 a3), .v (.int .i64 a4)] = (T k0 vk0 vn0 n0 vs0 t0 a1 a2 a3 a4).eval := by kernel_rfl
theorem T_ok (o : O6) (i m : Int) (lf la : Int) : (T o.1 o.2.2.2.1 o.2.2.2.2.1 o.2.1 o.2.2.2.2.2 o.2.2.1 i m lf la).eval = some (.bool (Ref.mayV o.1 o.2.1 o.2.2.1 i m lf la)) := by
 obtain ⟨k, n, t, v⟩ := o
 unfold T Ref.mayV
 dsimp only []
 simp only [GT.eval]
 simp only [eqU_comm [45], eqU_comm [110, 111, 116], eqU_comm [43], eqU_comm [42], eqU_comm [47], eqU_comm [37], eqU_comm [61], eqU_comm [33, 61], eqU_comm [60], eqU_comm [60, 61], eqU_comm [62], eqU_comm [62, 61], eqU_comm [97, 110, 100], eqU_comm [111, 114]]
 cases k == 1
 rotate_left
 ·rfl
 cases k == 10
 rotate_left
 ·rfl
 cases k == 2
 rotate_left
 ·cases decide (n ≥ 0) <;> rfl
 cases k == 9
 rotate_left
 ·cases decide (n ≥ 0) <;> rfl
 cases k == 3
 rotate_left
 ·cases eqU t.data.toList [45] <;> cases eqU t.data.toList [110, 111, 116] <;> rfl
 cases k == 4
 rotate_left
 ·unfold Ref.opIn
  simp only [cond_true, cond_false, Bool.or_self]
  cases eqU t.data.toList [43]
  rotate_left
  ·rfl
  cases eqU t.data.toList [45]
  rotate_left
  ·rfl
  cases eqU t.data.toList [42]
  rotate_left
  ·rfl
  cases eqU t.data.toList [47]
  rotate_left
  ·rfl
  cases eqU t.data.toList [37]
  rotate_left
  ·rfl
  cases eqU t.data.toList [61]
  rotate_left
  ·rfl
  cases eqU t.data.toList [33, 61]
  rotate_left
  ·rfl
  cases eqU t.data.toList [60]
  rotate_left
  ·rfl
  cases eqU t.data.toList [60, 61]
  rotate_left
  ·rfl
  cases eqU t.data.toList [62]
  rotate_left
  ·rfl
  cases eqU t.data.toList [62, 61]
  rotate_left
  ·rfl
  cases eqU t.data.toList [97, 110, 100] <;> cases eqU t.data.toList [111, 114] <;> rfl
 cases k == 5
 rotate_left
 ·cases n == 0 <;> rfl
 cases k == 6
 rotate_left
 ·cases decide (n ≥ 0) <;> rfl
 cases k == 7 <;> cases k == 8 <;> cases decide (n > i) <;> rfl
def spec : Spec := fun aa => match aa with
 | [a, .v (.int .i64 i), .v (.int .i64 m), .v (.int .i64 lf), .v (.int .i64 la)] => (oOf a).bind fun o => some (.out (.bool (Ref.mayV o.1 o.2.1 o.2.2.1 i m lf la)))
 | _ => none
theorem spec_ok : SpecOk Tryz.prog La 116 spec := ⟨fnOk_ok (by kernel_rfl), fun aa t v h e => by
 unfold spec at h
 split at h
 ·rename_i a i m lf la
  obtain ⟨x, h1, h⟩ := opt_bind h
  cases h; cases e
  rw [oOf_ok h1]
  exact ⟨rfl, callT (l := []) (L := []) (n0 := 5) (k := 12) La_below prog_mix prog_names (by simp) (by simp) (by decide) (by simp) rfl ((run _ _ _ _ _ _ _ _ _ _).trans (T_ok x i m lf la))⟩
 ·cases h⟩
end A116
end
section
open Go Go.Proofs
namespace A156
def T (k0 vk0 vn0 n0 : Int) (vs0 t0 : ByteArray) : GT Value := let o1 : GT Value := (.out (.tuple ([.int .i64 0, .int .i64 1]).toArray)); let o2 : GT Value := (.out (.tuple ([.int .i64 1, .int .i64 0]).toArray)); (.br ((k0 == 1)) o1 (.br ((k0 == 2)) o1 (.br ((k0 == 9)) o1 (.br ((k0 == 3)) o2 (.br ((k0 == 5)) o2 (.br ((k0 == 10)) o2 (.br ((k0 == 4)) (.out (.tuple ([.int .i64 2, .int .i64 (-1)]).toArray)) (.br ((k0 == 6)) (.out (.tuple ([.int .i64 n0, .int .i64 (IntKind.wrap .i64 (1 - n0))]).toArray)) (.br ((k0 == 8)) (.out (.tuple ([.int .i64 1, .int .i64 (-1)]).toArray)) (.out (.tuple ([.int .i64 0, .int .i64 0]).toArray)))))))))))
set_option maxRecDepth 1000000 in
theorem run (k0 vk0 vn0 n0 : Int) (vs0 t0 : ByteArray) : runK 4 [] [] 156 [.v (.agg #[.int .i64 k0, .int .i64 n0, .string t0, .int .i64 vk0, .int .i64 vn0, .string vs0])] = (T k0 vk0 vn0 n0 vs0 t0).eval := by kernel_rfl
theorem T_ok (o : O6) : (T o.1 o.2.2.2.1 o.2.2.2.2.1 o.2.1 o.2.2.2.2.2 o.2.2.1).eval = some (.tuple #[.int .i64 (Ref.needsV o.1 o.2.1).1, .int .i64 (Ref.needsV o.1 o.2.1).2]) := by
 unfold T Ref.needsV
 simp only [GT.eval]
 cases o.1 == 1 <;> cases o.1 == 2 <;> cases o.1 == 9 <;> cases o.1 == 3 <;> cases o.1 == 5 <;> cases o.1 == 10 <;> cases o.1 == 4 <;> cases o.1 == 6 <;> cases o.1 == 8 <;> rfl
def spec : Spec := fun aa => match aa with
 | [a] => (oOf a).bind fun o => some (.out (.tuple #[.int .i64 (Ref.needsV o.1 o.2.1).1, .int .i64 (Ref.needsV o.1 o.2.1).2]))
 | _ => none
theorem spec_ok : SpecOk Tryz.prog La 156 spec := ⟨fnOk_ok (by kernel_rfl), fun aa t v h e => by
 unfold spec at h
 split at h
 ·rename_i a
  obtain ⟨x, h1, h⟩ := opt_bind h
  cases h; cases e
  rw [oOf_ok h1]
  exact ⟨rfl, callT (l := []) (L := []) (n0 := 4) (k := 12) La_below prog_mix prog_names (by simp) (by simp) (by decide) (by simp) rfl ((run _ _ _ _ _ _).trans (T_ok x))⟩
 ·cases h⟩
end A156
end
section
open Go Go.Proofs
namespace A157
def T (k0 vk0 vn0 n0 : Int) (vs0 t0 : ByteArray) (a1 : Int) (a2 : Int) : GT Value := let o1 : GT Value := (.br (decide (n0 ≥ 0)) (.out (.bool (decide (n0 < 9223372036854775807)))) (.out (.bool (false)))); let o2 : GT Value := (.br (decide (n0 > a1)) (.out (.bool (decide (n0 ≤ a2)))) (.out (.bool (false)))); (.br ((k0 == 1)) (.out (.bool (true))) (.br ((k0 == 10)) (.out (.bool (true))) (.br ((k0 == 2)) o1 (.br ((k0 == 9)) o1 (.br ((k0 == 3)) (.br (eqU t0.data.toList [45]) (.out (.bool (true))) (.out (.bool (eqU t0.data.toList [110, 111, 116])))) (.br ((k0 == 4)) (.br (eqU t0.data.toList [43]) (.out (.bool (true))) (.br (eqU t0.data.toList [45]) (.out (.bool (true))) (.br (eqU t0.data.toList [42]) (.out (.bool (true))) (.br (eqU t0.data.toList [47]) (.out (.bool (true))) (.br (eqU t0.data.toList [37]) (.out (.bool (true))) (.br (eqU t0.data.toList [61]) (.out (.bool (true))) (.br (eqU t0.data.toList [33, 61]) (.out (.bool (true))) (.br (eqU t0.data.toList [60]) (.out (.bool (true))) (.br (eqU t0.data.toList [60, 61]) (.out (.bool (true))) (.br (eqU t0.data.toList [62]) (.out (.bool (true))) (.br (eqU t0.data.toList [62, 61]) (.out (.bool (true))) (.br (eqU t0.data.toList [97, 110, 100]) (.out (.bool (true))) (.br (eqU t0.data.toList [111, 114]) (.out (.bool (true))) (.out (.bool (false)))))))))))))))) (.br ((k0 == 5)) (.br ((n0 == 0)) (.out (.bool (true))) (.out (.bool ((n0 == 1))))) (.br ((k0 == 6)) (.br (decide (n0 ≥ 0)) (.out (.bool (decide (n0 ≤ 1024)))) (.out (.bool (false)))) (.br ((k0 == 7)) o2 (.br ((k0 == 8)) o2 (.out (.bool (false)))))))))))))
set_option maxRecDepth 1000000 in
theorem run (k0 vk0 vn0 n0 : Int) (vs0 t0 : ByteArray) (a1 : Int) (a2 : Int) : runK 4 [] [] 157 [.v (.agg #[.int .i64 k0, .int .i64 n0, .string t0, .int .i64 vk0, .int .i64 vn0, .string vs0]), .v (.int .i64 a1), .v (.int .i64 a2)] = (T k0 vk0 vn0 n0 vs0 t0 a1 a2).eval := by kernel_rfl
theorem T_ok (o : O6) (i m : Int) : (T o.1 o.2.2.2.1 o.2.2.2.2.1 o.2.1 o.2.2.2.2.2 o.2.2.1 i m).eval = some (.bool (Ref.mayV o.1 o.2.1 o.2.2.1 i m 9223372036854775807 9223372036854775807)) := by
 obtain ⟨k, n, t, v⟩ := o
 unfold T Ref.mayV
 dsimp only []
 simp only [GT.eval]
 cases k == 1
 rotate_left
 ·rfl
 cases k == 10
 rotate_left
 ·rfl
 cases k == 2
 rotate_left
 ·cases decide (n ≥ 0) <;> rfl
 cases k == 9
 rotate_left
 ·cases decide (n ≥ 0) <;> rfl
 cases k == 3
 rotate_left
 ·cases eqU t.data.toList [45] <;> cases eqU t.data.toList [110, 111, 116] <;> rfl
 cases k == 4
 rotate_left
 ·unfold Ref.opIn
  simp only [cond_true, cond_false, Bool.or_self]
  cases eqU t.data.toList [43]
  rotate_left
  ·rfl
  cases eqU t.data.toList [45]
  rotate_left
  ·rfl
  cases eqU t.data.toList [42]
  rotate_left
  ·rfl
  cases eqU t.data.toList [47]
  rotate_left
  ·rfl
  cases eqU t.data.toList [37]
  rotate_left
  ·rfl
  cases eqU t.data.toList [61]
  rotate_left
  ·rfl
  cases eqU t.data.toList [33, 61]
  rotate_left
  ·rfl
  cases eqU t.data.toList [60]
  rotate_left
  ·rfl
  cases eqU t.data.toList [60, 61]
  rotate_left
  ·rfl
  cases eqU t.data.toList [62]
  rotate_left
  ·rfl
  cases eqU t.data.toList [62, 61]
  rotate_left
  ·rfl
  cases eqU t.data.toList [97, 110, 100] <;> cases eqU t.data.toList [111, 114] <;> rfl
 cases k == 5
 rotate_left
 ·cases n == 0 <;> rfl
 cases k == 6
 rotate_left
 ·cases decide (n ≥ 0) <;> rfl
 cases k == 7 <;> cases k == 8 <;> cases decide (n > i) <;> rfl
def spec : Spec := fun aa => match aa with
 | [a, .v (.int .i64 i), .v (.int .i64 m)] => (oOf a).bind fun o => some (.out (.bool (Ref.mayV o.1 o.2.1 o.2.2.1 i m 9223372036854775807 9223372036854775807)))
 | _ => none
theorem spec_ok : SpecOk Tryz.prog La 157 spec := ⟨fnOk_ok (by kernel_rfl), fun aa t v h e => by
 unfold spec at h
 split at h
 ·rename_i a i m
  obtain ⟨x, h1, h⟩ := opt_bind h
  cases h; cases e
  rw [oOf_ok h1]
  exact ⟨rfl, callT (l := []) (L := []) (n0 := 4) (k := 12) La_below prog_mix prog_names (by simp) (by simp) (by decide) (by simp) rfl ((run _ _ _ _ _ _ _ _).trans (T_ok x i m))⟩
 ·cases h⟩
end A157
end
section
open Go Go.Proofs
namespace A105L1
noncomputable def cfg : Cfg := cfgK Tryz.prog 4 (gpT [(156, A156.spec), (157, A157.spec)]) (ltT 4 [])
def stA (n m : Nat) (k most i : Int) (row : List Value) : KX := ⟨[(4, .int .i64 k), (5, .pointer (some ⟨106, 0, none⟩)), (7, .func (.func 155) #[] #[.pointer (some ⟨106, 0, none⟩)]), (8, .int .i64 most), (38, .slice (some ⟨0, 0, none⟩) n 6), (39, .int .i64 (Int.ofNat n)), (40, .int .i64 i)], [[.slice (some ⟨107, 0, none⟩) m 1], row]⟩
def kp : Ex → List Nat
 | .normal => [4, 5, 7, 8, 38, 39, 40]
 | .exit _ => [4, 5, 8]
 | .ret => [2, 3]
def cr : Ex → St → List (Nat × Bool) := fun e s => match e with
 | .ret => []
 | _ => match s.T.get 5 with
  | some (.pointer (some p)) => match cellsAt s.h p.block with
   | some [.slice (some q) _ _] => [(p.block, false), (q.block, true)]
   | _ => []
  | _ => []
set_option maxRecDepth 1000000 in
theorem round (n m : Nat) (k most i : Int) (row : List Value) (cs : List Value) : rndK cfg [(156, A156.spec), (157, A157.spec)] [] 105 1 (stK 113 106 [(0, cs)] (stA n m k most i row)) (endK 106 100 113 kp cr) = (let x2 := IntKind.wrap .i64 (i + 1); let x4 := 0 + ((x2).toNat * 1); let x12 := 0 + ((i).toNat * 1); let x13 := 0 + ((i).toNat * 6); let x5 := rdI cs (x13 + 1); let x3 := 0 + ((x5).toNat * 1); let x7 := rdI cs x13; let x1 := IntKind.wrap .i64 ((rdI row x12) + (Ref.needsV x7 x5).2); let x6 := if x1 > most then x1 else most; let x8 := rdI (puts row x3 [.int .i64 x1]) x4; let x9 := rdI (puts row x3 [.int .i64 x1]) x3; let x10 := rdI (puts row x4 [.int .i64 x1]) x4; let x11 := rdI (puts (puts row x3 [.int .i64 x1]) x4 [.int .i64 x1]) x4; let o2 : Option (Ex × KX) := (bif (true && ((row).all scalV && true)) then (some (.normal, ⟨[(4, .int .i64 k), (5, .pointer (some ⟨106, 0, none⟩)), (7, .func (.func 155) ([]).toArray ([.pointer (some ⟨106, 0, none⟩)]).toArray), (8, .int .i64 x6), (38, .slice (some ⟨0, 0, none⟩) n 6), (39, .int .i64 (Int.ofNat n)), (40, .int .i64 x2)], [[.slice (some ⟨107, 0, none⟩) m 1], row]⟩)) else none); let o3 : Option (Ex × KX) := (some (.ret, ⟨[(2, .int .i64 0), (3, .bool (false))], []⟩)); let o1 : Option (Ex × KX) := (bif decide (0 ≤ x5) then (bif Nat.blt (x5).toNat m then (bif isV row x3 (.i .i64) then (bif decide ((rdI row x3) < 0) then (bif decide (0 ≤ x5) then (bif Nat.blt (x5).toNat m then (bif Nat.ble (x3 + 1) (row).length then (bif decide (0 ≤ x5) then (bif Nat.blt (x5).toNat m then (bif isV (puts row x3 [.int .i64 x1]) x3 (.i .i64) then (bif (x7 != 7) then (bif (x9 == x1) then (bif decide (0 ≤ x2) then (bif Nat.blt (x2).toNat m then (bif isV (puts row x3 [.int .i64 x1]) x4 (.i .i64) then (bif decide (x8 < 0) then (bif decide (0 ≤ x2) then (bif Nat.blt (x2).toNat m then (bif Nat.ble (x4 + 1) ((puts row x3 [.int .i64 x1])).length then (bif decide (0 ≤ x2) then (bif Nat.blt (x2).toNat m then (bif isV (puts (puts row x3 [.int .i64 x1]) x4 [.int .i64 x1]) x4 (.i .i64) then (bif (!(x11 == x1)) then o3 else (bif (true && (((puts (puts row x3 [.int .i64 x1]) x4 [.int .i64 x1])).all scalV && true)) then (some (.normal, ⟨[(4, .int .i64 k), (5, .pointer (some ⟨106, 0, none⟩)), (7, .func (.func 155) ([]).toArray ([.pointer (some ⟨106, 0, none⟩)]).toArray), (8, .int .i64 x6), (38, .slice (some ⟨0, 0, none⟩) n 6), (39, .int .i64 (Int.ofNat n)), (40, .int .i64 x2)], [[.slice (some ⟨107, 0, none⟩) m 1], (puts (puts row x3 [.int .i64 x1]) x4 [.int .i64 x1])]⟩)) else none)) else none) else none) else none) else none) else none) else none) else (bif decide (0 ≤ x2) then (bif Nat.blt (x2).toNat m then (bif isV (puts row x3 [.int .i64 x1]) x4 (.i .i64) then (bif (!(x8 == x1)) then o3 else (bif (true && (((puts row x3 [.int .i64 x1])).all scalV && true)) then (some (.normal, ⟨[(4, .int .i64 k), (5, .pointer (some ⟨106, 0, none⟩)), (7, .func (.func 155) ([]).toArray ([.pointer (some ⟨106, 0, none⟩)]).toArray), (8, .int .i64 x6), (38, .slice (some ⟨0, 0, none⟩) n 6), (39, .int .i64 (Int.ofNat n)), (40, .int .i64 x2)], [[.slice (some ⟨107, 0, none⟩) m 1], (puts row x3 [.int .i64 x1])]⟩)) else none)) else none) else none) else none)) else none) else none) else none) else o3) else (bif (!(x9 == x1)) then o3 else (bif (true && (((puts row x3 [.int .i64 x1])).all scalV && true)) then (some (.normal, ⟨[(4, .int .i64 k), (5, .pointer (some ⟨106, 0, none⟩)), (7, .func (.func 155) ([]).toArray ([.pointer (some ⟨106, 0, none⟩)]).toArray), (8, .int .i64 x6), (38, .slice (some ⟨0, 0, none⟩) n 6), (39, .int .i64 (Int.ofNat n)), (40, .int .i64 x2)], [[.slice (some ⟨107, 0, none⟩) m 1], (puts row x3 [.int .i64 x1])]⟩)) else none))) else none) else none) else none) else none) else none) else none) else (bif decide (0 ≤ x5) then (bif Nat.blt (x5).toNat m then (bif isV row x3 (.i .i64) then (bif (x7 != 7) then (bif ((rdI row x3) == x1) then (bif decide (0 ≤ x2) then (bif Nat.blt (x2).toNat m then (bif isV row x4 (.i .i64) then (bif decide ((rdI row x4) < 0) then (bif decide (0 ≤ x2) then (bif Nat.blt (x2).toNat m then (bif Nat.ble (x4 + 1) (row).length then (bif decide (0 ≤ x2) then (bif Nat.blt (x2).toNat m then (bif isV (puts row x4 [.int .i64 x1]) x4 (.i .i64) then (bif (!(x10 == x1)) then o3 else (bif (true && (((puts row x4 [.int .i64 x1])).all scalV && true)) then (some (.normal, ⟨[(4, .int .i64 k), (5, .pointer (some ⟨106, 0, none⟩)), (7, .func (.func 155) ([]).toArray ([.pointer (some ⟨106, 0, none⟩)]).toArray), (8, .int .i64 x6), (38, .slice (some ⟨0, 0, none⟩) n 6), (39, .int .i64 (Int.ofNat n)), (40, .int .i64 x2)], [[.slice (some ⟨107, 0, none⟩) m 1], (puts row x4 [.int .i64 x1])]⟩)) else none)) else none) else none) else none) else none) else none) else none) else (bif decide (0 ≤ x2) then (bif Nat.blt (x2).toNat m then (bif isV row x4 (.i .i64) then (bif (!((rdI row x4) == x1)) then o3 else o2) else none) else none) else none)) else none) else none) else none) else o3) else (bif (!((rdI row x3) == x1)) then o3 else o2)) else none) else none) else none)) else none) else none) else none); (bif decide (i < (Int.ofNat n)) then (bif decide (0 ≤ i) then (bif Nat.blt (i).toNat n then (bif isL cs x13 [(.i .i64), (.i .i64), .s, (.i .i64), (.i .i64), .s] then (bif decide (0 ≤ i) then (bif Nat.blt (i).toNat m then (bif isV row x12 (.i .i64) then (bif decide ((rdI row x12) < 0) then o3 else (bif (!(Ref.mayV x7 x5 (rdS cs ((x13 + 1) + 1)) i k 9223372036854775807 9223372036854775807)) then o3 else (bif decide ((rdI row x12) < (Ref.needsV x7 x5).1) then o3 else (bif decide (x1 > 1024) then o3 else (bif (x7 == 7) then o1 else (bif (x7 == 8) then o1 else (bif (x7 != 7) then (bif decide (0 ≤ x2) then (bif Nat.blt (x2).toNat m then (bif isV row x4 (.i .i64) then (bif decide ((rdI row x4) < 0) then (bif decide (0 ≤ x2) then (bif Nat.blt (x2).toNat m then (bif Nat.ble (x4 + 1) (row).length then (bif decide (0 ≤ x2) then (bif Nat.blt (x2).toNat m then (bif isV (puts row x4 [.int .i64 x1]) x4 (.i .i64) then (bif (!(x10 == x1)) then o3 else (bif (true && (((puts row x4 [.int .i64 x1])).all scalV && true)) then (some (.normal, ⟨[(4, .int .i64 k), (5, .pointer (some ⟨106, 0, none⟩)), (7, .func (.func 155) ([]).toArray ([.pointer (some ⟨106, 0, none⟩)]).toArray), (8, .int .i64 x6), (38, .slice (some ⟨0, 0, none⟩) n 6), (39, .int .i64 (Int.ofNat n)), (40, .int .i64 x2)], [[.slice (some ⟨107, 0, none⟩) m 1], (puts row x4 [.int .i64 x1])]⟩)) else none)) else none) else none) else none) else none) else none) else none) else (bif decide (0 ≤ x2) then (bif Nat.blt (x2).toNat m then (bif isV row x4 (.i .i64) then (bif (!((rdI row x4) == x1)) then o3 else o2) else none) else none) else none)) else none) else none) else none) else o2))))))) else none) else none) else none) else none) else none) else none) else (bif (true && ((row).all scalV && true)) then (some (.exit 2, ⟨[(4, .int .i64 k), (5, .pointer (some ⟨106, 0, none⟩)), (8, .int .i64 most)], [[.slice (some ⟨107, 0, none⟩) m 1], row]⟩)) else none))) := by kernel_rfl
def stRet : KX := ⟨[(2, .int .i64 0), (3, .bool false)], []⟩
def stEx (m : Nat) (k most : Int) (row : List Value) : KX := ⟨[(4, .int .i64 k), (5, .pointer (some ⟨106, 0, none⟩)), (8, .int .i64 most)], [[.slice (some ⟨107, 0, none⟩) m 1], row]⟩
abbrev MX : Int := 9223372036854775807
theorem rd {t : List Int} {j : Nat} (h : j < t.length) : rdI (ints .i64 t) j = t.getD j 0 := by
 rw [rdI_ints _ _ h, List.getD_eq_getElem?_getD, List.getElem?_eq_getElem h]; rfl
theorem max_if (a b : Int) : (if a > b then a else b) = max b a := by
 by_cases h : a > b
 ·rw [if_pos h]; omega
 ·rw [if_neg h]; omega
set_option maxHeartbeats 0 in
theorem next (l : List O6) (hl : l.length ≤ 4096) {s : List Int × Int} (hg : AHei.Good l.length s) {i : Nat} (hi : i < l.length) :
  rndK cfg [(156, A156.spec), (157, A157.spec)] [] 105 1 (stK 113 106 [(0, opsR l)] (stA l.length (l.length + 1) l.length s.2 i (ints .i64 s.1))) (endK 106 100 113 kp cr) =
  some (match AHei.step l.length MX MX s i l[i] with | some t => (.normal, stA l.length (l.length + 1) l.length t.2 ((i + 1 : Nat) : Int) (ints .i64 t.1)) | none => (.ret, stRet)) := by
 rw [round]
 dsimp only []
 have hlen := hg.len
 have h1 : decide ((i : Int) < Int.ofNat l.length) = true := decide_eq_true (by show (i : Int) < (l.length : Int); omega)
 have h2 := geI i
 have h3 : Nat.blt ((i : Int)).toNat l.length = true := by rw [Nat.blt_eq]; simpa using hi
 have h3' : Nat.blt ((i : Int)).toNat (l.length + 1) = true := by rw [Nat.blt_eq]; simp; omega
 have h4 : (0 + ((i : Int)).toNat * 6) = i * 6 := by simp
 have h4' : (0 + ((i : Int)).toNat * 1) = i := by simp
 have h5 := wrI i (by omega)
 have h6 : (0 + (((i + 1 : Nat) : Int)).toNat * 1) = i + 1 := by simp
 have h7 : decide ((0 : Int) ≤ ((i + 1 : Nat) : Int)) = true := decide_eq_true (by omega)
 have h8 : Nat.blt (((i + 1 : Nat) : Int)).toNat (l.length + 1) = true := by rw [Nat.blt_eq, Int.toNat_natCast]; omega
 have hv : ∀ t : List Int, t.length = l.length + 1 → ∀ j, j < l.length + 1 → isV (ints .i64 t) j (.i .i64) = true := fun t ht j hj => isV_ints _ _ (by omega)
 have hr : ∀ t : List Int, t.length = l.length + 1 → ∀ j, j < l.length + 1 → rdI (ints .i64 t) j = t.getD j 0 := fun t ht j hj => rd (by omega)
 have hp : ∀ t : List Int, t.length = l.length + 1 → ∀ j, j < l.length + 1 → ∀ g : Int, puts (ints .i64 t) j [.int .i64 g] = ints .i64 (t.set j g) := fun t ht j hj g => AHei.puts_ints (by omega) g
 have hb : ∀ t : List Int, t.length = l.length + 1 → ∀ j, j < l.length + 1 → Nat.ble (j + 1) (ints .i64 t).length = true := fun t ht j hj => by rw [Nat.ble_eq, ints_len]; omega
 have hs : ∀ t : List Int, t.length = l.length + 1 → ∀ j, ∀ g : Int, (t.set j g).length = l.length + 1 := fun t ht j g => by simpa using ht
 have hq : ∀ t : List Int, t.length = l.length + 1 → ∀ j, j < l.length + 1 → ∀ g : Int, ((t.set j g).getD j 0 == g) = true := fun t ht j hj g => by
  rw [List.getD_eq_getElem?_getD, List.getElem?_set_self (by omega)]
  exact beq_self_eq_true g
 have hq2 : ∀ t : List Int, t.length = l.length + 1 → ∀ j, j < l.length + 1 → ∀ g : Int, (t.set j g).getD j 0 = g := fun t ht j hj g => beq_iff_eq.1 (hq t ht j hj g)
 simp only [h1, h2, h3, h3', h4, h4', h5, h6, h7, h8, isL_ops l hi, op_k l hi, op_n l hi, op_t l hi, hv s.1 hlen i (by omega), hr s.1 hlen i (by omega), cond_true, Bool.true_and, ints_scal, List.length_singleton, Bool.and_true, max_if]
 generalize l[i] = o at *
 unfold AHei.step
 generalize hh : s.1.getD i 0 = h
 cases c1 : decide (h < 0)
 rotate_left
 ·rfl
 cases c2 : Ref.mayV o.1 o.2.1 o.2.2.1 i l.length MX MX
 ·rfl
 cases c3 : decide (h < (Ref.needsV o.1 o.2.1).1)
 rotate_left
 ·rfl
 have hh1 : h ≤ 1024 := by rw [← hh]; exact (hg.le _ (AHei.getD_mem (by omega))).2
 simp only [decide_eq_false_iff_not] at c1 c3
 obtain ⟨n1, n2, n3, n4⟩ := AHei.needs_ok (k := o.1) (n := o.2.1) (AHei.may6 c2)
 have hw : IntKind.wrap .i64 (h + (Ref.needsV o.1 o.2.1).2) = h + (Ref.needsV o.1 o.2.1).2 := wrap_in (by omega) (by omega)
 simp only [hw]
 generalize h + (Ref.needsV o.1 o.2.1).2 = g at *
 cases c4 : decide (g > 1024)
 rotate_left
 ·rfl
 simp only [cond_false, Bool.not_true, Bool.or_self, Bool.false_or]
 have hi1 : i + 1 < l.length + 1 := by omega
 unfold AHei.put
 cases k7 : o.1 == 7
 ·have k7' : (o.1 != 7) = true := by rw [bne, k7]; rfl
  cases k8 : o.1 == 8
  ·simp only [k7', cond_true, cond_false, Bool.or_self, Option.bind_some, hv s.1 hlen _ hi1, hr s.1 hlen _ hi1, hp s.1 hlen _ hi1, hb s.1 hlen _ hi1, hv _ (hs s.1 hlen _ _) _ hi1, hr _ (hs s.1 hlen _ _) _ hi1, hq s.1 hlen _ hi1, Bool.not_true, ints_scal]
   cases decide (s.1.getD (i + 1) 0 < 0)
   ·cases s.1.getD (i + 1) 0 == g <;> rfl
   ·rfl
  ·obtain ⟨m1, m2⟩ := AHei.may78 c2 (.inr (beq_iff_eq.1 k8))
   obtain ⟨N, hN⟩ := Int.eq_ofNat_of_zero_le (show 0 ≤ o.2.1 by omega)
   rw [hN] at m1 m2 ⊢
   have hNl : N < l.length + 1 := by omega
   have e1 : decide ((0 : Int) ≤ (N : Int)) = true := decide_eq_true (by omega)
   have e2 : Nat.blt N (l.length + 1) = true := by rw [Nat.blt_eq]; exact hNl
   have e3 : (0 + N * 1) = N := by simp
   have hls := hs s.1 hlen
   simp only [e1, e2, e3, Int.toNat_natCast, k7', cond_true, cond_false, Bool.false_or, hv s.1 hlen N hNl, hr s.1 hlen N hNl, hp s.1 hlen N hNl, hb s.1 hlen N hNl, hv _ (hls N g) N hNl, hr _ (hls N g) N hNl, hq s.1 hlen N hNl, hq2 s.1 hlen N hNl, Bool.not_true, hv s.1 hlen _ hi1, hr s.1 hlen _ hi1, hp s.1 hlen _ hi1, hb s.1 hlen _ hi1, hv _ (hls (i + 1) g) _ hi1, hr _ (hls (i + 1) g) _ hi1, hq s.1 hlen _ hi1, hv _ (hls N g) _ hi1, hr _ (hls N g) _ hi1, hp _ (hls N g) _ hi1, hb _ (hls N g) _ hi1, hv _ (hs _ (hls N g) (i + 1) g) _ hi1, hr _ (hs _ (hls N g) (i + 1) g) _ hi1, hq _ (hls N g) _ hi1, beq_self_eq_true, ints_scal]
   cases decide (s.1.getD N 0 < 0)
   ·simp only [cond_false]
    cases s.1.getD N 0 == g
    ·rfl
    ·simp only [cond_true, Option.bind_some]
     cases decide (s.1.getD (i + 1) 0 < 0)
     ·cases s.1.getD (i + 1) 0 == g <;> rfl
     ·rfl
   ·simp only [cond_true, Option.bind_some]
    cases decide ((s.1.set N g).getD (i + 1) 0 < 0)
    ·cases (s.1.set N g).getD (i + 1) 0 == g <;> rfl
    ·rfl
 ·have k7' : (o.1 != 7) = false := by rw [bne, k7]; rfl
  obtain ⟨m1, m2⟩ := AHei.may78 c2 (.inl (beq_iff_eq.1 k7))
  obtain ⟨N, hN⟩ := Int.eq_ofNat_of_zero_le (show 0 ≤ o.2.1 by omega)
  rw [hN] at m1 m2 ⊢
  have hNl : N < l.length + 1 := by omega
  have e1 : decide ((0 : Int) ≤ (N : Int)) = true := decide_eq_true (by omega)
  have e2 : Nat.blt N (l.length + 1) = true := by rw [Nat.blt_eq]; exact hNl
  have e3 : (0 + N * 1) = N := by simp
  have hls := hs s.1 hlen
  simp only [e1, e2, e3, Int.toNat_natCast, k7', cond_true, cond_false, Bool.true_or, hv s.1 hlen N hNl, hr s.1 hlen N hNl, hp s.1 hlen N hNl, hb s.1 hlen N hNl, hv _ (hls N g) N hNl, hr _ (hls N g) N hNl, hq2 s.1 hlen N hNl, beq_self_eq_true, Bool.not_true, ints_scal]
  cases decide (s.1.getD N 0 < 0)
  ·cases s.1.getD N 0 == g <;> rfl
  ·rfl
theorem last (l : List O6) {s : List Int × Int} (hg : AHei.Good l.length s) :
  rndK cfg [(156, A156.spec), (157, A157.spec)] [] 105 1 (stK 113 106 [(0, opsR l)] (stA l.length (l.length + 1) l.length s.2 l.length (ints .i64 s.1))) (endK 106 100 113 kp cr) =
  some (.exit 2, stEx (l.length + 1) l.length s.2 (ints .i64 s.1)) := by
 rw [round]
 dsimp only []
 have h1 := nltI l.length
 simp only [h1, cond_false, ints_scal, Bool.and_true, cond_true]
 rfl
def D : KD := ⟨113, 106, 100, [4, 5, 7, 8, 38, 39, 40], [0], fun s => match s.T.get 5 with
 | some (.pointer (some p)) => match cellsAt s.h p.block with
  | some [.slice (some q) _ _] => [(p.block, false), (q.block, true)]
  | _ => []
 | _ => [], fun x ro => match x.vs, x.cars, ro with
 | [(4, .int .i64 k), (5, .pointer (some ⟨106, 0, none⟩)), (7, .func (.func 155) ⟨[]⟩ ⟨[.pointer (some ⟨106, 0, none⟩)]⟩), (8, .int .i64 0), (38, .slice (some ⟨0, 0, none⟩) n 6), (39, .int .i64 m), (40, .int .i64 0)], [[.slice (some ⟨107, 0, none⟩) p 1], row], [(0, cs)] =>
  .need (rowP n m cs && (k == m && (Nat.ble n 4096 && (Nat.beq p (n + 1) && AHei.isF n row)))) (.br (AHei.fine m MX MX (opsOf cs) (AHei.first n, 0)) (.out (.exit 2, stEx p k (AHei.most m MX MX (opsOf cs) (AHei.first n, 0)) (ints .i64 (AHei.tall m MX MX (opsOf cs) (AHei.first n, 0))))) (.out (.ret, stRet)))
 | _, _, _ => .no⟩
def lp : LpK := ⟨105, 14, 1, D⟩
theorem chain {Step : KX → Ex → KX → Prop} {l : List O6} (hl : l.length ≤ 4096)
  (hn : ∀ s i (hi : i < l.length), AHei.Good l.length s → match AHei.step l.length MX MX s i l[i] with | some t => Step (stA l.length (l.length + 1) l.length s.2 i (ints .i64 s.1)) .normal (stA l.length (l.length + 1) l.length t.2 ((i + 1 : Nat) : Int) (ints .i64 t.1)) | none => Step (stA l.length (l.length + 1) l.length s.2 i (ints .i64 s.1)) .ret stRet)
  (he : ∀ s, AHei.Good l.length s → Step (stA l.length (l.length + 1) l.length s.2 l.length (ints .i64 s.1)) (.exit 2) (stEx (l.length + 1) l.length s.2 (ints .i64 s.1))) :
  ∀ (j i : Nat) (s : List Int × Int), i + j = l.length → AHei.Good l.length s → match AHei.run l.length MX MX i (l.drop i) s with | some t => ChainK Step (stA l.length (l.length + 1) l.length s.2 i (ints .i64 s.1)) (.exit 2) (stEx (l.length + 1) l.length t.2 (ints .i64 t.1)) | none => ChainK Step (stA l.length (l.length + 1) l.length s.2 i (ints .i64 s.1)) .ret stRet
 | 0, i, s, h, hg => by
  obtain rfl : i = l.length := by omega
  rw [List.drop_length]
  exact .stop (by simp) (he s hg)
 | j + 1, i, s, h, hg => by
  have hi : i < l.length := by omega
  rw [List.drop_eq_getElem_cons hi]
  unfold AHei.run
  have hs := hn s i hi hg
  cases e : AHei.step l.length MX MX s i l[i] with
  | none => rw [e] at hs; exact .stop (by simp) hs
  | some t =>
   rw [e] at hs
   have hgt := AHei.step_good hg e
   have ih := chain hl hn he j (i + 1) t (by omega) hgt
   simp only [Option.bind_some]
   cases e2 : AHei.run l.length MX MX (i + 1) (l.drop (i + 1)) t with
   | none => rw [e2] at ih; exact .next hs ih
   | some u => rw [e2] at ih; exact .next hs ih
theorem lp_fine : LpFine Tryz.prog La 4 lp := by
 refine ⟨by kernel_rfl, fun c base I hP hn hG hI hIL x ro ex y e => ?_⟩
 obtain ⟨vs, cars⟩ := x
 simp only [lp, D] at e ⊢
 split at e
 ·rename_i k n m p row cs
  obtain ⟨g1, g2⟩ := GT.need_eval e
  simp only [Bool.and_eq_true, beq_iff_eq] at g1
  obtain ⟨g3, rfl, g4, g5, g6⟩ := g1
  obtain ⟨rfl, hn2, h4, h5⟩ := rowP_ok g3
  generalize opsOf cs = l at h4 h5 g2
  subst h4 h5
  have g4 := Nat.le_of_ble_eq_true g4
  obtain rfl := Nat.eq_of_beq_eq_true g5
  obtain rfl := AHei.isF_ok g6
  have key := chain (Step := @StepK (etaB base) c base I (loopAt Tryz.prog 105 1) 113 106 100 [(0, opsR l)]) g4 (fun s i hi hg => by
    have hr := next l g4 hg hi
    cases hs : AHei.step l.length MX MX s i l[i] with
    | none => rw [hs] at hr; exact stepT prog_mix prog_names (by simpa using ⟨A156.spec_ok, A157.spec_ok⟩) (by simp) hP hn hG hI hIL hr
    | some t => rw [hs] at hr; exact stepT prog_mix prog_names (by simpa using ⟨A156.spec_ok, A157.spec_ok⟩) (by simp) hP hn hG hI hIL hr)
   (fun s hg => stepT prog_mix prog_names (by simpa using ⟨A156.spec_ok, A157.spec_ok⟩) (by simp) hP hn hG hI hIL (last l hg)) l.length 0 (AHei.first l.length, 0) (by omega) (AHei.first_good _)
  rw [List.drop_zero] at key
  unfold AHei.fine AHei.most AHei.tall at g2
  cases hrun : AHei.run l.length MX MX 0 l (AHei.first l.length, 0) with
  | none =>
   rw [hrun] at key
   rw [show (Int.ofNat l.length) = (l.length : Int) from rfl, hrun] at g2
   cases g2; exact key
  | some t =>
   rw [hrun] at key
   rw [show (Int.ofNat l.length) = (l.length : Int) from rfl, hrun] at g2
   cases g2; exact key
 ·cases e
end A105L1
end
section
open Go Go.Proofs
namespace A60L1
noncomputable def cfg : Cfg := cfgK Tryz.prog 4 (gpT [(115, A115.spec), (116, A116.spec)]) (ltT 4 [])
def stA (n : Nat) (lf la k most i : Int) (m : Nat) (row : List Value) : KX := ⟨[(0, .slice (some ⟨0, 0, none⟩) n 6), (1, .int .i64 lf), (2, .int .i64 la), (7, .int .i64 k), (8, .slice (some ⟨104, 0, none⟩) m 1), (10, .int .i64 most), (11, .int .i64 i)], [row]⟩
def kp : Ex → List Nat
 | .normal => [0, 1, 2, 7, 8, 10, 11]
 | .exit _ => [7, 8, 10]
 | .ret => [6]
def cr : Ex → St → List (Nat × Bool) := fun e s => match e with
 | .ret => []
 | _ => match s.T.get 8 with
  | some (.slice (some q) _ _) => [(q.block, true)]
  | _ => []
set_option maxRecDepth 1000000 in
theorem round (n : Nat) (lf la k most i : Int) (m : Nat) (row : List Value) (cs : List Value) : rndK cfg [(115, A115.spec), (116, A116.spec)] [] 60 1 (stK 148 104 [(0, cs)] (stA n lf la k most i m row)) (endK 104 100 148 kp cr) = (let x5 := IntKind.wrap .i64 (i + 1); let x3 := 0 + ((x5).toNat * 1); let x7 := 0 + ((i).toNat * 6); let x2 := rdI cs (x7 + 1); let x4 := 0 + ((x2).toNat * 1); let x9 := 0 + ((i).toNat * 1); let x1 := IntKind.wrap .i64 ((IntKind.wrap .i64 ((rdI row x9) - (Ref.asksV (rdI cs x7) x2).1)) + (Ref.asksV (rdI cs x7) x2).2); let x6 := if x1 > most then x1 else most; let x8 := rdI (puts row x3 [.int .i64 x1]) x4; let o4 : Option (Ex × KX) := (bif decide (0 ≤ x5) then (bif Nat.blt (x5).toNat m then (bif Nat.ble (x3 + 1) (row).length then (bif (((puts row x3 [.int .i64 x1])).all scalV && true) then (some (.normal, ⟨[(0, .slice (some ⟨0, 0, none⟩) n 6), (1, .int .i64 lf), (2, .int .i64 la), (7, .int .i64 k), (8, .slice (some ⟨104, 0, none⟩) m 1), (10, .int .i64 x6), (11, .int .i64 x5)], [(puts row x3 [.int .i64 x1])]⟩)) else none) else none) else none) else none); let o5 : Option (Ex × KX) := (some (.ret, ⟨[(6, .int .i64 0)], []⟩)); let o1 : Option (Ex × KX) := (bif decide (0 ≤ x5) then (bif Nat.blt (x5).toNat m then (bif Nat.ble (x3 + 1) (row).length then (bif decide (0 ≤ x2) then (bif Nat.blt (x2).toNat m then (bif isV (puts row x3 [.int .i64 x1]) x4 (.i .i64) then (bif decide (x8 ≥ 0) then (bif decide (0 ≤ x2) then (bif Nat.blt (x2).toNat m then (bif isV (puts row x3 [.int .i64 x1]) x4 (.i .i64) then (bif (x8 != x1) then o5 else (bif decide (0 ≤ x2) then (bif Nat.blt (x2).toNat m then (bif Nat.ble (x4 + 1) ((puts row x3 [.int .i64 x1])).length then (bif (((puts (puts row x3 [Value.int .i64 x1]) x4 [.int .i64 x1])).all scalV && true) then (some (.normal, ⟨[(0, .slice (some ⟨0, 0, none⟩) n 6), (1, .int .i64 lf), (2, .int .i64 la), (7, .int .i64 k), (8, .slice (some ⟨104, 0, none⟩) m 1), (10, .int .i64 x6), (11, .int .i64 x5)], [(puts (puts row x3 [Value.int .i64 x1]) x4 [.int .i64 x1])]⟩)) else none) else none) else none) else none)) else none) else none) else none) else (bif decide (0 ≤ x2) then (bif Nat.blt (x2).toNat m then (bif Nat.ble (x4 + 1) ((puts row x3 [.int .i64 x1])).length then (bif (((puts (puts row x3 [Value.int .i64 x1]) x4 [.int .i64 x1])).all scalV && true) then (some (.normal, ⟨[(0, .slice (some ⟨0, 0, none⟩) n 6), (1, .int .i64 lf), (2, .int .i64 la), (7, .int .i64 k), (8, .slice (some ⟨104, 0, none⟩) m 1), (10, .int .i64 x6), (11, .int .i64 x5)], [(puts (puts row x3 [Value.int .i64 x1]) x4 [.int .i64 x1])]⟩)) else none) else none) else none) else none)) else none) else none) else none) else none) else none) else none); let o2 : Option (Ex × KX) := (bif decide (0 ≤ i) then (bif Nat.blt (i).toNat n then (bif isV cs (x7 + 1) (.i .i64) then (bif decide (0 ≤ x2) then (bif Nat.blt (x2).toNat m then (bif isV row x4 (.i .i64) then (bif decide ((rdI row x4) ≥ 0) then (bif decide (0 ≤ x2) then (bif Nat.blt (x2).toNat m then (bif isV row x4 (.i .i64) then (bif ((rdI row x4) != x1) then o5 else (bif decide (0 ≤ x2) then (bif Nat.blt (x2).toNat m then (bif Nat.ble (x4 + 1) (row).length then (bif (((puts row x4 [.int .i64 x1])).all scalV && true) then (some (.normal, ⟨[(0, .slice (some ⟨0, 0, none⟩) n 6), (1, .int .i64 lf), (2, .int .i64 la), (7, .int .i64 k), (8, .slice (some ⟨104, 0, none⟩) m 1), (10, .int .i64 x6), (11, .int .i64 x5)], [(puts row x4 [.int .i64 x1])]⟩)) else none) else none) else none) else none)) else none) else none) else none) else (bif decide (0 ≤ x2) then (bif Nat.blt (x2).toNat m then (bif Nat.ble (x4 + 1) (row).length then (bif (((puts row x4 [.int .i64 x1])).all scalV && true) then (some (.normal, ⟨[(0, .slice (some ⟨0, 0, none⟩) n 6), (1, .int .i64 lf), (2, .int .i64 la), (7, .int .i64 k), (8, .slice (some ⟨104, 0, none⟩) m 1), (10, .int .i64 x6), (11, .int .i64 x5)], [(puts row x4 [.int .i64 x1])]⟩)) else none) else none) else none) else none)) else none) else none) else none) else none) else none) else none); let o3 : Option (Ex × KX) := (bif decide (0 ≤ i) then (bif Nat.blt (i).toNat n then (bif isV cs (x7 + 1) (.i .i64) then (bif decide (0 ≤ x5) then (bif Nat.blt (x5).toNat m then (bif isV row x3 (.i .i64) then (bif decide ((rdI row x3) ≥ 0) then (bif decide (0 ≤ x5) then (bif Nat.blt (x5).toNat m then (bif isV row x3 (.i .i64) then (bif ((rdI row x3) != x1) then o5 else o1) else none) else none) else none) else o1) else none) else none) else none) else none) else none) else none); (bif decide (i < k) then (bif decide (0 ≤ i) then (bif Nat.blt (i).toNat m then (bif isV row x9 (.i .i64) then (bif decide (0 ≤ i) then (bif Nat.blt (i).toNat n then (bif isL cs x7 [(.i .i64), (.i .i64), .s, (.i .i64), (.i .i64), .s] then (bif decide (0 ≤ i) then (bif Nat.blt (i).toNat n then (bif isL cs x7 [(.i .i64), (.i .i64), .s, (.i .i64), (.i .i64), .s] then (bif (!(Ref.mayV (rdI cs x7) x2 (rdS cs ((x7 + 1) + 1)) i k lf la)) then o5 else (bif decide ((rdI row x9) < (Ref.asksV (rdI cs x7) x2).1) then o5 else (bif decide (x1 > 1024) then o5 else (bif decide (0 ≤ i) then (bif Nat.blt (i).toNat n then (bif isV cs (x7 + 0) (.i .i64) then (bif ((rdI cs (x7 + 0)) != 7) then (bif decide (0 ≤ i) then (bif Nat.blt (i).toNat n then (bif isV cs (x7 + 0) (.i .i64) then (bif ((rdI cs (x7 + 0)) == 7) then o3 else (bif decide (0 ≤ i) then (bif Nat.blt (i).toNat n then (bif isV cs (x7 + 0) (.i .i64) then (bif ((rdI cs (x7 + 0)) == 8) then o3 else (bif decide (0 ≤ x5) then (bif Nat.blt (x5).toNat m then (bif isV row x3 (.i .i64) then (bif decide ((rdI row x3) ≥ 0) then (bif decide (0 ≤ x5) then (bif Nat.blt (x5).toNat m then (bif isV row x3 (.i .i64) then (bif ((rdI row x3) != x1) then o5 else o4) else none) else none) else none) else o4) else none) else none) else none)) else none) else none) else none)) else none) else none) else none) else (bif decide (0 ≤ i) then (bif Nat.blt (i).toNat n then (bif isV cs (x7 + 0) (.i .i64) then (bif ((rdI cs (x7 + 0)) == 7) then o2 else (bif decide (0 ≤ i) then (bif Nat.blt (i).toNat n then (bif isV cs (x7 + 0) (.i .i64) then (bif ((rdI cs (x7 + 0)) == 8) then o2 else (bif ((row).all scalV && true) then (some (.normal, ⟨[(0, .slice (some ⟨0, 0, none⟩) n 6), (1, .int .i64 lf), (2, .int .i64 la), (7, .int .i64 k), (8, .slice (some ⟨104, 0, none⟩) m 1), (10, .int .i64 x6), (11, .int .i64 x5)], [row]⟩)) else none)) else none) else none) else none)) else none) else none) else none)) else none) else none) else none)))) else none) else none) else none) else none) else none) else none) else none) else none) else none) else (bif ((row).all scalV && true) then (some (.exit 2, ⟨[(7, .int .i64 k), (8, .slice (some ⟨104, 0, none⟩) m 1), (10, .int .i64 most)], [row]⟩)) else none))) := by kernel_rfl
def stRet : KX := ⟨[(6, .int .i64 0)], []⟩
def stEx (m : Nat) (k most : Int) (row : List Value) : KX := ⟨[(7, .int .i64 k), (8, .slice (some ⟨104, 0, none⟩) m 1), (10, .int .i64 most)], [row]⟩
theorem isV0 (l : List O6) {j : Nat} (h : j < l.length) : isV (opsR l) (j * 6 + 0) (.i .i64) = true := by
 unfold isV; rw [opsR_at l h 0 (by omega)]; rfl
theorem isV1 (l : List O6) {j : Nat} (h : j < l.length) : isV (opsR l) (j * 6 + 1) (.i .i64) = true := by
 unfold isV; rw [opsR_at l h 1 (by omega)]; rfl
set_option maxHeartbeats 0 in
theorem next (l : List O6) (hl : l.length ≤ 4096) (lf la : Int) {s : List Int × Int} (hg : AHei.Good l.length s) {i : Nat} (hi : i < l.length) :
  rndK cfg [(115, A115.spec), (116, A116.spec)] [] 60 1 (stK 148 104 [(0, opsR l)] (stA l.length lf la l.length s.2 i (l.length + 1) (ints .i64 s.1))) (endK 104 100 148 kp cr) =
  some (match AHei.stepR l.length lf la s i l[i] with | some t => (.normal, stA l.length lf la l.length t.2 ((i + 1 : Nat) : Int) (l.length + 1) (ints .i64 t.1)) | none => (.ret, stRet)) := by
 rw [round]
 dsimp only []
 have hlen := hg.len
 have h1 : decide ((i : Int) < (l.length : Int)) = true := decide_eq_true (by omega)
 have h2 := geI i
 have h3 : Nat.blt ((i : Int)).toNat l.length = true := by rw [Nat.blt_eq]; simpa using hi
 have h3' : Nat.blt ((i : Int)).toNat (l.length + 1) = true := by rw [Nat.blt_eq]; simp; omega
 have h4 : (0 + ((i : Int)).toNat * 6) = i * 6 := by simp
 have h4' : (0 + ((i : Int)).toNat * 1) = i := by simp
 have h5 := wrI i (by omega)
 have h6 : (0 + (((i + 1 : Nat) : Int)).toNat * 1) = i + 1 := by simp
 have h7 : decide ((0 : Int) ≤ ((i + 1 : Nat) : Int)) = true := decide_eq_true (by omega)
 have h8 : Nat.blt (((i + 1 : Nat) : Int)).toNat (l.length + 1) = true := by rw [Nat.blt_eq, Int.toNat_natCast]; omega
 have hk0 : rdI (opsR l) (i * 6 + 0) = l[i].1 := op_k l hi
 have hv : ∀ t : List Int, t.length = l.length + 1 → ∀ j, j < l.length + 1 → isV (ints .i64 t) j (.i .i64) = true := fun t ht j hj => isV_ints _ _ (by omega)
 have hr : ∀ t : List Int, t.length = l.length + 1 → ∀ j, j < l.length + 1 → rdI (ints .i64 t) j = t.getD j 0 := fun t ht j hj => A105L1.rd (by omega)
 have hp : ∀ t : List Int, t.length = l.length + 1 → ∀ j, j < l.length + 1 → ∀ g : Int, puts (ints .i64 t) j [.int .i64 g] = ints .i64 (t.set j g) := fun t ht j hj g => AHei.puts_ints (by omega) g
 have hb : ∀ t : List Int, t.length = l.length + 1 → ∀ j, j < l.length + 1 → Nat.ble (j + 1) (ints .i64 t).length = true := fun t ht j hj => by rw [Nat.ble_eq, ints_len]; omega
 have hs : ∀ t : List Int, t.length = l.length + 1 → ∀ j, ∀ g : Int, (t.set j g).length = l.length + 1 := fun t ht j g => by simpa using ht
 simp only [h1, h2, h3, h3', h4, h4', h5, h6, h7, h8, isL_ops l hi, isV0 l hi, isV1 l hi, hk0, op_k l hi, op_n l hi, op_t l hi, hv s.1 hlen i (by omega), hr s.1 hlen i (by omega), cond_true, ints_scal, Bool.and_true, A105L1.max_if]
 generalize l[i] = o at *
 unfold AHei.stepR
 generalize hh : s.1.getD i 0 = h
 cases c2 : Ref.mayV o.1 o.2.1 o.2.2.1 i l.length lf la
 ·rfl
 cases c3 : decide (h < (Ref.asksV o.1 o.2.1).1)
 rotate_left
 ·rfl
 have hh1 : -1 ≤ h ∧ h ≤ 1024 := by rw [← hh]; exact (hg.le _ (AHei.getD_mem (by omega)))
 simp only [decide_eq_false_iff_not] at c3
 obtain ⟨a1, a2⟩ := AHei.asks_ok (k := o.1) (n := o.2.1) (AHei.may6 c2)
 obtain ⟨n1, n2, n3, n4⟩ := AHei.needs_ok (k := o.1) (n := o.2.1) (AHei.may6 c2)
 have hw : IntKind.wrap .i64 (IntKind.wrap .i64 (h - (Ref.asksV o.1 o.2.1).1) + (Ref.asksV o.1 o.2.1).2) = h - (Ref.asksV o.1 o.2.1).1 + (Ref.asksV o.1 o.2.1).2 := by
  rw [show IntKind.wrap .i64 (h - (Ref.asksV o.1 o.2.1).1) = h - (Ref.asksV o.1 o.2.1).1 from wrap_in (by omega) (by omega), wrap_in (by omega) (by omega)]
 simp only [hw]
 generalize h - (Ref.asksV o.1 o.2.1).1 + (Ref.asksV o.1 o.2.1).2 = g at *
 cases c4 : decide (g > 1024)
 rotate_left
 ·rfl
 simp only [cond_false, Bool.not_true, Bool.or_self]
 have hi1 : i + 1 < l.length + 1 := by omega
 have hls := hs s.1 hlen
 unfold AHei.putR
 cases k7 : o.1 == 7
 ·have k7' : (o.1 != 7) = true := by rw [bne, k7]; rfl
  cases k8 : o.1 == 8
  ·simp only [k7', cond_true, cond_false, Bool.or_self, hv s.1 hlen _ hi1, hr s.1 hlen _ hi1, hp s.1 hlen _ hi1, hb s.1 hlen _ hi1, ints_scal]
   cases decide (s.1.getD (i + 1) 0 ≥ 0) <;> cases s.1.getD (i + 1) 0 != g <;> rfl
  ·obtain ⟨m1, m2⟩ := AHei.may78 c2 (.inr (beq_iff_eq.1 k8))
   obtain ⟨N, hN⟩ := Int.eq_ofNat_of_zero_le (show 0 ≤ o.2.1 by omega)
   rw [hN] at m1 m2 ⊢
   have hNl : N < l.length + 1 := by omega
   have e1 : decide ((0 : Int) ≤ (N : Int)) = true := decide_eq_true (by omega)
   have e2 : Nat.blt N (l.length + 1) = true := by rw [Nat.blt_eq]; exact hNl
   have e3 : (0 + N * 1) = N := by simp
   simp only [e1, e2, e3, Int.toNat_natCast, k7', cond_true, cond_false, Bool.false_or, hv s.1 hlen _ hi1, hr s.1 hlen _ hi1, hp s.1 hlen _ hi1, hb s.1 hlen _ hi1, hv _ (hls (i + 1) g) _ hNl, hr _ (hls (i + 1) g) _ hNl, hp _ (hls (i + 1) g) _ hNl, hb _ (hls (i + 1) g) _ hNl, ints_scal]
   cases decide (s.1.getD (i + 1) 0 ≥ 0)
   ·simp only [Bool.false_and, cond_false, Option.bind_some]
    cases decide ((s.1.set (i + 1) g).getD N 0 ≥ 0) <;> cases (s.1.set (i + 1) g).getD N 0 != g <;> rfl
   ·cases s.1.getD (i + 1) 0 != g
    ·simp only [Bool.true_and, cond_true, cond_false, Option.bind_some]
     cases decide ((s.1.set (i + 1) g).getD N 0 ≥ 0) <;> cases (s.1.set (i + 1) g).getD N 0 != g <;> rfl
    ·rfl
 ·have k7' : (o.1 != 7) = false := by rw [bne, k7]; rfl
  obtain ⟨m1, m2⟩ := AHei.may78 c2 (.inl (beq_iff_eq.1 k7))
  obtain ⟨N, hN⟩ := Int.eq_ofNat_of_zero_le (show 0 ≤ o.2.1 by omega)
  rw [hN] at m1 m2 ⊢
  have hNl : N < l.length + 1 := by omega
  have e1 : decide ((0 : Int) ≤ (N : Int)) = true := decide_eq_true (by omega)
  have e2 : Nat.blt N (l.length + 1) = true := by rw [Nat.blt_eq]; exact hNl
  have e3 : (0 + N * 1) = N := by simp
  simp only [e1, e2, e3, Int.toNat_natCast, k7', cond_true, cond_false, Bool.true_or, Option.bind_some, hv s.1 hlen N hNl, hr s.1 hlen N hNl, hp s.1 hlen N hNl, hb s.1 hlen N hNl, ints_scal]
  cases decide (s.1.getD N 0 ≥ 0) <;> cases s.1.getD N 0 != g <;> rfl
theorem last (l : List O6) (lf la : Int) {s : List Int × Int} (hg : AHei.Good l.length s) :
  rndK cfg [(115, A115.spec), (116, A116.spec)] [] 60 1 (stK 148 104 [(0, opsR l)] (stA l.length lf la l.length s.2 l.length (l.length + 1) (ints .i64 s.1))) (endK 104 100 148 kp cr) =
  some (.exit 2, stEx (l.length + 1) l.length s.2 (ints .i64 s.1)) := by
 rw [round]
 dsimp only []
 have h1 : decide ((l.length : Int) < (l.length : Int)) = false := decide_eq_false (by omega)
 simp only [h1, cond_false, ints_scal, Bool.and_true, cond_true]
 rfl
def D : KD := ⟨148, 104, 100, [0, 1, 2, 7, 8, 10, 11], [0], fun s => match s.T.get 8 with
 | some (.slice (some q) _ _) => [(q.block, true)]
 | _ => [], fun x ro => match x.vs, x.cars, ro with
 | [(0, .slice (some ⟨0, 0, none⟩) n 6), (1, .int .i64 lf), (2, .int .i64 la), (7, .int .i64 k), (8, .slice (some ⟨104, 0, none⟩) p 1), (10, .int .i64 0), (11, .int .i64 0)], [row], [(0, cs)] =>
  .need (rowP n k cs && (Nat.ble n 4096 && (Nat.beq p (n + 1) && AHei.isF n row))) (.br (AHei.fine k lf la (opsOf cs) (AHei.first n, 0)) (.out (.exit 2, stEx p k (AHei.most k lf la (opsOf cs) (AHei.first n, 0)) (ints .i64 (AHei.tall k lf la (opsOf cs) (AHei.first n, 0))))) (.out (.ret, stRet)))
 | _, _, _ => .no⟩
def lp : LpK := ⟨60, 12, 1, D⟩
theorem chain {Step : KX → Ex → KX → Prop} {l : List O6} {lf la : Int} (hl : l.length ≤ 4096)
  (hn : ∀ s i (hi : i < l.length), AHei.Good l.length s → match AHei.stepR l.length lf la s i l[i] with | some t => Step (stA l.length lf la l.length s.2 i (l.length + 1) (ints .i64 s.1)) .normal (stA l.length lf la l.length t.2 ((i + 1 : Nat) : Int) (l.length + 1) (ints .i64 t.1)) | none => Step (stA l.length lf la l.length s.2 i (l.length + 1) (ints .i64 s.1)) .ret stRet)
  (he : ∀ s, AHei.Good l.length s → Step (stA l.length lf la l.length s.2 l.length (l.length + 1) (ints .i64 s.1)) (.exit 2) (stEx (l.length + 1) l.length s.2 (ints .i64 s.1))) :
  ∀ (j i : Nat) (s : List Int × Int), i + j = l.length → AHei.Good l.length s → match AHei.runR l.length lf la i (l.drop i) s with | some t => ChainK Step (stA l.length lf la l.length s.2 i (l.length + 1) (ints .i64 s.1)) (.exit 2) (stEx (l.length + 1) l.length t.2 (ints .i64 t.1)) | none => ChainK Step (stA l.length lf la l.length s.2 i (l.length + 1) (ints .i64 s.1)) .ret stRet
 | 0, i, s, h, hg => by
  obtain rfl : i = l.length := by omega
  rw [List.drop_length]
  exact .stop (by simp) (he s hg)
 | j + 1, i, s, h, hg => by
  have hi : i < l.length := by omega
  rw [List.drop_eq_getElem_cons hi]
  unfold AHei.runR
  have hs := hn s i hi hg
  cases e : AHei.stepR l.length lf la s i l[i] with
  | none => rw [e] at hs; exact .stop (by simp) hs
  | some t =>
   rw [e] at hs
   have hgt := AHei.step_good hg (AHei.stepR_eq ▸ e)
   have ih := chain hl hn he j (i + 1) t (by omega) hgt
   simp only [Option.bind_some]
   cases e2 : AHei.runR l.length lf la (i + 1) (l.drop (i + 1)) t with
   | none => rw [e2] at ih; exact .next hs ih
   | some u => rw [e2] at ih; exact .next hs ih
theorem lp_fine : LpFine Tryz.prog La 4 lp := by
 refine ⟨by kernel_rfl, fun c base I hP hn hG hI hIL x ro ex y e => ?_⟩
 obtain ⟨vs, cars⟩ := x
 simp only [lp, D] at e ⊢
 split at e
 ·rename_i n lf la k p row cs
  obtain ⟨g1, g2⟩ := GT.need_eval e
  simp only [Bool.and_eq_true] at g1
  obtain ⟨g3, g4, g5, g6⟩ := g1
  obtain ⟨rfl, hn2, h4, h5⟩ := rowP_ok g3
  generalize opsOf cs = l at h4 h5 g2
  subst h4 h5
  have g4 := Nat.le_of_ble_eq_true g4
  obtain rfl := Nat.eq_of_beq_eq_true g5
  obtain rfl := AHei.isF_ok g6
  have key := chain (Step := @StepK (etaB base) c base I (loopAt Tryz.prog 60 1) 148 104 100 [(0, opsR l)]) (lf := lf) (la := la) g4 (fun s i hi hg => by
    have hr := next l g4 lf la hg hi
    cases hs : AHei.stepR l.length lf la s i l[i] with
    | none => rw [hs] at hr; exact stepT prog_mix prog_names (by simpa using ⟨A115.spec_ok, A116.spec_ok⟩) (by simp) hP hn hG hI hIL hr
    | some t => rw [hs] at hr; exact stepT prog_mix prog_names (by simpa using ⟨A115.spec_ok, A116.spec_ok⟩) (by simp) hP hn hG hI hIL hr)
   (fun s hg => stepT prog_mix prog_names (by simpa using ⟨A115.spec_ok, A116.spec_ok⟩) (by simp) hP hn hG hI hIL (last l lf la hg)) l.length 0 (AHei.first l.length, 0) (by omega) (AHei.first_good _)
  rw [List.drop_zero, AHei.runR_eq] at key
  unfold AHei.fine AHei.most AHei.tall at g2
  cases hrun : AHei.run l.length lf la 0 l (AHei.first l.length, 0) with
  | none =>
   rw [hrun] at key
   rw [show (Int.ofNat l.length) = (l.length : Int) from rfl, hrun] at g2
   cases g2; exact key
  | some t =>
   rw [hrun] at key
   rw [show (Int.ofNat l.length) = (l.length : Int) from rfl, hrun] at g2
   cases g2; exact key
 ·cases e
end A60L1
end
section
open Go Go.Proofs
namespace A60
def T (m0 : Nat) (c0 : List Value) (a1 : Int) (a2 : Int) : GT Value := let x1 := AHei.tall (Int.ofNat m0) a1 a2 (opsOf c0) ((AHei.first m0), 0); let x2 := 0 + (((Int.ofNat m0)).toNat * 1); (.br (((Int.ofNat m0) == 0)) (.out (.int .i64 0)) (.br (decide ((Int.ofNat m0) > 4096)) (.out (.int .i64 0)) (.br ((decide ((Int.ofNat m0) = (Int.ofNat m0)) && Nat.ble m0 4096)) (.br (((((Value.int .i64 0 :: AHei.rowM m0)).all scalV && true) && ((c0).all scalV && true))) (.br (((rowP m0 (Int.ofNat m0) c0) && (Nat.ble m0 4096 && (Nat.beq (m0 + 1) (m0 + 1) && (AHei.isF m0 (Value.int .i64 0 :: AHei.rowM m0)))))) (.br ((AHei.fine (Int.ofNat m0) a1 a2 (opsOf c0) ((AHei.first m0), 0))) (.br (Nat.blt ((Int.ofNat m0)).toNat (m0 + 1)) (.br (isV ((x1).map (Value.int IntKind.i64)) x2 (.i .i64)) (.br (((rdI ((x1).map (Value.int IntKind.i64)) x2) != 1)) (.out (.int .i64 0)) (.out (.int .i64 (AHei.most (Int.ofNat m0) a1 a2 (opsOf c0) ((AHei.first m0), 0))))) .no) .no) (.out (.int .i64 0))) .no) .no) .no)))
set_option maxRecDepth 1000000 in
theorem run (m0 : Nat) (c0 : List Value) (a1 : Int) (a2 : Int) : runK 4 [(115, A115.spec), (116, A116.spec)] [A60L0.lp, A60L1.lp] 60 [.sl m0 6 c0, .v (.int .i64 a1), .v (.int .i64 a2)] = (T m0 c0 a1 a2).eval := by kernel_rfl
theorem T_ok (l : List O6) (lf la : Int) (hl : l.length < 2199023255552) : (T l.length (opsR l) lf la).eval = some (.int .i64 (AHei.heightsR lf la l)) := by
 have e0 : Int.ofNat l.length = (l.length : Int) := rfl
 unfold T AHei.heightsR
 simp only [GT.eval, e0]
 cases h0 : (l.length : Int) == 0
 rotate_left
 ·rfl
 have h0' := beq_eq_false_iff_ne.1 h0
 cases h1 : decide ((l.length : Int) > 4096)
 rotate_left
 ·rfl
 have h1' : l.length ≤ 4096 := by have := of_decide_eq_false h1; omega
 have a8 : (Value.int .i64 0 :: AHei.rowM l.length) = ints .i64 (AHei.first l.length) := rfl
 have a9 : rowP l.length (l.length : Int) (opsR l) = true := rowP_ops l hl
 have a10 : Nat.ble l.length 4096 = true := by rw [Nat.ble_eq]; exact h1'
 have a11 : AHei.isF l.length (ints .i64 (AHei.first l.length)) = true := AHei.isF_of _
 have a12 : Nat.blt l.length (l.length + 1) = true := by rw [Nat.blt_eq]; omega
 have a13 : 0 + l.length * 1 = l.length := by omega
 simp only [a8, a9, a10, a11, a12, a13, Int.toNat_natCast, ints_scal, opsR_scal, opsOf_ops, decide_true, Nat.beq_refl, Bool.and_self, Bool.and_true, Bool.true_and, cond_true, cond_false]
 cases hf : AHei.fine l.length lf la l (AHei.first l.length, 0)
 ·rfl
 ·have ht := AHei.tall_len hf
  have hlt : l.length < (AHei.tall l.length lf la l (AHei.first l.length, 0)).length := by omega
  have b1 := isV_ints .i64 _ hlt
  have b2 := A105L1.rd hlt
  unfold ints at b1 b2
  simp only [b1, b2, cond_true]
  cases (AHei.tall l.length lf la l (AHei.first l.length, 0)).getD l.length 0 != 1 <;> rfl
def spec : Spec := fun aa => match aa with
 | [.sl n 6 cs, .v (.int .i64 lf), .v (.int .i64 la)] => some (.need (rowP n (Int.ofNat n) cs) (.out (.int .i64 (AHei.heightsR lf la (opsOf cs)))))
 | _ => none
theorem spec_ok : SpecOk Tryz.prog La 60 spec := ⟨fnOk_ok (by kernel_rfl), fun aa t v h e => by
 unfold spec at h
 split at h
 ·rename_i n cs lf la
  cases h
  obtain ⟨g1, g2⟩ := GT.need_eval e
  cases g2
  obtain ⟨_, hn, h4, h5⟩ := rowP_ok g1
  generalize opsOf cs = l at h4 h5
  subst h4 h5
  exact ⟨rfl, callT (n0 := 4) (k := 12) La_below prog_mix prog_names (by simpa using ⟨A115.spec_ok, A116.spec_ok⟩) (by simpa using ⟨A60L0.lp_fine, A60L1.lp_fine⟩) (by decide) (by simp) rfl ((run _ _ _ _).trans (T_ok l lf la hn))⟩
 ·cases h⟩
end A60
end
section
open Go Go.Proofs
namespace A21
def T (m0 : Nat) (c0 : List Value) (a1 : Int) (a2 : Int) : GT Value := (.br (((Nat.ble (0 + (m0 * 6)) (c0).length && (((((c0).drop 0)).take (m0 * 6))).all scalV) && (true && (true && true)))) (.br ((rowP m0 (Int.ofNat m0) ((((c0).drop 0)).take (m0 * 6)))) (.br (((AHei.heightsR a1 a2 (opsOf ((((c0).drop 0)).take (m0 * 6)))) == 0)) (.out (.int .i64 120)) (.out (.int .i64 0))) .no) .no)
set_option maxRecDepth 1000000 in
theorem run (m0 : Nat) (c0 : List Value) (a1 : Int) (a2 : Int) : runK 4 [(60, A60.spec)] [] 21 [.sl m0 6 c0, .v (.int .i64 a1), .v (.int .i64 a2)] = (T m0 c0 a1 a2).eval := by kernel_rfl
theorem row_all (l : List O6) : ((opsR l).drop 0).take (l.length * 6) = opsR l := by rw [List.drop_zero, List.take_of_length_le (by rw [opsR_len]; exact Nat.le_refl _)]
theorem T_ok (l : List O6) (lf la : Int) (hl : l.length < 2199023255552) : (T l.length (opsR l) lf la).eval = some (.int .i64 (AHei.checkV lf la l)) := by
 unfold T AHei.checkV
 have h1 : Nat.ble (0 + l.length * 6) (opsR l).length = true := by rw [Nat.ble_eq, opsR_len]; omega
 have h2 : rowP l.length (Int.ofNat l.length) (opsR l) = true := rowP_ops l hl
 simp only [row_all, h1, h2, opsR_scal, opsOf_ops, GT.eval, AHei.heightsR_zero, Bool.and_self, cond_true]
 cases (AHei.heights lf la l).2 <;> rfl
def spec : Spec := fun aa => match aa with
 | [.sl n 6 cs, .v (.int .i64 lf), .v (.int .i64 la)] => some (.need (rowP n (Int.ofNat n) cs) (.out (.int .i64 (AHei.checkV lf la (opsOf cs)))))
 | _ => none
theorem spec_ok : SpecOk Tryz.prog La 21 spec := ⟨fnOk_ok (by kernel_rfl), fun aa t v h e => by
 unfold spec at h
 split at h
 ·rename_i n cs lf la
  cases h
  obtain ⟨g1, g2⟩ := GT.need_eval e
  cases g2
  obtain ⟨_, hn, h4, h5⟩ := rowP_ok g1
  generalize opsOf cs = l at h4 h5
  subst h4 h5
  exact ⟨rfl, callT (n0 := 4) (k := 12) La_below prog_mix prog_names (by simpa using A60.spec_ok) (by simp) (by decide) (by simp) rfl ((run _ _ _ _).trans (T_ok l lf la hn))⟩
 ·cases h⟩
end A21
end
section
open Go Go.Proofs
namespace A6L0
noncomputable def cfg : Cfg := cfgK Tryz.prog 4 (gpT []) (ltT 4 [])
def stA (n0 n1 n2 k : Nat) (i : Int) (row : List Value) : KX := ⟨[(0, .slice (some ⟨0, 0, none⟩) n0 6), (1, .slice (some ⟨1, 0, none⟩) n1 6), (2, .slice (some ⟨2, 0, none⟩) n2 3), (7, .pointer (some ⟨4, 0, none⟩)), (9, .pointer (some ⟨5, 0, none⟩)), (11, .slice (some ⟨7, 0, none⟩) k 6), (12, .int .i64 i)], [row]⟩
def kp : Ex → List Nat
 | .normal => [0, 1, 2, 7, 9, 11, 12]
 | .exit _ => [2, 7, 9, 11]
 | _ => []
def cr : Ex → St → List (Nat × Bool) := fun _ s => match s.T.get 11 with
 | some (.slice (some p) _ _) => [(p.block, true)]
 | _ => []
set_option maxRecDepth 1000000 in
theorem round (n0 n1 n2 k : Nat) (i : Int) (row : List Value) (cs : List Value) : codeK cfg (gpT []) (callK cfg (gpT []) (ltT 4 []) 12) (fun _ _ => none) false 1000 (loopAt Tryz.prog 6 0) (stK 116 7 [(1, cs)] (stA n0 n1 n2 k i row)) (endK 7 100 116 kp cr) = (let x1 := 0 + ((i).toNat * 6); let x2 := rdS cs (((((x1 + 1) + 1) + 1) + 1) + 1); let x3 := rdI cs ((((x1 + 1) + 1) + 1) + 1); let x4 := IntKind.wrap .i64 ((rdI cs (x1 + 1)) + (Int.ofNat n0)); let x5 := rdI cs (((x1 + 1) + 1) + 1); let x6 := rdS cs ((x1 + 1) + 1); let x7 := IntKind.wrap .i64 (i + 1); let o1 : Option (Ex × KX) := (bif Nat.ble (k + 1) 140737488355328 then (bif Nat.ble ((k + 1) * 64) 140737488355328 then (bif Nat.ble (0 + (k * 6)) (row).length then (bif (((((((row).drop 0)).take (k * 6)) ++ [Value.int .i64 (rdI cs x1), .int .i64 x4, .string x6, .int .i64 x5, .int .i64 x3, .string x2])).all scalV && true) then (some (.normal, ⟨[(0, .slice (some ⟨0, 0, none⟩) n0 6), (1, .slice (some ⟨1, 0, none⟩) n1 6), (2, .slice (some ⟨2, 0, none⟩) n2 3), (7, .pointer (some ⟨4, 0, none⟩)), (9, .pointer (some ⟨5, 0, none⟩)), (11, .slice (some ⟨7, 0, none⟩) (k + 1) 6), (12, .int .i64 x7)], [(((((row).drop 0)).take (k * 6)) ++ [Value.int .i64 (rdI cs x1), .int .i64 x4, .string x6, .int .i64 x5, .int .i64 x3, .string x2])]⟩)) else none) else none) else none) else none); (bif decide (i < (Int.ofNat n1)) then (bif decide (0 ≤ i) then (bif Nat.blt (i).toNat n1 then (bif isL cs x1 [(.i .i64), (.i .i64), .s, (.i .i64), (.i .i64), .s] then (bif ((rdI cs x1) == 7) then o1 else (bif ((rdI cs x1) == 8) then o1 else (bif Nat.ble (k + 1) 140737488355328 then (bif Nat.ble ((k + 1) * 64) 140737488355328 then (bif Nat.ble (0 + (k * 6)) (row).length then (bif (((((((row).drop 0)).take (k * 6)) ++ [Value.int .i64 (rdI cs x1), .int .i64 (rdI cs (x1 + 1)), .string x6, .int .i64 x5, .int .i64 x3, .string x2])).all scalV && true) then (some (.normal, ⟨[(0, .slice (some ⟨0, 0, none⟩) n0 6), (1, .slice (some ⟨1, 0, none⟩) n1 6), (2, .slice (some ⟨2, 0, none⟩) n2 3), (7, .pointer (some ⟨4, 0, none⟩)), (9, .pointer (some ⟨5, 0, none⟩)), (11, .slice (some ⟨7, 0, none⟩) (k + 1) 6), (12, .int .i64 x7)], [(((((row).drop 0)).take (k * 6)) ++ [Value.int .i64 (rdI cs x1), .int .i64 (rdI cs (x1 + 1)), .string x6, .int .i64 x5, .int .i64 x3, .string x2])]⟩)) else none) else none) else none) else none))) else none) else none) else none) else (bif ((row).all scalV && true) then (some (.exit 0, ⟨[(2, .slice (some ⟨2, 0, none⟩) n2 3), (7, .pointer (some ⟨4, 0, none⟩)), (9, .pointer (some ⟨5, 0, none⟩)), (11, .slice (some ⟨7, 0, none⟩) k 6)], [row]⟩)) else none))) := by kernel_rfl
def shw (n : Nat) (o : O6) : O6 := bif o.1 == 7 then (o.1, IntKind.wrap .i64 (o.2.1 + Int.ofNat n), o.2.2) else bif o.1 == 8 then (o.1, IntKind.wrap .i64 (o.2.1 + Int.ofNat n), o.2.2) else o
def acc (n : Nat) (a b : List O6) (j : Nat) : List O6 := a ++ (b.take j).map (shw n)
theorem acc_succ (n : Nat) (a b : List O6) {j : Nat} (h : j < b.length) : acc n a b (j + 1) = acc n a b j ++ [shw n b[j]] := by
 unfold acc
 rw [← List.take_append_getElem h, List.map_append, ← List.append_assoc]; rfl
theorem acc_len (n : Nat) (a b : List O6) {j : Nat} (h : j ≤ b.length) : (acc n a b j).length = a.length + j := by
 unfold acc
 rw [List.length_append, List.length_map, List.length_take]; omega
theorem opsR_snoc (l : List O6) (o : O6) : opsR l ++ [.int .i64 o.1, .int .i64 o.2.1, .string o.2.2.1, .int .i64 o.2.2.2.1, .int .i64 o.2.2.2.2.1, .string o.2.2.2.2.2] = opsR (l ++ [o]) := by
 unfold opsR
 rw [List.flatMap_append]; rfl
def st (n0 n2 : Nat) (a b : List O6) (j : Nat) : KX := stA n0 b.length n2 (a.length + j) j (opsR (acc n0 a b j))
def stE (n2 k : Nat) (row : List Value) : KX := ⟨[(2, .slice (some ⟨2, 0, none⟩) n2 3), (7, .pointer (some ⟨4, 0, none⟩)), (9, .pointer (some ⟨5, 0, none⟩)), (11, .slice (some ⟨7, 0, none⟩) k 6)], [row]⟩
theorem next (n0 n2 : Nat) (a b : List O6) (hl : a.length + b.length ≤ 1000) {j : Nat} (hj : j < b.length) :
  rndK cfg [] [] 6 0 (stK 116 7 [(1, opsR b)] (st n0 n2 a b j)) (endK 7 100 116 kp cr) = some (.normal, st n0 n2 a b (j + 1)) := by
 have hr := round n0 b.length n2 (a.length + j) (j : Int) (opsR (acc n0 a b j)) (opsR b)
 have h1 := ltI hj
 have h2 := geI j
 have h3 := bltI hj
 have h4 : (0 + ((j : Int)).toNat * 6) = j * 6 := by simp
 have h5 := wrI j (by omega)
 have hk := acc_len n0 a b (Nat.le_of_lt hj)
 have q1 : Nat.ble (a.length + j + 1) 140737488355328 = true := by rw [Nat.ble_eq]; omega
 have q2 : Nat.ble ((a.length + j + 1) * 64) 140737488355328 = true := by rw [Nat.ble_eq]; omega
 have q3 : Nat.ble (0 + (a.length + j) * 6) (opsR (acc n0 a b j)).length = true := by rw [Nat.ble_eq, opsR_len, hk]; omega
 have q4 : ((opsR (acc n0 a b j)).drop 0).take ((a.length + j) * 6) = opsR (acc n0 a b j) := by
  have := A21.row_all (acc n0 a b j)
  rwa [hk] at this
 have q5 : ∀ (x y z : Int) (w : Int) (t u : ByteArray), (opsR (acc n0 a b j) ++ [Value.int .i64 x, .int .i64 y, .string t, .int .i64 z, .int .i64 w, .string u]).all scalV = true := fun x y z w t u => by
  rw [List.all_append, opsR_scal]; rfl
 refine hr.trans ?_
 dsimp only []
 simp only [h1, h2, h3, h4, h5, isL_ops b hj, op_k b hj, op_n b hj, op_t b hj, op_vk b hj, op_vn b hj, op_vs b hj, q1, q2, q3, q4, q5, cond_true, Bool.and_true]
 have key : ∀ o : O6, shw n0 b[j] = o → some (Ex.normal, stA n0 b.length n2 (a.length + j + 1) ((j + 1 : Nat) : Int) (opsR (acc n0 a b j) ++ [.int .i64 o.1, .int .i64 o.2.1, .string o.2.2.1, .int .i64 o.2.2.2.1, .int .i64 o.2.2.2.2.1, .string o.2.2.2.2.2])) = some (.normal, st n0 n2 a b (j + 1)) := fun o e => by
  unfold st
  rw [opsR_snoc, acc_succ n0 a b hj, e, Nat.add_assoc]
 have hs : shw n0 b[j] = shw n0 b[j] := rfl
 unfold shw at hs
 cases e7 : b[j].1 == 7
 ·cases e8 : b[j].1 == 8
  ·exact key b[j] (by unfold shw; rw [e7, e8]; rfl)
  ·exact key (b[j].1, IntKind.wrap .i64 (b[j].2.1 + Int.ofNat n0), b[j].2.2) (by unfold shw; rw [e7, e8]; rfl)
 ·exact key (b[j].1, IntKind.wrap .i64 (b[j].2.1 + Int.ofNat n0), b[j].2.2) (by unfold shw; rw [e7]; rfl)
theorem last (n0 n2 : Nat) (a b : List O6) :
  rndK cfg [] [] 6 0 (stK 116 7 [(1, opsR b)] (st n0 n2 a b b.length)) (endK 7 100 116 kp cr) = some (.exit 0, stE n2 (a.length + b.length) (opsR (a ++ b.map (shw n0)))) := by
 have hr := round n0 b.length n2 (a.length + b.length) (b.length : Int) (opsR (acc n0 a b b.length)) (opsR b)
 have h1 := nltI b.length
 refine hr.trans ?_
 dsimp only []
 simp only [h1, cond_false, opsR_scal, Bool.and_true, cond_true]
 unfold acc
 rw [List.take_length]; rfl
def rowJ (n : Nat) (row cs : List Value) : List Value := opsR (opsOf row ++ (opsOf cs).map (shw n))
def D : KD := ⟨116, 7, 100, [0, 1, 2, 7, 9, 11, 12], [1], fun _ => [(6, true)], fun x ro => match x.vs, x.cars, ro with
 | [(0, .slice (some ⟨0, 0, none⟩) n0 6), (1, .slice (some ⟨1, 0, none⟩) n1 6), (2, .slice (some ⟨2, 0, none⟩) n2 3), (7, .pointer (some ⟨4, 0, none⟩)), (9, .pointer (some ⟨5, 0, none⟩)), (11, .slice (some ⟨7, 0, none⟩) k 6), (12, .int .i64 0)], [row], [(1, cs)] =>
  .need (rowP n1 (Int.ofNat n1) cs && (rowP k (Int.ofNat k) row && Nat.ble (k + n1) 1000)) (.out (.exit 0, stE n2 (k + n1) (rowJ n0 row cs)))
 | _, _, _ => .no⟩
def lp : LpK := ⟨6, 8, 0, D⟩
theorem lp_fine : LpFine Tryz.prog La 4 lp := by
 refine ⟨by kernel_rfl, fun c base I hP hn hG hI hIL x ro ex y e => ?_⟩
 obtain ⟨vs, cars⟩ := x
 simp only [lp, D] at e ⊢
 split at e
 ·rename_i n0 n1 n2 k row cs
  obtain ⟨g1, g2⟩ := GT.need_eval e
  cases g2
  unfold rowJ
  simp only [Bool.and_eq_true, Nat.ble_eq] at g1
  obtain ⟨g1, g3, g4⟩ := g1
  obtain ⟨_, _, h4, h5⟩ := rowP_ok g1
  obtain ⟨_, _, h6, h7⟩ := rowP_ok g3
  generalize opsOf cs = b at h4 h5
  generalize opsOf row = a at h6 h7
  subst h4 h5 h6 h7
  have key := scan_from (Step := @StepK (etaB base) c base I (loopAt Tryz.prog 6 0) 116 7 100 [(1, opsR b)]) (step := fun (_ : Unit) (_ : O6) => .inl ()) (fin := fun _ => (.exit 0, stE n2 (a.length + b.length) (opsR (a ++ b.map (shw n0))))) (st := fun _ j => st n0 n2 a b j) (l := b) (fun s => by simp) (fun s a r h => by cases h)
   (fun _ j hj => stepT prog_mix prog_names (by simp) (by simp) hP hn hG hI hIL (next n0 n2 a b g4 hj)) (fun _ => stepT prog_mix prog_names (by simp) (by simp) hP hn hG hI hIL (last n0 n2 a b)) b.length 0 () (by omega)
  rw [List.drop_zero, scanF_fold] at key
  have e0 : st n0 n2 a b 0 = ⟨[(0, .slice (some ⟨0, 0, none⟩) n0 6), (1, .slice (some ⟨1, 0, none⟩) b.length 6), (2, .slice (some ⟨2, 0, none⟩) n2 3), (7, .pointer (some ⟨4, 0, none⟩)), (9, .pointer (some ⟨5, 0, none⟩)), (11, .slice (some ⟨7, 0, none⟩) a.length 6), (12, .int .i64 0)], [opsR a]⟩ := by
   unfold st acc
   rw [List.take_zero, List.map_nil, List.append_nil]; rfl
  rw [← e0]
  exact key
 ·cases e
def DN : KD := ⟨116, 6, 100, [0, 1, 2, 7, 9, 11, 12], [1], fun _ => [], fun x ro => .no⟩
def lpN : LpK := ⟨6, 8, 0, DN⟩
theorem lpN_fine : LpFine Tryz.prog La 4 lpN := by
 refine ⟨by kernel_rfl, fun c base I hP hn hG hI hIL x ro ex y e => ?_⟩
 cases e
end A6L0
end
section
open Go Go.Proofs
namespace A95
def T (k0 n0 : Int) (s0 : ByteArray) (k1 n1 : Int) (s1 : ByteArray) : GT Value := let x1 := IntKind.wrap .i64 (Int.tdiv n1 10000); let x2 := IntKind.wrap .i64 (Int.tdiv n0 10000); let x5 := IntKind.wrap .i64 (x2 - 1); let x6 := IntKind.wrap .i64 (x1 - 1); let x7 := Int.tmod n1 10000; let x3 := IntKind.wrap .i64 (x7 + 10000); let x8 := Int.tmod n0 10000; let x4 := IntKind.wrap .i64 (x8 + 10000); let o1 : GT Value := (.out (.tuple ([.int .i64 (-1), .bool (true)]).toArray)); let o2 : GT Value := (.out (.tuple ([.int .i64 1, .bool (true)]).toArray)); let o3 : GT Value := (.out (.tuple ([.int .i64 0, .bool (true)]).toArray)); let o4 : GT Value := (.br (decide (n0 < n1)) o1 (.br (decide (n0 > n1)) o2 o3)); let o5 : GT Value := (.br ((k0 == 2)) (.br ((k1 == 2)) o4 (.br (decide (x7 < 0)) (.br (decide (n0 < x6)) o1 (.br (decide (n0 > x6)) o2 (.br (decide (0 < x3)) o1 (.br (decide (0 > x3)) o2 o3)))) (.br (decide (n0 < x1)) o1 (.br (decide (n0 > x1)) o2 (.br (decide (0 < x7)) o1 (.br (decide (0 > x7)) o2 o3)))))) (.br (decide (x8 < 0)) (.br ((k1 == 2)) (.br (decide (x5 < n1)) o1 (.br (decide (x5 > n1)) o2 (.br (decide (x4 < 0)) o1 (.br (decide (x4 > 0)) o2 o3)))) (.br (decide (x7 < 0)) (.br (decide (x5 < x6)) o1 (.br (decide (x5 > x6)) o2 (.br (decide (x4 < x3)) o1 (.br (decide (x4 > x3)) o2 o3)))) (.br (decide (x5 < x1)) o1 (.br (decide (x5 > x1)) o2 (.br (decide (x4 < x7)) o1 (.br (decide (x4 > x7)) o2 o3)))))) (.br ((k1 == 2)) (.br (decide (x2 < n1)) o1 (.br (decide (x2 > n1)) o2 (.br (decide (x8 < 0)) o1 (.br (decide (x8 > 0)) o2 o3)))) (.br (decide (x7 < 0)) (.br (decide (x2 < x6)) o1 (.br (decide (x2 > x6)) o2 (.br (decide (x8 < x3)) o1 (.br (decide (x8 > x3)) o2 o3)))) (.br (decide (x2 < x1)) o1 (.br (decide (x2 > x1)) o2 (.br (decide (x8 < x7)) o1 (.br (decide (x8 > x7)) o2 o3)))))))); let o6 : GT Value := (.out (.tuple ([.int .i64 0, .bool (false)]).toArray)); let o7 : GT Value := (.br ((k0 == 1)) (.br ((k1 == 1)) o4 o6) o6); let o8 : GT Value := (.br ((k0 == 4)) (.br ((k1 == 4)) (.br (ltU s0.data.toList s1.data.toList) o1 (.br ((!(ltU s0.data.toList s1.data.toList || eqU s0.data.toList s1.data.toList))) o2 o3)) o7) o7); let o9 : GT Value := (.br ((k1 == 2)) o5 (.br ((k1 == 3)) o5 o8)); (.br ((k0 == 2)) o9 (.br ((k0 == 3)) o9 o8))
set_option maxRecDepth 1000000 in
theorem run (k0 n0 : Int) (s0 : ByteArray) (k1 n1 : Int) (s1 : ByteArray) : runK 4 [] [] 95 [.v (.agg #[.int .i64 k0, .int .i64 n0, .string s0]), .v (.agg #[.int .i64 k1, .int .i64 n1, .string s1])] = (T k0 n0 s0 k1 n1 s1).eval := by kernel_rfl
theorem bif_t {α : Type} {p : Prop} [Decidable p] (h : p) (x y : α) : (bif decide p then x else y) = x := by rw [decide_eq_true h]; rfl
theorem bif_f {α : Type} {p : Prop} [Decidable p] (h : ¬ p) (x y : α) : (bif decide p then x else y) = y := by rw [decide_eq_false h]; rfl
def tw (p : Int × Bool) : Value := .tuple #[.int .i64 p.1, .bool p.2]
def o (z : Int) : Option Value := some (.tuple ([.int .i64 z, .bool true]).toArray)
theorem cmpT (w x f g : Int) : (bif decide (w < x) then o (-1) else bif decide (w > x) then o 1 else bif decide (f < g) then o (-1) else bif decide (f > g) then o 1 else o 0) = some (tw (if A131.cmpI w x ≠ 0 then A131.cmpI w x else A131.cmpI f g, true)) := by
 unfold A131.cmpI
 by_cases h1 : w < x
 ·rw [decide_eq_true h1, if_pos h1]; rfl
 ·rw [decide_eq_false h1, if_neg h1]
  by_cases h2 : x < w
  ·rw [decide_eq_true (show w > x from h2), if_pos h2]; rfl
  ·rw [decide_eq_false (show ¬ w > x from h2), if_neg h2]
   by_cases h3 : f < g
   ·rw [decide_eq_true h3, if_pos h3]; rfl
   ·rw [decide_eq_false h3, if_neg h3]
    by_cases h4 : g < f
    ·rw [decide_eq_true (show f > g from h4), if_pos h4]; rfl
    ·rw [decide_eq_false (show ¬ f > g from h4), if_neg h4]; rfl
theorem tri : ∀ (a b : List UInt8), ltU a b = false → ltU b a = !eqU a b
 | [], [], _ => rfl
 | [], _ :: _, h => by cases h
 | _ :: _, [], _ => rfl
 | x :: a, y :: b, h => by
  have e1 : ltU (x :: a) (y :: b) = (Nat.blt x.toNat y.toNat || (Nat.beq x.toNat y.toNat && ltU a b)) := rfl
  have e2 : ltU (y :: b) (x :: a) = (Nat.blt y.toNat x.toNat || (Nat.beq y.toNat x.toNat && ltU b a)) := rfl
  have e3 : eqU (x :: a) (y :: b) = (Nat.beq x.toNat y.toNat && eqU a b) := rfl
  rw [e1] at h
  rw [e2, e3]
  simp only [Bool.or_eq_false_iff] at h
  obtain ⟨h1, h2⟩ := h
  have h1' : ¬ x.toNat < y.toNat := fun hh => by rw [show Nat.blt x.toNat y.toNat = true from by rw [Nat.blt_eq]; exact hh] at h1; cases h1
  by_cases he : x.toNat = y.toNat
  ·have b1 : Nat.beq x.toNat y.toNat = true := by rw [he]; exact Nat.beq_refl _
   have b2 : Nat.beq y.toNat x.toNat = true := by rw [he]; exact Nat.beq_refl _
   have b3 : Nat.blt y.toNat x.toNat = false := by
    cases hb : Nat.blt y.toNat x.toNat
    ·rfl
    ·rw [Nat.blt_eq] at hb; omega
   rw [b1, Bool.true_and] at h2
   rw [b1, b2, b3, tri a b h2]; rfl
  ·have b1 : Nat.beq x.toNat y.toNat = false := by
    cases hb : Nat.beq x.toNat y.toNat
    ·rfl
    ·exact absurd (Nat.eq_of_beq_eq_true hb) he
   have b3 : Nat.blt y.toNat x.toNat = true := by rw [Nat.blt_eq]; omega
   rw [b1, b3]; rfl
theorem T_ok (k0 n0 : Int) (s0 : ByteArray) (k1 n1 : Int) (s1 : ByteArray) : (T k0 n0 s0 k1 n1 s1).eval = some (tw (Ref.compareR k0 n0 s0 k1 n1 s1)) := by
 have c22 : ((2 : Int) == 2) = true := rfl
 have c23 : ((2 : Int) == 3) = false := rfl
 have c32 : ((3 : Int) == 2) = false := rfl
 have c33 : ((3 : Int) == 3) = true := rfl
 have sp : ∀ n : Int, Ref.splitR 3 n = if n.tmod 10000 < 0 then (Ref.wr (Ref.wr (n.tdiv 10000) - 1), Ref.wr (n.tmod 10000 + 10000)) else (Ref.wr (n.tdiv 10000), n.tmod 10000) := fun n => by
  unfold Ref.splitR; rw [if_neg (by decide)]
 have s2 : ∀ n : Int, Ref.splitR 2 n = (n, 0) := fun n => by unfold Ref.splitR; rw [if_pos rfl]
 have num : ∀ a b : Int, Ref.isNum a = true → Ref.isNum b = true → Ref.compareR a n0 s0 b n1 s1 = (if A131.cmpI (Ref.splitR a n0).1 (Ref.splitR b n1).1 ≠ 0 then A131.cmpI (Ref.splitR a n0).1 (Ref.splitR b n1).1 else A131.cmpI (Ref.splitR a n0).2 (Ref.splitR b n1).2, true) := fun a b ha hb => by
  unfold Ref.compareR; rw [if_pos ⟨ha, hb⟩]; rfl
 by_cases a2 : k0 = 2
 ·subst a2
  by_cases b2 : k1 = 2
  ·subst b2
   rw [num 2 2 rfl rfl, s2, s2]
   simp only [T, GT.eval, c22, cond_true]
   exact cmpT n0 n1 0 0
  ·by_cases b3 : k1 = 3
   ·subst b3
    rw [num 2 3 rfl rfl, s2, sp]
    simp only [T, GT.eval, c22, c32, c33, cond_true, cond_false]
    by_cases h : n1.tmod 10000 < 0
    ·rw [if_pos h]; refine (bif_t h _ _).trans ?_; exact cmpT n0 _ 0 _
    ·rw [if_neg h]; refine (bif_f h _ _).trans ?_; exact cmpT n0 _ 0 _
   ·unfold Ref.compareR Ref.isNum
    simp [T, GT.eval, tw, b2, b3, beq_eq_false_iff_ne.2 b2, beq_eq_false_iff_ne.2 b3]
 by_cases a3 : k0 = 3
 ·subst a3
  by_cases b2 : k1 = 2
  ·subst b2
   rw [num 3 2 rfl rfl, s2, sp]
   simp only [T, GT.eval, c22, c32, c33, cond_true, cond_false]
   by_cases h : n0.tmod 10000 < 0
   ·rw [if_pos h]; refine (bif_t h _ _).trans ?_; exact cmpT _ n1 _ 0
   ·rw [if_neg h]; refine (bif_f h _ _).trans ?_; exact cmpT _ n1 _ 0
  ·by_cases b3 : k1 = 3
   ·subst b3
    rw [num 3 3 rfl rfl, sp, sp]
    simp only [T, GT.eval, c22, c32, c33, cond_true, cond_false]
    by_cases h : n0.tmod 10000 < 0
    ·rw [if_pos h]; refine (bif_t h _ _).trans ?_
     by_cases h2 : n1.tmod 10000 < 0
     ·rw [if_pos h2]; refine (bif_t h2 _ _).trans ?_; exact cmpT _ _ _ _
     ·rw [if_neg h2]; refine (bif_f h2 _ _).trans ?_; exact cmpT _ _ _ _
    ·rw [if_neg h]; refine (bif_f h _ _).trans ?_
     by_cases h2 : n1.tmod 10000 < 0
     ·rw [if_pos h2]; refine (bif_t h2 _ _).trans ?_; exact cmpT _ _ _ _
     ·rw [if_neg h2]; refine (bif_f h2 _ _).trans ?_; exact cmpT _ _ _ _
   ·unfold Ref.compareR Ref.isNum
    simp [T, GT.eval, tw, b2, b3, beq_eq_false_iff_ne.2 b2, beq_eq_false_iff_ne.2 b3]
 have e2 := beq_eq_false_iff_ne.2 a2
 have e3 := beq_eq_false_iff_ne.2 a3
 have hn : Ref.isNum k0 = false := by unfold Ref.isNum; rw [e2, e3]; rfl
 unfold Ref.compareR
 rw [if_neg (by rw [hn]; simp)]
 by_cases a4 : k0 = 4
 ·subst a4
  by_cases b4 : k1 = 4
  ·subst b4
   rw [if_pos ⟨rfl, rfl⟩]
   unfold Ref.textR
   cases h1 : ltU s0.data.toList s1.data.toList
   ·rw [tri _ _ h1]
    cases h2 : eqU s0.data.toList s1.data.toList <;> simp [T, GT.eval, tw, h1, h2]
   ·simp [T, GT.eval, tw, h1]
  ·simp [T, GT.eval, tw, b4, beq_eq_false_iff_ne.2 b4]
 by_cases a1 : k0 = 1
 ·subst a1
  by_cases b1 : k1 = 1
  ·subst b1
   rw [if_neg (by simp), if_pos ⟨rfl, rfl⟩]
   unfold A131.cmpI
   by_cases h1 : n0 < n1 <;> by_cases h2 : n1 < n0 <;> simp [T, GT.eval, tw, h1, h2]
  ·simp [T, GT.eval, tw, b1, beq_eq_false_iff_ne.2 b1]
 simp [T, GT.eval, tw, a4, a1, e2, e3, beq_eq_false_iff_ne.2 a4, beq_eq_false_iff_ne.2 a1]
def spec : Spec := fun aa => match aa with
 | [a, b] => (vOf a).bind fun x => (vOf b).bind fun y => some (.out (.tuple #[.int .i64 (Ref.compareR x.1 x.2.1 x.2.2 y.1 y.2.1 y.2.2).1, .bool (Ref.compareR x.1 x.2.1 x.2.2 y.1 y.2.1 y.2.2).2]))
 | _ => none
theorem spec_ok : SpecOk Tryz.prog La 95 spec := ⟨fnOk_ok (by kernel_rfl), fun aa t v h e => by
 unfold spec at h
 split at h
 ·rename_i a b
  obtain ⟨⟨k0, n0, s0⟩, h1, h⟩ := opt_bind h
  obtain ⟨⟨k1, n1, s1⟩, h2, h⟩ := opt_bind h
  cases h; cases e
  rw [vOf_ok h1, vOf_ok h2]
  exact ⟨rfl, callT (l := []) (L := []) (n0 := 4) (k := 12) La_below prog_mix prog_names (by simp) (by simp) (by decide) (by simp) rfl ((run k0 n0 s0 k1 n1 s1).trans (T_ok _ _ _ _ _ _))⟩
 ·cases h⟩
end A95
end
section
open Go Go.Proofs
namespace A40
def T (k0 n0 : Int) (s0 : ByteArray) (k1 n1 : Int) (s1 : ByteArray) : GT Value := let o1 : GT Value := (.out (.agg ([.int .i64 0, .int .i64 0, .string ⟨([]).toArray⟩]).toArray)); let o2 : GT Value := (.out (.agg ([.int .i64 1, .int .i64 0, .string ⟨([]).toArray⟩]).toArray)); (.br ((k0 == 0)) o1 (.br ((k1 == 0)) o1 (.br ((Ref.compareR k0 n0 s0 k1 n1 s1).2) (.br (((Ref.compareR k0 n0 s0 k1 n1 s1).1 == 0)) (.out (.agg ([.int .i64 1, .int .i64 1, .string ⟨([]).toArray⟩]).toArray)) o2) o2)))
set_option maxRecDepth 1000000 in
theorem run (k0 n0 : Int) (s0 : ByteArray) (k1 n1 : Int) (s1 : ByteArray) : runK 4 [(95, A95.spec)] [] 40 [.v (.agg #[.int .i64 k0, .int .i64 n0, .string s0]), .v (.agg #[.int .i64 k1, .int .i64 n1, .string s1])] = (T k0 n0 s0 k1 n1 s1).eval := by kernel_rfl
def eqK (a b : W3) : Int := bif a.1 == 0 || b.1 == 0 then 0 else 1
def eqN (a b : W3) : Int := bif a.1 == 0 || b.1 == 0 then 0 else bif (Ref.compareR a.1 a.2.1 a.2.2 b.1 b.2.1 b.2.2).2 && (Ref.compareR a.1 a.2.1 a.2.2 b.1 b.2.1 b.2.2).1 == 0 then 1 else 0
theorem T_ok (a b : W3) : (T a.1 a.2.1 a.2.2 b.1 b.2.1 b.2.2).eval = some (.agg #[.int .i64 (eqK a b), .int .i64 (eqN a b), .string ⟨#[]⟩]) := by
 unfold eqK eqN T
 simp only [GT.eval]
 cases a.1 == 0 <;> cases b.1 == 0 <;> cases (Ref.compareR a.1 a.2.1 a.2.2 b.1 b.2.1 b.2.2).2 <;> cases (Ref.compareR a.1 a.2.1 a.2.2 b.1 b.2.1 b.2.2).1 == 0 <;> rfl
def spec : Spec := fun aa => match aa with
 | [a, b] => (vOf a).bind fun x => (vOf b).bind fun y => some (.out (.agg #[.int .i64 (eqK x y), .int .i64 (eqN x y), .string ⟨#[]⟩]))
 | _ => none
theorem spec_ok : SpecOk Tryz.prog La 40 spec := ⟨fnOk_ok (by kernel_rfl), fun aa t v h e => by
 unfold spec at h
 split at h
 ·rename_i a b
  obtain ⟨x, h1, h⟩ := opt_bind h
  obtain ⟨y, h2, h⟩ := opt_bind h
  cases h; cases e
  rw [vOf_ok h1, vOf_ok h2]
  exact ⟨rfl, callT (l := [(95, A95.spec)]) (L := []) (n0 := 4) (k := 12) La_below prog_mix prog_names (by simpa using A95.spec_ok) (by simp) (by decide) (by simp) rfl ((run _ _ _ _ _ _).trans (T_ok _ _))⟩
 ·cases h⟩
end A40
end
section
open Go Go.Proofs
namespace A97
def T (k0 n0 : Int) (s0 : ByteArray) : GT Value := let x1 := IntKind.wrap .i64 (n0 * 10000); let o1 : GT Value := (.out (.tuple ([.agg ([.int .i64 0, .int .i64 0, .string ⟨([]).toArray⟩]).toArray, .int .i64 0]).toArray)); let o2 : GT Value := (.out (.tuple ([.agg ([.int .i64 0, .int .i64 0, .string ⟨([]).toArray⟩]).toArray, .int .i64 20]).toArray)); let o3 : GT Value := (.br ((k0 == 0)) o1 (.br ((k0 == 0)) o1 (.br ((k0 == 3)) (.out (.tuple ([.agg ([.int .i64 3, .int .i64 n0, .string ⟨([]).toArray⟩]).toArray, .int .i64 0]).toArray)) (.br (decide (n0 ≤ 922337203685477)) (.br ((!decide (n0 ≥ (-922337203685477)))) o2 (.out (.tuple ([.agg ([.int .i64 3, .int .i64 x1, .string ⟨([]).toArray⟩]).toArray, .int .i64 0]).toArray))) o2)))); let o4 : GT Value := (.out (.tuple ([.agg ([.int .i64 0, .int .i64 0, .string ⟨([]).toArray⟩]).toArray, .int .i64 22]).toArray)); let o5 : GT Value := (.br ((k0 == 2)) o3 (.br ((!(k0 == 3))) (.br ((k0 != 0)) o4 o3) o3)); (.br ((k0 == 2)) o5 (.br ((!(k0 == 3))) (.br ((k0 != 0)) o4 o5) o5))
set_option maxRecDepth 1000000 in
theorem run (k0 n0 : Int) (s0 : ByteArray) : runK 4 [] [] 97 [.v (.agg #[.int .i64 k0, .int .i64 n0, .string s0])] = (T k0 n0 s0).eval := by kernel_rfl
theorem T_ok (k n : Int) (s : ByteArray) : (T k n s).eval = some (ve (Ref.refDecV k n)) := by
 unfold Ref.refDecV
 by_cases h0 : k = 0
 ·subst h0; rfl
 by_cases h2 : k = 2
 ·subst h2
  by_cases a : n ≤ 922337203685477 <;> by_cases b : n ≥ -922337203685477 <;> simp [T, GT.eval, ve, vv, v0, a, b]
 by_cases h3 : k = 3
 ·subst h3; rfl
 simp [T, GT.eval, ve, vv, v0, h0, h2, h3, beq_eq_false_iff_ne.mpr h2, beq_eq_false_iff_ne.mpr h3, bne_iff_ne.mpr h0]
def spec : Spec := fun aa => match aa with
 | [a] => (vOf a).bind fun x => some (.out (ve (Ref.refDecV x.1 x.2.1)))
 | _ => none
theorem spec_ok : SpecOk Tryz.prog La 97 spec := ⟨fnOk_ok (by kernel_rfl), fun aa t v h e => by
 unfold spec at h
 split at h
 ·rename_i a
  obtain ⟨⟨k0, n0, s0⟩, h1, h⟩ := opt_bind h
  cases h; cases e
  rw [vOf_ok h1]
  exact ⟨rfl, callT (l := []) (L := []) (n0 := 4) (k := 12) La_below prog_mix prog_names (by simp) (by simp) (by decide) (by simp) rfl ((run k0 n0 s0).trans (T_ok _ _ _))⟩
 ·cases h⟩
end A97
end
section
open Go Go.Proofs
namespace A149
def T (k0 n0 : Int) (s0 : ByteArray) (k1 n1 : Int) (s1 : ByteArray) (b2 : Bool) : GT Value := let o1 : GT Value := (.out (.tuple ([.int .i64 0, .bool (true)]).toArray)); let o2 : GT Value := (.out (.tuple ([.int .i64 0, .bool (false)]).toArray)); let o3 : GT Value := (.br ((k0 == 0)) o1 (.br ((k1 == 0)) o1 (.br (b2) (.br ((n1 == 0)) (.out (.tuple ([.int .i64 21, .bool (true)]).toArray)) o2) o2))); let o4 : GT Value := (.out (.tuple ([.int .i64 22, .bool (true)]).toArray)); let o5 : GT Value := (.br ((k1 == 2)) o3 (.br ((!(k1 == 3))) (.br ((k1 != 0)) o4 o3) o3)); (.br ((k0 == 2)) o5 (.br ((!(k0 == 3))) (.br ((k0 != 0)) o4 o5) o5))
set_option maxRecDepth 1000000 in
theorem run (k0 n0 : Int) (s0 : ByteArray) (k1 n1 : Int) (s1 : ByteArray) (b2 : Bool) : runK 4 [] [] 149 [.v (.agg #[.int .i64 k0, .int .i64 n0, .string s0]), .v (.agg #[.int .i64 k1, .int .i64 n1, .string s1]), .v (.bool b2)] = (T k0 n0 s0 k1 n1 s1 b2).eval := by kernel_rfl
theorem T_ok (a b : W3) (d : Bool) : (T a.1 a.2.1 a.2.2 b.1 b.2.1 b.2.2 d).eval = some (.tuple #[.int .i64 (Ref.firstV a.1 b.1 b.2.1 d).1, .bool (Ref.firstV a.1 b.1 b.2.1 d).2]) := by
 obtain ⟨k, n, s⟩ := a
 obtain ⟨k', n', s'⟩ := b
 unfold T Ref.firstV
 dsimp only []
 simp only [GT.eval]
 rcases Ari.kinds k with rfl | rfl | rfl | ⟨e1, e2, e3, e4, e5⟩ <;> rcases Ari.kinds k' with rfl | rfl | rfl | ⟨f1, f2, f3, f4, f5⟩ <;>
  (try simp only [e1, e2, e3, e4, e5]) <;> (try simp only [f1, f2, f3, f4, f5]) <;> (try rfl) <;> (cases d <;> cases n' == 0 <;> rfl)
def spec : Spec := fun aa => match aa with
 | [a, b, .v (.bool d)] => (vOf a).bind fun x => (vOf b).bind fun y => some (.out (.tuple #[.int .i64 (Ref.firstV x.1 y.1 y.2.1 d).1, .bool (Ref.firstV x.1 y.1 y.2.1 d).2]))
 | _ => none
theorem spec_ok : SpecOk Tryz.prog La 149 spec := ⟨fnOk_ok (by kernel_rfl), fun aa t v h e => by
 unfold spec at h
 split at h
 ·rename_i a b d
  obtain ⟨x, h1, h⟩ := opt_bind h
  obtain ⟨y, h2, h⟩ := opt_bind h
  cases h; cases e
  rw [vOf_ok h1, vOf_ok h2]
  exact ⟨rfl, callT (l := []) (L := []) (n0 := 4) (k := 12) La_below prog_mix prog_names (by simp) (by simp) (by decide) (by simp) rfl ((run _ _ _ _ _ _ _).trans (T_ok x y d))⟩
 ·cases h⟩
end A149
end
section
open Go Go.Proofs
namespace A150
def T (k0 n0 : Int) (s0 : ByteArray) : GT Value := let x1 := IntKind.wrap .i64 (n0 * 10000); (.br ((k0 == 3)) (.out (.tuple ([.int .i64 n0, .bool (true)]).toArray)) (.br (decide (n0 ≤ 922337203685477)) (.out (.tuple ([.int .i64 x1, .bool (decide (n0 ≥ (-922337203685477)))]).toArray)) (.out (.tuple ([.int .i64 x1, .bool (false)]).toArray))))
set_option maxRecDepth 1000000 in
theorem run (k0 n0 : Int) (s0 : ByteArray) : runK 4 [] [] 150 [.v (.agg #[.int .i64 k0, .int .i64 n0, .string s0])] = (T k0 n0 s0).eval := by kernel_rfl
theorem T_ok (v : W3) : (T v.1 v.2.1 v.2.2).eval = some (.tuple #[.int .i64 (Ref.decR v.1 v.2.1).1, .bool (Ref.decR v.1 v.2.1).2]) := by
 unfold T Ref.decR
 simp only [GT.eval]
 cases v.1 == 3
 ·cases decide (v.2.1 ≤ 922337203685477) <;> rfl
 ·rfl
def spec : Spec := fun aa => match aa with
 | [a] => (vOf a).bind fun x => some (.out (.tuple #[.int .i64 (Ref.decR x.1 x.2.1).1, .bool (Ref.decR x.1 x.2.1).2]))
 | _ => none
theorem spec_ok : SpecOk Tryz.prog La 150 spec := ⟨fnOk_ok (by kernel_rfl), fun aa t v h e => by
 unfold spec at h
 split at h
 ·rename_i a
  obtain ⟨x, h1, h⟩ := opt_bind h
  cases h; cases e
  rw [vOf_ok h1]
  exact ⟨rfl, callT (l := []) (L := []) (n0 := 4) (k := 12) La_below prog_mix prog_names (by simp) (by simp) (by decide) (by simp) rfl ((run _ _ _).trans (T_ok x))⟩
 ·cases h⟩
end A150
end
section
open Go Go.Proofs
namespace A223
def T (a0 : Int) (a1 : Int) : GT Value := let x1 := IntKind.wrap .i64 (a0 + a1); let o1 : GT Value := (.out (.tuple ([.int .i64 x1, .bool (true)]).toArray)); let o2 : GT Value := (.br (decide (a0 < 0)) (.br (decide (a1 < 0)) (.out (.tuple ([.int .i64 x1, .bool ((!decide (x1 ≥ 0)))]).toArray)) o1) o1); (.br (decide (a0 > 0)) (.br (decide (a1 > 0)) (.br ((!decide (x1 < 0))) o2 (.out (.tuple ([.int .i64 x1, .bool (false)]).toArray))) o2) o2)
set_option maxRecDepth 1000000 in
theorem run (a0 : Int) (a1 : Int) : runK 4 [] [] 223 [.v (.int .i64 a0), .v (.int .i64 a1)] = (T a0 a1).eval := by kernel_rfl
theorem T_ok (a b : Int) : (T a b).eval = some (.tuple #[.int .i64 (Ref.sumR a b).1, .bool (Ref.sumR a b).2]) := by
 unfold T Ref.sumR
 simp only [GT.eval]
 generalize IntKind.wrap .i64 (a + b) = x
 cases decide (a > 0) <;> cases decide (b > 0) <;> cases decide (a < 0) <;> cases decide (b < 0) <;> cases decide (x < 0) <;> cases decide (x ≥ 0) <;> rfl
def spec : Spec := fun aa => match aa with
 | [.v (.int .i64 a), .v (.int .i64 b)] => some (.out (.tuple #[.int .i64 (Ref.sumR a b).1, .bool (Ref.sumR a b).2]))
 | _ => none
theorem spec_ok : SpecOk Tryz.prog La 223 spec := ⟨fnOk_ok (by kernel_rfl), fun aa t v h e => by
 unfold spec at h
 split at h
 ·rename_i a b
  cases h; cases e
  exact ⟨rfl, callT (l := []) (L := []) (n0 := 4) (k := 12) La_below prog_mix prog_names (by simp) (by simp) (by decide) (by simp) rfl ((run _ _).trans (T_ok a b))⟩
 ·cases h⟩
end A223
end
section
open Go Go.Proofs
namespace A198
def T (k0 n0 : Int) (s0 : ByteArray) (k1 n1 : Int) (s1 : ByteArray) : GT Value := let o1 : GT Value := (.out (.tuple ([.agg ([.int .i64 0, .int .i64 0, .string ⟨([]).toArray⟩]).toArray, .int .i64 20]).toArray)); let o2 : GT Value := (.br ((Ref.decR k0 n0).2) (.br ((Ref.decR k1 n1).2) (.br ((!(Ref.sumR (Ref.decR k0 n0).1 (Ref.decR k1 n1).1).2)) o1 (.out (.tuple ([.agg ([.int .i64 3, .int .i64 (Ref.sumR (Ref.decR k0 n0).1 (Ref.decR k1 n1).1).1, .string ⟨([]).toArray⟩]).toArray, .int .i64 0]).toArray))) o1) o1); (.br ((Ref.firstV k0 k1 n1 false).2) (.out (.tuple ([.agg ([.int .i64 0, .int .i64 0, .string ⟨([]).toArray⟩]).toArray, .int .i64 (Ref.firstV k0 k1 n1 false).1]).toArray)) (.br ((k0 == 2)) (.br ((k1 == 2)) (.br ((!(Ref.sumR n0 n1).2)) o1 (.out (.tuple ([.agg ([.int .i64 2, .int .i64 (Ref.sumR n0 n1).1, .string ⟨([]).toArray⟩]).toArray, .int .i64 0]).toArray))) o2) o2))
set_option maxRecDepth 1000000 in
theorem run (k0 n0 : Int) (s0 : ByteArray) (k1 n1 : Int) (s1 : ByteArray) : runK 4 [(149, A149.spec), (150, A150.spec), (223, A223.spec)] [] 198 [.v (.agg #[.int .i64 k0, .int .i64 n0, .string s0]), .v (.agg #[.int .i64 k1, .int .i64 n1, .string s1])] = (T k0 n0 s0 k1 n1 s1).eval := by kernel_rfl
theorem T_ok (a b : W3) : (T a.1 a.2.1 a.2.2 b.1 b.2.1 b.2.2).eval = some (ve (Ari.refTwo Ref.sumR a b)) := by
 unfold T Ari.refTwo Ari.ofV
 dsimp only []
 simp only [GT.eval]
 cases (Ref.firstV a.1 b.1 b.2.1 false).2
 rotate_left
 ·rfl
 cases a.1 == 2 <;> cases b.1 == 2 <;> cases (Ref.decR a.1 a.2.1).2 <;> cases (Ref.decR b.1 b.2.1).2 <;> cases (Ref.sumR a.2.1 b.2.1).2 <;> cases (Ref.sumR (Ref.decR a.1 a.2.1).1 (Ref.decR b.1 b.2.1).1).2 <;> rfl
def spec : Spec := fun aa => match aa with
 | [a, b] => (vOf a).bind fun x => (vOf b).bind fun y => some (.out (ve (Ari.refTwo Ref.sumR x y)))
 | _ => none
theorem spec_ok : SpecOk Tryz.prog La 198 spec := ⟨fnOk_ok (by kernel_rfl), fun aa t v h e => by
 unfold spec at h
 split at h
 ·rename_i a b
  obtain ⟨x, h1, h⟩ := opt_bind h
  obtain ⟨y, h2, h⟩ := opt_bind h
  cases h; cases e
  rw [vOf_ok h1, vOf_ok h2]
  exact ⟨rfl, callT (n0 := 4) (k := 12) La_below prog_mix prog_names (by simpa using ⟨A149.spec_ok, A150.spec_ok, A223.spec_ok⟩) (by simp) (by decide) (by simp) rfl ((run _ _ _ _ _ _).trans (T_ok x y))⟩
 ·cases h⟩
end A198
end
section
open Go Go.Proofs
namespace A225
def T (a0 : Int) (a1 : Int) : GT Value := let x1 := IntKind.wrap .i64 (a0 - a1); let o1 : GT Value := (.out (.tuple ([.int .i64 x1, .bool (true)]).toArray)); let o2 : GT Value := (.br (decide (a0 < 0)) (.br (decide (a1 > 0)) (.out (.tuple ([.int .i64 x1, .bool ((!decide (x1 ≥ 0)))]).toArray)) o1) o1); (.br (decide (a0 ≥ 0)) (.br (decide (a1 < 0)) (.br ((!decide (x1 < 0))) o2 (.out (.tuple ([.int .i64 x1, .bool (false)]).toArray))) o2) o2)
set_option maxRecDepth 1000000 in
theorem run (a0 : Int) (a1 : Int) : runK 4 [] [] 225 [.v (.int .i64 a0), .v (.int .i64 a1)] = (T a0 a1).eval := by kernel_rfl
theorem T_ok (a b : Int) : (T a b).eval = some (.tuple #[.int .i64 (Ref.diffR a b).1, .bool (Ref.diffR a b).2]) := by
 unfold T Ref.diffR
 simp only [GT.eval]
 generalize IntKind.wrap .i64 (a - b) = x
 cases decide (a ≥ 0) <;> cases decide (b < 0) <;> cases decide (a < 0) <;> cases decide (b > 0) <;> cases decide (x < 0) <;> cases decide (x ≥ 0) <;> rfl
def spec : Spec := fun aa => match aa with
 | [.v (.int .i64 a), .v (.int .i64 b)] => some (.out (.tuple #[.int .i64 (Ref.diffR a b).1, .bool (Ref.diffR a b).2]))
 | _ => none
theorem spec_ok : SpecOk Tryz.prog La 225 spec := ⟨fnOk_ok (by kernel_rfl), fun aa t v h e => by
 unfold spec at h
 split at h
 ·rename_i a b
  cases h; cases e
  exact ⟨rfl, callT (l := []) (L := []) (n0 := 4) (k := 12) La_below prog_mix prog_names (by simp) (by simp) (by decide) (by simp) rfl ((run _ _).trans (T_ok a b))⟩
 ·cases h⟩
end A225
end
section
open Go Go.Proofs
namespace A199
def T (k0 n0 : Int) (s0 : ByteArray) (k1 n1 : Int) (s1 : ByteArray) : GT Value := let o1 : GT Value := (.out (.tuple ([.agg ([.int .i64 0, .int .i64 0, .string ⟨([]).toArray⟩]).toArray, .int .i64 20]).toArray)); let o2 : GT Value := (.br ((Ref.decR k0 n0).2) (.br ((Ref.decR k1 n1).2) (.br ((!(Ref.diffR (Ref.decR k0 n0).1 (Ref.decR k1 n1).1).2)) o1 (.out (.tuple ([.agg ([.int .i64 3, .int .i64 (Ref.diffR (Ref.decR k0 n0).1 (Ref.decR k1 n1).1).1, .string ⟨([]).toArray⟩]).toArray, .int .i64 0]).toArray))) o1) o1); (.br ((Ref.firstV k0 k1 n1 false).2) (.out (.tuple ([.agg ([.int .i64 0, .int .i64 0, .string ⟨([]).toArray⟩]).toArray, .int .i64 (Ref.firstV k0 k1 n1 false).1]).toArray)) (.br ((k0 == 2)) (.br ((k1 == 2)) (.br ((!(Ref.diffR n0 n1).2)) o1 (.out (.tuple ([.agg ([.int .i64 2, .int .i64 (Ref.diffR n0 n1).1, .string ⟨([]).toArray⟩]).toArray, .int .i64 0]).toArray))) o2) o2))
set_option maxRecDepth 1000000 in
theorem run (k0 n0 : Int) (s0 : ByteArray) (k1 n1 : Int) (s1 : ByteArray) : runK 4 [(149, A149.spec), (150, A150.spec), (225, A225.spec)] [] 199 [.v (.agg #[.int .i64 k0, .int .i64 n0, .string s0]), .v (.agg #[.int .i64 k1, .int .i64 n1, .string s1])] = (T k0 n0 s0 k1 n1 s1).eval := by kernel_rfl
theorem T_ok (a b : W3) : (T a.1 a.2.1 a.2.2 b.1 b.2.1 b.2.2).eval = some (ve (Ari.refTwo Ref.diffR a b)) := by
 unfold T Ari.refTwo Ari.ofV
 dsimp only []
 simp only [GT.eval]
 cases (Ref.firstV a.1 b.1 b.2.1 false).2
 rotate_left
 ·rfl
 cases a.1 == 2 <;> cases b.1 == 2 <;> cases (Ref.decR a.1 a.2.1).2 <;> cases (Ref.decR b.1 b.2.1).2 <;> cases (Ref.diffR a.2.1 b.2.1).2 <;> cases (Ref.diffR (Ref.decR a.1 a.2.1).1 (Ref.decR b.1 b.2.1).1).2 <;> rfl
def spec : Spec := fun aa => match aa with
 | [a, b] => (vOf a).bind fun x => (vOf b).bind fun y => some (.out (ve (Ari.refTwo Ref.diffR x y)))
 | _ => none
theorem spec_ok : SpecOk Tryz.prog La 199 spec := ⟨fnOk_ok (by kernel_rfl), fun aa t v h e => by
 unfold spec at h
 split at h
 ·rename_i a b
  obtain ⟨x, h1, h⟩ := opt_bind h
  obtain ⟨y, h2, h⟩ := opt_bind h
  cases h; cases e
  rw [vOf_ok h1, vOf_ok h2]
  exact ⟨rfl, callT (n0 := 4) (k := 12) La_below prog_mix prog_names (by simpa using ⟨A149.spec_ok, A150.spec_ok, A225.spec_ok⟩) (by simp) (by decide) (by simp) rfl ((run _ _ _ _ _ _).trans (T_ok x y))⟩
 ·cases h⟩
end A199
end
section
open Go Go.Proofs
namespace A202
def T (k0 n0 : Int) (s0 : ByteArray) (k1 n1 : Int) (s1 : ByteArray) : GT Value := let x1 := Int.tmod (Ref.decR k0 n0).1 (Ref.decR k1 n1).1; let o1 : GT Value := (.out (.tuple ([.agg ([.int .i64 0, .int .i64 0, .string ⟨([]).toArray⟩]).toArray, .int .i64 20]).toArray)); let o2 : GT Value := (.br ((Ref.decR k0 n0).2) (.br ((!(Ref.decR k1 n1).2)) o1 (.br (((Ref.decR k1 n1).1 != (-1))) (.br ((!decide ((Ref.decR k1 n1).1 = 0))) (.out (.tuple ([.agg ([.int .i64 3, .int .i64 x1, .string ⟨([]).toArray⟩]).toArray, .int .i64 0]).toArray)) .no) (.out (.tuple ([.agg ([.int .i64 3, .int .i64 0, .string ⟨([]).toArray⟩]).toArray, .int .i64 0]).toArray)))) o1); (.br ((Ref.firstV k0 k1 n1 true).2) (.out (.tuple ([.agg ([.int .i64 0, .int .i64 0, .string ⟨([]).toArray⟩]).toArray, .int .i64 (Ref.firstV k0 k1 n1 true).1]).toArray)) (.br ((k0 == 3)) o2 (.br ((k1 == 3)) o2 (.br ((n1 != (-1))) (.br ((!decide (n1 = 0))) (.out (.tuple ([.agg ([.int .i64 2, .int .i64 (Int.tmod n0 n1), .string ⟨([]).toArray⟩]).toArray, .int .i64 0]).toArray)) .no) (.out (.tuple ([.agg ([.int .i64 2, .int .i64 0, .string ⟨([]).toArray⟩]).toArray, .int .i64 0]).toArray))))))
set_option maxRecDepth 1000000 in
theorem run (k0 n0 : Int) (s0 : ByteArray) (k1 n1 : Int) (s1 : ByteArray) : runK 4 [(149, A149.spec), (150, A150.spec)] [] 202 [.v (.agg #[.int .i64 k0, .int .i64 n0, .string s0]), .v (.agg #[.int .i64 k1, .int .i64 n1, .string s1])] = (T k0 n0 s0 k1 n1 s1).eval := by kernel_rfl
theorem T_ok (a b : W3) : (T a.1 a.2.1 a.2.2 b.1 b.2.1 b.2.2).eval = some (ve (Ari.refModV a b)) := by
 unfold T Ari.refModV
 dsimp only []
 simp only [GT.eval]
 cases hf : (Ref.firstV a.1 b.1 b.2.1 true).2
 rotate_left
 ·rfl
 have hn := Ari.first_ne hf
 have hd := Ari.dec_ne (k := b.1) hn
 simp only [cond_false, decide_eq_false hn, Bool.not_false, cond_true]
 generalize Ref.decR a.1 a.2.1 = p at *
 generalize Ref.decR b.1 b.2.1 = q at *
 obtain ⟨x, ox⟩ := p
 obtain ⟨y, oy⟩ := q
 dsimp only [] at hd ⊢
 cases oy
 ·unfold Ari.rem
  cases a.1 == 3 <;> cases b.1 == 3 <;> cases ox <;> cases b.2.1 != -1 <;> rfl
 ·have hy := hd rfl
  simp only [decide_eq_false hy, Bool.not_false, cond_true, Bool.not_true, cond_false]
  unfold Ari.rem
  cases a.1 == 3 <;> cases b.1 == 3 <;> cases ox <;> cases b.2.1 != -1 <;> cases y != -1 <;> rfl
def spec : Spec := fun aa => match aa with
 | [a, b] => (vOf a).bind fun x => (vOf b).bind fun y => some (.out (ve (Ari.refModV x y)))
 | _ => none
theorem spec_ok : SpecOk Tryz.prog La 202 spec := ⟨fnOk_ok (by kernel_rfl), fun aa t v h e => by
 unfold spec at h
 split at h
 ·rename_i a b
  obtain ⟨x, h1, h⟩ := opt_bind h
  obtain ⟨y, h2, h⟩ := opt_bind h
  cases h; cases e
  rw [vOf_ok h1, vOf_ok h2]
  exact ⟨rfl, callT (n0 := 4) (k := 12) La_below prog_mix prog_names (by simpa using ⟨A149.spec_ok, A150.spec_ok⟩) (by simp) (by decide) (by simp) rfl ((run _ _ _ _ _ _).trans (T_ok x y))⟩
 ·cases h⟩
end A202
end
section
open Go Go.Proofs
theorem SpecOk.of {P : Program} {La : World → Prop} {f : FuncId} {sp sp' : Spec} (h : SpecOk P La f sp) (h' : ∀ aa t v, sp' aa = some t → t.eval = some v → ∃ t', sp aa = some t' ∧ t'.eval = some v) : SpecOk P La f sp' :=
 ⟨h.1, fun aa t v e1 e2 => by
  obtain ⟨t', a, b⟩ := h' aa t v e1 e2
  exact h.2 aa t' v a b⟩
def sp2 (g : W3 → W3 → Value) : Spec := fun aa => match aa with
 | [a, b] => (vOf a).bind fun x => (vOf b).bind fun y => some (.need (inR x.2.1 && inR y.2.1) (.out (g x y)))
 | _ => none
theorem sp2_of {f : FuncId} {sp : Spec} {g : W3 → W3 → Value} (h : SpecOk Tryz.prog La f sp) (h' : ∀ a b x y, vOf a = some x → vOf b = some y → inR x.2.1 = true → inR y.2.1 = true → ∃ t', sp [a, b] = some t' ∧ t'.eval = some (g x y)) : SpecOk Tryz.prog La f (sp2 g) := h.of fun aa t v e1 e2 => by
 unfold sp2 at e1
 split at e1
 ·rename_i a b
  obtain ⟨x, h1, e1⟩ := opt_bind e1
  obtain ⟨y, h2, e1⟩ := opt_bind e1
  cases e1
  obtain ⟨g1, g2⟩ := GT.need_eval e2
  cases g2
  rw [Bool.and_eq_true] at g1
  exact h' a b x y h1 h2 g1.1 g1.2
 ·cases e1
namespace Ref
def eqKV (a b : W3) : Int := bif a.1 == 0 || b.1 == 0 then 0 else 1
def eqNV (a b : W3) : Int := bif a.1 == 0 || b.1 == 0 then 0 else bif (A76.compare a.1 a.2.1 a.2.2 b.1 b.2.1 b.2.2).2 && (A76.compare a.1 a.2.1 a.2.2 b.1 b.2.1 b.2.2).1 == 0 then 1 else 0
def eqW (a b : W3) : Value := .agg #[.int .i64 (eqKV a b), .int .i64 (eqNV a b), .string ⟨#[]⟩]
end Ref
theorem eq36 : SpecOk Tryz.prog La 36 (sp2 Ref.eqW) := sp2_of A36.spec_ok fun a b x y h1 h2 i1 i2 => by
 refine ⟨_, by unfold A36.spec; simp only [h1, h2, Option.bind_some]; rfl, ?_⟩
 show some _ = some _
 unfold A36.eqv Ref.eqW Ref.eqKV Ref.eqNV A36.V3'
 cases x.1 == 0 || y.1 == 0 <;> cases (A76.compare x.1 x.2.1 x.2.2 y.1 y.2.1 y.2.2).2 && (A76.compare x.1 x.2.1 x.2.2 y.1 y.2.1 y.2.2).1 == 0 <;> rfl
end
end Go.Proofs.YtaiokpmmjbiajaaGreatDoorDx
namespace Go.Proofs.YtaiokpmmjbiajaaGreatDoorDx.Ari
section
open Go
def sizeA (n : Int) : Int := if n < 0 then -n else n
theorem size_ok {n : Int} (h : inR n = true) : 0 ≤ sizeA n ∧ sizeA n ≤ 9223372036854775808 := by
 unfold inR at h
 simp only [Bool.and_eq_true, decide_eq_true_eq] at h
 unfold sizeA
 split <;> omega
theorem size_zero {n : Int} : sizeA n = 0 ↔ n = 0 := by unfold sizeA; split <;> omega
def below (a b d : Int) : Bool := !((!(decide (a < 0) == decide (b < 0))) == decide (d < 0))
def quot (a b d : Int) : Int × Bool :=
 bif decide (sizeA a * sizeA b / sizeA d > 9223372036854775808) || ((sizeA a * sizeA b / sizeA d == 9223372036854775808) && !below a b d) then (0, false) else
 bif below a b d then (-(sizeA a * sizeA b / sizeA d), true) else (sizeA a * sizeA b / sizeA d, true)
def mdV (a b d : Int) : Int × Bool :=
 bif decide (sizeA a * sizeA b / sizeA d ≥ 18446744073709551616) then (0, false) else
 bif below a b d && (sizeA a * sizeA b / sizeA d != 0) then (IntKind.wrap .i64 (-(sizeA a * sizeA b / sizeA d)), decide (sizeA a * sizeA b / sizeA d ≤ 9223372036854775808)) else
 (IntKind.wrap .i64 (sizeA a * sizeA b / sizeA d), decide (sizeA a * sizeA b / sizeA d < 9223372036854775808))
theorem prod_ok {a b : Int} (ha : inR a = true) (hb : inR b = true) : 0 ≤ sizeA a * sizeA b ∧ sizeA a * sizeA b < 340282366920938463463374607431768211456 := by
 have h1 := size_ok ha
 have h2 := size_ok hb
 refine ⟨Int.mul_nonneg h1.1 h2.1, ?_⟩
 have := Int.mul_le_mul h1.2 h2.2 h2.1 (by decide)
 omega
theorem size_pos {d : Int} (hd : inR d = true) (h : d ≠ 0) : 0 < sizeA d := by
 have h1 := size_ok hd
 have := @size_zero d
 omega
theorem md_eq {a b d : Int} (ha : inR a = true) (hb : inR b = true) (hd : inR d = true) (h : d ≠ 0) : (mdV a b d).2 = (quot a b d).2 ∧ ((quot a b d).2 = true → (mdV a b d).1 = (quot a b d).1 ∧ inR (quot a b d).1 = true) := by
 have hq : 0 ≤ sizeA a * sizeA b / sizeA d := Int.ediv_nonneg (prod_ok ha hb).1 (Int.le_of_lt (size_pos hd h))
 unfold mdV quot
 generalize sizeA a * sizeA b / sizeA d = q at *
 by_cases h1 : q ≥ 18446744073709551616
 ·rw [decide_eq_true h1, decide_eq_true (show q > 9223372036854775808 by omega)]
  exact ⟨rfl, fun h => by cases h⟩
 rw [decide_eq_false h1]
 cases hb2 : below a b d
 ·simp only [Bool.false_and, cond_false, Bool.not_false, Bool.and_true]
  by_cases h2 : q < 9223372036854775808
  ·have e : (q == 9223372036854775808) = false := beq_eq_false_iff_ne.2 (by omega)
   rw [decide_eq_true h2, decide_eq_false (show ¬ q > 9223372036854775808 by omega), e]
   refine ⟨rfl, fun _ => ⟨?_, ?_⟩⟩
   ·show IntKind.wrap .i64 q = q
    rw [IntKind.wrap_i64]; omega
   ·show inR q = true
    unfold inR; simp only [Bool.and_eq_true, decide_eq_true_eq]; omega
  ·rw [decide_eq_false h2]
   have e : (decide (q > 9223372036854775808) || q == 9223372036854775808) = true := by
    rw [Bool.or_eq_true, decide_eq_true_eq, beq_iff_eq]; omega
   rw [e]
   exact ⟨rfl, fun h => by cases h⟩
 ·simp only [Bool.true_and, Bool.not_true, Bool.and_false, Bool.or_false, cond_true]
  by_cases h0 : q = 0
  ·subst h0
   exact ⟨rfl, fun _ => ⟨rfl, rfl⟩⟩
  ·rw [bne_iff_ne.2 h0]
   by_cases h2 : q ≤ 9223372036854775808
   ·rw [decide_eq_true h2, decide_eq_false (show ¬ q > 9223372036854775808 by omega)]
    refine ⟨rfl, fun _ => ⟨?_, ?_⟩⟩
    ·show IntKind.wrap .i64 (-q) = -q
     rw [IntKind.wrap_i64]; omega
    ·show inR (-q) = true
     unfold inR; simp only [Bool.and_eq_true, decide_eq_true_eq]; omega
   ·rw [decide_eq_false h2, decide_eq_true (show q > 9223372036854775808 by omega)]
    exact ⟨rfl, fun h => by cases h⟩
end
section
open Go Go.Proofs Go.Proofs.YtaiokpmmjbiajaaGreatDoorDx.Fit
def mulV (a b : W3) : W3 × Int :=
 bif (Ref.firstV a.1 b.1 b.2.1 false).2 then (v0, (Ref.firstV a.1 b.1 b.2.1 false).1) else
 ofV (bif a.1 == 3 || b.1 == 3 then 3 else 2) (bif a.1 == 3 && b.1 == 3 then quot a.2.1 b.2.1 10000 else quot a.2.1 b.2.1 1)
def divV (a b : W3) : W3 × Int :=
 bif (Ref.firstV a.1 b.1 b.2.1 true).2 then (v0, (Ref.firstV a.1 b.1 b.2.1 true).1) else
 bif a.1 == 2 && b.1 == 2 then ofV 2 (quot a.2.1 1 b.2.1) else
 bif (Ref.decR a.1 a.2.1).2 && (Ref.decR b.1 b.2.1).2 then ofV 3 (quot (Ref.decR a.1 a.2.1).1 10000 (Ref.decR b.1 b.2.1).1) else (v0, 20)
theorem dec_in {k n : Int} (hn : inR n = true) (h : (Ref.decR k n).2 = true) : inR (Ref.decR k n).1 = true := by
 have h1 := in_iff.1 hn
 unfold Ref.decR at h ⊢
 cases hk : k == 3 <;> rw [hk] at h
 ·simp only [cond_false, Bool.and_eq_true, decide_eq_true_eq] at h ⊢
  exact in_iff.2 (by rw [IntKind.wrap_i64]; omega)
 ·exact hn
end
section
open Go Go.Proofs Go.Proofs.YtaiokpmmjbiajaaGreatDoorDx.Fit
def arithV (t : ByteArray) (a b : W3) : W3 × Int :=
 bif eqU t.data.toList [43] then twoV addI a b else bif eqU t.data.toList [45] then twoV subI a b else bif eqU t.data.toList [42] then mulV a b else bif eqU t.data.toList [47] then divV a b else modV a b
def binV (t : ByteArray) (a b : W3) : W3 × Int :=
 bif eqU t.data.toList [43] || (eqU t.data.toList [45] || (eqU t.data.toList [42] || (eqU t.data.toList [47] || eqU t.data.toList [37]))) then arithV t a b else
 bif eqU t.data.toList [61] then ((Ref.eqKV a b, Ref.eqNV a b, ⟨#[]⟩), 0) else bif eqU t.data.toList [33, 61] then (Ref.notV (Ref.eqKV a b, Ref.eqNV a b, ⟨#[]⟩), 0) else
 bif eqU t.data.toList [97, 110, 100] then (Ref.andV a b, 0) else bif eqU t.data.toList [111, 114] then (Ref.orV a b, 0) else
 (Ref.cmpV t (A76.compare a.1 a.2.1 a.2.2 b.1 b.2.1 b.2.2), 0)
def _root_.Go.Proofs.YtaiokpmmjbiajaaGreatDoorDx.spS2 (g : ByteArray → W3 → W3 → Value) : Spec := fun aa => match aa with
 | [.v (.string t), a, b] => (vOf a).bind fun x => (vOf b).bind fun y => some (.need (inR x.2.1 && inR y.2.1) (.out (g t x y)))
 | _ => none
end
end Go.Proofs.YtaiokpmmjbiajaaGreatDoorDx.Ari
namespace Go.Proofs.YtaiokpmmjbiajaaGreatDoorDx
section
open Go Go.Proofs
theorem SpecOk.to {P : Program} {La : World → Prop} {f : FuncId} {sp sp' : Spec} (h : SpecOk P La f sp) (e : ∀ aa t' v, sp' aa = some t' → t'.eval = some v → ∃ t, sp aa = some t ∧ t.eval = some v) : SpecOk P La f sp' :=
 ⟨h.1, fun aa t' v h1 h2 => by
  obtain ⟨t, h3, h4⟩ := e aa t' v h1 h2
  exact h.2 aa t v h3 h4⟩
def spec85 : Spec := fun aa => match aa with
 | [.v (.string s), .v (.int .u8 a), .v (.int .u8 b), .v (.int .i64 d)] => some (.need (Nat.ble s.data.toList.length 9223372036854775807 && (decide (-1000 ≤ d) && decide (d ≤ 1000))) (.out (.string (_root_.Go.Proofs.YtaiokpmmjbiajaaGreatDoorTxt.casedB a b d s))))
 | _ => none
def spec87 : Spec := fun aa => match aa with
 | [.v (.string s), .v (.int .i64 a), .v (.int .i64 b)] => some (.need (Nat.ble s.data.toList.length 70368744177664 && (inR a && inR b)) (.out (.string (_root_.Go.Proofs.YtaiokpmmjbiajaaGreatDoorTxt.pieceB s a b))))
 | _ => none
def spec88 : Spec := fun aa => match aa with
 | [a] => (vOf a).bind fun x => some (.need (Nat.ble x.2.2.data.toList.length 9223372036854775807 && inR x.2.1) (.out (.string (Fit.showB x.1 x.2.1 x.2.2))))
 | _ => none
namespace A83
def rc (s : ByteArray) : Int := Int.ofNat (Lib.runeCount s)
def spec : Spec := fun aa => match aa with
 | [.v (.string a)] => some (.need (Nat.blt a.data.toList.length 9223372036854775807) (.out (.int .i64 (rc a))))
 | _ => none
theorem spec_ok : SpecOk Tryz.prog La 83 spec := spec83_ok.to fun aa t' v h1 h2 => by
 unfold spec at h1
 split at h1
 ·cases h1; exact ⟨_, rfl, h2⟩
 ·cases h1
end A83
namespace A80
theorem rounded_ve (s : ByteArray) (k n : Int) (t : ByteArray) : rounded s k n t = ve (Fit.rndP s (k, n, t)) := by
 unfold rounded Fit.rndP
 cases h : k == 2
 ·rfl
 ·rfl
def specP : Spec := fun aa => match aa with
 | [.v (.string s), a] => (vOf a).bind fun x => some (.out (ve (Fit.rndP s x)))
 | _ => none
theorem specP_ok : SpecOk Tryz.prog La 80 specP := spec_ok.to fun aa t' v h1 h2 => by
 unfold specP at h1
 split at h1
 ·rename_i s a
  obtain ⟨x, h3, h4⟩ := opt_bind h1
  cases h4
  refine ⟨.out (rounded s x.1 x.2.1 x.2.2), ?_, ?_⟩
  ·show ((vOf a).bind fun x => some (GT.out (rounded s x.1 x.2.1 x.2.2))) = _
   rw [h3]; rfl
  ·rw [rounded_ve]; exact h2
 ·cases h1
end A80
namespace A34
theorem chosen_ve (s : ByteArray) (l : List W3) : chosenV s l = ve (Fit.chosenP s l) := by
 unfold chosenV Fit.chosenP
 cases h : (best s l).1 != 0 <;> rfl
def specP : Spec := fun aa => match aa with
 | [.v (.string s), .sl n 3 cs] => some (.need (rowW n (Int.ofNat n) cs && (valsOf cs).all (fun v => inR v.2.1)) (.out (ve (Fit.chosenP s (valsOf cs)))))
 | _ => none
theorem specP_ok : SpecOk Tryz.prog La 34 specP := spec_ok.to fun aa t' v h1 h2 => by
 unfold specP at h1
 split at h1
 ·rename_i s n cs
  cases h1
  rw [← chosen_ve] at h2
  exact ⟨_, rfl, h2⟩
 ·cases h1
end A34
namespace A36
def eqK (a b : W3) : Int := bif a.1 == 0 || b.1 == 0 then 0 else 1
def eqN (a b : W3) : Int := bif a.1 == 0 || b.1 == 0 then 0 else bif (A76.compare a.1 a.2.1 a.2.2 b.1 b.2.1 b.2.2).2 && (A76.compare a.1 a.2.1 a.2.2 b.1 b.2.1 b.2.2).1 == 0 then 1 else 0
theorem eqv_eq (a b : W3) : eqv a.1 a.2.1 a.2.2 b.1 b.2.1 b.2.2 = .agg #[.int .i64 (eqK a b), .int .i64 (eqN a b), .string ⟨#[]⟩] := by
 unfold eqv eqK eqN
 cases a.1 == 0 || b.1 == 0
 ·cases (A76.compare a.1 a.2.1 a.2.2 b.1 b.2.1 b.2.2).2 && (A76.compare a.1 a.2.1 a.2.2 b.1 b.2.1 b.2.2).1 == 0 <;> rfl
 ·rfl
def specP : Spec := fun aa => match aa with
 | [a, b] => (vOf a).bind fun x => (vOf b).bind fun y => some (.out (.agg #[.int .i64 (eqK x y), .int .i64 (eqN x y), .string ⟨#[]⟩]))
 | _ => none
theorem specP_ok : SpecOk Tryz.prog La 36 specP := spec_ok.to fun aa t' v h1 h2 => by
 unfold specP at h1
 split at h1
 ·rename_i a b
  obtain ⟨x, h3, h1⟩ := opt_bind h1
  obtain ⟨y, h4, h1⟩ := opt_bind h1
  cases h1
  refine ⟨.out (eqv x.1 x.2.1 x.2.2 y.1 y.2.1 y.2.2), ?_, ?_⟩
  ·show ((vOf a).bind fun x => (vOf b).bind fun y => some (GT.out (eqv x.1 x.2.1 x.2.2 y.1 y.2.1 y.2.2))) = _
   rw [h3, h4]; rfl
  ·rw [eqv_eq]; exact h2
 ·cases h1
end A36
namespace A14
def specP : Spec := fun aa => match aa with
 | [.v (.string s), .sl n 1 cs] => some (.need (rowI n (Int.ofNat n) cs) (.out (Fit.two (Fit.kindP s (cs.map valI)))))
 | [.v (.string s), .nil] => some (.out (Fit.two (0, 100)))
 | _ => none
theorem specP_ok : SpecOk Tryz.prog La 14 specP := spec_ok.to fun aa t' v h1 h2 => by
 unfold specP at h1
 split at h1
 ·cases h1
  rw [← Fit.kindV_two] at h2
  exact ⟨_, rfl, h2⟩
 ·cases h1
  exact ⟨_, rfl, h2⟩
 ·cases h1
end A14
end
section
open Go Go.Proofs
open Go.Proofs.YtaiokpmmjbiajaaGreatDoor.PLeaf
theorem len_size (s : ByteArray) : s.data.toList.length = s.size := by rw [Array.length_toList]; rfl
theorem ok85 : SpecOk Tryz.prog La 85 spec85 := spec_lib (by kernel_rfl) fun aa t v h e => by
 unfold spec85 at h
 split at h
 ·rename_i s a b d
  cases h
  obtain ⟨g1, g2⟩ := GT.need_eval e
  cases g2
  simp only [Bool.and_eq_true, decide_eq_true_eq, Nat.ble_eq, len_size] at g1
  refine ⟨[.string s, .int .u8 a, .int .u8 b, .int .i64 d], rfl, rfl, fun W hW => funcs_cased.calls s a b d (_root_.Go.Proofs.YtaiokpmmjbiajaaGreatDoorTxt.casedB a b d s) W ?_⟩
  unfold funcs_cased.f
  rw [if_pos g1.1, if_pos g1.2.1, if_pos g1.2.2]
  rfl
 ·cases h
theorem ok87 : SpecOk Tryz.prog La 87 spec87 := spec_lib (by kernel_rfl) fun aa t v h e => by
 unfold spec87 at h
 split at h
 ·rename_i s a b
  cases h
  obtain ⟨g1, g2⟩ := GT.need_eval e
  cases g2
  simp only [Bool.and_eq_true, inR, decide_eq_true_eq, Nat.ble_eq, len_size] at g1
  obtain ⟨h1, ⟨h2, h3⟩, h4, h5⟩ := g1
  refine ⟨[.string s, .int .i64 a, .int .i64 b], rfl, rfl, fun W hW => funcs_piece.calls s a b (_root_.Go.Proofs.YtaiokpmmjbiajaaGreatDoorTxt.pieceB s a b) W ?_⟩
  have e2 : ∀ (n i : Nat), funcs_piece.pts s n i = _root_.Go.Proofs.YtaiokpmmjbiajaaGreatDoorTxt.pts s n i := by
   intro n
   induction n with
   | zero => intro i; rfl
   | succ n ih => intro i; unfold funcs_piece.pts _root_.Go.Proofs.YtaiokpmmjbiajaaGreatDoorTxt.pts; rw [ih]
  unfold funcs_piece.f
  rw [if_pos h1, if_pos h2, if_pos (by omega), if_pos h4, if_pos (by omega)]
  unfold funcs_piece.g _root_.Go.Proofs.YtaiokpmmjbiajaaGreatDoorTxt.pieceB
  rw [e2]; rfl
 ·cases h
theorem check_f (k n : Int) (s : ByteArray) (hs : s.size ≤ 9223372036854775807) : value_Check.f k n s = some (if A33.okv k n s = true then 0 else 1) := by
 have he : eqU s.data.toList [] = decide (s.size = 0) := by
  rw [← len_size]
  cases s.data.toList <;> rfl
 unfold value_Check.f A33.okv
 rw [he]
 by_cases h0 : k = 0
 ·subst h0; simp
 by_cases h1 : k = 1
 ·subst h1; simp
 by_cases h2 : k = 2
 ·subst h2; simp
 by_cases h3 : k = 3
 ·subst h3; simp
 by_cases h4 : k = 4
 ·subst h4; simp [hs, and_assoc, len_size]
 ·simp [h0, h1, h2, h3, h4]
def quoteL : List UInt8 → List UInt8
 | [] => []
 | b :: l => if b = 39 then 39 :: 39 :: quoteL l else b :: quoteL l
theorem quoteL_replace : ∀ s : List UInt8, Lib.replaceK [39] [39, 39] (Lib.count s [39]) s = quoteL s
 | [] => rfl
 | b :: l => by
  have ih := quoteL_replace l
  by_cases hb : b = 39
  ·subst hb
   have hi : Lib.index (39 :: l) [39] = (0 : Nat) := by simp [Lib.index]
   rw [Lib.count_hit (by simp) hi, Nat.add_comm, Lib.replaceK_hit _ _ _ _ 0 hi]
   simp only [List.length_singleton, Nat.zero_add, List.drop_succ_cons, List.drop_zero, List.take_zero, List.nil_append]
   rw [ih, quoteL, if_pos rfl]
   rfl
  ·have hp : ([39] : List UInt8).isPrefixOf (b :: l) = false := by simp [List.isPrefixOf]; exact fun e => hb e.symm
   rw [quoteL, if_neg hb]
   by_cases hl : Lib.index l [39] = -1
   ·have hi : Lib.index (b :: l) [39] = -1 := by rw [Lib.index, hp, hl]; rfl
    rw [Lib.count_miss hi]
    rw [Lib.count_miss hl] at ih
    rw [← ih]
    rfl
   ·have hge := Lib.index_ge l [39]
    obtain ⟨i, hi⟩ : ∃ i : Nat, Lib.index l [39] = i := ⟨(Lib.index l [39]).toNat, by omega⟩
    have hi' : Lib.index (b :: l) [39] = ((i + 1 : Nat) : Int) := by
     rw [Lib.index, hp, hi]
     have : ¬ ((i : Int) == -1) = true := fun e => by have := beq_iff_eq.1 e; omega
     rw [if_neg this]
     simp
    rw [Lib.count_hit (by simp) hi', Nat.add_comm, Lib.replaceK_hit _ _ _ _ _ hi']
    rw [Lib.count_hit (by simp) hi, Nat.add_comm, Lib.replaceK_hit _ _ _ _ _ hi] at ih
    rw [← ih]
    simp [Nat.add_assoc]
theorem replaceAll_quote (s : List UInt8) : Lib.replaceAll s [39] [39, 39] = quoteL s := by
 unfold Lib.replaceAll Lib.replace Lib.replaceNum
 rw [if_neg (by decide), if_pos (.inl (by decide))]
 exact quoteL_replace s
theorem quoteL_len : ∀ s, (quoteL s).length ≤ 2 * s.length
 | [] => by simp [quoteL]
 | b :: l => by
  have := quoteL_len l
  unfold quoteL
  split <;> simp <;> omega
theorem show_f (k n : Int) (s : ByteArray) (hs : s.size ≤ 9223372036854775807) (hn : inR n = true) : value_Show.f k n s = some (Fit.showB k n s) := by
 unfold inR at hn
 simp only [Bool.and_eq_true, decide_eq_true_eq] at hn
 unfold value_Show.f Fit.showB Fit.textL
 rw [check_f k n s hs, Option.bind_some]
 cases ho : A33.okv k n s
 ·simp
 ·simp only [if_true, Bool.not_true, cond_false]
  by_cases h1 : k = 1
  ·subst h1
   by_cases h : n = 1
   ·subst h; rfl
   ·simp [h, beq_eq_false_iff_ne.2 h]
  by_cases h2 : k = 2
  ·subst h2
   simp [strconv_Itoa.f, hn.1, show n ≤ 9223372036854775807 by omega]
  by_cases h3 : k = 3
  ·subst h3
   simp [value_decimal.f, hn.1, show n ≤ 9223372036854775807 by omega]
   rfl
  by_cases h4 : k = 4
  ·subst h4
   obtain ⟨_, h5, h6⟩ := Fit.okv_textS ho
   rw [len_size] at h5
   have hq := quoteL_len s.data.toList
   rw [len_size] at hq
   have hc := Lib.count_le s.data.toList [39]
   rw [len_size] at hc
   have hrep : strings_ReplaceAll.f s ⟨#[39]⟩ ⟨#[39, 39]⟩ = some ⟨(quoteL s.data.toList).toArray⟩ := by
    unfold strings_ReplaceAll.f
    have s1 : (⟨#[39]⟩ : ByteArray).size = 1 := rfl
    have s2 : (⟨#[39, 39]⟩ : ByteArray).size = 2 := rfl
    rw [if_pos (by omega), s1, if_pos (by omega), s2, if_pos (by show s.size + Lib.count s.data.toList [39] * 2 ≤ _; omega)]
    show some (⟨(Lib.replaceAll s.data.toList [39] [39, 39]).toArray⟩ : ByteArray) = _
    rw [replaceAll_quote]
   have hqs : (⟨(quoteL s.data.toList).toArray⟩ : ByteArray).size = (quoteL s.data.toList).length := by simp [ByteArray.size]
   simp only [hrep, Option.bind_some]
   rw [if_neg (by decide), if_neg (by decide), if_neg (by decide), if_pos (by decide), if_pos (by rw [hqs]; omega)]
   refine congrArg some (WideShapes.bytes_inj ?_)
   rw [replaceAll_quote]
   simp
  have h0 : k = 0 := by
   unfold A33.okv at ho
   by_cases h0 : k = 0
   ·exact h0
   ·simp [beq_eq_false_iff_ne.2 h0, beq_eq_false_iff_ne.2 h1, beq_eq_false_iff_ne.2 h2, beq_eq_false_iff_ne.2 h3, beq_eq_false_iff_ne.2 h4] at ho
  subst h0
  rfl
theorem ok88 : SpecOk Tryz.prog La 88 spec88 := spec_lib (by kernel_rfl) fun aa t v h e => by
 unfold spec88 at h
 split at h
 ·rename_i a
  obtain ⟨⟨k0, n0, s0⟩, h1, h⟩ := opt_bind h
  cases h
  obtain ⟨g1, g2⟩ := GT.need_eval e
  cases g2
  simp only [Bool.and_eq_true, Nat.ble_eq, len_size] at g1
  rw [vOf_ok h1]
  exact ⟨[.agg #[.int .i64 k0, .int .i64 n0, .string s0]], rfl, rfl, fun W hW => value_Show.calls k0 n0 s0 (Fit.showB k0 n0 s0) W hW (show_f k0 n0 s0 g1.1 g1.2)⟩
 ·cases h
end
section
open Go Go.Proofs
namespace A37
def T (s0 : ByteArray) (m1 : Nat) (c1 : List Value) : GT Value := let x2 := A82.intV (rdI c1 0) (rdI c1 1); let x3 := A79.negV (rdI c1 0) (rdI c1 1); let x4 := A75.decV (rdI c1 0) (rdI c1 1); let x5 := Go.Lib.trimB (rdS c1 2).data.toList (32 : UInt8); let x6 := A37L0.cat (valsOf c1); let o1 : GT Value := (.out (.tuple ([.agg ([.int .i64 (rdI c1 0), .int .i64 (rdI c1 1), .string (rdS c1 2)]).toArray, .int .i64 0]).toArray)); let o2 : GT Value := (.out (.tuple ([.agg ([.int .i64 (Fit.rndP s0 (rdI c1 0, rdI c1 1, rdS c1 2)).1.1, .int .i64 (Fit.rndP s0 (rdI c1 0, rdI c1 1, rdS c1 2)).1.2.1, .string (Fit.rndP s0 (rdI c1 0, rdI c1 1, rdS c1 2)).1.2.2]).toArray, .int .i64 (Fit.rndP s0 (rdI c1 0, rdI c1 1, rdS c1 2)).2]).toArray)); let o3 : GT Value := (.br (([(true, AA.v (.string s0)), ((fun (cs : List Value) => ((0 + m1 * 3).ble cs.length && (List.take (m1 * 3) (List.drop 0 cs)).all scalV, AA.sl m1 3 (List.take (m1 * 3) (List.drop 0 cs)))) c1)]).all fun x => x.fst) (.br (((decide ((Int.ofNat m1) = (Int.ofNat m1)) && ((isVals (List.take (m1 * 3) (List.drop 0 c1))) && (Nat.beq (((((c1).drop 0)).take (m1 * 3))).length (m1 * 3) && Nat.blt m1 4398046511104))) && ((valsOf (List.take (m1 * 3) (List.drop 0 c1)))).all fun v => inR v.snd.fst)) (.out (.tuple ([.agg ([.int .i64 (Fit.chosenP s0 (valsOf (List.take (m1 * 3) (List.drop 0 c1)))).1.1, .int .i64 (Fit.chosenP s0 (valsOf (List.take (m1 * 3) (List.drop 0 c1)))).1.2.1, .string (Fit.chosenP s0 (valsOf (List.take (m1 * 3) (List.drop 0 c1)))).1.2.2]).toArray, .int .i64 (Fit.chosenP s0 (valsOf (List.take (m1 * 3) (List.drop 0 c1)))).2]).toArray)) .no) .no); let o4 : GT Value := (.out (.tuple ([.agg ([.int .i64 0, .int .i64 0, .string ⟨([]).toArray⟩]).toArray, .int .i64 20]).toArray)); (.br (Nat.blt 0 m1) (.br (isL c1 0 [(.i .i64), (.i .i64), .s]) (.br (eqU (s0).data.toList [97, 98, 115]) (.br (decide ((rdI c1 1) < 0)) (.out (.tuple ([.agg ([.int .i64 x3.1.1, .int .i64 x3.1.2.1, .string x3.1.2.2]).toArray, .int .i64 x3.2]).toArray)) o1) (.br (eqU (s0).data.toList [99, 101, 105, 108]) o2 (.br (eqU (s0).data.toList [102, 108, 111, 111, 114]) o2 (.br (eqU (s0).data.toList [114, 111, 117, 110, 100]) o2 (.br (eqU (s0).data.toList [115, 105, 103, 110]) (.br (decide ((rdI c1 1) < 0)) (.out (.tuple ([.agg ([.int .i64 2, .int .i64 (-1), .string ⟨([]).toArray⟩]).toArray, .int .i64 0]).toArray)) (.br (decide ((rdI c1 1) > 0)) (.out (.tuple ([.agg ([.int .i64 2, .int .i64 1, .string ⟨([]).toArray⟩]).toArray, .int .i64 0]).toArray)) (.out (.tuple ([.agg ([.int .i64 2, .int .i64 0, .string ⟨([]).toArray⟩]).toArray, .int .i64 0]).toArray)))) (.br (eqU (s0).data.toList [116, 111, 105, 110, 116]) (.out (.tuple ([.agg ([.int .i64 x2.1.1, .int .i64 x2.1.2.1, .string x2.1.2.2]).toArray, .int .i64 x2.2]).toArray)) (.br (eqU (s0).data.toList [116, 111, 100, 101, 99]) (.br ((inR (rdI c1 1))) (.out (.tuple ([.agg ([.int .i64 x4.1.1, .int .i64 x4.1.2.1, .string x4.1.2.2]).toArray, .int .i64 x4.2]).toArray)) .no) (.br (eqU (s0).data.toList [103, 114, 101, 97, 116, 101, 115, 116]) o3 (.br (eqU (s0).data.toList [108, 101, 97, 115, 116]) o3 (.br (eqU (s0).data.toList [108, 101, 110, 103, 116, 104]) (.br (Nat.blt ((rdS c1 2).data.toList).length 9223372036854775807) (.out (.tuple ([.agg ([.int .i64 2, .int .i64 (A83.rc (rdS c1 2)), .string ⟨([]).toArray⟩]).toArray, .int .i64 0]).toArray)) .no) (.br (eqU (s0).data.toList [108, 111, 119, 101, 114]) (.br ((Nat.ble ((rdS c1 2).data.toList).length 9223372036854775807 && true)) (.br (decide ((Int.ofNat ((Go.Proofs.YtaiokpmmjbiajaaGreatDoorTxt.casedB 65 90 32 (rdS c1 2)).data.toList).length) > 1024)) o4 (.out (.tuple ([.agg ([.int .i64 4, .int .i64 0, .string (Go.Proofs.YtaiokpmmjbiajaaGreatDoorTxt.casedB 65 90 32 (rdS c1 2))]).toArray, .int .i64 0]).toArray))) .no) (.br (eqU (s0).data.toList [117, 112, 112, 101, 114]) (.br ((Nat.ble ((rdS c1 2).data.toList).length 9223372036854775807 && true)) (.br (decide ((Int.ofNat ((Go.Proofs.YtaiokpmmjbiajaaGreatDoorTxt.casedB 97 122 (-32) (rdS c1 2)).data.toList).length) > 1024)) o4 (.out (.tuple ([.agg ([.int .i64 4, .int .i64 0, .string (Go.Proofs.YtaiokpmmjbiajaaGreatDoorTxt.casedB 97 122 (-32) (rdS c1 2))]).toArray, .int .i64 0]).toArray))) .no) (.br (eqU (s0).data.toList [116, 114, 105, 109]) (.br (Nat.ble ((rdS c1 2).data.toList).length 9223372036854775807) (.br (decide ((Int.ofNat (x5).length) > 1024)) o4 (.out (.tuple ([.agg ([.int .i64 4, .int .i64 0, .string ⟨(x5).toArray⟩]).toArray, .int .i64 0]).toArray))) .no) (.br (eqU (s0).data.toList [115, 117, 98, 115, 116, 114]) (.br (Nat.blt 1 m1) (.br (isV c1 4 (.i .i64)) (.br (Nat.blt 2 m1) (.br (isV c1 7 (.i .i64)) (.br ((Nat.ble ((rdS c1 2).data.toList).length 70368744177664 && ((inR (rdI c1 4)) && (inR (rdI c1 7))))) (.br (decide ((Int.ofNat ((Go.Proofs.YtaiokpmmjbiajaaGreatDoorTxt.pieceB (rdS c1 2) (rdI c1 4) (rdI c1 7)).data.toList).length) > 1024)) o4 (.out (.tuple ([.agg ([.int .i64 4, .int .i64 0, .string (Go.Proofs.YtaiokpmmjbiajaaGreatDoorTxt.pieceB (rdS c1 2) (rdI c1 4) (rdI c1 7))]).toArray, .int .i64 0]).toArray))) .no) .no) .no) .no) .no) (.br (eqU (s0).data.toList [116, 111, 116, 101, 120, 116]) (.br (((rdI c1 0) == 4)) o1 (.br ((Nat.ble ((rdS c1 2).data.toList).length 9223372036854775807 && (inR (rdI c1 1)))) (.br (decide ((Int.ofNat ((Fit.showB (rdI c1 0) (rdI c1 1) (rdS c1 2)).data.toList).length) > 1024)) o4 (.out (.tuple ([.agg ([.int .i64 4, .int .i64 0, .string (Fit.showB (rdI c1 0) (rdI c1 1) (rdS c1 2))]).toArray, .int .i64 0]).toArray))) .no)) (.br ((true && ([((1 : Nat), c1)]).all fun p => p.snd.all scalV)) (.br (((decide ((Int.ofNat m1) = (Int.ofNat m1)) && ((isVals c1) && (Nat.beq (c1).length (m1 * 3) && Nat.blt m1 4398046511104))) && ((valsOf c1)).all A37L0.shortT)) (.br (decide ((Int.ofNat (x6.data.toList).length) > 1024)) o4 (.out (.tuple ([.agg ([.int .i64 4, .int .i64 0, .string x6]).toArray, .int .i64 0]).toArray))) .no) .no)))))))))))))))) .no) .no)
set_option maxRecDepth 1000000 in
theorem run (s0 : ByteArray) (m1 : Nat) (c1 : List Value) : runK 4 [(34, A34.specP), (75, A75.spec), (79, A79.spec), (80, A80.specP), (82, A82.spec), (83, A83.spec), (85, spec85), (86, spec86), (87, spec87), (88, spec88)] [A37L0.lp] 37 [.v (.string s0), .sl m1 3 c1] = (T s0 m1 c1).eval := by kernel_rfl
theorem at0 (l : List W3) (h : 0 < l.length) : l[0] = l.headD v0 := by cases l with
 | nil => cases h
 | cons v l => rfl
theorem atj (l : List W3) (j : Nat) (h : j < l.length) : l[j] = l.getD j v0 := by simp [List.getD_eq_getElem?_getD, h]
theorem head_mem (l : List W3) (h : 0 < l.length) : l.headD v0 ∈ l := by rw [← at0 l h]; exact List.getElem_mem h
theorem getD_mem (l : List W3) (j : Nat) (h : j < l.length) : l.getD j v0 ∈ l := by rw [← atj l j h]; exact List.getElem_mem h
def guard (s : ByteArray) (l : List W3) : Bool := l.all (fun v => inR v.2.1) && (l.all A37L0.shortT && (Nat.blt 0 l.length && (!eqU s.data.toList [115, 117, 98, 115, 116, 114] || Nat.blt 2 l.length)))
theorem textV_eq (t : ByteArray) : GT.eval (.br (decide (Int.ofNat t.data.toList.length > 1024)) (.out (.tuple ([.agg ([.int .i64 0, .int .i64 0, .string ⟨([]).toArray⟩]).toArray, .int .i64 20]).toArray)) (.out (.tuple ([.agg ([.int .i64 4, .int .i64 0, .string t]).toArray, .int .i64 0]).toArray))) = some (ve (Fit.textV t)) := by
 unfold Fit.textV
 cases h : decide (Int.ofNat t.data.toList.length > 1024) <;> simp only [GT.eval] <;> rfl
set_option maxHeartbeats 0 in
theorem T_ok (s : ByteArray) (l : List W3) (hl : l.length < 4398046511104) (hg : guard s l = true) : (T s l.length (vals l)).eval = some (ve (Fit.callV s l)) := by
 unfold guard at hg
 simp only [Bool.and_eq_true] at hg
 obtain ⟨hin, hsh, h0, h3⟩ := hg
 have h0' : 0 < l.length := by rwa [Nat.blt_eq] at h0
 have hs1 : ∀ v ∈ l, v.2.2.data.toList.length ≤ 1024 := fun v hv => Nat.le_of_ble_eq_true (List.all_eq_true.1 hsh v hv)
 have hi1 : ∀ v ∈ l, inR v.2.1 = true := fun v hv => List.all_eq_true.1 hin v hv
 have q0 : rdI (vals l) 0 = (l.headD v0).1 := by have := rdI_vals l h0'; rw [at0 l h0'] at this; exact this
 have q1 : rdI (vals l) 1 = (l.headD v0).2.1 := by have := rdI_vals1 l h0'; rw [at0 l h0'] at this; exact this
 have q2 : rdS (vals l) 2 = (l.headD v0).2.2 := by have := rdS_vals l h0'; rw [at0 l h0'] at this; exact this
 have q3 : isL (vals l) 0 [.i .i64, .i .i64, .s] = true := isL_vals l h0'
 have e2 : Nat.ble (l.headD v0).2.2.data.toList.length 9223372036854775807 = true := by have := hs1 _ (head_mem l h0'); rw [Nat.ble_eq]; omega
 have e3 : Nat.blt (l.headD v0).2.2.data.toList.length 9223372036854775807 = true := by have := hs1 _ (head_mem l h0'); rw [Nat.blt_eq]; omega
 have e4 : Nat.ble (l.headD v0).2.2.data.toList.length 70368744177664 = true := by have := hs1 _ (head_mem l h0'); rw [Nat.ble_eq]; omega
 have e5 : inR (l.headD v0).2.1 = true := hi1 _ (head_mem l h0')
 have a1 : (true && [((1 : Nat), vals l)].all fun p => p.2.all scalV) = true := by simp [vals_scal]
 have a3 : ((vals l).drop 0).take (l.length * 3) = vals l := by rw [List.drop_zero]; exact List.take_of_length_le (by rw [vals_len]; exact Nat.le_refl _)
 have a5 : (0 + l.length * 3).ble (vals l).length = true := by rw [Nat.ble_eq, vals_len]; omega
 have a6 : (0 + l.length * 3).ble (l.length * 3) = true := by rw [Nat.ble_eq]; omega
 have g : Nat.blt l.length 4398046511104 = true := by rw [Nat.blt_eq]; exact hl
 unfold T
 dsimp only [] at a1 ⊢
 simp only [a1, a3, a5, a6, g, q0, q1, q2, q3, e2, e3, e4, e5, h0, isVals_vals, vals_len, Nat.beq_refl, decide_true, Bool.and_self, vals_of, vals_scal, hin, hsh, GT.eval, Bool.true_and, Bool.and_true, cond_true, List.all_cons, List.all_nil]
 unfold Fit.callV Fit.is
 dsimp only []
 cases n0 : eqU s.data.toList [97, 98, 115]
 rotate_left
 ·cases decide ((l.headD v0).2.1 < 0) <;> rfl
 cases n1 : eqU s.data.toList [99, 101, 105, 108]
 rotate_left
 ·rfl
 cases n2 : eqU s.data.toList [102, 108, 111, 111, 114]
 rotate_left
 ·rfl
 cases n3 : eqU s.data.toList [114, 111, 117, 110, 100]
 rotate_left
 ·rfl
 cases n4 : eqU s.data.toList [115, 105, 103, 110]
 rotate_left
 ·unfold Fit.signI
  cases decide ((l.headD v0).2.1 < 0) <;> cases decide ((l.headD v0).2.1 > 0) <;> rfl
 cases n5 : eqU s.data.toList [116, 111, 105, 110, 116]
 rotate_left
 ·rfl
 cases n6 : eqU s.data.toList [116, 111, 100, 101, 99]
 rotate_left
 ·rfl
 cases n7 : eqU s.data.toList [103, 114, 101, 97, 116, 101, 115, 116]
 rotate_left
 ·rfl
 cases n8 : eqU s.data.toList [108, 101, 97, 115, 116]
 rotate_left
 ·rfl
 cases n9 : eqU s.data.toList [108, 101, 110, 103, 116, 104]
 rotate_left
 ·rfl
 cases n10 : eqU s.data.toList [108, 111, 119, 101, 114]
 rotate_left
 ·exact textV_eq _
 cases n11 : eqU s.data.toList [117, 112, 112, 101, 114]
 rotate_left
 ·exact textV_eq _
 cases n12 : eqU s.data.toList [116, 114, 105, 109]
 rotate_left
 ·have := textV_eq ⟨(Lib.trimB (l.headD v0).2.2.data.toList 32).toArray⟩
  rw [List.toList_toArray] at this
  exact this
 cases n13 : eqU s.data.toList [115, 117, 98, 115, 116, 114]
 rotate_left
 ·rw [n13] at h3
  have k2 : 2 < l.length := by
   have : Nat.blt 2 l.length = true := h3
   rwa [Nat.blt_eq] at this
  have k1 : 1 < l.length := by omega
  have b1 : Nat.blt 1 l.length = true := by rw [Nat.blt_eq]; exact k1
  have b2 : Nat.blt 2 l.length = true := by rw [Nat.blt_eq]; exact k2
  have c1 : rdI (vals l) 4 = (l.getD 1 v0).2.1 := by have := rdI_vals1 l k1; rw [atj l 1 k1] at this; exact this
  have c2 : rdI (vals l) 7 = (l.getD 2 v0).2.1 := by have := rdI_vals1 l k2; rw [atj l 2 k2] at this; exact this
  have d1 : isV (vals l) 4 (.i .i64) = true := by have := vals_at 1 (by omega) l k1; unfold isV; rw [show (4 : Nat) = 1 * 3 + 1 from rfl, this]; rfl
  have d2 : isV (vals l) 7 (.i .i64) = true := by have := vals_at 1 (by omega) l k2; unfold isV; rw [show (7 : Nat) = 2 * 3 + 1 from rfl, this]; rfl
  simp only [b1, b2, c1, c2, d1, d2, hi1 _ (getD_mem l 1 k1), hi1 _ (getD_mem l 2 k2), Bool.and_self, cond_true, cond_false]
  exact textV_eq _
 cases n14 : eqU s.data.toList [116, 111, 116, 101, 120, 116]
 rotate_left
 ·cases (l.headD v0).1 == 4
  ·exact textV_eq _
  ·rfl
 exact textV_eq _
def spec : Spec := fun aa => match aa with
 | [.v (.string s), .sl n 3 cs] => some (.need (rowW n (Int.ofNat n) cs && guard s (valsOf cs)) (.out (ve (Fit.callV s (valsOf cs)))))
 | _ => none
theorem spec_ok (h85 : SpecOk Tryz.prog La 85 spec85) (h87 : SpecOk Tryz.prog La 87 spec87) (h88 : SpecOk Tryz.prog La 88 spec88) : SpecOk Tryz.prog La 37 spec := ⟨fnOk_ok (by kernel_rfl), fun aa t v h e => by
 unfold spec at h
 split at h
 ·rename_i s n cs
  cases h
  obtain ⟨g1, g2⟩ := GT.need_eval e
  cases g2
  simp only [Bool.and_eq_true] at g1
  obtain ⟨_, hn, h4, h5⟩ := rowW_ok g1.1
  have hg := g1.2
  generalize valsOf cs = l at h4 h5 hg
  subst h4 h5
  exact ⟨rfl, callT La_below prog_mix prog_names (by simpa using ⟨A34.specP_ok, A75.spec_ok, A79.spec_ok, A80.specP_ok, A82.spec_ok, A83.spec_ok, h85, spec86_ok, h87, h88⟩) (by simpa using A37L0.lp_fine) (by decide) (by simp) rfl ((run _ _ _).trans (T_ok _ _ hn hg))⟩
 ·cases h⟩
end A37
end
section
open Go Go.Proofs
namespace A10
def T (s0 : ByteArray) (m1 : Nat) (c1 : List Value) : GT Value := let x1 := (rdI c1 3, rdI c1 4, rdS c1 5); let x2 := (rdI c1 0, rdI c1 1, rdS c1 2); let o1 : GT Value := (.out (.tuple ([.agg ([.int .i64 0, .int .i64 0, .string ⟨([]).toArray⟩]).toArray, .int .i64 0]).toArray)); (.br ((true && ([((1 : Nat), c1)]).all fun p => p.snd.all scalV)) (.br ((Nat.beq m1 m1 && (decide ((Int.ofNat m1) = (Int.ofNat m1)) && ((isVals c1) && (Nat.beq (c1).length (m1 * 3) && Nat.blt m1 4398046511104))))) (.br (Nat.beq m1 0) (.out (.tuple ([.agg ([.int .i64 0, .int .i64 0, .string ⟨([]).toArray⟩]).toArray, .int .i64 100]).toArray)) (.br (([(true, AA.v (.string s0)), ((fun (cs : List Value) => ((0 + m1 * 1).ble cs.length && (List.take (m1 * 1) (List.drop 0 cs)).all scalV, AA.sl m1 1 (List.take (m1 * 1) (List.drop 0 cs)))) (ints IntKind.i64 (List.map (fun (x : W3) => x.fst) (valsOf c1))))]).all fun x => x.fst) (.br ((rowI m1 (Int.ofNat m1) (((((((((valsOf c1)).map fun (x : W3) => x.fst)).map (Value.int IntKind.i64))).drop 0)).take (m1 * 1)))) (.br (((Fit.kindP s0 (((((((((((valsOf c1)).map fun (x : W3) => x.fst)).map (Value.int IntKind.i64))).drop 0)).take (m1 * 1))).map valI)).2 != 0)) (.out (.tuple ([.agg ([.int .i64 0, .int .i64 0, .string ⟨([]).toArray⟩]).toArray, .int .i64 (Fit.kindP s0 (((((((((((valsOf c1)).map fun (x : W3) => x.fst)).map (Value.int IntKind.i64))).drop 0)).take (m1 * 1))).map valI)).2]).toArray)) (.br ((true && ([((1 : Nat), c1)]).all fun p => p.snd.all scalV)) (.br ((Nat.beq m1 m1 && (decide ((Int.ofNat m1) = (Int.ofNat m1)) && ((isVals c1) && (Nat.beq (c1).length (m1 * 3) && Nat.blt m1 4398046511104))))) (.br (((valsOf c1).any A10L1.bad)) (.out (.tuple ([.agg ([.int .i64 0, .int .i64 0, .string ⟨([]).toArray⟩]).toArray, .int .i64 22]).toArray)) (.br (eqU (s0).data.toList [99, 111, 97, 108, 101, 115, 99, 101]) (.br (([(true, AA.v (.string s0)), ((fun (cs : List Value) => ((0 + m1 * 3).ble cs.length && (List.take (m1 * 3) (List.drop 0 cs)).all scalV, AA.sl m1 3 (List.take (m1 * 3) (List.drop 0 cs)))) c1)]).all fun x => x.fst) (.br (((decide ((Int.ofNat m1) = (Int.ofNat m1)) && ((isVals (List.take (m1 * 3) (List.drop 0 c1))) && (Nat.beq (((((c1).drop 0)).take (m1 * 3))).length (m1 * 3) && Nat.blt m1 4398046511104))) && ((valsOf (List.take (m1 * 3) (List.drop 0 c1)))).all fun v => inR v.snd.fst)) (.out (.tuple ([.agg ([.int .i64 (Fit.chosenP s0 (valsOf (List.take (m1 * 3) (List.drop 0 c1)))).1.1, .int .i64 (Fit.chosenP s0 (valsOf (List.take (m1 * 3) (List.drop 0 c1)))).1.2.1, .string (Fit.chosenP s0 (valsOf (List.take (m1 * 3) (List.drop 0 c1)))).1.2.2]).toArray, .int .i64 (Fit.chosenP s0 (valsOf (List.take (m1 * 3) (List.drop 0 c1)))).2]).toArray)) .no) .no) (.br (eqU (s0).data.toList [110, 117, 108, 108, 105, 102]) (.br (Nat.blt 0 m1) (.br (isL c1 0 [(.i .i64), (.i .i64), .s]) (.br (Nat.blt 1 m1) (.br (isL c1 3 [(.i .i64), (.i .i64), .s]) (.br ((A35.tru (A36.eqK x2 x1) (A36.eqN x2 x1))) o1 (.br (Nat.blt 0 m1) (.br (isL c1 0 [(.i .i64), (.i .i64), .s]) (.out (.tuple ([.agg ([.int .i64 (rdI c1 0), .int .i64 (rdI c1 1), .string (rdS c1 2)]).toArray, .int .i64 0]).toArray)) .no) .no)) .no) .no) .no) .no) (.br (((List.map (fun (x : W3) => x.fst) (valsOf c1)).any fun x => x == 0)) o1 (.br (([(true, AA.v (.string s0)), ((fun (cs : List Value) => ((0 + m1 * 3).ble cs.length && (List.take (m1 * 3) (List.drop 0 cs)).all scalV, AA.sl m1 3 (List.take (m1 * 3) (List.drop 0 cs)))) c1)]).all fun x => x.fst) (.br (((decide ((Int.ofNat m1) = (Int.ofNat m1)) && ((isVals (List.take (m1 * 3) (List.drop 0 c1))) && (Nat.beq (((((c1).drop 0)).take (m1 * 3))).length (m1 * 3) && Nat.blt m1 4398046511104))) && (A37.guard s0 (valsOf (List.take (m1 * 3) (List.drop 0 c1)))))) (.out (.tuple ([.agg ([.int .i64 (Fit.callV s0 (valsOf (List.take (m1 * 3) (List.drop 0 c1)))).1.1, .int .i64 (Fit.callV s0 (valsOf (List.take (m1 * 3) (List.drop 0 c1)))).1.2.1, .string (Fit.callV s0 (valsOf (List.take (m1 * 3) (List.drop 0 c1)))).1.2.2]).toArray, .int .i64 (Fit.callV s0 (valsOf (List.take (m1 * 3) (List.drop 0 c1)))).2]).toArray)) .no) .no))))) .no) .no)) .no) .no)) .no) .no)
set_option maxRecDepth 1000000 in
theorem run (s0 : ByteArray) (m1 : Nat) (c1 : List Value) : runK 4 [(14, A14.specP), (34, A34.specP), (35, A35.spec), (36, A36.specP), (37, A37.spec)] [A10L0.lp, A10L1.lp] 10 [.v (.string s0), .sl m1 3 c1] = (T s0 m1 c1).eval := by kernel_rfl
open Fit
theorem kind_nil (s : ByteArray) : kindP s [] = (0, 100) := by
 unfold kindP
 simp [rP, A14.num, A14.txt, A14.sub]
theorem kind_some {s : ByteArray} {l : List W3} (h : (kindP s (l.map (·.1))).2 = 0) : 0 < l.length := by
 cases l with
 | nil => rw [List.map_nil, kind_nil] at h; cases h
 | cons v l => simp
theorem kind_sub {l : List W3} (h : (kindP ⟨#[115, 117, 98, 115, 116, 114]⟩ (l.map (·.1))).2 = 0) : 2 < l.length := by
 unfold kindP at h
 cases hb : (l.map (·.1)).any A14L0.bad <;> rw [hb] at h
 ·have h : (rP (A14.sub (l.map (·.1))) 4).2 = 0 := h
  obtain ⟨a, b, c, e, _⟩ := sub_of (rP0 h).1
  have := congrArg List.length e
  simp at this
  omega
 ·cases h
theorem kind_nullif {l : List W3} (h : (kindP ⟨#[110, 117, 108, 108, 105, 102]⟩ (l.map (·.1))).2 = 0) : 1 < l.length := by
 unfold kindP at h
 cases hb : (l.map (·.1)).any A14L0.bad <;> rw [hb] at h
 ·have h : (rP (Int.ofNat (l.map (·.1)).length == 2 && (A53.res (l.map (·.1))).2) ((l.map (·.1)).headD 0)).2 = 0 := h
  have := (rP0 h).1
  simp only [Bool.and_eq_true, beq_iff_eq, List.length_map] at this
  have e : (l.length : Int) = 2 := this.1
  omega
 ·cases h
theorem short_of {v : W3} (h : A33.okv v.1 v.2.1 v.2.2 = true) : A37L0.shortT v = true := by
 obtain ⟨k, n, s⟩ := v
 have he : eqU s.data.toList [] = true → A37L0.shortT (k, n, s) = true := fun h => by rw [is_eq (l := []) h]; rfl
 unfold A33.okv at h
 simp only at h
 cases e0 : k == 0
 ·rw [e0, cond_false] at h
  cases e1 : k == 1
  ·rw [e1, cond_false] at h
   cases e2 : k == 2 || k == 3
   ·rw [e2, cond_false] at h
    simp only [Bool.and_eq_true, decide_eq_true_eq] at h
    unfold A37L0.shortT
    rw [Nat.ble_eq]; exact h.2.2.1
   ·rw [e2, cond_true] at h; exact he h
  ·rw [e1, cond_true, Bool.and_eq_true] at h; exact he h.1
 ·rw [e0, cond_true, Bool.and_eq_true] at h; exact he h.2
theorem guard_of {s : ByteArray} {l : List W3} (hin : l.all (fun v => inR v.2.1) = true) (hk : (kindP s (l.map (·.1))).2 = 0) (hb : l.any A10L1.bad = false) : A37.guard s l = true := by
 unfold A37.guard
 have h1 : l.all A37L0.shortT = true := List.all_eq_true.2 fun v hv => short_of (okv_of hb v hv)
 have h2 : Nat.blt 0 l.length = true := by rw [Nat.blt_eq]; exact kind_some hk
 rw [hin, h1, h2]
 cases h : eqU s.data.toList [115, 117, 98, 115, 116, 114]
 ·rfl
 ·obtain rfl := is_eq h
  have : Nat.blt 2 l.length = true := by rw [Nat.blt_eq]; exact kind_sub hk
  rw [this]; rfl
set_option maxHeartbeats 0 in
theorem T_ok (s : ByteArray) (l : List W3) (hl : l.length < 4398046511104) (hin : l.all (fun v => inR v.2.1) = true) : (T s l.length (vals l)).eval = some (ve (CallV s l)) := by
 have g : Nat.blt l.length 4398046511104 = true := by rw [Nat.blt_eq]; exact hl
 have gs := vals_scal l
 have g2 := rowI_of (l := l.map (·.1)) (by rw [List.length_map]; omega)
 rw [List.length_map] at g2
 have a1 : (true && [((1 : Nat), vals l)].all fun p => p.2.all scalV) = true := by simp [vals_scal]
 have a3 : ((ints .i64 (l.map (·.1))).drop 0).take (l.length * 1) = ints .i64 (l.map (·.1)) := by rw [List.drop_zero, Nat.mul_one]; exact List.take_of_length_le (by rw [ints_len, List.length_map]; exact Nat.le_refl _)
 have a4 : ((vals l).drop 0).take (l.length * 3) = vals l := by rw [List.drop_zero]; exact List.take_of_length_le (by rw [vals_len]; exact Nat.le_refl _)
 have a5 : (0 + l.length * 1).ble l.length = true := by rw [Nat.ble_eq]; omega
 have a6 : (0 + l.length * 3).ble (l.length * 3) = true := by rw [Nat.ble_eq]; omega
 have e0 : ∀ f : List Int, f.map (Value.int .i64) = ints .i64 f := fun _ => rfl
 unfold T
 dsimp only [] at a1 ⊢
 simp only [e0, a1, a3, a4, a5, a6, g, gs, g2, isVals_vals, vals_len, ints_len, List.length_map, Nat.beq_refl, decide_true, Bool.and_self, vals_of, ints_vals, ints_scal, hin, GT.eval, Bool.true_and, Bool.and_true, cond_true, List.all_cons, List.all_nil]
 unfold CallV is
 cases hb0 : Nat.beq l.length 0
 rotate_left
 ·have : l = [] := List.length_eq_zero_iff.1 (Nat.eq_of_beq_eq_true hb0)
  subst this
  rw [List.map_nil, kind_nil]; rfl
 simp only [cond_false]
 cases hk : (kindP s (l.map (·.1))).2 != 0
 rotate_left
 ·rfl
 have hk := bne_eq_false_iff_eq.1 hk
 simp only [cond_false]
 cases hbad : l.any A10L1.bad
 rotate_left
 ·rfl
 simp only [cond_false]
 have h0 := kind_some hk
 cases n1 : eqU s.data.toList [99, 111, 97, 108, 101, 115, 99, 101]
 rotate_left
 ·rfl
 simp only [cond_false]
 cases n2 : eqU s.data.toList [110, 117, 108, 108, 105, 102]
 rotate_left
 ·obtain rfl := is_eq n2
  have k1 := kind_nullif hk
  have q0 : rdI (vals l) 0 = (l.headD v0).1 := by have := rdI_vals l h0; rw [A37.at0 l h0] at this; exact this
  have q1 : rdI (vals l) 1 = (l.headD v0).2.1 := by have := rdI_vals1 l h0; rw [A37.at0 l h0] at this; exact this
  have q2 : rdS (vals l) 2 = (l.headD v0).2.2 := by have := rdS_vals l h0; rw [A37.at0 l h0] at this; exact this
  have q3 : isL (vals l) 0 [.i .i64, .i .i64, .s] = true := isL_vals l h0
  have r0 : rdI (vals l) 3 = (l.getD 1 v0).1 := by have := rdI_vals l k1; rw [A37.atj l 1 k1] at this; exact this
  have r1 : rdI (vals l) 4 = (l.getD 1 v0).2.1 := by have := rdI_vals1 l k1; rw [A37.atj l 1 k1] at this; exact this
  have r2 : rdS (vals l) 5 = (l.getD 1 v0).2.2 := by have := rdS_vals l k1; rw [A37.atj l 1 k1] at this; exact this
  have r3 : isL (vals l) 3 [.i .i64, .i .i64, .s] = true := isL_vals l k1
  have b0 : Nat.blt 0 l.length = true := by rw [Nat.blt_eq]; exact h0
  have b1 : Nat.blt 1 l.length = true := by rw [Nat.blt_eq]; exact k1
  simp only [q0, q1, q2, q3, r0, r1, r2, r3, b0, b1, cond_true]
  generalize l.headD v0 = v
  generalize l.getD 1 v0 = u
  have et : A35.tru (A36.eqK (v.1, v.2.1, v.2.2) (u.1, u.2.1, u.2.2)) (A36.eqN (v.1, v.2.1, v.2.2) (u.1, u.2.1, u.2.2)) = A35.tru (bif v.1 == 0 || u.1 == 0 then 0 else 1) (bif (A76.compare v.1 v.2.1 v.2.2 u.1 u.2.1 u.2.2).2 && (A76.compare v.1 v.2.1 v.2.2 u.1 u.2.1 u.2.2).1 == 0 then 1 else 0) := by
   unfold A36.eqK A36.eqN
   dsimp only
   cases v.1 == 0 || u.1 == 0 <;> rfl
  rw [et]
  cases A35.tru (bif v.1 == 0 || u.1 == 0 then 0 else 1) (bif (A76.compare v.1 v.2.1 v.2.2 u.1 u.2.1 u.2.2).2 && (A76.compare v.1 v.2.1 v.2.2 u.1 u.2.1 u.2.2).1 == 0 then 1 else 0) <;> rfl
 simp only [cond_false]
 cases hz : (l.map (·.1)).any (· == 0)
 rotate_left
 ·rfl
 rw [guard_of hin hk hbad]
 rfl
def spec : Spec := fun aa => match aa with
 | [.v (.string s), .sl n 3 cs] => some (.need (rowW n (Int.ofNat n) cs && (valsOf cs).all (fun v => inR v.2.1)) (.out (ve (CallV s (valsOf cs)))))
 | _ => none
theorem spec_ok (h85 : SpecOk Tryz.prog La 85 spec85) (h87 : SpecOk Tryz.prog La 87 spec87) (h88 : SpecOk Tryz.prog La 88 spec88) : SpecOk Tryz.prog La 10 spec := ⟨fnOk_ok (by kernel_rfl), fun aa t v h e => by
 unfold spec at h
 split at h
 ·rename_i s n cs
  cases h
  obtain ⟨g1, g2⟩ := GT.need_eval e
  cases g2
  simp only [Bool.and_eq_true] at g1
  obtain ⟨_, hn, h4, h5⟩ := rowW_ok g1.1
  have hin := g1.2
  generalize valsOf cs = l at h4 h5 hin
  subst h4 h5
  exact ⟨rfl, callT La_below prog_mix prog_names (by simpa using ⟨A14.specP_ok, A34.specP_ok, A35.spec_ok, A36.specP_ok, A37.spec_ok h85 h87 h88⟩) (by simpa using ⟨A10L0.lp_fine, A10L1.lp_fine⟩) (by decide) (by simp) rfl ((run _ _ _).trans (T_ok _ _ hn hin))⟩
 ·cases h⟩
end A10
end
section
open Go Go.Proofs
namespace A13
set_option maxRecDepth 1000000 in
theorem run : runK 4 [(10, A10.spec), (14, A14.specP)] [] 13 [] = some (.bool true) := by kernel_rfl
def spec : Spec := fun aa => match aa with
 | [] => some (.out (.bool true))
 | _ => none
theorem spec_ok : SpecOk Tryz.prog La 13 spec := ⟨fnOk_ok (by kernel_rfl), fun aa t v h e => by
 unfold spec at h
 split at h
 ·cases h; cases e
  exact ⟨rfl, callT La_below prog_mix prog_names (by simpa using ⟨A10.spec_ok ok85 ok87 ok88, A14.specP_ok⟩) (by simp) (by decide) (by simp) rfl run⟩
 ·cases h⟩
end A13
end
section
open Go Go.Proofs
namespace A10n
def T (s0 : ByteArray) : GT Value := .out (ve (v0, 100))
set_option maxRecDepth 1000000 in
theorem run (s0 : ByteArray) : runK 4 [(14, A14.specP)] [] 10 [.v (.string s0), .nil] = some (ve (v0, 100)) := by kernel_rfl
def spec : Spec := fun aa => match aa with
 | [.v (.string s), .sl n 3 cs] => some (.need (rowW n (Int.ofNat n) cs && (valsOf cs).all (fun v => inR v.2.1)) (.out (ve (Fit.CallV s (valsOf cs)))))
 | [.v (.string s), .nil] => some (.out (ve (v0, 100)))
 | _ => none
theorem spec_ok : SpecOk Tryz.prog La 10 spec := ⟨fnOk_ok (by kernel_rfl), fun aa t v h e => by
 unfold spec at h
 split at h
 ·cases h
  exact (A10.spec_ok ok85 ok87 ok88).2 _ _ _ rfl e
 ·rename_i s
  cases h; cases e
  exact ⟨rfl, callT La_below prog_mix prog_names (by simpa using A14.specP_ok) (by simp) (by decide) (by simp) rfl (run s)⟩
 ·cases h⟩
end A10n
end
section
open Go Go.Proofs
namespace A109
def T (k0 n0 : Int) (s0 : ByteArray) : GT Value := (.br ((k0 != 1)) (.out (.agg ([.int .i64 0, .int .i64 0, .string ⟨([]).toArray⟩]).toArray)) (.br ((n0 != 0)) (.out (.agg ([.int .i64 1, .int .i64 0, .string ⟨([]).toArray⟩]).toArray)) (.out (.agg ([.int .i64 1, .int .i64 1, .string ⟨([]).toArray⟩]).toArray))))
set_option maxRecDepth 1000000 in
theorem run (k0 n0 : Int) (s0 : ByteArray) : runK 4 [] [] 109 [.v (.agg #[.int .i64 k0, .int .i64 n0, .string s0])] = (T k0 n0 s0).eval := by kernel_rfl
theorem T_ok (a : W3) : (T a.1 a.2.1 a.2.2).eval = some (vv (Ref.notV a)) := by
 unfold T Ref.notV Ref.lgc
 simp only [GT.eval]
 cases a.1 != 1 <;> cases a.2.1 != 0 <;> rfl
def spec : Spec := fun aa => match aa with
 | [a] => (vOf a).bind fun x => some (.out (vv (Ref.notV x)))
 | _ => none
theorem spec_ok : SpecOk Tryz.prog La 109 spec := ⟨fnOk_ok (by kernel_rfl), fun aa t v h e => by
 unfold spec at h
 split at h
 ·rename_i a
  obtain ⟨x, h1, h⟩ := opt_bind h
  cases h; cases e
  rw [vOf_ok h1]
  exact ⟨rfl, callT (l := []) (L := []) (n0 := 4) (k := 12) La_below prog_mix prog_names (by simp) (by simp) (by decide) (by simp) rfl ((run _ _ _).trans (T_ok x))⟩
 ·cases h⟩
end A109
end
section
open Go Go.Proofs
def Ref.chk (k n : Int) (s : ByteArray) : Int := bif A33.okv k n s then 0 else 1
def spec33c : Spec := fun aa => match aa with
 | [a] => (vOf a).bind fun x => some (.out (.int .i64 (Ref.chk x.1 x.2.1 x.2.2)))
 | _ => none
theorem chk33 : SpecOk Tryz.prog La 33 spec33c := A33.spec_ok
end
end Go.Proofs.YtaiokpmmjbiajaaGreatDoorDx
