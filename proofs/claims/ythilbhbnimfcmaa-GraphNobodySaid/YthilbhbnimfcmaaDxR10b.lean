/- A part of the proof that the interpreter of YthilbhbnimfcmaaDxDx is sound: what it computes of a call, the call comes to in the model. No condition beyond those that each theorem names. -/
import Derived.Test.YthilbhbnimfcmaaDxR10
import Derived.Laws.IdiomStrings
namespace Go.Proofs.YthilbhbnimfcmaaDx
open Go
set_option linter.unusedVariables false
set_option linter.unusedSimpArgs false
section
variable {c : Cfg} {base : Nat} {ρ : Emb} {h : Hp} {w : World} {T : Tm} {a : Act} {outs : List Out}

/-- Zeros, as the model makes them. -/
theorem zeros_VR {z : Value} {s n : Nat} (hz : VRL ρ w (cellsOfV z) z.cells.toList) (hl : (cellsOfV z).length = s) (hs : s ≠ 0) :
    VRL ρ w (rep (cellsOfV z) n) ((Array.range (n * s)).map (z.cells[· % z.cells.size]!)).toList := by
  have hzl : z.cells.size = s := by have := hz.len; simp at this; omega
  refine ⟨by simp [rep_len, hl], fun i x y hx hy => ?_⟩
  have hi : i < n * s := by have := (List.getElem?_eq_some_iff.1 hx).1; rw [rep_len, hl] at this; exact this
  rw [rep_get _ _ _ (by rw [hl]; exact hi), hl] at hx
  simp [hi, hzl] at hy
  have hm : i % s < z.cells.size := by rw [hzl]; exact Nat.mod_lt _ (by omega)
  refine hz.at_ (i % s) x y hx ?_
  rw [← hy]
  simp [hm]
theorem wrap_small {n : Nat} (h : n ≤ 1000000) : IntKind.i64.wrap (n : Int) = (n : Int) := by
  simp [IntKind.wrap, IntKind.bits, IntKind.signed]
  omega
theorem goes_makeSlice (hc : CfgOk c) {t : TypeId} {x y x' y' : Value} (hr : Rel base c.n0 ρ h.t.get w) (hx : VR ρ w x x') (hy : VR ρ w y y') (ho : makeSliceD c h t x y = some outs)
    (hfree : ∀ v h' W, (v, h', W) ∈ outs → Free ρ h.n h'.n) {r : Result Next} (he : r = ((do pure (Next.value (← Instr.makeSlice t x' y')) : Sem Next)).run c.P w) : Goes c base ρ h w outs r := by
  unfold makeSliceD at ho
  split at ho
  · rename_i el k1 l k2 u hu
    cases hx
    cases hy
    replace ho := Option.bind_eq_some_iff.1 ho
    obtain ⟨l1, e1, ho⟩ := ho
    replace ho := Option.bind_eq_some_iff.1 ho
    obtain ⟨u1, e2, ho⟩ := ho
    replace ho := Option.bind_eq_some_iff.1 ho
    obtain ⟨s, e3, ho⟩ := ho
    replace ho := Option.bind_eq_some_iff.1 ho
    obtain ⟨bt, e4, ho⟩ := ho
    replace ho := Option.bind_eq_some_iff.1 ho
    obtain ⟨z, e5, ho⟩ := ho
    obtain rfl := natOf_some e1
    obtain rfl := natOf_some e2
    cases e6 : (Nat.beq s 0 || Nat.blt 1000000 bt || Nat.blt 1000000 u1 || Nat.blt u1 l1 || !Nat.beq (cellsOfV z).length s) with
    | true => rw [e6] at ho; cases ho
    | false =>
      rw [e6] at ho
      simp only [Bool.or_eq_false_iff, Bool.not_eq_false'] at e6
      simp only [cond_false] at ho
      obtain ⟨⟨⟨⟨g1, g2⟩, g3⟩, g4⟩, g5⟩ := e6
      have hs : s ≠ 0 := fun e => by subst e; simp at g1
      have hbt : bt ≤ 1000000 := by have := blt_f g2; omega
      have hu1 : u1 ≤ 1000000 := by have := blt_f g3; omega
      have hl1 : l1 ≤ u1 := by have := blt_f g4; omega
      have hzl := beq_t g5
      have hz : VRL ρ w (cellsOfV z) z.cells.toList := (VR.flatd 2 (hc.zer el z e5).2).cells
      obtain ⟨ib, ib1, ib2⟩ := Option.map_eq_some_iff.1 (hc.byt el bt e4)
      have htyp : ∀ w1, (typeInfo el).run c.P w1 = .ok ib w1 := fun w1 => by simp [typeInfo, program, ib1, Sem.run]
      have hw1 : IntKind.i64.wrap (l1 : Int) = (l1 : Int) := wrap_small (by omega)
      have hw2 : IntKind.i64.wrap (u1 : Int) = (u1 : Int) := wrap_small hu1
      have hp48 : (2 : Int) ^ 48 = 281474976710656 := by decide
      have hmul : ib.bytes * u1 ≤ 1000000 * 1000000 := Nat.mul_le_mul (by omega) hu1
      have hmul2 : ib.bytes * u1 ≤ 1000000000000 := hmul
      have hmul' : (ib.bytes : Int) * (u1 : Int) ≤ 1000000000000 := by rw [← Int.natCast_mul]; exact Int.ofNat_le.2 hmul2
      have hno : (decide ((u1 : Int) < 0) || decide ((ib.bytes : Int) * (u1 : Int) > 281474976710656) || decide ((l1 : Int) < 0) || decide ((l1 : Int) > (u1 : Int))) = false := by
        simp only [Bool.or_eq_false_iff, decide_eq_false_iff_not]
        refine ⟨⟨⟨?_, ?_⟩, ?_⟩, ?_⟩ <;> omega
      have hrun : (Instr.makeSlice t (.int k1 (l1 : Int)) (.int k2 (u1 : Int))).run c.P w = .ok (.slice (some ⟨w.heap.size, 0, none⟩) l1 u1) (w.alloc (.cells ((Array.range (u1 * s)).map (z.cells[· % z.cells.size]!)) el)) := by
        have hrb : ¬ (u1 * ib.bytes > roomBytes) := by
          have h47 : roomBytes = 140737488355328 := by decide
          rw [h47, Nat.mul_comm]
          have := hmul2
          omega
        have hcell : (if u1 * s = 0 then (pure #[] : Sem (Array Value)) else do pure (← zeroValue el).cells).run c.P w = .ok (if u1 * s = 0 then #[] else z.cells) w := by
          split
          · rfl
          · simp only [Sem.run_bind, run_zero hc e5, Result.andThen]; rfl
        simp only [Instr.makeSlice, Sem.run_bind, run_und hc hu, Result.andThen, asInt, asIntOf, Sem.run_pure, htyp, hw1, hw2, hp48]
        rw [if_neg (by rw [hno]; decide)]
        simp only [askRoom, Int.toNat_natCast, if_neg hrb, Sem.run_bind, run_size hc e3, Result.andThen, Sem.run_pure]
        by_cases h0 : u1 * s = 0
        · have h00 : u1 = 0 := by rcases Nat.mul_eq_zero.1 h0 with h1 | h1 <;> omega
          subst h00
          have hr0 : Array.range 0 = #[] := rfl
          simp [newRow, Sem.run_bind, Result.andThen, Sem.run_pure, Sem.run, newObj, hr0]
        · rw [if_neg h0]
          simp only [Sem.run_bind, run_zero hc e5, Result.andThen, Sem.run_pure]
          simp [newRow, Sem.run_bind, Result.andThen, Sem.run_pure, Sem.run, newObj]
      refine Goes.new (cs' := (Array.range (u1 * s)).map (z.cells[· % z.cells.size]!)) (el := el) (fr := (0, 0)) ho hr hfree (.refl w) rfl ?_ (fun j hj hh => by simp at hh) (v' := .slice (some ⟨w.heap.size, 0, none⟩) l1 u1) ?_ (fun ρ' w' hρ hcl => ?_)
      · exact (zeros_VR hz hzl hs).take_all
      · rw [he]
        simp only [Sem.run_bind, hrun, Result.andThen]
        rfl
      · exact .sl h.n 0 l1 s u1 _ 0 hρ hl1 ⟨_, hcl, by simp⟩
  · cases ho
theorem goes_appendZ (hc : CfgOk c) {st xt ty : TypeId} {s x s' x' : Value} (hi : isIntT (c.und xt) = true) (hr : Rel base c.n0 ρ h.t.get w) (hs : VR ρ w s s') (hx : VR ρ w x x') (ho : appendZD c h st s x = some outs)
    (hfree : ∀ v h' W, (v, h', W) ∈ outs → Free ρ h.n h'.n) {r : Result Next} (he : r = ((do pure (Next.value (← Builtin.append_ #[st, xt] ty #[s', x'])) : Sem Next)).run c.P w) : Goes c base ρ h w outs r := by
  unfold appendZD at ho
  split at ho
  · rename_i elem k l hu
    cases hs
    cases hx
    replace ho := Option.bind_eq_some_iff.1 ho
    obtain ⟨n, e1, ho⟩ := ho
    replace ho := Option.bind_eq_some_iff.1 ho
    obtain ⟨sz, e3, ho⟩ := ho
    replace ho := Option.bind_eq_some_iff.1 ho
    obtain ⟨bt, e4, ho⟩ := ho
    replace ho := Option.bind_eq_some_iff.1 ho
    obtain ⟨z, e5, ho⟩ := ho
    obtain rfl := natOf_some e1
    cases e6 : (Nat.beq n 0 || Nat.beq sz 0 || Nat.blt 1000000 bt || Nat.blt 1000000 n || !Nat.beq (cellsOfV z).length sz) with
    | true => rw [e6] at ho; cases ho
    | false =>
      rw [e6] at ho
      simp only [Bool.or_eq_false_iff, Bool.not_eq_false'] at e6
      simp only [cond_false] at ho
      obtain ⟨⟨⟨⟨g1, g2⟩, g3⟩, g4⟩, g5⟩ := e6
      have hn0 : n ≠ 0 := fun e => by subst e; simp at g1
      have hs : sz ≠ 0 := fun e => by subst e; simp at g2
      have hbt : bt ≤ 1000000 := by have := blt_f g3; omega
      have hn1 : n ≤ 1000000 := by have := blt_f g4; omega
      have hzl := beq_t g5
      have hz : VRL ρ w (cellsOfV z) z.cells.toList := (VR.flatd 2 (hc.zer elem z e5).2).cells
      have hzs : z.cells.size = sz := by have := hz.len; simp at this; omega
      obtain ⟨ib, ib1, ib2⟩ := Option.map_eq_some_iff.1 (hc.byt elem bt e4)
      have htyp : ∀ w1, (typeInfo elem).run c.P w1 = .ok ib w1 := fun w1 => by simp [typeInfo, program, ib1, Sem.run]
      obtain ⟨ik, hik⟩ : ∃ ik, c.und xt = some (.int ik) := by
        unfold isIntT at hi
        split at hi
        · rename_i ik e; exact ⟨ik, e⟩
        · cases hi
      have hw1 : IntKind.i64.wrap (n : Int) = (n : Int) := wrap_small hn1
      have hmul2 : ib.bytes * n ≤ 1000000000000 := Nat.mul_le_mul (show ib.bytes ≤ 1000000 by omega) hn1
      have hp48 : (2 : Int) ^ 48 = 281474976710656 := by decide
      have hl2 : ¬ ((n : Int) * (ib.bytes : Int) > 281474976710656) := by
        rw [← Int.natCast_mul, Nat.mul_comm]
        have := Int.ofNat_le.2 hmul2
        omega
      have hneg : ¬ ((n : Int) < 0) := by omega
      have hmax : ¬ (((0 + n : Nat) : Int) > IntKind.i64.max) := by have : IntKind.i64.max = 9223372036854775807 := rfl; rw [this]; omega
      have hcp : ¬ (Builtin.nextslicecap (0 + n) 0 * ib.bytes > 2 ^ 48) := by
        have h1 := nextcap_le (show 0 + n ≤ 1000000 by omega) (show 0 ≤ 1000000 by omega)
        have h3 := Nat.mul_le_mul h1 (show ib.bytes ≤ 1000000 by omega)
        have h4 : (2 : Nat) ^ 48 = 281474976710656 := by decide
        rw [h4]
        exact Nat.not_lt.2 (Nat.le_trans h3 (by decide))
      have hnz : ¬ n * sz = 0 := by
        intro hm
        rcases Nat.mul_eq_zero.1 hm with h1 | h1 <;> omega
      have hle : ¬ 0 + n ≤ 0 := by omega
      have hd : ({ w with drawn := w.drawn + 1 } : World) = w.drew := rfl
      have hrun : (Builtin.append_ #[st, xt] ty #[.slice none 0 0, .int k (n : Int)]).run c.P w = .ok (.slice (some ⟨w.heap.size, 0, none⟩) (0 + n) (grownCap w (0 + n) 0 elem)) (w.drew.alloc (.cells (#[] ++ Builtin.zeroCells z.cells n ++ Builtin.zeroCells z.cells (grownCap w (0 + n) 0 elem - (0 + n))) elem)) := by
        have hmax' : ¬ (IntKind.i64.max < (n : Int)) := by have : IntKind.i64.max = 9223372036854775807 := rfl; rw [this]; omega
        have hcp' : ¬ (2 ^ 48 < Builtin.nextslicecap n 0 * ib.bytes) := by rw [Nat.zero_add] at hcp; exact hcp
        have hl3 : ¬ ((2 : Int) ^ 48 < (n : Int) * (ib.bytes : Int)) := by rw [hp48]; exact hl2
        simp [Builtin.append_, run_und hc hu, run_und hc hik, run_size hc e3, Result.andThen, asInt, asIntOf, hw1, hn0, hs, htyp, hneg, hl3, hmax', hcp', choose, Sem.run, Question.forced, hd, run_zero hc e5, askRoom, newRow, newObj, grownCap, Builtin.firstCells]
        have hnn : ¬ (9223372036854775807 < (n : Int)) := by omega
        have hl4 : ¬ (281474976710656 < (n : Int) * (ib.bytes : Int)) := hl2
        have hcp4 : ¬ (281474976710656 < Builtin.nextslicecap n 0 * ib.bytes) := by rw [Nat.zero_add] at hcp; exact hcp
        have hneg0 : ¬ ((n : Int) < 0) := hneg
        simp only [if_neg hnn, if_neg hl4, if_neg hcp4, if_neg hnz, if_neg hneg0]
        rfl
      have hge := grownCap_ge w (0 + n) 0 elem
      refine Goes.new (w1 := w.drew) (cs' := #[] ++ Builtin.zeroCells z.cells n ++ Builtin.zeroCells z.cells (grownCap w (0 + n) 0 elem - (0 + n))) (el := elem) (fr := (0, 0)) (v' := .slice (some ⟨w.heap.size, 0, none⟩) n (grownCap w (0 + n) 0 elem)) ho hr hfree (.drew w) rfl ?_ (fun j hj hh => by simp at hh) ?_ (fun ρ' w' hρ hcl => ?_)
      · have e9 : Builtin.zeroCells z.cells n = (Array.range (n * sz)).map (z.cells[· % z.cells.size]!) := by unfold Builtin.zeroCells; rw [hzs]
        have hv := zeros_VR (n := n) hz hzl hs
        rw [← e9] at hv
        have e10 : ((#[] ++ Builtin.zeroCells z.cells n ++ Builtin.zeroCells z.cells (grownCap w (0 + n) 0 elem - (0 + n))).toList.take (rep (cellsOfV z) n).length) = (Builtin.zeroCells z.cells n).toList := by
          rw [hv.len]
          simp
        rw [e10]
        exact hv
      · rw [he]
        simp only [Sem.run_bind, hrun, Result.andThen, Nat.zero_add]
        rfl
      · refine .sl h.n 0 n sz _ _ 0 hρ (by omega) ⟨_, hcl, ?_⟩
        have e11 : n * sz + (grownCap w (0 + n) 0 elem - (0 + n)) * sz = grownCap w (0 + n) 0 elem * sz := by rw [← Nat.add_mul]; congr 1; omega
        have h0 : (#[] : Array Value).size = 0 := rfl
        rw [Array.size_append, Array.size_append, run_zeroCells_size, run_zeroCells_size, hzs, h0]
        omega
  · cases ho
theorem goes_bytes (hc : CfgOk c) {src dst el : TypeId} {s : ByteArray} (h1 : c.und src = some .string) (h2 : c.und dst = some (.slice el)) (hr : Rel base c.n0 ρ h.t.get w) (ho : bytesD c h el s = some outs)
    (hfree : ∀ v h' W, (v, h', W) ∈ outs → Free ρ h.n h'.n) {r : Result Next} (he : r = ((do pure (Next.value (← convert src dst (.string s))) : Sem Next)).run c.P w) : Goes c base ρ h w outs r := by
  unfold bytesD at ho
  split at ho
  · rename_i hu hs
    cases e6 : Nat.ble s.data.toList.length 1000000 with
    | false => rw [e6] at ho; cases ho
    | true =>
      rw [e6] at ho
      simp only [cond_true] at ho
      have hrun := run_bytes_of_string (P := c.P) w src dst el s (hc.und _ _ h1) (hc.und _ _ h2) (hc.und _ _ hu)
      have hge := grownCap_ge w s.size 0 el
      have hss : s.size = s.data.toList.length := ByteArray.size_list s
      have hbs : (bytesRow s (grownCap w s.size 0 el)).size = grownCap w s.size 0 el := by
        have hd : s.data.size = s.size := rfl
        unfold bytesRow
        rw [Array.size_append, Array.size_map, Array.size_replicate, hd]
        omega
      refine Goes.new (w1 := w.drew) (cs' := bytesRow s (grownCap w s.size 0 el)) (el := el) (fr := ((bytesRow s (grownCap w s.size 0 el)).size, (bytesRow s (grownCap w s.size 0 el)).size + 1)) (v' := .slice (some ⟨w.heap.size, 0, none⟩) s.data.toList.length (grownCap w s.size 0 el)) ho hr hfree (.drew w) rfl ?_ (fun j hj hh => by simp only at hh; omega) ?_ (fun ρ' w' hρ hcl => ?_)
      · have e10 : ((bytesRow s (grownCap w s.size 0 el)).toList.take (s.data.toList.map fun b => Value.int .u8 b.toNat).length) = s.data.toList.map fun b => Value.int .u8 b.toNat := by
          unfold bytesRow
          rw [Array.toList_append, Array.toList_map, List.take_left]
        rw [e10]
        refine ⟨rfl, fun i x y hx hy => ?_⟩
        rw [hx] at hy
        cases hy
        simp only [List.getElem?_map, Option.map_eq_some_iff] at hx
        obtain ⟨b, _, rfl⟩ := hx
        exact .int _ _
      · rw [he]
        simp only [Sem.run_bind, hrun, Result.andThen, hss]
        rfl
      · exact .sl h.n 0 _ 1 _ _ 0 hρ (by omega) ⟨_, hcl, by rw [hbs]; omega⟩
  · cases ho

/-- A method found for a value's type. -/
theorem run_meth (hc : CfgOk c) {m : String} {t : TypeId} {x' : Value} {p : FuncId × Bool} {e : TypeId} {rest : Array Value} (h1 : c.met t m = some p) (h2 : c.und t = some (.pointer e)) (h3 : p.2 = true) (w : World) :
    (callMethod (.iface t x') m rest).run c.P w = (callFunc p.1 (#[x'] ++ rest)).run c.P w := by
  obtain ⟨i, r, a1, a2, a3, a4⟩ := hc.met t m p h1
  have hti : (typeInfo t).run c.P w = .ok i w := by simp [typeInfo, program, a1, Sem.run]
  obtain ⟨f, pr⟩ := p
  simp only at h3
  subst h3
  have hm : ∀ n, (method (n + 1) t x' m).run c.P w = .ok (f, x') w := fun n => by
    unfold method
    simp only [Sem.run_bind, hti, Result.andThen, a2, a3]
    have hf : (follow (#[] : Array FieldStep).toList t (.val x')).run c.P w = .ok (t, .val x') w := rfl
    simp only [Sem.run_bind, hf, Result.andThen, a4, receiverAt, run_und hc h2, Place.get, Sem.run_pure]
  unfold callMethod
  have hpr : program.run c.P w = .ok c.P w := rfl
  have hfu : c.P.types.size + Made.depth = (c.P.types.size + 99) + 1 := rfl
  simp only [Sem.run_bind, hpr, Result.andThen]
  rw [hfu, hm]
theorem goes_copy (hc : CfgOk c) {t t2 ty : TypeId} {d s d' s' : Value} (hr : Rel base c.n0 ρ h.t.get w) (hd : VR ρ w d d') (hs : VR ρ w s s') (ho : copyD c h t d s = some outs)
    {r : Result Next} (he : r = ((do pure (Next.value (← Builtin.copy_ #[t, t2] ty #[d', s'])) : Sem Next)).run c.P w) : Goes c base ρ h w outs r := by
  unfold copyD at ho
  split at ho
  · rename_i el a n cz hu
    replace ho := Option.bind_eq_some_iff.1 ho
    obtain ⟨sz, e1, ho⟩ := ho
    replace ho := Option.bind_eq_some_iff.1 ho
    obtain ⟨nw, e2, ho⟩ := ho
    obtain ⟨n1, n2⟩ := newCells_run e2 hr hs
    obtain ⟨l, l1, l2, l3⟩ := n2 w rfl
    obtain ⟨a', cp, rfl⟩ : ∃ a' cp, d' = .slice a' n cp := by
      cases hd
      · exact ⟨_, _, rfl⟩
      · exact ⟨_, _, rfl⟩
      · exact ⟨_, _, rfl⟩
    split at ho
    · rename_i h0
      cases ho
      rw [h0] at n1 l1 l3
      obtain rfl : l = #[] := by simpa using l3
      refine Goes.pure hr ?_ (.int .i64 0)
      rw [he]
      cases a' with
      | none => simp [Builtin.copy_, Sem.run_bind, run_und hc hu, run_size hc e1, Result.andThen, n1, l1, Sem.run_pure, goInt]
      | some a' => simp [Builtin.copy_, Sem.run_bind, run_und hc hu, run_size hc e1, Result.andThen, n1, l1, Sem.run_pure, goInt, storeCells]
    · rename_i h0
      cases e3 : Nat.ble nw.2 n with
      | false => rw [e3] at ho; cases ho
      | true =>
      rw [e3] at ho
      simp only [cond_true] at ho
      have hle := ble_t e3
      split at ho
      · rename_i b o
        obtain ⟨p, e5, rfl⟩ := Option.map_eq_some_iff.1 ho
        unfold storeAtD at e5
        replace e5 := Option.bind_eq_some_iff.1 e5
        obtain ⟨cs, e6, e7⟩ := e5
        cases e8 : (Nat.ble c.n0 b && Nat.blt b lim && Nat.ble (o + nw.1.length) cs.length && nw.1.all oneC) with
        | false => rw [e8] at e7; cases e7
        | true =>
          rw [e8] at e7
          cases e7
          simp only [Bool.and_eq_true] at e8
          obtain ⟨⟨⟨g1, g2⟩, g3⟩, g4⟩ := e8
          cases hd with
          | sl _ _ _ _ _ k d hb hn hroom =>
            obtain ⟨k', d', f1, f2⟩ := hr.at_ b _ (cellsAt_some e6)
            rw [hb] at f1
            cases f1
            obtain ⟨cs', hcl, hlen, hvl⟩ := f2.vrl
            have hl2 := l2.len
            have h3 := ble_t g3
            have hst := run_storeCells_at' (c := c) (w := w) (k := k) (o := o + d) (cs := cs') (vs := l.toList) hcl (by simp at hl2 ⊢; omega) (oneC_all l2 g4)
            have hex := Ext.store (o := o) (vs := nw.1) (vs' := l.toList) hr (cellsAt_some e6) hb (ble_t g1) (blt_t g2) h3 l2
            refine ⟨_, _, _, List.mem_singleton.2 rfl, .int .i64 nw.2, _, _, .inl ?_, .int _ _, hex⟩
            have hmin : Nat.min nw.2 n = nw.2 := Nat.min_eq_left hle
            rw [he]
            simp [Builtin.copy_, Sem.run_bind, run_und hc hu, run_size hc e1, Result.andThen, n1, hmin, l1, hst, Sem.run_pure, goInt]
          | sl0 _ _ _ a => exact absurd (Nat.le_zero.1 hle) h0
      · cases ho
  · cases ho
end
end Go.Proofs.YthilbhbnimfcmaaDx
