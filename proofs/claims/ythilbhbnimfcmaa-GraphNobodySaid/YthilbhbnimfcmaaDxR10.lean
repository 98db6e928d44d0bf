/- A part of the proof that the interpreter of YthilbhbnimfcmaaDxDx is sound: what it computes of a call, the call comes to in the model. No condition beyond those that each theorem names. -/
import Derived.Test.YthilbhbnimfcmaaDxR9
namespace Go.Proofs.YthilbhbnimfcmaaDx
open Go
set_option linter.unusedVariables false
set_option linter.unusedSimpArgs false
section
variable {c : Cfg} {base : Nat} {ρ : Emb} {h : Hp} {w : World} {T : Tm} {a : Act} {outs : List Out}

theorem oneC_all {vs vs' : List Value} (hv : VRL ρ w vs vs') (h : vs.all oneC = true) : ∀ v ∈ vs', v.oneCell' = true := by
  intro v hm
  obtain ⟨i, hi⟩ := List.mem_iff_getElem?.1 hm
  have hlt : i < vs.length := by rw [hv.len]; exact (List.getElem?_eq_some_iff.1 hi).1
  have hx := List.getElem?_eq_getElem hlt
  exact (hv.at_ i _ v hx hi).one (List.all_eq_true.1 h _ (List.getElem_mem hlt))
theorem run_storeCells_at' {k o : Nat} {cs : Array Value} {vs : List Value} {w : World} (hcl : Cells w k cs) (hl : o + vs.length ≤ cs.size) (h1 : ∀ v ∈ vs, v.oneCell' = true) :
    (storeCells ⟨k, o, none⟩ vs).run c.P w = .ok () (w.setCells k o vs) := by
  have := run_storeCells_cells (P := c.P) k o vs 0 w (fun j hj => by rw [hcl.cell]; simp; omega) (fun j hj => hcl.free (by omega)) h1
  simpa using this
theorem run_zeroCells_size (z : Array Value) (n : Nat) : (Builtin.zeroCells z n).size = n * z.size := by simp [Builtin.zeroCells]

theorem append_stays (hc : CfgOk c) {st xt ty : TypeId} {elem : TypeId} {xd : TypeDesc} {sz m n cap : Nat} {bs : Option Addr} {x' : Value} {new' : Array Value} (hu : c.und st = some (.slice elem)) (hux : c.und xt = some xd) (hxd : isSS xd = true) (e1 : c.siz elem = some sz)
    (n1 : ∀ w1, (Builtin.lenOf x').run c.P w1 = .ok m w1) (hcap : n + m ≤ cap) (hnew : (Builtin.firstCells sz m x').run c.P w = .ok new' w) :
    (Builtin.append_ #[st, xt] ty #[.slice bs n cap, x']).run c.P w = match bs with
      | some a => ((storeCells (a.add (n * sz)) new'.toList).run c.P w).andThen fun _ w' => .ok (.slice (some a) (n + m) cap) w'
      | none => .ok (.slice none (n + m) cap) w := by
  have hx2 : (∃ e, xd = .slice e) ∨ xd = .string := by cases xd <;> simp [isSS] at hxd ⊢
  rcases hx2 with ⟨e, rfl⟩ | rfl
  all_goals
    (cases bs <;> simp [Builtin.append_, Sem.run_bind, run_und hc hu, run_und hc hux, run_size hc e1, Result.andThen, n1, hnew, Sem.run_pure, hcap])
theorem append_moves (hc : CfgOk c) {st xt ty : TypeId} {elem : TypeId} {xd : TypeDesc} {sz m n cap : Nat} {bs : Option Addr} {x' z : Value} {ib : TypeInfo} {new' old' : Array Value} (hu : c.und st = some (.slice elem)) (hux : c.und xt = some xd) (hxd : isSS xd = true) (e1 : c.siz elem = some sz)
    (n1 : ∀ w1, (Builtin.lenOf x').run c.P w1 = .ok m w1) (hcap : ¬ n + m ≤ cap) (hneed : n + m ≤ 1000000) (ht : ∀ w1, (typeInfo elem).run c.P w1 = .ok ib w1) (hb : ib.bytes ≤ 1000000) (e3 : c.zer elem = some z)
    (hold : (Builtin.firstCells sz n (.slice bs n cap)).run c.P w.drew = .ok old' w.drew) (hnew : (Builtin.firstCells sz m x').run c.P w.drew = .ok new' w.drew) :
    (Builtin.append_ #[st, xt] ty #[.slice bs n cap, x']).run c.P w = .ok (.slice (some ⟨w.heap.size, 0, none⟩) (n + m) (grownCap w (n + m) cap elem)) (w.drew.alloc (.cells (old' ++ new' ++ Builtin.zeroCells z.cells (grownCap w (n + m) cap elem - (n + m))) elem)) := by
  have hmax : ¬ (((n + m : Nat) : Int) > IntKind.i64.max) := by have : IntKind.i64.max = 9223372036854775807 := rfl; rw [this]; omega
  have hmax' : ¬ (IntKind.i64.max < (n : Int) + (m : Int)) := by have : IntKind.i64.max = 9223372036854775807 := rfl; rw [this]; omega
  have hcp : ¬ (2 ^ 48 < Builtin.nextslicecap (n + m) cap * ib.bytes) := by
    have h1 := nextcap_le hneed (show cap ≤ 1000000 by omega)
    have h3 := Nat.mul_le_mul h1 hb
    have h4 : (2 : Nat) ^ 48 = 281474976710656 := by decide
    rw [h4]
    exact Nat.not_lt.2 (Nat.le_trans h3 (by decide))
  have hd : ({ w with drawn := w.drawn + 1 } : World) = w.drew := rfl
  have hx2 : (∃ e, xd = .slice e) ∨ xd = .string := by cases xd <;> simp [isSS] at hxd ⊢
  rcases hx2 with ⟨e, rfl⟩ | rfl
  all_goals
    (simp [Builtin.append_, run_und hc hu, run_und hc hux, run_size hc e1, Result.andThen, n1, hcap, ht, hmax', hcp, choose, Sem.run, Question.forced, hd, hold, hnew, run_zero hc e3, askRoom, newRow, newObj, grownCap]
     rw [if_neg (fun hh => by have := hh.1; omega)]
     rfl)
theorem goes_append (hc : CfgOk c) {st xt ty : TypeId} {s x s' x' : Value} (hr : Rel base c.n0 ρ h.t.get w) (hs : VR ρ w s s') (hx : VR ρ w x x') (ho : appendD c h st xt s x = some outs)
    (hfree : ∀ v h' W, (v, h', W) ∈ outs → Free ρ h.n h'.n) {r : Result Next} (he : r = ((do pure (Next.value (← Builtin.append_ #[st, xt] ty #[s', x'])) : Sem Next)).run c.P w) : Goes c base ρ h w outs r := by
  unfold appendD at ho
  split at ho
  · rename_i elem xd bs n cz hu hux
    cases hi : isSS xd with
    | false => rw [hi] at ho; cases ho
    | true =>
    rw [hi] at ho
    simp only [Bool.not_true, cond_false] at ho
    replace ho := Option.bind_eq_some_iff.1 ho
    obtain ⟨sz, e1, ho⟩ := ho
    replace ho := Option.bind_eq_some_iff.1 ho
    obtain ⟨bt, e2, ho⟩ := ho
    replace ho := Option.bind_eq_some_iff.1 ho
    obtain ⟨z, e3, ho⟩ := ho
    cases e4 : (Nat.beq sz 0 || Nat.blt 1000000 bt || !Nat.beq (cellsOfV z).length sz) with
    | true => rw [e4] at ho; cases ho
    | false =>
    rw [e4] at ho
    simp only [Bool.or_eq_false_iff, Bool.not_eq_false'] at e4
    simp only [cond_false] at ho
    obtain ⟨⟨e5, e6⟩, e7⟩ := e4
    have hsz : sz ≠ 0 := fun e => by subst e; simp at e5
    have hbt : bt ≤ 1000000 := by have := blt_f e6; omega
    have hzl := beq_t e7
    have hz : VRL ρ w (cellsOfV z) z.cells.toList := (VR.flatd 2 (hc.zer elem z e3).2).cells
    have hzs : z.cells.size = sz := by have := hz.len; simp at this; omega
    replace ho := Option.bind_eq_some_iff.1 ho
    obtain ⟨nw, e8, ho⟩ := ho
    obtain ⟨n1, n2⟩ := newCells_run e8 hr hx
    obtain ⟨ib, ib1, ib2⟩ := Option.map_eq_some_iff.1 (hc.byt elem bt e2)
    have htyp : ∀ w1, (typeInfo elem).run c.P w1 = .ok ib w1 := fun w1 => by simp [typeInfo, program, ib1, Sem.run]
    split at ho
    · -- nothing is appended
      rename_i h0
      cases ho
      rw [h0] at n1 n2
      obtain ⟨l, l1, l2, l3⟩ := n2 w rfl
      obtain rfl : l = #[] := by simpa using l3
      refine Goes.pure hr ?_ hs
      rw [he]
      cases hs with
      | nils => simp only [Sem.run_bind, append_stays hc hu hux hi e1 n1 (Nat.le_refl _) l1, Result.andThen]; rfl
      | sl b o n sz' cp k d hb hn hroom => simp only [Sem.run_bind, append_stays hc hu hux hi e1 n1 (show n + 0 ≤ cp by omega) l1, Result.andThen]; rfl
      | sl0 b o sz' a' => simp only [Sem.run_bind, append_stays hc hu hux hi e1 n1 (Nat.le_refl _) l1, Result.andThen]; rfl
    · rename_i h0
      cases e9 : (Nat.ble (n + nw.2) 1000000 && nw.1.all oneC) with
      | false => rw [e9] at ho; cases ho
      | true =>
      rw [e9] at ho
      simp only [Bool.and_eq_true] at e9
      obtain ⟨e10, e11⟩ := e9
      have hneed := ble_t e10
      simp only [cond_true] at ho
      have hib : ib.bytes ≤ 1000000 := by omega
      obtain ⟨new', l1, l2, l3⟩ := n2 w rfl
      obtain ⟨newd, m1, m2, m3⟩ := n2 w.drew rfl
      have hl3 : nw.1.length = nw.2 * sz := by have := l2.len; simp at this; omega
      split at ho
      · -- a nil slice
        split at ho
        · rename_i hn0
          subst hn0
          cases hs with
          | nils =>
            have hmv := append_moves (w := w) (ty := ty) hc hu hux hi e1 n1 (show ¬ 0 + nw.2 ≤ 0 by omega) hneed htyp hib e3 (bs := none) (old' := #[]) (by simp [Builtin.firstCells, Sem.run_pure]) m1
            refine Goes.new (w1 := w.drew) (cs' := #[] ++ newd ++ Builtin.zeroCells z.cells (grownCap w (0 + nw.2) 0 elem - (0 + nw.2))) (el := elem) (fr := (0, 0)) (v' := .slice (some ⟨w.heap.size, 0, none⟩) nw.2 (grownCap w (0 + nw.2) 0 elem)) ho hr hfree (.drew w) rfl ?_ (fun j hj hh => by simp at hh) ?_ (fun ρ' w' hρ hcl => ?_)
            · have : ((#[] ++ newd ++ Builtin.zeroCells z.cells (grownCap w (0 + nw.2) 0 elem - (0 + nw.2))).toList.take nw.1.length) = newd.toList := by
                rw [hl3, ← m3]
                simp
              rw [this]
              exact m2
            · rw [he]
              simp only [Sem.run_bind, hmv, Result.andThen, Nat.zero_add]
              rfl
            · have hge := grownCap_ge w (0 + nw.2) 0 elem
              refine .sl h.n 0 nw.2 sz _ _ 0 hρ (by omega) ⟨_, hcl, ?_⟩
              have : nw.2 * sz + (grownCap w (0 + nw.2) 0 elem - (0 + nw.2)) * sz = grownCap w (0 + nw.2) 0 elem * sz := by rw [← Nat.add_mul]; congr 1; omega
              have h0 : (#[] : Array Value).size = 0 := rfl
              rw [Array.size_append, Array.size_append, run_zeroCells_size, m3, hzs, h0]
              omega
        · cases ho
      · rename_i b o
        replace ho := Option.bind_eq_some_iff.1 ho
        obtain ⟨cs, f1, ho⟩ := ho
        cases f2 : (Nat.ble c.n0 b && Nat.blt b lim && Nat.blt h.n lim && Nat.beq cz sz) with
        | false => rw [f2] at ho; cases ho
        | true =>
        rw [f2] at ho
        simp only [Bool.and_eq_true] at f2
        obtain ⟨⟨⟨f3, f4⟩, f5⟩, f8⟩ := f2
        obtain rfl : sz = cz := (beq_t f8).symm
        simp only [cond_true] at ho
        replace ho := Option.bind_eq_some_iff.1 ho
        obtain ⟨old, f6, ho⟩ := ho
        cases ho
        have hb0 := ble_t f3
        have hblim := blt_t f4
        have hnlim := blt_t f5
        have hcs := cellsAt_some f1
        obtain ⟨k, d, hk, hor⟩ := hr.at_ b _ hcs
        obtain ⟨cs', hcl, hlen, hvl⟩ := hor.vrl
        obtain ⟨f7, rfl⟩ := slc_some f6
        have hfr0 : ρ h.n = none := hfree _ _ _ (List.mem_singleton.2 rfl) h.n (Nat.le_refl _) (by simp)
        -- the move
        have moved : ∀ (bs' : Option Addr) (cap' : Nat) (old' : Array Value), s' = .slice bs' n cap' → ¬ n + nw.2 ≤ cap' → (Builtin.firstCells sz n (.slice bs' n cap')).run c.P w.drew = .ok old' w.drew → VRL ρ w ((cs.drop o).take (n * sz)) old'.toList →
            Goes c base ρ h w [(.slice (some ⟨h.n, 0, none⟩) (n + nw.2) sz, ⟨(h.t.put b none).put h.n (some (.cells ((cs.drop o).take (n * sz) ++ nw.1))), h.n + 1⟩, [b])] r := by
          intro bs' cap' old' hs' hcap hold hvo
          have hmv := append_moves (w := w) (ty := ty) hc hu hux hi e1 n1 hcap hneed htyp hib e3 hold m1
          have hd := Ext.drop hr hcs hb0 hblim
          have hnew : newD ⟨h.t.put b none, h.n⟩ (.cells ((cs.drop o).take (n * sz) ++ nw.1)) = some ⟨(h.t.put b none).put h.n (some (.cells ((cs.drop o).take (n * sz) ++ nw.1))), h.n + 1⟩ := by
            unfold newD; rw [f5]; rfl
          have hge := grownCap_ge w (n + nw.2) cap' elem
          have hol : ((cs.drop o).take (n * sz)).length = n * sz := by simp; omega
          have hol' : old'.size = n * sz := by have := hvo.len; simp at this; omega
          have hcl2 := cells_alloc (w1 := w.drew) (w := w) rfl (old' ++ newd ++ Builtin.zeroCells z.cells (grownCap w (n + nw.2) cap' elem - (n + nw.2))) elem (0, 0) (fun j hj hh => by simp at hh)
          have hva : VRL ρ w ((cs.drop o).take (n * sz) ++ nw.1) (old'.toList ++ newd.toList) := hvo.append m2
          have hx2 := Ext.new' (h := ⟨h.t.put b none, h.n⟩) (w := w) (w1 := w.drew) (ob := .cells (old' ++ newd ++ Builtin.zeroCells z.cells (grownCap w (n + nw.2) cap' elem - (n + nw.2))) elem (0, 0)) hd.rel hfr0 hnew (.drew w) rfl ⟨_, hcl2, by simp; omega, fun j x y hx hy => by
            have hj : j < ((cs.drop o).take (n * sz) ++ nw.1).length := (List.getElem?_eq_some_iff.1 hx).1
            have hj2 : j < (old' ++ newd).size := by have := hva.len; simp at this hj ⊢; omega
            have hy2 : (old'.toList ++ newd.toList)[j]? = some y := by
              rw [← hy, Nat.add_zero, Array.getElem?_append_left hj2]
              simp [← Array.toList_append]
            exact ((hva.at_ j x y hx hy2).grow (Grow.trans (.drew w) (.alloc _ _))).le (Emb.le_put hfr0)⟩
          have hfree' : Free ρ h.n (h.n + 1) := fun b' h1 h2 => by
            have e : b' = h.n := by omega
            rw [e]; exact hfr0
          have hfin := Ext.trans (H1 := (h.t.put b none).get) (n1 := h.n) hfree' hr hd hx2.1
          refine ⟨_, _, _, List.mem_singleton.2 rfl, .slice (some ⟨w.heap.size, 0, none⟩) (n + nw.2) (grownCap w (n + nw.2) cap' elem), _, _, .inl ?_, ?_, hfin.weaken (by simp) (by simp; exact hb0)⟩
          · rw [he, hs']
            simp only [Sem.run_bind, hmv, Result.andThen]
            rfl
          · refine .sl h.n 0 _ sz _ _ 0 (Emb.put_same _ _ _) hge ⟨_, hcl2, ?_⟩
            simp only [Array.size_append, run_zeroCells_size, m3, hzs, hol']
            have : n * sz + nw.2 * sz + (grownCap w (n + nw.2) cap' elem - (n + nw.2)) * sz = grownCap w (n + nw.2) cap' elem * sz := by rw [← Nat.add_mul, ← Nat.add_mul]; congr 1; omega
            omega
        cases hs with
        | sl b o n sz' cp k2 d2 hb hn hroom =>
          rw [hk] at hb
          cases hb
          by_cases hcap : n + nw.2 ≤ cp
          · obtain ⟨csR, hclR, hro⟩ := hroom
            have hmul : n * sz + nw.2 * sz ≤ cp * sz := by rw [← Nat.add_mul]; exact Nat.mul_le_mul_right _ hcap
            have hst := append_stays (w := w) (ty := ty) hc hu hux hi e1 n1 hcap (bs := some ⟨k, o + d, none⟩) l1
            have hsc := run_storeCells_at' (c := c) (w := w) (k := k) (o := o + d + n * sz) (cs := csR) (vs := new'.toList) hclR (by simp; omega) (oneC_all l2 e11)
            have hin := Ext.inplace (m := n * sz) (old := (cs.drop o).take (n * sz)) hr hfr0 hcs hk hb0 hblim hnlim f6 l2 hclR (by omega)
            refine ⟨_, _, _, List.mem_singleton.2 rfl, .slice (some ⟨k, o + d, none⟩) (n + nw.2) cp, _, _, .inl ?_, ?_, hin⟩
            · rw [he]
              simp only [Sem.run_bind, hst, Addr.add_off, hsc, Result.andThen]
              rfl
            · have := VR.sl (ρ := ρ.put h.n (k, o + d)) (w := w.setCells k (o + d + n * sz) new'.toList) h.n 0 (n + nw.2) sz cp k (o + d) (Emb.put_same _ _ _) hcap (by rw [Nat.zero_add]; exact Room.grow ⟨csR, hclR, hro⟩ hin.grow)
              rwa [Nat.zero_add] at this
          · obtain ⟨l, g1, g2, g3⟩ := run_cells (c := c) (w1 := w.drew) (o := o) (m := n * sz) hcl rfl hlen hvl f7
            exact moved (some ⟨k, o + d, none⟩) cp l rfl hcap (by simpa [Builtin.firstCells] using g1) g2
        | sl0 b o sz' a' =>
          refine moved (some a') 0 #[] rfl (by omega) (by simp [Builtin.firstCells, loadCells, loadCellsFrom, Sem.run_pure]) ?_
          simpa using VRL.nil
      · cases ho
  · cases ho
end
end Go.Proofs.YthilbhbnimfcmaaDx
