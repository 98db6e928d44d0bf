/- A part of the proof of this claim. No condition beyond those that each theorem names. -/
import Derived.Test.YtchbodpkaiengaaGreatDoorXD1
import Derived.Lib.LaidIn
import Derived.Lib.LaidU8
namespace Go.Proofs.YtchbodpkaiengaaGreatDoorDx
open Go
set_option linter.unusedVariables false
set_option linter.unusedSimpArgs false
def embG (G : Nat) : Emb := fun b => if b < G then some (b, 0) else none
theorem embG_lt {G b : Nat} (h : b < G) : embG G b = some (b, 0) := by unfold embG; rw [if_pos h]
theorem embG_some {G b k d : Nat} (h : embG G b = some (k, d)) : b < G ∧ k = b ∧ d = 0 := by
  unfold embG at h
  split at h
  · cases h; exact ⟨by assumption, rfl, rfl⟩
  · cases h
theorem none_le (ρ : Emb) : Emb.le (fun _ => none) ρ := fun b x h => by cases h
def tabsH : List (Nat × IntKind × List Int) → PT Ob
  | [] => .leaf
  | x :: l => (tabsH l).put x.1 (some (.cells (x.2.2.map (Value.int x.2.1))))
section
set_option linter.unusedSectionVars false
variable [Eta]
theorem tabs_rel {W : World} {G n0 : Nat} (hG : G ≤ W.heap.size) (hn : G ≤ n0) (hlim : G ≤ lim) : ∀ (l : List (Nat × IntKind × List Int)),
    (∀ x ∈ l, x.1 < G ∧ Cells W x.1 (x.2.2.map (Value.int x.2.1)).toArray) → Rel W.heap.size n0 (embG G) (tabsH l).get W := by
  have base : ∀ H : Nat → Option Ob, (∀ b o, H b = some o → ∃ k d, embG G b = some (k, d) ∧ OR (embG G) W k d o) → Rel W.heap.size n0 (embG G) H W := fun H hH =>
    ⟨hH, fun b b' k d d' h1 h2 h3 h4 => by obtain ⟨_, rfl, _⟩ := embG_some h3; obtain ⟨_, rfl, _⟩ := embG_some h4; rfl,
     fun b k d h1 h2 => by obtain ⟨h3, _, _⟩ := embG_some h2; omega, fun b k d h2 => by obtain ⟨h3, rfl, _⟩ := embG_some h2; omega, Nat.le_refl _⟩
  intro l
  induction l with
  | nil => intro _; exact base _ fun b o h => by cases h
  | cons x l ih =>
    intro hl
    have hr := ih fun y hy => hl y (List.mem_cons_of_mem _ hy)
    obtain ⟨h1, h2⟩ := hl x List.mem_cons_self
    refine base _ fun b o h => ?_
    unfold tabsH at h
    by_cases hb : b = x.1
    · subst hb
      rw [PT.get_put_same _ _ _ (by omega)] at h
      cases h
      refine ⟨_, _, embG_lt h1, _, h2, by simp, fun j u v hu hv => ?_⟩
      rw [Nat.add_zero, List.getElem?_toArray, hu] at hv
      cases hv
      rw [List.getElem?_map] at hu
      obtain ⟨z, _, rfl⟩ := Option.map_eq_some_iff.1 hu
      exact .int _ _
    · rw [PT.get_put_other _ _ _ _ hb] at h
      exact hr.at_ b o h
theorem topG {c : Cfg} (hG : c.n0 = c.G) (hlim : c.G ≤ lim) (hc : CfgOk c) (hmix : c.P.follows .mixedOrders = true) (hname : ∀ f fn, c.fns f = some fn → (fn.name == "runtime.NumGoroutine") = false) {W : World}
    (hprim : PrimOk c W.heap.size (fun _ => True)) {k : Nat} {f : FuncId} {args args' : List Value} {b : Bool} (hv : VRL (fun _ => none) W args args')
    (l : List (Nat × IntKind × List Int)) (hsz : c.G ≤ W.heap.size) (hl : ∀ x ∈ l, x.1 < c.G ∧ Cells W x.1 (x.2.2.map (Value.int x.2.1)).toArray)
    (h : saysD b (callD c k (.fn f) args ⟨tabsH l, c.G⟩) = true) :
    Calls c.P f args'.toArray W fun e W' => e = .returned (.bool b) ∧ RowKit.Below W.heap.size W W' := by
  cases e : callD c k (.fn f) args ⟨tabsH l, c.G⟩ with
  | no w => rw [e] at h; cases h
  | ok outs =>
    rw [e] at h
    have hrel : Rel W.heap.size c.n0 (embG c.G) (tabsH l).get W := tabs_rel hsz (by omega) hlim l hl
    obtain ⟨fn, h1, h2, h3, h4⟩ := (sound hc ⟨fun _ _ _ _ => trivial⟩ hmix hname hprim k).fn f args ⟨tabsH l, c.G⟩ outs e (embG c.G) W args' ⟨hv.le (none_le _), hrel, fun g hg => embG_lt hg, trivial, fun o ho b h1 h2 => by unfold embG; rw [if_neg (Nat.not_lt.2 h1)]⟩
    refine h4.mono ?_
    rintro e w' ⟨o, ho, v', ρ', rfl, hvr, hx⟩
    have hb : isB b o.1 = true := List.all_eq_true.1 (show (outs.all fun o => isB b o.1) = true from h) o ho
    refine ⟨?_, hx.low hrel⟩
    unfold isB at hb
    split at hb
    · rename_i x hox
      rw [hox] at hvr
      cases hvr
      obtain rfl : x = b := by simpa using hb
      rfl
    · cases hb
end
theorem laidVars_place {P : Program} {w : World} : ∀ {l : List (String × DataW Unit)} {ps : List MemPlace}, DataW.LaidVars P w l ps → ∀ n d, (n, d) ∈ l →
    ∃ g t cs fuel p, P.globalNamed n = some g ∧ (P.globals[g]?).map (·.type) = some t ∧ w.var? P n = some cs ∧ DataW.trod (fun _ => ()) P w 0 (fun _ => true) false fuel t cs.toList = some (d, p) ∧ ∀ x ∈ MemPlace.row ⟨g, 0, none⟩ cs.size, x ∈ ps
  | [], _, _, _, _, hm => by cases hm
  | (n', d') :: r, ps, h, n, d, hm => by
    obtain ⟨g, t, cs, fuel, p, q, h1, h2, h3, h4, h5, rfl⟩ := h
    rcases List.mem_cons.1 hm with e | e
    · cases e
      exact ⟨g, t, cs, fuel, p, h1, h2, h3, h4, fun x hx => by simp [hx]⟩
    · obtain ⟨g', t', cs', fuel', p', a1, a2, a3, a4, a5⟩ := laidVars_place h5 n d e
      exact ⟨g', t', cs', fuel', p', a1, a2, a3, a4, fun x hx => by simp [a5 x hx]⟩
theorem laid_cells {P : Program} {W : World} {l : List (String × DataW Unit)} {n : String} {d : DataW Unit} {k : IntKind} {zs : List Int} {g : Nat} {t e : TypeId} {m : Nat} (h : laidMet P l W) (hm : (n, d) ∈ l) (hd : d = Lib.tabData k zs)
    (hg : P.globalNamed n = some g) (hty : (P.globals[g]?).map (·.type) = some t) (ht : P.underlying t = some (.array m e)) (he : P.underlying e = some (.int k)) (hce : P.cellsOf e = 1) (hct : P.cellsOf t = m) (hz : zs ≠ []) :
    Cells W g (zs.map (Value.int k)).toArray := by
  subst hd
  obtain ⟨ps, hv, _, hf⟩ := h
  obtain ⟨g', t', cs, fuel, p, a1, a2, a3, a4, a5⟩ := laidVars_place hv n _ hm
  obtain rfl := Option.some.inj (hg.symm.trans a1)
  obtain rfl := Option.some.inj (hty.symm.trans a2)
  have hcs := Lib.cells_of_tab ht he hce hct a4
  have hcs' : cs = (zs.map (Value.int k)).toArray := by rw [← hcs]
  have hne : 0 < cs.size := by rw [hcs']; cases zs with | nil => exact absurd rfl hz | cons z zs => simp
  have hp : MemPlace.cell g 0 ∈ ps := a5 _ (by unfold MemPlace.row; simp; omega)
  obtain ⟨⟨c0, t0, hh⟩, _⟩ := hf g 0 hp
  unfold World.var? at a3
  rw [hg] at a3
  simp only [Option.bind_some, hh] at a3
  cases a3
  rw [← hcs']
  exact ⟨t0, (0, 0), hh, fun j hj => by simp⟩
theorem flat_parts {α β : Type} {f : β → α} {m : Nat} : ∀ {zss : List (List β)} {cs : List α}, cs.length = zss.length * m → (∀ i zs, zss[i]? = some zs → (cs.drop (i * m)).take m = zs.map f) → cs = zss.flatten.map f
  | [], cs, h, _ => by
    have h0 : cs.length = 0 := by simpa using h
    simp [List.length_eq_zero_iff.1 h0]
  | zs :: r, cs, h, hi => by
    have h0 := hi 0 zs rfl
    simp only [Nat.zero_mul, List.drop_zero] at h0
    have ih := flat_parts (f := f) (m := m) (zss := r) (cs := cs.drop m) (by simp [h, Nat.add_mul]) (fun i z hz => by
      have := hi (i + 1) z (by simpa using hz)
      rw [List.drop_drop, show m + i * m = (i + 1) * m by rw [Nat.add_mul, Nat.one_mul, Nat.add_comm]]
      exact this)
    rw [List.flatten_cons, List.map_append, ← h0, ← ih, List.take_append_drop]
theorem laid_structs {P : Program} {W : World} {l : List (String × DataW Unit)} {n : String} {d : DataW Unit} {k : IntKind} {zss : List (List Int)} {g : Nat} {t e : TypeId} {m : Nat} {fs : Array Field} (h : laidMet P l W) (hm : (n, d) ∈ l)
    (hd : d = .agg (zss.map fun zs => .agg (zs.map fun z => .lit (.int k z)))) (hg : P.globalNamed n = some g) (hty : (P.globals[g]?).map (·.type) = some t) (ht : P.underlying t = some (.array m e)) (he : P.underlying e = some (.struct fs))
    (hf : ∀ (i : Nat) (f : Field), fs[i]? = some f → P.underlying f.type = some (.int k) ∧ f.offset = i ∧ P.cellsOf f.type = 1) (hce : P.cellsOf e = fs.size) (hct : P.cellsOf t = m * P.cellsOf e) (hl : zss.length = m) (hz : zss.flatten ≠ []) :
    Cells W g (zss.flatten.map (Value.int k)).toArray := by
  subst hd
  obtain ⟨ps, hv, _, hfit⟩ := h
  obtain ⟨g', t', cs, fuel, p, a1, a2, a3, a4, a5⟩ := laidVars_place hv n _ hm
  obtain rfl := Option.some.inj (hg.symm.trans a1)
  obtain rfl := Option.some.inj (hty.symm.trans a2)
  have hlen : cs.toList.length = m * P.cellsOf e := by
    cases fuel with
    | zero => simp [DataW.trod] at a4
    | succ fuel =>
      simp only [DataW.trod, ht] at a4
      split at a4
      · rename_i hh; rw [← hct]; simpa using hh
      · cases a4
  have hcs : cs.toList = zss.flatten.map (Value.int k) := by
    refine flat_parts (m := P.cellsOf e) (by rw [hlen, hl]) (fun i zs hi => ?_)
    have him : i < m := by rw [← hl]; exact (List.getElem?_eq_some_iff.1 hi).1
    obtain ⟨fuel', d, q, b1, b2⟩ := Lib.array_elem ht a4 i him
    simp only [List.getElem?_map, hi, Option.map_some, Option.some.injEq] at b1
    subst b1
    exact Lib.ints_of_struct he hf hce b2
  have hcs' : cs = (zss.flatten.map (Value.int k)).toArray := by rw [← hcs]
  have hne : 0 < cs.size := by rw [hcs']; cases hq : zss.flatten with | nil => exact absurd hq hz | cons z zs => simp
  have hp : MemPlace.cell g 0 ∈ ps := a5 _ (by unfold MemPlace.row; simp; omega)
  obtain ⟨⟨c0, t0, hh⟩, _⟩ := hfit g 0 hp
  unfold World.var? at a3
  rw [hg] at a3
  simp only [Option.bind_some, hh] at a3
  cases a3
  rw [← hcs']
  exact ⟨t0, (0, 0), hh, fun j hj => by simp⟩
theorem cells_size {W : World} {k : Nat} {cs : Array Value} (h : Cells W k cs) : k < W.heap.size := by
  obtain ⟨el, fr, h1, _⟩ := h
  exact (Array.getElem?_eq_some_iff.1 h1).1
#print axioms topG
#print axioms laid_cells
#print axioms laid_structs
end Go.Proofs.YtchbodpkaiengaaGreatDoorDx
