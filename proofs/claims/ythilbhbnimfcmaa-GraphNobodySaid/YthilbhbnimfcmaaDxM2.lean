/- A part of the proof that the interpreter of YthilbhbnimfcmaaDxDx is sound: what it computes of a call, the call comes to in the model. No condition beyond those that each theorem names. -/
import Derived.Test.YthilbhbnimfcmaaDxM1
namespace Go.Proofs.YthilbhbnimfcmaaDx
open Go
set_option linter.unusedVariables false
set_option linter.unusedSimpArgs false

theorem idx_some : ∀ {L : List Nat} {b i : Nat}, idx L b = some i → L[i]? = some b
  | x :: l, b, i, h => by
    unfold idx at h
    cases e : Nat.beq x b with
    | true => rw [e] at h; cases h; rw [beq_t e]; rfl
    | false =>
      rw [e] at h
      obtain ⟨j, h1, rfl⟩ := Option.map_eq_some_iff.1 h
      simpa using idx_some h1
theorem nodupB_inj : ∀ {L : List Nat}, nodupB L = true → ∀ (i j b : Nat), L[i]? = some b → L[j]? = some b → i = j
  | x :: l, h, i, j, b, hi, hj => by
    simp only [nodupB, Bool.and_eq_true, Bool.not_eq_true'] at h
    have hx : ∀ (m : Nat), l[m]? ≠ some x := fun m hm => by
      have := memB_iff.2 (List.mem_of_getElem? hm)
      rw [h.1] at this; cases this
    cases i with
    | zero =>
      simp at hi
      subst hi
      cases j with
      | zero => rfl
      | succ j => exact absurd (by simpa using hj) (hx j)
    | succ i =>
      cases j with
      | zero => simp at hj; subst hj; exact absurd (by simpa using hi) (hx i)
      | succ j => rw [nodupB_inj h.2 i j b (by simpa using hi) (by simpa using hj)]
theorem mem_oldW {n b : Nat} : ∀ {W : List Nat}, b ∈ oldW n W ↔ b ∈ W ∧ b < n
  | [] => by simp [oldW]
  | x :: l => by
    unfold oldW
    cases e : Nat.blt x n with
    | true =>
      have := blt_t e
      simp only [cond_true, mem_insN, mem_oldW (W := l), List.mem_cons]
      constructor
      · rintro (rfl | h)
        · exact ⟨.inl rfl, this⟩
        · exact ⟨.inr h.1, h.2⟩
      · rintro ⟨rfl | h, hb⟩
        · exact .inl rfl
        · exact .inr ⟨h, hb⟩
    | false =>
      have := blt_f e
      simp only [cond_false, mem_oldW (W := l), List.mem_cons]
      constructor
      · rintro ⟨h, hb⟩; exact ⟨.inr h, hb⟩
      · rintro ⟨rfl | h, hb⟩
        · omega
        · exact ⟨h, hb⟩
/-- The last of the entries for an id counts: here each id has one answer. -/
theorem putL_get : ∀ (l : List (Nat × Option Ob)) (t : PT Ob) (b : Nat), (∀ p ∈ l, p.1 < lim) → (putL t l).get b = t.get b ∨ ∃ o, (b, o) ∈ l ∧ (putL t l).get b = o
  | [], t, b, h => .inl rfl
  | p :: l, t, b, h => by
    unfold putL
    rcases putL_get l (t.put p.1 p.2) b (fun q hq => h q (by simp [hq])) with h1 | ⟨o, h1, h2⟩
    · by_cases e : b = p.1
      · subst e
        exact .inr ⟨p.2, by simp, by rw [h1, PT.get_put_same _ _ _ (h p (by simp))]⟩
      · exact .inl (by rw [h1, PT.get_put_other _ _ _ _ e])
    · exact .inr ⟨o, by simp [h1], h2⟩
theorem putL_not : ∀ (l : List (Nat × Option Ob)) (t : PT Ob) (b : Nat), (∀ p ∈ l, p.1 ≠ b) → (putL t l).get b = t.get b
  | [], t, b, h => rfl
  | p :: l, t, b, h => by
    unfold putL
    rw [putL_not l _ b (fun q hq => h q (by simp [hq])), PT.get_put_other _ _ _ _ (Ne.symm (h p (by simp)))]
theorem putL_mem : ∀ (l : List (Nat × Option Ob)) (t : PT Ob) (b : Nat), (∀ p ∈ l, p.1 < lim) → (∃ p ∈ l, p.1 = b) → ∃ o, (b, o) ∈ l ∧ (putL t l).get b = o
  | [], t, b, h, hm => by obtain ⟨p, hp, _⟩ := hm; cases hp
  | p :: l, t, b, h, hm => by
    unfold putL
    by_cases hl : ∃ q ∈ l, q.1 = b
    · obtain ⟨o, h1, h2⟩ := putL_mem l (t.put p.1 p.2) b (fun q hq => h q (by simp [hq])) hl
      exact ⟨o, by simp [h1], h2⟩
    · obtain ⟨q, hq, e⟩ := hm
      rcases List.mem_cons.1 hq with rfl | hq
      · subst e
        refine ⟨q.2, by simp, ?_⟩
        rw [putL_not l _ _ (fun r hr e => hl ⟨r, hr, e⟩), PT.get_put_same _ _ _ (h q (by simp))]
      · exact absurd ⟨q, hq, e⟩ hl
theorem numL_get : ∀ (L : List Nat) (n : Nat) (p : Nat × Nat), p ∈ numL n L ↔ ∃ i, L[i]? = some p.2 ∧ p.1 = n + i
  | [], n, p => by simp [numL]
  | x :: l, n, p => by
    simp only [numL, List.mem_cons, numL_get l (n + 1) p]
    constructor
    · rintro (rfl | ⟨i, h1, h2⟩)
      · exact ⟨0, rfl, rfl⟩
      · exact ⟨i + 1, by simpa using h1, by omega⟩
    · rintro ⟨i, h1, h2⟩
      cases i with
      | zero => simp at h1; exact .inl (by obtain ⟨p1, p2⟩ := p; simp at h1 h2; rw [h1, h2])
      | succ i => exact .inr ⟨i, by simpa using h1, by omega⟩

/-- The form that outcomes are brought to is one of theirs. -/
theorem Ext.canon {c : Cfg} {base N : Nat} {h0 h1 : Hp} {ρ ρ' : Emb} {w w' : World} {W : List Nat} {vs : List (Nat × Value)} {d : List Dfr} {x : Dat} (hr : Rel base c.n0 ρ h0.t.get w) (hfree : Free ρ h0.n N)
    (hx : Ext base c.n0 ρ h0.t.get h0.n w ρ' h1.t.get h1.n W w') (hc : _root_.Go.Proofs.YthilbhbnimfcmaaDx.canon c h0.n N vs d h1 W = some x) :
    ∃ ρ'' f, Ext base c.n0 ρ h0.t.get h0.n w ρ'' (putL h0.t x.obs).get N x.W w' ∧ (∀ b b' z, f b = some b' → ρ' b = some z → ρ'' b' = some z) ∧
      mapO (fun (p : Nat × Value) => (renV f depthV p.2).map fun v => (p.1, v)) vs = some x.vs ∧ mapO (renD f) d = some x.d ∧ (∀ b ∈ W, b < h1.n) ∧ ∀ b ∈ x.W, b ∈ W := by
  unfold _root_.Go.Proofs.YthilbhbnimfcmaaDx.canon at hc
  simp only at hc
  generalize hL : gather h0.n h1.t 100000 _ [] = L at hc
  have hcond : (Nat.ble c.n0 h0.n && L.all (fun b => Nat.ble h0.n b && Nat.blt b h1.n) && nodupB L && Nat.ble (h0.n + L.length) N && Nat.ble h1.n N && Nat.ble N lim && W.all (fun b => Nat.blt b h1.n)) = true := by
    cases e : (Nat.ble c.n0 h0.n && L.all (fun b => Nat.ble h0.n b && Nat.blt b h1.n) && nodupB L && Nat.ble (h0.n + L.length) N && Nat.ble h1.n N && Nat.ble N lim && W.all (fun b => Nat.blt b h1.n)) with
    | true => rfl
    | false => rw [e] at hc; cases hc
  rw [hcond] at hc
  simp only [cond_true] at hc
  obtain ⟨vs', e1, hc⟩ := Option.bind_eq_some_iff.1 hc
  obtain ⟨d', e2, hc⟩ := Option.bind_eq_some_iff.1 hc
  obtain ⟨obs, e3, rfl⟩ := Option.map_eq_some_iff.1 hc
  simp only [Bool.and_eq_true, List.all_eq_true] at hcond
  obtain ⟨⟨⟨⟨⟨⟨q1, q2⟩, q3⟩, q4⟩, q5⟩, q6⟩, q7⟩ := hcond
  have hn0 := ble_t q1
  have hLr : ∀ b ∈ L, h0.n ≤ b ∧ b < h1.n := fun b hb => ⟨ble_t (q2 b hb).1, blt_t (q2 b hb).2⟩
  have hLN := ble_t q4
  have hN1 := ble_t q5
  have hNl := ble_t q6
  have hWl : ∀ b ∈ W, b < h1.n := fun b hb => blt_t (q7 b hb)
  clear hL q1 q2 q4 q5 q6 q7
  have hlive : ∀ b, h0.n ≤ b → b < N → h0.t.get b = none := fun b k1 k2 => by
    cases e : h0.t.get b with
    | none => rfl
    | some o => obtain ⟨k, dd, hk, _⟩ := hr.at_ b o e; rw [hfree b k1 k2] at hk; cases hk
  -- what lies where
  obtain ⟨l1, l2⟩ := mapO_get e3
  have hob : ∀ b o, (b, o) ∈ obs → ∃ b1, renO (renN h0.n L) (h1.t.get b1) = some o ∧ ((b ∈ oldW h0.n W ∧ b1 = b) ∨ ∃ i, L[i]? = some b1 ∧ b = h0.n + i) := by
    intro b o hbo
    obtain ⟨i, hi⟩ := List.getElem?_of_mem hbo
    have hil : i < ((oldW h0.n W).map (fun b => (b, b)) ++ numL h0.n L).length := by rw [l1]; exact (List.getElem?_eq_some_iff.1 hi).1
    obtain ⟨y, y1, y2⟩ := l2 i _ (List.getElem?_eq_getElem hil)
    rw [hi] at y1
    cases y1
    unfold pairO at y2
    obtain ⟨o', y3, y4⟩ := Option.map_eq_some_iff.1 y2
    cases y4
    refine ⟨_, y3, ?_⟩
    rcases List.mem_append.1 (List.getElem_mem hil) with hm | hm
    · obtain ⟨z, z1, z2⟩ := List.mem_map.1 hm
      rw [← z2]
      exact .inl ⟨z1, rfl⟩
    · obtain ⟨m, z1, z2⟩ := (numL_get L h0.n _).1 hm
      exact .inr ⟨m, z1, z2⟩
  have hhas : ∀ b, (b ∈ oldW h0.n W ∨ ∃ i, i < L.length ∧ b = h0.n + i) → ∃ p ∈ obs, p.1 = b := by
    intro b hb
    have : ∃ p ∈ (oldW h0.n W).map (fun b => (b, b)) ++ numL h0.n L, p.1 = b := by
      rcases hb with hb | ⟨i, hi, rfl⟩
      · exact ⟨(b, b), List.mem_append_left _ (List.mem_map.2 ⟨b, hb, rfl⟩), rfl⟩
      · exact ⟨(h0.n + i, L[i]), List.mem_append_right _ ((numL_get L h0.n _).2 ⟨i, List.getElem?_eq_getElem hi, rfl⟩), rfl⟩
    obtain ⟨p, p1, rfl⟩ := this
    obtain ⟨i, hi⟩ := List.getElem?_of_mem p1
    obtain ⟨y, y1, y2⟩ := l2 i _ hi
    unfold pairO at y2
    obtain ⟨o', y3, y4⟩ := Option.map_eq_some_iff.1 y2
    exact ⟨y, List.mem_of_getElem? y1, by rw [← y4]⟩
  have hoblim : ∀ p ∈ obs, p.1 < lim := by
    rintro ⟨b, o⟩ hp
    obtain ⟨b1, _, k⟩ := hob b o hp
    rcases k with ⟨k, _⟩ | ⟨i, k, rfl⟩
    · have := (mem_oldW.1 k).2; show b < lim; omega
    · have := (List.getElem?_eq_some_iff.1 k).1; show h0.n + i < lim; omega
  have hA : ∀ b, b ∈ oldW h0.n W → renO (renN h0.n L) (h1.t.get b) = some ((putL h0.t obs).get b) := by
    intro b hb
    obtain ⟨o, o1, o2⟩ := putL_mem obs h0.t b hoblim (hhas b (.inl hb))
    obtain ⟨b1, k1, k2⟩ := hob b o o1
    rcases k2 with ⟨_, rfl⟩ | ⟨i, _, rfl⟩
    · rw [o2]; exact k1
    · have := (mem_oldW.1 hb).2; omega
  have hB : ∀ i b1, L[i]? = some b1 → renO (renN h0.n L) (h1.t.get b1) = some ((putL h0.t obs).get (h0.n + i)) := by
    intro i b1 hi
    obtain ⟨o, o1, o2⟩ := putL_mem obs h0.t (h0.n + i) hoblim (hhas _ (.inr ⟨i, (List.getElem?_eq_some_iff.1 hi).1, rfl⟩))
    obtain ⟨b2, k1, k2⟩ := hob _ o o1
    rcases k2 with ⟨k, _⟩ | ⟨j, k, k3⟩
    · have := (mem_oldW.1 k).2; omega
    · obtain rfl : i = j := by omega
      rw [hi] at k
      cases k
      rw [o2]; exact k1
  have hC : ∀ b, b ∉ oldW h0.n W → ¬ (h0.n ≤ b ∧ b < h0.n + L.length) → (putL h0.t obs).get b = h0.t.get b := by
    intro b hb1 hb2
    refine putL_not obs h0.t b (fun p hp e => ?_)
    obtain ⟨p1, p2⟩ := p
    obtain ⟨b1, _, k⟩ := hob p1 p2 hp
    simp only at e
    subst e
    rcases k with ⟨k, _⟩ | ⟨i, k, k3⟩
    · exact hb1 k
    · have := (List.getElem?_eq_some_iff.1 k).1; exact hb2 ⟨by omega, by omega⟩
  -- the ids
  let ρ'' : Emb := fun b => if h0.n ≤ b ∧ b < h0.n + L.length then (L[b - h0.n]?).bind ρ' else ρ b
  have hle : ρ.le ρ'' := fun b z hb => by
    show (if _ then _ else _) = _
    rw [if_neg (fun hh => by rw [hfree b hh.1 (by omega)] at hb; cases hb)]
    exact hb
  have hnew : ∀ i b1, L[i]? = some b1 → ρ'' (h0.n + i) = ρ' b1 := fun i b1 hi => by
    show (if _ then _ else _) = _
    have := (List.getElem?_eq_some_iff.1 hi).1
    rw [if_pos ⟨by omega, by omega⟩, Nat.add_sub_cancel_left, hi]
    rfl
  have hold : ∀ b, ¬ (h0.n ≤ b ∧ b < h0.n + L.length) → ρ'' b = ρ b := fun b hb => if_neg hb
  have hback : ∀ b z, ¬ (h0.n ≤ b ∧ b < h1.n) → ρ' b = some z → ρ b = some z := fun b z hb hz => (hx.dom b z hz).resolve_right hb
  have hren : ∀ b b' z, renN h0.n L b = some b' → ρ' b = some z → ρ'' b' = some z := by
    intro b b' z hb hz
    unfold renN at hb
    cases e : Nat.blt b h0.n with
    | true =>
      rw [e] at hb
      cases hb
      have := blt_t e
      exact hle _ _ (hback b z (fun hh => by omega) hz)
    | false =>
      rw [e] at hb
      simp only [cond_false] at hb
      obtain ⟨i, h1', rfl⟩ := Option.map_eq_some_iff.1 hb
      rw [hnew i b (idx_some h1')]
      exact hz
  -- where a block of the new form comes from
  have horig : ∀ b k dd, (putL h0.t obs).get b ≠ none → ρ'' b = some (k, dd) → ∃ b1, h1.t.get b1 ≠ none ∧ ρ' b1 = some (k, dd) ∧ ((∃ i, L[i]? = some b1 ∧ b = h0.n + i) ∨ (b1 = b ∧ ¬ (h0.n ≤ b ∧ b < h1.n))) := by
    intro b k dd hb hk
    by_cases hin : h0.n ≤ b ∧ b < h0.n + L.length
    · obtain ⟨i, rfl⟩ : ∃ i, b = h0.n + i := ⟨b - h0.n, by omega⟩
      have hi : L[i]? = some L[i] := List.getElem?_eq_getElem (by omega)
      have hb1 := hB i _ hi
      refine ⟨_, fun hn => ?_, by rw [← hnew i _ hi]; exact hk, .inl ⟨i, hi, rfl⟩⟩
      rw [hn] at hb1
      exact hb (Option.some.inj hb1).symm
    · rw [hold b hin] at hk
      have hnb : ¬ (h0.n ≤ b ∧ b < h1.n) := fun hh => by rw [hfree b hh.1 (by omega)] at hk; cases hk
      refine ⟨b, fun hn => ?_, hx.le _ _ hk, .inr ⟨rfl, hnb⟩⟩
      by_cases hw : b ∈ oldW h0.n W
      · have := hA b hw
        rw [hn] at this
        exact hb (Option.some.inj this).symm
      · rw [hC b hw hin] at hb
        rcases hx.old b (by omega) with h3 | h3
        · rw [h3] at hn; exact hb hn
        · exact hw (mem_oldW.2 ⟨h3.1, by have := hWl b h3.1; omega⟩)
  refine ⟨ρ'', renN h0.n L, ⟨hle, fun b z hb => ?_, by omega, ⟨fun b o hb => ?_, fun b b' k d1 d2 hb hb' hk hk' => ?_, fun b k dd hb hk => ?_, fun b k dd hk => ?_, hx.rel.sz⟩, hx.grow, fun k hk hw => ?_, fun b k dd hb1 hb2 hb3 hb4 => ?_, fun b hb => ?_, fun b hb => ?_⟩, hren, e1, e2, hWl, fun b hb => (mem_oldW.1 hb).1⟩
  · by_cases hin : h0.n ≤ b ∧ b < h0.n + L.length
    · exact .inr ⟨hin.1, by omega⟩
    · rw [hold b hin] at hb; exact .inl hb
  · by_cases hin : h0.n ≤ b ∧ b < h0.n + L.length
    · obtain ⟨i, rfl⟩ : ∃ i, b = h0.n + i := ⟨b - h0.n, by omega⟩
      have hi : L[i]? = some L[i] := List.getElem?_eq_getElem (by omega)
      have hb1 := hB i _ hi
      rw [hb] at hb1
      cases e : h1.t.get L[i] with
      | none => rw [e] at hb1; cases hb1
      | some o1 =>
        rw [e] at hb1
        obtain ⟨k, dd, k1, k2⟩ := hx.rel.at_ _ o1 e
        exact ⟨k, dd, by rw [hnew i _ hi]; exact k1, k2.ren hren hb1⟩
    · by_cases hw : b ∈ oldW h0.n W
      · have hb1 := hA b hw
        rw [hb] at hb1
        cases e : h1.t.get b with
        | none => rw [e] at hb1; cases hb1
        | some o1 =>
          rw [e] at hb1
          obtain ⟨k, dd, k1, k2⟩ := hx.rel.at_ _ o1 e
          have := (mem_oldW.1 hw).2
          exact ⟨k, dd, hle _ _ (hback b _ (fun hh => by omega) k1), k2.ren hren hb1⟩
      · rw [hC b hw hin] at hb
        obtain ⟨k, dd, k1, k2⟩ := hr.at_ b o hb
        refine ⟨k, dd, hle _ _ k1, (k2.le hle).grow hx.grow (hx.frame k (hr.low b k dd k1) (fun b0 hb0 hl0 d0 hd0 => ?_))⟩
        have : b0 = b := hr.inj b0 b k d0 dd hl0 (by rw [hb]; simp) hd0 k1
        subst this
        have hlt := hWl b0 hb0
        refine hw (mem_oldW.2 ⟨hb0, Nat.lt_of_not_le fun hh => ?_⟩)
        rw [hfree b0 hh (by omega)] at k1
        cases k1
  · obtain ⟨b1, m1, m2, m3⟩ := horig b k d1 hb hk
    obtain ⟨b2, m4, m5, m6⟩ := horig b' k d2 hb' hk'
    have he := hx.rel.inj b1 b2 k d1 d2 m1 m4 m2 m5
    subst he
    rcases m3 with ⟨i, i1, rfl⟩ | ⟨rfl, i2⟩ <;> rcases m6 with ⟨j, j1, rfl⟩ | ⟨j1, j2⟩
    · rw [nodupB_inj q3 i j b1 i1 j1]
    · subst j1; exact absurd (hLr _ (List.mem_of_getElem? i1)) j2
    · exact absurd (hLr _ (List.mem_of_getElem? j1)) i2
    · exact j1
  · by_cases hin : h0.n ≤ b ∧ b < h0.n + L.length
    · obtain ⟨i, rfl⟩ : ∃ i, b = h0.n + i := ⟨b - h0.n, by omega⟩
      have hi : L[i]? = some L[i] := List.getElem?_eq_getElem (by omega)
      rw [hnew i _ hi] at hk
      have := (hLr _ (List.mem_of_getElem? hi)).1
      exact hx.rel.high _ k dd (by omega) hk
    · rw [hold b hin] at hk; exact hr.high b k dd hb hk
  · by_cases hin : h0.n ≤ b ∧ b < h0.n + L.length
    · obtain ⟨i, rfl⟩ : ∃ i, b = h0.n + i := ⟨b - h0.n, by omega⟩
      have hi : L[i]? = some L[i] := List.getElem?_eq_getElem (by omega)
      rw [hnew i _ hi] at hk
      exact hx.rel.low _ k dd hk
    · rw [hold b hin] at hk; exact Nat.lt_of_lt_of_le (hr.low b k dd hk) hx.grow.size
  · refine hx.frame k hk (fun b hb hl dd hd => hw b (mem_oldW.2 ⟨hb, Nat.lt_of_not_le fun hh => ?_⟩) hl dd hd)
    have := hWl b hb
    exact hl (hlive b hh (by omega))
  · by_cases hin : h0.n ≤ b ∧ b < h0.n + L.length
    · obtain ⟨b1, m1, m2, m3⟩ := horig b k dd hb3 hb4
      rcases m3 with ⟨i, i1, rfl⟩ | ⟨rfl, i2⟩
      · have := hLr _ (List.mem_of_getElem? i1)
        rcases hx.new b1 k dd this.1 this.2 m1 m2 with h3 | ⟨b0, h3, h4, h5⟩
        · exact .inl h3
        · refine .inr ⟨b0, mem_oldW.2 ⟨h3, Nat.lt_of_not_le fun hh => ?_⟩, h4, h5⟩
          have := hWl b0 h3
          exact h4 (hlive b0 hh (by omega))
      · have hk := hback b1 _ i2 m2
        rw [hfree b1 hb1 hb2] at hk
        cases hk
    · rw [hold b hin, hfree b hb1 hb2] at hb4
      cases hb4
  · by_cases hw : b ∈ oldW h0.n W
    · by_cases hl : h0.t.get b = none
      · refine .inl ?_
        have hb1 := hA b hw
        have hlt := (mem_oldW.1 hw).2
        rcases hx.old b (.inl hlt) with h3 | h3
        · rw [h3, hl] at hb1
          rw [hl]
          exact (Option.some.inj hb1).symm
        · exact absurd hl h3.2
      · exact .inr ⟨hw, hl⟩
    · exact .inl (hC b hw (fun hh => by omega))
  · exact hx.wr b (mem_oldW.1 hb).1
end Go.Proofs.YthilbhbnimfcmaaDx
