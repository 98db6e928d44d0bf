/- A part of the proof that the interpreter of YthilbhbnimfcmaaDxDx is sound: what it computes of a call, the call comes to in the model. No condition beyond those that each theorem names. -/
import Derived.Test.YthilbhbnimfcmaaDxR10f
namespace Go.Proofs.YthilbhbnimfcmaaDx
open Go
set_option linter.unusedVariables false
set_option linter.unusedSimpArgs false
section
variable {c : Cfg} {base : Nat} {ρ : Emb} {h : Hp} {w : World} {T : Tm} {a : Act} {outs : List Out}

theorem memB_iff {b : Nat} {l : List Nat} : memB b l = true ↔ b ∈ l := by
  unfold memB
  rw [List.any_eq_true]
  constructor
  · rintro ⟨x, h1, h2⟩; rw [beq_t h2]; exact h1
  · intro h; exact ⟨b, h, by simp⟩
theorem mem_insN {b x : Nat} : ∀ {l : List Nat}, x ∈ insN b l ↔ x = b ∨ x ∈ l
  | [] => by simp [insN]
  | y :: l => by
    unfold insN
    cases h1 : Nat.blt b y with
    | true => simp
    | false =>
      cases h2 : Nat.beq b y with
      | true => obtain rfl := beq_t h2; simp
      | false => simp only [cond_false, List.mem_cons, mem_insN (l := l)]; constructor <;> (rintro (h | h | h) <;> simp [h])
theorem mem_insL {b x : Nat} {l : List Nat} : x ∈ insL b l ↔ x = b ∨ x ∈ l := by
  cases l with
  | nil => simp [insL]
  | cons y l => simp [insL, mem_insN]
theorem head_insL {b : Nat} {l : List Nat} : (insL b l).head? = some b := by cases l <;> rfl
theorem ERL.filter {p : Ent → Bool} {q : MapEntry → Bool} : ∀ {es : List Ent} {es' : List MapEntry}, ERL ρ w es es' → (∀ e e', e'.born = e.2.2 → q e' = p e) → ERL ρ w (es.filter p) (es'.filter q)
  | [], es', he, hp => by obtain rfl := he.cases_nil; exact ERL.nil
  | e :: es, l, he, hp => by
    obtain ⟨e', es', rfl, h1, h2⟩ := he.cases_cons
    have ih := ERL.filter h2 hp
    simp only [List.filter_cons, hp e e' h1.2.2]
    split
    · exact ERL.cons h1 ih
    · exact ih
theorem ERL.all {p : Ent → Bool} {q : MapEntry → Bool} : ∀ {es : List Ent} {es' : List MapEntry}, ERL ρ w es es' → (∀ e e', e'.born = e.2.2 → q e' = p e) → es'.all q = es.all p
  | [], es', he, hp => by obtain rfl := he.cases_nil; rfl
  | e :: es, l, he, hp => by
    obtain ⟨e', es', rfl, h1, h2⟩ := he.cases_cons
    simp only [List.all_cons, hp e e' h1.2.2, ERL.all h2 hp]
theorem ERL.isEmpty {es : List Ent} {es' : List MapEntry} (he : ERL ρ w es es') : es'.isEmpty = es.isEmpty := by
  cases es with
  | nil => rw [he.cases_nil]; rfl
  | cons e es => obtain ⟨e', es', rfl, _⟩ := he.cases_cons; rfl
theorem nextM_mem {r m since : Nat} {seen : List Nat} {clock : Nat} : ∀ {l : List Ent} {outs : List Out}, nextM c h r m since seen clock l = some outs → ∀ (j : Nat) e, l[j]? = some e → ∃ q, pfd 1 e.1 = true ∧ putO c h r (.mit (some m) since (insL e.2.2 seen) clock) = some q ∧ (Value.tuple #[.bool true, e.1, e.2.1], q.1, q.2) ∈ outs
  | [], outs, hn, j, e, hj => by simp at hj
  | x :: l, outs, hn, j, e, hj => by
    unfold nextM at hn
    cases hp : pfd 1 x.1 with
    | false => rw [hp] at hn; cases hn
    | true =>
      rw [hp] at hn
      simp only [cond_true] at hn
      obtain ⟨q, e1, hn⟩ := Option.bind_eq_some_iff.1 hn
      obtain ⟨rest, e2, rfl⟩ := Option.map_eq_some_iff.1 hn
      cases j with
      | zero => simp at hj; subst hj; exact ⟨q, hp, e1, by simp⟩
      | succ j =>
        obtain ⟨q', g0, g1, g2⟩ := nextM_mem e2 j e (by simpa using hj)
        exact ⟨q', g0, g1, by simp [g2]⟩
theorem ptrN_VR {x y : Value} {r : Nat} (hp : ptrN x = some r) (hx : VR ρ w x y) : ∃ k d, ρ r = some (k, d) ∧ y = .pointer (some ⟨k, 0 + d, none⟩) := by
  unfold ptrN at hp
  split at hp
  · cases hp
    cases hx with
    | ptr b o k d hb => exact ⟨k, d, hb, rfl⟩
  · cases hp
theorem goes_over (hr : Rel base c.n0 ρ h.t.get w) {outs : List Out} {x : Result Next} {w1 : World} (hm : over h ∈ outs) (hx : x = .ok (.value (.tuple #[.bool false])) w1) (hg : Grow w w1) (hh : w1.heap = w.heap) : Goes c base ρ h w outs x := by
  have hv : VR ρ w1 (.tuple #[.bool false]) (.tuple #[.bool false]) := .tuple _ _ rfl (fun i x y hx hy => by rw [hx] at hy; cases hy; cases i with | zero => simp at hx; subst hx; exact .bool _ | succ i => simp at hx)
  have hr1 : Rel base c.n0 ρ h.t.get w1 := ⟨fun b o hb => by obtain ⟨k, d, h1, h2⟩ := hr.at_ b o hb; exact ⟨k, d, h1, h2.grow hg (by rw [hh])⟩, hr.inj, hr.high, fun b k d hb => by rw [hh]; exact hr.low b k d hb, by rw [hh]; exact hr.sz⟩
  refine ⟨_, _, _, hm, _, w1, ρ, .inl hx, hv, ⟨.refl ρ, fun b x hb => .inl hb, Nat.le_refl _, hr1, hg, fun k hk _ => by rw [hh], fun b k d h1 h2 => by omega, fun b hb => .inl rfl, fun b hb => by cases hb⟩⟩
theorem run_choose {q : Question} (P : Program) (w : World) : ∃ n w1, (choose q).run P w = .ok n w1 ∧ Grow w w1 ∧ w1.heap = w.heap ∧ (∀ k, q = .mapNext k → 0 < k → n < k) := by
  by_cases hf : q.forced = true
  · refine ⟨0, w, by simp [choose, Sem.run, hf], .refl w, rfl, fun k hq hk => hk⟩
  · refine ⟨q.cut (w.tape w.drawn q), w.drew, by simp [choose, Sem.run, hf], .drew w, rfl, fun k hq hk => ?_⟩
    subst hq
    exact Nat.mod_lt _ hk
theorem cand1 {α : Type} (A : Array α) (n : Nat) (h0 : n ≠ 0) (h : n - 1 < A.size) : ((#[none] : Array (Option α)) ++ A.map some)[n]? = some (some A[n-1]) := by
  rw [Array.getElem?_append_right (by simp; omega)]
  simp [h]
theorem cand0 {α : Type} (A : Array α) (n : Nat) (h : n < A.size) : ((#[] : Array (Option α)) ++ A.map some)[n]? = some (some A[n]) := by
  simp [h]
theorem goes_next (hc : CfgOk c) {t : TypeId} {it y : Value} {isS : Bool} (hr : Rel base c.n0 ρ h.t.get w) (hx : VR ρ w it y) (ho : nextD c h it isS = some outs)
    {res : Result Next} (he : res = ((do pure (Next.value (← Instr.next y isS t)) : Sem Next)).run c.P w) : Goes c base ρ h w outs res := by
  unfold nextD at ho
  obtain ⟨r, e1, ho⟩ := Option.bind_eq_some_iff.1 ho
  obtain ⟨k, d, hk, rfl⟩ := ptrN_VR e1 hx
  split at ho
  · rename_i since seen last hb
    cases isS with
    | true => cases ho
    | false =>
      cases ho
      obtain ⟨k', d', g1, g2⟩ := hr.at_ r _ hb
      rw [hk] at g1
      cases g1
      obtain ⟨m', seen', g3, g4, g4b, g5, g6⟩ := g2
      subst g5
      rcases g3 with ⟨_, rfl⟩ | ⟨x, _, _, hh, _⟩
      · refine goes_over hr (List.mem_singleton.2 rfl) ?_ (.refl w) rfl
        rw [he]
        simp only [Instr.next, Sem.run_bind, run_getO g6 (fun _ _ _ e => by cases e), Result.andThen, Sem.run_pure]
      · cases hh
  · rename_i m since seen last hb
    cases isS with
    | true => cases ho
    | false =>
      simp only [cond_false] at ho
      obtain ⟨p, e2, ho⟩ := Option.bind_eq_some_iff.1 ho
      obtain ⟨k', d', g1, g2⟩ := hr.at_ r _ hb
      rw [hk] at g1
      cases g1
      obtain ⟨m', seen', g3, g4, g4b, g5, g6⟩ := g2
      subst g5
      rcases g3 with ⟨hh, _⟩ | ⟨x, km, dm, hh, hρm, rfl⟩
      · cases hh
      · cases hh
        obtain ⟨es', a1, a2⟩ := map_block hr e2 hρm
        have hnit : ∀ cs el fr, (Obj.mapIter (some km) since seen' last) ≠ .cells cs el fr := fun _ _ _ e => by cases e
        unfold nextIt at ho
        have hse : seen'.isEmpty = seen.isEmpty := by
          cases hs : seen with
          | nil =>
            cases hz : seen'.isEmpty with
            | true => rfl
            | false =>
              exfalso
              have hne : seen'.size ≠ 0 := fun e => by rw [Array.isEmpty, e] at hz; simp at hz
              have hpos : 0 < seen'.size := by omega
              have : seen'[0] ∈ seen' := Array.getElem_mem hpos
              have := (g4 _).1 this
              rw [hs] at this
              cases this
          | cons b l =>
            have : b ∈ seen' := (g4 b).2 (by rw [hs]; simp)
            cases hz : seen'.isEmpty with
            | false => rfl
            | true =>
              rw [Array.isEmpty_iff] at hz
              rw [hz] at this
              simp at this
        have hesE : es'.isEmpty = p.1.isEmpty := by have := a2.isEmpty; rw [← this]; cases es'; simp
        have hall : (es'.all fun e => decide (e.born ≥ last)) = p.1.all (fun e => Nat.ble last e.2.2) := by
          rw [← a2.all (q := fun e => decide (e.born ≥ last)) (fun e e' hb => by rw [hb]; cases hz : Nat.ble last e.2.2 with | true => simpa using ble_t hz | false => simpa using Nat.lt_of_not_le (fun hh => by rw [Nat.ble_eq_true_of_le hh] at hz; cases hz))]
          cases es'; simp
        cases e3 : (!seen.isEmpty && !p.1.isEmpty && p.1.all (fun e => Nat.ble last e.2.2)) with
        | true => rw [e3] at ho; cases ho
        | false =>
          rw [e3] at ho
          simp only [cond_false] at ho
          obtain ⟨l, e4, rfl⟩ := Option.map_eq_some_iff.1 ho
          -- the entries that may be next
          have hleft : ERL ρ w (leftD p.1 seen) (es'.filter fun e => !seen'.contains e.born).toList := by
            have := a2.filter (p := fun e => !memB e.2.2 seen) (q := fun e => !seen'.contains e.born) (fun e e' hb => by
              rw [hb]
              congr 1
              rw [Bool.eq_iff_iff, memB_iff, ← g4]
              simp)
            simpa [leftD] using this
          have hold : ERL ρ w (oldD (leftD p.1 seen) since) ((es'.filter fun e => !seen'.contains e.born).filter (fun e => decide (e.born < since))).toList := by
            have := hleft.filter (p := fun e => Nat.blt e.2.2 since) (q := fun e => decide (e.born < since)) (fun e e' hb => by rw [hb, Bool.eq_iff_iff, Nat.blt_eq]; simp)
            simpa [oldD] using this
          have hlate : ERL ρ w (lateD (leftD p.1 seen) since) ((es'.filter fun e => !seen'.contains e.born).filter (fun e => decide (e.born ≥ since))).toList := by
            have := hleft.filter (p := fun e => !Nat.blt e.2.2 since) (q := fun e => decide (e.born ≥ since)) (fun e e' hb => by rw [hb, Bool.eq_iff_iff, Bool.not_eq_true', ← Bool.not_eq_true, Nat.blt_eq]; simp)
            simpa [lateD] using this
          have hcand := hold.append hlate
          generalize hO : (es'.filter fun e => !seen'.contains e.born).filter (fun e => decide (e.born < since)) = old' at hold hcand
          generalize hL : (es'.filter fun e => !seen'.contains e.born).filter (fun e => decide (e.born ≥ since)) = late' at hlate hcand
          have hoE : old'.isEmpty = (oldD (leftD p.1 seen) since).isEmpty := by have := hold.isEmpty; rw [← this]; cases old'; simp
          have hif : (!seen'.isEmpty && !es'.isEmpty && es'.all fun e => decide (e.born ≥ last)) = false := by rw [hse, hesE, hall]; exact e3
          generalize hC : (if old'.isEmpty = true then (#[none] : Array (Option MapEntry)) else #[]) ++ (old' ++ late').map some = cands
          have hpos : 0 < cands.size := by
            rw [← hC]
            cases ho' : old'.isEmpty with
            | true => simp; omega
            | false =>
              have hne : old'.size ≠ 0 := fun e => by rw [Array.isEmpty, e] at ho'; simp at ho'
              simp; omega
          obtain ⟨n, w1, c1, c2, c3, c4⟩ := run_choose (q := .mapNext cands.size) c.P w
          have hn := c4 _ rfl hpos
          have hcn : cands[n]? = some cands[n] := Array.getElem?_eq_getElem hn
          have hw1k : w1.heap[k]? = some (.mapIter (some km) since seen' last) := by rw [c3]; exact g6
          have hrun0 : cands[n]? = some none → res = .ok (.value (.tuple #[.bool false])) w1 := by
            intro h1
            rw [he]
            unfold Instr.next
            simp only [Sem.run_bind, run_getO g6 hnit, Result.andThen, run_getMap a1, hif, Bool.false_eq_true, if_false, hO, hL, hC, c1, h1, Sem.run_pure]
          have hrun1 : ∀ e', cands[n]? = some (some e') → res = .ok (.value (.tuple #[.bool true, e'.key, e'.val])) (w1.putObj k (.mapIter (some km) since (seen'.push e'.born) p.2)) := by
            intro e' h1
            rw [he]
            unfold Instr.next
            simp only [Sem.run_bind, run_getO g6 hnit, Result.andThen, run_getMap a1, hif, Bool.false_eq_true, if_false, hO, hL, hC, c1, h1, run_setO _ hw1k hnit, Sem.run_pure]
          have hsplit : (cands[n]? = some none ∧ old'.isEmpty = true) ∨ ∃ (j : Nat) (e' : MapEntry), cands[n]? = some (some e') ∧ (old'.toList ++ late'.toList)[j]? = some e' := by
            rw [← hC]
            cases hoe : old'.isEmpty with
            | true =>
              simp only [if_true]
              by_cases hge : n = 0
              · subst hge
                refine .inl ⟨?_, trivial⟩
                rw [Array.getElem?_append_left (by simp)]
                rfl
              · rw [← hC, hoe] at hn
                have hlt : n - 1 < (old' ++ late').size := by simp at hn hge ⊢; omega
                refine .inr ⟨n - 1, (old' ++ late')[n - 1], ?_, ?_⟩
                · exact cand1 _ n hge hlt
                · rw [← Array.toList_append, Array.getElem?_toList, Array.getElem?_eq_getElem hlt]
            | false =>
              simp only [Bool.false_eq_true, if_false]
              rw [← hC, hoe] at hn
              have hlt : n < (old' ++ late').size := by simp at hn ⊢; omega
              refine .inr ⟨n, (old' ++ late')[n], ?_, ?_⟩
              · exact cand0 _ n hlt
              · rw [← Array.toList_append, Array.getElem?_toList, Array.getElem?_eq_getElem hlt]
          rcases hsplit with ⟨h1, h2⟩ | ⟨j, e', h1, h2⟩
          · refine goes_over hr ?_ (hrun0 h1) c2 c3
            rw [← hoE, h2]
            simp
          · have hlen := hcand.1
            have hj : j < (oldD (leftD p.1 seen) since ++ lateD (leftD p.1 seen) since).length := by rw [hlen]; exact (List.getElem?_eq_some_iff.1 h2).1
            have hje : (oldD (leftD p.1 seen) since ++ lateD (leftD p.1 seen) since)[j]? = some (oldD (leftD p.1 seen) since ++ lateD (leftD p.1 seen) since)[j] := List.getElem?_eq_getElem hj
            obtain ⟨b1, b2, b3⟩ := hcand.2 j _ _ hje h2
            obtain ⟨q, q0, q1, q2⟩ := nextM_mem e4 j _ hje
            have hgr := Grow.putO (.mapIter (some km) since (seen'.push e'.born) p.2) c2 c3 g6 hnit
            have hlow := hr.low _ _ _ hk
            obtain ⟨W, h', e5, rest⟩ := goes_putO (v := .tuple #[.bool true, (oldD (leftD p.1 seen) since ++ lateD (leftD p.1 seen) since)[j].1, (oldD (leftD p.1 seen) since ++ lateD (leftD p.1 seen) since)[j].2.1]) (v' := .tuple #[.bool true, e'.key, e'.val])
              (ob' := .mapIter (some km) since (seen'.push e'.born) p.2) hr hb hk q1 g6 hnit c2 c3 (by
              exact ⟨some km, seen'.push e'.born, .inr ⟨m, km, dm, rfl, hρm, rfl⟩, fun b => by rw [mem_insL, ← b3, ← g4]; simp [or_comm], by rw [head_insL, ← b3]; simp, rfl, World.putObj_heap_same (by rw [c3]; exact hlow)⟩) (.inl (hrun1 e' h1)) (by
              intro w' gw
              rw [b1]
              have := VRL.cons (VR.bool (ρ := ρ) (w := w') true) (VRL.cons (VR.flatd 1 q0) (VRL.cons (b2.grow gw) VRL.nil))
              exact .tuple _ _ this.len this.at_)
            cases e5
            refine ⟨_, _, _, ?_, rest⟩
            cases (oldD (leftD p.1 seen) since).isEmpty with
            | true => exact List.mem_cons_of_mem _ q2
            | false => exact q2
  · rename_i s pos hb
    cases isS with
    | false => cases ho
    | true =>
      simp only [cond_true] at ho
      obtain ⟨k', d', g1, g2⟩ := hr.at_ r _ hb
      rw [hk] at g1
      cases g1
      obtain ⟨rfl, g6⟩ := g2
      have hnit : ∀ cs el fr, (Obj.stringIter s pos) ≠ .cells cs el fr := fun _ _ _ e => by cases e
      have hss : s.size = s.data.toList.length := ByteArray.size_list s
      unfold nextS at ho
      cases hlt : Nat.blt pos s.data.toList.length with
      | false =>
        rw [hlt] at ho
        cases ho
        refine goes_over hr (List.mem_singleton.2 rfl) ?_ (.refl w) rfl
        have hn : ¬ pos < s.size := by rw [hss]; exact blt_f hlt
        rw [he]
        simp only [Instr.next, Sem.run_bind, run_getO g6 hnit, Result.andThen, Sem.run_pure, if_neg hn]
      | true =>
        rw [hlt] at ho
        simp only [cond_true] at ho
        obtain ⟨q, q1, rfl⟩ := Option.map_eq_some_iff.1 ho
        have hn : pos < s.size := by rw [hss]; exact blt_t hlt
        refine goes_out1 (goes_putO (v' := .tuple #[.bool true, .int .i64 pos, .int .i32 (Utf8.decode s pos).1]) (ob' := .stringIter s (pos + (Utf8.decode s pos).2)) hr hb hk q1 g6 hnit (.refl w) rfl ⟨rfl, World.putObj_heap_same (hr.low _ _ _ hk)⟩ (.inl ?_) (fun w' gw => ?_))
        · rw [he]
          simp only [Instr.next, Sem.run_bind, run_getO g6 hnit, Result.andThen, Sem.run_pure, if_pos hn, run_setO _ g6 hnit, goInt]
        · have := VRL.cons (VR.bool (ρ := ρ) (w := w') true) (VRL.cons (.int .i64 pos) (VRL.cons (.int .i32 (Utf8.decode s pos).1) VRL.nil))
          exact .tuple _ _ this.len this.at_
  · cases ho
theorem ERL.find {s : Nat} {e : Ent} : ∀ {es : List Ent} {es' : List MapEntry}, ERL ρ w es es' → es.find? (fun e => Nat.beq e.2.2 s) = some e → ∃ e', es'.find? (fun e => e.born == s) = some e' ∧ e'.key = e.1 ∧ VR ρ w e.2.1 e'.val
  | [], es', he, hf => by simp at hf
  | x :: es, l, he, hf => by
    obtain ⟨x', es', rfl, h1, h2⟩ := he.cases_cons
    cases hb : Nat.beq x.2.2 s with
    | true =>
      rw [List.find?_cons_of_pos (by simpa using hb)] at hf
      cases hf
      refine ⟨x', List.find?_cons_of_pos ?_, h1.1, h1.2.1⟩
      rw [h1.2.2, beq_t hb]
      simp
    | false =>
      rw [List.find?_cons_of_neg (by simp [hb])] at hf
      obtain ⟨e', g1, g2⟩ := ERL.find h2 hf
      refine ⟨e', ?_, g2⟩
      rw [List.find?_cons_of_neg]
      · exact g1
      · rw [h1.2.2]
        intro hh
        have hh := eq_of_beq hh
        rw [hh] at hb
        simp at hb
theorem run_entryD (hr : Rel base c.n0 ρ h.t.get w) {it y v : Value} (hv : entryD h it = some v) (hx : VR ρ w it y) : ∃ v', (Instr.entry y).run c.P w = .ok v' w ∧ VR ρ w v v' := by
  unfold entryD at hv
  obtain ⟨r, e1, hv⟩ := Option.bind_eq_some_iff.1 hv
  obtain ⟨k, d, hk, rfl⟩ := ptrN_VR e1 hx
  split at hv
  · rename_i m since s rest last hb
    obtain ⟨p, e2, hv⟩ := Option.bind_eq_some_iff.1 hv
    obtain ⟨k', d', g1, g2⟩ := hr.at_ r _ hb
    rw [hk] at g1
    cases g1
    obtain ⟨m', seen', g3, g4, g4b, g5, g6⟩ := g2
    subst g5
    rcases g3 with ⟨hh, _⟩ | ⟨x, km, dm, hh, hρm, rfl⟩
    · cases hh
    · cases hh
      obtain ⟨es', a1, a2⟩ := map_block hr e2 hρm
      cases e3 : Nat.beq p.2 last with
      | false => rw [e3] at hv; cases hv
      | true =>
        rw [e3] at hv
        simp only [cond_true] at hv
        obtain ⟨e, e4, hv⟩ := Option.bind_eq_some_iff.1 hv
        cases e5 : pfd 1 e.1 with
        | false => rw [e5] at hv; cases hv
        | true =>
          rw [e5] at hv
          cases hv
          obtain ⟨e', f1, f2, f3⟩ := a2.find e4
          have hnit : ∀ cs el fr, (Obj.mapIter (some km) since seen' last) ≠ .cells cs el fr := fun _ _ _ e => by cases e
          have hst : (p.2 != last) = false := by rw [beq_t e3]; simp
          have hfi : es'.find? (fun e => e.born == s) = some e' := by rw [← f1]; cases es'; simp
          refine ⟨.tuple #[e'.key, e'.val], ?_, ?_⟩
          · unfold Instr.entry
            simp only [Sem.run_bind, run_getO g6 hnit, Result.andThen, g4b, List.head?_cons, run_getMap a1, hst, Bool.false_eq_true, if_false, hfi, Sem.run_pure]
          · rw [f2]
            have := VRL.cons (VR.flatd (ρ := ρ) (w := w) 1 e5) (VRL.cons f3 VRL.nil)
            exact .tuple _ _ this.len this.at_
  · cases hv
end
end Go.Proofs.YthilbhbnimfcmaaDx
