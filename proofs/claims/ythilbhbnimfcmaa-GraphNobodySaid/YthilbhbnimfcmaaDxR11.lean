/- A part of the proof that the interpreter of YthilbhbnimfcmaaDxDx is sound: what it computes of a call, the call comes to in the model. No condition beyond those that each theorem names. -/
import Derived.Test.YthilbhbnimfcmaaDxR10h
namespace Go.Proofs.YthilbhbnimfcmaaDx
open Go
set_option linter.unusedVariables false
set_option linter.unusedSimpArgs false
section
variable {c : Cfg} {base : Nat} {ρ : Emb} {h : Hp} {w : World} {T : Tm} {a : Act} {outs : List Out}

theorem pick_VR {v : Bool} {x y x' y' : Value} (hx : VR ρ w x x') (hy : VR ρ w y y') : VR ρ w (pickV v x y) (if v then x' else y') := by
  unfold pickV
  split
  · cases hx; cases hy; cases v <;> constructor
  · cases v
    · simpa using hy
    · simpa using hx
theorem bindS {α β : Type} {x : Option α} {f : α → Option β} {y : β} (h : x.bind f = some y) : ∃ a, x = some a ∧ f a = some y := Option.bind_eq_some_iff.1 h
theorem evo_OV {x : Option Operand} {v : Option Value} (hx : ∀ y, x = some y → EV c ρ w T a y) (h : evo c T x = some v) : OV ρ w v (x.map a.eval) := by
  cases x with
  | none => cases h; trivial
  | some x =>
    obtain ⟨u, h1, rfl⟩ := Option.map_eq_some_iff.1 h
    exact hx x rfl u h1

set_option maxHeartbeats 4000000 in
/-- An operation that calls nothing. -/
theorem run_binV (hc : CfgOk c) {op : BinOp} {t : TypeId} {x y x' y' : Value} {v : Value} (X Y : Operand) (hb : binV c op t X Y x y = some v) (hx : VR ρ w x x') (hy : VR ρ w y y') :
    ∃ v', (do eqGuard op t X Y x' y'; binOp op t x' y').run c.P w = .ok v' w ∧ VR ρ w v v' := by
  unfold binV at hb
  split at hb
  · rename_i u hn
    cases hb
    unfold nilD at hn
    have key : ∀ (r : Bool) ms, nilI x y = some r → c.und t = some (.interface ms) → (Op.equal t x' y').run c.P w = .ok r w ∧ (∀ op, (constO X || constO Y) = true → (eqGuard op t X Y x' y').run c.P w = .ok () w) ∧ binOp .eql t x' y' = (do pure (.bool (← Op.equal t x' y'))) ∧ binOp .neq t x' y' = (do pure (.bool (!(← Op.equal t x' y')))) := by
      intro r ms hr hu
      have heq : ∀ a b, ((a = .nilIface ∧ b = .nilIface ∧ r = true) ∨ (∃ t v, a = .iface t v ∧ b = .nilIface ∧ r = false) ∨ (∃ t v, a = .nilIface ∧ b = .iface t v ∧ r = false)) → (Op.equal t a b).run c.P w = .ok r w ∧ (∀ op, (constO X || constO Y) = true → (eqGuard op t X Y a b).run c.P w = .ok () w) ∧ binOp .eql t a b = (do pure (.bool (← Op.equal t a b))) ∧ binOp .neq t a b = (do pure (.bool (!(← Op.equal t a b)))) := by
        intro a b hab
        refine ⟨?_, fun op hco => ?_, ?_, ?_⟩
        · show (Op.equalIn (9999 + 1) t a b).run c.P w = _
          unfold Op.equalIn
          rcases hab with ⟨rfl, rfl, rfl⟩ | ⟨_, _, rfl, rfl, rfl⟩ | ⟨_, _, rfl, rfl, rfl⟩ <;> (simp only [Sem.run_bind, run_und hc hu, Result.andThen]; rfl)
        · rcases hab with ⟨rfl, rfl, rfl⟩ | ⟨_, _, rfl, rfl, rfl⟩ | ⟨_, _, rfl, rfl, rfl⟩ <;> first | (cases op <;> rfl) | (cases X <;> cases Y <;> first | (cases hco; done) | (cases op <;> rfl))
        · rcases hab with ⟨rfl, rfl, rfl⟩ | ⟨_, _, rfl, rfl, rfl⟩ | ⟨_, _, rfl, rfl, rfl⟩ <;> rfl
        · rcases hab with ⟨rfl, rfl, rfl⟩ | ⟨_, _, rfl, rfl, rfl⟩ | ⟨_, _, rfl, rfl, rfl⟩ <;> rfl
      refine heq x' y' ?_
      unfold nilI at hr
      split at hr
      · cases hr; cases hx; cases hy; exact .inl ⟨rfl, rfl, rfl⟩
      · cases hr; cases hx; cases hy; exact .inr (.inl ⟨_, _, rfl, rfl, rfl⟩)
      · cases hr; cases hx; cases hy; exact .inr (.inr ⟨_, _, rfl, rfl, rfl⟩)
      · cases hr
    split at hn
    · rename_i ms hu
      cases hco : (constO X || constO Y) with
      | false => rw [hco] at hn; cases hn
      | true =>
        rw [hco] at hn
        obtain ⟨r, h1, rfl⟩ := Option.map_eq_some_iff.1 hn
        obtain ⟨k1, k2, k3, k4⟩ := key r ms h1 hu
        refine ⟨.bool r, ?_, .bool r⟩
        rw [Sem.run_bind, k2 _ hco, k3]
        simp only [Result.andThen, Sem.run_bind, k1]
        rfl
    · rename_i ms hu
      cases hco : (constO X || constO Y) with
      | false => rw [hco] at hn; cases hn
      | true =>
        rw [hco] at hn
        obtain ⟨r, h1, rfl⟩ := Option.map_eq_some_iff.1 hn
        obtain ⟨k1, k2, k3, k4⟩ := key r ms h1 hu
        refine ⟨.bool (!r), ?_, .bool _⟩
        rw [Sem.run_bind, k2 _ hco, k4]
        simp only [Result.andThen, Sem.run_bind, k1]
        rfl
    · cases hn
  · exact run_binD hc X Y hb hx hy
set_option maxHeartbeats 2000000 in
theorem opP_goes (hc : CfgOk c) (o : Oper) (hr : Rel base c.n0 ρ h.t.get w) (hev : ∀ x ∈ o.op.operands.toList, EV c ρ w T a x) (ho : opP c T h o = some outs) (hfree : ∀ v h' W, (v, h', W) ∈ outs → Free ρ h.n h'.n) :
    Goes c base ρ h w outs ((execOp a.eval o).run c.P w) := by
  obtain ⟨dst, op, ty, pos, after, guard⟩ := o
  cases op with
  | move x =>
    exact Goes.pureV ho hr (fun v hv => ⟨a.eval x, rfl, hev x (by simp [Op.operands]) v hv⟩)
  | assign x =>
    exact Goes.pureV ho hr (fun v hv => ⟨a.eval x, rfl, hev x (by simp [Op.operands]) v hv⟩)
  | pick q x y =>
    simp only [opP] at ho
    replace ho := bindS ho
    obtain ⟨qv, e1, ho⟩ := ho
    replace ho := bindS ho
    obtain ⟨xv, e2, ho⟩ := ho
    replace ho := bindS ho
    obtain ⟨yv, e3, ho⟩ := ho
    have v1 := hev q (by simp [Op.operands]) _ e1
    have v2 := hev x (by simp [Op.operands]) _ e2
    have v3 := hev y (by simp [Op.operands]) _ e3
    split at ho
    · rename_i b
      generalize hq : a.eval q = qe at v1
      cases v1
      refine Goes.pureV ho hr (fun v hv => ⟨if b then a.eval x else a.eval y, ?_, ?_⟩)
      · simp [execOp, asBool, hq, Sem.run_pure]
      · cases hv; exact pick_VR v2 v3
    · cases ho
  | alloc e =>
    simp only [opP] at ho
    replace ho := bindS ho
    obtain ⟨z, e1, ho⟩ := ho
    have hz : VRL ρ w (cellsOfV z) z.cells.toList := (VR.flatd 2 (hc.zer e z e1).2).cells
    refine Goes.new (w1 := w) (cs' := z.cells) (el := e) (fr := (0, 0)) (v' := .pointer (some ⟨w.heap.size, 0, none⟩)) ho hr hfree (.refl w) rfl hz.take_all (fun j hj hh => by simp at hh) ?_ (fun ρ' w' hρ hcl => ?_)
    · simp [execOp, Instr.alloc, Sem.run_bind, run_zero hc e1, Result.andThen, newVar, newRow, newObj, Sem.run]
    · exact .ptr h.n 0 _ 0 hρ
  | box e x =>
    simp only [opP] at ho
    replace ho := bindS ho
    obtain ⟨v, e1, ho⟩ := ho
    have v1 := hev x (by simp [Op.operands]) _ e1
    refine Goes.new (w1 := w) (cs' := (a.eval x).cells) (el := e) (fr := (0, 0)) (v' := .pointer (some ⟨w.heap.size, 0, none⟩)) ho hr hfree (.refl w) rfl v1.cells.take_all (fun j hj hh => by simp at hh) ?_ (fun ρ' w' hρ hcl => ?_)
    · simp [execOp, Instr.box, Sem.run_bind, Result.andThen, newVar, newRow, newObj, Sem.run]
    · exact .ptr h.n 0 _ 0 hρ
  | build t ps =>
    simp only [opP] at ho
    replace ho := bindS ho
    obtain ⟨vs, e1, ho⟩ := ho
    have hp := valOps_PR (c := c) (ρ := ρ) (w := w) (T := T) (a := a) ps.toList vs (fun p hp => hev p.2 (by simp [Op.operands]; exact ⟨p.1, by simpa using hp⟩)) e1
    refine Goes.pureV ho hr (fun v hv => ?_)
    obtain ⟨v', f1, f2⟩ := run_build hc (ps := ps.map fun (i, x) => (i, a.eval x)) (by simpa using hp) hv
    exact ⟨v', by simp only [execOp, Sem.run_bind, f1, Result.andThen]; rfl, f2⟩
  | buildSlice t n ps =>
    simp only [opP] at ho
    replace ho := bindS ho
    obtain ⟨vs, e1, ho⟩ := ho
    have hp := valOps_PR (c := c) (ρ := ρ) (w := w) (T := T) (a := a) ps.toList vs (fun p hp => hev p.2 (by simp [Op.operands]; exact ⟨p.1, by simpa using hp⟩)) e1
    exact goes_buildSlice hc hr (ps := ps.map fun (i, x) => (i, a.eval x)) (by simpa using hp) ho hfree rfl
  | load t x =>
    simp only [opP] at ho
    replace ho := bindS ho
    obtain ⟨v, e1, ho⟩ := ho
    have v1 := hev x (by simp [Op.operands]) _ e1
    refine Goes.pureV ho hr (fun u hu => ?_)
    have hu' := hu
    unfold loadD at hu'
    split at hu'
    · obtain ⟨k, d, v', f1, f2, f3⟩ := run_loadVar hc hr v1 hu
      exact ⟨v', by simp only [execOp, Instr.loadAt, f1, Instr.sureAddr, Sem.run_bind, Sem.run_pure, Result.andThen, f2], f3⟩
    · cases hu'
  | store t x y =>
    simp only [opP] at ho
    replace ho := bindS ho
    obtain ⟨v, e1, ho⟩ := ho
    replace ho := bindS ho
    obtain ⟨u, e2, ho⟩ := ho
    replace ho := bindS ho
    obtain ⟨s, e3, ho⟩ := ho
    have v1 := hev x (by simp [Op.operands]) _ e1
    have v2 := hev y (by simp [Op.operands]) _ e2
    split at ho
    · rename_i b o
      cases e4 : Nat.beq (cellsOfV u).length s with
      | false => rw [e4] at ho; cases ho
      | true =>
        rw [e4] at ho
        simp only [cond_true] at ho
        obtain ⟨p, e5, rfl⟩ := Option.map_eq_some_iff.1 ho
        have hls := beq_t e4
        unfold storeAtD at e5
        obtain ⟨cs, e6, e7⟩ := bindS e5
        cases e8 : (Nat.ble c.n0 b && Nat.blt b lim && Nat.ble (o + (cellsOfV u).length) cs.length && (cellsOfV u).all oneC) with
        | false => rw [e8] at e7; cases e7
        | true =>
          rw [e8] at e7
          cases e7
          simp only [Bool.and_eq_true] at e8
          obtain ⟨⟨⟨g1, g2⟩, g3⟩, g4⟩ := e8
          generalize hx : a.eval x = xe at v1
          cases v1 with
          | ptr b o k d hb =>
            obtain ⟨k', d', f1, f2⟩ := hr.at_ b _ (cellsAt_some e6)
            rw [hb] at f1
            cases f1
            obtain ⟨cs', hcl, hlen, hvl⟩ := f2.vrl
            have hvc := v2.cells
            have hl2 := hvc.len
            have h3 := ble_t g3
            have hst := run_storeCells_at' (c := c) (w := w) (k := k) (o := o + d) (cs := cs') (vs := (a.eval y).cells.toList) hcl (by simp at hl2 ⊢; omega) (oneC_all hvc g4)
            have hex := Ext.store (o := o) (vs := cellsOfV u) (vs' := (a.eval y).cells.toList) hr (cellsAt_some e6) hb (ble_t g1) (blt_t g2) h3 hvc
            refine ⟨_, _, _, List.mem_singleton.2 rfl, undef, _, _, .inr ⟨?_, rfl⟩, .undef, hex⟩
            have hsz : ¬ ((a.eval y).cells.size ≠ s) := by simp at hl2 ⊢; omega
            simp only [execOp, Instr.storeAt, hx, Instr.sureAddr, Sem.run_bind, Sem.run_pure, Result.andThen, storeVar, run_size hc e3, if_neg hsz, hst]
    · cases ho
  | nilCheck x =>
    simp only [opP] at ho
    replace ho := bindS ho
    obtain ⟨v, e1, ho⟩ := ho
    have v1 := hev x (by simp [Op.operands]) _ e1
    split at ho
    · rename_i p
      refine Goes.pureV ho hr (fun u hu => ?_)
      cases hu
      generalize hx : a.eval x = xe at v1
      cases v1 with
      | ptr b o k d hb => exact ⟨_, by simp [execOp, hx, Sem.run_pure], .ptr b o k d hb⟩
    · rename_i t p
      refine Goes.pureV ho hr (fun u hu => ?_)
      cases hu
      generalize hx : a.eval x = xe at v1
      cases v1 with
      | iface _ _ y hy => exact ⟨_, by simp [execOp, hx, Sem.run_pure], .iface t _ y hy⟩
    · cases ho
  | binOp op t x y yt =>
    simp only [opP] at ho
    replace ho := bindS ho
    obtain ⟨v, e1, ho⟩ := ho
    replace ho := bindS ho
    obtain ⟨u, e2, ho⟩ := ho
    have v1 := hev x (by simp [Op.operands]) _ e1
    have v2 := hev y (by simp [Op.operands]) _ e2
    refine Goes.pureV ho hr (fun z hz => ?_)
    obtain ⟨v', f1, f2⟩ := run_binV hc x y hz v1 v2
    refine ⟨v', ?_, f2⟩
    simp only [execOp]
    rw [Sem.run_bind, f1]
    rfl
  | unOp op t x =>
    simp only [opP] at ho
    replace ho := bindS ho
    obtain ⟨v, e1, ho⟩ := ho
    have v1 := hev x (by simp [Op.operands]) _ e1
    generalize hx : a.eval x = xe at v1
    split at ho
    · cases v1
      exact Goes.pureV ho hr (fun u hu => by cases hu; exact ⟨_, by simp [execOp, hx, Op.unary, Op.intArith, Sem.run_pure], .int _ _⟩)
    · cases v1
      exact Goes.pureV ho hr (fun u hu => by cases hu; exact ⟨_, by simp [execOp, hx, Op.unary, Sem.run_pure], .bool _⟩)
    · cases ho
  | convert src dst x =>
    simp only [opP] at ho
    replace ho := bindS ho
    obtain ⟨v, e1, ho⟩ := ho
    have v1 := hev x (by simp [Op.operands]) _ e1
    generalize hx : a.eval x = xe at v1
    split at ho
    · rename_i d1 k kk n hs hd
      cases v1
      refine Goes.pureV ho hr (fun u hu => ?_)
      cases hu
      refine ⟨.int k (k.wrap n), ?_, .int _ _⟩
      simp [execOp, hx, convert, Sem.run_bind, run_und hc hs, run_und hc hd, Result.andThen, Conv.intToInt, Sem.run_pure]
    · rename_i d1 s hs hd
      cases v1
      refine Goes.pureV ho hr (fun u hu => ?_)
      cases hu
      refine ⟨.string s, ?_, .string _⟩
      simp [execOp, hx, convert, Sem.run_bind, run_und hc hs, run_und hc hd, Result.andThen, Sem.run_pure]
    · rename_i el s hs hd
      cases v1
      exact goes_bytes hc hs hd hr ho hfree (by simp only [execOp, hx])
    · rename_i el ad n k hs hd
      refine Goes.pureV ho hr (fun u hu => ?_)
      obtain ⟨v', f1, f2⟩ := run_stringD hc hs hd hr v1 hu
      exact ⟨v', by simp only [execOp, hx, Sem.run_bind, f1, Result.andThen]; rfl, f2⟩
    · cases ho
  | makeInterface t x =>
    simp only [opP] at ho
    replace ho := bindS ho
    obtain ⟨v, e1, ho⟩ := ho
    have v1 := hev x (by simp [Op.operands]) _ e1
    split at ho
    · cases ho
    · rename_i d hd hu
      refine Goes.pureV ho hr (fun u hu' => ?_)
      cases hu'
      refine ⟨.iface t (a.eval x), ?_, .iface t _ _ v1⟩
      simp only [execOp, Instr.makeInterface, Sem.run_bind, run_und hc hu, Result.andThen]
      cases d <;> first | rfl | exact absurd rfl (hd _)
    · cases ho
  | makeFunc fn f k =>
    simp only [opP] at ho
    replace ho := bindS ho
    obtain ⟨u, e1, ho⟩ := ho
    replace ho := bindS ho
    obtain ⟨v, e2, ho⟩ := ho
    have v1 := evs_VR (ρ := ρ) (w := w) (a := a) f.toList u (fun x hx => hev x (by simp [Op.operands]; exact .inl (by simpa using hx))) e1
    have v2 := evs_VR (ρ := ρ) (w := w) (a := a) k.toList v (fun x hx => hev x (by simp [Op.operands]; exact .inr (by simpa using hx))) e2
    cases hny : noY fn with
    | false => rw [hny] at ho; cases ho
    | true =>
      rw [hny] at ho
      refine Goes.pureV ho hr (fun z hz => ?_)
      cases hz
      exact ⟨.func fn (f.map a.eval) (k.map a.eval), rfl, .func fn (fun l e => by subst e; cases hny) _ _ _ _ (by simpa using v1.len) (fun i x y hx hy => v1.at_ i x y hx (by simpa using hy)) (by simpa using v2.len) (fun i x y hx hy => v2.at_ i x y hx (by simpa using hy))⟩
  | makeSlice t l u =>
    simp only [opP] at ho
    replace ho := bindS ho
    obtain ⟨v, e1, ho⟩ := ho
    replace ho := bindS ho
    obtain ⟨x, e2, ho⟩ := ho
    have v1 := hev l (by simp [Op.operands]) _ e1
    have v2 := hev u (by simp [Op.operands]) _ e2
    exact goes_makeSlice hc hr v1 v2 ho hfree rfl
  | slice t x lo hi mx =>
    simp only [opP] at ho
    split at ho
    · cases ho
    · replace ho := bindS ho
      obtain ⟨v, e1, ho⟩ := ho
      replace ho := bindS ho
      obtain ⟨l, e2, ho⟩ := ho
      replace ho := bindS ho
      obtain ⟨u, e3, ho⟩ := ho
      have v1 := hev x (by simp [Op.operands]) _ e1
      have v2 := evo_OV (fun y hy => hev y (by subst hy; simp [Op.operands])) e2
      have v3 := evo_OV (fun y hy => hev y (by subst hy; simp [Op.operands])) e3
      refine Goes.pureV ho hr (fun z hz => ?_)
      obtain ⟨v', f1, f2⟩ := run_sliceD hc hz v1 v3 v2
      refine ⟨v', ?_, f2⟩
      simp only [execOp, Sem.run_bind, Option.map_none]
      rw [f1]
      rfl
  | fieldAddr s x f =>
    simp only [opP] at ho
    replace ho := bindS ho
    obtain ⟨v, e1, ho⟩ := ho
    have v1 := hev x (by simp [Op.operands]) _ e1
    generalize hx : a.eval x = xe at v1
    split at ho
    · rename_i fs b o hu
      replace ho := bindS ho
      obtain ⟨fd, e2, ho⟩ := ho
      replace ho := bindS ho
      obtain ⟨n, e3, ho⟩ := ho
      cases e4 : Nat.beq n 0 with
      | true => rw [e4] at ho; cases ho
      | false =>
        rw [e4] at ho
        simp only [cond_false] at ho
        have hn0 : n ≠ 0 := fun e => by subst e; simp at e4
        cases v1 with
        | ptr b o k d hb =>
          refine Goes.pureV ho hr (fun z hz => ?_)
          cases hz
          refine ⟨.pointer (some ⟨k, o + fd.offset + d, none⟩), ?_, .ptr b _ k d hb⟩
          have hadd : (⟨k, o + d, none⟩ : Addr).add fd.offset = ⟨k, o + fd.offset + d, none⟩ := by rw [Addr.add_off]; congr 1; omega
          simp only [execOp, Instr.fieldAt, hx, Sem.run_bind, run_und hc hu, Result.andThen, e2, Instr.sureAddr, Sem.run_pure, fieldPlace, run_size hc e3, if_neg hn0, hadd]
    · cases ho
  | field t x f =>
    simp only [opP] at ho
    replace ho := bindS ho
    obtain ⟨v, e1, ho⟩ := ho
    have v1 := hev x (by simp [Op.operands]) _ e1
    generalize hx : a.eval x = xe at v1
    split at ho
    · rename_i fs cs hu
      replace ho := bindS ho
      obtain ⟨fd, e2, ho⟩ := ho
      cases v1 with
      | agg _ ys a1 a2 =>
        refine Goes.pureV ho hr (fun z hz => ?_)
        obtain ⟨v', f1, f2⟩ := run_part hc (⟨a1, a2⟩ : VRL ρ w cs.toList ys.toList) hz w
        refine ⟨v', ?_, f2⟩
        simp only [execOp, Instr.field, hx, Sem.run_bind, run_und hc hu, Result.andThen, e2, asAgg, Sem.run_pure, f1]
    · cases ho
  | indexAddr t x i =>
    simp only [opP] at ho
    replace ho := bindS ho
    obtain ⟨v, e1, ho⟩ := ho
    replace ho := bindS ho
    obtain ⟨u, e2, ho⟩ := ho
    have v1 := hev x (by simp [Op.operands]) _ e1
    have v2 := hev i (by simp [Op.operands]) _ e2
    refine Goes.pureV ho hr (fun z hz => ?_)
    obtain ⟨v', f1, f2⟩ := run_indexAddrD hc hz v1 v2
    exact ⟨v', by simp only [execOp, Sem.run_bind, f1, Result.andThen]; rfl, f2⟩
  | index t x i =>
    simp only [opP] at ho
    replace ho := bindS ho
    obtain ⟨v, e1, ho⟩ := ho
    replace ho := bindS ho
    obtain ⟨u, e2, ho⟩ := ho
    have v1 := hev x (by simp [Op.operands]) _ e1
    have v2 := hev i (by simp [Op.operands]) _ e2
    refine Goes.pureV ho hr (fun z hz => ?_)
    obtain ⟨v', f1, f2⟩ := run_indexD hc hz v1 v2
    exact ⟨v', by simp only [execOp, Sem.run_bind, f1, Result.andThen]; rfl, f2⟩
  | extract t i =>
    simp only [opP] at ho
    replace ho := bindS ho
    obtain ⟨v, e1, ho⟩ := ho
    have v1 := hev t (by simp [Op.operands]) _ e1
    generalize hx : a.eval t = xe at v1
    split at ho
    · cases v1 with
      | tuple _ ys a1 a2 =>
        refine Goes.pureV ho hr (fun z hz => ?_)
        rw [nth_eq] at hz
        obtain ⟨y, f1, f2⟩ := VRL.get (⟨a1, a2⟩ : VRL ρ w _ ys.toList) hz
        have f1' : ys[i]? = some y := by simpa using f1
        refine ⟨y, ?_, f2⟩
        simp [execOp, Instr.extract, hx, f1', Sem.run_pure]
    · cases ho
  | makeMap t r =>
    simp only [opP] at ho
    replace ho := bindS ho
    obtain ⟨v, e1, ho⟩ := ho
    have v1 := evo_OV (fun y hy => hev y (by subst hy; simp [Op.operands])) e1
    exact goes_makeMap hc hr v1 ho hfree rfl
  | lookup t x i ok =>
    simp only [opP] at ho
    replace ho := bindS ho
    obtain ⟨v, e1, ho⟩ := ho
    replace ho := bindS ho
    obtain ⟨u, e2, ho⟩ := ho
    have v1 := hev x (by simp [Op.operands]) _ e1
    have v2 := hev i (by simp [Op.operands]) _ e2
    refine Goes.pureV ho hr (fun z hz => ?_)
    obtain ⟨v', f1, f2⟩ := run_lookupD hc hr hz v1 v2
    exact ⟨v', by simp only [execOp, Sem.run_bind, f1, Result.andThen]; rfl, f2⟩
  | mapUpdate t m k x =>
    simp only [opP] at ho
    replace ho := bindS ho
    obtain ⟨v, e1, ho⟩ := ho
    replace ho := bindS ho
    obtain ⟨u, e2, ho⟩ := ho
    replace ho := bindS ho
    obtain ⟨y, e3, ho⟩ := ho
    exact goes_mapUpdate hc hr (hev m (by simp [Op.operands]) _ e1) (hev k (by simp [Op.operands]) _ e2) (hev x (by simp [Op.operands]) _ e3) ho rfl
  | insert t m k x =>
    simp only [opP] at ho
    replace ho := bindS ho
    obtain ⟨v, e1, ho⟩ := ho
    replace ho := bindS ho
    obtain ⟨u, e2, ho⟩ := ho
    replace ho := bindS ho
    obtain ⟨y, e3, ho⟩ := ho
    exact goes_mapUpdate hc hr (hev m (by simp [Op.operands]) _ e1) (hev k (by simp [Op.operands]) _ e2) (hev x (by simp [Op.operands]) _ e3) ho rfl
  | mapEntry t m k =>
    simp only [opP] at ho
    replace ho := bindS ho
    obtain ⟨v, e1, ho⟩ := ho
    replace ho := bindS ho
    obtain ⟨u, e2, ho⟩ := ho
    exact goes_mapEntry hc hr (hev m (by simp [Op.operands]) _ e1) (hev k (by simp [Op.operands]) _ e2) ho rfl
  | entryStore t m s x =>
    simp only [opP] at ho
    replace ho := bindS ho
    obtain ⟨v, e1, ho⟩ := ho
    replace ho := bindS ho
    obtain ⟨u, e2, ho⟩ := ho
    replace ho := bindS ho
    obtain ⟨y, e3, ho⟩ := ho
    exact goes_entryStore hc hr (hev m (by simp [Op.operands]) _ e1) (hev s (by simp [Op.operands]) _ e2) (hev x (by simp [Op.operands]) _ e3) ho rfl
  | range t x =>
    simp only [opP] at ho
    replace ho := bindS ho
    obtain ⟨v, e1, ho⟩ := ho
    exact goes_range hc hr (hev x (by simp [Op.operands]) _ e1) ho hfree rfl
  | next it isS =>
    simp only [opP] at ho
    replace ho := bindS ho
    obtain ⟨v, e1, ho⟩ := ho
    exact goes_next hc hr (hev it (by simp [Op.operands]) _ e1) ho rfl
  | entry it =>
    simp only [opP] at ho
    replace ho := bindS ho
    obtain ⟨v, e1, ho⟩ := ho
    refine Goes.pureV ho hr (fun z hz => ?_)
    obtain ⟨v', f1, f2⟩ := run_entryD hr hz (hev it (by simp [Op.operands]) _ e1)
    exact ⟨v', by simp only [execOp, Sem.run_bind, f1, Result.andThen]; rfl, f2⟩
  | call q =>
    simp only [opP] at ho
    replace ho := bindS ho
    obtain ⟨args, e1, ho⟩ := ho
    obtain ⟨callee, qa, qt⟩ := q
    cases callee with
    | value f => cases ho
    | invoke r m => cases ho
    | builtin b =>
      have v1 := evs_VR (ρ := ρ) (w := w) (a := a) qa.toList args (fun x hx => hev x (by simp [Op.operands, Call.operands]; simpa using hx)) e1
      simp only at ho
      unfold builtinD at ho
      split at ho
      · rename_i t x hts
        obtain rfl : qt = #[t] := by simpa using congrArg List.toArray hts
        obtain ⟨y, l', hm, hv, hl⟩ := v1.cases_cons
        obtain rfl := hl.cases_nil
        have hq : qa.map a.eval = #[y] := Array.ext' (by rw [Array.toList_map]; exact hm)
        refine Goes.pureV ho hr (fun z hz => ?_)
        obtain ⟨f1, f2⟩ := run_lenD (ty := ty) hc hr hz hv
        refine ⟨z, ?_, f2⟩
        simp only [execOp, resolve, Sem.run_bind, Sem.run_pure, Result.andThen, invoke, builtin, hq, f1]
      · rename_i t u s x hts
        obtain rfl : qt = #[t, u] := by simpa using congrArg List.toArray hts
        obtain ⟨y, l', hm, hv, hl⟩ := v1.cases_cons
        obtain ⟨y2, l2, rfl, hv2, hl2⟩ := hl.cases_cons
        obtain rfl := hl2.cases_nil
        have hq : qa.map a.eval = #[y, y2] := Array.ext' (by rw [Array.toList_map]; exact hm)
        cases hit : isIntT (c.und u) with
        | true =>
          rw [hit] at ho
          refine goes_appendZ (ty := ty) hc hit hr hv hv2 ho hfree ?_
          simp only [execOp, resolve, Sem.run_bind, Sem.run_pure, Result.andThen, invoke, builtin, hq]
        | false =>
          rw [hit] at ho
          refine goes_append (ty := ty) hc hr hv hv2 ho hfree ?_
          simp only [execOp, resolve, Sem.run_bind, Sem.run_pure, Result.andThen, invoke, builtin, hq]
      · rename_i t hts
        obtain rfl : qt = #[t] := by simpa using congrArg List.toArray hts
        obtain ⟨y, l', hm, hv, hl⟩ := v1.cases_cons
        obtain rfl := hl.cases_nil
        have hq : qa.map a.eval = #[y] := Array.ext' (by rw [Array.toList_map]; exact hm)
        cases hv
        refine Goes.pureV ho hr (fun z hz => ?_)
        split at hz
        · rename_i el hu
          cases hz
          refine ⟨.int .i64 0, ?_, .int _ _⟩
          simp [execOp, resolve, Sem.run_bind, Sem.run_pure, Result.andThen, invoke, builtin, hq, Builtin.cap_, run_und hc hu, goInt]
        · cases hz
      · rename_i t u s x hts
        obtain rfl : qt = #[t, u] := by simpa using congrArg List.toArray hts
        obtain ⟨y, l', hm, hv, hl⟩ := v1.cases_cons
        obtain ⟨y2, l2, rfl, hv2, hl2⟩ := hl.cases_cons
        obtain rfl := hl2.cases_nil
        have hq : qa.map a.eval = #[y, y2] := Array.ext' (by rw [Array.toList_map]; exact hm)
        refine goes_copy (t2 := u) (ty := ty) hc hr hv hv2 ho ?_
        simp only [execOp, resolve, Sem.run_bind, Sem.run_pure, Result.andThen, invoke, builtin, hq]
      · rename_i t tys m k hts
        obtain rfl : qt = (t :: tys).toArray := by simpa using congrArg List.toArray hts
        obtain ⟨y, l', hm, hv, hl⟩ := v1.cases_cons
        obtain ⟨y2, l2, rfl, hv2, hl2⟩ := hl.cases_cons
        obtain rfl := hl2.cases_nil
        have hq : qa.map a.eval = #[y, y2] := Array.ext' (by rw [Array.toList_map]; exact hm)
        refine goes_delete (tys := tys) (ty := ty) hc hr hv hv2 ho ?_
        simp only [execOp, resolve, Sem.run_bind, Sem.run_pure, Result.andThen, invoke, builtin, hq]
      · rename_i x r
        obtain ⟨y, l', hm, hv, hl⟩ := v1.cases_cons
        have hq : (qa.map a.eval).toList = y :: l' := by simpa using hm
        refine Goes.pureV ho hr (fun z hz => ?_)
        obtain ⟨v', f1, f2⟩ := run_minmax (c := c) true r x z l' y hz hv hl
        refine ⟨v', ?_, f2⟩
        simp only [if_true] at f1
        simp only [execOp, resolve, Sem.run_bind, Sem.run_pure, Result.andThen, invoke, builtin, Builtin.max_, hq, f1]
      · rename_i x r
        obtain ⟨y, l', hm, hv, hl⟩ := v1.cases_cons
        have hq : (qa.map a.eval).toList = y :: l' := by simpa using hm
        refine Goes.pureV ho hr (fun z hz => ?_)
        obtain ⟨v', f1, f2⟩ := run_minmax (c := c) false r x z l' y hz hv hl
        refine ⟨v', ?_, f2⟩
        simp only [Bool.false_eq_true, if_false] at f1
        simp only [execOp, resolve, Sem.run_bind, Sem.run_pure, Result.andThen, invoke, builtin, Builtin.min_, hq, f1]
      · cases ho
  | _ => cases ho
end
end Go.Proofs.YthilbhbnimfcmaaDx
