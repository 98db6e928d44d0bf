/- A part of the proof of this claim. No condition beyond those that each theorem names. -/
import Derived.Test.YtaiokpmmjbiajaaGreatDoorJD0
import Derived.Test.YtaiokpmmjbiajaaGreatDoorJD1
import Derived.Lib.LaidIn
import Derived.Lib.LaidU8
import Derived.IntWalk
import Derived.Test.YtaiokpmmjbiajaaGreatDoorJShelf
import Derived.Below
import Derived.WalkSmall
import Derived.Lib.ItoaMem
import Derived.Lib.AppendIntMem
import Derived.Shelf.Unicode.DecodeSlow
import Derived.KernelRfl
import Derived.Deep.Strs
import Derived.Deep.Slices
import Derived.OpenShut
import Derived.SizedLaws
import Derived.DataShut
import Derived.Lib.SmallJoins
import Derived.Test.YtaiokpmmjbiajaaGreatDoorProg
set_option linter.unusedVariables false
set_option linter.unusedSimpArgs false
namespace Go.Proofs.YtaiokpmmjbiajaaGreatDoorDx
section
open Go
inductive GT (α : Type) where
 | out (x : α)
 | no
 | br (b : Bool) (t f : GT α)
def GT.eval {α : Type} : GT α → Option α
 | .out x => some x
 | .no => none
 | .br b t f => bif b then t.eval else f.eval
def GT.kont {α β : Type} (K : α → Option β) : GT α → Option β
 | .out x => K x
 | .no => none
 | .br b t f => bif b then t.kont K else f.kont K
def GT.need {α : Type} (b : Bool) (t : GT α) : GT α := .br b t .no
inductive TK where
 | i (k : IntKind)
 | s
 | b
def scTK : Option TypeDesc → Option TK
 | some (.int k) => some (.i k)
 | some .string => some .s
 | some .bool => some .b
 | _ => none
def fldsTK (f : TypeId → Option (List TK)) : List Field → Option (List TK)
 | [] => some []
 | fd :: r => (f fd.type).bind fun a => (fldsTK f r).map fun l => a ++ l
def cellsTK (c : Cfg) : Nat → TypeId → Option (List TK)
 | 0, _ => none
 | n + 1, t => match c.und t with
  | some (.struct fs) => fldsTK (cellsTK c n) fs.toList
  | d => (scTK d).map fun k => [k]
def rdI (cs : List Value) (o : Nat) : Int := match nth cs o with
 | some (.int _ x) => x
 | _ => 0
def rdS (cs : List Value) (o : Nat) : ByteArray := match nth cs o with
 | some (.string x) => x
 | _ => ⟨#[]⟩
def rdB (cs : List Value) (o : Nat) : Bool := match nth cs o with
 | some (.bool x) => x
 | _ => false
def rdV (cs : List Value) (o : Nat) : TK → Value
 | .i k => .int k (rdI cs o)
 | .s => .string (rdS cs o)
 | .b => .bool (rdB cs o)
def isV (cs : List Value) (o : Nat) : TK → Bool
 | .i k => match nth cs o with
  | some (.int k' _) => decide (k' = k)
  | _ => false
 | .s => match nth cs o with
  | some (.string _) => true
  | _ => false
 | .b => match nth cs o with
  | some (.bool _) => true
  | _ => false
def rdL (cs : List Value) : Nat → List TK → List Value
 | _, [] => []
 | o, k :: r => rdV cs o k :: rdL cs (o + 1) r
def isL (cs : List Value) : Nat → List TK → Bool
 | _, [] => true
 | o, k :: r => isV cs o k && isL cs (o + 1) r
def outV (h : Hp) (v : Value) : GT Out := .out (v, h, [])
def loadG (c : Cfg) (h : Hp) (t : TypeId) (b o : Nat) : Option (GT Out) :=
 (cellsAt h b).bind fun cs => (cellsTK c 9 t).bind fun ks => (isAggD c t).bind fun ag =>
  bif ag then (c.siz t).bind fun n => bif Nat.beq n ks.length && !ks.isEmpty then some (.need (isL cs o ks) (outV h (.agg (rdL cs o ks).toArray))) else none
  else match ks with
   | [k] => some (.need (isV cs o k) (outV h (rdV cs o k)))
   | _ => none
def addrG (c : Cfg) (h : Hp) (t : TypeId) (v : Value) (j : Int) : Option (GT Out) :=
 match c.und t, v with
 | some (.slice el), .slice (some ⟨b, o, none⟩) n _ => (c.siz el).bind fun s => some (.need (decide (0 ≤ j)) (.need (Nat.blt j.toNat n) (outV h (.pointer (some ⟨b, o + j.toNat * s, none⟩)))))
 | some (.array n el), .pointer (some ⟨b, o, none⟩) => (c.siz el).bind fun s => some (.need (decide (0 ≤ j)) (.need (Nat.blt j.toNat n) (outV h (.pointer (some ⟨b, o + j.toNat * s, none⟩)))))
 | _, _ => none
def byteG (c : Cfg) (h : Hp) (t : TypeId) (v : Value) (j : Int) : Option (GT Out) :=
 match c.und t, v with
 | some .string, .string s => some (.need (decide (0 ≤ j)) (.need (Nat.blt j.toNat s.data.toList.length) (outV h (.int .u8 (s.data.toList.getD j.toNat 0).toNat))))
 | _, _ => none
def boundG (x : Option Value) (d m : Nat) : Option (Bool × Nat) :=
 match x with
 | none => some (true, d)
 | some (.int _ i) => some (decide (0 ≤ i) && Nat.ble i.toNat m, i.toNat)
 | _ => none
def sliceG (c : Cfg) (h : Hp) (t : TypeId) (v : Value) (l u : Option Value) : Option (GT Out) :=
 match c.und t, v with
 | some .string, .string s => (boundG u s.data.toList.length s.data.toList.length).bind fun e => (boundG l 0 e.2).bind fun b =>
   some (.need e.1 (.need b.1 (outV h (.string ⟨((s.data.toList.take e.2).drop b.2).toArray⟩))))
 | some (.slice el), .slice none 0 0 => (boundG u 0 0).bind fun e => (boundG l 0 e.2).bind fun b => (c.siz el).bind fun s => some (.need e.1 (.need b.1 (outV h (.slice none 0 0))))
 | some (.slice el), .slice (some ⟨k, o, none⟩) n sz => (boundG u n n).bind fun e => (boundG l 0 e.2).bind fun b => (c.siz el).bind fun s =>
   bif Nat.beq s sz then some (.need e.1 (.need b.1 (outV h (.slice (some ⟨k, o + b.2 * s, none⟩) (e.2 - b.2) sz)))) else none
 | _, _ => none
def storeG (c : Cfg) (h : Hp) (b o : Nat) (vs : List Value) : Option (GT Out) :=
 (cellsAt h b).bind fun cs => bif Nat.ble c.n0 b && Nat.blt b lim && vs.all oneC then some (.need (Nat.ble (o + vs.length) cs.length) (.out (undef, ⟨h.t.put b (some (.cells (puts cs o vs))), h.n⟩, [b]))) else none
def binG (h : Hp) (op : BinOp) (a b : Value) : Option (GT Out) :=
 match op, a, b with
 | .quo, .int k a, .int k' b => bif decide (k = k') then some (.need (!decide (b = 0)) (outV h (.int k (k.wrap (a.tdiv b))))) else none
 | .rem, .int k a, .int k' b => bif decide (k = k') then some (.need (!decide (b = 0)) (outV h (.int k (a.tmod b)))) else none
 | .shl, .int k a, .int _ b => some (.need (!decide (b < 0)) (outV h (.int k (k.wrap (a * 2 ^ (min b.toNat k.bits))))))
 | .shr, .int k a, .int _ b => some (.need (!decide (b < 0)) (outV h (.int k (a.fdiv (2 ^ (min b.toNat k.bits))))))
 | .add, .string a, .string b => some (.need (Nat.ble (a.data.toList.length + b.data.toList.length) 9223372036854775807) (outV h (.string ⟨(a.data.toList ++ b.data.toList).toArray⟩)))
 | _, _, _ => none
def appN (c : Cfg) (h : Hp) (elem : TypeId) (xd : TypeDesc) (t : ByteArray) : Option (GT Out) :=
 bif !isSS xd then none else
  (c.siz elem).bind fun sz => (c.byt elem).bind fun by_ => (c.zer elem).bind fun z =>
  bif Nat.beq sz 0 || Nat.blt 1000000 by_ || !Nat.beq (cellsOfV z).length sz then none else
  bif Nat.beq sz 1 && Nat.blt h.n lim then
   some (.br (Nat.beq t.data.toList.length 0) (outV h (.slice none 0 0)) (.need (Nat.ble (0 + t.data.toList.length) 140737488355328) (.need (Nat.ble ((0 + t.data.toList.length) * by_) 140737488355328) (.need ((t.data.toList.map fun b => Value.int .u8 b.toNat).all oneC)
    (.out (.slice (some ⟨h.n, 0, none⟩) t.data.toList.length sz, ⟨h.t.put h.n (some (.cells (t.data.toList.map fun b => .int .u8 b.toNat))), h.n + 1⟩, []))))))
  else none
def appM (c : Cfg) (h : Hp) (elem : TypeId) (xd : TypeDesc) (b o m : Nat) : Option (GT Out) :=
 bif !isSS xd then none else
  (c.siz elem).bind fun sz => (c.byt elem).bind fun by_ => (c.zer elem).bind fun z => (cellsAt h b).bind fun cs =>
  bif Nat.beq sz 0 || Nat.blt 1000000 by_ || !Nat.beq (cellsOfV z).length sz then none else
  bif Nat.blt h.n lim then
   some (.br (Nat.beq m 0) (outV h (.slice none 0 0)) (.need (Nat.ble (0 + m) 140737488355328) (.need (Nat.ble ((0 + m) * by_) 140737488355328) (.need (Nat.ble (o + m * sz) cs.length) (.need (((cs.drop o).take (m * sz)).all oneC)
    (.out (.slice (some ⟨h.n, 0, none⟩) m sz, ⟨h.t.put h.n (some (.cells ((cs.drop o).take (m * sz)))), h.n + 1⟩, [])))))))
  else none
def appG (c : Cfg) (h : Hp) (st xt : TypeId) (s x : Value) : Option (GT Out) :=
 match c.und st, c.und xt, s with
 | some (.slice elem), some xd, .slice (some ⟨b, o, none⟩) n cz => bif !isSS xd then none else
  (c.siz elem).bind fun sz => (c.byt elem).bind fun by_ => (c.zer elem).bind fun z => (cellsAt h b).bind fun cs =>
  bif Nat.beq sz 0 || Nat.blt 1000000 by_ || !Nat.beq (cellsOfV z).length sz then none else
  (newCells h sz x).bind fun nw => bif Nat.ble c.n0 b && Nat.blt b lim && Nat.blt h.n lim && Nat.beq cz sz then
   some (.br (Nat.beq nw.2 0) (outV h s) (.need (Nat.ble (n + nw.2) 140737488355328) (.need (Nat.ble ((n + nw.2) * by_) 140737488355328) (.need (nw.1.all oneC) (.need (Nat.ble (o + n * sz) cs.length)
    (.out (.slice (some ⟨h.n, 0, none⟩) (n + nw.2) sz, ⟨(h.t.put b none).put h.n (some (.cells ((cs.drop o).take (n * sz) ++ nw.1))), h.n + 1⟩, [b])))))))
   else none
 | some (.slice elem), some xd, .slice none 0 0 => match x with
  | .string t => appN c h elem xd t
  | .slice (some ⟨b, o, none⟩) m _ => appM c h elem xd b o m
  | _ => none
 | _, _, _ => none
def u8Of : Value → UInt8
 | .int .u8 n => UInt8.ofNat n.toNat
 | _ => 0
def isU8 : Value → Bool
 | .int .u8 _ => true
 | _ => false
def u8L (l : List Value) : ByteArray := ⟨(l.map u8Of).toArray⟩
def strG (c : Cfg) (h : Hp) (el : TypeId) (b o n : Nat) : Option (GT Out) :=
 match c.und el with
 | some (.int .u8) => (cellsAt h b).bind fun cs => some (.need (Nat.ble (o + n) cs.length) (.need (((cs.drop o).take n).all isU8) (outV h (.string (u8L ((cs.drop o).take n))))))
 | _ => none
def bytesG (c : Cfg) (h : Hp) (el : TypeId) (s : ByteArray) : Option (GT Out) :=
 match c.und el, c.siz el with
 | some (.int .u8), some 1 => bif Nat.blt h.n lim then some (.need (Nat.ble s.data.toList.length 1000000) (.out (.slice (some ⟨h.n, 0, none⟩) s.data.toList.length 1, ⟨h.t.put h.n (some (.cells (s.data.toList.map fun b => .int .u8 b.toNat))), h.n + 1⟩, []))) else none
 | _, _ => none
def makeG (c : Cfg) (h : Hp) (t : TypeId) (l u : Value) : Option (GT Out) :=
 match c.und t, l, u with
 | some (.slice el), .int _ l, .int _ u => (c.siz el).bind fun s => (c.byt el).bind fun by_ => (c.zer el).bind fun z =>
  bif Nat.beq s 0 || Nat.blt 1000000 by_ || !Nat.beq (cellsOfV z).length s then none else bif Nat.blt h.n lim then
   some (.need (decide (0 ≤ l)) (.need (decide (0 ≤ u)) (.need (Nat.ble u.toNat 1000000) (.need (Nat.ble l.toNat u.toNat)
    (.out (.slice (some ⟨h.n, 0, none⟩) l.toNat s, ⟨h.t.put h.n (some (.cells (rep (cellsOfV z) u.toNat))), h.n + 1⟩, []))))))
  else none
 | _, _, _ => none
def opG (c : Cfg) (T : Tm) (h : Hp) (o : Oper) : Option (GT Out) :=
 match o.op with
 | .load t a => (ev c T a).bind fun v => match v with
  | .pointer (some ⟨b, o, none⟩) => loadG c h t b o
  | _ => none
 | .indexAddr t x i => (ev c T x).bind fun v => (ev c T i).bind fun j => match j with
  | .int _ j => addrG c h t v j
  | _ => none
 | .index t x i => (ev c T x).bind fun v => (ev c T i).bind fun j => match j with
  | .int _ j => byteG c h t v j
  | _ => none
 | .slice t x lo hi mx => match mx with
  | some _ => none
  | none => (ev c T x).bind fun v => (evo c T lo).bind fun l => (evo c T hi).bind fun u => sliceG c h t v l u
 | .store t a x => (ev c T a).bind fun v => (ev c T x).bind fun y => (c.siz t).bind fun s => match v with
  | .pointer (some ⟨b, o, none⟩) => bif Nat.beq (cellsOfV y).length s then storeG c h b o (cellsOfV y) else none
  | _ => none
 | .binOp op t x y _ => (ev c T x).bind fun a => (ev c T y).bind fun b => match nilD c op t x y a b with
  | some _ => none
  | none => binG h op a b
 | .makeSlice t l u => (ev c T l).bind fun v => (ev c T u).bind fun x => makeG c h t v x
 | .convert src dst x => (ev c T x).bind fun v => match c.und src, c.und dst, v with
  | some .string, some (.slice el), .string s => bif isI32 (c.und el) then none else bytesG c h el s
  | some (.slice el), some .string, .slice (some ⟨b, o, none⟩) n _ => strG c h el b o n
  | _, _, _ => none
 | .call q => match q.callee with
  | .builtin .append => (evs c T q.args.toList).bind fun l => match q.argTypes.toList, l with
   | [t, u], [s, x] => bif isIntT (c.und u) then none else appG c h t u s x
   | _, _ => none
  | _ => none
 | _ => none
def oneO : Option (List Out) → GT Out
 | some [x] => .out x
 | _ => .no
def opQ (c : Cfg) (T : Tm) (h : Hp) (o : Oper) : GT Out :=
 match opG c T h o with
 | some t => t
 | none => oneO (opP c T h o)
end
section
open Go
theorem GT.need_eval {α : Type} {b : Bool} {t : GT α} {x : α} (h : (GT.need b t).eval = some x) : b = true ∧ t.eval = some x := by
 unfold GT.need at h
 cases b with
 | true => exact ⟨rfl, h⟩
 | false => cases h
theorem GT.kont_eval {α β : Type} {K : α → Option β} {r : β} : ∀ {t : GT α}, t.kont K = some r → ∃ x, t.eval = some x ∧ K x = some r
 | .out x, h => ⟨x, rfl, h⟩
 | .no, h => by cases h
 | .br b t f, h => by
  cases b with
  | true => exact GT.kont_eval (t := t) h
  | false => exact GT.kont_eval (t := f) h
theorem outV_eval {h : Hp} {v : Value} {x : Out} (e : (outV h v).eval = some x) : x = (v, h, []) := by cases e; rfl
theorem natOf_pos {j : Int} (h : decide (0 ≤ j) = true) : natOf j = some j.toNat := by
 have h := of_decide_eq_true h
 cases j with
 | ofNat n => rfl
 | negSucc n => exact absurd h (by omega)
theorem nth_eq' : ∀ (l : List Value) (n : Nat), nth l n = l[n]?
 | [], n => by simp [nth]
 | x :: l, n => by
  unfold nth
  cases n with
  | zero => rfl
  | succ n =>
   show nth l (n + 1 - 1) = _
   rw [Nat.add_sub_cancel, nth_eq' l n]; rfl
theorem isV_nth {cs : List Value} {o : Nat} {k : TK} (h : isV cs o k = true) : nth cs o = some (rdV cs o k) := by
 cases k with
 | i k =>
  simp only [isV, rdV, rdI] at h ⊢
  cases e : nth cs o with
  | none => rw [e] at h; cases h
  | some v =>
   rw [e] at h
   cases v with
   | int k' x => have := of_decide_eq_true h; subst this; rfl
   | _ => cases h
 | s =>
  simp only [isV, rdV, rdS] at h ⊢
  cases e : nth cs o with
  | none => rw [e] at h; cases h
  | some v =>
   rw [e] at h
   cases v with
   | string x => rfl
   | _ => cases h
 | b =>
  simp only [isV, rdV, rdB] at h ⊢
  cases e : nth cs o with
  | none => rw [e] at h; cases h
  | some v =>
   rw [e] at h
   cases v with
   | bool x => rfl
   | _ => cases h
theorem isL_take (cs : List Value) : ∀ (ks : List TK) (o : Nat), isL cs o ks = true → ks ≠ [] → o + ks.length ≤ cs.length ∧ (cs.drop o).take ks.length = rdL cs o ks
 | [], o, h, hn => absurd rfl hn
 | k :: r, o, h, hn => by
  simp only [isL, Bool.and_eq_true] at h
  have h1 := isV_nth h.1
  rw [nth_eq'] at h1
  have hlt := (List.getElem?_eq_some_iff.1 h1).1
  have hd : cs.drop o = rdV cs o k :: cs.drop (o + 1) := by
   rw [List.drop_eq_getElem_cons hlt]
   have := (List.getElem?_eq_some_iff.1 h1).2
   rw [this]
  rw [hd]
  cases r with
  | nil => exact ⟨by simp; omega, by simp [rdL]⟩
  | cons k2 r =>
   obtain ⟨h3, h4⟩ := isL_take cs (k2 :: r) (o + 1) h.2 (by simp)
   refine ⟨by simp only [List.length_cons] at h3 ⊢; omega, ?_⟩
   show rdV cs o k :: (cs.drop (o + 1)).take (k2 :: r).length = rdV cs o k :: rdL cs (o + 1) (k2 :: r)
   rw [h4]
theorem slc_of {cs : List Value} {o : Nat} {n : Nat} (h : o + n ≤ cs.length) : slc cs o n = some ((cs.drop o).take n) := by
 unfold slc
 rw [show Nat.ble (o + n) cs.length = true from Nat.ble_eq_true_of_le h]; rfl
theorem opt_bind {α β : Type} {x : Option α} {f : α → Option β} {r : β} (h : x.bind f = some r) : ∃ a, x = some a ∧ f a = some r := Option.bind_eq_some_iff.1 h
theorem bif_some {α : Type} {b : Bool} {x : Option α} {r : α} (h : (bif b then x else none) = some r) : b = true ∧ x = some r := by
 cases b with
 | true => exact ⟨rfl, h⟩
 | false => cases h
theorem loadG_ok {c : Cfg} {h : Hp} {t : TypeId} {b o : Nat} {g : GT Out} {x : Out} (e : loadG c h t b o = some g) (hx : g.eval = some x) :
  ∃ v, loadD c h t (.pointer (some ⟨b, o, none⟩)) = some v ∧ x = (v, h, []) := by
 obtain ⟨cs, e1, e⟩ := opt_bind e
 obtain ⟨ks, e2, e⟩ := opt_bind e
 obtain ⟨ag, e3, e⟩ := opt_bind e
 cases ag with
 | true =>
  simp only [cond_true] at e
  obtain ⟨n, e4, e⟩ := opt_bind e
  obtain ⟨e5, e⟩ := bif_some e
  cases e
  simp only [Bool.and_eq_true, Bool.not_eq_true', List.isEmpty_eq_false_iff] at e5
  obtain ⟨g1, g2⟩ := GT.need_eval hx
  refine ⟨.agg (rdL cs o ks).toArray, ?_, outV_eval g2⟩
  obtain rfl := Nat.eq_of_beq_eq_true e5.1
  show (cellsAt h b).bind (fun cs => partD c t cs o) = _
  rw [e1]
  show partD c t cs o = _
  unfold partD
  simp only [e3, Option.bind_some, cond_true, e4]
  obtain ⟨h1, h2⟩ := isL_take cs ks o g1 e5.2
  rw [slc_of h1, h2]; rfl
 | false =>
  simp only [cond_false] at e
  cases ks with
  | nil => cases e
  | cons k r =>
   cases r with
   | cons k2 r => cases e
   | nil =>
    cases e
    obtain ⟨g1, g2⟩ := GT.need_eval hx
    refine ⟨_, ?_, outV_eval g2⟩
    show (cellsAt h b).bind (fun cs => partD c t cs o) = _
    rw [e1]
    show partD c t cs o = _
    unfold partD
    simp only [e3, Option.bind_some, cond_false]
    exact isV_nth g1
theorem addrG_ok {c : Cfg} {h : Hp} {t : TypeId} {v : Value} {j : Int} {k : IntKind} {g : GT Out} {x : Out} (e : addrG c h t v j = some g) (hx : g.eval = some x) :
  ∃ r, indexAddrD c t v (.int k j) = some r ∧ x = (r, h, []) := by
 unfold addrG at e
 split at e
 ·rename_i el b o n z hu
  obtain ⟨s, e1, e⟩ := opt_bind e
  cases e
  obtain ⟨g1, hx⟩ := GT.need_eval hx
  obtain ⟨g2, hx⟩ := GT.need_eval hx
  refine ⟨_, ?_, outV_eval hx⟩
  show (natOf j).bind _ = _
  rw [natOf_pos g1]
  simp only [Option.bind_some, hu, e1, g2, cond_true]
 ·rename_i n el b o hu
  obtain ⟨s, e1, e⟩ := opt_bind e
  cases e
  obtain ⟨g1, hx⟩ := GT.need_eval hx
  obtain ⟨g2, hx⟩ := GT.need_eval hx
  refine ⟨_, ?_, outV_eval hx⟩
  show (natOf j).bind _ = _
  rw [natOf_pos g1]
  simp only [Option.bind_some, hu, e1, g2, cond_true]
 ·cases e
theorem byteG_ok {c : Cfg} {h : Hp} {t : TypeId} {v : Value} {j : Int} {k : IntKind} {g : GT Out} {x : Out} (e : byteG c h t v j = some g) (hx : g.eval = some x) :
  ∃ r, indexD c t v (.int k j) = some r ∧ x = (r, h, []) := by
 unfold byteG at e
 split at e
 ·rename_i s hu
  cases e
  obtain ⟨g1, hx⟩ := GT.need_eval hx
  obtain ⟨g2, hx⟩ := GT.need_eval hx
  refine ⟨_, ?_, outV_eval hx⟩
  show (natOf j).bind _ = _
  rw [natOf_pos g1]
  simp only [Option.bind_some, hu]
  have hlt : j.toNat < s.data.toList.length := by rwa [Nat.blt_eq] at g2
  rw [List.head?_drop, List.getElem?_eq_getElem hlt, List.getD_eq_getElem?_getD, List.getElem?_eq_getElem hlt]
  rfl
 ·cases e
theorem boundG_ok {x : Option Value} {d m : Nat} {p : Bool × Nat} (e : boundG x d m = some p) (h : p.1 = true) : bound x d m = some p.2 := by
 unfold boundG at e
 split at e
 ·cases e; rfl
 ·rename_i k i
  cases e
  simp only [Bool.and_eq_true] at h
  show (natOf i).bind _ = _
  rw [natOf_pos h.1]
  simp only [Option.bind_some, h.2, cond_true]
 ·cases e
theorem sliceG_ok {c : Cfg} {h : Hp} {t : TypeId} {v : Value} {l u : Option Value} {g : GT Out} {x : Out} (e : sliceG c h t v l u = some g) (hx : g.eval = some x) :
  ∃ r, sliceD c t v l u = some r ∧ x = (r, h, []) := by
 unfold sliceG at e
 split at e
 ·rename_i s hu
  obtain ⟨p, e1, e⟩ := opt_bind e
  obtain ⟨q, e2, e⟩ := opt_bind e
  cases e
  obtain ⟨g1, hx⟩ := GT.need_eval hx
  obtain ⟨g2, hx⟩ := GT.need_eval hx
  refine ⟨_, ?_, outV_eval hx⟩
  unfold sliceD
  simp only [hu, boundG_ok e1 g1, boundG_ok e2 g2, Option.bind_some]
 ·rename_i el hu
  obtain ⟨p, e1, e⟩ := opt_bind e
  obtain ⟨q, e2, e⟩ := opt_bind e
  obtain ⟨s, e3, e⟩ := opt_bind e
  cases e
  obtain ⟨g1, hx⟩ := GT.need_eval hx
  obtain ⟨g2, hx⟩ := GT.need_eval hx
  refine ⟨_, ?_, outV_eval hx⟩
  unfold sliceD
  simp only [hu, boundG_ok e1 g1, boundG_ok e2 g2, Option.bind_some, e3]
 ·rename_i el k o n sz hu
  obtain ⟨p, e1, e⟩ := opt_bind e
  obtain ⟨q, e2, e⟩ := opt_bind e
  obtain ⟨s, e3, e⟩ := opt_bind e
  obtain ⟨e4, e⟩ := bif_some e
  cases e
  obtain ⟨g1, hx⟩ := GT.need_eval hx
  obtain ⟨g2, hx⟩ := GT.need_eval hx
  refine ⟨_, ?_, outV_eval hx⟩
  unfold sliceD
  simp only [hu, boundG_ok e1 g1, boundG_ok e2 g2, Option.bind_some, e3, e4, cond_true]
 ·cases e
theorem makeG_ok {c : Cfg} {h : Hp} {t : TypeId} {l u : Value} {g : GT Out} {x : Out} (e : makeG c h t l u = some g) (hx : g.eval = some x) : makeSliceD c h t l u = some [x] := by
 unfold makeG at e
 split at e
 ·rename_i el k1 l k2 u hu
  obtain ⟨s, e1, e⟩ := opt_bind e
  obtain ⟨by_, e2, e⟩ := opt_bind e
  obtain ⟨z, e3, e⟩ := opt_bind e
  cases e4 : (Nat.beq s 0 || Nat.blt 1000000 by_ || !Nat.beq (cellsOfV z).length s) with
  | true => rw [e4] at e; cases e
  | false =>
   rw [e4] at e
   obtain ⟨e5, e⟩ := bif_some e
   cases e
   obtain ⟨g1, hx⟩ := GT.need_eval hx
   obtain ⟨g2, hx⟩ := GT.need_eval hx
   obtain ⟨g3, hx⟩ := GT.need_eval hx
   obtain ⟨g4, hx⟩ := GT.need_eval hx
   cases hx
   simp only [Bool.or_eq_false_iff] at e4
   have h3 : Nat.blt 1000000 u.toNat = false := by
    cases q : Nat.blt 1000000 u.toNat with
    | false => rfl
    | true => rw [Nat.blt_eq] at q; have := Nat.le_of_ble_eq_true g3; omega
   have h4 : Nat.blt u.toNat l.toNat = false := by
    cases q : Nat.blt u.toNat l.toNat with
    | false => rfl
    | true => rw [Nat.blt_eq] at q; have := Nat.le_of_ble_eq_true g4; omega
   unfold makeSliceD
   simp only [hu, natOf_pos g1, natOf_pos g2, Option.bind_some, e1, e2, e3, e4, h3, h4, Bool.or_self, cond_false, newV, newD, e5, cond_true, Option.map_some]
 ·cases e
theorem storeG_ok {c : Cfg} {h : Hp} {b o : Nat} {vs : List Value} {g : GT Out} {x : Out} (e : storeG c h b o vs = some g) (hx : g.eval = some x) :
  ∃ q, storeAtD c h b o vs = some q ∧ x = (undef, q.1, q.2) := by
 obtain ⟨cs, e1, e⟩ := opt_bind e
 obtain ⟨e2, e⟩ := bif_some e
 cases e
 obtain ⟨g1, hx⟩ := GT.need_eval hx
 cases hx
 refine ⟨(⟨h.t.put b (some (.cells (puts cs o vs))), h.n⟩, [b]), ?_, rfl⟩
 unfold storeAtD
 simp only [Bool.and_eq_true] at e2
 simp only [e1, Option.bind_some, e2.1.1, e2.1.2, e2.2, g1, Bool.and_self, cond_true]
theorem binG_ok {c : Cfg} {h : Hp} {op : BinOp} {t : TypeId} {a b : Value} {g : GT Out} {x : Out} (e : binG h op a b = some g) (hx : g.eval = some x) :
  ∃ r, binD c op t a b = some r ∧ x = (r, h, []) := by
 unfold binG at e
 split at e
 ·rename_i k a k' b
  obtain ⟨e1, e⟩ := bif_some e
  cases e
  have hk := of_decide_eq_true e1
  obtain ⟨g1, hx⟩ := GT.need_eval hx
  refine ⟨_, ?_, outV_eval hx⟩
  have hb : ¬ b = 0 := by simpa using g1
  show (if k = k' then intOp .quo k a b else none) = _
  rw [if_pos hk]
  show (if b = 0 then none else some _) = _
  rw [if_neg hb]
 ·rename_i k a k' b
  obtain ⟨e1, e⟩ := bif_some e
  cases e
  have hk := of_decide_eq_true e1
  obtain ⟨g1, hx⟩ := GT.need_eval hx
  refine ⟨_, ?_, outV_eval hx⟩
  have hb : ¬ b = 0 := by simpa using g1
  show (if k = k' then intOp .rem k a b else none) = _
  rw [if_pos hk]
  show (if b = 0 then none else some _) = _
  rw [if_neg hb]
 ·rename_i k a k' b
  cases e
  obtain ⟨g1, hx⟩ := GT.need_eval hx
  refine ⟨_, ?_, outV_eval hx⟩
  have hb : ¬ b < 0 := by simpa using g1
  show (if b < 0 then none else some _) = _
  rw [if_neg hb]
 ·rename_i k a k' b
  cases e
  obtain ⟨g1, hx⟩ := GT.need_eval hx
  refine ⟨_, ?_, outV_eval hx⟩
  have hb : ¬ b < 0 := by simpa using g1
  show (if b < 0 then none else some _) = _
  rw [if_neg hb]
 ·rename_i a b
  cases e
  obtain ⟨g1, hx⟩ := GT.need_eval hx
  refine ⟨_, ?_, outV_eval hx⟩
  show (bif Nat.ble (a.data.toList.length + b.data.toList.length) 9223372036854775807 then some _ else none) = _
  rw [g1]; rfl
 ·cases e
theorem appN_ok {c : Cfg} {h : Hp} {t u elem : TypeId} {xd : TypeDesc} {s : ByteArray} {g : GT Out} {x : Out} (hu : c.und t = some (.slice elem)) (hv : c.und u = some xd) (e : appN c h elem xd s = some g) (hx : g.eval = some x) : appendD c h t u (.slice none 0 0) (.string s) = some [x] := by
 unfold appN at e
 obtain ⟨e1, e⟩ : (!isSS xd) = false ∧ _ = some g := by
  cases h : (!isSS xd) with
  | true => rw [h] at e; cases e
  | false => rw [h] at e; exact ⟨rfl, e⟩
 obtain ⟨sz, e2, e⟩ := opt_bind e
 obtain ⟨by_, e3, e⟩ := opt_bind e
 obtain ⟨z, e4, e⟩ := opt_bind e
 obtain ⟨e6, e⟩ : (Nat.beq sz 0 || Nat.blt 1000000 by_ || !Nat.beq (cellsOfV z).length sz) = false ∧ _ = some g := by
  cases h : (Nat.beq sz 0 || Nat.blt 1000000 by_ || !Nat.beq (cellsOfV z).length sz) with
  | true => rw [h] at e; cases e
  | false => rw [h] at e; exact ⟨rfl, e⟩
 obtain ⟨e8, e⟩ := bif_some e
 simp only [Bool.and_eq_true] at e8
 obtain ⟨e7, e8⟩ := e8
 cases e
 unfold appendD newCells
 simp only [hu, hv, e1, cond_false, e2, e3, e4, Option.bind_some, e6, e7, cond_true]
 cases hn : Nat.beq s.data.toList.length 0 with
 | true =>
  have h0 := Nat.eq_of_beq_eq_true hn
  simp only [GT.eval, hn, cond_true] at hx
  rw [if_pos h0, outV_eval hx]
 | false =>
  have h0 : ¬ s.data.toList.length = 0 := fun q => by rw [q] at hn; cases hn
  simp only [GT.eval, hn, cond_false] at hx
  obtain ⟨g1, hx⟩ := GT.need_eval hx
  obtain ⟨g2, hx⟩ := GT.need_eval hx
  obtain ⟨g3, hx⟩ := GT.need_eval hx
  cases hx
  rw [if_neg h0]
  simp only [g1, g2, g3, Bool.and_self, cond_true, if_true, newV, newD, e8, Option.map_some]
theorem appM_ok {c : Cfg} {h : Hp} {t u elem : TypeId} {xd : TypeDesc} {b o m k : Nat} {g : GT Out} {x : Out} (hu : c.und t = some (.slice elem)) (hv : c.und u = some xd) (e : appM c h elem xd b o m = some g) (hx : g.eval = some x) : appendD c h t u (.slice none 0 0) (.slice (some ⟨b, o, none⟩) m k) = some [x] := by
 unfold appM at e
 obtain ⟨e1, e⟩ : (!isSS xd) = false ∧ _ = some g := by
  cases h : (!isSS xd) with
  | true => rw [h] at e; cases e
  | false => rw [h] at e; exact ⟨rfl, e⟩
 obtain ⟨sz, e2, e⟩ := opt_bind e
 obtain ⟨by_, e3, e⟩ := opt_bind e
 obtain ⟨z, e4, e⟩ := opt_bind e
 obtain ⟨cs, e5, e⟩ := opt_bind e
 obtain ⟨e6, e⟩ : (Nat.beq sz 0 || Nat.blt 1000000 by_ || !Nat.beq (cellsOfV z).length sz) = false ∧ _ = some g := by
  cases h : (Nat.beq sz 0 || Nat.blt 1000000 by_ || !Nat.beq (cellsOfV z).length sz) with
  | true => rw [h] at e; cases e
  | false => rw [h] at e; exact ⟨rfl, e⟩
 obtain ⟨e8, e⟩ := bif_some e
 cases e
 unfold appendD newCells
 cases hn : Nat.beq m 0 with
 | true =>
  have h0 := Nat.eq_of_beq_eq_true hn
  simp only [hu, hv, e1, cond_false, e2, e3, e4, Option.bind_some, e6, if_pos h0]
  simp only [GT.eval, hn, cond_true] at hx
  simp only [if_true]
  rw [outV_eval hx]
 | false =>
  have h0 : ¬ m = 0 := fun q => by rw [q] at hn; cases hn
  simp only [GT.eval, hn, cond_false] at hx
  obtain ⟨g1, hx⟩ := GT.need_eval hx
  obtain ⟨g2, hx⟩ := GT.need_eval hx
  obtain ⟨g3, hx⟩ := GT.need_eval hx
  obtain ⟨g4, hx⟩ := GT.need_eval hx
  cases hx
  simp only [hu, hv, e1, cond_false, e2, e3, e4, Option.bind_some, e6, if_neg h0, e5, slc_of (Nat.le_of_ble_eq_true g3), Option.map_some]
  simp only [g1, g2, g4, Bool.and_self, cond_true, if_true, newV, newD, e8, Option.map_some]
theorem bytesL_of : ∀ {l : List Value}, l.all isU8 = true → bytesL l = some (l.map u8Of)
 | [], _ => rfl
 | v :: l, h => by
  simp only [List.all_cons, Bool.and_eq_true] at h
  unfold bytesL
  rw [bytesL_of h.2]
  have : byteV v = some (u8Of v) := by
   have := h.1
   unfold isU8 at this
   split at this
   ·rfl
   ·cases this
  rw [this]; rfl
theorem strG_ok {c : Cfg} {h : Hp} {el : TypeId} {b o n : Nat} {g : GT Out} {x : Out} (e : strG c h el b o n = some g) (hx : g.eval = some x) : (stringD c h el (some ⟨b, o, none⟩) n).map (fun v => [(v, h, [])]) = some [x] := by
 unfold strG at e
 split at e
 ·rename_i hu
  obtain ⟨cs, e1, e⟩ := opt_bind e
  cases e
  obtain ⟨g1, hx⟩ := GT.need_eval hx
  obtain ⟨g2, hx⟩ := GT.need_eval hx
  unfold stringD
  simp only [hu, e1, Option.bind_some, slc_of (Nat.le_of_ble_eq_true g1), bytesL_of g2, Option.map_some, outV_eval hx]
  rfl
 ·cases e
theorem appG_ok {c : Cfg} {h : Hp} {t u : TypeId} {s y : Value} {g : GT Out} {x : Out} (e : appG c h t u s y = some g) (hx : g.eval = some x) : appendD c h t u s y = some [x] := by
 unfold appG at e
 split at e
 ·rename_i elem xd b o n cz hu hv
  obtain ⟨e1, e⟩ : (!isSS xd) = false ∧ _ = some g := by
   cases h : (!isSS xd) with
   | true => rw [h] at e; cases e
   | false => rw [h] at e; exact ⟨rfl, e⟩
  obtain ⟨sz, e2, e⟩ := opt_bind e
  obtain ⟨by_, e3, e⟩ := opt_bind e
  obtain ⟨z, e4, e⟩ := opt_bind e
  obtain ⟨cs, e5, e⟩ := opt_bind e
  obtain ⟨e6, e⟩ : (Nat.beq sz 0 || Nat.blt 1000000 by_ || !Nat.beq (cellsOfV z).length sz) = false ∧ _ = some g := by
   cases h : (Nat.beq sz 0 || Nat.blt 1000000 by_ || !Nat.beq (cellsOfV z).length sz) with
   | true => rw [h] at e; cases e
   | false => rw [h] at e; exact ⟨rfl, e⟩
  obtain ⟨nw, e7, e⟩ := opt_bind e
  obtain ⟨e8, e⟩ := bif_some e
  cases e
  unfold appendD
  simp only [hu, hv, e1, cond_false, e2, e3, e4, Option.bind_some, e6, e7]
  cases hn : Nat.beq nw.2 0 with
  | true =>
   have h0 := Nat.eq_of_beq_eq_true hn
   simp only [GT.eval, hn, cond_true] at hx
   rw [if_pos h0, outV_eval hx]
  | false =>
   have h0 : ¬ nw.2 = 0 := fun q => by rw [q] at hn; cases hn
   simp only [GT.eval, hn, cond_false] at hx
   obtain ⟨g1, hx⟩ := GT.need_eval hx
   obtain ⟨g2, hx⟩ := GT.need_eval hx
   obtain ⟨g3, hx⟩ := GT.need_eval hx
   obtain ⟨g4, hx⟩ := GT.need_eval hx
   cases hx
   rw [if_neg h0]
   simp only [g1, g2, g3, Bool.and_self, cond_true, e5, Option.bind_some, e8, slc_of (Nat.le_of_ble_eq_true g4)]
 ·rename_i elem xd hu hv
  split at e
  ·exact appN_ok hu hv e hx
  ·exact appM_ok hu hv e hx
  ·cases e
 ·cases e
theorem bytesG_ok {c : Cfg} {h : Hp} {el : TypeId} {s : ByteArray} {g : GT Out} {x : Out} (e : bytesG c h el s = some g) (hx : g.eval = some x) : bytesD c h el s = some [x] := by
 unfold bytesG at e
 split at e
 ·rename_i hu hs
  obtain ⟨e1, e⟩ := bif_some e
  cases e
  obtain ⟨g1, hx⟩ := GT.need_eval hx
  cases hx
  unfold bytesD
  simp only [hu, hs, g1, cond_true]
  unfold newV newD
  simp only [e1, cond_true, Option.map_some]
 ·cases e
end
section
open Go
theorem opG_ok {c : Cfg} {T : Tm} {h : Hp} {o : Oper} {g : GT Out} {x : Out} (e : opG c T h o = some g) (hx : g.eval = some x) : opP c T h o = some [x] := by
 unfold opG at e
 unfold opP
 split at e
 ·
  rename_i t a ho
  obtain ⟨v, e1, e⟩ := opt_bind e
  split at e
  ·rename_i b p
   obtain ⟨r, h1, h2⟩ := loadG_ok e hx
   simp only [ho, e1, Option.bind_some, h1, h2, pureV, Option.map_some]
  ·cases e
 ·
  rename_i t y i ho
  obtain ⟨v, e1, e⟩ := opt_bind e
  obtain ⟨j, e2, e⟩ := opt_bind e
  split at e
  ·rename_i k j
   obtain ⟨r, h1, h2⟩ := addrG_ok (k := k) e hx
   simp only [ho, e1, e2, Option.bind_some, h1, h2, pureV, Option.map_some]
  ·cases e
 ·
  rename_i t y i ho
  obtain ⟨v, e1, e⟩ := opt_bind e
  obtain ⟨j, e2, e⟩ := opt_bind e
  split at e
  ·rename_i k j
   obtain ⟨r, h1, h2⟩ := byteG_ok (k := k) e hx
   simp only [ho, e1, e2, Option.bind_some, h1, h2, pureV, Option.map_some]
  ·cases e
 ·
  rename_i t y lo hi mx ho
  split at e
  ·cases e
  ·obtain ⟨v, e1, e⟩ := opt_bind e
   obtain ⟨l, e2, e⟩ := opt_bind e
   obtain ⟨u, e3, e⟩ := opt_bind e
   obtain ⟨r, h1, h2⟩ := sliceG_ok e hx
   simp only [ho, e1, e2, e3, Option.bind_some, h1, h2, pureV, Option.map_some]
 ·
  rename_i t a y ho
  obtain ⟨v, e1, e⟩ := opt_bind e
  obtain ⟨w, e2, e⟩ := opt_bind e
  obtain ⟨s, e3, e⟩ := opt_bind e
  split at e
  ·obtain ⟨e4, e⟩ := bif_some e
   obtain ⟨q, h1, h2⟩ := storeG_ok e hx
   simp only [ho, e1, e2, e3, Option.bind_some, e4, cond_true, h1, h2, Option.map_some]
  ·cases e
 ·
  rename_i op t y z t' ho
  obtain ⟨a, e1, e⟩ := opt_bind e
  obtain ⟨b, e2, e⟩ := opt_bind e
  split at e
  ·cases e
  ·rename_i hn
   obtain ⟨r, h1, h2⟩ := binG_ok (c := c) (t := t) e hx
   simp only [ho, e1, e2, Option.bind_some, binV, hn, h1, h2, pureV, Option.map_some]
 ·
  rename_i t l u ho
  obtain ⟨v, e1, e⟩ := opt_bind e
  obtain ⟨y, e2, e⟩ := opt_bind e
  have h1 := makeG_ok e hx
  simp only [ho, e1, e2, Option.bind_some, h1]
 ·
  rename_i src dst y ho
  obtain ⟨v, e1, e⟩ := opt_bind e
  split at e
  ·rename_i el s hs hd
   cases hi : isI32 (c.und el) with
   | true => rw [hi] at e; cases e
   | false =>
    rw [hi] at e
    have h1 := bytesG_ok (c := c) (el := el) e hx
    simp only [ho, e1, Option.bind_some, hs, hd, textD, hi, cond_false, h1]
  ·rename_i el b o n k hs hd
   have h1 := strG_ok e hx
   simp only [ho, e1, Option.bind_some, hs, hd, pureV, h1]
  ·cases e
 ·
  rename_i q ho
  split at e
  ·rename_i hq
   obtain ⟨l, e1, e⟩ := opt_bind e
   split at e
   ·rename_i t u s y ht
    cases hi : isIntT (c.und u) with
    | true => rw [hi] at e; cases e
    | false =>
     rw [hi] at e
     have h1 := appG_ok e hx
     simp only [ho, e1, Option.bind_some, hq, ht, builtinD, hi, cond_false, h1]
   ·cases e
  ·cases e
 ·cases e
theorem opQ_ok {c : Cfg} {T : Tm} {h : Hp} {o : Oper} {x : Out} (hx : (opQ c T h o).eval = some x) : opP c T h o = some [x] := by
 unfold opQ at hx
 split at hx
 ·rename_i t e; exact opG_ok e hx
 ·unfold oneO at hx
  split at hx
  ·rename_i y e; cases hx; exact e
  ·cases hx
end
section
open Go
abbrev PrimG := FuncId → List Value → Hp → Option (GT Value)
def primOfG (gp : PrimG) : FuncId → List Value → Hp → Option Value := fun f a h => (gp f a h).bind GT.eval
abbrev CallK (β : Type) := Cal → List Value → Hp → (Out → Option β) → Option β
def litT (T : Tm) (d : Nat) (b : Bool) : Tm := ⟨T.t.put d (some (.bool b)), T.m⟩
section
variable {β : Type}
def chkK (n : Nat) (K : Out → Option β) (x : Out) : Option β := bif Nat.ble n x.2.1.n then K x else none
def callFK (gp : PrimG) (call : CallK β) (h : Hp) (f : Cal) (args : List Value) (K : Out → Option β) : Option β :=
 match f with
 | .fn f => match gp f args h with
  | some t => t.kont fun v => K (v, h, [])
  | none => call (.fn f) args h K
 | f => call f args h K
def opK (c : Cfg) (gp : PrimG) (call : CallK β) (T : Tm) (h : Hp) (o : Oper) (K : Out → Option β) : Option β :=
 match calleeD c T o with
 | some p => callFK gp call h p.1 p.2 (chkK h.n K)
 | none => (opQ c T h o).kont (chkK h.n K)
def wantK (ops : Array Oper) (T : Tm) (o : Oper) (F : Tm → Bool → Option β) : Option β :=
 match o.guard with
 | none => F T true
 | some (j, want) => match (ops[j]?).bind (·.dst) with
  | some d => bif Nat.blt d T.m && Nat.blt d lim then match T.get d with
   | some (.bool b) => bif b then F (litT T d true) want else F (litT T d false) (!want)
   | some _ => F T false
   | none => none
   else none
  | none => none
def opsK (c : Cfg) (gp : PrimG) (call : CallK β) (ops : Array Oper) : List Oper → St → (St → Option β) → Option β
 | [], s, K => K s
 | o :: r, s, K => wantK ops s.T o fun T b =>
  bif b then match deferD c T o with
   | some _ => none
   | none => opK c gp call T s.h o fun x => opsK c gp call ops r ⟨putD T o.dst x.1, x.2.1, x.2.2 ++ s.w, s.d⟩ K
  else opsK c gp call ops r ⟨putD T o.dst undef, s.h, s.w, s.d⟩ K
def drawK (c : Cfg) (gp : PrimG) (call : CallK β) (ops : Array Oper) : Nat → List Oper → List Rec → Tm → Hp → List Nat → (Dr → Option β) → Option β
 | _, [], rs, T, h, w, K => K ⟨T, h, w⟩
 | i, o :: l, rs, T, h, w, K =>
  let bef := befD rs o
  let un := rs.filter fun r => !bef.testBit r.i
  bif o.after.toList.all (fun e => !Region.binds .any e || Nat.blt e.on i) then wantK ops T o fun T b =>
   bif b then
    let foot := footD c T o
    let M : PT Ob := maskD foot h.t (un.flatMap fun r => segL r.n (r.n' - r.n))
    opK c gp call T ⟨M, h.n⟩ o fun x =>
     let wr := x.2.2.filter fun b => Nat.blt b h.n
     let r : Rec := ⟨i, o, bef, foot, wr, h.n, x.2.1.n⟩
     bif un.all (fun q => apartD ops q r) && Nat.blt x.2.1.n lim && idsOk foot && wr.all (fun b => Nat.blt b lim) && x.2.2.all (fun b => Nat.blt b x.2.1.n) then
      drawK c gp call ops (i + 1) l (r :: rs) (putD T o.dst x.1) ⟨mergeD h.t x.2.1.t (wr ++ segL h.n (x.2.1.n - h.n)), x.2.1.n⟩ (wr ++ w) K
     else none
   else
    let r : Rec := ⟨i, o, bef, some [], [], h.n, h.n⟩
    bif un.all (fun q => apartD ops q r) then drawK c gp call ops (i + 1) l (r :: rs) (putD T o.dst undef) h w K else none
  else none
def regK (c : Cfg) (gp : PrimG) (call : CallK β) (ops : Array Oper) (draw : Bool) (s : St) (K : Ex × St → Option β) : Option β :=
 bif draw then drawK c gp call ops 0 ops.toList [] s.T s.h s.w fun x => K (.normal, ⟨x.T, x.h, x.w, s.d⟩) else opsK c gp call ops ops.toList s fun s => K (.normal, s)
def thenK (f : St → Option β) (K : Ex × St → Option β) (p : Ex × St) : Option β :=
 match p.1 with
 | .normal => f p.2
 | _ => K p
def condK (c : Cfg) (s : St) (x : Operand) (F : St → Bool → Option β) : Option β :=
 match x with
 | .tmp t => bif Nat.blt t s.T.m && Nat.blt t lim then match s.T.get t with
  | some (.bool v) => bif v then F ⟨litT s.T t true, s.h, s.w, s.d⟩ true else F ⟨litT s.T t false, s.h, s.w, s.d⟩ false
  | _ => none
  else none
 | x => match ev c s.T x with
  | some (.bool v) => bif v then F s true else F s false
  | _ => none
def loopK (f : St → (Ex × St → Option β) → Option β) : Nat → St → (Ex × St → Option β) → Option β
 | 0, _, _ => none
 | k + 1, s, K => f s (thenK (fun s => loopK f k s K) K)
def upK (s : St) (K : Ex × St → Option β) (x : Ex × St) : Option β := bif upB s [x] then K x else none
def lpK (ro : Bool) (lt : Code → St → Option (GT (Ex × St))) (a : Code) (s : St) : Option (GT (Ex × St)) := bif ro then none else lt a s
def codeK (c : Cfg) (gp : PrimG) (call : CallK β) (lt : Code → St → Option (GT (Ex × St))) (ro : Bool) : Nat → Code → St → (Ex × St → Option β) → Option β
 | 0, _, _, _ => none
 | k + 1, q, s, K => match q with
  | .skip => K (.normal, s)
  | .label _ => K (.normal, s)
  | .region _ ops d => regK c gp call ops d s K
  | .seq a b => codeK c gp call lt ro k a s (thenK (fun s => codeK c gp call lt ro k b s K) K)
  | .cond x a b => condK c s x fun s v => bif v then codeK c gp call lt ro k a s K else codeK c gp call lt ro k b s K
  | .block id a => codeK c gp call lt ro k a s fun p => K (blockX id p)
  | .loop a => match lpK ro lt a s with
   | some t => t.kont (upK s K)
   | none => loopK (fun s K => codeK c gp call lt ro k a s K) k s K
  | .exit id => K (.exit id, s)
  | .ret => K (.ret, s)
  | _ => none
def retK (c : Cfg) (fn : Func) (K : Out → Option β) (p : Ex × St) : Option β :=
 match p.1, p.2.d with
 | .exit _, _ => none
 | _, [] => match resD c p.2.T p.2.h fn.results.toList with
  | some vs => K (oneV vs, p.2.h, p.2.w)
  | none => none
 | _, _ => none
def callK (c : Cfg) (gp : PrimG) (lt : FuncId → Code → St → Option (GT (Ex × St))) : Nat → CallK β
 | k + 1, .fn f, args, h, K => match c.fns f with
  | some fn => match fn.body with
   | some q => bif Nat.ble args.length fn.ntmps && Nat.blt fn.ntmps lim then codeK c gp (callK c gp lt k) (lt f) false 100000 q ⟨⟨argsD .leaf 0 args, fn.ntmps⟩, h, [], []⟩ (retK c fn K) else none
   | none => none
  | none => none
 | _, _, _, _, _ => none
end
def One {γ β : Type} (l : R (List γ)) (K : γ → Option β) (r : β) : Prop := ∃ x, l = .ok [x] ∧ K x = some r
def CallSim {β : Type} (call : CallK β) (cd : CallD) : Prop := ∀ f args h (K : Out → Option β) r, call f args h K = some r → One (cd f args h) K r
section
variable {β : Type} {c : Cfg} {gp : PrimG} {call : CallK β} {cd : CallD}
theorem chkK_ok {n : Nat} {K : Out → Option β} {x : Out} {r : β} (h : chkK n K x = some r) : Nat.ble n x.2.1.n = true ∧ K x = some r := bif_some h
theorem One.chk {l : R (List Out)} {n : Nat} {K : Out → Option β} {r : β} (h : One l (chkK n K) r) : One (l.bind (_root_.Go.Proofs.YtaiokpmmjbiajaaGreatDoorDx.chk n)) K r := by
 obtain ⟨x, rfl, h2⟩ := h
 obtain ⟨h3, h4⟩ := chkK_ok h2
 refine ⟨x, ?_, h4⟩
 show _root_.Go.Proofs.YtaiokpmmjbiajaaGreatDoorDx.chk n [x] = _
 unfold _root_.Go.Proofs.YtaiokpmmjbiajaaGreatDoorDx.chk
 simp [h3]
theorem opK_ok (hp : c.prim = primOfG gp) (hc : CallSim call cd) (hf : c.facts = []) (hr : c.rows = []) {T : Tm} {h : Hp} {o : Oper} {K : Out → Option β} {r : β} (e : opK c gp call T h o K = some r) : One (opD c cd T h o) K r := by
 unfold opK at e
 unfold opD
 refine One.chk ?_
 split at e
 ·rename_i p hpp
  rw [hpp]
  show One (callFD c cd h p.1 p.2) _ r
  unfold callFK at e
  unfold callFD
  split at e
  ·rename_i f hf'
   rw [hf']
   dsimp only
   split at e
   ·rename_i t hv
    obtain ⟨v, h1, h2⟩ := GT.kont_eval e
    have : c.prim f p.2 h = some v := by rw [hp]; unfold primOfG; rw [hv]; exact h1
    rw [this]
    exact ⟨_, rfl, h2⟩
   ·rename_i hv
    have : c.prim f p.2 h = none := by rw [hp]; unfold primOfG; rw [hv]; rfl
    rw [this]
    exact hc _ _ _ _ _ e
  ·rename_i hn
   split
   ·rename_i f hf'
    exact absurd hf' (hn f)
   ·exact hc _ _ _ _ _ e
 ·rename_i hpp
  rw [hpp]
  simp only [hf, hr, List.isEmpty_nil, Bool.and_self, cond_true]
  obtain ⟨x, h1, h2⟩ := GT.kont_eval e
  exact ⟨x, by rw [opQ_ok h1]; rfl, h2⟩
end
end
section
open Go
theorem PT.set_id {α : Type} : ∀ (k : Nat) (t : PT α) (n : Nat) (x : α), n + 1 < 2 ^ k → t.get n = some x → PT.set k t n (some x) = t
 | 0, t, n, x, h, e => by simp at h
 | k + 1, .leaf, n, x, h, e => by cases e
 | k + 1, .node v l r, n, x, h, e => by
  unfold PT.set
  unfold PT.get at e
  cases e1 : Nat.beq n 0 with
  | true => rw [e1] at e; simp only [cond_true] at e ⊢; rw [e]
  | false =>
   have hn : n ≠ 0 := fun h => by subst h; simp at e1
   have hp : 2 ^ (k + 1) = 2 ^ k * 2 := Nat.pow_succ ..
   rw [e1] at e
   cases e2 : Nat.beq (n % 2) 1 with
   | true =>
    have : n % 2 = 1 := Nat.eq_of_beq_eq_true e2
    rw [e2] at e
    simp only [cond_false, cond_true] at e ⊢
    rw [PT.set_id k l (n / 2) x (by omega) e]
   | false =>
    have : n % 2 ≠ 1 := Nat.ne_of_beq_eq_false e2
    rw [e2] at e
    simp only [cond_false, cond_true] at e ⊢
    rw [PT.set_id k r (n / 2 - 1) x (by omega) e]
theorem litT_id {T : Tm} {d : Nat} {b : Bool} (h : T.get d = some (.bool b)) (hd : Nat.blt d lim = true) : litT T d b = T := by
 unfold litT PT.put
 have hl : d < lim := by rwa [Nat.blt_eq] at hd
 rw [PT.set_id 40 T.t d (.bool b) (by unfold lim at hl; omega) h]
section
variable {β : Type} {c : Cfg} {gp : PrimG} {call : CallK β} {cd : CallD}
theorem wantK_ok {ops : Array Oper} {T : Tm} {o : Oper} {F : Tm → Bool → Option β} {r : β} (e : wantK ops T o F = some r) : ∃ b, wantedD ops T o = some b ∧ F T b = some r := by
 unfold wantK at e
 unfold wantedD
 split at e
 ·rename_i h; rw [h]; exact ⟨true, rfl, e⟩
 ·rename_i j want h
  rw [h]
  dsimp only
  split at e
  ·rename_i d hd
   rw [hd]
   obtain ⟨e1, e⟩ := bif_some e
   simp only [Bool.and_eq_true] at e1
   simp only [e1.1, cond_true]
   split at e
   ·rename_i b hb
    rw [hb]
    cases b with
    | true =>
     simp only [cond_true] at e
     rw [litT_id hb e1.2] at e
     exact ⟨want, by cases want <;> rfl, e⟩
    | false =>
     simp only [cond_false] at e
     rw [litT_id hb e1.2] at e
     exact ⟨!want, by cases want <;> rfl, e⟩
   ·rename_i v hb hv
    rw [hv]
    refine ⟨false, ?_, e⟩
    cases v with
    | bool b => exact absurd rfl (hb b)
    | _ => rfl
   ·cases e
  ·cases e
theorem R.bok {α γ : Type} {x : R α} {a : α} {f : α → R γ} (h : x = .ok a) : x.bind f = f a := by rw [h]; rfl
theorem bindL_one {α γ : Type} (x : α) (f : α → R (List γ)) : bindL [x] f = f x := by
 show (f x).bind (fun a => (R.ok []).bind fun b => .ok (a ++ b)) = _
 cases f x with
 | ok a => show R.ok (a ++ []) = _; rw [List.append_nil]
 | no w => rfl
theorem opsK_ok (hp : c.prim = primOfG gp) (hc : CallSim call cd) (hf : c.facts = []) (hr : c.rows = []) (ro : Bool) (ops : Array Oper) : ∀ (l : List Oper) (s : St) (K : St → Option β) (r : β), opsK c gp call ops l s K = some r → One (opsD c cd ro ops l s) K r
 | [], s, K, r, e => ⟨s, rfl, e⟩
 | o :: l, s, K, r, e => by
  unfold opsK at e
  unfold opsD
  obtain ⟨b, h1, e⟩ := wantK_ok e
  rw [h1]
  show One (bif b then _ else _) K r
  cases b with
  | true =>
   simp only [cond_true] at e ⊢
   split at e
   ·cases e
   ·rename_i hd
    rw [hd]
    dsimp only
    obtain ⟨x, h2, h3⟩ := opK_ok hp hc hf hr e
    rw [R.bok h2, bindL_one]
    exact opsK_ok hp hc hf hr ro ops l _ K r h3
  | false =>
   simp only [cond_false] at e ⊢
   exact opsK_ok hp hc hf hr ro ops l _ K r e
def One1 {γ β : Type} (l : R γ) (K : γ → Option β) (r : β) : Prop := ∃ x, l = .ok x ∧ K x = some r
theorem drawK_ok (hp : c.prim = primOfG gp) (hc : CallSim call cd) (hf : c.facts = []) (hr : c.rows = []) (ops : Array Oper) : ∀ (l : List Oper) (i : Nat) (rs : List Rec) (T : Tm) (h : Hp) (w : List Nat) (K : Dr → Option β) (r : β), drawK c gp call ops i l rs T h w K = some r → One1 (drawD c cd ops i l rs T h w) K r
 | [], i, rs, T, h, w, K, r, e => ⟨⟨T, h, w⟩, rfl, e⟩
 | o :: l, i, rs, T, h, w, K, r, e => by
  unfold drawK at e
  unfold drawD
  obtain ⟨e1, e⟩ := bif_some e
  rw [if_pos e1]
  show One1 ((R.of o.pos (wantedD ops T o)).bind _) K r
  obtain ⟨b, h1, e⟩ := wantK_ok e
  rw [h1]
  show One1 (bif b then _ else _) K r
  cases b with
  | true =>
   simp only [cond_true] at e ⊢
   obtain ⟨x, h2, h3⟩ := opK_ok hp hc hf hr e
   rw [R.bok h2]
   dsimp only
   obtain ⟨e2, h3⟩ := bif_some h3
   rw [e2]
   simp only [cond_true]
   exact drawK_ok hp hc hf hr ops l _ _ _ _ _ K r h3
  | false =>
   simp only [cond_false] at e ⊢
   obtain ⟨e2, e⟩ := bif_some e
   rw [e2]
   simp only [cond_true]
   exact drawK_ok hp hc hf hr ops l _ _ _ _ _ K r e
theorem regK_ok (hp : c.prim = primOfG gp) (hc : CallSim call cd) (hf : c.facts = []) (hr : c.rows = []) {ro : Bool} {ops : Array Oper} {d : Bool} {s : St} {K : Ex × St → Option β} {r : β} (e : regK c gp call ops d s K = some r) : One (regD c cd ro ops d s) K r := by
 unfold regK at e
 unfold regD
 cases d with
 | true =>
  simp only [cond_true] at e ⊢
  obtain ⟨x, h1, h2⟩ := drawK_ok hp hc hf hr ops _ _ _ _ _ _ _ _ e
  rw [R.bok h1]
  exact ⟨_, rfl, h2⟩
 | false =>
  simp only [cond_false] at e ⊢
  obtain ⟨x, h1, h2⟩ := opsK_ok hp hc hf hr ro ops _ _ _ _ e
  rw [R.bok h1]
  exact ⟨_, rfl, h2⟩
theorem condK_ok {s : St} {x : Operand} {F : St → Bool → Option β} {r : β} (e : condK c s x F = some r) : ∃ v, ev c s.T x = some (.bool v) ∧ F s v = some r := by
 unfold condK at e
 split at e
 ·rename_i t
  obtain ⟨e1, e⟩ := bif_some e
  simp only [Bool.and_eq_true] at e1
  split at e
  ·rename_i v hv
   refine ⟨v, by unfold ev; simp only [e1.1, cond_true, hv], ?_⟩
   cases v with
   | true =>
    simp only [cond_true] at e
    rw [litT_id hv e1.2] at e
    exact e
   | false =>
    simp only [cond_false] at e
    rw [litT_id hv e1.2] at e
    exact e
  ·cases e
 ·split at e
  ·rename_i v hv
   refine ⟨v, hv, ?_⟩
   cases v <;> exact e
  ·cases e
def lpOfG (lt : Code → St → Option (GT (Ex × St))) : Code → St → Option (List (Ex × St)) := fun a s => (lt a s).bind fun t => t.eval.map fun x => [x]
theorem thenK_ok {l : R (List (Ex × St))} {f : St → Option β} {g : St → Outs} {K : Ex × St → Option β} {r : β} (h : One l (thenK f K) r) (hg : ∀ s, f s = some r → One (g s) K r) : One (l.bind fun l => thenD l g) K r := by
 obtain ⟨p, rfl, h2⟩ := h
 show One (thenD [p] g) K r
 unfold thenD
 rw [bindL_one]
 unfold thenK at h2
 obtain ⟨ex, s⟩ := p
 cases ex with
 | normal => exact hg s h2
 | exit i => exact ⟨_, rfl, h2⟩
 | ret => exact ⟨_, rfl, h2⟩
theorem loopK_ok {f : St → (Ex × St → Option β) → Option β} {g : St → Outs} (a : Code) (s0 : St) (hfg : ∀ s K r, f s K = some r → One (g s) K r) : ∀ (k : Nat) (s : St) (K : Ex × St → Option β) (r : β), loopK f k s K = some r → One (loopD c a g s0 k [s]) K r
 | 0, s, K, r, e => by cases e
 | k + 1, s, K, r, e => by
  unfold loopK at e
  unfold loopD
  obtain ⟨p, h1, h2⟩ := hfg s _ r e
  rw [bindL_one, R.bok h1]
  unfold thenK at h2
  obtain ⟨ex, s'⟩ := p
  cases ex with
  | normal =>
   show One ((loopD c a g s0 k [s']).bind _) K r
   obtain ⟨x, h3, h4⟩ := loopK_ok a s0 hfg k s' K r h2
   rw [R.bok h3]
   exact ⟨x, rfl, h4⟩
  | exit i => exact ⟨_, rfl, h2⟩
  | ret => exact ⟨_, rfl, h2⟩
theorem lpK_ok {ro : Bool} {lt : Code → St → Option (GT (Ex × St))} {a : Code} {s : St} {t : GT (Ex × St)} {K : Ex × St → Option β} {r : β} (h : lpK ro lt a s = some t) (e : t.kont (upK s K) = some r) : ∃ x, lpD ro (lpOfG lt) a s = some [x] ∧ K x = some r := by
 unfold lpK at h
 unfold lpD
 cases ro with
 | true => cases h
 | false =>
  simp only [cond_false] at h ⊢
  obtain ⟨x, h1, h2⟩ := GT.kont_eval e
  obtain ⟨h3, h4⟩ := bif_some h2
  refine ⟨x, ?_, h4⟩
  unfold lpOfG
  rw [h]
  simp only [Option.bind_some, h1, Option.map_some, h3, cond_true]
theorem lpK_none {ro : Bool} {lt : Code → St → Option (GT (Ex × St))} {a : Code} {s : St} (h : lpK ro lt a s = none) : lpD ro (lpOfG lt) a s = none := by
 unfold lpK at h
 unfold lpD
 cases ro with
 | true => rfl
 | false =>
  simp only [cond_false] at h ⊢
  unfold lpOfG
  rw [h]; rfl
theorem codeK_ok (hp : c.prim = primOfG gp) (hc : CallSim call cd) (hf : c.facts = []) (hr : c.rows = []) (lt : Code → St → Option (GT (Ex × St))) (ro : Bool) : ∀ (k : Nat) (q : Code) (s : St) (K : Ex × St → Option β) (r : β), codeK c gp call lt ro k q s K = some r → One (codeD c cd (lpOfG lt) ro k q s) K r
 | 0, q, s, K, r, e => by cases e
 | k + 1, q, s, K, r, e => by
  unfold codeK at e
  unfold codeD
  cases q with
  | skip => exact ⟨_, rfl, e⟩
  | label _ => exact ⟨_, rfl, e⟩
  | region _ ops d => exact regK_ok hp hc hf hr e
  | seq a b => exact thenK_ok (codeK_ok hp hc hf hr lt ro k a s _ r e) fun s h => codeK_ok hp hc hf hr lt ro k b s K r h
  | cond x a b =>
   obtain ⟨v, h1, e⟩ := condK_ok e
   simp only [h1]
   cases v with
   | true => exact codeK_ok hp hc hf hr lt ro k a s K r e
   | false => exact codeK_ok hp hc hf hr lt ro k b s K r e
  | block id a =>
   obtain ⟨p, h1, h2⟩ := codeK_ok hp hc hf hr lt ro k a s _ r e
   show One ((codeD c cd (lpOfG lt) ro k a s).bind _) K r
   rw [R.bok h1]
   exact ⟨_, rfl, h2⟩
  | loop a =>
   dsimp only at e ⊢
   split at e
   ·rename_i t ht
    obtain ⟨x, h1, h2⟩ := lpK_ok ht e
    rw [h1]
    exact ⟨x, rfl, h2⟩
   ·rename_i ht
    rw [lpK_none ht]
    exact loopK_ok a s (fun s K r h => codeK_ok hp hc hf hr lt ro k a s K r h) k s K r e
  | exit id => exact ⟨_, rfl, e⟩
  | ret => exact ⟨_, rfl, e⟩
  | _ => cases e
theorem ret_one {fn : Func} {k : Nat} {l : Outs} {h : Hp} {p : Ex × St} {K : Out → Option β} {r : β} (h1 : l = .ok [p]) (h2 : retK c fn K p = some r) : One ((retD c (callD c k) fn [p]).bind fun outs => .ok outs) K r := by
 obtain ⟨ex, s⟩ := p
 obtain ⟨T, hp, w, d⟩ := s
 unfold retK at h2
 have key : ∀ e0 : Ex, (∀ i, e0 ≠ .exit i) → (match d with | [] => (match resD c T hp fn.results.toList with | some vs => K (oneV vs, hp, w) | none => none) | _ => none) = some r → One ((retD c (callD c k) fn [(e0, ⟨T, hp, w, d⟩)]).bind fun outs => .ok outs) K r := by
  intro e0 he h2
  cases d with
  | cons a l => cases h2
  | nil =>
   dsimp only at h2
   split at h2
   ·rename_i vs hv
    have hret : retD c (callD c k) fn [(e0, ⟨T, hp, w, []⟩)] = .ok [(oneV vs, hp, w)] := by
     unfold retD
     rw [bindL_one]
     cases e0 with
     | exit i => exact absurd rfl (he i)
     | normal => show ((leaveD c (callD c k) [] hp w).bind _) = _; unfold leaveD; rw [R.bok (x := R.ok [(hp, w)]) rfl, bindL_one]; show (R.of _ (resD c T hp fn.results.toList)).bind _ = _; rw [hv]; rfl
     | ret => show ((leaveD c (callD c k) [] hp w).bind _) = _; unfold leaveD; rw [R.bok (x := R.ok [(hp, w)]) rfl, bindL_one]; show (R.of _ (resD c T hp fn.results.toList)).bind _ = _; rw [hv]; rfl
    rw [R.bok hret]
    exact ⟨_, rfl, h2⟩
   ·cases h2
 cases ex with
 | exit i => cases h2
 | normal => exact key .normal (fun i h => by cases h) (by cases d <;> exact h2)
 | ret => exact key .ret (fun i h => by cases h) (by cases d <;> exact h2)
theorem callK_ok (hp : c.prim = primOfG gp) (hf : c.facts = []) (hr : c.rows = []) (lt : FuncId → Code → St → Option (GT (Ex × St))) (hl : c.lops = fun f => lpOfG (lt f)) : ∀ k, CallSim (β := β) (callK c gp lt k) (callD c k)
 | 0, f, args, h, K, r, e => by
  unfold callK at e
  cases e
 | k + 1, f, args, h, K, r, e => by
  cases f with
  | yld b => unfold callK at e; cases e
  | dfr b => unfold callK at e; cases e
  | fn f =>
   unfold callK at e
   split at e
   ·rename_i fn hfn
    split at e
    ·rename_i q hq
     obtain ⟨e1, e⟩ := bif_some e
     unfold callD
     simp only [hfn, hq, e1, cond_true]
     obtain ⟨p, h1, h2⟩ := codeK_ok hp (callK_ok hp hf hr lt hl k) hf hr (lt f) false _ _ _ _ _ e
     rw [hl]
     rw [R.bok h1]
     obtain ⟨x, h3, h4⟩ := ret_one (k := k) (h := h) h1 h2
     exact ⟨x, by rw [h3]; rfl, h4⟩
    ·cases e
   ·cases e
end
end
section
open Go
set_option linter.unusedSectionVars false
structure App where
 f : FuncId
 xs : List Value
 r : Value
variable [Eta]
theorem Grow.of_below {w w' : World} (h : RowKit.Below w.heap.size w w') : Grow w w' :=
 ⟨h.size, h.os, h.tape, h.output, fun k cs el fr hk => ⟨cs, by rw [h.block k (Array.getElem?_eq_some_iff.1 hk).1]; exact hk, rfl⟩⟩
theorem Ext.below {base n0 : Nat} {ρ : Emb} {H : Nat → Option Ob} {n : Nat} {w w' : World} (hr : Rel base n0 ρ H w) (h : RowKit.Below w.heap.size w w') : Ext base n0 ρ H n w ρ H n [] w' := by
 have hg := Grow.of_below h
 refine ⟨.refl ρ, fun b x hb => .inl hb, Nat.le_refl _, ⟨fun b o hb => ?_, hr.inj, hr.high, fun b k d hb => Nat.lt_of_lt_of_le (hr.low b k d hb) h.size, ⟨hr.sz.1, Nat.le_trans hr.sz.2 h.size⟩⟩, hg, fun k hk _ => h.block k hk, fun b k d h1 h2 => by omega, fun b hb => .inl rfl, fun b hb => by cases hb⟩
 obtain ⟨k, d, e1, e2⟩ := hr.at_ b o hb
 exact ⟨k, d, e1, e2.grow hg (h.block k (hr.low b k d e1))⟩
end
section
open Go
set_option linter.unusedSectionVars false
section
variable {c c' : Cfg} {base : Nat} {I : World → Prop}
theorem SR_cfg [E : Eta] {c' : Cfg} {ρ : Emb} {s : St} {W : List Nat} {a : Act} {w : World} (hs : SR c base I ρ s a w) (hn : c'.n0 = c.n0) (hG : c'.G = c.G) (hW : ∀ b ∈ W, c.n0 ≤ b) : SR c' base I ρ ⟨s.T, s.h, W, s.d⟩ a w :=
 ⟨hs.tr, hs.dr, by rw [hn]; exact hs.rel, fun g hg => hs.glob g (by rw [← hG]; exact hg), hs.lim, (fun b hb => by rw [hn]; exact hW b hb), hs.inv⟩
def BodyRun (E : Eta) (c : Cfg) (base : Nat) (I : World → Prop) (b : Code) (s : St) (outs : List (Ex × St)) : Prop :=
 ∀ (ρ : Emb) a w, @SR E c base I ρ s a w → (∀ o ∈ outs, Free ρ s.h.n o.2.h.n) → b.wpIn (FW none) 0 c.P (@CQ E c base I ρ s w outs) a w
end
end
section
open Go
set_option linter.unusedSectionVars false
structure LoopC where
 m : Nat
 n : Nat
 R : Nat
 vs : List (Nat × Value)
 objs : List (Nat × Nat)
 posts : List (Ex × List (Nat × Value))
section
variable {c : Cfg} {base : Nat} {I : World → Prop}
theorem roundsIn_mono {F : Fence} {n : Nat} {P : Program} {b : Code} {Q Q' : Exit → Act → World → Prop} (h : ∀ e a w, Q e a w → Q' e a w) : ∀ {i : Nat} {a : Act} {w : World}, Code.roundsIn F n P b Q i a w → Code.roundsIn F n P b Q' i a w
 | 0, a, w, hr => hr.elim
 | i + 1, a, w, hr => by
  rw [roundsIn_succ] at hr ⊢
  refine wpIn_mono hr fun e a' w' hq => ?_
  cases e with
  | normal => exact roundsIn_mono h hq
  | _ => exact h _ _ _ hq
end
end
section
open Go
set_option linter.unusedSectionVars false
section
variable {c c' : Cfg} {base : Nat} {I : World → Prop}
end
end
section
open Go
set_option linter.unusedSectionVars false
section
variable {c : Cfg} {base : Nat} {I : World → Prop}
end
end
section
open Go
set_option linter.unusedSectionVars false
section
variable {c : Cfg} {base : Nat} {I : World → Prop}
theorem body_run (E : Eta) (hc : CfgOk c) (hI : Inv base I) (hmix : c.P.follows .mixedOrders = true) (hname : ∀ f fn, c.fns f = some fn → (fn.name == "runtime.NumGoroutine") = false) (hprim : PrimOk c base I) (hlops : LopsOk c base I)
  {lp : Code → St → Option (List (Ex × St))} {K k : Nat} {b : Code} (hlp : ∀ x ∈ loopsOf b, LpOk c base I lp x) {s : St} {outs : List (Ex × St)} (h : codeD c (callD c K) lp false k b s = .ok outs) : BodyRun E c base I b s outs := by
 have hcall := sound hc hI hmix hname hprim hlops K
 exact fun ρ a w hs hf => code_wp hc hI hcall hprim (regs_ok hc hI hmix hprim hcall) (r := none) (fun _ => rfl) k b (fun _ => hlp) s outs h ρ a w hs hf
end
end
section
open Go
set_option linter.unusedSectionVars false
variable [Eta]
theorem cells_size {W : World} {k : Nat} {cs : Array Value} (h : Cells W k cs) : k < W.heap.size := by
 obtain ⟨el, fr, h1, _⟩ := h
 exact (Array.getElem?_eq_some_iff.1 h1).1
end
section
open Go
set_option linter.unusedSectionVars false
section
variable [E : Eta] {c : Cfg}
theorem call_R {W : World} {I : World → Prop} (hI : Inv W.heap.size I) (hW : I W) (hc : CfgOk c) (hmix : c.P.follows .mixedOrders = true) (hname : ∀ f fn, c.fns f = some fn → (fn.name == "runtime.NumGoroutine") = false)
  (hprim : PrimOk c W.heap.size I) (hlops : LopsOk c W.heap.size I) {k : Nat} {f : FuncId} {args args' : List Value} {h0 : Hp} {outs : List Out} (h : callD c k (.fn f) args h0 = .ok outs) {ρ0 : Emb} (hrel : Rel W.heap.size c.n0 ρ0 h0.t.get W)
  (hglob : Glob c ρ0) (hfree : ∀ x, h0.n ≤ x → ρ0 x = none) (hv : VRL ρ0 W args args') :
  Calls c.P f args'.toArray W fun e W' => ∃ o ∈ outs, ∃ v' ρ', e = .returned v' ∧ VR ρ' W' o.1 v' ∧ Rel W.heap.size c.n0 ρ' o.2.1.t.get W' ∧ RowKit.Below W.heap.size W W' := by
 obtain ⟨fn, h1, h2, h3, h4⟩ := (sound hc hI hmix hname hprim hlops k).fn f args h0 outs h ρ0 W args' ⟨hv, hrel, hglob, hW, fun o ho b h1 h2 => hfree b h1⟩
 refine h4.mono ?_
 rintro e w' ⟨o, ho, v', ρ', rfl, hvr, hx⟩
 exact ⟨o, ho, v', ρ', rfl, hvr, hx.rel, hx.low hrel⟩
end
end
section
open Go
set_option linter.unusedSectionVars false
end
section
open Go
set_option linter.unusedSectionVars false
def i64 (n : Int) : Value := .int .i64 n
section
variable {P : Program} {G n0 : Nat} {eqs : TypeId → Bool} {prim : FuncId → List Value → Hp → Option Value} {facts : List Fact} {rows : List RF} {lops : FuncId → Code → St → Option (List (Ex × St))} {live : Nat → Nat → Option (List Nat)}
theorem cfgL_fns : (cfgL P G n0 eqs prim facts rows lops live).fns = fun f => P.funcs[f]? := rfl
theorem cfgL_P : (cfgL P G n0 eqs prim facts rows lops live).P = P := rfl
theorem cfgL_lops : (cfgL P G n0 eqs prim facts rows lops live).lops = lops := rfl
theorem cfgL_n0 : (cfgL P G n0 eqs prim facts rows lops live).n0 = n0 ∧ (cfgL P G n0 eqs prim facts rows lops live).G = G := ⟨rfl, rfl⟩
end
theorem names_of {P : Program} (hP : (P.funcs.toList.all fun fn => !(fn.name == "runtime.NumGoroutine")) = true) {c : Cfg} (h : c.fns = fun f => P.funcs[f]?) : ∀ f fn, c.fns f = some fn → (fn.name == "runtime.NumGoroutine") = false := by
 intro f fn hf
 rw [h] at hf
 have hm : fn ∈ P.funcs.toList := by
  have : P.funcs[f]? = some fn := hf
  exact Array.mem_toList_iff.2 (Array.mem_of_getElem? this)
 simpa using List.all_eq_true.1 hP fn hm
theorem row_len [Eta] {c : Cfg} {t el : TypeId} {m off n z : Nat} {r : Value} (h1 : c.und t = some (.slice el)) (h2 : (Eta.r m : RefD) = .sl off n z) (h3 : sub r = i64 n) : ∀ b h, lenD h (c.und t) (refOf m b) = some (sub r) := by
 intro b h
 have e1 : refOf m b = .slice (some ⟨b, off, none⟩) n z := by unfold refOf; rw [h2]
 rw [e1, h1, h3]; rfl
noncomputable def bodyOf (P : Program) (f : Nat) : Code := match P.funcs[f]? with | some fn => (match fn.body with | some q => q | none => .skip) | none => .skip
noncomputable def loopAt (P : Program) (f i : Nat) : Code := (loopsOf (bodyOf P f)).getD i .skip
noncomputable def regsOf (P : Program) (f : Nat) : List Nat := (loopsOf (bodyOf P f)).map firstReg
def onlyAt : Nat → List Nat → Nat → Nat → Bool
 | _, [], _, _ => true
 | k, x :: l, r, i => (!Nat.beq x r || Nat.beq k i) && onlyAt (k + 1) l r i
theorem onlyAt_ok : ∀ {l : List Nat} {k r i : Nat}, onlyAt k l r i = true → ∀ j, l[j]? = some r → k + j = i
 | [], k, r, i, h, j, hj => by cases hj
 | x :: l, k, r, i, h, j, hj => by
  simp only [onlyAt, Bool.and_eq_true, Bool.or_eq_true, Bool.not_eq_true'] at h
  cases j with
  | zero =>
   have e : x = r := by simpa using hj
   subst e
   rcases h.1 with h1 | h1
   ·simp at h1
   ·simpa using Nat.eq_of_beq_eq_true h1
  | succ j =>
   have := onlyAt_ok h.2 j (by simpa using hj)
   omega
structure LpT where
 f : FuncId
 reg : Nat
 i : Nat
 lp : Code → St → Option (List (Ex × St))
theorem VRL.pair [Eta] {ρ : Emb} {w : World} {a b : Value} {ys : List Value} (h : VRL ρ w [a, b] ys) : ∃ x y, ys = [x, y] ∧ VR ρ w a x ∧ VR ρ w b y := by
 have hl := h.len
 match ys, hl with
 | [x, y], _ => exact ⟨x, y, rfl, h.at_ 0 a x rfl rfl, h.at_ 1 b y rfl rfl⟩
end
section
open Go
set_option linter.unusedSectionVars false
def SliceIn (W : World) (v : Value) (n sz : Nat) (cs : List Value) : Prop :=
 ∃ k d cs' el fr, W.heap[k]? = some (.cells cs' el fr) ∧ cs.length + d ≤ cs'.size ∧ (∀ i x, cs[i]? = some x → cs'[i + d]? = some x) ∧ ((∃ c, n ≤ c ∧ d + c * sz ≤ cs'.size ∧ v = .slice (some ⟨k, d, none⟩) n c) ∨ (n = 0 ∧ ∃ a : Option Addr, v = .slice a 0 0))
end
section
open Go
set_option linter.unusedSectionVars false
section
variable {c : Cfg} {base : Nat} {I : World → Prop}
end
end
section
open Go
set_option linter.unusedSectionVars false
section
variable {c : Cfg} {base : Nat} {I : World → Prop}
end
end
section
open Go
set_option linter.unusedSectionVars false
end
section
open Go
set_option linter.unusedSectionVars false
@[reducible] def etaB (n : Nat) : Eta := ⟨fun _ => undef, fun _ => .none, fun _ => [], n⟩
abbrev eta0 : Eta := etaB 0
noncomputable def cfgK (P : Program) (n0 : Nat) (gp : PrimG) (lt : FuncId → Code → St → Option (GT (Ex × St))) : Cfg := cfgL P 0 n0 (eqsOf P) (primOfG gp) [] [] (fun f => lpOfG (lt f)) (fun _ _ => none)
theorem cfgK_ok (P : Program) (n0 : Nat) (gp : PrimG) (lt : FuncId → Code → St → Option (GT (Ex × St))) : CfgOk (cfgK P n0 gp lt) :=
 @cfgL_ok (etaB 0) P 0 n0 (eqsOf P) (primOfG gp) [] [] _ _ (fun t h => @eqsOf_ok (etaB 0) P t h)
theorem flat_pf [Eta] {ρ : Emb} {w : World} {v v' : Value} (h : pf v = true) (hr : VR ρ w v v') : v' = v := by
 cases hr <;> first | rfl | cases h
theorem flat_eq [Eta] {ρ : Emb} {w : World} : ∀ (n : Nat) {v v' : Value}, pfd n v = true → VR ρ w v v' → v' = v
 | 0, v, v', h, hr => flat_pf h hr
 | n + 1, v, v', h, hr => by
  have key : ∀ {xs ys : Array Value}, (xs.toList.all (pfd n)) = true → xs.toList.length = ys.toList.length → (∀ (i : Nat) x y, xs.toList[i]? = some x → ys.toList[i]? = some y → VR ρ w x y) → ys = xs := by
   intro xs ys ha hl hat
   apply Array.ext'
   apply List.ext_getElem?
   intro i
   cases e : xs.toList[i]? with
   | none =>
    rw [List.getElem?_eq_none_iff] at e
    exact List.getElem?_eq_none_iff.2 (by omega)
   | some x =>
    have hi := (List.getElem?_eq_some_iff.1 e).1
    have hy : ys.toList[i]? = some (ys.toList[i]'(by omega)) := List.getElem?_eq_getElem _
    rw [hy, flat_eq n (List.all_eq_true.1 ha x (List.mem_of_getElem? e)) (hat i x _ e hy)]
  cases hr with
  | agg xs ys h1 h2 => rw [key h h1 h2]
  | tuple xs ys h1 h2 => rw [key h h1 h2]
  | _ => first | rfl | cases h
theorem pf_VR [Eta] {ρ : Emb} {w : World} {v : Value} (h : pf v = true) : VR ρ w v v := by
 unfold pf at h
 split at h
 ·exact .bool _
 ·exact .int _ _
 ·exact .string _
 ·exact .nilp
 ·exact .nils
 ·exact .nilm
 ·exact .nilFunc
 ·exact .nilIface
 ·cases h
theorem pfd_VR [Eta] {ρ : Emb} {w : World} : ∀ (n : Nat) {v : Value}, pfd n v = true → VR ρ w v v
 | 0, v, h => pf_VR h
 | n + 1, v, h => by
  have key : ∀ {xs : Array Value}, (xs.toList.all (pfd n)) = true → ∀ (i : Nat) x y, xs.toList[i]? = some x → xs.toList[i]? = some y → VR ρ w x y := by
   intro xs ha i x y hx hy
   rw [hx] at hy; cases hy
   exact pfd_VR n (List.all_eq_true.1 ha x (List.mem_of_getElem? hx))
  unfold pfd at h
  split at h
  ·exact .agg _ _ rfl (key h)
  ·exact .tuple _ _ rfl (key h)
  ·exact pf_VR h
section
variable {P : Program} {n0 : Nat} {gp : PrimG} {lt : FuncId → Code → St → Option (GT (Ex × St))}
theorem kcallD {k : Nat} {f : FuncId} {args : List Value} {h : Hp} {v : Value} (e : callK (cfgK P n0 gp lt) gp lt k (.fn f) args h (fun o => some o.1) = some v) : ∃ x, callD (cfgK P n0 gp lt) k (.fn f) args h = .ok [x] ∧ x.1 = v := by
 obtain ⟨x, h1, h2⟩ := callK_ok (c := cfgK P n0 gp lt) (gp := gp) rfl rfl rfl lt rfl k _ _ _ _ _ e
 exact ⟨x, h1, Option.some.inj h2⟩
theorem kcall {W : World} {I : World → Prop} (hI : Inv W.heap.size I) (hW : I W) (hmix : P.follows .mixedOrders = true) (hnames : (P.funcs.toList.all fun fn => !(fn.name == "runtime.NumGoroutine")) = true)
  (hprim : @PrimOk (etaB W.heap.size) (cfgK P n0 gp lt) W.heap.size I) (hlops : @LopsOk (etaB W.heap.size) (cfgK P n0 gp lt) W.heap.size I) {k : Nat} {f : FuncId} {args args' : List Value} {h0 : Hp} {v : Value} (hv : pfd 3 v = true)
  (e : callK (cfgK P n0 gp lt) gp lt k (.fn f) args h0 (fun o => some o.1) = some v) {ρ0 : Emb} (hrel : @Rel (etaB W.heap.size) W.heap.size n0 ρ0 h0.t.get W) (hfree : ∀ x, h0.n ≤ x → ρ0 x = none) (ha : @VRL (etaB W.heap.size) ρ0 W args args') :
  Calls P f args'.toArray W fun e W' => e = .returned v ∧ RowKit.Below W.heap.size W W' := by
 obtain ⟨x, h1, h2⟩ := kcallD e
 have hr := @call_R (etaB W.heap.size) (cfgK P n0 gp lt) W I hI hW (cfgK_ok P n0 gp lt) (by show (cfgL _ _ _ _ _ _ _ _ _).P.follows _ = true; rw [cfgL_P]; exact hmix) (names_of hnames cfgL_fns) hprim hlops k f args args' h0 [x] h1 ρ0 (by
  rw [show (cfgK P n0 gp lt).n0 = n0 from cfgL_n0.1]; exact hrel) (fun g hg => by
   rw [show (cfgK P n0 gp lt).G = 0 from cfgL_n0.2] at hg; omega) hfree ha
 rw [show (cfgK P n0 gp lt).P = P from cfgL_P] at hr
 refine hr.mono ?_
 rintro e w' ⟨o, ho, v', ρ', rfl, hvr, _, hb⟩
 obtain rfl := List.mem_singleton.1 ho
 rw [h2] at hvr
 rw [@flat_eq (etaB W.heap.size) ρ' w' 3 v v' hv hvr]
 exact ⟨rfl, hb⟩
end
end
section
open Go
set_option linter.unusedSectionVars false
def renC (n : Nat) (L : List Nat) (b : Nat) : Option Nat := match idx L b with
 | some i => some (n + i)
 | none => bif Nat.blt b n then some b else none
def carT (t : PT Ob) (n : Nat) : List (List Value) → PT Ob
 | [] => t
 | cs :: l => carT (t.put n (some (.cells cs))) (n + 1) l
def roT : List (Nat × List Value) → PT Ob
 | [] => .leaf
 | p :: l => (roT l).put p.1 (some (.cells p.2))
def killL (t : PT Ob) : List Nat → PT Ob
 | [] => t
 | b :: l => killL (t.put b none) l
variable [Eta]
theorem carT_get : ∀ (l : List (List Value)) (t : PT Ob) (n b : Nat), n + l.length ≤ lim → (carT t n l).get b = if n ≤ b ∧ b < n + l.length then (l[b - n]?).map .cells else t.get b
 | [], t, n, b, h => by
  rw [if_neg (by simp only [List.length_nil]; omega)]; rfl
 | cs :: l, t, n, b, h => by
  have h : n + (l.length + 1) ≤ lim := h
  unfold carT
  rw [carT_get l _ (n + 1) b (by omega)]
  by_cases e : b = n
  ·subst e
   rw [if_neg (by omega), if_pos ⟨Nat.le_refl _, by simp⟩, PT.get_put_same _ _ _ (by omega)]
   simp
  ·rw [PT.get_put_other _ _ _ _ e]
   by_cases e2 : n ≤ b ∧ b < n + (cs :: l).length
   ·have e2' := e2; simp only [List.length_cons] at e2'
    rw [if_pos e2, if_pos (by omega), show b - n = (b - (n + 1)) + 1 by omega]
    simp
   ·have e2' := e2; simp only [List.length_cons] at e2'
    rw [if_neg e2, if_neg (by omega)]
theorem killL_get : ∀ (L : List Nat) (t : PT Ob) (b : Nat), (∀ x ∈ L, x < lim) → (killL t L).get b = if b ∈ L then none else t.get b
 | [], t, b, h => by simp [killL]
 | x :: l, t, b, h => by
  unfold killL
  rw [killL_get l _ b (fun y hy => h y (List.mem_cons_of_mem _ hy))]
  by_cases e : b ∈ l
  ·rw [if_pos e, if_pos (List.mem_cons_of_mem _ e)]
  ·rw [if_neg e]
   by_cases e2 : b = x
   ·subst e2; rw [if_pos List.mem_cons_self, PT.get_put_same _ _ _ (h b List.mem_cons_self)]
   ·rw [if_neg (by simp [e, e2]), PT.get_put_other _ _ _ _ e2]
theorem roT_get : ∀ {l : List (Nat × List Value)} {b : Nat} {o : Ob}, (∀ p ∈ l, p.1 < _root_.Go.Proofs.YtaiokpmmjbiajaaGreatDoorDx.lim) → (roT l).get b = some o → ∃ cs, (b, cs) ∈ l ∧ o = .cells cs
 | [], b, o, _, h => by rw [roT, PT.get_leaf] at h; cases h
 | p :: l, b, o, hl, h => by
  rw [roT] at h
  by_cases e : b = p.1
  ·subst e
   rw [PT.get_put_same _ _ _ (hl p List.mem_cons_self)] at h
   cases h
   exact ⟨p.2, List.mem_cons_self, rfl⟩
  ·rw [PT.get_put_other _ _ _ _ e] at h
   obtain ⟨cs, h1, h2⟩ := roT_get (fun q hq => hl q (List.mem_cons_of_mem _ hq)) h
   exact ⟨cs, List.mem_cons_of_mem _ h1, h2⟩
theorem OR_cells_any {ρ ρ' : Emb} {w : World} {k d : Nat} {cs : List Value} (hs : cs.all scalV = true) (h : OR ρ w k d (.cells cs)) : OR ρ' w k d (.cells cs) := by
 obtain ⟨cs', h1, h2, h3⟩ := h
 refine ⟨cs', h1, h2, fun i x y hx hy => ?_⟩
 have hs := List.all_eq_true.1 hs x (List.mem_of_getElem? hx)
 rw [scal_inv hs (h3 i x y hx hy)]
 exact scal_VR hs
theorem recarry {base n0 n R : Nat} {ρ ρ1 : Emb} {H0 H1 : Nat → Option Ob} {w0 w : World} {n1 : Nat} {W1 L0 L : List Nat} {cars : List (List Value)} {ro : PT Ob}
  (hrel : Rel base n0 ρ H0 w0) (hfree : Free ρ n (n + R)) (hn0 : n0 ≤ n) (hL0 : ∀ b ∈ L0, n0 ≤ b ∧ b < n ∧ H0 b ≠ none) (hH0 : ∀ b, n ≤ b → H0 b = none) (hro : ∀ b o, ro.get b = some o → b < n ∧ b ∉ L0 ∧ H0 b = some o ∧ ∃ cs, o = .cells cs ∧ cs.all scalV = true)
  (hH : ∀ b o, H0 b = some o → b ∈ L0 ∨ ro.get b = some o) (hx : Ext base n0 ρ H0 n w0 ρ1 H1 n1 W1 w) (hW1 : ∀ b ∈ W1, n ≤ b ∨ b ∈ L0) (hnd : nodupB L = true) (hL : ∀ b ∈ L, (n ≤ b ∧ b < n1) ∨ b ∈ L0) (hlen : cars.length = L.length)
  (hlim : n + cars.length ≤ lim) (hR : cars.length ≤ R) (hobj : ∀ (i : Nat) r, L[i]? = some r → ∃ cs cs', H1 r = some (.cells cs) ∧ cars[i]? = some cs' ∧ mapO (renV (renC n L) depthV) cs = some cs') :
  ∃ ρ2, Ext base n0 ρ H0 n w0 ρ2 (carT ro n cars).get (n + cars.length) L0 w ∧ ∀ b b' x, renC n L b = some b' → ρ1 b = some x → ρ2 b' = some x := by
 let ρ2 : Emb := fun b => if n ≤ b then (match L[b - n]? with | some r => ρ1 r | none => ρ b) else ρ b
 have lowρ : ∀ b, b < n → ρ2 b = ρ b := fun b hb => if_neg (by omega)
 have carρ : ∀ i r, L[i]? = some r → ρ2 (n + i) = ρ1 r := fun i r h => by
  show (if n ≤ n + i then (match L[n + i - n]? with | some r => ρ1 r | none => ρ (n + i)) else ρ (n + i)) = _
  rw [if_pos (by omega), Nat.add_sub_cancel_left, h]
 have farρ : ∀ b, n + cars.length ≤ b → ρ2 b = ρ b := fun b hb => by
  show (if n ≤ b then (match L[b - n]? with | some r => ρ1 r | none => ρ b) else ρ b) = _
  rw [if_pos (by omega), List.getElem?_eq_none (by omega)]
 have inL : ∀ b, n ≤ b → b < n + cars.length → ∃ r, L[b - n]? = some r := fun b h1 h2 => ⟨L[b - n]'(by omega), List.getElem?_eq_getElem _⟩
 have cut : ∀ b k d, ρ2 b = some (k, d) → (∃ r, n ≤ b ∧ b < n + cars.length ∧ L[b - n]? = some r ∧ ρ1 r = some (k, d)) ∨ (ρ b = some (k, d) ∧ (b < n ∨ n + cars.length ≤ b)) := fun b k d h => by
  by_cases h1 : n ≤ b
  ·by_cases h2 : b < n + cars.length
   ·obtain ⟨r, hr⟩ := inL b h1 h2
    have := carρ (b - n) r hr
    rw [show n + (b - n) = b by omega, h] at this
    exact .inl ⟨r, h1, h2, hr, this.symm⟩
   ·rw [farρ b (by omega)] at h
    exact .inr ⟨h, .inr (by omega)⟩
  ·rw [lowρ b (by omega)] at h
   exact .inr ⟨h, .inl (by omega)⟩
 have low1 : ∀ b x, b < n → ρ1 b = some x → ρ b = some x := fun b x hb h => (hx.dom b x h).elim id (fun h => by omega)
 have memL : ∀ i r, L[i]? = some r → (n ≤ r ∧ r < n1) ∨ r ∈ L0 := fun i r h => hL r (List.mem_of_getElem? h)
 have hren : ∀ b b' x, renC n L b = some b' → ρ1 b = some x → ρ2 b' = some x := fun b b' x h1 h2 => by
  unfold renC at h1
  split at h1
  ·rename_i i hi
   cases h1
   rw [carρ i b (idx_some hi)]; exact h2
  ·cases e : Nat.blt b n with
   | false => rw [e] at h1; cases h1
   | true =>
    rw [e] at h1
    cases h1
    have hb := blt_t e
    rw [lowρ b hb]
    exact low1 b x hb h2
 have getc : ∀ b, (carT ro n cars).get b = if n ≤ b ∧ b < n + cars.length then (cars[b - n]?).map .cells else ro.get b := fun b => carT_get cars ro n b hlim
 have roH1 : ∀ b o, ro.get b = some o → H1 b = some o := fun b o h => by
  obtain ⟨h1, h2, h3, _⟩ := hro b o h
  rcases hx.old b (.inl h1) with g | ⟨g, _⟩
  ·rw [g]; exact h3
  ·rcases hW1 b g with g | g
   ·omega
   ·exact absurd g h2
 have objs : ∀ b, (carT ro n cars).get b ≠ none → (∃ r, n ≤ b ∧ b < n + cars.length ∧ L[b - n]? = some r ∧ H1 r ≠ none ∧ ρ2 b = ρ1 r) ∨ (b < n ∧ b ∉ L0 ∧ H1 b ≠ none ∧ ρ2 b = ρ b ∧ ∃ o, ro.get b = some o) := fun b h => by
  rw [getc] at h
  by_cases e : n ≤ b ∧ b < n + cars.length
  ·obtain ⟨r, hr⟩ := inL b e.1 e.2
   obtain ⟨cs, cs', g1, g2, g3⟩ := hobj (b - n) r hr
   have := carρ (b - n) r hr
   rw [show n + (b - n) = b by omega] at this
   exact .inl ⟨r, e.1, e.2, hr, by rw [g1]; simp, this⟩
  ·rw [if_neg e] at h
   cases ho : ro.get b with
   | none => exact absurd ho h
   | some o =>
    obtain ⟨h1, h2, h3, h4⟩ := hro b o ho
    exact .inr ⟨h1, h2, by rw [roH1 b o ho]; simp, lowρ b h1, o, rfl⟩
 refine ⟨ρ2, ⟨fun b x hb => ?_, fun b x hb => ?_, by omega, ⟨fun b o hb => ?_, fun b b' k d d' z hb hb' h1 h2 => ?_, fun b k d h1 h2 => ?_, fun b k d h => ?_, hx.rel.sz⟩, hx.grow, fun k hk hf => ?_, fun b k d h1 h2 h3 h4 => ?_, fun b hb => ?_, fun b hb => (hL0 b hb).1⟩, hren⟩
 ·by_cases h : n ≤ b
  ·by_cases h2 : b < n + cars.length
   ·rw [hfree b h (by omega)] at hb; cases hb
   ·rw [farρ b (by omega)]; exact hb
  ·rw [lowρ b (by omega)]; exact hb
 ·obtain ⟨k, d⟩ := x
  rcases cut b k d hb with ⟨r, h1, h2, _⟩ | ⟨h, _⟩
  ·exact .inr ⟨h1, h2⟩
  ·exact .inl h
 ·rw [getc] at hb
  by_cases e : n ≤ b ∧ b < n + cars.length
  ·rw [if_pos e] at hb
   obtain ⟨r, hr⟩ := inL b e.1 e.2
   obtain ⟨cs, cs', g1, g2, g3⟩ := hobj (b - n) r hr
   rw [g2] at hb
   cases hb
   obtain ⟨k, d, e1, e2⟩ := hx.rel.at_ r _ g1
   have := carρ (b - n) r hr
   rw [show n + (b - n) = b by omega] at this
   exact ⟨k, d, by rw [this]; exact e1, OR.ren hren e2 (by simp only [renO, g3, Option.map_some])⟩
  ·rw [if_neg e] at hb
   obtain ⟨h1, h2, h3, cs, rfl, h4⟩ := hro b o hb
   obtain ⟨k, d, e1, e2⟩ := hx.rel.at_ b _ (roH1 b _ hb)
   exact ⟨k, d, by rw [lowρ b h1]; exact low1 b _ h1 e1, OR_cells_any h4 e2⟩
 ·rcases objs b hb with ⟨r, a1, a2, a3, a4, a5⟩ | ⟨a1, a2, a3, a5, _⟩ <;> rcases objs b' hb' with ⟨r', c1, c2, c3, c4, c5⟩ | ⟨c1, c2, c3, c5, _⟩
  ·rw [a5] at h1; rw [c5] at h2
   have := hx.rel.inj r r' k d d' z a4 c4 h1 h2
   subst this
   have := nodupB_inj hnd _ _ _ a3 c3
   omega
  ·rw [a5] at h1; rw [c5] at h2
   have := hx.rel.inj r b' k d d' z a4 c3 h1 (hx.le _ _ h2)
   subst this
   rcases memL _ _ a3 with g | g
   ·omega
   ·exact absurd g c2
  ·rw [a5] at h1; rw [c5] at h2
   have := hx.rel.inj b r' k d d' z a3 c4 (hx.le _ _ h1) h2
   subst this
   rcases memL _ _ c3 with g | g
   ·omega
   ·exact absurd g a2
  ·rw [a5] at h1; rw [c5] at h2
   exact hx.rel.inj b b' k d d' z a3 c3 (hx.le _ _ h1) (hx.le _ _ h2)
 ·rcases cut b k d h2 with ⟨r, a1, a2, a3, a4⟩ | ⟨a1, _⟩
  ·refine hx.rel.high r k d ?_ a4
   rcases memL _ _ a3 with g | g
   ·omega
   ·exact (hL0 r g).1
  ·exact hrel.high b k d h1 a1
 ·rcases cut b k d h with ⟨r, a1, a2, a3, a4⟩ | ⟨a1, _⟩
  ·exact hx.rel.low r k d a4
  ·exact hx.rel.low b k d (hx.le _ _ a1)
 ·refine hx.frame k hk fun b hb hne d => ?_
  rcases hW1 b hb with g | g
  ·exact absurd (hH0 b g) hne
  ·exact hf b g hne d
 ·rcases objs b h3 with ⟨r, a1, a2, a3, a4, a5⟩ | ⟨a1, _⟩
  ·rw [a5] at h4
   rcases memL _ _ a3 with g | g
   ·rcases hx.new r k d g.1 g.2 a4 h4 with e | ⟨b0, e1, e2, e3⟩
    ·exact .inl e
    ·rcases hW1 b0 e1 with q | q
     ·exact absurd (hH0 b0 q) e2
     ·exact .inr ⟨b0, q, e2, e3⟩
   ·exact .inr ⟨r, g, (hL0 r g).2.2, d, low1 r _ (hL0 r g).2.1 h4⟩
  ·omega
 ·rw [getc]
  rcases hb with hb | hb
  ·rw [if_neg (by omega)]
   cases ho : ro.get b with
   | some o => exact .inl ((hro b o ho).2.2.1).symm
   | none =>
    cases hh : H0 b with
    | none => exact .inl rfl
    | some o =>
     rcases hH b o hh with g | g
     ·exact .inr ⟨g, by simp⟩
     ·rw [ho] at g; cases g
  ·rw [if_neg (by omega), hH0 b (by omega)]
   cases ho : ro.get b with
   | none => exact .inl rfl
   | some o => have := (hro b o ho).1; omega
end
section
open Go
set_option linter.unusedSectionVars false
def tmpsL (t : PT Value) : List (Nat × Value) → PT Value
 | [] => t
 | p :: l => tmpsL (t.put p.1 (some p.2)) l
theorem tmpsL_get [Eta] : ∀ (l : List (Nat × Value)) (t0 : PT Value) (t : Nat) (v : Value), t < lim → (tmpsL t0 l).get t = some v → (t, v) ∈ l ∨ t0.get t = some v
 | [], t0, t, v, ht, h => .inr h
 | p :: l, t0, t, v, ht, h => by
  rcases tmpsL_get l _ t v ht h with h1 | h1
  ·exact .inl (List.mem_cons_of_mem _ h1)
  ·by_cases e : t = p.1
   ·subst e
    rw [PT.get_put_same _ _ _ ht] at h1
    cases h1
    exact .inl (by obtain ⟨p1, p2⟩ := p; simp)
   ·rw [PT.get_put_other _ _ _ _ e] at h1
    exact .inr h1
structure KX where
 vs : List (Nat × Value)
 cars : List (List Value)
abbrev Rows := List (Nat × List Value)
def stK (m n : Nat) (ro : Rows) (x : KX) : St := ⟨⟨tmpsL .leaf x.vs, m⟩, ⟨carT (roT ro) n x.cars, n + x.cars.length⟩, [], []⟩
structure EndTo (n R m : Nat) (s : St) (x : KX) (L : List Nat) : Prop where
 em : s.T.m = m
 ed : s.d = []
 ew : ∀ b ∈ s.w, n ≤ b
 en : s.h.n ≤ n + R
 nd : nodupB L = true
 mem : ∀ b ∈ L, n ≤ b ∧ b < s.h.n
 len : x.cars.length = L.length
 obj : ∀ (i : Nat) r, L[i]? = some r → ∃ cs cs', s.h.t.get r = some (.cells cs) ∧ x.cars[i]? = some cs' ∧ mapO (renV (renC n L) depthV) cs = some cs'
 slots : ∀ p ∈ x.vs, ∃ v0, s.T.get p.1 = some v0 ∧ renV (renC n L) depthV v0 = some p.2
inductive ChainK (Step : KX → Ex → KX → Prop) : KX → Ex → KX → Prop where
 | stop {x ex y} (h : ex ≠ .normal) (k : Step x ex y) : ChainK Step x ex y
 | next {x y ex z} (k : Step x .normal y) (h : ChainK Step y ex z) : ChainK Step x ex z
section
variable [E : Eta] {c : Cfg} {base : Nat} {I : World → Prop}
def StepK (c : Cfg) (base : Nat) (I : World → Prop) (b : Code) (m n R : Nat) (ro : Rows) (x : KX) (ex : Ex) (y : KX) : Prop :=
 ∃ (c1 : Cfg) (s : St) (L : List Nat), c1.P = c.P ∧ c1.n0 = c.n0 ∧ c1.G = c.G ∧ BodyRun E c1 base I b (stK m n ro x) [(ex, s)] ∧ EndTo n R m s y L ∧ y.cars.length ≤ R
theorem form_SR {n m : Nat} {ro : Rows} {ρ ρ2 : Emb} {s : St} {a : Act} {w : World} {L : List Nat} {x : KX} {H0 : Nat → Option Ob} {ρ0 : Emb} {w0 : World} {n1 : Nat} {W : List Nat} (hG : c.G = 0) (hs : SR c base I ρ s a w) (hm : s.T.m = m) (hd : s.d = [])
  (hsl : ∀ p ∈ x.vs, ∃ v0, s.T.get p.1 = some v0 ∧ renV (renC n L) depthV v0 = some p.2) (hren : ∀ b b' x, renC n L b = some b' → ρ b = some x → ρ2 b' = some x)
  (hx : Ext base c.n0 ρ0 H0 n w0 ρ2 (carT (roT ro) n x.cars).get n1 W w) : SR c base I ρ2 (stK m n ro x) a w := by
 refine ⟨⟨hm ▸ hs.tr.size, fun t ht v hv => ?_⟩, ?_, hx.rel, fun g hg => by omega, hm ▸ hs.lim, fun b hb => (by cases hb), hs.inv⟩
 ·have ht' : t < m := ht
  have hl : m ≤ _root_.Go.Proofs.YtaiokpmmjbiajaaGreatDoorDx.lim := hm ▸ hs.lim
  rcases tmpsL_get x.vs _ t v (Nat.lt_of_lt_of_le ht' hl) hv with g | g
  ·obtain ⟨v0, g1, g2⟩ := hsl _ g
   exact VR.ren hren depthV (hs.tr.at_ t (by rw [hm]; exact ht') v0 g1) g2
  ·rw [PT.get_leaf] at g; cases g
 ·show DR ρ2 w [] a.defers
  have := hs.dr
  rw [hd] at this
  cases hdd : a.defers with
  | nil => trivial
  | cons z l => rw [hdd] at this; exact this.elim
theorem rounds_K {b : Code} {m n R : Nat} {ro : Rows} {ρ : Emb} {H0 : Nat → Option Ob} {w0 : World} {L0 : List Nat} (hG : c.G = 0)
  (hrel : Rel base c.n0 ρ H0 w0) (hfree : Free ρ n (n + R)) (hn0 : c.n0 ≤ n) (hnl : n + R ≤ lim) (hL0 : ∀ b ∈ L0, c.n0 ≤ b ∧ b < n ∧ H0 b ≠ none) (hH0 : ∀ b, n ≤ b → H0 b = none) (hro : ∀ b o, (roT ro).get b = some o → b < n ∧ b ∉ L0 ∧ H0 b = some o ∧ ∃ cs, o = .cells cs ∧ cs.all scalV = true)
  (hH : ∀ b o, H0 b = some o → b ∈ L0 ∨ (roT ro).get b = some o) {x : KX} {ex : Ex} {y : KX} (hch : ChainK (StepK c base I b m n R ro) x ex y) :
  ∀ (ρx : Emb) (a : Act) (w : World), SR c base I ρx (stK m n ro x) a w → Ext base c.n0 ρ H0 n w0 ρx (stK m n ro x).h.t.get (stK m n ro x).h.n L0 w →
   ∃ j, Code.roundsIn (FW none) 0 c.P b (fun e a' w' => EX ex e ∧ ∃ ρ', SR c base I ρ' (stK m n ro y) a' w' ∧ Ext base c.n0 ρ H0 n w0 ρ' (stK m n ro y).h.t.get (stK m n ro y).h.n L0 w' ∧ ex ≠ .normal ∧ y.cars.length ≤ R) j a w := by
 have round : ∀ {x : KX} {ex : Ex} {y : KX}, StepK c base I b m n R ro x ex y → ∀ (ρx : Emb) (a : Act) (w : World), SR c base I ρx (stK m n ro x) a w → Ext base c.n0 ρ H0 n w0 ρx (stK m n ro x).h.t.get (stK m n ro x).h.n L0 w →
   b.wpIn (FW none) 0 c.P (fun e a' w' => EX ex e ∧ ∃ ρ', SR c base I ρ' (stK m n ro y) a' w' ∧ Ext base c.n0 ρ H0 n w0 ρ' (stK m n ro y).h.t.get (stK m n ro y).h.n L0 w' ∧ y.cars.length ≤ R) a w := by
  rintro x ex y ⟨c1, s, L, eP, en, eG, hrun, hend, hcl⟩ ρx a w hs hx
  have hs1 : SR c1 base I ρx (stK m n ro x) a w := SR_cfg (W := []) hs en eG (fun b hb => by cases hb)
  have hfr : Free ρx (stK m n ro x).h.n s.h.n := (hfree.after hx).mono hend.en
  have hr := hrun ρx a w hs1 (fun o ho => by obtain rfl := List.mem_singleton.1 ho; exact hfr)
  rw [eP] at hr
  refine wpIn_mono hr ?_
  rintro e a' w' ⟨o, ho, hex, ρ', hs', hx'⟩
  obtain rfl := List.mem_singleton.1 ho
  rw [en] at hx'
  have hx2 := Ext.trans (hfree.mono hend.en) hrel hx hx'
  obtain ⟨ρ2, k1, k2⟩ := recarry (cars := y.cars) (L := L) hrel hfree hn0 hL0 hH0 hro hH hx2 (fun b hb => (List.mem_append.1 hb).elim (fun h => .inl (hend.ew b h)) .inr) hend.nd (fun b hb => .inl (hend.mem b hb)) hend.len (by omega) hcl hend.obj
  have hs'' : SR c base I ρ' ⟨s.T, s.h, [], s.d⟩ a' w' := SR_cfg (W := []) hs' en.symm eG.symm (fun b hb => by cases hb)
  exact ⟨hex, ρ2, form_SR hG hs'' hend.em hend.ed hend.slots k2 k1, k1, hcl⟩
 have key : ∀ {x : KX} {ex : Ex} {y : KX}, ChainK (StepK c base I b m n R ro) x ex y → ∃ j, ∀ (ρx : Emb) (a : Act) (w : World), SR c base I ρx (stK m n ro x) a w → Ext base c.n0 ρ H0 n w0 ρx (stK m n ro x).h.t.get (stK m n ro x).h.n L0 w →
   Code.roundsIn (FW none) 0 c.P b (fun e a' w' => EX ex e ∧ ∃ ρ', SR c base I ρ' (stK m n ro y) a' w' ∧ Ext base c.n0 ρ H0 n w0 ρ' (stK m n ro y).h.t.get (stK m n ro y).h.n L0 w' ∧ ex ≠ .normal ∧ y.cars.length ≤ R) j a w := by
  intro x ex y hch
  induction hch with
  | stop hne k =>
   rename_i x ex y
   refine ⟨1, fun ρx a w hs hx => ?_⟩
   rw [roundsIn_succ]
   refine wpIn_mono (round k ρx a w hs hx) ?_
   rintro e a' w' ⟨h1, ρ', h2, h3, h4⟩
   cases e with
   | normal =>
    cases ex with
    | normal => exact absurd rfl hne
    | exit i => exact h1.elim
    | ret => exact h1.elim
   | _ => exact ⟨h1, ρ', h2, h3, hne, h4⟩
  | next k hc ih =>
   rename_i x y ex z
   obtain ⟨j, hj⟩ := ih
   refine ⟨j + 1, fun ρx a w hs hx => ?_⟩
   rw [roundsIn_succ]
   refine wpIn_mono (round k ρx a w hs hx) ?_
   rintro e a' w' ⟨h1, ρ', h2, h3, h4⟩
   cases e with
   | normal => exact hj ρ' a' w' h2 h3
   | _ => exact h1.elim
 intro ρx a w hs hx
 obtain ⟨j, hj⟩ := key hch
 exact ⟨j, hj ρx a w hs hx⟩
end
end
section
open Go
set_option linter.unusedSectionVars false
def GT.map {α β : Type} (f : α → β) : GT α → GT β
 | .out x => .out (f x)
 | .no => .no
 | .br b t e => .br b (t.map f) (e.map f)
structure KD where
 m : Nat
 n : Nat
 R : Nat
 keep : List Nat
 ro : List Nat
 car : St → List (Nat × Bool)
 F : KX → Rows → GT (Ex × KX)
def idsC (D : KD) (s : St) : List Nat := (D.car s).map (·.1)
def carCell (f : Nat → Option Nat) (h : Hp) (p : Nat × Bool) : Option (Bool × List Value) :=
 (cellsAt h p.1).bind fun cs => bif p.2 then some (cs.all scalV, cs) else (mapO (renV f depthV) cs).map fun l => (true, l)
def keepC (f : Nat → Option Nat) (s : St) (t : Nat) : Option (Nat × Value) := (s.T.get t).bind fun v => (renV f depthV v).map fun v' => (t, v')
def rowC (h : Hp) (b : Nat) : Option (Nat × List Value) := (cellsAt h b).map fun cs => (b, cs)
def fineK (D : KD) (n0 : Nat) (s : St) : Bool :=
 Nat.beq s.T.m D.m && Nat.beq s.h.n D.n && s.d.isEmpty && Nat.ble n0 D.n && Nat.ble (D.n + D.R) lim && Nat.ble (D.car s).length D.R && nodupB (idsC D s) && (idsC D s).all (fun b => Nat.ble n0 b && Nat.blt b D.n) && D.ro.all (fun b => Nat.blt b D.n && !memB b (idsC D s))
def entK (D : KD) (n0 : Nat) (s : St) : Option (Bool × KX × Rows) :=
 bif fineK D n0 s then (mapO (keepC (renC D.n (idsC D s)) s) D.keep).bind fun vs => (mapO (rowC s.h) D.ro).bind fun ro => (mapO (carCell (renC D.n (idsC D s)) s.h) (D.car s)).map fun cs =>
  (cs.all (·.1) && ro.all (fun p => p.2.all scalV), ⟨vs, cs.map (·.2)⟩, ro)
 else none
def endSt (D : KD) (s : St) (p : Ex × KX) : Ex × St := (p.1, ⟨⟨tmpsL .leaf p.2.vs, D.m⟩, ⟨carT (killL s.h.t (idsC D s)) D.n p.2.cars, D.n + D.R⟩, idsC D s ++ s.w, []⟩)
def ltD (D : KD) (n0 : Nat) (s : St) : Option (GT (Ex × St)) := (entK D n0 s).map fun p => .need p.1 ((D.F p.2.1 p.2.2).map (endSt D s))
theorem GT.map_eval {α β : Type} {f : α → β} {y : β} : ∀ {t : GT α}, (t.map f).eval = some y → ∃ x, t.eval = some x ∧ y = f x
 | .out x, h => ⟨x, rfl, by cases h; rfl⟩
 | .no, h => by cases h
 | .br b t e, h => by
  cases b with
  | true => exact GT.map_eval (t := t) h
  | false => exact GT.map_eval (t := e) h
variable [E : Eta]
theorem renV_scal {f : Nat → Option Nat} {v : Value} (h : scalV v = true) : renV f depthV v = some v := by
 cases v <;> first | rfl | cases h
theorem mapO_scal {f : Nat → Option Nat} : ∀ {l : List Value}, l.all scalV = true → mapO (renV f depthV) l = some l
 | [], _ => rfl
 | x :: l, h => by
  simp only [List.all_cons, Bool.and_eq_true] at h
  unfold mapO
  rw [renV_scal h.1, mapO_scal h.2]; rfl
theorem cellsAt_get {h : Hp} {b : Nat} {cs : List Value} (e : cellsAt h b = some cs) : h.t.get b = some (.cells cs) := by
 unfold cellsAt at e
 split at e
 ·rename_i cs' he; cases e; exact he
 ·cases e
theorem Ext.restore {base n0 n n' N : Nat} {ρ ρ' : Emb} {H H0 H' H2 : Nat → Option Ob} {w w' : World} {L0 : List Nat} (hrel : Rel base n0 ρ H w) (hsub : ∀ b o, H0 b = some o → H b = some o) (hx : Ext base n0 ρ H0 n w ρ' H' n' L0 w')
  (hL0 : ∀ b ∈ L0, n0 ≤ b ∧ b < n ∧ H0 b ≠ none) (hfree : Free ρ n N) (hN : n' ≤ N) (h2 : ∀ b, H2 b = if n ≤ b ∧ b < n' then H' b else if b ∈ L0 then none else H b) : Ext base n0 ρ H n w ρ' H2 N L0 w' := by
 have hne : ∀ b, H0 b ≠ none → H b ≠ none := fun b hb => by
  cases he : H0 b with
  | none => exact absurd he hb
  | some o => rw [hsub b o he]; simp
 have old : ∀ b k d, H b ≠ none → ρ' b = some (k, d) → ρ b = some (k, d) := fun b k d hb h => by
  cases he : H b with
  | none => exact absurd he hb
  | some o =>
   obtain ⟨k1, d1, e1, _⟩ := hrel.at_ b o he
   rw [hx.le _ _ e1] at h
   cases h; exact e1
 have part : ∀ b, H2 b ≠ none → (n ≤ b ∧ b < n' ∧ H' b ≠ none) ∨ (b ∉ L0 ∧ H b ≠ none ∧ ¬ (n ≤ b ∧ b < n')) := fun b hb => by
  rw [h2] at hb
  by_cases e : n ≤ b ∧ b < n'
  ·rw [if_pos e] at hb; exact .inl ⟨e.1, e.2, hb⟩
  ·rw [if_neg e] at hb
   by_cases e2 : b ∈ L0
   ·rw [if_pos e2] at hb; exact absurd rfl hb
   ·rw [if_neg e2] at hb; exact .inr ⟨e2, hb, e⟩
 have mix : ∀ b b' k d d', n ≤ b → b < n' → H' b ≠ none → b' ∉ L0 → H b' ≠ none → ρ' b = some (k, d) → ρ' b' = some (k, d') → False := fun b b' k d d' a1 a2 a3 c1 c2 e1 e2 => by
  have e3 := old b' k d' c2 e2
  rcases hx.new b k d a1 a2 a3 e1 with g | ⟨b0, g1, g2, d0, g3⟩
  ·have := hrel.low b' k d' e3; omega
  ·have := hrel.inj b0 b' k d0 d' (hrel.high b0 k d0 (hL0 b0 g1).1 g3) (hne b0 g2) c2 g3 e3
   subst this
   exact c1 g1
 refine ⟨hx.le, fun b x hb => (hx.dom b x hb).imp id (fun h => ⟨h.1, by omega⟩), Nat.le_trans hx.nn hN, ⟨fun b o hb => ?_, fun b b' k d d' z hb hb' e1 e2 => ?_, hx.rel.high, hx.rel.low, hx.rel.sz⟩, hx.grow, fun k hk hf => hx.frame k hk fun b hb h0 => hf b hb (hne b h0), fun b k d a1 a2 a3 a4 => ?_, fun b hb => ?_, hx.wr⟩
 ·rcases part b (by rw [hb]; simp) with ⟨a1, a2, a3⟩ | ⟨a1, a2, a3⟩
  ·rw [h2, if_pos ⟨a1, a2⟩] at hb
   exact hx.rel.at_ b o hb
  ·rw [h2, if_neg a3, if_neg a1] at hb
   obtain ⟨k, d, e1, e2⟩ := hrel.at_ b o hb
   refine ⟨k, d, hx.le _ _ e1, (e2.le hx.le).grow hx.grow (hx.frame k (hrel.low b k d e1) fun b0 g1 g2 d0 g3 => ?_)⟩
   have := hrel.inj b0 b k d0 d (hrel.high b0 k d0 (hL0 b0 g1).1 g3) (hne b0 g2) a2 g3 e1
   subst this
   exact a1 g1
 ·rcases part b hb with ⟨a1, a2, a3⟩ | ⟨a1, a2, a3⟩ <;> rcases part b' hb' with ⟨c1, c2, c3⟩ | ⟨c1, c2, c3⟩
  ·exact hx.rel.inj b b' k d d' z a3 c3 e1 e2
  ·exact (mix b b' k d d' a1 a2 a3 c1 c2 e1 e2).elim
  ·exact (mix b' b k d' d c1 c2 c3 a1 a2 e2 e1).elim
  ·exact hrel.inj b b' k d d' z a2 c2 (old b k d a2 e1) (old b' k d' c2 e2)
 ·rcases part b a3 with ⟨c1, c2, c3⟩ | ⟨c1, c2, c3⟩
  ·exact (hx.new b k d c1 c2 c3 a4).imp id fun ⟨b0, g1, g2, g3⟩ => ⟨b0, g1, hne b0 g2, g3⟩
  ·have := old b k d c2 a4
   rw [hfree b a1 a2] at this; cases this
 ·rw [h2, if_neg (by omega)]
  by_cases e2 : b ∈ L0
  ·rw [if_pos e2]
   exact .inr ⟨e2, hne b (hL0 b e2).2.2⟩
  ·rw [if_neg e2]; exact .inl rfl
section
variable {c : Cfg} {base : Nat} {I : World → Prop}
theorem lp_K {D : KD} {b : Code} (hG : c.G = 0) (hF : ∀ x ro ex y, (D.F x ro).eval = some (ex, y) → ChainK (StepK c base I b D.m D.n D.R ro) x ex y) : LpOk c base I (lpOfG fun _ s => ltD D c.n0 s) b := by
 intro s outs e ρ a w hs hfr
 unfold lpOfG at e
 obtain ⟨t, e1, e⟩ := opt_bind e
 obtain ⟨r, e2, e3⟩ := Option.map_eq_some_iff.1 e
 unfold ltD at e1
 obtain ⟨⟨g, x, ro⟩, e4, rfl⟩ := Option.map_eq_some_iff.1 e1
 obtain ⟨e5, e6⟩ := GT.need_eval e2
 obtain ⟨⟨ex, y⟩, e7, rfl⟩ := GT.map_eval e6
 subst e3
 unfold entK at e4
 obtain ⟨hfine, e4⟩ := bif_some e4
 obtain ⟨vs, k1, e4⟩ := opt_bind e4
 obtain ⟨ro', k2, e4⟩ := opt_bind e4
 obtain ⟨cs, k3, e4⟩ := Option.map_eq_some_iff.1 e4
 cases e4
 unfold fineK at hfine
 simp only [Bool.and_eq_true, List.all_eq_true, Bool.not_eq_true'] at hfine e5
 obtain ⟨⟨⟨⟨⟨⟨⟨⟨f1, f2⟩, f3⟩, f4⟩, f5⟩, f6⟩, f7⟩, f8⟩, f9⟩ := hfine
 obtain ⟨g1, g2⟩ := e5
 have f1 := beq_t f1
 have f2 := beq_t f2
 have f3 : s.d = [] := List.isEmpty_iff.1 f3
 have f4 := ble_t f4
 have f5 := ble_t f5
 have f6 := ble_t f6
 have hfree : Free ρ D.n (D.n + D.R) := by
  have := hfr _ (List.mem_singleton.2 rfl)
  rw [f2] at this
  exact this
 have hL0lim : ∀ b ∈ idsC D s, b < lim := fun b hb => by
  have := blt_t (f8 b hb).2
  omega
 obtain ⟨m1, m2⟩ := mapO_get k3
 obtain ⟨r1, r2⟩ := mapO_of k2
 have hids : ∀ b ∈ idsC D s, ∃ cs0, s.h.t.get b = some (.cells cs0) := fun b hb => by
  obtain ⟨p, hp, rfl⟩ := List.mem_map.1 hb
  obtain ⟨i, hi⟩ := List.mem_iff_getElem?.1 hp
  obtain ⟨q, _, h2⟩ := m2 i p hi
  unfold carCell at h2
  obtain ⟨cs0, h3, _⟩ := opt_bind h2
  exact ⟨cs0, cellsAt_get h3⟩
 have hrows : ∀ b cs0, (b, cs0) ∈ ro → b ∈ D.ro ∧ s.h.t.get b = some (.cells cs0) := fun b cs0 hb => by
  obtain ⟨b', h1, h2⟩ := r1 _ hb
  unfold rowC at h2
  obtain ⟨cs1, h3, h4⟩ := Option.map_eq_some_iff.1 h2
  cases h4
  exact ⟨h1, cellsAt_get h3⟩
 have hrolim : ∀ p ∈ ro, p.1 < lim := fun p hp => by
  have := blt_t (f9 p.1 (hrows p.1 p.2 hp).1).1
  omega
 let H0 : Nat → Option Ob := fun b => if b ∈ idsC D s then s.h.t.get b else (roT ro).get b
 have hsub : ∀ b o, H0 b = some o → s.h.t.get b = some o := fun b o h => by
  by_cases e : b ∈ idsC D s
  ·have : H0 b = s.h.t.get b := if_pos e
   rw [← this]; exact h
  ·have : H0 b = (roT ro).get b := if_neg e
   rw [this] at h
   obtain ⟨cs0, q1, rfl⟩ := roT_get hrolim h
   exact (hrows b cs0 q1).2
 have hrel0 : Rel base c.n0 ρ H0 w := hs.rel.forget hsub
 have hL0 : ∀ b ∈ idsC D s, c.n0 ≤ b ∧ b < D.n ∧ H0 b ≠ none := fun b hb => by
  obtain ⟨cs0, q⟩ := hids b hb
  refine ⟨ble_t (f8 b hb).1, blt_t (f8 b hb).2, ?_⟩
  rw [show H0 b = s.h.t.get b from if_pos hb, q]; simp
 have hro0 : ∀ b o, (roT ro).get b = some o → b < D.n ∧ b ∉ idsC D s ∧ H0 b = some o ∧ ∃ cs, o = .cells cs ∧ cs.all scalV = true := fun b o h => by
  obtain ⟨cs0, q1, rfl⟩ := roT_get hrolim h
  obtain ⟨q2, q3⟩ := hrows b cs0 q1
  have q4 : b ∉ idsC D s := fun hm => by
   have := (f9 b q2).2
   rw [memB_iff.2 hm] at this; cases this
  exact ⟨blt_t (f9 b q2).1, q4, by rw [show H0 b = (roT ro).get b from if_neg q4]; exact h, cs0, rfl, List.all_eq_true.2 (g2 _ q1)⟩
 have hH0 : ∀ b, D.n ≤ b → H0 b = none := fun b hb => by
  have : b ∉ idsC D s := fun hm => by have := (hL0 b hm).2.1; omega
  rw [show H0 b = (roT ro).get b from if_neg this]
  cases h : (roT ro).get b with
  | none => rfl
  | some o => have := (hro0 b o h).1; omega
 have hH : ∀ b o, H0 b = some o → b ∈ idsC D s ∨ (roT ro).get b = some o := fun b o h => by
  by_cases e : b ∈ idsC D s
  ·exact .inl e
  ·exact .inr (by rw [← show H0 b = (roT ro).get b from if_neg e]; exact h)
 have hlen : (cs.map (·.2)).length = (idsC D s).length := by unfold idsC; simp only [List.length_map]; exact m1.symm
 have hlenR : (cs.map (·.2)).length ≤ D.R := by rw [hlen]; unfold idsC; simpa using f6
 obtain ⟨ρ2, x1, x2⟩ := recarry (cars := cs.map (·.2)) (L := idsC D s) (ro := roT ro) (R := D.R) hrel0 hfree f4 hL0 hH0 hro0 hH (Ext.refl hrel0) (fun b hb => by cases hb) f7 (fun b hb => .inr hb) hlen (by omega) hlenR (fun i r hr => by
  unfold idsC at hr
  rw [List.getElem?_map] at hr
  obtain ⟨p, hp, rfl⟩ := Option.map_eq_some_iff.1 hr
  obtain ⟨q, hq, h2⟩ := m2 i p hp
  unfold carCell at h2
  obtain ⟨cs0, h3, h4⟩ := opt_bind h2
  have hin : p.1 ∈ idsC D s := List.mem_map.2 ⟨p, List.mem_of_getElem? hp, rfl⟩
  refine ⟨cs0, q.2, by rw [show H0 p.1 = s.h.t.get p.1 from if_pos hin]; exact cellsAt_get h3, by rw [List.getElem?_map, hq]; rfl, ?_⟩
  cases hb : p.2 with
  | true =>
   rw [hb] at h4
   cases h4
   have := g1 _ (List.mem_of_getElem? hq)
   exact mapO_scal this
  | false =>
   rw [hb] at h4
   obtain ⟨l, h5, h6⟩ := Option.map_eq_some_iff.1 h4
   cases h6
   exact h5)
 have hsl : ∀ p ∈ vs, ∃ v0, s.T.get p.1 = some v0 ∧ renV (renC D.n (idsC D s)) depthV v0 = some p.2 := fun p hp => by
  obtain ⟨z1, _⟩ := mapO_of k1
  obtain ⟨t, _, h2⟩ := z1 p hp
  unfold keepC at h2
  obtain ⟨v, h3, h4⟩ := opt_bind h2
  obtain ⟨v', h5, rfl⟩ := Option.map_eq_some_iff.1 h4
  exact ⟨v, h3, h5⟩
 have hs0 := form_SR (x := ⟨vs, cs.map (·.2)⟩) (ro := ro) hG hs f1 f3 hsl x2 x1
 obtain ⟨j, hj⟩ := rounds_K hG hrel0 hfree f4 f5 hL0 hH0 hro0 hH (hF _ _ _ _ e7) ρ2 a w hs0 x1
 refine wpIn_loop_rounds j (roundsIn_mono ?_ hj)
 rintro e' a' w' ⟨hex, ρ', hs', hx', hne, hcl⟩
 refine ⟨_, List.mem_singleton.2 rfl, hex, ?_⟩
 have hyl : D.n + y.cars.length ≤ lim := by omega
 have hr2 := Ext.restore (H := s.h.t.get) (H2 := (carT (killL s.h.t (idsC D s)) D.n y.cars).get) (N := D.n + D.R) hs.rel hsub hx' hL0 hfree (show D.n + y.cars.length ≤ D.n + D.R by omega) (fun b => by
  show (carT (killL s.h.t (idsC D s)) D.n y.cars).get b = if D.n ≤ b ∧ b < D.n + y.cars.length then (carT (roT ro) D.n y.cars).get b else _
  rw [carT_get _ _ _ _ hyl, carT_get _ _ _ _ hyl]
  by_cases e : D.n ≤ b ∧ b < D.n + y.cars.length
  ·rw [if_pos e, if_pos e, if_pos e]
  ·rw [if_neg e, if_neg e, killL_get _ _ _ hL0lim])
 have hwr : ∀ b ∈ idsC D s ++ s.w, c.n0 ≤ b := fun b hb => (List.mem_append.1 hb).elim (fun h => (hL0 b h).1) (hs.wr b)
 have hr3 := hr2.weaken (W' := idsC D s ++ s.w) (fun b hb => List.mem_append_left _ hb) hwr
 refine ⟨ρ', ⟨hs'.tr, hs'.dr, hr3.rel, fun g hg => by omega, hs'.lim, hwr, hs'.inv⟩, ?_⟩
 rw [f2]
 exact hr3
end
end
section
open Go
set_option linter.unusedSectionVars false
def endK (n R m : Nat) (keep : Ex → List Nat) (car : Ex → St → List (Nat × Bool)) (p : Ex × St) : Option (Ex × KX) :=
 bif Nat.beq p.2.T.m m && p.2.d.isEmpty && p.2.w.all (fun b => Nat.ble n b) && Nat.ble p.2.h.n (n + R) && nodupB ((car p.1 p.2).map (·.1)) && ((car p.1 p.2).map (·.1)).all (fun b => Nat.ble n b && Nat.blt b p.2.h.n) && Nat.ble (car p.1 p.2).length R then
  (mapO (keepC (renC n ((car p.1 p.2).map (·.1))) p.2) (keep p.1)).bind fun vs => (mapO (carCell (renC n ((car p.1 p.2).map (·.1))) p.2.h) (car p.1 p.2)).bind fun cs =>
   bif cs.all (·.1) then some (p.1, ⟨vs, cs.map (·.2)⟩) else none
 else none
theorem endK_ok [Eta] {n R m : Nat} {keep : Ex → List Nat} {car : Ex → St → List (Nat × Bool)} {p : Ex × St} {ex : Ex} {y : KX} (h : endK n R m keep car p = some (ex, y)) : p.1 = ex ∧ EndTo n R m p.2 y ((car p.1 p.2).map (·.1)) ∧ y.cars.length ≤ R := by
 unfold endK at h
 obtain ⟨h1, h⟩ := bif_some h
 obtain ⟨vs, h2, h⟩ := opt_bind h
 obtain ⟨cs, h3, h⟩ := opt_bind h
 obtain ⟨h4, h⟩ := bif_some h
 cases h
 simp only [Bool.and_eq_true, List.all_eq_true] at h1 h4
 obtain ⟨⟨⟨⟨⟨⟨f1, f2⟩, f3⟩, f4⟩, f5⟩, f6⟩, f7⟩ := h1
 obtain ⟨m1, m2⟩ := mapO_get h3
 refine ⟨rfl, ⟨beq_t f1, List.isEmpty_iff.1 f2, fun b hb => ble_t (f3 b hb), ble_t f4, f5, fun b hb => ⟨ble_t (f6 b hb).1, blt_t (f6 b hb).2⟩, by simp only [List.length_map]; exact m1.symm, fun i r hr => ?_, fun q hq => ?_⟩, by
  simp only [List.length_map]; rw [← m1]; exact ble_t f7⟩
 ·rw [List.getElem?_map] at hr
  obtain ⟨q, hq, rfl⟩ := Option.map_eq_some_iff.1 hr
  obtain ⟨z, hz, h5⟩ := m2 i q hq
  unfold carCell at h5
  obtain ⟨cs0, h6, h7⟩ := opt_bind h5
  refine ⟨cs0, z.2, cellsAt_get h6, by rw [List.getElem?_map, hz]; rfl, ?_⟩
  cases hb : q.2 with
  | true =>
   rw [hb] at h7
   cases h7
   exact mapO_scal (h4 _ (List.mem_of_getElem? hz))
  | false =>
   rw [hb] at h7
   obtain ⟨l, h8, h9⟩ := Option.map_eq_some_iff.1 h7
   cases h9
   exact h8
 ·obtain ⟨z1, _⟩ := mapO_of h2
  obtain ⟨t, _, h5⟩ := z1 q hq
  unfold keepC at h5
  obtain ⟨v, h6, h7⟩ := opt_bind h5
  obtain ⟨v', h8, rfl⟩ := Option.map_eq_some_iff.1 h7
  exact ⟨v, h6, h8⟩
structure LpK where
 f : FuncId
 reg : Nat
 i : Nat
 D : KD
def ltT (n0 : Nat) (l : List LpK) (f : FuncId) (a : Code) (s : St) : Option (GT (Ex × St)) :=
 match l.find? (fun p => Nat.beq p.f f && (Nat.beq p.reg (firstReg a) && Nat.beq p.D.n s.h.n)) with
 | some p => ltD p.D n0 s
 | none => none
section
variable [E : Eta] {c : Cfg} {base : Nat} {I : World → Prop}
theorem lops_K {P : Program} {n0 : Nat} {l : List LpK} (hf : c.fns = fun f => P.funcs[f]?) (hl : c.lops = fun f => lpOfG (ltT n0 l f)) (hn : c.n0 = n0) (hG : c.G = 0)
  (h : ∀ p ∈ l, onlyAt 0 (regsOf P p.f) p.reg p.i = true ∧ ∀ x ro ex y, (p.D.F x ro).eval = some (ex, y) → ChainK (StepK c base I (loopAt P p.f p.i) p.D.m p.D.n p.D.R ro) x ex y) : LopsOk c base I := by
 intro f fn q hfn hq b hb s outs e ρ a w hs hfr
 rw [hl] at e
 unfold lpOfG at e
 obtain ⟨t, e1, e2⟩ := opt_bind e
 unfold ltT at e1
 split at e1
 ·rename_i p hp
  have hpm := List.mem_of_find?_eq_some hp
  have hpp := List.find?_some hp
  simp only [Bool.and_eq_true] at hpp
  obtain ⟨g1, g2⟩ := h p hpm
  have ef := Nat.eq_of_beq_eq_true hpp.1
  have er := Nat.eq_of_beq_eq_true hpp.2.1
  have hbody : bodyOf P p.f = q := by
   rw [hf] at hfn
   have hfn' : P.funcs[p.f]? = some fn := by rw [ef]; exact hfn
   unfold bodyOf
   rw [hfn']
   simp only [hq]
  obtain ⟨j, hj⟩ := List.mem_iff_getElem?.1 hb
  have hr : (regsOf P p.f)[j]? = some p.reg := by
   unfold regsOf
   rw [hbody, List.getElem?_map, hj, er]; rfl
  have := onlyAt_ok g1 j hr
  have hji : j = p.i := by omega
  have hbi : loopAt P p.f p.i = b := by
   unfold loopAt
   rw [hbody, ← hji, List.getD_eq_getElem?_getD, hj]; rfl
  rw [hbi] at g2
  refine lp_K (D := p.D) hG g2 s outs ?_ ρ a w hs hfr
  unfold lpOfG
  rw [hn]
  show (ltD p.D n0 s).bind _ = _
  rw [e1]
  exact e2
 ·cases e1
theorem step_K {P : Program} {n0 : Nat} {gp : PrimG} {lt : FuncId → Code → St → Option (GT (Ex × St))} (hP : c.P = P) (hn : c.n0 = n0) (hG : c.G = 0) (hI : Inv base I) (hmix : P.follows .mixedOrders = true) (hnames : (P.funcs.toList.all fun fn => !(fn.name == "runtime.NumGoroutine")) = true)
  (hc : CfgOk (cfgK P n0 gp lt)) (hprim : PrimOk (cfgK P n0 gp lt) base I) (hlops : LopsOk (cfgK P n0 gp lt) base I) {lp : Code → St → Option (GT (Ex × St))} {b : Code} (hlp : ∀ x ∈ loopsOf b, LpOk (cfgK P n0 gp lt) base I (lpOfG lp) x)
  {k K m n R : Nat} {ro : Rows} {x y : KX} {ex : Ex} {keep : Ex → List Nat} {car : Ex → St → List (Nat × Bool)}
  (run : codeK (cfgK P n0 gp lt) gp (callK (cfgK P n0 gp lt) gp lt K) lp false k b (stK m n ro x) (endK n R m keep car) = some (ex, y)) : StepK c base I b m n R ro x ex y := by
 obtain ⟨p, h1, h2⟩ := codeK_ok (c := cfgK P n0 gp lt) (gp := gp) rfl (callK_ok (c := cfgK P n0 gp lt) (gp := gp) rfl rfl rfl lt rfl K) rfl rfl lp false k b _ _ _ run
 obtain ⟨rfl, h3, h4⟩ := endK_ok h2
 refine ⟨cfgK P n0 gp lt, p.2, _, cfgL_P.trans hP.symm, cfgL_n0.1.trans hn.symm, cfgL_n0.2.trans hG.symm, ?_, h3, h4⟩
 exact body_run E hc hI (by show (cfgL _ _ _ _ _ _ _ _ _).P.follows _ = true; rw [cfgL_P]; exact hmix) (names_of hnames cfgL_fns) hprim hlops hlp h1
theorem rel_cells {base n0 : Nat} {ρ : Emb} {t : PT Ob} {W : World} (hr : Rel base n0 ρ t.get W) {b : Nat} (hb : b < n0) (hlim : b < lim) (hfree : ρ b = none) {k d : Nat} {cs' : Array Value} (hcl : Cells W k cs') (hk : k < base) {cs : List Value}
  (hs : cs.all scalV = true) (hlen : cs.length + d ≤ cs'.size) (hat : ∀ i x, cs[i]? = some x → cs'[i + d]? = some x) : Rel base n0 (ρ.put b (k, d)) (t.put b (some (.cells cs))).get W := by
 have hle : ρ.le (ρ.put b (k, d)) := Emb.le_put hfree
 have old : ∀ x k' d', x ≠ b → ρ.put b (k, d) x = some (k', d') → ρ x = some (k', d') := fun x k' d' e h => by
  unfold Emb.put at h
  rwa [if_neg e] at h
 refine ⟨fun x o hx => ?_, fun x y k' d1 d2 z hx hy h1 h2 => ?_, fun x k' d' h1 h2 => ?_, fun x k' d' h2 => ?_, hr.sz⟩
 ·by_cases e : x = b
  ·subst e
   rw [PT.get_put_same _ _ _ hlim] at hx
   cases hx
   refine ⟨k, d, Emb.put_same _ _ _, cs', hcl, hlen, fun i u y hu hy => ?_⟩
   rw [hat i u hu] at hy
   cases hy
   exact scal_VR (List.all_eq_true.1 hs u (List.mem_of_getElem? hu))
  ·rw [PT.get_put_other _ _ _ _ e] at hx
   obtain ⟨k', d', e1, e2⟩ := hr.at_ x o hx
   exact ⟨k', d', hle _ _ e1, e2.le hle⟩
 ·have ne : ∀ u du, ρ.put b (k, d) u = some (k', du) → u ≠ b := fun u du h e => by
   subst e
   rw [Emb.put_same] at h
   cases h
   omega
  have n1 := ne x d1 h1
  have n2 := ne y d2 h2
  rw [PT.get_put_other _ _ _ _ n1] at hx
  rw [PT.get_put_other _ _ _ _ n2] at hy
  exact hr.inj x y k' d1 d2 z hx hy (old _ _ _ n1 h1) (old _ _ _ n2 h2)
 ·exact hr.high x k' d' h1 (old x k' d' (by omega) h2)
 ·by_cases e : x = b
  ·subst e
   rw [Emb.put_same] at h2
   cases h2
   exact cells_size hcl
  ·exact hr.low x k' d' (old x k' d' e h2)
theorem slice_cells_row {W : World} (hE : Eta.b = W.heap.size) {n0 : Nat} {ρ : Emb} {t : PT Ob} (hr : Rel W.heap.size n0 ρ t.get W) {b n sz : Nat} {cs : List Value} {v : Value} (hb : b < n0) (hlim : b < lim) (hfree : ρ b = none) (hs : cs.all scalV = true) (hv : SliceIn W v n sz cs) :
  ∃ k d, Rel W.heap.size n0 (ρ.put b (k, d)) (t.put b (some (.cells cs))).get W ∧ VR (ρ.put b (k, d)) W (.slice (some ⟨b, 0, none⟩) n sz) v := by
 obtain ⟨k, d, cs', el, fr, h0, h2, h3, h4⟩ := hv
 have hk : k < W.heap.size := (Array.getElem?_eq_some_iff.1 h0).1
 have h1 : Cells W k cs' := ⟨el, fr, h0, fun hb => by rw [hE] at hb; omega⟩
 refine ⟨k, d, rel_cells hr hb hlim hfree h1 (cells_size h1) hs h2 h3, ?_⟩
 rcases h4 with ⟨c, g1, g2, rfl⟩ | ⟨rfl, a, rfl⟩
 ·have := VR.sl (ρ := ρ.put b (k, d)) (w := W) b 0 n sz c k d (Emb.put_same _ _ _) g1 (by rw [Nat.zero_add]; exact ⟨cs', h1, g2⟩)
  rw [Nat.zero_add] at this
  exact this
 ·exact .sl0 b 0 sz a
theorem slice_handed {base n0 : Nat} {ρ : Emb} {h : Hp} {w : World} {b o n sz : Nat} {v' : Value} {cs : List Value} (hr : Rel base n0 ρ h.t.get w) (hv : VR ρ w (.slice (some ⟨b, o, none⟩) n sz) v') (h1 : cellsAt h b = some cs) (hlen : o + n * sz ≤ cs.length) (hs : ((cs.drop o).take (n * sz)).all scalV = true) :
  SliceIn w v' n sz ((cs.drop o).take (n * sz)) := by
 obtain ⟨k, d, e1, cs', g1, g2, g3⟩ := hr.at_ b _ (cellsAt_get h1)
 obtain ⟨el, fr, g0, _⟩ := g1
 have hcell : ∀ i x, ((cs.drop o).take (n * sz))[i]? = some x → cs'[i + (o + d)]? = some x := fun i x hx => by
  have hm := List.all_eq_true.1 hs x (List.mem_of_getElem? hx)
  rw [List.getElem?_take] at hx
  split at hx
  ·rw [List.getElem?_drop] at hx
   have hl := (List.getElem?_eq_some_iff.1 hx).1
   have hlt : o + i + d < cs'.size := by omega
   have hy := g3 (o + i) x cs'[o + i + d] hx (Array.getElem?_eq_getElem hlt)
   rw [show i + (o + d) = o + i + d by omega, Array.getElem?_eq_getElem hlt, scal_inv hm hy]
  ·cases hx
 have hl2 : ((cs.drop o).take (n * sz)).length = n * sz := by simp; omega
 cases hv with
 | sl _ _ _ _ c k' d' hb hc hroom =>
  rw [e1] at hb
  cases hb
  obtain ⟨cs2, ⟨el2, fr2, r1, _⟩, r2⟩ := hroom
  rw [g0] at r1
  cases r1
  exact ⟨k, o + d, cs', el, fr, g0, by omega, hcell, .inl ⟨c, hc, r2, rfl⟩⟩
 | sl0 _ _ _ a => exact ⟨k, o + d, cs', el, fr, g0, by omega, hcell, .inr ⟨rfl, a, rfl⟩⟩
end
end
section
open Go
set_option linter.unusedSectionVars false
inductive AA where
 | v (x : Value)
 | sl (n sz : Nat) (cs : List Value)
 | nil
def ArgR (W : World) : AA → Value → Prop
 | .v x, y => pfd 3 x = true ∧ y = x
 | .sl n sz cs, y => SliceIn W y n sz cs ∧ cs.all scalV = true
 | .nil, y => y = .slice none 0 0
def ArgRL (W : World) : List AA → List Value → Prop
 | [], [] => True
 | a :: l, y :: r => ArgR W a y ∧ ArgRL W l r
 | _, _ => False
def CallsA (P : Program) (La : World → Prop) (f : FuncId) (aa : List AA) (v : Value) : Prop :=
 ∀ (W : World) (args' : List Value), La W → ArgRL W aa args' → Calls P f args'.toArray W fun e W' => e = .returned v ∧ RowKit.Below W.heap.size W W'
def absV (i : Nat) : AA → Value
 | .v x => x
 | .sl n sz cs => .slice (some ⟨i, 0, none⟩) n sz
 | .nil => .slice none 0 0
def absVs : Nat → List AA → List Value
 | _, [] => []
 | i, a :: l => absV i a :: absVs (i + 1) l
def absH : Nat → List AA → PT Ob
 | _, [] => .leaf
 | i, .sl n sz cs :: l => (absH (i + 1) l).put i (some (.cells cs))
 | i, _ :: l => absH (i + 1) l
def handA (h : Hp) : Value → Option (Bool × AA)
 | .slice (some ⟨b, o, none⟩) n sz => (cellsAt h b).map fun cs => (Nat.ble (o + n * sz) cs.length && ((cs.drop o).take (n * sz)).all scalV, .sl n sz ((cs.drop o).take (n * sz)))
 | .slice none 0 0 => some (true, .nil)
 | v => some (pfd 3 v, .v v)
abbrev Spec := List AA → Option (GT Value)
def specG (sp : Spec) (args : List Value) (h : Hp) : Option (GT Value) :=
 (mapO (handA h) args).bind fun l => (sp (l.map (·.2))).map fun t => .need (l.all (·.1)) t
def gpT (l : List (FuncId × Spec)) : PrimG := fun f args h => match l.find? fun p => Nat.beq p.1 f with
 | some p => specG p.2 args h
 | none => none
def SpecOk (P : Program) (La : World → Prop) (f : FuncId) (sp : Spec) : Prop := (∃ fn, P.funcs[f]? = some fn ∧ fn.body.isNone = false ∧ (fn.name == "runtime.NumGoroutine") = false) ∧ ∀ aa t v, sp aa = some t → t.eval = some v → pfd 3 v = true ∧ CallsA P La f aa v
section
variable [E : Eta]
theorem handA_R {base n0 : Nat} {ρ : Emb} {h : Hp} {w : World} (hr : Rel base n0 ρ h.t.get w) {v v' : Value} {p : Bool × AA} (hv : VR ρ w v v') (e : handA h v = some p) (hp : p.1 = true) : ArgR w p.2 v' := by
 unfold handA at e
 split at e
 ·rename_i b o n sz
  obtain ⟨cs, h1, h2⟩ := Option.map_eq_some_iff.1 e
  cases h2
  simp only [Bool.and_eq_true] at hp
  exact ⟨slice_handed hr hv h1 (ble_t hp.1) hp.2, hp.2⟩
 ·cases e
  cases hv; rfl
 ·cases e
  exact ⟨hp, flat_eq 3 hp hv⟩
theorem handL_R {base n0 : Nat} {ρ : Emb} {h : Hp} {w : World} (hr : Rel base n0 ρ h.t.get w) : ∀ {args args' : List Value} {l : List (Bool × AA)}, VRL ρ w args args' → mapO (handA h) args = some l → l.all (·.1) = true → ArgRL w (l.map (·.2)) args'
 | [], args', l, hv, e, hp => by
  cases e
  rw [hv.cases_nil]; trivial
 | v :: args, args', l, hv, e, hp => by
  obtain ⟨y, ys, rfl, h1, h2⟩ := hv.cases_cons
  unfold mapO at e
  obtain ⟨p, e1, e⟩ := opt_bind e
  obtain ⟨r, e2, e3⟩ := Option.map_eq_some_iff.1 e
  cases e3
  simp only [List.all_cons, Bool.and_eq_true] at hp
  exact ⟨handA_R hr h1 e1 hp.1, handL_R hr h2 e2 hp.2⟩
theorem prim_T {P : Program} {La : World → Prop} {n0 : Nat} {l : List (FuncId × Spec)} {lt : FuncId → Code → St → Option (GT (Ex × St))} {base : Nat} {I : World → Prop} (hL : ∀ w, I w → La w) (h : ∀ p ∈ l, SpecOk P La p.1 p.2) : PrimOk (cfgK P n0 (gpT l) lt) base I := by
 intro f args v hh hpr ρ w args' hpre
 have hpr : primOfG (gpT l) f args hh = some v := hpr
 unfold primOfG gpT at hpr
 obtain ⟨t, e1, e2⟩ := opt_bind hpr
 split at e1
 ·rename_i p hp
  have hpm := List.mem_of_find?_eq_some hp
  have hpp : p.1 = f := Nat.eq_of_beq_eq_true (show Nat.beq p.1 f = true from List.find?_some (p := fun p : FuncId × Spec => Nat.beq p.1 f) hp)
  unfold specG at e1
  obtain ⟨aa, e3, e1⟩ := opt_bind e1
  obtain ⟨t', e4, rfl⟩ := Option.map_eq_some_iff.1 e1
  obtain ⟨g1, g2⟩ := GT.need_eval e2
  obtain ⟨⟨fn, a1, a2, a3⟩, a4⟩ := h p hpm
  obtain ⟨hv, hc⟩ := a4 _ _ _ e4 g2
  have hrel : Rel base n0 ρ hh.t.get w := by have := hpre.rel; rwa [show (cfgK P n0 (gpT l) lt).n0 = n0 from cfgL_n0.1] at this
  refine ⟨fn, by rw [show (cfgK P n0 (gpT l) lt).P = P from cfgL_P, ← hpp]; exact a1, a2, a3, ?_⟩
  rw [show (cfgK P n0 (gpT l) lt).P = P from cfgL_P, ← hpp]
  refine (hc w args' (hL w hpre.inv) (handL_R hrel hpre.args e3 g1)).mono ?_
  rintro e w' ⟨rfl, hb⟩
  exact ⟨_, List.mem_singleton.2 rfl, v, ρ, rfl, pfd_VR 3 hv, Ext.below hpre.rel hb⟩
 ·cases e1
theorem abs_rel {W : World} (hE : Eta.b = W.heap.size) {n0 : Nat} (hn : n0 ≤ lim) : ∀ (aa : List AA) (i : Nat) (args' : List Value), i + aa.length ≤ n0 → ArgRL W aa args' → ∃ ρ : Emb, Rel W.heap.size n0 ρ (absH i aa).get W ∧ (∀ b, b < i ∨ n0 ≤ b → ρ b = none) ∧ VRL ρ W (absVs i aa) args'
 | [], i, args', h, ha => by
  cases args' with
  | nil => exact ⟨fun _ => none, ⟨fun b o hb => (by rw [absH, PT.get_leaf] at hb; cases hb), fun b b' k d d' z h1 h2 h3 => (by cases h3), fun b k d h1 h2 => (by cases h2), fun b k d h2 => (by cases h2), ⟨Nat.le_of_eq hE, Nat.le_refl _⟩⟩, fun b _ => rfl, VRL.nil⟩
  | cons y r => exact ha.elim
 | a :: aa, i, args', h, ha => by
  cases args' with
  | nil => exact ha.elim
  | cons y r =>
   obtain ⟨h1, h2⟩ := ha
   have h : i + (aa.length + 1) ≤ n0 := h
   obtain ⟨ρ, g1, g2, g3⟩ := abs_rel hE hn aa (i + 1) r (by omega) h2
   cases a with
   | v x => exact ⟨ρ, g1, fun b hb => g2 b (by omega), VRL.cons (by obtain ⟨k1, rfl⟩ := h1; exact pfd_VR 3 k1) g3⟩
   | nil => exact ⟨ρ, g1, fun b hb => g2 b (by omega), VRL.cons (by rw [show y = .slice none 0 0 from h1]; exact .nils) g3⟩
   | sl n sz cs =>
    obtain ⟨k1, k2⟩ := h1
    have hfree : ρ i = none := g2 i (.inl (by omega))
    obtain ⟨k, d, m1, m2⟩ := slice_cells_row hE g1 (b := i) (by omega) (by omega) hfree k2 k1
    refine ⟨ρ.put i (k, d), m1, fun b hb => ?_, VRL.cons m2 ⟨g3.len, fun j x y hx hy => (g3.at_ j x y hx hy).le (Emb.le_put hfree)⟩⟩
    have hbi : b ≠ i := by omega
    unfold Emb.put
    rw [if_neg hbi]
    exact g2 b (by omega)
end
theorem kcallA {P : Program} {La : World → Prop} {n0 : Nat} {l : List (FuncId × Spec)} {lt : FuncId → Code → St → Option (GT (Ex × St))} (hLa : ∀ w w', La w → RowKit.Below w.heap.size w w' → La w') (hmix : P.follows .mixedOrders = true) (hnames : (P.funcs.toList.all fun fn => !(fn.name == "runtime.NumGoroutine")) = true)
  (hsp : ∀ p ∈ l, SpecOk P La p.1 p.2) (hlops : ∀ base I, Inv base I → (∀ w, I w → La w) → @LopsOk (etaB base) (cfgK P n0 (gpT l) lt) base I) {k : Nat} {f : FuncId} {aa : List AA} {v : Value} (hn : n0 ≤ lim) (has : aa.length ≤ n0) (hv : pfd 3 v = true)
  (e : callK (cfgK P n0 (gpT l) lt) (gpT l) lt k (.fn f) (absVs 0 aa) ⟨absH 0 aa, n0⟩ (fun o => some o.1) = some v) : CallsA P La f aa v := by
 intro W args' hW ha
 obtain ⟨ρ, g1, g2, g3⟩ := @abs_rel (etaB W.heap.size) W rfl n0 hn aa 0 args' (by omega) ha
 have hI : Inv W.heap.size (fun w => RowKit.Below W.heap.size W w) := ⟨fun w w' h1 h2 => h1.trans (h2.mono (Nat.le_refl _))⟩
 have hIL : ∀ w, RowKit.Below W.heap.size W w → La w := fun w hw => hLa W w hW hw
 exact kcall hI (RowKit.Below.refl _ _) hmix hnames (@prim_T (etaB W.heap.size) P La n0 l lt W.heap.size _ hIL hsp) (hlops W.heap.size _ hI hIL) hv e g1 (fun x hx => g2 x (.inr hx)) g3
end
section
open Go
def ints (k : IntKind) (l : List Int) : List Value := l.map (.int k)
theorem nth_map (f : Int → Value) (l : List Int) {j : Nat} (h : j < l.length) : nth (l.map f) j = some (f l[j]) := by
 rw [nth_eq', List.getElem?_map, List.getElem?_eq_getElem h]; rfl
theorem isV_ints (k : IntKind) (l : List Int) {j : Nat} (h : j < l.length) : isV (ints k l) j (.i k) = true := by
 simp only [isV, ints, nth_map _ l h, decide_eq_true_eq]
theorem rdI_ints (k : IntKind) (l : List Int) {j : Nat} (h : j < l.length) : rdI (ints k l) j = l[j] := by
 simp only [rdI, ints, nth_map _ l h]
theorem ints_scal (k : IntKind) (l : List Int) : (ints k l).all scalV = true := by
 rw [List.all_eq_true]
 intro x hx
 obtain ⟨y, _, rfl⟩ := List.mem_map.1 hx
 rfl
def valI : Value → Int
 | .int _ x => x
 | _ => 0
def isInt (k : IntKind) : Value → Bool
 | .int k' _ => decide (k' = k)
 | _ => false
theorem ints_of {k : IntKind} : ∀ {cs : List Value}, cs.all (isInt k) = true → ∃ l, cs = ints k l ∧ cs.map valI = l
 | [], _ => ⟨[], rfl, rfl⟩
 | v :: cs, h => by
  simp only [List.all_cons, Bool.and_eq_true] at h
  obtain ⟨l, h1, h2⟩ := ints_of h.2
  cases v with
  | int k' x => obtain rfl : k' = k := of_decide_eq_true h.1; exact ⟨x :: l, by rw [h1]; rfl, by rw [List.map_cons, h2]; rfl⟩
  | _ => cases h.1
theorem ints_vals (k : IntKind) (l : List Int) : (ints k l).map valI = l := by
 induction l with
 | nil => rfl
 | cons x l ih => show valI (.int k x) :: (ints k l).map valI = _; rw [ih]; rfl
theorem ints_isI (k : IntKind) (l : List Int) : (ints k l).all (isInt k) = true := by
 rw [List.all_eq_true]
 intro x hx
 obtain ⟨y, _, rfl⟩ := List.mem_map.1 hx
 simp [isInt]
theorem ints_len (k : IntKind) (l : List Int) : (ints k l).length = l.length := List.length_map _
theorem wrap_in {x : Int} (h : -9223372036854775808 ≤ x) (h2 : x ≤ 9223372036854775807) : IntKind.wrap .i64 x = x := by
 have := IntWalk.i64_in x ⟨h, h2⟩
 exact this
def rowI (n : Nat) (m : Int) (cs : List Value) : Bool := decide (m = Int.ofNat n) && (cs.all (isInt .i64) && (Nat.beq cs.length n && Nat.blt n 4611686018427387904))
theorem rowI_ok {n : Nat} {m : Int} {cs : List Value} (h : rowI n m cs = true) : m = Int.ofNat n ∧ n < 4611686018427387904 ∧ ∃ l, cs = ints .i64 l ∧ cs.map valI = l ∧ l.length = n := by
 unfold rowI at h
 simp only [Bool.and_eq_true] at h
 obtain ⟨l, h1, h2⟩ := ints_of h.2.1
 refine ⟨of_decide_eq_true h.1, by have := h.2.2.2; rwa [Nat.blt_eq] at this, l, h1, h2, ?_⟩
 have := Nat.eq_of_beq_eq_true h.2.2.1
 rw [← this, h1, ints_len]
theorem rowI_of {l : List Int} (h : l.length < 4611686018427387904) : rowI l.length (Int.ofNat l.length) (ints .i64 l) = true := by
 unfold rowI
 simp only [ints_isI, ints_len, Nat.beq_refl, decide_true, Bool.true_and, Bool.and_true]
 rw [Nat.blt_eq]; exact h
end
section
open Go
set_option linter.unusedSectionVars false
def LpFine (P : Program) (La : World → Prop) (n0 : Nat) (p : LpK) : Prop :=
 onlyAt 0 (regsOf P p.f) p.reg p.i = true ∧ ∀ (c : Cfg) (base : Nat) (I : World → Prop), c.P = P → c.n0 = n0 → c.G = 0 → Inv base I → (∀ w, I w → La w) →
  ∀ x ro ex y, (p.D.F x ro).eval = some (ex, y) → ChainK (@StepK (etaB base) c base I (loopAt P p.f p.i) p.D.m p.D.n p.D.R ro) x ex y
section
variable {P : Program} {La : World → Prop} {n0 : Nat} {l : List (FuncId × Spec)} {L : List LpK}
theorem lops_fine (h : ∀ p ∈ L, LpFine P La n0 p) : ∀ base I, Inv base I → (∀ w, I w → La w) → @LopsOk (etaB base) (cfgK P n0 (gpT l) (ltT n0 L)) base I := fun base I hI hL =>
 @lops_K (etaB base) (cfgK P n0 (gpT l) (ltT n0 L)) base I P n0 L cfgL_fns cfgL_lops cfgL_n0.1 cfgL_n0.2 fun p hp => ⟨(h p hp).1, fun x ro ex y e => (h p hp).2 _ base I cfgL_P cfgL_n0.1 cfgL_n0.2 hI hL x ro ex y e⟩
theorem stepT (hmix : P.follows .mixedOrders = true) (hnames : (P.funcs.toList.all fun fn => !(fn.name == "runtime.NumGoroutine")) = true) (hsp : ∀ p ∈ l, SpecOk P La p.1 p.2) (hL : ∀ p ∈ L, LpFine P La n0 p) {c : Cfg} {base : Nat} {I : World → Prop} (hP : c.P = P) (hn : c.n0 = n0) (hG : c.G = 0) (hI : Inv base I) (hIL : ∀ w, I w → La w)
  {b : Code} {k K m n R : Nat} {ro : Rows} {x y : KX} {ex : Ex} {keep : Ex → List Nat} {car : Ex → St → List (Nat × Bool)}
  (run : codeK (cfgK P n0 (gpT l) (ltT n0 L)) (gpT l) (callK (cfgK P n0 (gpT l) (ltT n0 L)) (gpT l) (ltT n0 L) K) (fun _ _ => none) false k b (stK m n ro x) (endK n R m keep car) = some (ex, y)) : @StepK (etaB base) c base I b m n R ro x ex y :=
 @step_K (etaB base) c base I P n0 (gpT l) (ltT n0 L) hP hn hG hI hmix hnames (cfgK_ok _ _ _ _) (@prim_T (etaB base) P La n0 l _ base I hIL hsp) (lops_fine hL base I hI hIL) (fun _ _ => none) b (fun x _ s outs e => by cases e) k K m n R ro x y ex keep car run
theorem callT (hLa : ∀ w w', La w → RowKit.Below w.heap.size w w' → La w') (hmix : P.follows .mixedOrders = true) (hnames : (P.funcs.toList.all fun fn => !(fn.name == "runtime.NumGoroutine")) = true) (hsp : ∀ p ∈ l, SpecOk P La p.1 p.2) (hL : ∀ p ∈ L, LpFine P La n0 p)
  {k : Nat} {f : FuncId} {aa : List AA} {v : Value} (hn : n0 ≤ lim) (haa : aa.length ≤ n0) (hv : pfd 3 v = true)
  (e : callK (cfgK P n0 (gpT l) (ltT n0 L)) (gpT l) (ltT n0 L) k (.fn f) (absVs 0 aa) ⟨absH 0 aa, n0⟩ (fun o => some o.1) = some v) : CallsA P La f aa v :=
 kcallA hLa hmix hnames hsp (lops_fine hL) hn haa hv e
end
def scanF {σ α : Type} (step : σ → α → σ ⊕ (Ex × KX)) (fin : σ → Ex × KX) : σ → List α → Ex × KX
 | s, [] => fin s
 | s, a :: l => match step s a with
  | .inl s' => scanF step fin s' l
  | .inr r => r
theorem scan_from {Step : KX → Ex → KX → Prop} {σ α : Type} {step : σ → α → σ ⊕ (Ex × KX)} {fin : σ → Ex × KX} {st : σ → Nat → KX} {l : List α} (hne : ∀ s, (fin s).1 ≠ .normal) (hne2 : ∀ s a r, step s a = .inr r → r.1 ≠ .normal)
  (hnext : ∀ s j (hj : j < l.length), match step s l[j] with | .inl s' => Step (st s j) .normal (st s' (j + 1)) | .inr r => Step (st s j) r.1 r.2) (hlast : ∀ s, Step (st s l.length) (fin s).1 (fin s).2) :
  ∀ (k j : Nat) (s : σ), j + k = l.length → ChainK Step (st s j) (scanF step fin s (l.drop j)).1 (scanF step fin s (l.drop j)).2
 | 0, j, s, h => by
  obtain rfl : j = l.length := by omega
  rw [List.drop_length]
  exact .stop (hne s) (hlast s)
 | k + 1, j, s, h => by
  have hj : j < l.length := by omega
  rw [List.drop_eq_getElem_cons hj]
  have hn := hnext s j hj
  unfold scanF
  cases e : step s l[j] with
  | inl s' =>
   rw [e] at hn
   exact .next hn (scan_from hne hne2 hnext hlast k (j + 1) s' (by omega))
  | inr r =>
   rw [e] at hn
   exact .stop (hne2 _ _ _ e) hn
theorem scanF_fold {σ α : Type} {f : σ → α → σ} {fin : σ → Ex × KX} : ∀ (l : List α) (s : σ), scanF (fun s a => .inl (f s a)) fin s l = fin (l.foldl f s)
 | [], s => rfl
 | a :: l, s => scanF_fold l (f s a)
theorem scanF_any {σ α : Type} {p : α → Bool} {r : Ex × KX} {fin : σ → Ex × KX} (s : σ) : ∀ (l : List α), scanF (fun s a => bif p a then .inr r else .inl s) fin s l = bif l.any p then r else fin s
 | [] => rfl
 | a :: l => by
  unfold scanF
  cases e : p a with
  | true => simp [e]
  | false => simp only [cond_false, List.any_cons, e, Bool.false_or]; exact scanF_any s l
def fnOk (P : Program) (f : FuncId) : Bool := match P.funcs[f]? with
 | some fn => !fn.body.isNone && !(fn.name == "runtime.NumGoroutine")
 | none => false
theorem fnOk_ok {P : Program} {f : FuncId} (h : fnOk P f = true) : ∃ fn, P.funcs[f]? = some fn ∧ fn.body.isNone = false ∧ (fn.name == "runtime.NumGoroutine") = false := by
 unfold fnOk at h
 split at h
 ·rename_i fn e
  simp only [Bool.and_eq_true, Bool.not_eq_true'] at h
  exact ⟨fn, e, h.1, h.2⟩
 ·cases h
end
section
open Go Go.Proofs Go.RowKit
theorem prog_names : (Tryz.prog.funcs.toList.all fun fn => !(fn.name == "runtime.NumGoroutine")) = true := by kernel_rfl
noncomputable abbrev runK (N : Nat) (l : List (FuncId × Spec)) (L : List LpK) (f : FuncId) (aa : List AA) : Option Value := callK (cfgK Tryz.prog N (gpT l) (ltT N L)) (gpT l) (ltT N L) 12 (.fn f) (absVs 0 aa) ⟨absH 0 aa, N⟩ (fun o => some o.1)
noncomputable abbrev rndK (c : Cfg) (l : List (FuncId × Spec)) (L : List LpK) (f i : Nat) (s : St) (e : Ex × St → Option (Ex × KX)) : Option (Ex × KX) := codeK c (gpT l) (callK c (gpT l) (ltT 4 L) 12) (fun _ _ => none) false 1000 (loopAt Tryz.prog f i) s e
theorem ltI {j n : Nat} (h : j < n) : decide ((j : Int) < Int.ofNat n) = true := decide_eq_true (by show (j : Int) < (n : Int); omega)
theorem nltI (n : Nat) : decide ((n : Int) < Int.ofNat n) = false := decide_eq_false (by show ¬ (n : Int) < (n : Int); omega)
theorem geI (j : Nat) : decide ((0 : Int) ≤ j) = true := decide_eq_true (by omega)
theorem bltI {j n : Nat} (h : j < n) : Nat.blt ((j : Int)).toNat n = true := by rw [Nat.blt_eq]; simpa using h
theorem wrI (j : Nat) (h : j < 4611686018427387904) : IntKind.wrap .i64 ((j : Int) + 1) = ((j + 1 : Nat) : Int) := by rw [wrap_in (by omega) (by omega)]; omega
theorem prog_mix : Tryz.prog.follows .mixedOrders = true := by kernel_rfl
def La (w : World) : Prop := Lib.Utf8Tabs (Tryz.lays196_ren.g 3) (Tryz.lays196_ren.g 4) w ∧ Lib.TabIs Tryz.prog w "internal/strconv.uint64pow10" .u64 Lib.pow10Tab ∧ ∃ m, w.cell? ⟨2, 0, none⟩ = some (.int .i64 m)
theorem La.below {w w' : World} (h : La w) (hb : Below w.heap.size w w') : La w' := by
 obtain ⟨h1, h2, m, h3⟩ := h
 refine ⟨Utf8Tabs_below h1 hb, ?_, m, ?_⟩
 ·have hg : Tryz.prog.globalNamed "internal/strconv.uint64pow10" = some 5 := by kernel_rfl
  refine var?_below hb hg ?_ h2
  rcases Nat.lt_or_ge 5 w.heap.size with h' | h'
  ·exact h'
  ·unfold Lib.TabIs World.var? at h2
   simp [hg, Array.getElem?_eq_none h'] at h2
 ·exact (hb.cell (World.block_lt_of_cell? w _ h3)).trans h3
theorem La_below : ∀ w w', La w → RowKit.Below w.heap.size w w' → La w' := fun w w' h hb => La.below h hb
theorem spec_lib {f : FuncId} {sp : Spec} (hf : fnOk Tryz.prog f = true) (h : ∀ aa t v, sp aa = some t → t.eval = some v → ∃ xs : List Value, aa = xs.map .v ∧ pfd 3 v = true ∧ ∀ W, La W → Calls Tryz.prog f xs.toArray W fun e W' => e = .returned v ∧ RowKit.Below W.heap.size W W') : SpecOk Tryz.prog La f sp :=
 ⟨fnOk_ok hf, fun aa t v h1 h2 => by
  obtain ⟨xs, rfl, h3, h4⟩ := h aa t v h1 h2
  refine ⟨h3, fun W args' hW ha => ?_⟩
  have : args' = xs := by
   clear h1 h2 h3 h4
   induction xs generalizing args' with
   | nil => cases args' with
    | nil => rfl
    | cons y r => exact ha.elim
   | cons x xs ih => cases args' with
    | nil => exact ha.elim
    | cons y r =>
     obtain ⟨⟨_, k1⟩, k2⟩ := ha
     rw [k1, ih r k2]
  rw [this]
  exact h4 W hW⟩
abbrev V3 := Int × Int × ByteArray
def vv (p : V3) : Value := .agg #[.int .i64 p.1, .int .i64 p.2.1, .string p.2.2]
def v0 : V3 := (0, 0, ⟨#[]⟩)
def ve (p : V3 × Int) : Value := .tuple #[vv p.1, .int .i64 p.2]
def inR (n : Int) : Bool := decide (-9223372036854775808 ≤ n) && decide (n < 9223372036854775808)
def vOf : AA → Option (Int × Int × ByteArray)
 | .v (.agg cs) => match cs.toList with
  | [.int .i64 k, .int .i64 n, .string s] => some (k, n, s)
  | _ => none
 | _ => none
theorem vOf_ok {a : AA} {p : Int × Int × ByteArray} (h : vOf a = some p) : a = .v (.agg #[.int .i64 p.1, .int .i64 p.2.1, .string p.2.2]) := by
 unfold vOf at h
 split at h
 ·rename_i cs
  split at h
  ·rename_i k n s e
   cases h
   exact congrArg AA.v (congrArg Value.agg (Array.ext' e))
  ·cases h
 ·cases h
def spec132 : Spec := fun aa => match aa with
 | [.v (.string a), .v (.string b)] => some (.out (.int .i64 (Lib.compareBytes a.data.toList b.data.toList)))
 | _ => none
theorem spec132_ok : SpecOk Tryz.prog La 132 spec132 := spec_lib (by kernel_rfl) fun aa t v h e => by
 unfold spec132 at h
 split at h
 ·rename_i a b
  cases h; cases e
  exact ⟨[.string a, .string b], rfl, rfl, fun W _ => (Tryz.strings_Compare a b W).mono fun e w' h => ⟨h.1, by rw [h.2]; exact Below.refl _ _⟩⟩
 ·cases h
def spec74 : Spec := fun aa => match aa with
 | [.v (.string a)] => some (.need (Nat.ble a.size 9223372036854775807) (.out (.bool (Lib.validD a.data.toList))))
 | _ => none
theorem spec74_ok : SpecOk Tryz.prog La 74 spec74 := spec_lib (by kernel_rfl) fun aa t v h e => by
 unfold spec74 at h
 split at h
 ·rename_i a
  cases h
  obtain ⟨g1, g2⟩ := GT.need_eval e
  cases g2
  exact ⟨[.string a], rfl, rfl, fun W hW => Tryz.utf8_ValidString a W (Nat.le_of_ble_eq_true g1) hW.1⟩
 ·cases h
def spec83 : Spec := fun aa => match aa with
 | [.v (.string a)] => some (.need (Nat.blt a.size 9223372036854775807) (.out (.int .i64 (Lib.runeCount a))))
 | _ => none
theorem spec83_ok : SpecOk Tryz.prog La 83 spec83 := spec_lib (by kernel_rfl) fun aa t v h e => by
 unfold spec83 at h
 split at h
 ·rename_i a
  cases h
  obtain ⟨g1, g2⟩ := GT.need_eval e
  cases g2
  exact ⟨[.string a], rfl, rfl, fun W hW => (Tryz.utf8_RuneCountInString a W (by rwa [Nat.blt_eq] at g1)).mono fun e w' h => ⟨h.1, by obtain ⟨p, rfl⟩ := h.2; exact (Below.refl _ _).alloc (Nat.le_refl _) _⟩⟩
 ·cases h
def spec86 : Spec := fun aa => match aa with
 | [.v (.string a), .v (.string b)] => some (.need (eqU b.data.toList [32]) (.need (Nat.ble a.size 9223372036854775807) (.out (.string ⟨(Lib.trimB a.data.toList 32).toArray⟩))))
 | _ => none
theorem spec86_ok : SpecOk Tryz.prog La 86 spec86 := spec_lib (by kernel_rfl) fun aa t v h e => by
 unfold spec86 at h
 split at h
 ·rename_i a b
  cases h
  obtain ⟨g0, g⟩ := GT.need_eval e
  obtain ⟨g1, g2⟩ := GT.need_eval g
  cases g2
  obtain rfl : b = ⟨#[32]⟩ := @eqU_bytes eta0 b ⟨#[32]⟩ g0
  exact ⟨[.string a, .string ⟨#[32]⟩], rfl, rfl, fun W hW => (Tryz.strings_Trim_one a 32 (by decide) W (Nat.le_of_ble_eq_true g1)).mono fun e w' h => ⟨h.1, by rcases h.2 with rfl | rfl; exact Below.refl _ _; exact (Below.refl _ _).drew⟩⟩
 ·cases h
def u64 (a : Int) : Bool := decide (0 ≤ a) && decide (a < 18446744073709551616)
def spec204 : Spec := fun aa => match aa with
 | [.v (.int .u64 a), .v (.int .u64 b)] => some (.need (u64 a && u64 b) (.out (.tuple #[.int .u64 (a * b / 18446744073709551616), .int .u64 (a * b % 18446744073709551616)])))
 | _ => none
theorem spec204_ok : SpecOk Tryz.prog La 204 spec204 := spec_lib (by kernel_rfl) fun aa t v h e => by
 unfold spec204 at h
 split at h
 ·rename_i a b
  cases h
  obtain ⟨g1, g2⟩ := GT.need_eval e
  cases g2
  unfold u64 at g1
  simp only [Bool.and_eq_true, decide_eq_true_eq] at g1
  obtain ⟨x, rfl⟩ : ∃ x : Nat, a = x := ⟨a.toNat, by omega⟩
  obtain ⟨y, rfl⟩ : ∃ y : Nat, b = y := ⟨b.toNat, by omega⟩
  refine ⟨[.int .u64 x, .int .u64 y], rfl, rfl, fun W _ => (Tryz.bits_Mul64 x y (by omega) (by omega) W).mono fun e w' h => ⟨?_, by rw [h.2]; exact Below.refl _ _⟩⟩
  rw [h.1]
  simp only [Int.natCast_ediv, Int.natCast_emod, Int.natCast_mul]
  rfl
 ·cases h
end
section
open Go Go.Proofs Go.RowKit
def nzs : List Nat → List AA → List AA
 | z :: zs, .nil :: l => .sl 0 z [] :: nzs zs l
 | z :: zs, a :: l => a :: nzs zs l
 | _, l => l
theorem La_block {W : World} (h : La W) : ∃ cs el fr, W.heap[2]? = some (.cells cs el fr) := by
 obtain ⟨_, _, mx, hc⟩ := h
 unfold World.cell? at hc
 split at hc
 ·rename_i cs el fr hh; exact ⟨cs, el, fr, hh⟩
 ·cases hc
theorem nzs_R {W : World} (h : La W) : ∀ (zs : List Nat) (aa : List AA) (args : List Value), ArgRL W aa args → ArgRL W (nzs zs aa) args
 | [], aa, args, g => by cases aa <;> exact g
 | z :: zs, [], args, g => g
 | z :: zs, a :: l, [], g => g.elim
 | z :: zs, a :: l, y :: r, g => by
  obtain ⟨g1, g2⟩ := g
  have ih := nzs_R h zs l r g2
  cases a with
  | nil =>
   obtain ⟨cs, el, fr, hh⟩ := La_block h
   have g1 : y = .slice none 0 0 := g1
   subst g1
   exact ⟨⟨⟨2, 0, cs, el, fr, hh, by simp, (fun i x hx => by simp at hx), .inr ⟨rfl, none, rfl⟩⟩, rfl⟩, ih⟩
  | v x => exact ⟨g1, ih⟩
  | sl n sz cs => exact ⟨g1, ih⟩
theorem SpecOk.nil {f : FuncId} {sp : Spec} (zs : List Nat) (h : SpecOk Tryz.prog La f sp) : SpecOk Tryz.prog La f (fun aa => sp (nzs zs aa)) :=
 ⟨h.1, fun aa t v e1 e2 => by
  obtain ⟨a, b⟩ := h.2 _ t v e1 e2
  exact ⟨a, fun W args' hW ha => b W args' hW (nzs_R hW zs aa args' ha)⟩⟩
end
section
open Go
abbrev W3 := Int × Int × ByteArray
def cells3 (p : W3) : List Value := [.int .i64 p.1, .int .i64 p.2.1, .string p.2.2]
def vals (l : List W3) : List Value := l.flatMap cells3
theorem vals_len : ∀ l : List W3, (vals l).length = l.length * 3
 | [] => rfl
 | p :: l => by
  show (cells3 p ++ vals l).length = _
  rw [List.length_append, vals_len l, List.length_cons]
  show 3 + l.length * 3 = _
  omega
theorem vals_at (d : Nat) (hd : d < 3) : ∀ (l : List W3) {j : Nat} (h : j < l.length), nth (vals l) (j * 3 + d) = (cells3 l[j])[d]?
 | [], j, h => absurd h (Nat.not_lt_zero _)
 | p :: l, 0, h => by
  rw [nth_eq']
  show (cells3 p ++ vals l)[0 * 3 + d]? = _
  rw [List.getElem?_append_left (by show 0 * 3 + d < 3; omega)]
  simp
 | p :: l, j + 1, h => by
  have := vals_at d hd l (j := j) (by simpa using h)
  rw [nth_eq'] at this ⊢
  show (cells3 p ++ vals l)[(j + 1) * 3 + d]? = _
  rw [List.getElem?_append_right (by show 3 ≤ (j + 1) * 3 + d; omega)]
  have e : (j + 1) * 3 + d - (cells3 p).length = j * 3 + d := by show (j + 1) * 3 + d - 3 = _; omega
  rw [e, this]
  simp
theorem isL_vals (l : List W3) {j : Nat} (h : j < l.length) : isL (vals l) (j * 3) [.i .i64, .i .i64, .s] = true := by
 have h0 := vals_at 0 (by omega) l h
 have h1 := vals_at 1 (by omega) l h
 have h2 := vals_at 2 (by omega) l h
 simp only [isL, isV, Nat.add_assoc, Nat.add_zero] at h0 ⊢
 rw [h0, h1, h2]
 rfl
theorem rdI_vals (l : List W3) {j : Nat} (h : j < l.length) : rdI (vals l) (j * 3) = l[j].1 := by
 have h0 := vals_at 0 (by omega) l h
 rw [Nat.add_zero] at h0
 unfold rdI; rw [h0]; rfl
theorem rdI_vals1 (l : List W3) {j : Nat} (h : j < l.length) : rdI (vals l) (j * 3 + 1) = l[j].2.1 := by
 unfold rdI; rw [vals_at 1 (by omega) l h]; rfl
theorem rdS_vals (l : List W3) {j : Nat} (h : j < l.length) : rdS (vals l) (j * 3 + 2) = l[j].2.2 := by
 unfold rdS; rw [vals_at 2 (by omega) l h]; rfl
theorem vals_scal (l : List W3) : (vals l).all scalV = true := by
 rw [List.all_eq_true]
 intro x hx
 obtain ⟨p, _, h⟩ := List.mem_flatMap.1 hx
 simp only [cells3, List.mem_cons, List.not_mem_nil, or_false] at h
 rcases h with rfl | rfl | rfl <;> rfl
def valsOf : List Value → List W3
 | .int _ k :: .int _ n :: .string s :: r => (k, n, s) :: valsOf r
 | _ => []
def isVals : List Value → Bool
 | [] => true
 | .int .i64 _ :: .int .i64 _ :: .string _ :: r => isVals r
 | _ => false
theorem vals_of : ∀ (l : List W3), valsOf (vals l) = l
 | [] => rfl
 | p :: l => by show (p.1, p.2.1, p.2.2) :: valsOf (vals l) = _; rw [vals_of l]
theorem isVals_vals : ∀ (l : List W3), isVals (vals l) = true
 | [] => rfl
 | p :: l => isVals_vals l
theorem isVals_ok (cs : List Value) (h : isVals cs = true) : vals (valsOf cs) = cs := by
 induction cs using isVals.induct with
 | case1 => rfl
 | case2 k n s r ih => show .int .i64 k :: .int .i64 n :: .string s :: vals (valsOf r) = _; rw [ih h]
 | case3 cs h1 h2 => unfold isVals at h; split at h <;> first | rfl | (cases h; done) | exact (h2 _ _ _ _ rfl).elim
def rowW (n : Nat) (m : Int) (cs : List Value) : Bool := decide (m = Int.ofNat n) && (isVals cs && (Nat.beq cs.length (n * 3) && Nat.blt n 4398046511104))
theorem rowW_ok {n : Nat} {m : Int} {cs : List Value} (h : rowW n m cs = true) : m = Int.ofNat n ∧ n < 4398046511104 ∧ cs = vals (valsOf cs) ∧ (valsOf cs).length = n := by
 unfold rowW at h
 simp only [Bool.and_eq_true] at h
 have h2 := isVals_ok cs h.2.1
 refine ⟨of_decide_eq_true h.1, by have := h.2.2.2; rwa [Nat.blt_eq] at this, h2.symm, ?_⟩
 have h3 := Nat.eq_of_beq_eq_true h.2.2.1
 have h4 := vals_len (valsOf cs)
 rw [h2] at h4
 omega
end
section
open Go
theorem flat_len {α : Type} {f : α → List Value} {z : Nat} (hf : ∀ x, (f x).length = z) : ∀ l : List α, (l.flatMap f).length = l.length * z
 | [] => by simp
 | p :: l => by
  rw [List.flatMap_cons, List.length_append, hf, flat_len hf l, List.length_cons, Nat.add_mul, Nat.one_mul]
  omega
theorem flat_at {α : Type} {f : α → List Value} {z : Nat} (hf : ∀ x, (f x).length = z) (d : Nat) (hd : d < z) : ∀ (l : List α) {j : Nat} (h : j < l.length), nth (l.flatMap f) (j * z + d) = (f l[j])[d]?
 | [], j, h => absurd h (Nat.not_lt_zero _)
 | p :: l, 0, h => by
  rw [nth_eq', List.flatMap_cons, Nat.zero_mul, Nat.zero_add, List.getElem?_append_left (by rw [hf]; exact hd)]
  simp
 | p :: l, j + 1, h => by
  have := flat_at hf d hd l (j := j) (by simpa using h)
  rw [nth_eq'] at this ⊢
  rw [List.flatMap_cons, List.getElem?_append_right (by rw [hf, Nat.add_mul]; omega)]
  have e : (j + 1) * z + d - (f p).length = j * z + d := by rw [hf, Nat.add_mul]; omega
  rw [e, this]
  simp
abbrev O6 := Int × Int × ByteArray × W3
def cells6 (p : O6) : List Value := [.int .i64 p.1, .int .i64 p.2.1, .string p.2.2.1, .int .i64 p.2.2.2.1, .int .i64 p.2.2.2.2.1, .string p.2.2.2.2.2]
def opsR (l : List O6) : List Value := l.flatMap cells6
theorem opsR_len (l : List O6) : (opsR l).length = l.length * 6 := flat_len (f := cells6) (fun _ => rfl) l
theorem opsR_at (l : List O6) {j : Nat} (h : j < l.length) (d : Nat) (hd : d < 6) : nth (opsR l) (j * 6 + d) = (cells6 l[j])[d]? := flat_at (f := cells6) (fun _ => rfl) d hd l h
theorem isL_ops (l : List O6) {j : Nat} (h : j < l.length) : isL (opsR l) (j * 6) [.i .i64, .i .i64, .s, .i .i64, .i .i64, .s] = true := by
 have h0 := opsR_at l h 0 (by omega)
 have h1 := opsR_at l h 1 (by omega)
 have h2 := opsR_at l h 2 (by omega)
 have h3 := opsR_at l h 3 (by omega)
 have h4 := opsR_at l h 4 (by omega)
 have h5 := opsR_at l h 5 (by omega)
 simp only [isL, isV, Nat.add_assoc, Nat.add_zero] at h0 ⊢
 rw [h0, h1, h2, h3, h4, h5]
 rfl
theorem op_k (l : List O6) {j : Nat} (h : j < l.length) : rdI (opsR l) (j * 6) = l[j].1 := by
 have h0 := opsR_at l h 0 (by omega)
 rw [Nat.add_zero] at h0
 unfold rdI; rw [h0]; rfl
theorem op_n (l : List O6) {j : Nat} (h : j < l.length) : rdI (opsR l) (j * 6 + 1) = l[j].2.1 := by
 unfold rdI; rw [opsR_at l h 1 (by omega)]; rfl
theorem op_t (l : List O6) {j : Nat} (h : j < l.length) : rdS (opsR l) (j * 6 + 1 + 1) = l[j].2.2.1 := by
 unfold rdS; rw [Nat.add_assoc, opsR_at l h 2 (by omega)]; rfl
theorem op_vk (l : List O6) {j : Nat} (h : j < l.length) : rdI (opsR l) (j * 6 + 1 + 1 + 1) = l[j].2.2.2.1 := by
 unfold rdI; rw [Nat.add_assoc, Nat.add_assoc, opsR_at l h 3 (by omega)]; rfl
theorem op_vn (l : List O6) {j : Nat} (h : j < l.length) : rdI (opsR l) (j * 6 + 1 + 1 + 1 + 1) = l[j].2.2.2.2.1 := by
 unfold rdI; rw [Nat.add_assoc, Nat.add_assoc, Nat.add_assoc, opsR_at l h 4 (by omega)]; rfl
theorem op_vs (l : List O6) {j : Nat} (h : j < l.length) : rdS (opsR l) (j * 6 + 1 + 1 + 1 + 1 + 1) = l[j].2.2.2.2.2 := by
 unfold rdS; rw [Nat.add_assoc, Nat.add_assoc, Nat.add_assoc, Nat.add_assoc, opsR_at l h 5 (by omega)]; rfl
theorem opsR_scal (l : List O6) : (opsR l).all scalV = true := by
 rw [List.all_eq_true]
 intro x hx
 obtain ⟨p, _, h⟩ := List.mem_flatMap.1 hx
 simp only [cells6, List.mem_cons, List.not_mem_nil, or_false] at h
 rcases h with rfl | rfl | rfl | rfl | rfl | rfl <;> rfl
def opsOf : List Value → List O6
 | .int _ k :: .int _ n :: .string t :: .int _ vk :: .int _ vn :: .string vs :: r => (k, n, t, vk, vn, vs) :: opsOf r
 | _ => []
def isOps : List Value → Bool
 | [] => true
 | .int .i64 _ :: .int .i64 _ :: .string _ :: .int .i64 _ :: .int .i64 _ :: .string _ :: r => isOps r
 | _ => false
theorem opsOf_ops : ∀ l : List O6, opsOf (opsR l) = l
 | [] => rfl
 | p :: l => by show (p.1, p.2.1, p.2.2.1, p.2.2.2.1, p.2.2.2.2.1, p.2.2.2.2.2) :: opsOf (opsR l) = _; rw [opsOf_ops l]
theorem isOps_ops : ∀ l : List O6, isOps (opsR l) = true
 | [] => rfl
 | p :: l => isOps_ops l
theorem isOps_ok (cs : List Value) (h : isOps cs = true) : opsR (opsOf cs) = cs := by
 induction cs using isOps.induct with
 | case1 => rfl
 | case2 k n t vk vn vs r ih =>
  show .int .i64 k :: .int .i64 n :: .string t :: .int .i64 vk :: .int .i64 vn :: .string vs :: opsR (opsOf r) = _
  rw [ih h]
 | case3 cs h1 h2 => unfold isOps at h; split at h <;> first | rfl | (cases h; done) | exact (h2 _ _ _ _ _ _ _ rfl).elim
def rowP (n : Nat) (m : Int) (cs : List Value) : Bool := decide (m = Int.ofNat n) && (isOps cs && (Nat.beq cs.length (n * 6) && Nat.blt n 2199023255552))
theorem rowP_ok {n : Nat} {m : Int} {cs : List Value} (h : rowP n m cs = true) : m = Int.ofNat n ∧ n < 2199023255552 ∧ cs = opsR (opsOf cs) ∧ (opsOf cs).length = n := by
 unfold rowP at h
 simp only [Bool.and_eq_true] at h
 have h2 := isOps_ok cs h.2.1
 refine ⟨of_decide_eq_true h.1, by have := h.2.2.2; rwa [Nat.blt_eq] at this, h2.symm, ?_⟩
 have h3 := Nat.eq_of_beq_eq_true h.2.2.1
 have h4 := opsR_len (opsOf cs)
 rw [h2] at h4
 omega
theorem rowP_ops (l : List O6) (h : l.length < 2199023255552) : rowP l.length (Int.ofNat l.length) (opsR l) = true := by
 unfold rowP
 simp only [Bool.and_eq_true, decide_true, isOps_ops, opsR_len, Nat.beq_refl, Nat.blt_eq, true_and]
 exact h
end
section
open Go Go.Proofs Go.ChangeShapes Go.WideShapes Go.Deep
theorem lit_in {a : Int} (w : (Lit.int .i64 a).wf = true) : inR a = true := by
 have := (Lit.wf_int_iff .i64 a).1 w
 unfold inR
 simp only [Bool.and_eq_true, decide_eq_true_eq]
 have e1 : IntKind.i64.min = -9223372036854775808 := rfl
 have e2 : IntKind.i64.max = 9223372036854775807 := rfl
 omega
set_option maxRecDepth 100000 in
theorem one24 {H : Type} {enc : TypeId × Value → H} {W : World} {m : Nat} {cs : List Value} {x : DataW H × List MemPlace} (h : DataW.trod enc Tryz.prog W 0 (fun _ => true) true m 24 cs = some x) : ∃ v : W3, cs = cells3 v ∧ inR v.2.1 = true := by
 obtain ⟨y0, y1, y2, n, _, hl, z0, z1, z2⟩ := Go.Deep.trod_struct3 Tryz.underlying24 h
 have k3 : Tryz.prog.cellsOf 3 = 1 := by kernel_rfl
 have k9 : Tryz.prog.cellsOf 9 = 1 := by kernel_rfl
 have k24 : Tryz.prog.cellsOf 24 = 3 := by kernel_rfl
 rw [k24] at hl
 match cs, hl with
 | [c0, c1, c2], _ =>
  simp only [k3, k9, List.drop_zero, List.drop_succ_cons, List.take_succ_cons, List.take_zero] at z0 z1 z2
  obtain ⟨a0, e0, _, w0⟩ := DataW.trod_int Tryz.underlying3 z0
  obtain ⟨a1, e1, _, w1⟩ := DataW.trod_int Tryz.underlying3 z1
  obtain ⟨a2, e2, _, w2⟩ := DataW.trod_string Tryz.underlying9 z2
  refine ⟨(a0, a1, a2), ?_, lit_in w1⟩
  rw [(List.cons.inj e0).1, (List.cons.inj e1).1, (List.cons.inj e2).1]; rfl
set_option maxRecDepth 100000 in
theorem one39 {H : Type} {enc : TypeId × Value → H} {W : World} {m : Nat} {cs : List Value} {x : DataW H × List MemPlace} (h : DataW.trod enc Tryz.prog W 0 (fun _ => true) true m 39 cs = some x) : ∃ o : O6, cs = cells6 o ∧ inR o.2.2.2.2.1 = true := by
 obtain ⟨y0, y1, y2, y3, n, _, hl, z0, z1, z2, z3⟩ := Go.Joins.trod_struct4 Tryz.underlying39 h
 have k3 : Tryz.prog.cellsOf 3 = 1 := by kernel_rfl
 have k9 : Tryz.prog.cellsOf 9 = 1 := by kernel_rfl
 have k24 : Tryz.prog.cellsOf 24 = 3 := by kernel_rfl
 have k39 : Tryz.prog.cellsOf 39 = 6 := by kernel_rfl
 rw [k39] at hl
 match cs, hl with
 | [c0, c1, c2, c3, c4, c5], _ =>
  simp only [k3, k9, k24, List.drop_zero, List.drop_succ_cons, List.take_succ_cons, List.take_zero] at z0 z1 z2 z3
  obtain ⟨a0, e0, _, w0⟩ := DataW.trod_int Tryz.underlying3 z0
  obtain ⟨a1, e1, _, w1⟩ := DataW.trod_int Tryz.underlying3 z1
  obtain ⟨a2, e2, _, w2⟩ := DataW.trod_string Tryz.underlying9 z2
  obtain ⟨v, e3, w3⟩ := one24 z3
  refine ⟨(a0, a1, a2, v), ?_, w3⟩
  obtain ⟨e4, e5⟩ := List.cons.inj e3
  obtain ⟨e6, e7⟩ := List.cons.inj e5
  rw [(List.cons.inj e0).1, (List.cons.inj e1).1, (List.cons.inj e2).1, e4, e6, (List.cons.inj e7).1]; rfl
theorem addr_twoZ (z k d0 i j : Nat) : ((⟨k, d0, none⟩ : Addr).add (i * z)).add j = ⟨k, d0 + i * z + j, none⟩ := by
 unfold Addr.add
 split <;> split <;> simp_all
set_option maxRecDepth 100000 in
theorem slice_any {α : Type} [Inhabited α] {f : α → List Value} {z : Nat} (hz : 0 < z) (hf : ∀ x, (f x).length = z) {good : α → Prop} {t te : TypeId} (ht : Tryz.prog.underlying t = some (.slice te)) (hc : Tryz.prog.cellsOf te = z)
  {H : Type} {enc : TypeId × Value → H} {W : World} (one : ∀ {m : Nat} {cs : List Value} {x : DataW H × List MemPlace}, DataW.trod enc Tryz.prog W 0 (fun _ => true) true m te cs = some x → ∃ v : α, cs = f v ∧ good v)
  {r : Reach} {b0 : Nat} {v : Value} {d : DataW H} {p : List MemPlace} (hLa : La W) (hv : Value.okWide Tryz.prog W r b0 t v) (h : DataW.Trod enc Tryz.prog W 0 (fun _ => true) true t v d p) :
  ∃ l : List α, SliceIn W v l.length z (l.flatMap f) ∧ (∀ x ∈ l, good x) ∧ (l.length = 0 ∨ ∃ elems spare, d = .slice elems spare ∧ elems.length = l.length) := by
 obtain ⟨A, len, cap, rfl⟩ := okWide_slice ht hv
 obtain ⟨fuel, hf0⟩ := h
 obtain ⟨cs2, el2, fr2, hh2⟩ := La_block hLa
 rcases open_slice ht hf0 with ⟨hcs, _⟩ | ⟨a, len', cap', m, n, D, Pl, hcs, _, hl, _, hmm, hx, hel⟩
 ·rw [(List.cons.inj hcs).1]
  exact ⟨[], ⟨2, 0, cs2, el2, fr2, hh2, by simp, (fun i x hx => by simp at hx), .inr ⟨rfl, none, rfl⟩⟩, fun x hx => (by cases hx), .inl rfl⟩
 have hcs := (List.cons.inj hcs).1
 cases hcs
 have hm : m = cap := by rw [hmm, if_pos rfl]
 subst hm
 rw [hc] at hel
 have each : ∀ i, i < m → ∃ v : α, (∀ j, j < z → W.cell? ((a.add (i * z)).add j) = (f v)[j]?) ∧ good v := fun i hi => by
  obtain ⟨cs', h1, h2⟩ := hel i hi
  obtain ⟨v, rfl, h3⟩ := one h2
  exact ⟨v, fun j hj => (World.cells?_some h1).2.2 j hj, h3⟩
 obtain ⟨g, hg⟩ := choose_lt each
 have hll : ((List.range len).map g).length = len := by simp
 refine ⟨(List.range len).map g, ?_, ?_, .inr ⟨_, _, (Prod.mk.inj hx).1, by simp⟩⟩
 rotate_left
 ·intro x hx'
  obtain ⟨i, hi, rfl⟩ := List.mem_map.1 hx'
  rw [List.mem_range] at hi
  exact (hg i (by omega)).2
 rcases Nat.eq_zero_or_pos m with h0 | h0
 ·subst h0
  obtain rfl : len = 0 := by omega
  exact ⟨2, 0, cs2, el2, fr2, hh2, by simp, (fun i x hx => by simp at hx), .inr ⟨rfl, some a, rfl⟩⟩
 ·have cell0 : ∃ x, (f (g 0))[0]? = some x := by
   have := hf (g 0)
   exact ⟨(f (g 0))[0]'(by omega), List.getElem?_eq_getElem (by omega)⟩
  obtain ⟨x0, hx0⟩ := cell0
  have hspot : a.spot = none := by
   have := (hg 0 h0).1 0 hz
   rw [hx0] at this
   simp only [Nat.zero_mul, Addr.add, if_true] at this
   exact World.cell?_spot this
  obtain ⟨k, d0, sp⟩ := a
  simp only at hspot
  subst hspot
  have hcell : ∀ i j, i < m → j < z → W.cell? ⟨k, d0 + i * z + j, none⟩ = (f (g i))[j]? := fun i j hi hj => by rw [← addr_twoZ]; exact (hg i hi).1 j hj
  have hblk : ∃ cs el fr, W.heap[k]? = some (.cells cs el fr) := by
   have hc := hcell 0 0 h0 hz
   rw [hx0] at hc
   unfold World.cell? at hc
   split at hc
   ·rename_i cs el fr hh; exact ⟨cs, el, fr, hh⟩
   ·cases hc
  obtain ⟨cs, el, fr, hh⟩ := hblk
  have hat : ∀ i j, i < m → j < z → cs[d0 + i * z + j]? = (f (g i))[j]? := fun i j hi hj => by
   rw [← hcell i j hi hj]
   simp [World.cell?, hh]
  have hsz : d0 + m * z ≤ cs.size := by
   have h1 := hat (m - 1) (z - 1) (by omega) (by omega)
   rw [List.getElem?_eq_getElem (by rw [hf]; omega)] at h1
   have h2 := (Array.getElem?_eq_some_iff.1 h1).1
   have h3 : m * z = (m - 1) * z + z := by
    rw [← Nat.succ_mul]; congr 1; omega
   omega
  refine ⟨k, d0, cs, el, fr, hh, ?_, fun i x hx => ?_, .inl ⟨m, by rw [hll]; exact hl, hsz, by rw [hll]⟩⟩
  ·rw [flat_len hf, hll]
   have := Nat.mul_le_mul_right z hl
   omega
  ·have hlt := (List.getElem?_eq_some_iff.1 hx).1
   rw [flat_len hf, hll] at hlt
   have hj : i / z < len := by
    rw [Nat.div_lt_iff_lt_mul hz]; exact hlt
   have hr := Nat.mod_lt i hz
   have hi : i / z * z + i % z = i := by rw [Nat.mul_comm]; exact Nat.div_add_mod i z
   have hx2 := flat_at hf (i % z) hr ((List.range len).map g) (j := i / z) (by simpa using hj)
   rw [nth_eq', hi, hx] at hx2
   have hfj : ((List.range len).map g)[i / z]'(by simpa using hj) = g (i / z) := by simp
   rw [hfj] at hx2
   rw [show i + d0 = d0 + i / z * z + i % z by omega, hat (i / z) (i % z) (by omega) hr, ← hx2]
end
section
open Go Go.Proofs
namespace A206
def T (a1 : Int) (a2 : Int) : GT Value := (.br ((a2 == 0)) .no (.br (decide (a2 ≤ 0)) .no (.br ((!decide (a2 = 0))) (.br ((!decide (a2 = 0))) (.out (.tuple ([.int .u64 (IntKind.wrap .u64 (Int.tdiv a1 a2)), .int .u64 (Int.tmod a1 a2)]).toArray)) .no) .no)))
set_option maxRecDepth 1000000 in
theorem run (a1 : Int) (a2 : Int) : runK 4 [] [] 206 [.v (.int .u64 0), .v (.int .u64 a1), .v (.int .u64 a2)] = (T a1 a2).eval := by kernel_rfl
theorem T_ok (a b : Int) (ha : u64 a = true) (hb : u64 b = true) (h0 : b ≠ 0) : (T a b).eval = some (.tuple #[.int .u64 (a / b), .int .u64 (a % b)]) := by
 unfold u64 at ha hb
 simp only [Bool.and_eq_true, decide_eq_true_eq] at ha hb
 have h1 : (b == 0) = false := beq_eq_false_iff_ne.mpr h0
 have h2 : ¬ b ≤ 0 := by omega
 have hd : Int.tdiv a b = a / b := Int.tdiv_eq_ediv_of_nonneg ha.1
 have hm : Int.tmod a b = a % b := Int.tmod_eq_emod_of_nonneg ha.1
 have h3 : 0 ≤ a / b := Int.ediv_nonneg ha.1 hb.1
 have h4 : a / b ≤ a := Int.ediv_le_self _ ha.1
 have hw : IntKind.wrap .u64 (a / b) = a / b := by
  show (a / b) % 18446744073709551616 = a / b
  exact Int.emod_eq_of_lt h3 (by omega)
 simp [T, GT.eval, GT.need, h1, h2, h0, hd, hm, hw]
def spec : Spec := fun aa => match aa with
 | [.v (.int .u64 h), .v (.int .u64 a), .v (.int .u64 b)] => some (.need ((h == 0) && u64 a && u64 b && !(b == 0)) (.out (.tuple #[.int .u64 (a / b), .int .u64 (a % b)])))
 | _ => none
theorem spec_ok : SpecOk Tryz.prog La 206 spec := ⟨fnOk_ok (by kernel_rfl), fun aa t v h e => by
 unfold spec at h
 split at h
 ·rename_i h0 a b
  cases h
  obtain ⟨g1, g2⟩ := GT.need_eval e
  cases g2
  simp only [Bool.and_eq_true, beq_iff_eq, Bool.not_eq_true', beq_eq_false_iff_ne] at g1
  obtain ⟨⟨⟨rfl, g3⟩, g4⟩, g5⟩ := g1
  exact ⟨rfl, callT La_below prog_mix prog_names (by simp) (by simp) (by decide) (by simp) rfl ((run _ _).trans (T_ok _ _ g3 g4 g5))⟩
 ·cases h⟩
end A206
end
section
open Go Go.Proofs
namespace A127i
def T (n0 : Int) (s0 : ByteArray) : GT Value := let x2 := IntKind.wrap .u64 n0; let x1 := IntKind.wrap .u64 (0 - x2); let x3 := IntKind.wrap .i64 (((x2 * 10000) % 18446744073709551616) / 1); let x4 := IntKind.wrap .i64 (((x1 * 10000) % 18446744073709551616) / 1); let o1 : GT Value := (.out (.tuple ([.int .i64 0, .bool (false)]).toArray)); let o2 : GT Value := (.out (.tuple ([.int .i64 x4, .bool (decide ((((x1 * 10000) % 18446744073709551616) / 1) < 9223372036854775808))]).toArray)); let o3 : GT Value := (.out (.tuple ([.int .i64 x3, .bool (decide ((((x2 * 10000) % 18446744073709551616) / 1) < 9223372036854775808))]).toArray)); (.br (decide (n0 < 0)) (.br (((decide (0 ≤ x1) && decide (x1 < 18446744073709551616)) && true)) (.br (decide (((x1 * 10000) / 18446744073709551616) ≥ 1)) o1 (.br (((((((x1 * 10000) / 18446744073709551616) == 0) && (decide (0 ≤ ((x1 * 10000) % 18446744073709551616)) && decide (((x1 * 10000) % 18446744073709551616) < 18446744073709551616))) && true) && true)) (.br (((((x1 * 10000) % 18446744073709551616) / 1) != 0)) (.br ((!((!(decide (n0 < 0) == false)) == false))) (.out (.tuple ([.int .i64 (IntKind.wrap .i64 (IntKind.wrap .u64 (0 - (((x1 * 10000) % 18446744073709551616) / 1)))), .bool (decide ((((x1 * 10000) % 18446744073709551616) / 1) ≤ 9223372036854775808))]).toArray)) o2) o2) .no)) .no) (.br (((decide (0 ≤ x2) && decide (x2 < 18446744073709551616)) && true)) (.br (decide (((x2 * 10000) / 18446744073709551616) ≥ 1)) o1 (.br (((((((x2 * 10000) / 18446744073709551616) == 0) && (decide (0 ≤ ((x2 * 10000) % 18446744073709551616)) && decide (((x2 * 10000) % 18446744073709551616) < 18446744073709551616))) && true) && true)) (.br (((((x2 * 10000) % 18446744073709551616) / 1) != 0)) (.br ((!((!(decide (n0 < 0) == false)) == false))) (.out (.tuple ([.int .i64 (IntKind.wrap .i64 (IntKind.wrap .u64 (0 - (((x2 * 10000) % 18446744073709551616) / 1)))), .bool (decide ((((x2 * 10000) % 18446744073709551616) / 1) ≤ 9223372036854775808))]).toArray)) o3) o3) .no)) .no))
set_option maxRecDepth 1000000 in
theorem run (n0 : Int) (s0 : ByteArray) : runK 4 [(204, spec204), (206, A206.spec)] [] 127 [.v (.agg #[.int .i64 2, .int .i64 n0, .string s0])] = (T n0 s0).eval := by kernel_rfl
def dec (n : Int) : Int × Bool := (if 18446744073709551616 ≤ n * 10000 ∨ n * 10000 ≤ -18446744073709551616 then 0 else IntKind.wrap .i64 (n * 10000), decide (-9223372036854775808 ≤ n * 10000) && decide (n * 10000 < 9223372036854775808))
theorem T_ok (n : Int) (s : ByteArray) (h1 : -9223372036854775808 ≤ n) (h2 : n < 9223372036854775808) : (T n s).eval = some (.tuple #[.int .i64 (dec n).1, .bool (dec n).2]) := by
 unfold dec
 by_cases hn : n < 0
 ·have e0 : IntKind.wrap .u64 (0 - IntKind.wrap .u64 n) = -n := by rw [IntKind.wrap_u64, IntKind.wrap_u64]; omega
  unfold T
  simp only [e0]
  have c1 : decide (n < 0) = true := decide_eq_true hn
  have c2 : decide (0 ≤ -n) = true := decide_eq_true (by omega)
  have c3 : decide (-n < 18446744073709551616) = true := decide_eq_true (by omega)
  by_cases hb : 18446744073709551616 ≤ -n * 10000
  ·have c4 : decide (-n * 10000 / 18446744073709551616 ≥ 1) = true := decide_eq_true (by omega)
   rw [if_pos (by omega), decide_eq_false (p := -9223372036854775808 ≤ n * 10000) (by omega)]
   simp only [GT.eval, c1, c2, c3, c4, Bool.and_self, cond_true, Bool.false_and]
  ·have c4 : decide (-n * 10000 / 18446744073709551616 ≥ 1) = false := decide_eq_false (by omega)
   have c5 : (-n * 10000 / 18446744073709551616 == 0) = true := beq_iff_eq.mpr (by omega)
   have c6 : -n * 10000 % 18446744073709551616 / 1 = -n * 10000 := by omega
   have c7 : decide (0 ≤ -n * 10000 % 18446744073709551616) = true := decide_eq_true (by omega)
   have c8 : decide (-n * 10000 % 18446744073709551616 < 18446744073709551616) = true := decide_eq_true (by omega)
   have c9 : (-n * 10000 != 0) = true := bne_iff_ne.mpr (by omega)
   have c10 : IntKind.wrap .i64 (IntKind.wrap .u64 (0 - -n * 10000)) = IntKind.wrap .i64 (n * 10000) := by
    rw [IntKind.wrap_u64, IntKind.wrap_i64, IntKind.wrap_i64]; omega
   rw [if_neg (by omega), decide_eq_true (p := n * 10000 < 9223372036854775808) (by omega)]
   have c11 : decide (-n * 10000 ≤ 9223372036854775808) = decide (-9223372036854775808 ≤ n * 10000) := by
    by_cases h : -9223372036854775808 ≤ n * 10000
    ·rw [decide_eq_true h, decide_eq_true (by omega)]
    ·rw [decide_eq_false h, decide_eq_false (by omega)]
   simp only [GT.eval, c1, c2, c3, c4, c5, c6, c7, c8, c9, c10, c11, Bool.and_self, Bool.and_true, cond_true, cond_false]
   rfl
 ·have e0 : IntKind.wrap .u64 n = n := by rw [IntKind.wrap_u64]; omega
  unfold T
  simp only [e0]
  have c1 : decide (n < 0) = false := decide_eq_false hn
  have c2 : decide (0 ≤ n) = true := decide_eq_true (by omega)
  have c3 : decide (n < 18446744073709551616) = true := decide_eq_true (by omega)
  by_cases hb : 18446744073709551616 ≤ n * 10000
  ·have c4 : decide (n * 10000 / 18446744073709551616 ≥ 1) = true := decide_eq_true (by omega)
   rw [if_pos (by omega), decide_eq_false (p := n * 10000 < 9223372036854775808) (by omega)]
   simp only [GT.eval, c1, c2, c3, c4, Bool.and_self, cond_true, cond_false, Bool.and_false]
  ·have c4 : decide (n * 10000 / 18446744073709551616 ≥ 1) = false := decide_eq_false (by omega)
   have c5 : (n * 10000 / 18446744073709551616 == 0) = true := beq_iff_eq.mpr (by omega)
   have c6 : n * 10000 % 18446744073709551616 / 1 = n * 10000 := by omega
   have c7 : decide (0 ≤ n * 10000 % 18446744073709551616) = true := decide_eq_true (by omega)
   have c8 : decide (n * 10000 % 18446744073709551616 < 18446744073709551616) = true := decide_eq_true (by omega)
   rw [if_neg (by omega), decide_eq_true (p := -9223372036854775808 ≤ n * 10000) (by omega)]
   cases c9 : (n * 10000 != 0) <;> simp [GT.eval, c1, c2, c3, c4, c5, c6, c7, c8, c9]
end A127i
end
section
open Go Go.Proofs
namespace A127d
def T (n0 : Int) (s0 : ByteArray) : GT Value := (.out (.tuple ([.int .i64 n0, .bool (true)]).toArray))
set_option maxRecDepth 1000000 in
theorem run (n0 : Int) (s0 : ByteArray) : runK 4 [(204, spec204), (206, A206.spec)] [] 127 [.v (.agg #[.int .i64 3, .int .i64 n0, .string s0])] = (T n0 s0).eval := by kernel_rfl
end A127d
end
section
open Go Go.Proofs
namespace A127
def dec (k n : Int) : Int × Bool := if k = 3 then (n, true) else A127i.dec n
def spec : Spec := fun aa => match aa with
 | [a] => (vOf a).bind fun x => some (.need ((x.1 == 2 || x.1 == 3) && inR x.2.1) (.out (.tuple #[.int .i64 (dec x.1 x.2.1).1, .bool (dec x.1 x.2.1).2])))
 | _ => none
theorem spec_ok : SpecOk Tryz.prog La 127 spec := ⟨fnOk_ok (by kernel_rfl), fun aa t v h e => by
 unfold spec at h
 split at h
 ·rename_i a
  obtain ⟨⟨k0, n0, s0⟩, h1, h⟩ := opt_bind h
  cases h
  rw [vOf_ok h1]
  obtain ⟨g1, g2⟩ := GT.need_eval e
  cases g2
  unfold inR at g1
  simp only [Bool.and_eq_true, Bool.or_eq_true, beq_iff_eq, decide_eq_true_eq] at g1
  refine ⟨rfl, callT (l := [(204, spec204), (206, A206.spec)]) (L := []) (n0 := 4) (k := 12) La_below prog_mix prog_names ?_ (by simp) (by decide) (by simp) rfl ?_⟩
  ·intro p hp
   simp only [List.mem_cons, List.not_mem_nil, or_false] at hp
   rcases hp with rfl | rfl
   ·exact spec204_ok
   ·exact A206.spec_ok
  ·unfold dec
   obtain ⟨rfl | rfl, g3, g4⟩ := g1
   ·rw [if_neg (show ¬ (2 : Int) = 3 by decide)]
    exact (A127i.run n0 s0).trans (A127i.T_ok n0 s0 g3 g4)
   ·exact A127d.run n0 s0
 ·cases h⟩
end A127
end
section
open Go Go.Proofs
namespace A52x1
def T (a0 : Int) : GT Value := (.br ((a0 == 0)) (.out (.bool (true))) (.br ((a0 == 4)) (.out (.bool (true))) (.out (.bool (false)))))
set_option maxRecDepth 1000000 in
theorem run (a0 : Int) : runK 4 [] [] 52 [.v (.int .i64 a0), .sl 1 1 [.int .i64 4]] = (T a0).eval := by kernel_rfl
end A52x1
end
section
open Go Go.Proofs
namespace A52x2
def T (a0 : Int) : GT Value := (.br ((a0 == 0)) (.out (.bool (true))) (.br ((a0 == 2)) (.out (.bool (true))) (.br ((a0 == 3)) (.out (.bool (true))) (.out (.bool (false))))))
set_option maxRecDepth 1000000 in
theorem run (a0 : Int) : runK 4 [] [] 52 [.v (.int .i64 a0), .sl 2 1 [.int .i64 2, .int .i64 3]] = (T a0).eval := by kernel_rfl
end A52x2
end
section
open Go Go.Proofs
namespace A52x3
def T (a0 : Int) : GT Value := (.br ((a0 == 0)) (.out (.bool (true))) (.br ((a0 == 2)) (.out (.bool (true))) (.out (.bool (false)))))
set_option maxRecDepth 1000000 in
theorem run (a0 : Int) : runK 4 [] [] 52 [.v (.int .i64 a0), .sl 1 1 [.int .i64 2]] = (T a0).eval := by kernel_rfl
end A52x3
end
section
open Go Go.Proofs
namespace A52
def spec : Spec := fun aa => match aa with
 | [.v (.int .i64 k), .sl n 1 [.int .i64 a]] => bif Nat.beq n 1 then (bif a == 4 then some (.out (.bool (k == 0 || k == 4))) else bif a == 2 then some (.out (.bool (k == 0 || k == 2))) else none) else none
 | [.v (.int .i64 k), .sl n 1 [.int .i64 a, .int .i64 b]] => bif Nat.beq n 2 then (bif a == 2 then (bif b == 3 then some (.out (.bool (k == 0 || (k == 2 || k == 3)))) else none) else none) else none
 | _ => none
theorem t1 (k : Int) : (A52x1.T k).eval = some (.bool (k == 0 || k == 4)) := by
 cases h : k == 0 <;> cases h2 : k == 4 <;> simp [A52x1.T, GT.eval, h, h2]
theorem t3 (k : Int) : (A52x3.T k).eval = some (.bool (k == 0 || k == 2)) := by
 cases h : k == 0 <;> cases h2 : k == 2 <;> simp [A52x3.T, GT.eval, h, h2]
theorem t2 (k : Int) : (A52x2.T k).eval = some (.bool (k == 0 || (k == 2 || k == 3))) := by
 cases h : k == 0 <;> cases h2 : k == 2 <;> cases h3 : k == 3 <;> simp [A52x2.T, GT.eval, h, h2, h3]
theorem spec_ok : SpecOk Tryz.prog La 52 spec := ⟨fnOk_ok (by kernel_rfl), fun aa t v h e => by
 unfold spec at h
 split at h
 ·rename_i k n a
  cases hn : Nat.beq n 1
  ·rw [hn] at h; cases h
  rw [hn, cond_true] at h
  obtain rfl := Nat.eq_of_beq_eq_true hn
  cases ha : a == 4
  ·rw [ha, cond_false] at h
   cases ha2 : a == 2
   ·rw [ha2] at h; cases h
   rw [ha2, cond_true] at h
   obtain rfl := eq_of_beq ha2
   cases h; cases e
   exact ⟨rfl, callT La_below prog_mix prog_names (by simp) (by simp) (by decide) (by simp) rfl ((A52x3.run _).trans (t3 _))⟩
  ·rw [ha, cond_true] at h
   obtain rfl := eq_of_beq ha
   cases h; cases e
   exact ⟨rfl, callT La_below prog_mix prog_names (by simp) (by simp) (by decide) (by simp) rfl ((A52x1.run _).trans (t1 _))⟩
 ·rename_i k n a b
  cases hn : Nat.beq n 2
  ·rw [hn] at h; cases h
  rw [hn, cond_true] at h
  obtain rfl := Nat.eq_of_beq_eq_true hn
  cases ha : a == 2
  ·rw [ha] at h; cases h
  cases hb : b == 3
  ·rw [ha, hb] at h; cases h
  rw [ha, hb, cond_true, cond_true] at h
  obtain rfl := eq_of_beq ha
  obtain rfl := eq_of_beq hb
  cases h; cases e
  exact ⟨rfl, callT La_below prog_mix prog_names (by simp) (by simp) (by decide) (by simp) rfl ((A52x2.run _).trans (t2 _))⟩
 ·cases h⟩
end A52
end
section
open Go Go.Proofs
namespace A53
noncomputable def cfg0 : Cfg := cfgK Tryz.prog 4 (gpT []) (ltT 4 [])
def stA (kind : Int) (same num : Bool) (n : Nat) (i : Int) : KX := ⟨[(4, .int .i64 kind), (5, .bool same), (6, .bool num), (9, .slice (some ⟨0, 0, none⟩) n 1), (10, .int .i64 (Int.ofNat n)), (11, .int .i64 i)], []⟩
def stE (kind : Int) (same num : Bool) : KX := ⟨[(4, .int .i64 kind), (5, .bool same), (6, .bool num)], []⟩
def kp : Ex → List Nat | .normal => [4, 5, 6, 9, 10, 11] | _ => [4, 5, 6]
set_option maxRecDepth 1000000 in
theorem round (kind i : Int) (n : Nat) (same num : Bool) (cs : List Value) : codeK cfg0 (gpT []) (callK cfg0 (gpT []) (ltT 4 []) 10) (fun _ _ => none) false 1000 (loopAt Tryz.prog 53 0) (stK 42 4 [(0, cs)] (stA kind same num n i)) (endK 4 100 42 kp (fun _ _ => [])) =
 (let x2 := rdI cs (0 + ((i).toNat * 1)); let x1 := if x2 > kind then x2 else kind; let x3 := IntKind.wrap .i64 (i + 1); (bif decide (i < (Int.ofNat n)) then (bif decide (0 ≤ i) then (bif Nat.blt (i).toNat n then (bif isV cs (0 + ((i).toNat * 1)) (.i .i64) then (bif (x2 == 0) then (some (.normal, stA kind (same) (num) n x3)) else (bif same then (bif (kind == 0) then (bif num then (bif (x2 == 0) then (some (.normal, stA x1 (true) (true) n x3)) else (bif (x2 == 2) then (some (.normal, stA x1 (true) (true) n x3)) else (bif (x2 == 3) then (some (.normal, stA x1 (true) (true) n x3)) else (some (.normal, stA x1 (true) (false) n x3))))) else (some (.normal, stA x1 (true) (false) n x3))) else (bif num then (bif (x2 == 0) then (some (.normal, stA x1 ((kind == x2)) (true) n x3)) else (bif (x2 == 2) then (some (.normal, stA x1 ((kind == x2)) (true) n x3)) else (bif (x2 == 3) then (some (.normal, stA x1 ((kind == x2)) (true) n x3)) else (some (.normal, stA x1 ((kind == x2)) (false) n x3))))) else (some (.normal, stA x1 ((kind == x2)) (false) n x3)))) else (bif num then (bif (x2 == 0) then (some (.normal, stA x1 (false) (true) n x3)) else (bif (x2 == 2) then (some (.normal, stA x1 (false) (true) n x3)) else (bif (x2 == 3) then (some (.normal, stA x1 (false) (true) n x3)) else (some (.normal, stA x1 (false) (false) n x3))))) else (some (.normal, stA x1 (false) (false) n x3))))) else none) else none) else none) else (some (.exit 0, stE kind (same) (num))))) := by kernel_rfl
def step (s : Int × Bool × Bool) (k : Int) : Int × Bool × Bool := bif k == 0 then s else (if k > s.1 then k else s.1, s.2.1 && (s.1 == 0 || s.1 == k), s.2.2 && (k == 2 || k == 3))
def alike (l : List Int) : Int × Bool × Bool := l.foldl step (0, true, true)
theorem next (l : List Int) (hl : l.length < 4611686018427387904) (s : Int × Bool × Bool) {j : Nat} (hj : j < l.length) :
  codeK cfg0 (gpT []) (callK cfg0 (gpT []) (ltT 4 []) 10) (fun _ _ => none) false 1000 (loopAt Tryz.prog 53 0) (stK 42 4 [(0, ints .i64 l)] (stA s.1 s.2.1 s.2.2 l.length j)) (endK 4 100 42 kp (fun _ _ => [])) =
  some (.normal, stA (step s l[j]).1 (step s l[j]).2.1 (step s l[j]).2.2 l.length (j + 1 : Nat)) := by
 rw [round]
 have h1 := ltI hj
 have h2 := geI j
 have h3 := bltI hj
 have h4 : (0 + ((j : Int)).toNat * 1) = j := by simp
 have h5 := wrI j (by omega)
 obtain ⟨kind, same, num⟩ := s
 simp only [h1, h2, h3, h4, h5, isV_ints _ l hj, rdI_ints _ l hj, cond_true]
 unfold step
 cases e0 : (l[j] == 0) <;> cases same <;> cases num <;> cases e1 : (kind == 0) <;> cases e2 : (l[j] == 2) <;> cases e3 : (l[j] == 3) <;> simp [e0, e1, e2, e3]
theorem last (l : List Int) (s : Int × Bool × Bool) :
  codeK cfg0 (gpT []) (callK cfg0 (gpT []) (ltT 4 []) 10) (fun _ _ => none) false 1000 (loopAt Tryz.prog 53 0) (stK 42 4 [(0, ints .i64 l)] (stA s.1 s.2.1 s.2.2 l.length l.length)) (endK 4 100 42 kp (fun _ _ => [])) =
  some (.exit 0, stE s.1 s.2.1 s.2.2) := by
 rw [round]
 have h1 := nltI l.length
 simp only [h1, cond_false]
def D : KD := ⟨42, 4, 100, [4, 5, 6, 9, 10, 11], [0], fun _ => [], fun x ro => match x.vs, x.cars, ro with
 | [(4, .int .i64 kind), (5, .bool same), (6, .bool num), (9, .slice (some ⟨0, 0, none⟩) n 1), (10, .int .i64 m), (11, .int .i64 0)], [], [(0, cs)] =>
  .need (rowI n m cs) (.out (.exit 0, stE ((cs.map valI).foldl step (kind, same, num)).1 ((cs.map valI).foldl step (kind, same, num)).2.1 ((cs.map valI).foldl step (kind, same, num)).2.2))
 | _, _, _ => .no⟩
section
variable {La : World → Prop} {c : Cfg} {base : Nat} {I : World → Prop}
theorem chain (hP : c.P = Tryz.prog) (hn : c.n0 = 4) (hG : c.G = 0) (hI : Inv base I) (hIL : ∀ w, I w → La w) (l : List Int) (hl : l.length < 4611686018427387904) : ∀ (k j : Nat) (s : Int × Bool × Bool), j + k = l.length →
  ChainK (@StepK (etaB base) c base I (loopAt Tryz.prog 53 0) 42 4 100 [(0, ints .i64 l)]) (stA s.1 s.2.1 s.2.2 l.length j) (.exit 0) (stE ((l.drop j).foldl step s).1 ((l.drop j).foldl step s).2.1 ((l.drop j).foldl step s).2.2)
 | 0, j, s, h => by
  obtain rfl : j = l.length := by omega
  rw [List.drop_length]
  exact .stop (by simp) (stepT prog_mix prog_names (by simp) (by simp) hP hn hG hI hIL (last l s))
 | k + 1, j, s, h => by
  have hj : j < l.length := by omega
  rw [List.drop_eq_getElem_cons hj, List.foldl_cons]
  exact .next (stepT prog_mix prog_names (by simp) (by simp) hP hn hG hI hIL (next l hl s hj)) (chain hP hn hG hI hIL l hl k (j + 1) (step s l[j]) (by omega))
end
def lp : LpK := ⟨53, 3, 0, D⟩
theorem lp_fine {La : World → Prop} : LpFine Tryz.prog La 4 lp := by
 refine ⟨by kernel_rfl, fun c base I hP hn hG hI hIL x ro ex y e => ?_⟩
 obtain ⟨vs, cars⟩ := x
 simp only [lp, D] at e ⊢
 split at e
 ·rename_i kind same num n m cs
  obtain ⟨g1, g2⟩ := GT.need_eval e
  obtain ⟨rfl, hn2, l, rfl, h4, rfl⟩ := rowI_ok g1
  cases g2
  rw [h4]
  exact chain hP hn hG hI hIL l hn2 l.length 0 (kind, same, num) (by omega)
 ·cases e
set_option maxRecDepth 1000000 in
theorem run (n : Nat) (cs : List Value) : callK (cfgK Tryz.prog 4 (gpT []) (ltT 4 [lp])) (gpT []) (ltT 4 [lp]) 10 (.fn 53) (absVs 0 [.sl n 1 cs]) ⟨absH 0 [.sl n 1 cs], 4⟩ (fun o => some o.1) =
 (let s := (cs.map valI).foldl step (0, true, true); bif cs.all scalV && true then bif rowI n (Int.ofNat n) cs then bif s.2.1 then some (.tuple #[.int .i64 s.1, .bool true]) else some (.tuple #[.int .i64 s.1, .bool s.2.2]) else none else none) := by kernel_rfl
set_option maxRecDepth 1000000 in
theorem runN : callK (cfgK Tryz.prog 4 (gpT []) (ltT 4 [lp])) (gpT []) (ltT 4 [lp]) 10 (.fn 53) (absVs 0 [.nil]) ⟨absH 0 [.nil], 4⟩ (fun o => some o.1) = some (.tuple #[.int .i64 0, .bool true]) := by kernel_rfl
def res (l : List Int) : Int × Bool := ((alike l).1, (alike l).2.1 || (alike l).2.2)
def spec : Spec := fun aa => match aa with
 | [.sl n 1 cs] => some (.need (rowI n (Int.ofNat n) cs) (.out (.tuple #[.int .i64 (res (cs.map valI)).1, .bool (res (cs.map valI)).2])))
 | [.nil] => some (.out (.tuple #[.int .i64 0, .bool true]))
 | _ => none
theorem spec_ok {La : World → Prop} (hLa : ∀ w w', La w → RowKit.Below w.heap.size w w' → La w') : SpecOk Tryz.prog La 53 spec := by
 refine ⟨fnOk_ok (by kernel_rfl), fun aa t v h e => ?_⟩
 unfold spec at h
 split at h
 ·rename_i n cs
  cases h
  obtain ⟨g1, g2⟩ := GT.need_eval e
  cases g2
  obtain ⟨_, hn, l, rfl, h4, rfl⟩ := rowI_ok g1
  refine ⟨rfl, callT hLa prog_mix prog_names (by simp) (by simpa using lp_fine) (by decide) (by simp) rfl ((run _ _).trans ?_)⟩
  simp only [ints_scal, Bool.and_self, cond_true, g1, h4]
  unfold res alike
  cases (l.foldl step (0, true, true)).2.1 <;> simp
 ·cases h
  cases e
  exact ⟨rfl, callT hLa prog_mix prog_names (by simp) (by simpa using lp_fine) (by decide) (by simp) rfl runN⟩
 ·cases h
end A53
end
section
open Go Go.Proofs
namespace A14L0
noncomputable def cfg : Cfg := cfgK Tryz.prog 4 (gpT []) (ltT 4 [])
def stA (nm : ByteArray) (n : Nat) (r : Int) (e : Int) (i : Int) : KX := ⟨[(0, .string nm), (1, .slice (some ⟨1, 0, none⟩) n 1), (4, .int .i64 r), (5, .int .i64 e), (15, .slice (some ⟨1, 0, none⟩) n 1), (16, .int .i64 (Int.ofNat n)), (17, .int .i64 i)], []⟩
def stExit (nm : ByteArray) (n : Nat) (r : Int) (e : Int) : KX := ⟨[(0, .string nm), (1, .slice (some ⟨1, 0, none⟩) n 1), (4, .int .i64 r), (5, .int .i64 e)], []⟩
def stRet (r : Int) (e : Int) : KX := ⟨[(4, .int .i64 r), (5, .int .i64 e)], []⟩
def kp : Ex → List Nat
 | .normal => [0, 1, 4, 5, 15, 16, 17]
 | .exit _ => [0, 1, 4, 5]
 | .ret => [4, 5]
set_option maxRecDepth 1000000 in
theorem round (nm : ByteArray) (n : Nat) (r : Int) (e : Int) (i : Int) (cs : List Value) : rndK cfg [] [] 14 0 (stK 148 4 [(1, cs)] (stA nm n r e i)) (endK 4 100 148 kp (fun _ _ => [])) = (let x1 := 0 + ((i).toNat * 1); (bif decide (i < (Int.ofNat n)) then (bif decide (0 ≤ i) then (bif Nat.blt (i).toNat n then (bif isV cs x1 (.i .i64) then (bif decide ((rdI cs x1) < 0) then (some (.ret, stRet 0 100)) else (bif decide ((rdI cs x1) > 4) then (some (.ret, stRet 0 100)) else (some (.normal, stA nm n r e (IntKind.wrap .i64 (i + 1)))))) else none) else none) else none) else (some (.exit 0, stExit nm n r e)))) := by kernel_rfl
def bad (k : Int) : Bool := decide (k < 0) || decide (k > 4)
def stepF (p : ByteArray × Int × Int) (k : Int) : (ByteArray × Int × Int) ⊕ (Ex × KX) := bif bad k then .inr (.ret, stRet 0 100) else .inl p
def D : KD := ⟨148, 4, 100, [0, 1, 4, 5, 15, 16, 17], [1], fun _ => [], fun x ro => match x.vs, x.cars, ro with
 | [(0, .string nm), (1, .slice (some ⟨1, 0, none⟩) n 1), (4, .int .i64 r), (5, .int .i64 e), (15, .slice (some ⟨1, 0, none⟩) n' 1), (16, .int .i64 m), (17, .int .i64 0)], [], [(1, cs)] =>
  .need (Nat.beq n' n && rowI n m cs) (.br ((cs.map valI).any bad) (.out (.ret, stRet 0 100)) (.out (.exit 0, stExit nm n r e)))
 | _, _, _ => .no⟩
def lp : LpK := ⟨14, 2, 0, D⟩
theorem lp_fine : LpFine Tryz.prog La 4 lp := by
 refine ⟨by kernel_rfl, fun c base I hP hn hG hI hIL x ro ex y e => ?_⟩
 obtain ⟨vs, cars⟩ := x
 simp only [lp, D] at e ⊢
 split at e
 ·rename_i nm n r e0 n' m cs
  obtain ⟨g1, g2⟩ := GT.need_eval e
  simp only [Bool.and_eq_true] at g1
  obtain rfl := Nat.eq_of_beq_eq_true g1.1
  obtain ⟨rfl, hn2, l, rfl, h4, rfl⟩ := rowI_ok g1.2
  have key := scan_from (Step := @StepK (etaB base) c base I (loopAt Tryz.prog 14 0) 148 4 100 [(1, ints .i64 l)]) (step := stepF) (fin := fun p => (.exit 0, stExit p.1 l.length p.2.1 p.2.2)) (st := fun p j => stA p.1 l.length p.2.1 p.2.2 j) (l := l) (fun s => by simp) (fun s a r h => by
    unfold stepF at h
    cases hb : bad a <;> rw [hb] at h <;> cases h; simp) (fun p j hj => by
    have h1 := ltI hj
    have h2 := geI j
    have h3 := bltI hj
    have h4 : (0 + ((j : Int)).toNat * 1) = j := by simp
    have h5 := wrI j (by omega)
    have hr := round p.1 l.length p.2.1 p.2.2 j (ints .i64 l)
    simp only [h1, h2, h3, h4, h5, isV_ints _ l hj, rdI_ints _ l hj, cond_true] at hr
    unfold stepF bad
    cases e1 : decide (l[j] < 0) <;> cases e2 : decide (l[j] > 4) <;> rw [e1, e2] at hr <;> exact stepT prog_mix prog_names (by simp) (by simp) hP hn hG hI hIL hr) (fun p => by
    have h1 := nltI l.length
    have hr := round p.1 l.length p.2.1 p.2.2 l.length (ints .i64 l)
    simp only [h1, cond_false] at hr
    exact stepT prog_mix prog_names (by simp) (by simp) hP hn hG hI hIL hr) l.length 0 (nm, r, e0) (by omega)
  rw [List.drop_zero] at key
  unfold stepF at key
  rw [scanF_any] at key
  rw [h4] at g2
  cases hb : l.any bad with
  | true => rw [hb] at key g2; cases g2; exact key
  | false => rw [hb] at key g2; cases g2; exact key
 ·cases e
end A14L0
end
section
open Go Go.Proofs
namespace A14L1
noncomputable def cfg : Cfg := cfgK Tryz.prog 4 (gpT []) (ltT 4 [])
def stA (r : Int) (ok : Bool) (n : Nat) (i : Int) : KX := ⟨[(11, .int .i64 r), (12, .bool ok), (95, .slice (some ⟨1, 0, none⟩) n 1), (96, .int .i64 (Int.ofNat n)), (97, .int .i64 i)], []⟩
def stExit (r : Int) (ok : Bool) : KX := ⟨[(11, .int .i64 r), (12, .bool ok)], []⟩
def kp : Ex → List Nat
 | .normal => [11, 12, 95, 96, 97]
 | .exit _ => [11, 12]
 | _ => []
set_option maxRecDepth 1000000 in
theorem round (r : Int) (ok : Bool) (n : Nat) (i : Int) (cs : List Value) : rndK cfg [] [] 14 1 (stK 148 104 [(1, cs)] (stA r ok n i)) (endK 104 100 148 kp (fun _ _ => [])) = (let x1 := IntKind.wrap .i64 (i + 1); let x2 := 0 + ((i).toNat * 1); (bif decide (i < (Int.ofNat n)) then (bif decide (0 ≤ i) then (bif Nat.blt (i).toNat n then (bif isV cs x2 (.i .i64) then (bif ok then (bif ((rdI cs x2) == 0) then (some (.normal, stA r (true) n x1)) else (bif ((rdI cs x2) == 4) then (some (.normal, stA r (true) n x1)) else (some (.normal, stA r (false) n x1)))) else (some (.normal, stA r (false) n x1))) else none) else none) else none) else (some (.exit 3, stExit r (ok))))) := by kernel_rfl
def ok1 (k : Int) : Bool := k == 0 || k == 4
def D : KD := ⟨148, 104, 100, [11, 12, 95, 96, 97], [1], fun _ => [], fun x ro => match x.vs, x.cars, ro with
 | [(11, .int .i64 r), (12, .bool ok), (95, .slice (some ⟨1, 0, none⟩) n 1), (96, .int .i64 m), (97, .int .i64 0)], [], [(1, cs)] =>
  .need (rowI n m cs) (.out (.exit 3, stExit r ((cs.map valI).foldl (fun b k => b && ok1 k) ok)))
 | _, _, _ => .no⟩
def lp : LpK := ⟨14, 35, 1, D⟩
theorem lp_fine : LpFine Tryz.prog La 4 lp := by
 refine ⟨by kernel_rfl, fun c base I hP hn hG hI hIL x ro ex y e => ?_⟩
 obtain ⟨vs, cars⟩ := x
 simp only [lp, D] at e ⊢
 split at e
 ·rename_i r ok n m cs
  obtain ⟨g1, g2⟩ := GT.need_eval e
  obtain ⟨rfl, hn2, l, rfl, h4, rfl⟩ := rowI_ok g1
  have key := scan_from (Step := @StepK (etaB base) c base I (loopAt Tryz.prog 14 1) 148 104 100 [(1, ints .i64 l)]) (step := fun b k => .inl (b && ok1 k)) (fin := fun b => (.exit 3, stExit r b)) (st := fun b j => stA r b l.length j) (l := l) (fun s => by simp) (fun s a r h => by cases h) (fun b j hj => by
    have h1 := ltI hj
    have h2 := geI j
    have h3 := bltI hj
    have h4 : (0 + ((j : Int)).toNat * 1) = j := by simp
    have h5 := wrI j (by omega)
    have hr := round r b l.length j (ints .i64 l)
    simp only [h1, h2, h3, h4, h5, isV_ints _ l hj, rdI_ints _ l hj, cond_true] at hr
    refine stepT prog_mix prog_names (by simp) (by simp) hP hn hG hI hIL (hr.trans ?_)
    unfold ok1
    cases b <;> cases e1 : (l[j] == 0) <;> cases e2 : (l[j] == 4) <;> simp [e1, e2]) (fun b => by
    have h1 := nltI l.length
    have hr := round r b l.length l.length (ints .i64 l)
    simp only [h1, cond_false] at hr
    exact stepT prog_mix prog_names (by simp) (by simp) hP hn hG hI hIL hr) l.length 0 ok (by omega)
  rw [List.drop_zero, scanF_fold] at key
  cases g2
  rw [h4]
  exact key
 ·cases e
end A14L1
end
section
open Go Go.Proofs
namespace A14L1b
noncomputable def cfg : Cfg := cfgK Tryz.prog 4 (gpT []) (ltT 4 [])
def stA (r : Int) (ok : Bool) (n : Nat) (i : Int) : KX := ⟨[(11, .int .i64 r), (12, .bool ok), (95, .slice (some ⟨1, 0, none⟩) n 1), (96, .int .i64 (Int.ofNat n)), (97, .int .i64 i)], []⟩
def stExit (r : Int) (ok : Bool) : KX := ⟨[(11, .int .i64 r), (12, .bool ok)], []⟩
def kp : Ex → List Nat
 | .normal => [11, 12, 95, 96, 97]
 | .exit _ => [11, 12]
 | _ => []
set_option maxRecDepth 1000000 in
theorem round (r : Int) (ok : Bool) (n : Nat) (i : Int) (cs : List Value) : rndK cfg [] [] 14 1 (stK 148 106 [(1, cs)] (stA r ok n i)) (endK 106 100 148 kp (fun _ _ => [])) = (let x1 := IntKind.wrap .i64 (i + 1); let x2 := 0 + ((i).toNat * 1); (bif decide (i < (Int.ofNat n)) then (bif decide (0 ≤ i) then (bif Nat.blt (i).toNat n then (bif isV cs x2 (.i .i64) then (bif ok then (bif ((rdI cs x2) == 0) then (some (.normal, stA r (true) n x1)) else (bif ((rdI cs x2) == 4) then (some (.normal, stA r (true) n x1)) else (some (.normal, stA r (false) n x1)))) else (some (.normal, stA r (false) n x1))) else none) else none) else none) else (some (.exit 3, stExit r (ok))))) := by kernel_rfl
def ok1 (k : Int) : Bool := k == 0 || k == 4
def D : KD := ⟨148, 106, 100, [11, 12, 95, 96, 97], [1], fun _ => [], fun x ro => match x.vs, x.cars, ro with
 | [(11, .int .i64 r), (12, .bool ok), (95, .slice (some ⟨1, 0, none⟩) n 1), (96, .int .i64 m), (97, .int .i64 0)], [], [(1, cs)] =>
  .need (rowI n m cs) (.out (.exit 3, stExit r ((cs.map valI).foldl (fun b k => b && ok1 k) ok)))
 | _, _, _ => .no⟩
def lp : LpK := ⟨14, 35, 1, D⟩
theorem lp_fine : LpFine Tryz.prog La 4 lp := by
 refine ⟨by kernel_rfl, fun c base I hP hn hG hI hIL x ro ex y e => ?_⟩
 obtain ⟨vs, cars⟩ := x
 simp only [lp, D] at e ⊢
 split at e
 ·rename_i r ok n m cs
  obtain ⟨g1, g2⟩ := GT.need_eval e
  obtain ⟨rfl, hn2, l, rfl, h4, rfl⟩ := rowI_ok g1
  have key := scan_from (Step := @StepK (etaB base) c base I (loopAt Tryz.prog 14 1) 148 106 100 [(1, ints .i64 l)]) (step := fun b k => .inl (b && ok1 k)) (fin := fun b => (.exit 3, stExit r b)) (st := fun b j => stA r b l.length j) (l := l) (fun s => by simp) (fun s a r h => by cases h) (fun b j hj => by
    have h1 := ltI hj
    have h2 := geI j
    have h3 := bltI hj
    have h4 : (0 + ((j : Int)).toNat * 1) = j := by simp
    have h5 := wrI j (by omega)
    have hr := round r b l.length j (ints .i64 l)
    simp only [h1, h2, h3, h4, h5, isV_ints _ l hj, rdI_ints _ l hj, cond_true] at hr
    refine stepT prog_mix prog_names (by simp) (by simp) hP hn hG hI hIL (hr.trans ?_)
    unfold ok1
    cases b <;> cases e1 : (l[j] == 0) <;> cases e2 : (l[j] == 4) <;> simp [e1, e2]) (fun b => by
    have h1 := nltI l.length
    have hr := round r b l.length l.length (ints .i64 l)
    simp only [h1, cond_false] at hr
    exact stepT prog_mix prog_names (by simp) (by simp) hP hn hG hI hIL hr) l.length 0 ok (by omega)
  rw [List.drop_zero, scanF_fold] at key
  cases g2
  rw [h4]
  exact key
 ·cases e
end A14L1b
end
section
open Go Go.Proofs
namespace A14L1c
noncomputable def cfg : Cfg := cfgK Tryz.prog 4 (gpT []) (ltT 4 [])
def stA (r : Int) (ok : Bool) (n : Nat) (i : Int) : KX := ⟨[(11, .int .i64 r), (12, .bool ok), (95, .slice (some ⟨1, 0, none⟩) n 1), (96, .int .i64 (Int.ofNat n)), (97, .int .i64 i)], []⟩
def stExit (r : Int) (ok : Bool) : KX := ⟨[(11, .int .i64 r), (12, .bool ok)], []⟩
def kp : Ex → List Nat
 | .normal => [11, 12, 95, 96, 97]
 | .exit _ => [11, 12]
 | _ => []
set_option maxRecDepth 1000000 in
theorem round (r : Int) (ok : Bool) (n : Nat) (i : Int) (cs : List Value) : rndK cfg [] [] 14 1 (stK 148 105 [(1, cs)] (stA r ok n i)) (endK 105 100 148 kp (fun _ _ => [])) = (let x1 := IntKind.wrap .i64 (i + 1); let x2 := 0 + ((i).toNat * 1); (bif decide (i < (Int.ofNat n)) then (bif decide (0 ≤ i) then (bif Nat.blt (i).toNat n then (bif isV cs x2 (.i .i64) then (bif ok then (bif ((rdI cs x2) == 0) then (some (.normal, stA r (true) n x1)) else (bif ((rdI cs x2) == 4) then (some (.normal, stA r (true) n x1)) else (some (.normal, stA r (false) n x1)))) else (some (.normal, stA r (false) n x1))) else none) else none) else none) else (some (.exit 3, stExit r (ok))))) := by kernel_rfl
def ok1 (k : Int) : Bool := k == 0 || k == 4
def D : KD := ⟨148, 105, 100, [11, 12, 95, 96, 97], [1], fun _ => [], fun x ro => match x.vs, x.cars, ro with
 | [(11, .int .i64 r), (12, .bool ok), (95, .slice (some ⟨1, 0, none⟩) n 1), (96, .int .i64 m), (97, .int .i64 0)], [], [(1, cs)] =>
  .need (rowI n m cs) (.out (.exit 3, stExit r ((cs.map valI).foldl (fun b k => b && ok1 k) ok)))
 | _, _, _ => .no⟩
def lp : LpK := ⟨14, 35, 1, D⟩
theorem lp_fine : LpFine Tryz.prog La 4 lp := by
 refine ⟨by kernel_rfl, fun c base I hP hn hG hI hIL x ro ex y e => ?_⟩
 obtain ⟨vs, cars⟩ := x
 simp only [lp, D] at e ⊢
 split at e
 ·rename_i r ok n m cs
  obtain ⟨g1, g2⟩ := GT.need_eval e
  obtain ⟨rfl, hn2, l, rfl, h4, rfl⟩ := rowI_ok g1
  have key := scan_from (Step := @StepK (etaB base) c base I (loopAt Tryz.prog 14 1) 148 105 100 [(1, ints .i64 l)]) (step := fun b k => .inl (b && ok1 k)) (fin := fun b => (.exit 3, stExit r b)) (st := fun b j => stA r b l.length j) (l := l) (fun s => by simp) (fun s a r h => by cases h) (fun b j hj => by
    have h1 := ltI hj
    have h2 := geI j
    have h3 := bltI hj
    have h4 : (0 + ((j : Int)).toNat * 1) = j := by simp
    have h5 := wrI j (by omega)
    have hr := round r b l.length j (ints .i64 l)
    simp only [h1, h2, h3, h4, h5, isV_ints _ l hj, rdI_ints _ l hj, cond_true] at hr
    refine stepT prog_mix prog_names (by simp) (by simp) hP hn hG hI hIL (hr.trans ?_)
    unfold ok1
    cases b <;> cases e1 : (l[j] == 0) <;> cases e2 : (l[j] == 4) <;> simp [e1, e2]) (fun b => by
    have h1 := nltI l.length
    have hr := round r b l.length l.length (ints .i64 l)
    simp only [h1, cond_false] at hr
    exact stepT prog_mix prog_names (by simp) (by simp) hP hn hG hI hIL hr) l.length 0 ok (by omega)
  rw [List.drop_zero, scanF_fold] at key
  cases g2
  rw [h4]
  exact key
 ·cases e
end A14L1c
end
section
open Go Go.Proofs
namespace A14n
def T (s0 : ByteArray) : GT Value := let o1 : GT Value := (.out (.tuple ([.int .i64 0, .int .i64 100]).toArray)); (.br (eqU (s0).data.toList [97, 98, 115]) o1 (.br (eqU (s0).data.toList [99, 101, 105, 108]) o1 (.br (eqU (s0).data.toList [102, 108, 111, 111, 114]) o1 (.br (eqU (s0).data.toList [114, 111, 117, 110, 100]) o1 (.br (eqU (s0).data.toList [115, 105, 103, 110]) o1 (.br (eqU (s0).data.toList [116, 111, 105, 110, 116]) o1 (.br (eqU (s0).data.toList [116, 111, 100, 101, 99]) o1 (.br (eqU (s0).data.toList [99, 111, 97, 108, 101, 115, 99, 101]) o1 (.br (eqU (s0).data.toList [103, 114, 101, 97, 116, 101, 115, 116]) o1 (.br (eqU (s0).data.toList [108, 101, 97, 115, 116]) o1 (.br (eqU (s0).data.toList [110, 117, 108, 108, 105, 102]) o1 (.br (eqU (s0).data.toList [99, 111, 110, 99, 97, 116]) o1 (.br (eqU (s0).data.toList [108, 101, 110, 103, 116, 104]) o1 (.br (eqU (s0).data.toList [108, 111, 119, 101, 114]) o1 (.br (eqU (s0).data.toList [117, 112, 112, 101, 114]) o1 (.br (eqU (s0).data.toList [116, 114, 105, 109]) o1 (.br (eqU (s0).data.toList [116, 111, 116, 101, 120, 116]) o1 (.br (eqU (s0).data.toList [115, 117, 98, 115, 116, 114]) o1 o1))))))))))))))))))
set_option maxRecDepth 1000000 in
theorem run (s0 : ByteArray) : runK 4 [(52, A52.spec), (53, A53.spec)] [A14L0.lp, A14L1.lp, A14L1b.lp, A14L1c.lp] 14 [.v (.string s0), .nil] = (T s0).eval := by kernel_rfl
end A14n
end
section
open Go Go.Proofs
namespace A14
def T (s0 : ByteArray) (m1 : Nat) (c1 : List Value) : GT Value := let x1 := A53.res ((((((c1).drop 0)).take (m1 * 1))).map valI); let o1 : GT Value := (.out (.tuple ([.int .i64 0, .int .i64 100]).toArray)); let o2 : GT Value := (.out (.tuple ([.int .i64 (rdI c1 0), .int .i64 0]).toArray)); let o3 : GT Value := (.br ((((rdI c1 0) == 0) || (((rdI c1 0) == 2) || ((rdI c1 0) == 3)))) (.br (Nat.blt 0 m1) (.br (isV c1 0 (.i .i64)) o2 .no) .no) o1); let o4 : GT Value := (.out (.tuple ([.int .i64 2, .int .i64 0]).toArray)); let o5 : GT Value := (.br ((!(((rdI c1 0) == 0) || (((rdI c1 0) == 2) || ((rdI c1 0) == 3))))) o1 o4); let o6 : GT Value := (.br ((!(((rdI c1 0) == 0) || (((rdI c1 0) == 2) || ((rdI c1 0) == 3))))) o1 (.out (.tuple ([.int .i64 3, .int .i64 0]).toArray))); let o7 : GT Value := (.br (([((fun (cs : List Value) => ((0 + m1 * 1).ble cs.length && (List.take (m1 * 1) (List.drop 0 cs)).all scalV, AA.sl m1 1 (List.take (m1 * 1) (List.drop 0 cs)))) c1)]).all fun x => x.fst) (.br ((rowI m1 (Int.ofNat m1) ((((c1).drop 0)).take (m1 * 1)))) (.br (x1.2) (.br ((!decide ((Int.ofNat m1) ≥ 1))) o1 (.out (.tuple ([.int .i64 x1.1, .int .i64 0]).toArray))) o1) .no) .no); let o8 : GT Value := (.br (((Int.ofNat m1) == 2)) (.br (([((fun (cs : List Value) => ((0 + m1 * 1).ble cs.length && (List.take (m1 * 1) (List.drop 0 cs)).all scalV, AA.sl m1 1 (List.take (m1 * 1) (List.drop 0 cs)))) c1)]).all fun x => x.fst) (.br ((rowI m1 (Int.ofNat m1) ((((c1).drop 0)).take (m1 * 1)))) (.br (Nat.blt 0 m1) (.br (isV c1 0 (.i .i64)) (.br ((!x1.2)) o1 o2) .no) .no) .no) .no) o1); let o9 : GT Value := (.out (.tuple ([.int .i64 4, .int .i64 0]).toArray)); let o10 : GT Value := (.br ((!(((rdI c1 0) == 0) || ((rdI c1 0) == 4)))) o1 o9); let o11 : GT Value := (.br (eqU (s0).data.toList [116, 111, 116, 101, 120, 116]) (.br ((!((Int.ofNat m1) == 1))) o1 o9) (.br (eqU (s0).data.toList [115, 117, 98, 115, 116, 114]) (.br (((Int.ofNat m1) == 3)) (.br (Nat.blt 0 m1) (.br (isV c1 0 (.i .i64)) (.br ((((rdI c1 0) == 0) || ((rdI c1 0) == 4))) (.br (Nat.blt 1 m1) (.br (isV c1 1 (.i .i64)) (.br ((((rdI c1 1) == 0) || ((rdI c1 1) == 2))) (.br (Nat.blt 2 m1) (.br (isV c1 2 (.i .i64)) (.br ((!(((rdI c1 2) == 0) || ((rdI c1 2) == 2)))) o1 o9) .no) .no) o1) .no) .no) o1) .no) .no) o1) o1)); let o12 : GT Value := (.br (eqU (s0).data.toList [108, 101, 110, 103, 116, 104]) (.br ((!(((rdI c1 0) == 0) || ((rdI c1 0) == 4)))) o1 o4) (.br (eqU (s0).data.toList [108, 111, 119, 101, 114]) o10 (.br (eqU (s0).data.toList [117, 112, 112, 101, 114]) o10 (.br (eqU (s0).data.toList [116, 114, 105, 109]) o10 o11)))); let o13 : GT Value := (.br ((true && ([((1 : Nat), c1)]).all fun p => p.snd.all scalV)) (.br ((rowI m1 (Int.ofNat m1) c1)) (.br ((!(List.foldl (fun b k => b && A14L1c.ok1 k) (decide ((Int.ofNat m1) ≥ 1)) (List.map valI c1)))) o1 o9) .no) .no); let o14 : GT Value := (.br (eqU (s0).data.toList [108, 101, 110, 103, 116, 104]) o1 (.br (eqU (s0).data.toList [108, 111, 119, 101, 114]) o1 (.br (eqU (s0).data.toList [117, 112, 112, 101, 114]) o1 (.br (eqU (s0).data.toList [116, 114, 105, 109]) o1 o11)))); (.br ((true && ([((1 : Nat), c1)]).all fun p => p.snd.all scalV)) (.br ((Nat.beq m1 m1 && (rowI m1 (Int.ofNat m1) c1))) (.br (((List.map valI c1).any A14L0.bad)) o1 (.br (((Int.ofNat m1) == 1)) (.br (Nat.blt 0 m1) (.br (isV c1 0 (.i .i64)) (.br (((Int.ofNat m1) == 1)) (.br (Nat.blt 0 m1) (.br (isV c1 0 (.i .i64)) (.br (eqU (s0).data.toList [97, 98, 115]) o3 (.br (eqU (s0).data.toList [99, 101, 105, 108]) o5 (.br (eqU (s0).data.toList [102, 108, 111, 111, 114]) o5 (.br (eqU (s0).data.toList [114, 111, 117, 110, 100]) o5 (.br (eqU (s0).data.toList [115, 105, 103, 110]) o5 (.br (eqU (s0).data.toList [116, 111, 105, 110, 116]) o5 (.br (eqU (s0).data.toList [116, 111, 100, 101, 99]) o6 (.br (eqU (s0).data.toList [99, 111, 97, 108, 101, 115, 99, 101]) o7 (.br (eqU (s0).data.toList [103, 114, 101, 97, 116, 101, 115, 116]) o7 (.br (eqU (s0).data.toList [108, 101, 97, 115, 116]) o7 (.br (eqU (s0).data.toList [110, 117, 108, 108, 105, 102]) o8 (.br (eqU (s0).data.toList [99, 111, 110, 99, 97, 116]) (.br ((true && ([((1 : Nat), c1)]).all fun p => p.snd.all scalV)) (.br ((rowI m1 (Int.ofNat m1) c1)) (.br ((!(List.foldl (fun b k => b && A14L1b.ok1 k) (decide ((Int.ofNat m1) ≥ 1)) (List.map valI c1)))) o1 o9) .no) .no) o12)))))))))))) .no) .no) (.br (eqU (s0).data.toList [97, 98, 115]) o3 (.br (eqU (s0).data.toList [99, 101, 105, 108]) o5 (.br (eqU (s0).data.toList [102, 108, 111, 111, 114]) o5 (.br (eqU (s0).data.toList [114, 111, 117, 110, 100]) o5 (.br (eqU (s0).data.toList [115, 105, 103, 110]) o5 (.br (eqU (s0).data.toList [116, 111, 105, 110, 116]) o5 (.br (eqU (s0).data.toList [116, 111, 100, 101, 99]) o6 (.br (eqU (s0).data.toList [99, 111, 97, 108, 101, 115, 99, 101]) o7 (.br (eqU (s0).data.toList [103, 114, 101, 97, 116, 101, 115, 116]) o7 (.br (eqU (s0).data.toList [108, 101, 97, 115, 116]) o7 (.br (eqU (s0).data.toList [110, 117, 108, 108, 105, 102]) o8 (.br (eqU (s0).data.toList [99, 111, 110, 99, 97, 116]) o13 o14))))))))))))) .no) .no) (.br (((Int.ofNat m1) == 1)) (.br (Nat.blt 0 m1) (.br (isV c1 0 (.i .i64)) (.br (eqU (s0).data.toList [97, 98, 115]) o1 (.br (eqU (s0).data.toList [99, 101, 105, 108]) o1 (.br (eqU (s0).data.toList [102, 108, 111, 111, 114]) o1 (.br (eqU (s0).data.toList [114, 111, 117, 110, 100]) o1 (.br (eqU (s0).data.toList [115, 105, 103, 110]) o1 (.br (eqU (s0).data.toList [116, 111, 105, 110, 116]) o1 (.br (eqU (s0).data.toList [116, 111, 100, 101, 99]) o1 (.br (eqU (s0).data.toList [99, 111, 97, 108, 101, 115, 99, 101]) o7 (.br (eqU (s0).data.toList [103, 114, 101, 97, 116, 101, 115, 116]) o7 (.br (eqU (s0).data.toList [108, 101, 97, 115, 116]) o7 (.br (eqU (s0).data.toList [110, 117, 108, 108, 105, 102]) o8 (.br (eqU (s0).data.toList [99, 111, 110, 99, 97, 116]) o13 o12)))))))))))) .no) .no) (.br (eqU (s0).data.toList [97, 98, 115]) o1 (.br (eqU (s0).data.toList [99, 101, 105, 108]) o1 (.br (eqU (s0).data.toList [102, 108, 111, 111, 114]) o1 (.br (eqU (s0).data.toList [114, 111, 117, 110, 100]) o1 (.br (eqU (s0).data.toList [115, 105, 103, 110]) o1 (.br (eqU (s0).data.toList [116, 111, 105, 110, 116]) o1 (.br (eqU (s0).data.toList [116, 111, 100, 101, 99]) o1 (.br (eqU (s0).data.toList [99, 111, 97, 108, 101, 115, 99, 101]) o7 (.br (eqU (s0).data.toList [103, 114, 101, 97, 116, 101, 115, 116]) o7 (.br (eqU (s0).data.toList [108, 101, 97, 115, 116]) o7 (.br (eqU (s0).data.toList [110, 117, 108, 108, 105, 102]) o8 (.br (eqU (s0).data.toList [99, 111, 110, 99, 97, 116]) (.br ((true && ([((1 : Nat), c1)]).all fun p => p.snd.all scalV)) (.br ((rowI m1 (Int.ofNat m1) c1)) (.br ((!(List.foldl (fun b k => b && A14L1.ok1 k) (decide ((Int.ofNat m1) ≥ 1)) (List.map valI c1)))) o1 o9) .no) .no) o14))))))))))))))) .no) .no)
set_option maxRecDepth 1000000 in
theorem run (s0 : ByteArray) (m1 : Nat) (c1 : List Value) : runK 4 [(52, A52.spec), (53, A53.spec)] [A14L0.lp, A14L1.lp, A14L1b.lp, A14L1c.lp] 14 [.v (.string s0), .sl m1 1 c1] = (T s0 m1 c1).eval := by kernel_rfl
def r (b : Bool) (k : Int) : Value := bif b then .tuple #[.int .i64 k, .int .i64 0] else .tuple #[.int .i64 0, .int .i64 100]
def num : List Int → Bool | [a] => a == 0 || (a == 2 || a == 3) | _ => false
def txt : List Int → Bool | [a] => a == 0 || a == 4 | _ => false
def sub : List Int → Bool | [a, b, c] => (a == 0 || a == 4) && ((b == 0 || b == 2) && (c == 0 || c == 2)) | _ => false
def kindV (s : ByteArray) (l : List Int) : Value :=
 bif l.any A14L0.bad then r false 0 else
 bif eqU s.data.toList [97, 98, 115] then r (num l) (l.headD 0) else
 bif eqU s.data.toList [99, 101, 105, 108] then r (num l) 2 else
 bif eqU s.data.toList [102, 108, 111, 111, 114] then r (num l) 2 else
 bif eqU s.data.toList [114, 111, 117, 110, 100] then r (num l) 2 else
 bif eqU s.data.toList [115, 105, 103, 110] then r (num l) 2 else
 bif eqU s.data.toList [116, 111, 105, 110, 116] then r (num l) 2 else
 bif eqU s.data.toList [116, 111, 100, 101, 99] then r (num l) 3 else
 bif eqU s.data.toList [99, 111, 97, 108, 101, 115, 99, 101] then r ((A53.res l).2 && decide (Int.ofNat l.length ≥ 1)) (A53.res l).1 else
 bif eqU s.data.toList [103, 114, 101, 97, 116, 101, 115, 116] then r ((A53.res l).2 && decide (Int.ofNat l.length ≥ 1)) (A53.res l).1 else
 bif eqU s.data.toList [108, 101, 97, 115, 116] then r ((A53.res l).2 && decide (Int.ofNat l.length ≥ 1)) (A53.res l).1 else
 bif eqU s.data.toList [110, 117, 108, 108, 105, 102] then r (Int.ofNat l.length == 2 && (A53.res l).2) (l.headD 0) else
 bif eqU s.data.toList [99, 111, 110, 99, 97, 116] then r (l.foldl (fun b k => b && A14L1.ok1 k) (decide (Int.ofNat l.length ≥ 1))) 4 else
 bif eqU s.data.toList [108, 101, 110, 103, 116, 104] then r (txt l) 2 else
 bif eqU s.data.toList [108, 111, 119, 101, 114] then r (txt l) 4 else
 bif eqU s.data.toList [117, 112, 112, 101, 114] then r (txt l) 4 else
 bif eqU s.data.toList [116, 114, 105, 109] then r (txt l) 4 else
 bif eqU s.data.toList [116, 111, 116, 101, 120, 116] then r (Int.ofNat l.length == 1) 4 else
 bif eqU s.data.toList [115, 117, 98, 115, 116, 114] then r (sub l) 4 else
 r false 0
theorem all1 (l : List Int) : (true && [((1 : Nat), ints .i64 l)].all fun p => p.2.all scalV) = true := by simp [ints_scal]
theorem take_all (l : List Int) : ((ints .i64 l).drop 0).take (l.length * 1) = ints .i64 l := by rw [List.drop_zero, Nat.mul_one]; exact List.take_of_length_le (by rw [ints_len]; exact Nat.le_refl _)
theorem all2' (l : List Int) : ([(fun (cs : List Value) => ((0 + l.length * 1).ble cs.length && (List.take (l.length * 1) (List.drop 0 cs)).all scalV, AA.sl l.length 1 (List.take (l.length * 1) (List.drop 0 cs)))) (ints .i64 l)].all fun x => x.fst) = true := by
 simp only [List.all_cons, List.all_nil, take_all, ints_scal, Bool.and_true, ints_len]; rw [Nat.ble_eq]; omega
set_option maxHeartbeats 0 in
theorem T_ok (s : ByteArray) (l : List Int) (hl : l.length < 4611686018427387904) : (T s l.length (ints .i64 l)).eval = some (kindV s l) := by
 have g := rowI_of hl
 have a1 := all1 l
 have a2 := all2' l
 have a3 := take_all l
 have a4 : Nat.beq l.length l.length = true := Nat.beq_refl _
 unfold T kindV
 dsimp only [] at a1 a2 ⊢
 simp only [a3] at a2
 simp only [a1, a2, a3, a4, g, ints_vals, GT.eval, Bool.true_and, cond_true]
 cases hb : l.any A14L0.bad
 case true => rfl
 clear a1 a2 a3 a4 g hb
 have b1 : A14L1b.ok1 = A14L1.ok1 := rfl
 have b2 : A14L1c.ok1 = A14L1.ok1 := rfl
 simp only [b1, b2]
 generalize A53.res l = x
 obtain ⟨x1, x2⟩ := x
 generalize List.foldl (fun b k => b && A14L1.ok1 k) (decide (Int.ofNat l.length ≥ 1)) l = y
 generalize eqU s.data.toList [97, 98, 115] = n0
 generalize eqU s.data.toList [99, 101, 105, 108] = n1
 generalize eqU s.data.toList [102, 108, 111, 111, 114] = n2
 generalize eqU s.data.toList [114, 111, 117, 110, 100] = n3
 generalize eqU s.data.toList [115, 105, 103, 110] = n4
 generalize eqU s.data.toList [116, 111, 105, 110, 116] = n5
 generalize eqU s.data.toList [116, 111, 100, 101, 99] = n6
 generalize eqU s.data.toList [99, 111, 97, 108, 101, 115, 99, 101] = n7
 generalize eqU s.data.toList [103, 114, 101, 97, 116, 101, 115, 116] = n8
 generalize eqU s.data.toList [108, 101, 97, 115, 116] = n9
 generalize eqU s.data.toList [110, 117, 108, 108, 105, 102] = n10
 generalize eqU s.data.toList [99, 111, 110, 99, 97, 116] = n11
 generalize eqU s.data.toList [108, 101, 110, 103, 116, 104] = n12
 generalize eqU s.data.toList [108, 111, 119, 101, 114] = n13
 generalize eqU s.data.toList [117, 112, 112, 101, 114] = n14
 generalize eqU s.data.toList [116, 114, 105, 109] = n15
 generalize eqU s.data.toList [116, 111, 116, 101, 120, 116] = n16
 generalize eqU s.data.toList [115, 117, 98, 115, 116, 114] = n17
 match l, hl with
 | [], _ =>
  cases n0
  case true => cases x2 <;> cases y <;> rfl
  cases n1
  case true => cases x2 <;> cases y <;> rfl
  cases n2
  case true => cases x2 <;> cases y <;> rfl
  cases n3
  case true => cases x2 <;> cases y <;> rfl
  cases n4
  case true => cases x2 <;> cases y <;> rfl
  cases n5
  case true => cases x2 <;> cases y <;> rfl
  cases n6
  case true => cases x2 <;> cases y <;> rfl
  cases n7
  case true => cases x2 <;> cases y <;> rfl
  cases n8
  case true => cases x2 <;> cases y <;> rfl
  cases n9
  case true => cases x2 <;> cases y <;> rfl
  cases n10
  case true => cases x2 <;> cases y <;> rfl
  cases n11
  case true => cases x2 <;> cases y <;> rfl
  cases n12
  case true => cases x2 <;> cases y <;> rfl
  cases n13
  case true => cases x2 <;> cases y <;> rfl
  cases n14
  case true => cases x2 <;> cases y <;> rfl
  cases n15
  case true => cases x2 <;> cases y <;> rfl
  cases n16
  case true => cases x2 <;> cases y <;> rfl
  cases n17
  case true => cases x2 <;> cases y <;> rfl
  rfl
 | [a], _ =>
  have q0 : rdI (ints .i64 [a]) 0 = a := rfl
  simp only [q0]
  dsimp only [num, txt, sub]
  generalize (a == 0) = e0
  generalize (a == 2) = e2
  generalize (a == 3) = e3
  generalize (a == 4) = e4
  cases n0
  case true => cases x2 <;> cases y <;> cases e0 <;> cases e2 <;> cases e3 <;> cases e4 <;> rfl
  cases n1
  case true => cases x2 <;> cases y <;> cases e0 <;> cases e2 <;> cases e3 <;> cases e4 <;> rfl
  cases n2
  case true => cases x2 <;> cases y <;> cases e0 <;> cases e2 <;> cases e3 <;> cases e4 <;> rfl
  cases n3
  case true => cases x2 <;> cases y <;> cases e0 <;> cases e2 <;> cases e3 <;> cases e4 <;> rfl
  cases n4
  case true => cases x2 <;> cases y <;> cases e0 <;> cases e2 <;> cases e3 <;> cases e4 <;> rfl
  cases n5
  case true => cases x2 <;> cases y <;> cases e0 <;> cases e2 <;> cases e3 <;> cases e4 <;> rfl
  cases n6
  case true => cases x2 <;> cases y <;> cases e0 <;> cases e2 <;> cases e3 <;> cases e4 <;> rfl
  cases n7
  case true => cases x2 <;> cases y <;> cases e0 <;> cases e2 <;> cases e3 <;> cases e4 <;> rfl
  cases n8
  case true => cases x2 <;> cases y <;> cases e0 <;> cases e2 <;> cases e3 <;> cases e4 <;> rfl
  cases n9
  case true => cases x2 <;> cases y <;> cases e0 <;> cases e2 <;> cases e3 <;> cases e4 <;> rfl
  cases n10
  case true => cases x2 <;> cases y <;> cases e0 <;> cases e2 <;> cases e3 <;> cases e4 <;> rfl
  cases n11
  case true => cases x2 <;> cases y <;> cases e0 <;> cases e2 <;> cases e3 <;> cases e4 <;> rfl
  cases n12
  case true => cases x2 <;> cases y <;> cases e0 <;> cases e2 <;> cases e3 <;> cases e4 <;> rfl
  cases n13
  case true => cases x2 <;> cases y <;> cases e0 <;> cases e2 <;> cases e3 <;> cases e4 <;> rfl
  cases n14
  case true => cases x2 <;> cases y <;> cases e0 <;> cases e2 <;> cases e3 <;> cases e4 <;> rfl
  cases n15
  case true => cases x2 <;> cases y <;> cases e0 <;> cases e2 <;> cases e3 <;> cases e4 <;> rfl
  cases n16
  case true => cases x2 <;> cases y <;> cases e0 <;> cases e2 <;> cases e3 <;> cases e4 <;> rfl
  cases n17
  case true => cases x2 <;> cases y <;> cases e0 <;> cases e2 <;> cases e3 <;> cases e4 <;> rfl
  rfl
 | [a, b], _ =>
  cases n0
  case true => cases x2 <;> cases y <;> rfl
  cases n1
  case true => cases x2 <;> cases y <;> rfl
  cases n2
  case true => cases x2 <;> cases y <;> rfl
  cases n3
  case true => cases x2 <;> cases y <;> rfl
  cases n4
  case true => cases x2 <;> cases y <;> rfl
  cases n5
  case true => cases x2 <;> cases y <;> rfl
  cases n6
  case true => cases x2 <;> cases y <;> rfl
  cases n7
  case true => cases x2 <;> cases y <;> rfl
  cases n8
  case true => cases x2 <;> cases y <;> rfl
  cases n9
  case true => cases x2 <;> cases y <;> rfl
  cases n10
  case true => cases x2 <;> cases y <;> rfl
  cases n11
  case true => cases x2 <;> cases y <;> rfl
  cases n12
  case true => cases x2 <;> cases y <;> rfl
  cases n13
  case true => cases x2 <;> cases y <;> rfl
  cases n14
  case true => cases x2 <;> cases y <;> rfl
  cases n15
  case true => cases x2 <;> cases y <;> rfl
  cases n16
  case true => cases x2 <;> cases y <;> rfl
  cases n17
  case true => cases x2 <;> cases y <;> rfl
  rfl
 | [a, b, c], _ =>
  have q0 : rdI (ints .i64 [a, b, c]) 0 = a := rfl
  have q1 : rdI (ints .i64 [a, b, c]) 1 = b := rfl
  have q2 : rdI (ints .i64 [a, b, c]) 2 = c := rfl
  simp only [q0, q1, q2]
  dsimp only [num, txt, sub]
  generalize (a == 0) = e0
  generalize (a == 4) = e1
  generalize (b == 0) = e2
  generalize (b == 2) = e3
  generalize (c == 0) = e4
  generalize (c == 2) = e5
  cases n0
  case true => cases x2 <;> cases y <;> cases e0 <;> cases e1 <;> cases e2 <;> cases e3 <;> cases e4 <;> cases e5 <;> rfl
  cases n1
  case true => cases x2 <;> cases y <;> cases e0 <;> cases e1 <;> cases e2 <;> cases e3 <;> cases e4 <;> cases e5 <;> rfl
  cases n2
  case true => cases x2 <;> cases y <;> cases e0 <;> cases e1 <;> cases e2 <;> cases e3 <;> cases e4 <;> cases e5 <;> rfl
  cases n3
  case true => cases x2 <;> cases y <;> cases e0 <;> cases e1 <;> cases e2 <;> cases e3 <;> cases e4 <;> cases e5 <;> rfl
  cases n4
  case true => cases x2 <;> cases y <;> cases e0 <;> cases e1 <;> cases e2 <;> cases e3 <;> cases e4 <;> cases e5 <;> rfl
  cases n5
  case true => cases x2 <;> cases y <;> cases e0 <;> cases e1 <;> cases e2 <;> cases e3 <;> cases e4 <;> cases e5 <;> rfl
  cases n6
  case true => cases x2 <;> cases y <;> cases e0 <;> cases e1 <;> cases e2 <;> cases e3 <;> cases e4 <;> cases e5 <;> rfl
  cases n7
  case true => cases x2 <;> cases y <;> cases e0 <;> cases e1 <;> cases e2 <;> cases e3 <;> cases e4 <;> cases e5 <;> rfl
  cases n8
  case true => cases x2 <;> cases y <;> cases e0 <;> cases e1 <;> cases e2 <;> cases e3 <;> cases e4 <;> cases e5 <;> rfl
  cases n9
  case true => cases x2 <;> cases y <;> cases e0 <;> cases e1 <;> cases e2 <;> cases e3 <;> cases e4 <;> cases e5 <;> rfl
  cases n10
  case true => cases x2 <;> cases y <;> cases e0 <;> cases e1 <;> cases e2 <;> cases e3 <;> cases e4 <;> cases e5 <;> rfl
  cases n11
  case true => cases x2 <;> cases y <;> cases e0 <;> cases e1 <;> cases e2 <;> cases e3 <;> cases e4 <;> cases e5 <;> rfl
  cases n12
  case true => cases x2 <;> cases y <;> cases e0 <;> cases e1 <;> cases e2 <;> cases e3 <;> cases e4 <;> cases e5 <;> rfl
  cases n13
  case true => cases x2 <;> cases y <;> cases e0 <;> cases e1 <;> cases e2 <;> cases e3 <;> cases e4 <;> cases e5 <;> rfl
  cases n14
  case true => cases x2 <;> cases y <;> cases e0 <;> cases e1 <;> cases e2 <;> cases e3 <;> cases e4 <;> cases e5 <;> rfl
  cases n15
  case true => cases x2 <;> cases y <;> cases e0 <;> cases e1 <;> cases e2 <;> cases e3 <;> cases e4 <;> cases e5 <;> rfl
  cases n16
  case true => cases x2 <;> cases y <;> cases e0 <;> cases e1 <;> cases e2 <;> cases e3 <;> cases e4 <;> cases e5 <;> rfl
  cases n17
  case true => cases x2 <;> cases y <;> cases e0 <;> cases e1 <;> cases e2 <;> cases e3 <;> cases e4 <;> cases e5 <;> rfl
  rfl
 | a :: b :: c :: d :: l', _ =>
  have h1 : (Int.ofNat (a :: b :: c :: d :: l').length == 1) = false := beq_eq_false_iff_ne.mpr (by simp only [List.length_cons]; intro h; have := Int.ofNat.inj (h.trans (show (1 : Int) = Int.ofNat 1 from rfl)); omega)
  have h2 : (Int.ofNat (a :: b :: c :: d :: l').length == 2) = false := beq_eq_false_iff_ne.mpr (by simp only [List.length_cons]; intro h; have := Int.ofNat.inj (h.trans (show (2 : Int) = Int.ofNat 2 from rfl)); omega)
  have h3 : (Int.ofNat (a :: b :: c :: d :: l').length == 3) = false := beq_eq_false_iff_ne.mpr (by simp only [List.length_cons]; intro h; have := Int.ofNat.inj (h.trans (show (3 : Int) = Int.ofNat 3 from rfl)); omega)
  have h4 : decide (Int.ofNat (a :: b :: c :: d :: l').length ≥ 1) = true := decide_eq_true (by show (1 : Int) ≤ ((a :: b :: c :: d :: l').length : Int); simp only [List.length_cons]; omega)
  simp only [h1, h2, h3, h4, cond_false, num, txt, sub, Bool.false_and, Bool.and_true]
  cases n0
  case true => cases x2 <;> cases y <;> rfl
  cases n1
  case true => cases x2 <;> cases y <;> rfl
  cases n2
  case true => cases x2 <;> cases y <;> rfl
  cases n3
  case true => cases x2 <;> cases y <;> rfl
  cases n4
  case true => cases x2 <;> cases y <;> rfl
  cases n5
  case true => cases x2 <;> cases y <;> rfl
  cases n6
  case true => cases x2 <;> cases y <;> rfl
  cases n7
  case true => cases x2 <;> cases y <;> rfl
  cases n8
  case true => cases x2 <;> cases y <;> rfl
  cases n9
  case true => cases x2 <;> cases y <;> rfl
  cases n10
  case true => cases x2 <;> cases y <;> rfl
  cases n11
  case true => cases x2 <;> cases y <;> rfl
  cases n12
  case true => cases x2 <;> cases y <;> rfl
  cases n13
  case true => cases x2 <;> cases y <;> rfl
  cases n14
  case true => cases x2 <;> cases y <;> rfl
  cases n15
  case true => cases x2 <;> cases y <;> rfl
  cases n16
  case true => cases x2 <;> cases y <;> rfl
  cases n17
  case true => cases x2 <;> cases y <;> rfl
  rfl
theorem r_flat (b : Bool) (k : Int) : pfd 3 (r b k) = true := by cases b <;> rfl
theorem kindV_flat (s : ByteArray) (l : List Int) : pfd 3 (kindV s l) = true := by
 unfold kindV
 repeat' (first | exact r_flat _ _ | (refine Bool.rec (motive := fun b => pfd 3 (bif b then _ else _) = true) ?_ ?_ _ <;> simp only [cond_true, cond_false]))
def spec : Spec := fun aa => match aa with
 | [.v (.string s), .sl n 1 cs] => some (.need (rowI n (Int.ofNat n) cs) (.out (kindV s (cs.map valI))))
 | [.v (.string s), .nil] => some (.out (r false 0))
 | _ => none
theorem same {α : Type} (b : Bool) (x : α) : (bif b then x else x) = x := by cases b <;> rfl
theorem T_nil (s : ByteArray) : (A14n.T s).eval = some (r false 0) := by
 unfold A14n.T
 simp only [GT.eval, same]
 rfl
theorem spec_ok : SpecOk Tryz.prog La 14 spec := ⟨fnOk_ok (by kernel_rfl), fun aa t v h e => by
 unfold spec at h
 split at h
 ·rename_i s n cs
  cases h
  obtain ⟨g1, g2⟩ := GT.need_eval e
  cases g2
  obtain ⟨_, hn, l, rfl, h4, rfl⟩ := rowI_ok g1
  rw [h4]
  exact ⟨kindV_flat _ _, callT La_below prog_mix prog_names (by simpa using ⟨A52.spec_ok, A53.spec_ok La_below⟩) (by simpa using ⟨A14L0.lp_fine, A14L1.lp_fine, A14L1b.lp_fine, A14L1c.lp_fine⟩) (by decide) (by simp) (kindV_flat _ _) ((run _ _ _).trans (T_ok _ _ hn))⟩
 ·cases h
  cases e
  exact ⟨rfl, callT La_below prog_mix prog_names (by simpa using ⟨A52.spec_ok, A53.spec_ok La_below⟩) (by simpa using ⟨A14L0.lp_fine, A14L1.lp_fine, A14L1b.lp_fine, A14L1c.lp_fine⟩) (by decide) (by simp) rfl ((A14n.run _).trans (T_nil _))⟩
 ·cases h⟩
end A14
end
section
open Go Go.Proofs
namespace A75
def T (k0 n0 : Int) (s0 : ByteArray) : GT Value := let o1 : GT Value := (.br ((k0 == 0)) (.out (.tuple ([.agg ([.int .i64 0, .int .i64 0, .string ⟨([]).toArray⟩]).toArray, .int .i64 0]).toArray)) (.br ((((k0 == 2) || (k0 == 3)) && (inR n0))) (.br ((!(A127.dec k0 n0).2)) (.out (.tuple ([.agg ([.int .i64 0, .int .i64 0, .string ⟨([]).toArray⟩]).toArray, .int .i64 20]).toArray)) (.out (.tuple ([.agg ([.int .i64 3, .int .i64 (A127.dec k0 n0).1, .string ⟨([]).toArray⟩]).toArray, .int .i64 0]).toArray))) .no)); (.br ((k0 == 2)) o1 (.br ((!(k0 == 3))) (.br ((k0 != 0)) (.out (.tuple ([.agg ([.int .i64 0, .int .i64 0, .string ⟨([]).toArray⟩]).toArray, .int .i64 22]).toArray)) o1) o1))
set_option maxRecDepth 1000000 in
theorem run (k0 n0 : Int) (s0 : ByteArray) : runK 4 [(127, A127.spec)] [] 75 [.v (.agg #[.int .i64 k0, .int .i64 n0, .string s0])] = (T k0 n0 s0).eval := by kernel_rfl
def decV (k n : Int) : V3 × Int := if k = 0 then (v0, 0) else if k = 2 ∨ k = 3 then (if (A127.dec k n).2 = true then ((3, (A127.dec k n).1, ⟨#[]⟩), 0) else (v0, 20)) else (v0, 22)
theorem T_ok (k n : Int) (s : ByteArray) (h : inR n = true) : (T k n s).eval = some (ve (decV k n)) := by
 unfold decV
 by_cases h0 : k = 0
 ·subst h0; simp [T, GT.eval, ve, vv, v0]
 ·by_cases h2 : k = 2
  ·subst h2; cases e : (A127.dec 2 n).2 <;> simp [T, GT.eval, ve, vv, v0, h, e]
  ·by_cases h3 : k = 3
   ·subst h3; cases e : (A127.dec 3 n).2 <;> simp [T, GT.eval, ve, vv, v0, h, e]
   ·simp [T, GT.eval, ve, vv, v0, h0, h2, h3, beq_eq_false_iff_ne.mpr h2, beq_eq_false_iff_ne.mpr h3, bne_iff_ne.mpr h0]
def spec : Spec := fun aa => match aa with
 | [a] => (vOf a).bind fun x => some (.need (inR x.2.1) (.out (ve (decV x.1 x.2.1))))
 | _ => none
theorem spec_ok : SpecOk Tryz.prog La 75 spec := ⟨fnOk_ok (by kernel_rfl), fun aa t v h e => by
 unfold spec at h
 split at h
 ·rename_i a
  obtain ⟨⟨k0, n0, s0⟩, h1, h⟩ := opt_bind h
  cases h
  rw [vOf_ok h1]
  obtain ⟨g1, g2⟩ := GT.need_eval e
  cases g2
  refine ⟨rfl, callT La_below prog_mix prog_names ?_ (by simp) (by decide) (by simp) rfl ((run k0 n0 s0).trans (T_ok k0 n0 s0 g1))⟩
  intro p hp
  simp only [List.mem_cons, List.not_mem_nil, or_false] at hp
  rcases hp with rfl
  exact A127.spec_ok
 ·cases h⟩
end A75
end
section
open Go Go.Proofs
namespace A129
def T (a0 : Int) : GT Value := let x1 := 0 + ((a0).toNat * 1); (.br (decide (a0 < 0)) (.out (.int .i64 4)) (.br (decide (a0 ≥ 5)) (.out (.int .i64 4)) (.br (decide (0 ≤ a0)) (.br (Nat.blt (a0).toNat 5) (.br (isV [.int .i64 0, .int .i64 1, .int .i64 2, .int .i64 2, .int .i64 3] x1 (.i .i64)) (.out (.int .i64 (rdI [.int .i64 0, .int .i64 1, .int .i64 2, .int .i64 2, .int .i64 3] x1))) .no) .no) .no)))
set_option maxRecDepth 1000000 in
theorem run (a0 : Int) : runK 4 [] [] 129 [.v (.int .i64 a0)] = (T a0).eval := by kernel_rfl
def rank (a : Int) : Int := if a < 0 then 4 else if 5 ≤ a then 4 else if a = 0 then 0 else if a = 1 then 1 else if a = 4 then 3 else 2
theorem T_ok (a : Int) : (T a).eval = some (.int .i64 (rank a)) := by
 unfold rank
 by_cases h1 : a < 0
 ·simp [T, GT.eval, h1]
 ·by_cases h2 : 5 ≤ a
  ·simp [T, GT.eval, h1, h2]
  ·have : a = 0 ∨ a = 1 ∨ a = 2 ∨ a = 3 ∨ a = 4 := by omega
   rcases this with rfl | rfl | rfl | rfl | rfl <;> rfl
def spec : Spec := fun aa => match aa with
 | [.v (.int .i64 a)] => some (.out (.int .i64 (rank a)))
 | _ => none
theorem spec_ok : SpecOk Tryz.prog La 129 spec := ⟨fnOk_ok (by kernel_rfl), fun aa t v h e => by
 unfold spec at h
 split at h
 ·cases h; cases e
  exact ⟨rfl, callT La_below prog_mix prog_names (by simp) (by simp) (by decide) (by simp) rfl ((run _).trans (T_ok _))⟩
 ·cases h⟩
end A129
end
section
open Go Go.Proofs
namespace A131ii
def T (n0 : Int) (s0 : ByteArray) (n1 : Int) (s1 : ByteArray) : GT Value := (.br ((n0 != n0)) (.br ((n1 != n1)) (.out (.int .i64 0)) (.out (.int .i64 (-1)))) (.br ((n1 != n1)) (.out (.int .i64 1)) (.br (decide (n0 < n1)) (.out (.int .i64 (-1))) (.br (decide (n0 > n1)) (.out (.int .i64 1)) (.out (.int .i64 0))))))
set_option maxRecDepth 1000000 in
theorem run (n0 : Int) (s0 : ByteArray) (n1 : Int) (s1 : ByteArray) : runK 4 [] [] 131 [.v (.agg #[.int .i64 2, .int .i64 n0, .string s0]), .v (.agg #[.int .i64 2, .int .i64 n1, .string s1])] = (T n0 s0 n1 s1).eval := by kernel_rfl
end A131ii
end
section
open Go Go.Proofs
namespace A131id
def T (n0 : Int) (s0 : ByteArray) (n1 : Int) (s1 : ByteArray) : GT Value := let x1 := Int.tmod n1 10000; let x2 := IntKind.wrap .i64 (Int.tdiv n1 10000); let o1 : GT Value := (.br ((x1 != x1)) (.out (.int .i64 1)) (.br (decide (0 < x1)) (.out (.int .i64 (-1))) (.br (decide (0 > x1)) (.out (.int .i64 1)) (.out (.int .i64 0))))); let o2 : GT Value := (.br ((x1 != x1)) (.out (.int .i64 (-1))) (.br (decide (0 < x1)) (.out (.int .i64 (-1))) (.br (decide (0 > x1)) (.out (.int .i64 (-1))) (.out (.int .i64 (-1)))))); let o3 : GT Value := (.br ((x1 != x1)) (.out (.int .i64 1)) (.br (decide (0 < x1)) (.out (.int .i64 1)) (.br (decide (0 > x1)) (.out (.int .i64 1)) (.out (.int .i64 1))))); (.br ((n0 != n0)) (.br ((x2 != x2)) o1 o2) (.br ((x2 != x2)) o3 (.br (decide (n0 < x2)) o2 (.br (decide (n0 > x2)) o3 o1))))
set_option maxRecDepth 1000000 in
theorem run (n0 : Int) (s0 : ByteArray) (n1 : Int) (s1 : ByteArray) : runK 4 [] [] 131 [.v (.agg #[.int .i64 2, .int .i64 n0, .string s0]), .v (.agg #[.int .i64 3, .int .i64 n1, .string s1])] = (T n0 s0 n1 s1).eval := by kernel_rfl
end A131id
end
section
open Go Go.Proofs
namespace A131di
def T (n0 : Int) (s0 : ByteArray) (n1 : Int) (s1 : ByteArray) : GT Value := let x1 := Int.tmod n0 10000; let x2 := IntKind.wrap .i64 (0 - 1); let x3 := IntKind.wrap .i64 (0 - (-1)); let x4 := IntKind.wrap .i64 (Int.tdiv n0 10000); let o1 : GT Value := (.br ((x1 != x1)) (.out (.int .i64 x2)) (.br (decide (0 < x1)) (.out (.int .i64 x3)) (.br (decide (0 > x1)) (.out (.int .i64 x2)) (.out (.int .i64 0))))); let o2 : GT Value := (.br ((x1 != x1)) (.out (.int .i64 x3)) (.br (decide (0 < x1)) (.out (.int .i64 x3)) (.br (decide (0 > x1)) (.out (.int .i64 x3)) (.out (.int .i64 x3))))); let o3 : GT Value := (.br ((x1 != x1)) (.out (.int .i64 x2)) (.br (decide (0 < x1)) (.out (.int .i64 x2)) (.br (decide (0 > x1)) (.out (.int .i64 x2)) (.out (.int .i64 x2))))); (.br ((n1 != n1)) (.br ((x4 != x4)) o1 o2) (.br ((x4 != x4)) o3 (.br (decide (n1 < x4)) o2 (.br (decide (n1 > x4)) o3 o1))))
set_option maxRecDepth 1000000 in
theorem run (n0 : Int) (s0 : ByteArray) (n1 : Int) (s1 : ByteArray) : runK 4 [] [] 131 [.v (.agg #[.int .i64 3, .int .i64 n0, .string s0]), .v (.agg #[.int .i64 2, .int .i64 n1, .string s1])] = (T n0 s0 n1 s1).eval := by kernel_rfl
end A131di
end
section
open Go Go.Proofs
namespace A131dd
def T (n0 : Int) (s0 : ByteArray) (n1 : Int) (s1 : ByteArray) : GT Value := (.br ((n0 != n0)) (.br ((n1 != n1)) (.out (.int .i64 0)) (.out (.int .i64 (-1)))) (.br ((n1 != n1)) (.out (.int .i64 1)) (.br (decide (n0 < n1)) (.out (.int .i64 (-1))) (.br (decide (n0 > n1)) (.out (.int .i64 1)) (.out (.int .i64 0))))))
set_option maxRecDepth 1000000 in
theorem run (n0 : Int) (s0 : ByteArray) (n1 : Int) (s1 : ByteArray) : runK 4 [] [] 131 [.v (.agg #[.int .i64 3, .int .i64 n0, .string s0]), .v (.agg #[.int .i64 3, .int .i64 n1, .string s1])] = (T n0 s0 n1 s1).eval := by kernel_rfl
end A131dd
end
section
open Go Go.Proofs
namespace A131
def cmpI (a b : Int) : Int := if a < b then -1 else if b < a then 1 else 0
def cmpID (n d : Int) : Int := if n < IntKind.wrap .i64 (Int.tdiv d 10000) then -1 else if IntKind.wrap .i64 (Int.tdiv d 10000) < n then 1 else cmpI 0 (Int.tmod d 10000)
def num (k0 n0 k1 n1 : Int) : Int := if k0 = k1 then cmpI n0 n1 else if k0 = 3 then -(cmpID n1 n0) else cmpID n0 n1
theorem w1 : IntKind.wrap .i64 (0 - 1) = -1 := by decide
theorem w3 : IntKind.wrap .i64 1 = 1 := by decide
theorem w4 : IntKind.wrap .i64 (-1) = -1 := by decide
theorem w2 : IntKind.wrap .i64 (0 - (-1)) = 1 := by decide
theorem ii (n0 : Int) (s0 : ByteArray) (n1 : Int) (s1 : ByteArray) : (A131ii.T n0 s0 n1 s1).eval = some (.int .i64 (num 2 n0 2 n1)) := by
 unfold num cmpI
 by_cases h : n0 < n1 <;> by_cases h2 : n1 < n0 <;> simp [A131ii.T, GT.eval, h, h2]
theorem dd (n0 : Int) (s0 : ByteArray) (n1 : Int) (s1 : ByteArray) : (A131dd.T n0 s0 n1 s1).eval = some (.int .i64 (num 3 n0 3 n1)) := by
 unfold num cmpI
 by_cases h : n0 < n1 <;> by_cases h2 : n1 < n0 <;> simp [A131dd.T, GT.eval, h, h2]
theorem id (n0 : Int) (s0 : ByteArray) (n1 : Int) (s1 : ByteArray) : (A131id.T n0 s0 n1 s1).eval = some (.int .i64 (num 2 n0 3 n1)) := by
 unfold num cmpID cmpI
 rw [if_neg (by decide), if_neg (by decide)]
 by_cases h : n0 < IntKind.wrap .i64 (Int.tdiv n1 10000) <;> by_cases h2 : IntKind.wrap .i64 (Int.tdiv n1 10000) < n0 <;> by_cases h3 : 0 < Int.tmod n1 10000 <;> by_cases h4 : Int.tmod n1 10000 < 0 <;> simp [A131id.T, GT.eval, h, h2, h3, h4]
theorem di (n0 : Int) (s0 : ByteArray) (n1 : Int) (s1 : ByteArray) : (A131di.T n0 s0 n1 s1).eval = some (.int .i64 (num 3 n0 2 n1)) := by
 unfold num cmpID cmpI
 rw [if_neg (by decide), if_pos rfl]
 by_cases h : n1 < IntKind.wrap .i64 (Int.tdiv n0 10000) <;> by_cases h2 : IntKind.wrap .i64 (Int.tdiv n0 10000) < n1 <;> by_cases h3 : 0 < Int.tmod n0 10000 <;> by_cases h4 : Int.tmod n0 10000 < 0 <;> simp [A131di.T, GT.eval, h, h2, h3, h4, w3, w4]
def spec : Spec := fun aa => match aa with
 | [a, b] => (vOf a).bind fun x => (vOf b).bind fun y => some (.need ((x.1 == 2 || x.1 == 3) && (y.1 == 2 || y.1 == 3)) (.out (.int .i64 (num x.1 x.2.1 y.1 y.2.1))))
 | _ => none
theorem spec_ok : SpecOk Tryz.prog La 131 spec := ⟨fnOk_ok (by kernel_rfl), fun aa t v h e => by
 unfold spec at h
 split at h
 ·rename_i a b
  obtain ⟨⟨k0, n0, s0⟩, h1, h⟩ := opt_bind h
  obtain ⟨⟨k1, n1, s1⟩, h2, h⟩ := opt_bind h
  cases h
  rw [vOf_ok h1, vOf_ok h2]
  obtain ⟨g1, g2⟩ := GT.need_eval e
  cases g2
  simp only [Bool.and_eq_true, Bool.or_eq_true, beq_iff_eq] at g1
  refine ⟨rfl, callT (l := []) (L := []) (n0 := 4) (k := 12) La_below prog_mix prog_names (by simp) (by simp) (by decide) (by simp) rfl ?_⟩
  obtain ⟨rfl | rfl, rfl | rfl⟩ := g1
  ·exact (A131ii.run n0 s0 n1 s1).trans (ii n0 s0 n1 s1)
  ·exact (A131id.run n0 s0 n1 s1).trans (id n0 s0 n1 s1)
  ·exact (A131di.run n0 s0 n1 s1).trans (di n0 s0 n1 s1)
  ·exact (A131dd.run n0 s0 n1 s1).trans (dd n0 s0 n1 s1)
 ·cases h⟩
end A131
end
section
open Go Go.Proofs
namespace A76
def T (k0 n0 : Int) (s0 : ByteArray) (k1 n1 : Int) (s1 : ByteArray) : GT Value := let o1 : GT Value := (.out (.tuple ([.int .i64 0, .bool (false)]).toArray)); let o2 : GT Value := (.out (.tuple ([.int .i64 0, .bool (true)]).toArray)); let o3 : GT Value := (.out (.tuple ([.int .i64 (-1), .bool (true)]).toArray)); let o4 : GT Value := (.out (.tuple ([.int .i64 1, .bool (true)]).toArray)); (.br (((A129.rank k0) != (A129.rank k1))) o1 (.br (((A129.rank k0) == 1)) (.br ((n0 != n0)) (.br ((n1 != n1)) o2 o3) (.br ((n1 != n1)) o4 (.br (decide (n0 < n1)) o3 (.br (decide (n0 > n1)) o4 o2)))) (.br (((A129.rank k0) == 2)) (.br ((((k0 == 2) || (k0 == 3)) && ((k1 == 2) || (k1 == 3)))) (.out (.tuple ([.int .i64 (A131.num k0 n0 k1 n1), .bool (true)]).toArray)) .no) (.br (((A129.rank k0) == 3)) (.out (.tuple ([.int .i64 (Go.Lib.compareBytes s0.data.toList s1.data.toList), .bool (true)]).toArray)) o1))))
set_option maxRecDepth 1000000 in
theorem run (k0 n0 : Int) (s0 : ByteArray) (k1 n1 : Int) (s1 : ByteArray) : runK 4 [(129, A129.spec), (131, A131.spec), (132, spec132)] [] 76 [.v (.agg #[.int .i64 k0, .int .i64 n0, .string s0]), .v (.agg #[.int .i64 k1, .int .i64 n1, .string s1])] = (T k0 n0 s0 k1 n1 s1).eval := by kernel_rfl
def compare (k0 n0 : Int) (s0 : ByteArray) (k1 n1 : Int) (s1 : ByteArray) : Int × Bool :=
 if A129.rank k0 ≠ A129.rank k1 then (0, false) else if A129.rank k0 = 1 then (A131.cmpI n0 n1, true) else if A129.rank k0 = 2 then (A131.num k0 n0 k1 n1, true) else if A129.rank k0 = 3 then (Lib.compareBytes s0.data.toList s1.data.toList, true) else (0, false)
theorem rank2 {k : Int} (h : A129.rank k = 2) : k = 2 ∨ k = 3 := by
 unfold A129.rank at h
 repeat' split at h
 all_goals omega
theorem T_ok (k0 n0 : Int) (s0 : ByteArray) (k1 n1 : Int) (s1 : ByteArray) : (T k0 n0 s0 k1 n1 s1).eval = some (.tuple #[.int .i64 (compare k0 n0 s0 k1 n1 s1).1, .bool (compare k0 n0 s0 k1 n1 s1).2]) := by
 unfold compare
 by_cases h1 : A129.rank k0 = A129.rank k1
 ·rw [if_neg (by simpa using h1)]
  by_cases h2 : A129.rank k0 = 1
  ·rw [if_pos h2]
   unfold A131.cmpI
   by_cases h3 : n0 < n1 <;> by_cases h4 : n1 < n0 <;> simp [T, GT.eval, ← h1, h2, h3, h4]
  ·rw [if_neg h2]
   by_cases h3 : A129.rank k0 = 2
   ·rw [if_pos h3]
    obtain h5 := rank2 h3
    obtain h6 := rank2 (h1 ▸ h3)
    have h7 : (k0 == 2 || k0 == 3) = true := by rcases h5 with rfl | rfl <;> rfl
    have h8 : (k1 == 2 || k1 == 3) = true := by rcases h6 with rfl | rfl <;> rfl
    simp [T, GT.eval, ← h1, h3, h7, h8]
   ·rw [if_neg h3]
    by_cases h4 : A129.rank k0 = 3
    ·rw [if_pos h4]; simp [T, GT.eval, ← h1, h4]
    ·rw [if_neg h4]; simp [T, GT.eval, ← h1, beq_eq_false_iff_ne.mpr h2, beq_eq_false_iff_ne.mpr h3, beq_eq_false_iff_ne.mpr h4]
 ·rw [if_pos h1]; simp [T, GT.eval, bne_iff_ne.mpr h1]
def spec : Spec := fun aa => match aa with
 | [a, b] => (vOf a).bind fun x => (vOf b).bind fun y => some (.out (.tuple #[.int .i64 (compare x.1 x.2.1 x.2.2 y.1 y.2.1 y.2.2).1, .bool (compare x.1 x.2.1 x.2.2 y.1 y.2.1 y.2.2).2]))
 | _ => none
theorem spec_ok : SpecOk Tryz.prog La 76 spec := ⟨fnOk_ok (by kernel_rfl), fun aa t v h e => by
 unfold spec at h
 split at h
 ·rename_i a b
  obtain ⟨⟨k0, n0, s0⟩, h1, h⟩ := opt_bind h
  obtain ⟨⟨k1, n1, s1⟩, h2, h⟩ := opt_bind h
  cases h
  rw [vOf_ok h1, vOf_ok h2]
  cases e
  refine ⟨rfl, callT La_below prog_mix prog_names ?_ (by simp) (by decide) (by simp) rfl ((run k0 n0 s0 k1 n1 s1).trans (T_ok _ _ _ _ _ _))⟩
  intro p hp
  simp only [List.mem_cons, List.not_mem_nil, or_false] at hp
  rcases hp with rfl | rfl | rfl
  ·exact A129.spec_ok
  ·exact A131.spec_ok
  ·exact spec132_ok
 ·cases h⟩
end A76
end
section
open Go Go.Proofs
namespace A34L0
noncomputable def cfg : Cfg := cfgK Tryz.prog 4 (gpT []) (ltT 4 [])
def stN (nm : ByteArray) (n : Nat) (e i : Int) : KX := ⟨[(0, .string nm), (1, .slice (some ⟨1, 0, none⟩) n 3), (4, .pointer (some ⟨4, 0, none⟩)), (5, .int .i64 e), (6, .slice none 0 0), (19, .slice (some ⟨1, 0, none⟩) n 3), (20, .int .i64 (Int.ofNat n)), (21, .int .i64 i)], []⟩
def stR (nm : ByteArray) (n : Nat) (e i : Int) (k : Nat) (row : List Value) : KX := ⟨[(0, .string nm), (1, .slice (some ⟨1, 0, none⟩) n 3), (4, .pointer (some ⟨4, 0, none⟩)), (5, .int .i64 e), (6, .slice (some ⟨5, 0, none⟩) k 1), (19, .slice (some ⟨1, 0, none⟩) n 3), (20, .int .i64 (Int.ofNat n)), (21, .int .i64 i)], [row]⟩
def exN (nm : ByteArray) (n : Nat) (e : Int) : KX := ⟨[(0, .string nm), (1, .slice (some ⟨1, 0, none⟩) n 3), (4, .pointer (some ⟨4, 0, none⟩)), (5, .int .i64 e), (6, .slice none 0 0)], []⟩
def exR (nm : ByteArray) (n : Nat) (e : Int) (k : Nat) (row : List Value) : KX := ⟨[(0, .string nm), (1, .slice (some ⟨1, 0, none⟩) n 3), (4, .pointer (some ⟨4, 0, none⟩)), (5, .int .i64 e), (6, .slice (some ⟨5, 0, none⟩) k 1)], [row]⟩
def kp : Ex → List Nat
 | .normal => [0, 1, 4, 5, 6, 19, 20, 21]
 | _ => [0, 1, 4, 5, 6]
def cr : Ex → St → List (Nat × Bool) := fun _ s => match s.T.get 6 with
 | some (.slice (some p) _ _) => [(p.block, true)]
 | _ => []
set_option maxRecDepth 1000000 in
theorem roundN (nm : ByteArray) (n : Nat) (e i : Int) (cs : List Value) : rndK cfg [] [] 34 0 (stK 84 5 [(1, cs)] (stN nm n e i)) (endK 5 100 84 kp cr) =
 (bif decide (i < (Int.ofNat n)) then (bif decide (0 ≤ i) then (bif Nat.blt (i).toNat n then (bif isL cs (0 + ((i).toNat * 3)) [(.i .i64), (.i .i64), .s] then (some (.normal, stR nm n e (IntKind.wrap .i64 (i + 1)) 1 [.int .i64 (rdI cs (0 + ((i).toNat * 3)))])) else none) else none) else none) else (some (.exit 0, exN nm n e))) := by kernel_rfl
set_option maxRecDepth 1000000 in
theorem roundR (nm : ByteArray) (n : Nat) (e i : Int) (k : Nat) (row : List Value) (cs : List Value) : rndK cfg [] [] 34 0 (stK 84 5 [(1, cs)] (stR nm n e i k row)) (endK 5 100 84 kp cr) =
 (let r2 := (((row).drop 0).take (k * 1)) ++ [.int .i64 (rdI cs (0 + ((i).toNat * 3)))]; bif decide (i < (Int.ofNat n)) then (bif decide (0 ≤ i) then (bif Nat.blt (i).toNat n then (bif isL cs (0 + ((i).toNat * 3)) [(.i .i64), (.i .i64), .s] then (bif Nat.ble (k + 1) 140737488355328 then (bif Nat.ble ((k + 1) * 8) 140737488355328 then (bif Nat.ble (0 + (k * 1)) (row).length then (bif r2.all scalV && true then (some (.normal, stR nm n e (IntKind.wrap .i64 (i + 1)) (k + 1) r2)) else none) else none) else none) else none) else none) else none) else none) else (bif row.all scalV && true then (some (.exit 0, exR nm n e k row)) else none)) := by kernel_rfl
def row (l : List W3) (j : Nat) : List Int := (l.take j).map (·.1)
theorem row_succ (l : List W3) {j : Nat} (h : j < l.length) : row l (j + 1) = row l j ++ [l[j].1] := by
 unfold row
 rw [← List.take_append_getElem h, List.map_append]; rfl
theorem row_len (l : List W3) {j : Nat} (h : j ≤ l.length) : (row l j).length = j := by
 unfold row
 rw [List.length_map, List.length_take]; omega
def st (nm : ByteArray) (n : Nat) (e : Int) (l : List W3) (j : Nat) : KX := bif Nat.beq j 0 then stN nm n e j else stR nm n e j j (ints .i64 (row l j))
def fin (nm : ByteArray) (n : Nat) (e : Int) (l : List W3) : KX := bif Nat.beq n 0 then exN nm n e else exR nm n e n (ints .i64 (l.map (·.1)))
def D : KD := ⟨84, 5, 100, [0, 1, 4, 5, 6, 19, 20, 21], [1], fun _ => [], fun x ro => match x.vs, x.cars, ro with
 | [(0, .string nm), (1, .slice (some ⟨1, 0, none⟩) n 3), (4, .pointer (some ⟨4, 0, none⟩)), (5, .int .i64 e), (6, .slice none 0 0), (19, .slice (some ⟨1, 0, none⟩) n' 3), (20, .int .i64 m), (21, .int .i64 0)], [], [(1, cs)] =>
  .need (Nat.beq n' n && rowW n m cs) (.br (Nat.beq n 0) (.out (.exit 0, exN nm n e)) (.out (.exit 0, exR nm n e n (ints .i64 ((valsOf cs).map (·.1))))))
 | _, _, _ => .no⟩
def lp : LpK := ⟨34, 3, 0, D⟩
theorem lp_fine : LpFine Tryz.prog La 4 lp := by
 refine ⟨by kernel_rfl, fun c base I hP hn hG hI hIL x ro ex y e => ?_⟩
 obtain ⟨vs, cars⟩ := x
 simp only [lp, D] at e ⊢
 split at e
 ·rename_i nm n e0 n' m cs
  obtain ⟨g1, g2⟩ := GT.need_eval e
  simp only [Bool.and_eq_true] at g1
  obtain rfl := Nat.eq_of_beq_eq_true g1.1
  obtain ⟨rfl, hn2, h4, h5⟩ := rowW_ok g1.2
  generalize valsOf cs = l at h4 h5 g2
  subst h4 h5
  have key := scan_from (Step := @StepK (etaB base) c base I (loopAt Tryz.prog 34 0) 84 5 100 [(1, vals l)]) (step := fun (_ : Unit) (_ : W3) => .inl ()) (fin := fun _ => (.exit 0, fin nm l.length e0 l)) (st := fun _ j => st nm l.length e0 l j) (l := l) (fun s => by simp) (fun s a r h => by cases h) (fun _ j hj => by
    have h1 := ltI hj
    have h2 := geI j
    have h3 := bltI hj
    have h4 : (0 + ((j : Int)).toNat * 3) = j * 3 := by simp
    have h5 := wrI j (by omega)
    show @StepK (etaB base) c base I (loopAt Tryz.prog 34 0) 84 5 100 [(1, vals l)] (st nm l.length e0 l j) .normal (st nm l.length e0 l (j + 1))
    cases j with
    | zero =>
     have hr := roundN nm l.length e0 ((0 : Nat) : Int) (vals l)
     simp only [h1, h2, h3, h4, h5, isL_vals l hj, rdI_vals l hj, cond_true] at hr
     have e1 : st nm l.length e0 l 0 = stN nm l.length e0 ((0 : Nat) : Int) := rfl
     have e2 : st nm l.length e0 l (0 + 1) = stR nm l.length e0 ((0 + 1 : Nat) : Int) 1 [.int .i64 l[0].1] := by
      show stR nm l.length e0 ((0 + 1 : Nat) : Int) (0 + 1) (ints .i64 (row l (0 + 1))) = _
      rw [row_succ l hj]; rfl
     rw [e1, e2]
     exact stepT prog_mix prog_names (by simp) (by simp) hP hn hG hI hIL hr
    | succ j =>
     have hk := row_len l (Nat.le_of_lt hj)
     have hr := roundR nm l.length e0 ((j + 1 : Nat) : Int) (j + 1) (ints .i64 (row l (j + 1))) (vals l)
     have q1 : ((ints .i64 (row l (j + 1))).drop 0).take ((j + 1) * 1) ++ [.int .i64 (l[j + 1]).1] = ints .i64 (row l (j + 1 + 1)) := by
      rw [List.drop_zero, Nat.mul_one, List.take_of_length_le (by rw [ints_len, hk]; exact Nat.le_refl _), row_succ l hj]
      unfold ints
      rw [List.map_append]; rfl
     have q2 : Nat.ble (j + 1 + 1) 140737488355328 = true := by rw [Nat.ble_eq]; omega
     have q3 : Nat.ble ((j + 1 + 1) * 8) 140737488355328 = true := by rw [Nat.ble_eq]; omega
     have q4 : Nat.ble (0 + (j + 1) * 1) (ints .i64 (row l (j + 1))).length = true := by rw [Nat.ble_eq, ints_len, hk]; omega
     simp only [h1, h2, h3, h4, h5, isL_vals l hj, rdI_vals l hj, q1, q2, q3, q4, ints_scal, Bool.and_true, cond_true] at hr
     have e1 : st nm l.length e0 l (j + 1) = stR nm l.length e0 ((j + 1 : Nat) : Int) (j + 1) (ints .i64 (row l (j + 1))) := rfl
     have e2 : st nm l.length e0 l (j + 1 + 1) = stR nm l.length e0 ((j + 1 + 1 : Nat) : Int) (j + 1 + 1) (ints .i64 (row l (j + 1 + 1))) := rfl
     rw [e1, e2]
     exact stepT prog_mix prog_names (by simp) (by simp) hP hn hG hI hIL hr) (fun _ => by
    have h1 := nltI l.length
    show @StepK (etaB base) c base I (loopAt Tryz.prog 34 0) 84 5 100 [(1, vals l)] (st nm l.length e0 l l.length) (.exit 0) (fin nm l.length e0 l)
    cases hl : l.length with
    | zero =>
     have hr := roundN nm l.length e0 (l.length : Int) (vals l)
     simp only [h1, cond_false] at hr
     rw [hl] at hr
     exact stepT prog_mix prog_names (by simp) (by simp) hP hn hG hI hIL hr
    | succ j =>
     have hr := roundR nm l.length e0 (l.length : Int) l.length (ints .i64 (row l l.length)) (vals l)
     simp only [h1, cond_false, ints_scal, Bool.and_true, cond_true] at hr
     have e3 : row l l.length = l.map (·.1) := by unfold row; rw [List.take_length]
     rw [hl] at hr e3
     have e1 : st nm (j + 1) e0 l (j + 1) = stR nm (j + 1) e0 ((j + 1 : Nat) : Int) (j + 1) (ints .i64 (row l (j + 1))) := rfl
     have e2 : fin nm (j + 1) e0 l = exR nm (j + 1) e0 (j + 1) (ints .i64 (l.map (·.1))) := rfl
     rw [e1, e2, ← e3]
     exact stepT prog_mix prog_names (by simp) (by simp) hP hn hG hI hIL hr) l.length 0 () (by omega)
  rw [List.drop_zero, scanF_fold] at key
  cases hb : Nat.beq l.length 0 with
  | true => rw [GT.eval, hb] at g2; cases g2; unfold fin at key; rw [hb] at key; exact key
  | false => rw [GT.eval, hb] at g2; cases g2; unfold fin at key; rw [hb] at key; exact key
 ·cases e
end A34L0
end
section
open Go Go.Proofs
namespace A34L1
def sp : List (Nat × Spec) := [(75, A75.spec), (76, A76.spec)]
noncomputable def cfg : Cfg := cfgK Tryz.prog 4 (gpT [(75, A75.spec), (76, A76.spec)]) (ltT 4 [])
def stA (nm : ByteArray) (n : Nat) (e kind : Int) (ok found : Bool) (i kb nb : Int) (sb : ByteArray) : KX := ⟨[(0, .string nm), (1, .slice (some ⟨1, 0, none⟩) n 3), (4, .pointer (some ⟨106, 0, none⟩)), (5, .int .i64 e), (9, .int .i64 kind), (10, .bool ok), (11, .pointer (some ⟨107, 0, none⟩)), (12, .bool found), (36, .slice (some ⟨1, 0, none⟩) n 3), (37, .int .i64 (Int.ofNat n)), (38, .int .i64 i)], [[.int .i64 0, .int .i64 0, .string ⟨#[]⟩], [.int .i64 kb, .int .i64 nb, .string sb]]⟩
def stRet (e kb nb : Int) (sb : ByteArray) : KX := ⟨[(4, .pointer (some ⟨106, 0, none⟩)), (5, .int .i64 e)], [[.int .i64 0, .int .i64 0, .string ⟨#[]⟩], [.int .i64 kb, .int .i64 nb, .string sb]]⟩
def stExit (e kb nb : Int) (sb : ByteArray) : KX := ⟨[(4, .pointer (some ⟨106, 0, none⟩)), (5, .int .i64 e), (11, .pointer (some ⟨107, 0, none⟩))], [[.int .i64 0, .int .i64 0, .string ⟨#[]⟩], [.int .i64 kb, .int .i64 nb, .string sb]]⟩
def kp : Ex → List Nat
 | .normal => [0, 1, 4, 5, 9, 10, 11, 12, 36, 37, 38]
 | .ret => [4, 5]
 | _ => [4, 5, 11]
def cr : Ex → St → List (Nat × Bool) := fun _ s => [(106, true), (107, true)]
set_option maxRecDepth 1000000 in
theorem round (nm : ByteArray) (n : Nat) (e kind : Int) (ok found : Bool) (i kb nb : Int) (sb : ByteArray) (cs : List Value) : rndK cfg [(75, A75.spec), (76, A76.spec)] [] 34 1 (stK 84 106 [(1, cs)] (stA nm n e kind ok found i kb nb sb)) (endK 106 100 84 kp cr) = (let x2 := 0 + ((i).toNat * 3); let x1 := A75.decV (rdI cs x2) (rdI cs (x2 + 1)); let x3 := IntKind.wrap .i64 (i + 1); let x5 := A76.compare x1.1.1 x1.1.2.1 x1.1.2.2 kb nb sb; let x6 := rdS cs ((x2 + 1) + 1); let x4 := A76.compare (rdI cs x2) (rdI cs (x2 + 1)) x6 kb nb sb; let o1 : Option (Ex × KX) := (some (.normal, stA nm n e kind ok found x3 (kb) (nb) (sb))); let o2 : Option (Ex × KX) := (some (.normal, stA nm n e kind ok true x3 ((rdI cs x2)) ((rdI cs (x2 + 1))) (x6))); let o3 : Option (Ex × KX) := (some (.normal, stA nm n e kind ok true x3 (x1.1.1) (x1.1.2.1) (x1.1.2.2))); let o4 : Option (Ex × KX) := (bif eqU (nm).data.toList [108, 101, 97, 115, 116] then (bif decide (x5.1 < 0) then o3 else o1) else o1); let o5 : Option (Ex × KX) := (bif eqU (nm).data.toList [108, 101, 97, 115, 116] then (bif decide (x4.1 < 0) then o2 else o1) else o1); (bif decide (i < (Int.ofNat n)) then (bif decide (0 ≤ i) then (bif Nat.blt (i).toNat n then (bif isL cs x2 [(.i .i64), (.i .i64), .s] then (bif ((rdI cs x2) == 0) then o1 else (bif (kind == 3) then (bif (inR (rdI cs (x2 + 1))) then (bif (x1.2 != 0) then (some (.ret, stRet (x1.2) kb nb sb)) else (bif (!found) then o3 else (bif eqU (nm).data.toList [103, 114, 101, 97, 116, 101, 115, 116] then (bif decide (x5.1 > 0) then o3 else o4) else o4))) else none) else (bif (!found) then o2 else (bif eqU (nm).data.toList [103, 114, 101, 97, 116, 101, 115, 116] then (bif decide (x4.1 > 0) then o2 else o5) else o5)))) else none) else none) else none) else (some (.exit 2, stExit e kb nb sb)))) := by kernel_rfl
def better (nm : ByteArray) (found : Bool) (c : Int) : Bool := !found || (eqU nm.data.toList [103, 114, 101, 97, 116, 101, 115, 116] && decide (c > 0)) || (eqU nm.data.toList [108, 101, 97, 115, 116] && decide (c < 0))
def pick (nm : ByteArray) (p : Bool × W3) (v : W3) : Bool × W3 := bif better nm p.1 (A76.compare v.1 v.2.1 v.2.2 p.2.1 p.2.2.1 p.2.2.2).1 then (true, v) else p
def stepF (nm : ByteArray) (kind : Int) (p : Bool × W3) (v : W3) : (Bool × W3) ⊕ (Ex × KX) :=
 bif v.1 == 0 then .inl p else bif kind == 3 then (bif (A75.decV v.1 v.2.1).2 != 0 then .inr (.ret, stRet (A75.decV v.1 v.2.1).2 p.2.1 p.2.2.1 p.2.2.2) else .inl (pick nm p (A75.decV v.1 v.2.1).1)) else .inl (pick nm p v)
theorem next (nm : ByteArray) (l : List W3) (hn : l.length < 4398046511104) (hin : ∀ v ∈ l, inR v.2.1 = true) (e kind : Int) (ok : Bool) (p : Bool × W3) {j : Nat} (hj : j < l.length) :
  rndK cfg [(75, A75.spec), (76, A76.spec)] [] 34 1 (stK 84 106 [(1, vals l)] (stA nm l.length e kind ok p.1 j p.2.1 p.2.2.1 p.2.2.2)) (endK 106 100 84 kp cr) =
  some (match stepF nm kind p l[j] with | .inl q => (.normal, stA nm l.length e kind ok q.1 ((j + 1 : Nat) : Int) q.2.1 q.2.2.1 q.2.2.2) | .inr r => r) := by
 have h1 := ltI hj
 have h2 := geI j
 have h3 := bltI hj
 have h4 : (0 + ((j : Int)).toNat * 3) = j * 3 := by simp
 have h5 := wrI j (by omega)
 have h6 : inR l[j].2.1 = true := hin _ (List.getElem_mem hj)
 have hs : rdS (vals l) (j * 3 + 1 + 1) = l[j].2.2 := rdS_vals l hj
 rw [round]
 dsimp only []
 simp only [h1, h2, h3, h4, h5, isL_vals l hj, rdI_vals l hj, rdI_vals1 l hj, hs, cond_true, h6]
 generalize l[j] = v
 obtain ⟨found, k, n, s⟩ := p
 unfold stepF pick better
 dsimp only []
 generalize A75.decV v.1 v.2.1 = d
 generalize eqU nm.data.toList [103, 114, 101, 97, 116, 101, 115, 116] = g
 generalize eqU nm.data.toList [108, 101, 97, 115, 116] = m
 generalize (A76.compare v.1 v.2.1 v.2.2 k n s).1 = c1
 generalize (A76.compare d.1.1 d.1.2.1 d.1.2.2 k n s).1 = c2
 cases (v.1 == 0) <;> cases (kind == 3) <;> cases (d.2 != 0) <;> cases found <;> cases g <;> cases m <;> cases decide (c1 > 0) <;> cases decide (c1 < 0) <;> cases decide (c2 > 0) <;> cases decide (c2 < 0) <;> rfl
def go (nm : ByteArray) (kind : Int) : (Bool × W3) → List W3 → Int × W3
 | p, [] => (0, p.2)
 | p, v :: l => bif v.1 == 0 then go nm kind p l else bif kind == 3 then (bif (A75.decV v.1 v.2.1).2 != 0 then ((A75.decV v.1 v.2.1).2, p.2) else go nm kind (pick nm p (A75.decV v.1 v.2.1).1) l) else go nm kind (pick nm p v) l
theorem scan_go (nm : ByteArray) (kind e : Int) : ∀ (l : List W3) (p : Bool × W3), scanF (stepF nm kind) (fun p => (.exit 2, stExit e p.2.1 p.2.2.1 p.2.2.2)) p l =
  (bif (go nm kind p l).1 != 0 then (.ret, stRet (go nm kind p l).1 (go nm kind p l).2.1 (go nm kind p l).2.2.1 (go nm kind p l).2.2.2) else (.exit 2, stExit e (go nm kind p l).2.1 (go nm kind p l).2.2.1 (go nm kind p l).2.2.2))
 | [], p => rfl
 | v :: l, p => by
  have hs : stepF nm kind p v = bif v.1 == 0 then .inl p else bif kind == 3 then (bif (A75.decV v.1 v.2.1).2 != 0 then .inr (.ret, stRet (A75.decV v.1 v.2.1).2 p.2.1 p.2.2.1 p.2.2.2) else .inl (pick nm p (A75.decV v.1 v.2.1).1)) else .inl (pick nm p v) := rfl
  rw [scanF, hs, go]
  cases h1 : (v.1 == 0) with
  | true => exact scan_go nm kind e l p
  | false =>
   cases h2 : (kind == 3) with
   | false => exact scan_go nm kind e l (pick nm p v)
   | true =>
    cases h : ((A75.decV v.1 v.2.1).2 != 0) with
    | false => exact scan_go nm kind e l (pick nm p (A75.decV v.1 v.2.1).1)
    | true => simp only [cond_true, cond_false, h]
def D : KD := ⟨84, 106, 100, [0, 1, 4, 5, 9, 10, 11, 12, 36, 37, 38], [1], fun _ => [(4, true), (105, true)], fun x ro => match x.vs, x.cars, ro with
 | [(0, .string nm), (1, .slice (some ⟨1, 0, none⟩) n 3), (4, .pointer (some ⟨106, 0, none⟩)), (5, .int .i64 e), (9, .int .i64 kind), (10, .bool ok), (11, .pointer (some ⟨107, 0, none⟩)), (12, .bool found), (36, .slice (some ⟨1, 0, none⟩) n' 3), (37, .int .i64 m), (38, .int .i64 0)], [[.int .i64 0, .int .i64 0, .string ⟨⟨[]⟩⟩], [.int .i64 kb, .int .i64 nb, .string sb]], [(1, cs)] =>
  .need (Nat.beq n' n && rowW n m cs && (valsOf cs).all (fun v => inR v.2.1)) (.br ((go nm kind (found, kb, nb, sb) (valsOf cs)).1 != 0) (.out (.ret, stRet (go nm kind (found, kb, nb, sb) (valsOf cs)).1 (go nm kind (found, kb, nb, sb) (valsOf cs)).2.1 (go nm kind (found, kb, nb, sb) (valsOf cs)).2.2.1 (go nm kind (found, kb, nb, sb) (valsOf cs)).2.2.2))
   (.out (.exit 2, stExit e (go nm kind (found, kb, nb, sb) (valsOf cs)).2.1 (go nm kind (found, kb, nb, sb) (valsOf cs)).2.2.1 (go nm kind (found, kb, nb, sb) (valsOf cs)).2.2.2)))
 | _, _, _ => .no⟩
def lp : LpK := ⟨34, 11, 1, D⟩
theorem sp_ok : ∀ p ∈ [((75 : FuncId), A75.spec), (76, A76.spec)], SpecOk Tryz.prog La p.1 p.2 := by simpa using ⟨A75.spec_ok, A76.spec_ok⟩
theorem lp_fine : LpFine Tryz.prog La 4 lp := by
 refine ⟨by kernel_rfl, fun c base I hP hn hG hI hIL x ro ex y e => ?_⟩
 obtain ⟨vs, cars⟩ := x
 simp only [lp, D] at e ⊢
 split at e
 ·rename_i nm n e0 kind ok found n' m kb nb sb cs
  obtain ⟨g1, g2⟩ := GT.need_eval e
  simp only [Bool.and_eq_true] at g1
  obtain rfl := Nat.eq_of_beq_eq_true g1.1.1
  obtain ⟨rfl, hn2, h4, h5⟩ := rowW_ok g1.1.2
  have hin := List.all_eq_true.1 g1.2
  generalize valsOf cs = l at h4 h5 g2 hin
  subst h4 h5
  have key := scan_from (Step := @StepK (etaB base) c base I (loopAt Tryz.prog 34 1) 84 106 100 [(1, vals l)]) (step := stepF nm kind) (fin := fun p => (.exit 2, stExit e0 p.2.1 p.2.2.1 p.2.2.2)) (st := fun p j => stA nm l.length e0 kind ok p.1 j p.2.1 p.2.2.1 p.2.2.2) (l := l) (fun s => by simp) (fun s a r h => by
    unfold stepF at h
    cases h1 : (a.1 == 0) <;> cases h2 : (kind == 3) <;> cases h3 : ((A75.decV a.1 a.2.1).2 != 0) <;> rw [h1, h2, h3] at h <;> cases h <;> simp) (fun p j hj => by
    have hr := next nm l hn2 hin e0 kind ok p hj
    cases hs : stepF nm kind p l[j] with
    | inl q => rw [hs] at hr; exact stepT prog_mix prog_names sp_ok (by simp) hP hn hG hI hIL hr
    | inr r => rw [hs] at hr; obtain ⟨r1, r2⟩ := r; exact stepT prog_mix prog_names sp_ok (by simp) hP hn hG hI hIL hr) (fun p => by
    have h1 := nltI l.length
    have hr := round nm l.length e0 kind ok p.1 l.length p.2.1 p.2.2.1 p.2.2.2 (vals l)
    simp only [h1, cond_false] at hr
    exact stepT prog_mix prog_names sp_ok (by simp) hP hn hG hI hIL hr) l.length 0 (found, kb, nb, sb) (by omega)
  rw [List.drop_zero, scan_go] at key
  cases hb : ((go nm kind (found, kb, nb, sb) l).1 != 0) with
  | true => rw [GT.eval, hb] at g2; cases g2; rw [hb] at key; exact key
  | false => rw [GT.eval, hb] at g2; cases g2; rw [hb] at key; exact key
 ·cases e
end A34L1
end
section
open Go Go.Proofs
namespace A34
def T (s0 : ByteArray) (m1 : Nat) (c1 : List Value) : GT Value := let x1 := A34L1.go s0 (A53.res (((((((((((valsOf c1)).map fun (x : W3) => x.fst)).map (Value.int IntKind.i64))).drop 0)).take (m1 * 1))).map valI)).1 ((false, 0, 0, ⟨#[]⟩) : Bool × W3) (valsOf c1); let x2 := A34L1.go s0 0 ((false, 0, 0, ⟨#[]⟩) : Bool × W3) (valsOf c1); (.br ((true && ([((1 : Nat), c1)]).all fun p => p.snd.all scalV)) (.br ((Nat.beq m1 m1 && (decide ((Int.ofNat m1) = (Int.ofNat m1)) && ((isVals c1) && (Nat.beq (c1).length (m1 * 3) && Nat.blt m1 4398046511104))))) (.br (Nat.beq m1 0) (.br ((true && ([((1 : Nat), c1)]).all fun p => p.snd.all scalV)) (.br (((Nat.beq m1 m1 && (decide ((Int.ofNat m1) = (Int.ofNat m1)) && ((isVals c1) && (Nat.beq (c1).length (m1 * 3) && Nat.blt m1 4398046511104)))) && ((valsOf c1)).all fun (v : W3) => inR v.snd.fst)) (.br ((x2.1 != 0)) (.out (.tuple ([.agg ([.int .i64 0, .int .i64 0, .string ⟨([]).toArray⟩]).toArray, .int .i64 x2.1]).toArray)) (.out (.tuple ([.agg ([.int .i64 x2.2.1, .int .i64 x2.2.2.1, .string x2.2.2.2]).toArray, .int .i64 0]).toArray))) .no) .no) (.br (([((fun (cs : List Value) => ((0 + m1 * 1).ble cs.length && (List.take (m1 * 1) (List.drop 0 cs)).all scalV, AA.sl m1 1 (List.take (m1 * 1) (List.drop 0 cs)))) (ints IntKind.i64 (List.map (fun (x : W3) => x.fst) ((valsOf c1)))))]).all fun x => x.fst) (.br ((rowI m1 (Int.ofNat m1) (((((((((valsOf c1)).map fun (x : W3) => x.fst)).map (Value.int IntKind.i64))).drop 0)).take (m1 * 1)))) (.br ((true && ([((1 : Nat), c1)]).all fun p => p.snd.all scalV)) (.br (((Nat.beq m1 m1 && (decide ((Int.ofNat m1) = (Int.ofNat m1)) && ((isVals c1) && (Nat.beq (c1).length (m1 * 3) && Nat.blt m1 4398046511104)))) && ((valsOf c1)).all fun (v : W3) => inR v.snd.fst)) (.br ((x1.1 != 0)) (.out (.tuple ([.agg ([.int .i64 0, .int .i64 0, .string ⟨([]).toArray⟩]).toArray, .int .i64 x1.1]).toArray)) (.out (.tuple ([.agg ([.int .i64 x1.2.1, .int .i64 x1.2.2.1, .string x1.2.2.2]).toArray, .int .i64 0]).toArray))) .no) .no) .no) .no)) .no) .no)
set_option maxRecDepth 1000000 in
theorem run (s0 : ByteArray) (m1 : Nat) (c1 : List Value) : runK 4 [(53, A53.spec), (75, A75.spec), (76, A76.spec)] [A34L0.lp, A34L1.lp] 34 [.v (.string s0), .sl m1 3 c1] = (T s0 m1 c1).eval := by kernel_rfl
def best (s : ByteArray) (l : List W3) : Int × W3 := A34L1.go s (A53.res (l.map (·.1))).1 (false, 0, 0, ⟨#[]⟩) l
def chosenV (s : ByteArray) (l : List W3) : Value := bif (best s l).1 != 0 then .tuple #[.agg #[.int .i64 0, .int .i64 0, .string ⟨#[]⟩], .int .i64 (best s l).1] else .tuple #[.agg #[.int .i64 (best s l).2.1, .int .i64 (best s l).2.2.1, .string (best s l).2.2.2], .int .i64 0]
theorem chosenV_flat (s : ByteArray) (l : List W3) : pfd 3 (chosenV s l) = true := by
 unfold chosenV
 cases (best s l).1 != 0 <;> rfl
theorem T_ok (s : ByteArray) (l : List W3) (hl : l.length < 4398046511104) (hin : l.all (fun v => inR v.2.1) = true) : (T s l.length (vals l)).eval = some (chosenV s l) := by
 have g : Nat.blt l.length 4398046511104 = true := by rw [Nat.blt_eq]; exact hl
 have gs := vals_scal l
 have g2 := rowI_of (l := l.map (·.1)) (by rw [List.length_map]; omega)
 rw [List.length_map] at g2
 have a1 : (true && [((1 : Nat), vals l)].all fun p => p.2.all scalV) = true := by simp [vals_scal]
 have a3 : ((ints .i64 (l.map (·.1))).drop 0).take (l.length * 1) = ints .i64 (l.map (·.1)) := by rw [List.drop_zero, Nat.mul_one]; exact List.take_of_length_le (by rw [ints_len, List.length_map]; exact Nat.le_refl _)
 have a4 : Nat.beq l.length l.length = true := Nat.beq_refl _
 have a5 : (0 + l.length * 1).ble (ints .i64 (l.map (·.1))).length = true := by rw [Nat.ble_eq, ints_len, List.length_map]; omega
 have e0 : ∀ f : List Int, f.map (Value.int .i64) = ints .i64 f := fun _ => rfl
 unfold T chosenV best
 dsimp only [] at a1 ⊢
 simp only [e0, a1, a3, a4, a5, g, gs, g2, isVals_vals, vals_len, Nat.beq_refl, decide_true, Bool.and_self, vals_of, ints_vals, ints_scal, hin, GT.eval, Bool.true_and, Bool.and_true, cond_true, List.all_cons, List.all_nil]
 cases hb : Nat.beq l.length 0 with
 | true =>
  have : l = [] := List.length_eq_zero_iff.1 (Nat.eq_of_beq_eq_true hb)
  subst this
  rfl
 | false =>
  simp only [cond_false]
  cases (A34L1.go s (A53.res (l.map (·.1))).1 (false, 0, 0, ⟨#[]⟩) l).1 != 0 <;> rfl
def spec : Spec := fun aa => match aa with
 | [.v (.string s), .sl n 3 cs] => some (.need (rowW n (Int.ofNat n) cs && (valsOf cs).all (fun v => inR v.2.1)) (.out (chosenV s (valsOf cs))))
 | _ => none
theorem spec_ok : SpecOk Tryz.prog La 34 spec := ⟨fnOk_ok (by kernel_rfl), fun aa t v h e => by
 unfold spec at h
 split at h
 ·rename_i s n cs
  cases h
  obtain ⟨g1, g2⟩ := GT.need_eval e
  cases g2
  simp only [Bool.and_eq_true] at g1
  obtain ⟨_, hn, h4, h5⟩ := rowW_ok g1.1
  have hin := g1.2
  generalize valsOf cs = l at h4 h5 hin
  subst h4 h5
  exact ⟨chosenV_flat _ _, callT La_below prog_mix prog_names (by simpa using ⟨A53.spec_ok La_below, A75.spec_ok, A76.spec_ok⟩) (by simpa using ⟨A34L0.lp_fine, A34L1.lp_fine⟩) (by decide) (by simp) (chosenV_flat _ _) ((run _ _ _).trans (T_ok _ _ hn hin))⟩
 ·cases h⟩
end A34
end
section
open Go Go.Proofs
namespace A33
def T (k0 n0 : Int) (s0 : ByteArray) : GT Value := let o1 : GT Value := (.br ((!eqU s0.data.toList [])) (.out (.int .i64 1)) (.out (.int .i64 0))); (.br ((k0 == 0)) (.br ((!((k0 == 0) && ((n0 == 0) && (eqU s0.data.toList [] && true))))) (.out (.int .i64 1)) (.out (.int .i64 0))) (.br ((k0 == 1)) (.br (eqU s0.data.toList []) (.br ((n0 == 0)) (.out (.int .i64 0)) (.br ((!(n0 == 1))) (.out (.int .i64 1)) (.out (.int .i64 0)))) (.out (.int .i64 1))) (.br ((k0 == 2)) o1 (.br ((k0 == 3)) o1 (.br ((k0 == 4)) (.br ((n0 == 0)) (.br (decide ((Int.ofNat (s0.data.toList).length) ≤ 1024)) (.br (Nat.ble ((s0).data.toList).length 9223372036854775807) (.br ((!(Go.Lib.validD s0.data.toList))) (.out (.int .i64 1)) (.out (.int .i64 0))) .no) (.out (.int .i64 1))) (.out (.int .i64 1))) (.out (.int .i64 1)))))))
set_option maxRecDepth 1000000 in
theorem run (k0 n0 : Int) (s0 : ByteArray) : runK 4 [(74, spec74)] [] 33 [.v (.agg #[.int .i64 k0, .int .i64 n0, .string s0])] = (T k0 n0 s0).eval := by kernel_rfl
def okv (k n : Int) (s : ByteArray) : Bool :=
 bif k == 0 then n == 0 && eqU s.data.toList [] else bif k == 1 then eqU s.data.toList [] && (n == 0 || n == 1) else bif k == 2 || k == 3 then eqU s.data.toList [] else
 k == 4 && (n == 0 && (decide (s.data.toList.length ≤ 1024) && Go.Lib.validD s.data.toList))
theorem T_ok (k n : Int) (s : ByteArray) : (T k n s).eval = some (.int .i64 (bif okv k n s then 0 else 1)) := by
 unfold okv
 by_cases h0 : k = 0
 ·subst h0; cases h2 : n == 0 <;> cases h3 : eqU s.data.toList [] <;> simp [T, GT.eval, h2, h3]
 by_cases h1 : k = 1
 ·subst h1; cases h2 : n == 0 <;> cases h4 : n == 1 <;> cases h3 : eqU s.data.toList [] <;> simp [T, GT.eval, h2, h3, h4]
 by_cases h2 : k = 2
 ·subst h2; cases h3 : eqU s.data.toList [] <;> simp [T, GT.eval, h3]
 by_cases h3 : k = 3
 ·subst h3; cases h3 : eqU s.data.toList [] <;> simp [T, GT.eval, h3]
 by_cases h4 : k = 4
 ·subst h4
  by_cases h5 : s.data.toList.length ≤ 1024
  ·have h6 : Nat.ble s.data.toList.length 9223372036854775807 = true := by rw [Nat.ble_eq]; omega
   have h7 : decide (Int.ofNat s.data.toList.length ≤ 1024) = true := decide_eq_true (by show (s.data.toList.length : Int) ≤ 1024; omega)
   cases h2 : n == 0 <;> cases h3 : Go.Lib.validD s.data.toList <;> simp only [T, GT.eval, h2, h3, h6, h7, decide_eq_true h5] <;> rfl
  ·have h7 : decide (Int.ofNat s.data.toList.length ≤ 1024) = false := decide_eq_false (by show ¬ (s.data.toList.length : Int) ≤ 1024; omega)
   cases h2 : n == 0 <;> simp only [T, GT.eval, h2, h7, decide_eq_false h5] <;> rfl
 have e0 := beq_eq_false_iff_ne.mpr h0
 have e1 := beq_eq_false_iff_ne.mpr h1
 have e2 := beq_eq_false_iff_ne.mpr h2
 have e3 := beq_eq_false_iff_ne.mpr h3
 have e4 := beq_eq_false_iff_ne.mpr h4
 simp only [T, GT.eval, e0, e1, e2, e3, e4]; rfl
def spec : Spec := fun aa => match aa with
 | [a] => (vOf a).bind fun x => some (.out (.int .i64 (bif okv x.1 x.2.1 x.2.2 then 0 else 1)))
 | _ => none
theorem spec_ok : SpecOk Tryz.prog La 33 spec := ⟨fnOk_ok (by kernel_rfl), fun aa t v h e => by
 unfold spec at h
 split at h
 ·rename_i a
  obtain ⟨⟨k0, n0, s0⟩, h1, h⟩ := opt_bind h
  cases h; cases e
  rw [vOf_ok h1]
  exact ⟨rfl, callT (l := [(74, spec74)]) (L := []) (n0 := 4) (k := 12) La_below prog_mix prog_names (by simpa using spec74_ok) (by simp) (by decide) (by simp) rfl ((run k0 n0 s0).trans (T_ok _ _ _))⟩
 ·cases h⟩
end A33
end
section
open Go Go.Proofs
namespace A35
def T (k0 n0 : Int) (s0 : ByteArray) : GT Value := (.br ((k0 != 1)) (.out (.bool (false))) (.br ((n0 != 0)) (.out (.bool (true))) (.out (.bool (false)))))
set_option maxRecDepth 1000000 in
theorem run (k0 n0 : Int) (s0 : ByteArray) : runK 4 [] [] 35 [.v (.agg #[.int .i64 k0, .int .i64 n0, .string s0])] = (T k0 n0 s0).eval := by kernel_rfl
def tru (k n : Int) : Bool := k == 1 && n != 0
theorem T_ok (k n : Int) (s : ByteArray) : (T k n s).eval = some (.bool (tru k n)) := by
 unfold tru
 cases h : k == 1 <;> cases h2 : n == 0 <;> simp [T, GT.eval, bne, h, h2]
def spec : Spec := fun aa => match aa with
 | [a] => (vOf a).bind fun x => some (.out (.bool (tru x.1 x.2.1)))
 | _ => none
theorem spec_ok : SpecOk Tryz.prog La 35 spec := ⟨fnOk_ok (by kernel_rfl), fun aa t v h e => by
 unfold spec at h
 split at h
 ·rename_i a
  obtain ⟨⟨k0, n0, s0⟩, h1, h⟩ := opt_bind h
  cases h; cases e
  rw [vOf_ok h1]
  exact ⟨rfl, callT (l := []) (L := []) (n0 := 4) (k := 12) La_below prog_mix prog_names (by simp) (by simp) (by decide) (by simp) rfl ((run k0 n0 s0).trans (T_ok _ _ _))⟩
 ·cases h⟩
end A35
end
section
open Go Go.Proofs
namespace A36
def T (k0 n0 : Int) (s0 : ByteArray) (k1 n1 : Int) (s1 : ByteArray) : GT Value := let x1 := A76.compare k0 n0 s0 k1 n1 s1; let o1 : GT Value := (.out (.agg ([.int .i64 0, .int .i64 0, .string ⟨([]).toArray⟩]).toArray)); let o2 : GT Value := (.out (.agg ([.int .i64 1, .int .i64 0, .string ⟨([]).toArray⟩]).toArray)); (.br ((k0 == 0)) o1 (.br ((k1 == 0)) o1 (.br (x1.2) (.br ((x1.1 == 0)) (.out (.agg ([.int .i64 1, .int .i64 1, .string ⟨([]).toArray⟩]).toArray)) o2) o2)))
set_option maxRecDepth 1000000 in
theorem run (k0 n0 : Int) (s0 : ByteArray) (k1 n1 : Int) (s1 : ByteArray) : runK 4 [(76, A76.spec)] [] 36 [.v (.agg #[.int .i64 k0, .int .i64 n0, .string s0]), .v (.agg #[.int .i64 k1, .int .i64 n1, .string s1])] = (T k0 n0 s0 k1 n1 s1).eval := by kernel_rfl
def V3' (k n : Int) : Value := .agg #[.int .i64 k, .int .i64 n, .string ⟨#[]⟩]
def eqv (k0 n0 : Int) (s0 : ByteArray) (k1 n1 : Int) (s1 : ByteArray) : Value :=
 bif k0 == 0 || k1 == 0 then V3' 0 0 else bif (A76.compare k0 n0 s0 k1 n1 s1).2 && (A76.compare k0 n0 s0 k1 n1 s1).1 == 0 then V3' 1 1 else V3' 1 0
theorem T_ok (k0 n0 : Int) (s0 : ByteArray) (k1 n1 : Int) (s1 : ByteArray) : (T k0 n0 s0 k1 n1 s1).eval = some (eqv k0 n0 s0 k1 n1 s1) := by
 unfold eqv
 cases h : k0 == 0 <;> cases h2 : k1 == 0 <;> cases h3 : (A76.compare k0 n0 s0 k1 n1 s1).2 <;> cases h4 : (A76.compare k0 n0 s0 k1 n1 s1).1 == 0 <;> simp [T, GT.eval, V3', h, h2, h3, h4]
def spec : Spec := fun aa => match aa with
 | [a, b] => (vOf a).bind fun x => (vOf b).bind fun y => some (.out (eqv x.1 x.2.1 x.2.2 y.1 y.2.1 y.2.2))
 | _ => none
theorem spec_ok : SpecOk Tryz.prog La 36 spec := ⟨fnOk_ok (by kernel_rfl), fun aa t v h e => by
 unfold spec at h
 split at h
 ·rename_i a b
  obtain ⟨⟨k0, n0, s0⟩, h1, h⟩ := opt_bind h
  obtain ⟨⟨k1, n1, s1⟩, h2, h⟩ := opt_bind h
  cases h; cases e
  rw [vOf_ok h1, vOf_ok h2]
  have hf : pfd 3 (eqv k0 n0 s0 k1 n1 s1) = true := by
   unfold eqv
   cases k0 == 0 || k1 == 0 <;> cases (A76.compare k0 n0 s0 k1 n1 s1).2 && (A76.compare k0 n0 s0 k1 n1 s1).1 == 0 <;> rfl
  exact ⟨hf, callT (l := [(76, A76.spec)]) (L := []) (n0 := 4) (k := 12) La_below prog_mix prog_names (by simpa using A76.spec_ok) (by simp) (by decide) (by simp) hf ((run k0 n0 s0 k1 n1 s1).trans (T_ok _ _ _ _ _ _))⟩
 ·cases h⟩
end A36
end
section
open Go Go.Proofs
namespace A79
def T (k0 n0 : Int) (s0 : ByteArray) : GT Value := let x1 := IntKind.wrap .i64 (0 - n0); let o1 : GT Value := (.out (.tuple ([.agg ([.int .i64 k0, .int .i64 x1, .string ⟨([]).toArray⟩]).toArray, .int .i64 0]).toArray)); let o2 : GT Value := (.br ((k0 == 0)) (.out (.tuple ([.agg ([.int .i64 0, .int .i64 0, .string ⟨([]).toArray⟩]).toArray, .int .i64 0]).toArray)) (.br ((n0 != x1)) o1 (.br ((!(n0 == 0))) (.out (.tuple ([.agg ([.int .i64 0, .int .i64 0, .string ⟨([]).toArray⟩]).toArray, .int .i64 20]).toArray)) o1))); (.br ((k0 == 2)) o2 (.br ((!(k0 == 3))) (.br ((k0 != 0)) (.out (.tuple ([.agg ([.int .i64 0, .int .i64 0, .string ⟨([]).toArray⟩]).toArray, .int .i64 22]).toArray)) o2) o2))
set_option maxRecDepth 1000000 in
theorem run (k0 n0 : Int) (s0 : ByteArray) : runK 4 [] [] 79 [.v (.agg #[.int .i64 k0, .int .i64 n0, .string s0])] = (T k0 n0 s0).eval := by kernel_rfl
def negV (k n : Int) : V3 × Int := if k = 0 then (v0, 0) else if k = 2 ∨ k = 3 then (if n = IntKind.wrap .i64 (0 - n) ∧ n ≠ 0 then (v0, 20) else ((k, IntKind.wrap .i64 (0 - n), ⟨#[]⟩), 0)) else (v0, 22)
theorem T_ok (k n : Int) (s : ByteArray) : (T k n s).eval = some (ve (negV k n)) := by
 unfold negV
 by_cases h0 : k = 0
 ·subst h0; simp [T, GT.eval, ve, vv, v0]
 ·by_cases h1 : n = IntKind.wrap .i64 (0 - n)
  ·have e1 : (n != IntKind.wrap .i64 (0 - n)) = false := bne_eq_false_iff_eq.mpr h1
   by_cases hn : n = 0
   ·have e2 : (n == 0) = true := beq_iff_eq.mpr hn
    rw [if_neg h0, if_neg (show ¬ (n = IntKind.wrap .i64 (0 - n) ∧ n ≠ 0) from fun h => h.2 hn)]
    by_cases h2 : k = 2
    ·subst h2; simp only [T, GT.eval, e1, e2]; rfl
    ·by_cases h3 : k = 3
     ·subst h3; simp only [T, GT.eval, e1, e2]; rfl
     ·simp [T, GT.eval, ve, vv, v0, h0, h2, h3, beq_eq_false_iff_ne.mpr h2, beq_eq_false_iff_ne.mpr h3, bne_iff_ne.mpr h0]
   ·have e2 : (n == 0) = false := beq_eq_false_iff_ne.mpr hn
    rw [if_neg h0, if_pos (show n = IntKind.wrap .i64 (0 - n) ∧ n ≠ 0 from ⟨h1, hn⟩)]
    by_cases h2 : k = 2
    ·subst h2; simp only [T, GT.eval, e1, e2]; rfl
    ·by_cases h3 : k = 3
     ·subst h3; simp only [T, GT.eval, e1, e2]; rfl
     ·simp [T, GT.eval, ve, vv, v0, h0, h2, h3, beq_eq_false_iff_ne.mpr h2, beq_eq_false_iff_ne.mpr h3, bne_iff_ne.mpr h0]
  ·have e1 : (n != IntKind.wrap .i64 (0 - n)) = true := bne_iff_ne.mpr h1
   rw [if_neg h0, if_neg (show ¬ (n = IntKind.wrap .i64 (0 - n) ∧ n ≠ 0) from fun h => h1 h.1)]
   by_cases h2 : k = 2
   ·subst h2; simp only [T, GT.eval, e1]; rfl
   ·by_cases h3 : k = 3
    ·subst h3; simp only [T, GT.eval, e1]; rfl
    ·simp [T, GT.eval, ve, vv, v0, h0, h2, h3, beq_eq_false_iff_ne.mpr h2, beq_eq_false_iff_ne.mpr h3, bne_iff_ne.mpr h0]
def spec : Spec := fun aa => match aa with
 | [a] => (vOf a).bind fun x => some (.out (ve (negV x.1 x.2.1)))
 | _ => none
theorem spec_ok : SpecOk Tryz.prog La 79 spec := ⟨fnOk_ok (by kernel_rfl), fun aa t v h e => by
 unfold spec at h
 split at h
 ·rename_i a
  obtain ⟨⟨k0, n0, s0⟩, h1, h⟩ := opt_bind h
  cases h
  rw [vOf_ok h1]
  cases e
  refine ⟨rfl, callT La_below prog_mix prog_names ?_ (by simp) (by decide) (by simp) rfl ((run k0 n0 s0).trans (T_ok k0 n0 s0))⟩
  intro p hp
  simp only [List.mem_cons, List.not_mem_nil, or_false] at hp
 ·cases h⟩
end A79
end
section
open Go Go.Proofs
namespace A80
def T (s0 : ByteArray) (k1 n1 : Int) (s1 : ByteArray) : GT Value := let x1 := IntKind.wrap .i64 (Int.tdiv n1 10000); let x3 := IntKind.wrap .i64 (x1 - 1); let x4 := Int.tmod n1 10000; let x2 := IntKind.wrap .i64 (0 - x4); let x5 := IntKind.wrap .i64 (x1 + 1); let o1 : GT Value := (.out (.tuple ([.agg ([.int .i64 2, .int .i64 x5, .string ⟨([]).toArray⟩]).toArray, .int .i64 0]).toArray)); let o2 : GT Value := (.out (.tuple ([.agg ([.int .i64 2, .int .i64 x3, .string ⟨([]).toArray⟩]).toArray, .int .i64 0]).toArray)); let o3 : GT Value := (.out (.tuple ([.agg ([.int .i64 2, .int .i64 x1, .string ⟨([]).toArray⟩]).toArray, .int .i64 0]).toArray)); let o4 : GT Value := (.br (eqU (s0).data.toList [114, 111, 117, 110, 100]) (.br (decide (x2 ≥ 5000)) o2 o3) o3); let o5 : GT Value := (.br (eqU (s0).data.toList [102, 108, 111, 111, 114]) (.br (decide (x4 < 0)) o2 o4) o4); let o6 : GT Value := (.br (eqU (s0).data.toList [114, 111, 117, 110, 100]) (.br (decide (x4 ≥ 5000)) o1 o5) o5); (.br ((k1 == 2)) (.out (.tuple ([.agg ([.int .i64 k1, .int .i64 n1, .string s1]).toArray, .int .i64 0]).toArray)) (.br (eqU (s0).data.toList [99, 101, 105, 108]) (.br (decide (x4 > 0)) o1 o6) o6))
set_option maxRecDepth 1000000 in
theorem run (s0 : ByteArray) (k1 n1 : Int) (s1 : ByteArray) : runK 4 [] [] 80 [.v (.string s0), .v (.agg #[.int .i64 k1, .int .i64 n1, .string s1])] = (T s0 k1 n1 s1).eval := by kernel_rfl
def rnd (s : ByteArray) (n : Int) : Int :=
 bif (eqU s.data.toList [99, 101, 105, 108] && decide (Int.tmod n 10000 > 0)) || (eqU s.data.toList [114, 111, 117, 110, 100] && decide (Int.tmod n 10000 ≥ 5000)) then IntKind.wrap .i64 (IntKind.wrap .i64 (Int.tdiv n 10000) + 1) else
 bif (eqU s.data.toList [102, 108, 111, 111, 114] && decide (Int.tmod n 10000 < 0)) || (eqU s.data.toList [114, 111, 117, 110, 100] && decide (IntKind.wrap .i64 (0 - Int.tmod n 10000) ≥ 5000)) then IntKind.wrap .i64 (IntKind.wrap .i64 (Int.tdiv n 10000) - 1) else
 IntKind.wrap .i64 (Int.tdiv n 10000)
def rounded (s : ByteArray) (k1 n1 : Int) (s1 : ByteArray) : Value :=
 bif k1 == 2 then .tuple #[.agg #[.int .i64 k1, .int .i64 n1, .string s1], .int .i64 0] else .tuple #[.agg #[.int .i64 2, .int .i64 (rnd s n1), .string ⟨#[]⟩], .int .i64 0]
theorem rounded_flat (s : ByteArray) (k1 n1 : Int) (s1 : ByteArray) : pfd 3 (rounded s k1 n1 s1) = true := by
 unfold rounded
 cases k1 == 2 <;> rfl
theorem T_ok (s0 : ByteArray) (k1 n1 : Int) (s1 : ByteArray) : (T s0 k1 n1 s1).eval = some (rounded s0 k1 n1 s1) := by
 unfold rounded rnd T
 dsimp only
 generalize eqU s0.data.toList [99, 101, 105, 108] = a
 generalize eqU s0.data.toList [114, 111, 117, 110, 100] = b
 generalize eqU s0.data.toList [102, 108, 111, 111, 114] = c
 generalize decide (Int.tmod n1 10000 > 0) = d
 generalize decide (Int.tmod n1 10000 ≥ 5000) = e
 generalize decide (Int.tmod n1 10000 < 0) = f
 generalize decide (IntKind.wrap .i64 (0 - Int.tmod n1 10000) ≥ 5000) = g
 generalize (k1 == 2) = h
 cases h <;> cases a <;> cases b <;> cases c <;> cases d <;> cases e <;> cases f <;> cases g <;> rfl
def spec : Spec := fun aa => match aa with
 | [.v (.string s), a] => (vOf a).bind fun x => some (.out (rounded s x.1 x.2.1 x.2.2))
 | _ => none
theorem spec_ok : SpecOk Tryz.prog La 80 spec := ⟨fnOk_ok (by kernel_rfl), fun aa t v h e => by
 unfold spec at h
 split at h
 ·rename_i s a
  obtain ⟨⟨k0, n0, s0⟩, h1, h⟩ := opt_bind h
  cases h; cases e
  rw [vOf_ok h1]
  exact ⟨rounded_flat _ _ _ _, callT (l := []) (L := []) (n0 := 4) (k := 12) La_below prog_mix prog_names (by simp) (by simp) (by decide) (by simp) (rounded_flat _ _ _ _) ((run s k0 n0 s0).trans (T_ok _ _ _ _))⟩
 ·cases h⟩
end A80
end
section
open Go Go.Proofs
namespace A82
def T (k0 n0 : Int) (s0 : ByteArray) : GT Value := let x1 := IntKind.wrap .i64 (Int.tdiv n0 10000); let o1 : GT Value := (.br ((k0 == 0)) (.out (.tuple ([.agg ([.int .i64 0, .int .i64 0, .string ⟨([]).toArray⟩]).toArray, .int .i64 0]).toArray)) (.br ((k0 == 3)) (.out (.tuple ([.agg ([.int .i64 2, .int .i64 x1, .string ⟨([]).toArray⟩]).toArray, .int .i64 0]).toArray)) (.out (.tuple ([.agg ([.int .i64 2, .int .i64 n0, .string ⟨([]).toArray⟩]).toArray, .int .i64 0]).toArray)))); (.br ((k0 == 2)) o1 (.br ((!(k0 == 3))) (.br ((k0 != 0)) (.out (.tuple ([.agg ([.int .i64 0, .int .i64 0, .string ⟨([]).toArray⟩]).toArray, .int .i64 22]).toArray)) o1) o1))
set_option maxRecDepth 1000000 in
theorem run (k0 n0 : Int) (s0 : ByteArray) : runK 4 [] [] 82 [.v (.agg #[.int .i64 k0, .int .i64 n0, .string s0])] = (T k0 n0 s0).eval := by kernel_rfl
def intV (k n : Int) : V3 × Int := if k = 0 then (v0, 0) else if k = 3 then ((2, IntKind.wrap .i64 (Int.tdiv n 10000), ⟨#[]⟩), 0) else if k = 2 then ((2, n, ⟨#[]⟩), 0) else (v0, 22)
theorem T_ok (k n : Int) (s : ByteArray) : (T k n s).eval = some (ve (intV k n)) := by
 unfold intV
 by_cases h0 : k = 0
 ·subst h0; simp [T, GT.eval, ve, vv, v0]
 ·by_cases h2 : k = 2
  ·subst h2; simp [T, GT.eval, ve, vv, v0]
  ·by_cases h3 : k = 3
   ·subst h3; simp [T, GT.eval, ve, vv, v0]
   ·simp [T, GT.eval, ve, vv, v0, h0, h2, h3, beq_eq_false_iff_ne.mpr h2, beq_eq_false_iff_ne.mpr h3, bne_iff_ne.mpr h0]
def spec : Spec := fun aa => match aa with
 | [a] => (vOf a).bind fun x => some (.out (ve (intV x.1 x.2.1)))
 | _ => none
theorem spec_ok : SpecOk Tryz.prog La 82 spec := ⟨fnOk_ok (by kernel_rfl), fun aa t v h e => by
 unfold spec at h
 split at h
 ·rename_i a
  obtain ⟨⟨k0, n0, s0⟩, h1, h⟩ := opt_bind h
  cases h
  rw [vOf_ok h1]
  cases e
  refine ⟨rfl, callT La_below prog_mix prog_names ?_ (by simp) (by decide) (by simp) rfl ((run k0 n0 s0).trans (T_ok k0 n0 s0))⟩
  intro p hp
  simp only [List.mem_cons, List.not_mem_nil, or_false] at hp
 ·cases h⟩
end A82
end
end Go.Proofs.YtaiokpmmjbiajaaGreatDoorDx
