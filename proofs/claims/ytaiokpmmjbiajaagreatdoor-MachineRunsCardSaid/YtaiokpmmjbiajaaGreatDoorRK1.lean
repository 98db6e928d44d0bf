/- A part of the proof of this claim. No condition beyond those that each theorem names. -/
import Derived.Test.YtaiokpmmjbiajaaGreatDoorRK0
import Derived.Test.YtaiokpmmjbiajaaGreatDoorProg
import Derived.KernelRfl
import Derived.Lib.ValidLaws
import Derived.Lib.TrimUEq
import Derived.Lib.MapLaws
import Derived.Lib.RuneCount
import Derived.Laws.Cover4
import Derived.WideShapes
import Derived.Lib.ItoaNum
import Derived.Lib.Repeat
import Derived.Lib.TrimByte
import Derived.Lib.Replace
import Derived.Lib.BitFns
set_option maxRecDepth 1000000
set_option linter.unusedVariables false
set_option linter.unusedSimpArgs false
namespace Go.Proofs.YtaiokpmmjbiajaaGreatDoorDx
section
open Go Go.Proofs
namespace A37L0
noncomputable def cfg:Cfg:=zz Tryz.prog 4 (gpT []) (ltT 4 [])
def stA (n:Nat) (e:Int) (s:ByteArray) (i:Int):KX:=⟨[(4,.pointer (some ⟨4,0,none⟩)),(5,.int .i64 e),(8,.string s),(125,.slice (some ⟨1,0,none⟩) n 3),(126,.int .i64 (Int.ofNat n)),(127,.int .i64 i)],[]⟩
def qP (e:Int) (s:ByteArray):KX:=⟨[(4,.pointer (some ⟨4,0,none⟩)),(5,.int .i64 e),(8,.string s)],[]⟩
def kp:Ex→List Nat
 | .normal=>[4,5,8,125,126,127]
 |_=>[4,5,8]
def bu (s t:ByteArray):ByteArray:=⟨(s.data.toList++t.data.toList).toArray⟩
theorem round (n:Nat) (e:Int) (s:ByteArray) (i:Int) (cs:List Value):zW cfg [] [] 37 0 (stK 140 6 [(1,cs)] (stA n e s i)) (zD 6 100 140 kp (fun _ _=>[]))=
 (let x:=0+((i).toNat*3);bif decide (i<(Int.ofNat n))then(bif decide (0≤i)then(bif Nat.blt (i).toNat n then(bif isL cs x [(.i .i64),(.i .i64),.s]then(bif Nat.ble (((s).data.toList).length+((rdS cs (x+1+1)).data.toList).length) 9223372036854775807 then(some (.normal,stA n e (bu s (rdS cs (x+1+1))) (IntKind.wrap .i64 (i+1))))else none)else none)else none)else none)else(some (.exit 1,qP e s))):=by kernel_rfl
def cat (l:List W3):ByteArray:=l.foldl (fun s v=>bu s v.2.2) ⟨#[]⟩
theorem JQ (l:List W3) {j:Nat} (h:j<l.length):cat (l.take (j+1))=bu (cat (l.take j)) l[j].2.2:=by
 unfold cat
 rw[←List.take_append_getElem h,List.foldl_append];rfl
theorem aA (l:List W3) (hs: ∀v∈l,v.2.2.data.toList.length≤1024): ∀j,j≤l.length→(cat (l.take j)).data.toList.length≤1024*j
 |0,_=>by rw[List.take_zero];exact Nat.le_refl _
 |j+1,h=>by
  have h1:=aA l hs j (by omega)
  have h2:=hs _ (List.getElem_mem (show j<l.length by omega))
  rw[JQ l (show j<l.length by omega)]
  show ((cat (l.take j)).data.toList++(l[j].2.2).data.toList).toArray.toList.length≤_
  rw[List.toList_toArray,List.length_append]
  omega
def jk (v:W3):Bool:=Nat.ble v.2.2.data.toList.length 1024
def D:KD:=⟨140,6,100,[4,5,8,125,126,127],[1],fun _=>[],fun x ro=>match x.vs,x.cars,ro with
 |[(4,.pointer (some ⟨4,0,none⟩)),(5,.int .i64 e),(8,.string ⟨⟨[]⟩⟩),(125,.slice (some ⟨1,0,none⟩) n 3),(126,.int .i64 m),(127,.int .i64 0)],[],[(1,cs)]=>
  .qI (wo n m cs&&(qj cs).all jk) (.out (.exit 1,qP e (cat (qj cs))))
 |_,_,_=> .no⟩
def lp:LpK:=⟨37,41,0,D⟩
theorem qG:zw Tryz.prog La 4 lp:=by
 refine⟨by kernel_rfl,fun c base I hP hn hG hI hIL x ro ex y e=> ?_⟩
 obtain⟨vs,cars⟩:=x
 simp only[lp,D]at e ⊢
 split at e
 ·rename_i e0 n m cs
  obtain⟨g1,g2⟩:=GT.qh e
  simp only[Bool.and_eq_true]at g1
  obtain⟨rfl,hn2,h4,h5⟩:=kB g1.1
  have hsh:=g1.2
  generalize qj cs=l at h4 h5 g2 hsh
  subst h4 h5
  have hs: ∀v∈l,v.2.2.data.toList.length≤1024:=fun v hv=>Nat.le_of_ble_eq_true (List.all_eq_true.1 hsh v hv)
  have key:=zP (Step:= @zA (zV base) c base I (qW Tryz.prog 37 0) 140 6 100 [(1,qq l)]) (step:=fun(_:Unit) (v:W3)=> .inl ()) (fin:=fun _=>(.exit 1,qP e0 (cat l))) (st:=fun _ j=>stA l.length e0 (cat (l.take j)) j) (l:=l) (fun s=>by simp) (fun s a r h=>by cases h) (fun _ j hj=>by
    have h1:=ltI hj
    have h2:=geI j
    have h3:=xE hj
    have h4:(0+((j:Int)).toNat*3)=j*3:=by simp
    have h5:=wrI j (by omega)
    have hr1:rdS (qq l) (j*3+1+1)=l[j].2.2:=kS l hj
    have h6:=aA l hs j (by omega)
    have h7:=hs _ (List.getElem_mem hj)
    have h8:Nat.ble ((cat (l.take j)).data.toList.length+l[j].2.2.data.toList.length) 9223372036854775807=true:=by rw[Nat.ble_eq];omega
    have hr:=round l.length e0 (cat (l.take j)) j (qq l)
    simp only[h1,h2,h3,h4,h5,kt l hj,hr1,h8,cond_true]at hr
    rw[←JQ l hj]at hr
    exact stepT qg qd (by simp) (by simp) hP hn hG hI hIL hr) (fun _=>by
    have h1:=xZ l.length
    have hr:=round l.length e0 (cat (l.take l.length)) l.length (qq l)
    simp only[h1,cond_false]at hr
    have e1:cat l=cat (l.take l.length):=by rw[List.take_length]
    show @zA (zV base) c base I (qW Tryz.prog 37 0) 140 6 100 [(1,qq l)] (stA l.length e0 (cat (l.take l.length)) l.length) (.exit 1) (qP e0 (cat l))
    rw[e1]
    exact stepT qg qd (by simp) (by simp) hP hn hG hI hIL hr) l.length 0 () (by omega)
  rw[List.drop_zero,kW]at key
  cases g2
  exact key
 ·cases e
end A37L0
namespace A10L0
noncomputable def cfg:Cfg:=zz Tryz.prog 4 (gpT []) (ltT 4 [])
def stN (nm:ByteArray) (n:Nat) (e i:Int) (nl:Bool):KX:=⟨[(0,.string nm),(1,.slice (some ⟨1,0,none⟩) n 3),(4,.pointer (some ⟨4,0,none⟩)),(5,.int .i64 e),(6,.slice none 0 0),(7,.bool nl),(14,.slice (some ⟨1,0,none⟩) n 3),(15,.int .i64 (Int.ofNat n)),(16,.int .i64 i)],[]⟩
def stR (nm:ByteArray) (n:Nat) (e i:Int) (nl:Bool) (k:Nat) (row:List Value):KX:=⟨[(0,.string nm),(1,.slice (some ⟨1,0,none⟩) n 3),(4,.pointer (some ⟨4,0,none⟩)),(5,.int .i64 e),(6,.slice (some ⟨5,0,none⟩) k 1),(7,.bool nl),(14,.slice (some ⟨1,0,none⟩) n 3),(15,.int .i64 (Int.ofNat n)),(16,.int .i64 i)],[row]⟩
def exN (nm:ByteArray) (n:Nat) (e:Int) (nl:Bool):KX:=⟨[(0,.string nm),(1,.slice (some ⟨1,0,none⟩) n 3),(4,.pointer (some ⟨4,0,none⟩)),(5,.int .i64 e),(6,.slice none 0 0),(7,.bool nl)],[]⟩
def exR (nm:ByteArray) (n:Nat) (e:Int) (nl:Bool) (k:Nat) (row:List Value):KX:=⟨[(0,.string nm),(1,.slice (some ⟨1,0,none⟩) n 3),(4,.pointer (some ⟨4,0,none⟩)),(5,.int .i64 e),(6,.slice (some ⟨5,0,none⟩) k 1),(7,.bool nl)],[row]⟩
def kp:Ex→List Nat
 | .normal=>[0,1,4,5,6,7,14,15,16]
 |_=>[0,1,4,5,6,7]
def cr:Ex→St→List (Nat×Bool):=fun _ s=>match s.T.get 6 with
 |some (.slice (some p) _ _)=>[(p.block,true)]
 |_=>[]
theorem vu (nm:ByteArray) (n:Nat) (e i:Int) (nl:Bool) (cs:List Value):zW cfg [] [] 10 0 (stK 84 5 [(1,cs)] (stN nm n e i nl)) (zD 5 100 84 kp cr)=
 (let x:=rdI cs (0+((i).toNat*3));bif decide (i<(Int.ofNat n))then(bif decide (0≤i)then(bif Nat.blt (i).toNat n then(bif isL cs (0+((i).toNat*3)) [(.i .i64),(.i .i64),.s]then(bif nl then(some (.normal,stR nm n e (IntKind.wrap .i64 (i+1)) true 1 [.int .i64 x]))else(some (.normal,stR nm n e (IntKind.wrap .i64 (i+1)) (x==0) 1 [.int .i64 x])))else none)else none)else none)else(some (.exit 0,exN nm n e nl))):=by kernel_rfl
theorem kh (nm:ByteArray) (n:Nat) (e i:Int) (nl:Bool) (k:Nat) (row:List Value) (cs:List Value):zW cfg [] [] 10 0 (stK 84 5 [(1,cs)] (stR nm n e i nl k row)) (zD 5 100 84 kp cr)=
 (let x:=rdI cs (0+((i).toNat*3));let r2:=(((row).drop 0).take (k*1))++[.int .i64 x];bif decide (i<(Int.ofNat n))then(bif decide (0≤i)then(bif Nat.blt (i).toNat n then(bif isL cs (0+((i).toNat*3)) [(.i .i64),(.i .i64),.s]then(bif Nat.ble (k+1) 140737488355328 then(bif Nat.ble ((k+1)*8) 140737488355328 then(bif Nat.ble (0+(k*1)) (row).length then(bif nl then(bif r2.all qo&&true then(some (.normal,stR nm n e (IntKind.wrap .i64 (i+1)) true (k+1) r2))else none)else(bif r2.all qo&&true then(some (.normal,stR nm n e (IntKind.wrap .i64 (i+1)) (x==0) (k+1) r2))else none))else none)else none)else none)else none)else none)else none)else(bif row.all qo&&true then(some (.exit 0,exR nm n e nl k row))else none)):=by kernel_rfl
def row (l:List W3) (j:Nat):List Int:=(l.take j).map (·.1)
theorem vE (l:List W3) {j:Nat} (h:j<l.length):row l (j+1)=row l j++[l[j].1]:=by
 unfold row
 rw[←List.take_append_getElem h,List.map_append];rfl
theorem j7 (l:List W3) {j:Nat} (h:j≤l.length):(row l j).length=j:=by
 unfold row
 rw[List.length_map,List.length_take];omega
def nl (l:List W3) (j:Nat):Bool:=(row l j).any (· ==0)
theorem af (l:List W3) {j:Nat} (h:j<l.length):nl l (j+1)=(nl l j||l[j].1==0):=by
 unfold nl
 rw[vE l h,List.any_append];simp
def st (nm:ByteArray) (n:Nat) (e:Int) (l:List W3) (j:Nat):KX:=bif Nat.beq j 0 then stN nm n e j false else stR nm n e j (nl l j) j (ints .i64 (row l j))
def fin (nm:ByteArray) (n:Nat) (e:Int) (l:List W3):KX:=bif Nat.beq n 0 then exN nm n e false else exR nm n e ((l.map (·.1)).any (· ==0)) n (ints .i64 (l.map (·.1)))
def D:KD:=⟨84,5,100,[0,1,4,5,6,7,14,15,16],[1],fun _=>[],fun x ro=>match x.vs,x.cars,ro with
 |[(0,.string nm),(1,.slice (some ⟨1,0,none⟩) n 3),(4,.pointer (some ⟨4,0,none⟩)),(5,.int .i64 e),(6,.slice none 0 0),(7,.bool false),(14,.slice (some ⟨1,0,none⟩) n' 3),(15,.int .i64 m),(16,.int .i64 0)],[],[(1,cs)]=>
  .qI (Nat.beq n' n&&wo n m cs) (.br (Nat.beq n 0) (.out (.exit 0,exN nm n e false)) (.out (.exit 0,exR nm n e (((qj cs).map (·.1)).any (· ==0)) n (ints .i64 ((qj cs).map (·.1))))))
 |_,_,_=> .no⟩
def lp:LpK:=⟨10,4,0,D⟩
theorem qG:zw Tryz.prog La 4 lp:=by
 refine⟨by kernel_rfl,fun c base I hP hn hG hI hIL x ro ex y e=> ?_⟩
 obtain⟨vs,cars⟩:=x
 simp only[lp,D]at e ⊢
 split at e
 ·rename_i nm n e0 n' m cs
  obtain⟨g1,g2⟩:=GT.qh e
  simp only[Bool.and_eq_true]at g1
  obtain rfl:=Nat.eq_of_beq_eq_true g1.1
  obtain⟨rfl,hn2,h4,h5⟩:=kB g1.2
  generalize qj cs=l at h4 h5 g2
  subst h4 h5
  have key:=zP (Step:= @zA (zV base) c base I (qW Tryz.prog 10 0) 84 5 100 [(1,qq l)]) (step:=fun(_:Unit) (_:W3)=> .inl ()) (fin:=fun _=>(.exit 0,fin nm l.length e0 l)) (st:=fun _ j=>st nm l.length e0 l j) (l:=l) (fun s=>by simp) (fun s a r h=>by cases h) (fun _ j hj=>by
    have h1:=ltI hj
    have h2:=geI j
    have h3:=xE hj
    have h4:(0+((j:Int)).toNat*3)=j*3:=by simp
    have h5:=wrI j (by omega)
    show @zA (zV base) c base I (qW Tryz.prog 10 0) 84 5 100 [(1,qq l)] (st nm l.length e0 l j) .normal (st nm l.length e0 l (j+1))
    cases j with
    |zero=>
     have hr:=vu nm l.length e0 ((0:Nat):Int) false (qq l)
     simp only[h1,h2,h3,h4,h5,kt l hj,zX l hj,cond_true]at hr
     have e1:st nm l.length e0 l 0=stN nm l.length e0 ((0:Nat):Int) false:=rfl
     have e2:st nm l.length e0 l (0+1)=stR nm l.length e0 ((0+1:Nat):Int) (l[0].1==0) 1 [.int .i64 l[0].1]:=by
      show stR nm l.length e0 ((0+1:Nat):Int) (nl l (0+1)) (0+1) (ints .i64 (row l (0+1)))=_
      rw[af l hj,vE l hj];rfl
     rw[e1,e2]
     exact stepT qg qd (by simp) (by simp) hP hn hG hI hIL hr
    |succ j=>
     have hk:=j7 l (Nat.le_of_lt hj)
     have hr:=kh nm l.length e0 ((j+1:Nat):Int) (nl l (j+1)) (j+1) (ints .i64 (row l (j+1))) (qq l)
     have q1:((ints .i64 (row l (j+1))).drop 0).take ((j+1)*1)++[.int .i64 (l[j+1]).1]=ints .i64 (row l (j+1+1)):=by
      rw[List.drop_zero,Nat.mul_one,List.take_of_length_le (by rw[zH,hk];exact Nat.le_refl _),vE l hj]
      unfold ints
      rw[List.map_append];rfl
     have q2:Nat.ble (j+1+1) 140737488355328=true:=by rw[Nat.ble_eq];omega
     have q3:Nat.ble ((j+1+1)*8) 140737488355328=true:=by rw[Nat.ble_eq];omega
     have q4:Nat.ble (0+(j+1)*1) (ints .i64 (row l (j+1))).length=true:=by rw[Nat.ble_eq,zH,hk];omega
     simp only[h1,h2,h3,h4,h5,kt l hj,zX l hj,q1,q2,q3,q4,qY,Bool.and_true,cond_true]at hr
     have e1:st nm l.length e0 l (j+1)=stR nm l.length e0 ((j+1:Nat):Int) (nl l (j+1)) (j+1) (ints .i64 (row l (j+1))):=rfl
     have e2:st nm l.length e0 l (j+1+1)=stR nm l.length e0 ((j+1+1:Nat):Int) (nl l (j+1)||l[j+1].1==0) (j+1+1) (ints .i64 (row l (j+1+1))):=by rw[←af l hj];rfl
     rw[e1,e2]
     cases hz:nl l (j+1)<;>rw[hz]at hr<;>exact stepT qg qd (by simp) (by simp) hP hn hG hI hIL hr) (fun _=>by
    have h1:=xZ l.length
    show @zA (zV base) c base I (qW Tryz.prog 10 0) 84 5 100 [(1,qq l)] (st nm l.length e0 l l.length) (.exit 0) (fin nm l.length e0 l)
    cases hl:l.length with
    |zero=>
     have hr:=vu nm l.length e0 (l.length:Int) false (qq l)
     simp only[h1,cond_false]at hr
     rw[hl]at hr
     exact stepT qg qd (by simp) (by simp) hP hn hG hI hIL hr
    |succ j=>
     have hr:=kh nm l.length e0 (l.length:Int) (nl l l.length) l.length (ints .i64 (row l l.length)) (qq l)
     simp only[h1,cond_false,qY,Bool.and_true,cond_true]at hr
     have e3:row l l.length=l.map (·.1):=by unfold row;rw[List.take_length]
     have e4:nl l l.length=(l.map (·.1)).any (· ==0):=by unfold nl;rw[e3]
     rw[hl]at hr e3 e4
     have e1:st nm (j+1) e0 l (j+1)=stR nm (j+1) e0 ((j+1:Nat):Int) (nl l (j+1)) (j+1) (ints .i64 (row l (j+1))):=rfl
     have e2:fin nm (j+1) e0 l=exR nm (j+1) e0 ((l.map (·.1)).any (· ==0)) (j+1) (ints .i64 (l.map (·.1))):=rfl
     rw[e1,e2,←e4,←e3]
     exact stepT qg qd (by simp) (by simp) hP hn hG hI hIL hr) l.length 0 () (by omega)
  rw[List.drop_zero,kW]at key
  cases hb:Nat.beq l.length 0 with
  |true=>rw[GT.eval,hb]at g2;cases g2;unfold fin at key;rw[hb]at key;exact key
  |false=>rw[GT.eval,hb]at g2;cases g2;unfold fin at key;rw[hb]at key;exact key
 ·cases e
end A10L0
namespace A10L1
noncomputable def cfg:Cfg:=zz Tryz.prog 4 (gpT [(33,A33.spec)]) (ltT 4 [])
def stA (nm:ByteArray) (n:Nat) (e:Int) (nl:Bool) (i:Int):KX:=⟨[(0,.string nm),(1,.slice (some ⟨1,0,none⟩) n 3),(4,.pointer (some ⟨105,0,none⟩)),(5,.int .i64 e),(7,.bool nl),(42,.slice (some ⟨1,0,none⟩) n 3),(43,.int .i64 (Int.ofNat n)),(44,.int .i64 i)],[[.int .i64 0,.int .i64 0,.string ⟨#[]⟩]]⟩
def qP (nm:ByteArray) (n:Nat) (e:Int) (nl:Bool):KX:=⟨[(0,.string nm),(1,.slice (some ⟨1,0,none⟩) n 3),(4,.pointer (some ⟨105,0,none⟩)),(5,.int .i64 e),(7,.bool nl)],[[.int .i64 0,.int .i64 0,.string ⟨#[]⟩]]⟩
def qV (e:Int):KX:=⟨[(4,.pointer (some ⟨105,0,none⟩)),(5,.int .i64 e)],[[.int .i64 0,.int .i64 0,.string ⟨#[]⟩]]⟩
def kp:Ex→List Nat
 | .normal=>[0,1,4,5,7,42,43,44]
 | .ret=>[4,5]
 |_=>[0,1,4,5,7]
def cr:Ex→St→List (Nat×Bool):=fun _ s=>[(105,true)]
theorem round (nm:ByteArray) (n:Nat) (e:Int) (nl:Bool) (i:Int) (cs:List Value):zW cfg [(33,A33.spec)] [] 10 1 (stK 84 105 [(1,cs)] (stA nm n e nl i)) (zD 105 100 84 kp cr)=
 (let x:=0+((i).toNat*3);bif decide (i<(Int.ofNat n))then(bif decide (0≤i)then(bif Nat.blt (i).toNat n then(bif isL cs x [(.i .i64),(.i .i64),.s]then(bif((bif A33.okv (rdI cs x) (rdI cs (x+1)) (rdS cs (x+1+1))then(0:Int)else 1) != 0)then(some (.ret,qV 22))else(some (.normal,stA nm n e nl (IntKind.wrap .i64 (i+1)))))else none)else none)else none)else(some (.exit 2,qP nm n e nl))):=by kernel_rfl
def bad (v:W3):Bool:= !A33.okv v.1 v.2.1 v.2.2
theorem bad_eq (b:Bool):((bif b then(0:Int)else 1) != 0)= !b:=by cases b<;>rfl
def D:KD:=⟨84,105,100,[0,1,4,5,7,42,43,44],[1],fun _=>[(4,true)],fun x ro=>match x.vs,x.cars,ro with
 |[(0,.string nm),(1,.slice (some ⟨1,0,none⟩) n 3),(4,.pointer (some ⟨105,0,none⟩)),(5,.int .i64 e),(7,.bool nl),(42,.slice (some ⟨1,0,none⟩) n' 3),(43,.int .i64 m),(44,.int .i64 0)],[[.int .i64 0,.int .i64 0,.string ⟨⟨[]⟩⟩]],[(1,cs)]=>
  .qI (Nat.beq n' n&&wo n m cs) (.br ((qj cs).any bad) (.out (.ret,qV 22)) (.out (.exit 2,qP nm n e nl)))
 |_,_,_=> .no⟩
def lp:LpK:=⟨10,13,1,D⟩
theorem kG: ∀p∈[((33:FuncId),A33.spec)],qu Tryz.prog La p.1 p.2:=by simpa using A33.qf
theorem qG:zw Tryz.prog La 4 lp:=by
 refine⟨by kernel_rfl,fun c base I hP hn hG hI hIL x ro ex y e=> ?_⟩
 obtain⟨vs,cars⟩:=x
 simp only[lp,D]at e ⊢
 split at e
 ·rename_i nm n e0 nl n' m cs
  obtain⟨g1,g2⟩:=GT.qh e
  simp only[Bool.and_eq_true]at g1
  obtain rfl:=Nat.eq_of_beq_eq_true g1.1
  obtain⟨rfl,hn2,h4,h5⟩:=kB g1.2
  generalize qj cs=l at h4 h5 g2
  subst h4 h5
  have key:=zP (Step:= @zA (zV base) c base I (qW Tryz.prog 10 1) 84 105 100 [(1,qq l)]) (step:=fun(_:Unit) (v:W3)=>bif bad v then .inr (.ret,qV 22)else .inl ()) (fin:=fun _=>(.exit 2,qP nm l.length e0 nl)) (st:=fun _ j=>stA nm l.length e0 nl j) (l:=l) (fun s=>by simp) (fun s a r h=>by
    cases hb:bad a<;>rw[hb]at h<;>cases h;simp) (fun _ j hj=>by
    have h1:=ltI hj
    have h2:=geI j
    have h3:=xE hj
    have h4:(0+((j:Int)).toNat*3)=j*3:=by simp
    have h5:=wrI j (by omega)
    have hs:rdS (qq l) (j*3+1+1)=l[j].2.2:=kS l hj
    have hr:=round nm l.length e0 nl j (qq l)
    simp only[h1,h2,h3,h4,h5,kt l hj,zX l hj,kc l hj,hs,cond_true,bad_eq]at hr
    unfold bad
    cases hb:A33.okv l[j].1 l[j].2.1 l[j].2.2<;>rw[hb]at hr<;>exact stepT qg qd kG (by simp) hP hn hG hI hIL hr) (fun _=>by
    have h1:=xZ l.length
    have hr:=round nm l.length e0 nl l.length (qq l)
    simp only[h1,cond_false]at hr
    exact stepT qg qd kG (by simp) hP hn hG hI hIL hr) l.length 0 () (by omega)
  rw[List.drop_zero,xC]at key
  cases hb:l.any bad with
  |true=>rw[hb]at key;rw[GT.eval,hb]at g2;cases g2;exact key
  |false=>rw[hb]at key;rw[GT.eval,hb]at g2;cases g2;exact key
 ·cases e
end A10L1
end
end Go.Proofs.YtaiokpmmjbiajaaGreatDoorDx
namespace Go.Proofs.YtaiokpmmjbiajaaGreatDoorU8
section
open Go Go.Lib
def wJ (n:Int):Prop:=(0≤n∧n<55296)∨(57344≤n∧n≤1114111)
def enc (n:Int):List UInt8:=(Utf8.encode n).data.toList
def u8s (l:List Int):List UInt8:=l.flatMap enc
theorem Yn:u8s []=[]:=rfl
theorem vq (n:Int) (l:List Int):u8s (n::l)=enc n++u8s l:=rfl
theorem vA (a b:List Int):u8s (a++b)=u8s a++u8s b:=by simp[u8s]
theorem Qk {n:Int} (h:wJ n):enc n=
  if n<128 then[UInt8.ofNat n.toNat]
  else if n<2048 then[UInt8.ofNat (192+n.toNat / 64),UInt8.ofNat (128+n.toNat % 64)]
  else if n<65536 then[UInt8.ofNat (224+n.toNat / 4096),UInt8.ofNat (128+n.toNat / 64 % 64),UInt8.ofNat (128+n.toNat % 64)]
  else[UInt8.ofNat (240+n.toNat / 262144),UInt8.ofNat (128+n.toNat / 4096 % 64),UInt8.ofNat (128+n.toNat / 64 % 64),UInt8.ofNat (128+n.toNat % 64)]:=by
 unfold enc Utf8.encode
 have hv:Utf8.valid n=true:=by
  unfold Utf8.valid
  unfold wJ at h
  simp only[Bool.or_eq_true,Bool.and_eq_true,decide_eq_true_eq]
  omega
 simp only[hv,if_true]
 unfold wJ at h
 by_cases h1:n<128
 ·rw[if_pos h1,if_pos (by omega)]
 by_cases h2:n<2048
 ·rw[if_neg h1,if_pos h2,if_neg (by omega),if_pos (by omega)]
 by_cases h3:n<65536
 ·rw[if_neg h1,if_neg h2,if_pos h3,if_neg (by omega),if_neg (by omega),if_pos (by omega)]
 ·rw[if_neg h1,if_neg h2,if_neg h3,if_neg (by omega),if_neg (by omega),if_neg (by omega)]
theorem tn {n:Nat} (h:n<256):(UInt8.ofNat n).toNat=n:=by simp;omega
theorem fV {n:Int} (h:wJ n) (t:List UInt8):decodeL (enc n++t)=(n.toNat,(enc n).length):=by
 rw[decodeL_N,Qk h]
 unfold wJ at h
 obtain⟨m,rfl⟩: ∃m:Nat,n=m:=⟨n.toNat,by omega⟩
 simp only[Int.toNat_natCast]
 by_cases h1:m<128
 ·rw [if_pos (by omega)]
  simp only[List.cons_append,List.nil_append,List.getD_cons_zero,tn (show m<256 by omega),List.length_cons,List.length_nil]
  unfold decodeN
  rw[if_pos h1]
 by_cases h2:m<2048
 ·rw [if_neg (by omega), if_pos (by omega)]
  simp only[List.cons_append,List.nil_append,List.getD_cons_zero,List.getD_cons_succ,tn (show 192+m / 64<256 by omega),tn (show 128+m % 64<256 by omega),List.length_cons,List.length_nil]
  unfold decodeN
  rw[if_neg (by omega),if_pos ⟨by omega,by omega,by omega⟩,if_pos (by omega)]
  congr 1;omega
 by_cases h3:m<65536
 ·rw [if_neg (by omega), if_neg (by omega), if_pos (by omega)]
  simp only[List.cons_append,List.nil_append,List.getD_cons_zero,List.getD_cons_succ,tn (show 224+m / 4096<256 by omega),tn (show 128+m / 64 % 64<256 by omega),tn (show 128+m % 64<256 by omega),List.length_cons,List.length_nil]
  have e:(224+m / 4096) % 16*4096+(128+m / 64 % 64) % 64*64+(128+m % 64) % 64=m:=by omega
  unfold decodeN
  rw[if_neg (by omega),if_neg (by omega),if_pos ⟨by omega,⟨by omega,by omega⟩,by omega,by omega⟩,e,if_pos (by omega)]
 ·rw [if_neg (by omega), if_neg (by omega), if_neg (by omega)]
  simp only[List.cons_append,List.nil_append,List.getD_cons_zero,List.getD_cons_succ,tn (show 240+m / 262144<256 by omega),tn (show 128+m / 4096 % 64<256 by omega),tn (show 128+m / 64 % 64<256 by omega),tn (show 128+m % 64<256 by omega),List.length_cons,List.length_nil]
  have e:(240+m / 262144) % 8*262144+(128+m / 4096 % 64) % 64*4096+(128+m / 64 % 64) % 64*64+(128+m % 64) % 64=m:=by omega
  unfold decodeN
  rw[if_neg (by omega),if_neg (by omega),if_neg (by omega),if_pos ⟨by omega,⟨by omega,by omega⟩,⟨by omega,by omega⟩,by omega,by omega⟩,e,if_pos (by omega)]
theorem Qy {n:Int} (h:wJ n):1≤(enc n).length∧(enc n).length≤4∧((enc n).length=1→n<128):=by
 rw[Qk h]
 by_cases h1:n<128
 ·simp[h1]
 by_cases h2:n<2048
 ·simp[h1,h2]
 by_cases h3:n<65536
 ·simp[h1,h2,h3]
 ·simp[h1,h2,h3]
theorem QH {b:UInt8} {n:Nat} (h:n=b.toNat):UInt8.ofNat n=b:=by subst h;simp
theorem ix (l:List UInt8) (hne:l≠[]) (h: ¬((decodeL l).1=65533∧(decodeL l).2=1)):wJ ((decodeL l).1:Int)∧enc ((decodeL l).1:Int)++l.drop (decodeL l).2=l:=by
 rw[decodeL_N]at h ⊢
 have hb: ∀b:UInt8,b.toNat<256:=fun b=>b.toNat_lt
 match l,hne with
 |b0::t,_=>
 have q0:=hb b0
 unfold decodeN at h ⊢
 simp only[List.getD_cons_zero,List.getD_cons_succ]at h ⊢
 by_cases h0:b0.toNat<128
 ·rw [if_pos h0] at h ⊢
  simp only
  have hs:wJ (b0.toNat:Int):=by unfold wJ;omega
  refine⟨hs,?_⟩
  rw[Qk hs,if_pos (by omega)]
  simp
 rw[if_neg h0]at h ⊢
 cases t with
 |nil=>
  rw[if_neg (by simp),if_neg (by simp),if_neg (by simp)]at h
  simp at h
 |cons b1 t=>
 have q1:=hb b1
 simp only[List.getD_cons_zero,List.getD_cons_succ,List.length_cons]at h ⊢
 by_cases c1:b0.toNat / 32=6∧(1<t.length+1+1∧b1.toNat / 64=2)
 ·rw [if_pos c1] at h ⊢
  by_cases d:b0.toNat % 32*64+b1.toNat % 64≥128
  ·rw [if_pos d] at h ⊢
   simp only
   have hs:wJ ((b0.toNat % 32*64+b1.toNat % 64:Nat):Int):=by unfold wJ;omega
   refine⟨hs,?_⟩
   rw[Qk hs,if_neg (by omega),if_pos (by omega),Int.toNat_natCast]
   simp only[List.cons_append,List.nil_append,List.drop_succ_cons,List.drop_zero]
   rw[QH (b:=b0) (by omega),QH (b:=b1) (by omega)]
  ·rw[if_neg d]at h;simp at h
 rw[if_neg c1]at h ⊢
 cases t with
 |nil=>
  rw[if_neg (by simp),if_neg (by simp)]at h
  simp at h
 |cons b2 t=>
 have q2:=hb b2
 simp only[List.getD_cons_zero,List.getD_cons_succ,List.length_cons]at h ⊢
 by_cases c2:b0.toNat / 16=14∧(1<t.length+1+1+1∧b1.toNat / 64=2)∧(2<t.length+1+1+1∧b2.toNat / 64=2)
 ·rw [if_pos c2] at h ⊢
  generalize hm:b0.toNat % 16*4096+b1.toNat % 64*64+b2.toNat % 64=m at h ⊢
  by_cases d:m≥2048∧(m<55296∨(57344≤m∧m≤1114111))
  ·rw [if_pos d] at h ⊢
   simp only
   have hs:wJ (m:Int):=by unfold wJ;omega
   refine⟨hs,?_⟩
   rw[Qk hs,if_neg (by omega),if_neg (by omega),if_pos (by omega),Int.toNat_natCast]
   simp only[List.cons_append,List.nil_append,List.drop_succ_cons,List.drop_zero]
   rw[QH (b:=b0) (by omega),QH (b:=b1) (by omega),QH (b:=b2) (by omega)]
  ·rw[if_neg d]at h;simp at h
 rw[if_neg c2]at h ⊢
 cases t with
 |nil=>
  rw[if_neg (by simp)]at h
  simp at h
 |cons b3 t=>
 have q3:=hb b3
 simp only[List.getD_cons_zero,List.getD_cons_succ,List.length_cons]at h ⊢
 by_cases c3:b0.toNat / 8=30∧(1<t.length+1+1+1+1∧b1.toNat / 64=2)∧(2<t.length+1+1+1+1∧b2.toNat / 64=2)∧(3<t.length+1+1+1+1∧b3.toNat / 64=2)
 ·rw [if_pos c3] at h ⊢
  generalize hm:b0.toNat % 8*262144+b1.toNat % 64*4096+b2.toNat % 64*64+b3.toNat % 64=m at h ⊢
  by_cases d:m≥65536∧(m<55296∨(57344≤m∧m≤1114111))
  ·rw [if_pos d] at h ⊢
   simp only
   have hs:wJ (m:Int):=by unfold wJ;omega
   refine⟨hs,?_⟩
   rw[Qk hs,if_neg (by omega),if_neg (by omega),if_neg (by omega),Int.toNat_natCast]
   simp only[List.cons_append,List.nil_append,List.drop_succ_cons,List.drop_zero]
   rw[QH (b:=b0) (by omega),QH (b:=b1) (by omega),QH (b:=b2) (by omega),QH (b:=b3) (by omega)]
  ·rw[if_neg d]at h;simp at h
 rw[if_neg c3]at h
 simp at h
theorem ZF: ∀(n:Nat) (l:List UInt8),l.length≤n→validD l=true→ ∃p:List Int,(∀x∈p,wJ x)∧l=u8s p
 |0,l,hl,_=>⟨[],fun x h=>by(cases h),by cases l with|nil=>rfl|cons=>simp at hl⟩
 |n+1,l,hl,hv=>by
  by_cases hne:l=[]
  ·exact⟨[],fun x h=>by(cases h),hne⟩
  rw[validD_step l hne]at hv
  by_cases hd:(decodeL l).1=65533∧(decodeL l).2=1
  ·rw[if_pos hd]at hv;cases hv
  rw[if_neg hd]at hv
  obtain⟨h1,h2⟩:=ix l hne hd
  have h3:=Qy h1
  have h4:=congrArg List.length h2
  have h5:=decodeL_le l hne
  have h6:=decodeL_width l
  simp only[List.length_append,List.length_drop]at h4
  obtain⟨p,h7,h8⟩:=ZF n (l.drop (decodeL l).2) (by simp;omega) hv
  exact⟨(decodeL l).1::p,fun x hx=>by
   rcases List.mem_cons.1 hx with rfl|hx
   ·exact h1
   ·exact h7 x hx,by rw[vq,←h8,h2]⟩
theorem aY (l:List Int):runesBytes l=⟨(u8s l).toArray⟩:=by
 have: ∀(l:List Int) (b:ByteArray),l.foldl (fun r n=>r++Utf8.encode n) b=⟨(b.data.toList++u8s l).toArray⟩:=by
  intro l
  induction l with
  |nil=>intro b;obtain⟨a⟩:=b;simp[u8s]
  |cons n l ih=>intro b;rw[List.foldl_cons,ih,vq];simp[enc]
 rw[runesBytes,this]
 rfl
end
end Go.Proofs.YtaiokpmmjbiajaaGreatDoorU8
namespace Go.Proofs.YtaiokpmmjbiajaaGreatDoorTxt
section
set_option maxRecDepth 4000
open Go.Proofs.YtaiokpmmjbiajaaGreatDoorU8 Go.Lib
open Go.WideShapes (bytes_inj)
def pts (s:ByteArray):Nat→Nat→List Int
 |0,_=>[]
 |n+1,i=>if i<s.size then Int.ofNat (Utf8.decode s i).1::pts s n (i+(Utf8.decode s i).2)else[]
def from_ (l:List Int) (a1:Int):Nat:=(min (max a1 0) (l.length:Int)).toNat
def cnt (l:List Int) (a1 a2:Int):Nat:=(min (max a2 0) ((l.length:Int) - min (max a1 0) (l.length:Int))).toNat
def jS (s:ByteArray) (a1 a2:Int):ByteArray:=
 runesBytes (((pts s s.size 0).drop (from_ (pts s s.size 0) a1)).take (cnt (pts s s.size 0) a1 a2))
def one (lo hi d:Int) (c:UInt8):UInt8:=if lo≤(c.toNat:Int)∧(c.toNat:Int)≤hi then UInt8.ofNat (((c.toNat:Int)+d) % 256).toNat else c
def wH (lo hi d:Int) (s:ByteArray):ByteArray:=⟨(s.data.toList.map (one lo hi d)).toArray⟩
def bh (r:Nat):List UInt8:=if Lib.trimRightB (Lib.repeatL [48] (4 - (Lib.decDigits r).length)++Lib.decDigits r) 48=[]then[48]else Lib.trimRightB (Lib.repeatL [48] (4 - (Lib.decDigits r).length)++Lib.decDigits r) 48
def fw (n:Int):List UInt8:=(if n<0 then[45]else[])++Lib.decDigits (n.natAbs / 10000)++[46]++bh (n.natAbs % 10000)
def T (p:List Int):ByteArray:=⟨(u8s p).toArray⟩
theorem Zi (p:List Int):(T p).size=(u8s p).length:=by simp[T,ByteArray.size]
theorem XV (p:List Int):(T p).data.toList=u8s p:=by simp[T]
theorem bW (p q:List Int) (n:Int) (hn:wJ n):Utf8.decode (T (p++n::q)) (u8s p).length=(n.toNat,(enc n).length):=by
 rw[←decodeL_drop,XV,vA,List.drop_left,vq]
 exact fV hn _
theorem eQ: ∀(q p:List Int) (k:Nat),(∀x∈p++q,wJ x)→(u8s q).length≤k→pts (T (p++q)) k (u8s p).length=q
 |[],p,0,h,hk=>rfl
 |[],p,k+1,h,hk=>by
  rw[pts,if_neg (by rw[Zi];simp)]
 |n::q,p,0,h,hk=>by
  have:=Qy (h n (by simp))
  rw[vq,List.length_append]at hk
  omega
 |n::q,p,k+1,h,hk=>by
  have hn:=h n (by simp)
  have hl:=Qy hn
  rw[vq,List.length_append]at hk
  rw[pts,if_pos (by rw[Zi,vA,vq];simp;omega),bW p q n hn]
  have e:p++n::q=(p++[n])++q:=by simp
  have e2:(u8s p).length+(enc n).length=(u8s (p++[n])).length:=by rw[vA,vq];simp[Yn]
  simp only
  rw[e,e2,eQ q (p++[n]) k (by rw[←e];exact h) (by omega)]
  congr 1
  have:0≤n:=by unfold wJ at hn;omega
  show ((n.toNat:Nat):Int)=n
  omega
theorem mM (p:List Int) (h: ∀x∈p,wJ x):pts (T p) (T p).size 0=p:=eQ p [] _ h (by rw[Zi];exact Nat.le_refl _)
theorem Xr: ∀(q p:List Int) (k:Nat),(∀x∈p++q,wJ x)→(u8s q).length≤k→runeCountFrom (T (p++q)) k (u8s p).length=q.length
 |[],p,0,h,hk=>rfl
 |[],p,k+1,h,hk=>by
  rw[runeCountFrom,if_neg (by rw[Zi];simp)];rfl
 |n::q,p,0,h,hk=>by
  have:=Qy (h n (by simp))
  rw[vq,List.length_append]at hk
  omega
 |n::q,p,k+1,h,hk=>by
  have hn:=h n (by simp)
  have hl:=Qy hn
  rw[vq,List.length_append]at hk
  rw[runeCountFrom,if_pos (by rw[Zi,vA,vq];simp;omega),bW p q n hn]
  have e:p++n::q=(p++[n])++q:=by simp
  have e2:(u8s p).length+(enc n).length=(u8s (p++[n])).length:=by rw[vA,vq];simp[Yn]
  simp only
  rw[e,e2,Xr q (p++[n]) k (by rw[←e];exact h) (by omega)]
  simp;omega
theorem count_eq (p:List Int) (h: ∀x∈p,wJ x):runeCount (T p)=p.length:=Xr p [] _ h (by rw[Zi];exact Nat.le_refl _)
theorem dP (p:List Int) (h: ∀x∈p,wJ x) (a n:Int):jS (T p) a n=T ((p.drop (from_ p a)).take (cnt p a n)):=by
 unfold jS
 rw[mM p h,aY];rfl
def Ok (p:List Int):Prop:=(∀x∈p,wJ x)∧(u8s p).length≤1024
theorem dJ (p:List Int) (n:Nat):(u8s (p.take n)).length≤(u8s p).length:=by
 have e:u8s p=u8s (p.take n)++u8s (p.drop n):=by rw[←vA,List.take_append_drop]
 rw[e];simp
theorem cM (p:List Int) (n:Nat):(u8s (p.drop n)).length≤(u8s p).length:=by
 have e:u8s p=u8s (p.take n)++u8s (p.drop n):=by rw[←vA,List.take_append_drop]
 rw[e];simp
theorem Ok.part {p:List Int} (h:Ok p) (i n:Nat):Ok ((p.drop i).take n):=
 ⟨fun x hx=>h.1 x (List.mem_of_mem_drop (List.mem_of_mem_take hx)),Nat.le_trans (dJ _ _) (Nat.le_trans (cM _ _) h.2)⟩
theorem Ok.left {p q:List Int} (h:Ok (p++q)):Ok p:=⟨fun x hx=>h.1 x (by simp[hx]),by have:=h.2;rw[vA]at this;simp at this;omega⟩
theorem Ok.right {p q:List Int} (h:Ok (p++q)):Ok q:=⟨fun x hx=>h.1 x (by simp[hx]),by have:=h.2;rw[vA]at this;simp at this;omega⟩
theorem V6 {l:List UInt8} (h:validD l=true): ∃p:List Int,(∀x∈p,wJ x)∧l=u8s p:=ZF l.length l (Nat.le_refl _) h
theorem dB {s:ByteArray} {p:List Int} (h:s.data.toList=u8s p):s=T p:=by
 apply bytes_inj
 rw[XV];exact h
end
end Go.Proofs.YtaiokpmmjbiajaaGreatDoorTxt
namespace Go.Proofs.YtaiokpmmjbiajaaGreatDoorDx.Fit
section
open Go
abbrev is (s:ByteArray) (l:List UInt8):Bool:=eqU s.data.toList l
def kJ (t:ByteArray):W3×Int:=bif decide (Int.ofNat t.data.toList.length>1024)then(v0,20)else((4,0,t),0)
def yX (s:ByteArray) (v:W3):W3×Int:=bif v.1==2 then(v,0)else((2,A80.rnd s v.2.1,⟨#[]⟩),0)
def kn (s:ByteArray) (l:List W3):W3×Int:=bif(A34.jc s l).1 != 0 then(v0,(A34.jc s l).1)else((A34.jc s l).2,0)
def Kq (n:Int):Int:=bif decide (n<0)then -1 else bif decide (n>0)then 1 else 0
def Yk (k n:Int) (s:ByteArray):List UInt8:=
 bif !A33.okv k n s then[]else bif k==0 then[110,117,108,108]else bif k==1 then(bif n==1 then[116,114,117,101]else[102,97,108,115,101])
 else bif k==2 then Lib.itoa n else bif k==3 then _root_.Go.Proofs.YtaiokpmmjbiajaaGreatDoorTxt.fw n else[39]++Lib.replaceAll s.data.toList [39] [39,39]++[39]
def j8 (k n:Int) (s:ByteArray):ByteArray:=⟨(Yk k n s).toArray⟩
def Qa (s:ByteArray) (l:List W3):W3×Int:=
 let v:=l.headD v0
 bif is s [97,98,115]then(bif decide (v.2.1<0)then A79.xi v.1 v.2.1 else(v,0))else
 bif is s [99,101,105,108]then yX s v else
 bif is s [102,108,111,111,114]then yX s v else
 bif is s [114,111,117,110,100]then yX s v else
 bif is s [115,105,103,110]then((2,Kq v.2.1,⟨#[]⟩),0)else
 bif is s [116,111,105,110,116]then A82.WA v.1 v.2.1 else
 bif is s [116,111,100,101,99]then A75.kl v.1 v.2.1 else
 bif is s [103,114,101,97,116,101,115,116]then kn s l else
 bif is s [108,101,97,115,116]then kn s l else
 bif is s [108,101,110,103,116,104]then((2,Int.ofNat (Lib.runeCount v.2.2),⟨#[]⟩),0)else
 bif is s [108,111,119,101,114]then kJ (_root_.Go.Proofs.YtaiokpmmjbiajaaGreatDoorTxt.wH 65 90 32 v.2.2)else
 bif is s [117,112,112,101,114]then kJ (_root_.Go.Proofs.YtaiokpmmjbiajaaGreatDoorTxt.wH 97 122 (-32) v.2.2)else
 bif is s [116,114,105,109]then kJ ⟨(Lib.trimB v.2.2.data.toList 32).toArray⟩else
 bif is s [115,117,98,115,116,114]then kJ (_root_.Go.Proofs.YtaiokpmmjbiajaaGreatDoorTxt.jS v.2.2 (l.getD 1 v0).2.1 (l.getD 2 v0).2.1)else
 bif is s [116,111,116,101,120,116]then(bif v.1==4 then(v,0)else kJ (j8 v.1 v.2.1 v.2.2))else
 kJ (A37L0.cat l)
def rP (b:Bool) (k:Int):Int×Int:=bif b then(k,0)else(0,100)
def kA (s:ByteArray) (l:List Int):Int×Int:=
 bif l.any A14L0.bad then rP false 0 else
 bif eqU s.data.toList [97,98,115]then rP (A14.num l) (l.headD 0)else
 bif eqU s.data.toList [99,101,105,108]then rP (A14.num l) 2 else
 bif eqU s.data.toList [102,108,111,111,114]then rP (A14.num l) 2 else
 bif eqU s.data.toList [114,111,117,110,100]then rP (A14.num l) 2 else
 bif eqU s.data.toList [115,105,103,110]then rP (A14.num l) 2 else
 bif eqU s.data.toList [116,111,105,110,116]then rP (A14.num l) 2 else
 bif eqU s.data.toList [116,111,100,101,99]then rP (A14.num l) 3 else
 bif eqU s.data.toList [99,111,97,108,101,115,99,101]then rP ((A53.res l).2&&decide (Int.ofNat l.length≥1)) (A53.res l).1 else
 bif eqU s.data.toList [103,114,101,97,116,101,115,116]then rP ((A53.res l).2&&decide (Int.ofNat l.length≥1)) (A53.res l).1 else
 bif eqU s.data.toList [108,101,97,115,116]then rP ((A53.res l).2&&decide (Int.ofNat l.length≥1)) (A53.res l).1 else
 bif eqU s.data.toList [110,117,108,108,105,102]then rP (Int.ofNat l.length==2&&(A53.res l).2) (l.headD 0)else
 bif eqU s.data.toList [99,111,110,99,97,116]then rP (l.foldl (fun b k=>b&&A14L1.ok1 k) (decide (Int.ofNat l.length≥1))) 4 else
 bif eqU s.data.toList [108,101,110,103,116,104]then rP (A14.txt l) 2 else
 bif eqU s.data.toList [108,111,119,101,114]then rP (A14.txt l) 4 else
 bif eqU s.data.toList [117,112,112,101,114]then rP (A14.txt l) 4 else
 bif eqU s.data.toList [116,114,105,109]then rP (A14.txt l) 4 else
 bif eqU s.data.toList [116,111,116,101,120,116]then rP (Int.ofNat l.length==1) 4 else
 bif eqU s.data.toList [115,117,98,115,116,114]then rP (A14.sub l) 4 else
 rP false 0
def two (p:Int×Int):Value:= .tuple #[.int .i64 p.1,.int .i64 p.2]
theorem pg (b:Bool) (k:Int):two (rP b k)=A14.r b k:=by cases b<;>rfl
theorem VG (s:ByteArray) (l:List Int):A14.KV s l=two (kA s l):=by
 unfold kA A14.KV
 simp only[Bool.apply_cond two,pg]
def zR (s:ByteArray) (l:List W3):W3×Int:=
 bif(kA s (l.map (·.1))).2 != 0 then(v0,(kA s (l.map (·.1))).2)else
 bif l.any A10L1.bad then(v0,22)else
 bif is s [99,111,97,108,101,115,99,101]then kn s l else
 bif is s [110,117,108,108,105,102]then
  (bif A35.tru (bif(l.headD v0).1==0||(l.getD 1 v0).1==0 then 0 else 1) (bif(A76.compare (l.headD v0).1 (l.headD v0).2.1 (l.headD v0).2.2 (l.getD 1 v0).1 (l.getD 1 v0).2.1 (l.getD 1 v0).2.2).2&&(A76.compare (l.headD v0).1 (l.headD v0).2.1 (l.headD v0).2.2 (l.getD 1 v0).1 (l.getD 1 v0).2.1 (l.getD 1 v0).2.2).1==0 then 1 else 0)then(v0,0)else(l.headD v0,0))else
 bif(l.map (·.1)).any (· ==0)then(v0,0)else Qa s l
end
section
open Go
theorem yJ: ∀{a b:List UInt8},eqU a b=true→a=b
 |[],[],_=>rfl
 |[],_::_,h=>by cases h
 |_::_,[],h=>by cases h
 |x::a,y::b,h=>by
  unfold eqU at h
  simp only[Bool.and_eq_true]at h
  rw[UInt8.toNat_inj.1 (Nat.eq_of_beq_eq_true h.1),yJ h.2]
theorem zO {s:ByteArray} {l:List UInt8} (h:is s l=true):s=⟨l.toArray⟩:=by
 obtain⟨a⟩:=s
 have:=yJ h
 simp only at this
 rw[←this]
theorem Xo: ∀a:List UInt8,eqU a a=true
 |[]=>rfl
 |x::a=>by unfold eqU;rw[Nat.beq_refl,Xo a];rfl
theorem dU {k n:Int} {s:ByteArray} (h:k=2∨k=3) (ho:A33.okv k n s=true):s=⟨#[]⟩:=by
 rcases h with rfl|rfl<;>exact zO (l:=[]) ho
theorem Zn {n:Int} {s:ByteArray} (ho:A33.okv 4 n s=true):n=0∧s.data.toList.length≤1024∧Lib.validD s.data.toList=true:=by
 have h:(n==0&&(decide (s.data.toList.length≤1024)&&Lib.validD s.data.toList))=true:=ho
 simp only[Bool.and_eq_true,decide_eq_true_eq,beq_iff_eq]at h
 exact⟨h.1,h.2.1,h.2.2⟩
def Fits (kind:Int) (p:W3×Int):Prop:=if p.2=0 then A33.okv p.1.1 p.1.2.1 p.1.2.2=true∧(p.1.1=0∨p.1.1=kind)else p.1=v0
theorem np {l:List Int} (h:A14.num l=true): ∃k,l=[k]∧(k=0∨k=2∨k=3):=by
 unfold A14.num at h
 split at h
 ·rename_i a
  simp only[Bool.or_eq_true,beq_iff_eq]at h
  exact⟨a,rfl,h⟩
 ·cases h
theorem nY {l:List Int} (h:A14.txt l=true): ∃k,l=[k]∧(k=0∨k=4):=by
 unfold A14.txt at h
 split at h
 ·rename_i a
  simp only[Bool.or_eq_true,beq_iff_eq]at h
  exact⟨a,rfl,h⟩
 ·cases h
theorem XY {l:List Int} (h:A14.sub l=true): ∃a b c,l=[a,b,c]∧(a=0∨a=4):=by
 unfold A14.sub at h
 split at h
 ·rename_i a b c
  simp only[Bool.or_eq_true,Bool.and_eq_true,beq_iff_eq]at h
  exact⟨a,b,c,rfl,h.1⟩
 ·cases h
theorem YC {l:List W3} {k:Int} (h:l.map (·.1)=[k]): ∃v,l=[v]∧v.1=k:=by
 match l,h with
 |[v],h=>exact⟨v,rfl,by simpa using h⟩
def Ok5 (k:Int):Prop:=k=0∨k=1∨k=2∨k=3∨k=4
def Inv (p:Int×Bool×Bool) (l:List Int):Prop:=Ok5 p.1∧(p.2.1=true→ ∀k∈l,k=0∨k=p.1)∧(p.2.2=true→(p.1=0∨p.1=2∨p.1=3)∧ ∀k∈l,k=0∨((k=2∨k=3)∧k≤p.1))∧(p.1=0→ ∀k∈l,k=0)
theorem ch {p:Int×Bool×Bool} {l:List Int} {k:Int} (h:Inv p l) (hk:Ok5 k):Inv (A53.step p k) (l++[k]):=by
 obtain⟨a,b,c⟩:=p
 obtain⟨h1,h2,h3,h4⟩:=h
 simp only at h1 h2 h3 h4
 unfold A53.step
 cases hz:k==0
 ·have hz : k ≠ 0 := beq_eq_false_iff_ne.1 hz
  simp only[cond_false]
  have hm:(if k>a then k else a)≥k∧(if k>a then k else a)≥a∧((if k>a then k else a)=k∨(if k>a then k else a)=a):=by split<;>omega
  generalize (if k>a then k else a)=m at hm
  unfold Ok5 at hk h1
  refine⟨?_,fun h=> ?_,fun h=> ?_,fun h=> ?_⟩
  ·show Ok5 m;unfold Ok5;omega
  ·simp only [Bool.and_eq_true, Bool.or_eq_true, beq_iff_eq] at h
   obtain⟨hb,he⟩:=h
   intro x hx
   show x=0∨x=m
   rcases List.mem_append.1 hx with hx|hx
   ·rcases h2 hb x hx with e | e
    ·exact .inl e
    ·rcases he with e2|e2<;>omega
   ·rw [List.mem_singleton] at hx
    rcases he with e2|e2<;>omega
  ·simp only [Bool.and_eq_true, Bool.or_eq_true, beq_iff_eq] at h
   obtain⟨hb,he⟩:=h
   obtain⟨g1,g2⟩:=h3 hb
   refine⟨by show m=0∨m=2∨m=3;omega,fun x hx=> ?_⟩
   show x=0∨((x=2∨x=3)∧x≤m)
   rcases List.mem_append.1 hx with hx|hx
   ·rcases g2 x hx with e | e
    ·exact .inl e
    ·right;omega
   ·rw [List.mem_singleton] at hx
    subst hx
    exact .inr ⟨he,hm.1⟩
  ·exact absurd h (by show¬m=0;omega)
 ·have hz : k = 0 := beq_iff_eq.1 hz
  subst hz
  simp only[cond_true]
  refine⟨h1,fun h x hx=> ?_,fun h=>⟨(h3 h).1,fun x hx=> ?_⟩,fun h x hx=> ?_⟩
  ·rcases List.mem_append.1 hx with hx | hx
   ·exact h2 h x hx
   ·rw[List.mem_singleton]at hx;exact .inl hx
  ·rcases List.mem_append.1 hx with hx | hx
   ·exact(h3 h).2 x hx
   ·rw[List.mem_singleton]at hx;exact .inl hx
  ·rcases List.mem_append.1 hx with hx | hx
   ·exact h4 h x hx
   ·rw[List.mem_singleton]at hx;exact hx
theorem Xd: ∀(r l:List Int) (p:Int×Bool×Bool),Inv p l→(∀k∈r,Ok5 k)→Inv (r.foldl A53.step p) (l++r)
 |[],l,p,h,_=>by rw[List.append_nil];exact h
 |k::r,l,p,h,hr=>by
  have:=Xd r (l++[k]) (A53.step p k) (ch h (hr k (by simp))) fun x hx=>hr x (by simp[hx])
  rw[List.append_assoc]at this
  exact this
theorem bm {l:List Int} (h5: ∀k∈l,Ok5 k) (h:(A53.res l).2=true): ∀k∈l,k=0∨k=(A53.res l).1∨((A53.res l).1=3∧(k=2∨k=3)):=by
 have hi:Inv (A53.alike l) l:=Xd l [] (0,true,true) ⟨.inl rfl,(fun _ k hk=>by cases hk),(fun _=>⟨.inl rfl,fun k hk=>by cases hk⟩),(fun _ k hk=>by cases hk)⟩ h5
 obtain⟨h1,h2,h3,h4⟩:=hi
 unfold A53.res at h ⊢
 simp only[Bool.or_eq_true]at h
 intro k hk
 rcases h with h|h
 ·rcases h2 h k hk with e | e
  ·exact .inl e
  ·exact .inr (.inl e)
 ·obtain ⟨g1, g2⟩ := h3 h
  rcases g2 k hk with e|⟨e1,e2⟩
  ·exact .inl e
  ·show k = 0 ∨ k = (A53.alike l).1 ∨ ((A53.alike l).1 = 3 ∧ (k = 2 ∨ k = 3))
   omega
theorem dW {k n:Int} (h:k=2∨k=3):(A75.kl k n).2=0→(A75.kl k n).1.1=3∧(A75.kl k n).1.2.2=⟨#[]⟩:=by
 unfold A75.kl
 rw[if_neg (by omega),if_pos h]
 split
 ·intro _;exact⟨rfl,rfl⟩
 ·intro h;cases h
theorem aQ (a b:ByteArray):(A37L0.bu a b).data.toList=a.data.toList++b.data.toList:=by unfold A37L0.bu;rw[List.toList_toArray]
theorem ck {l:List Int} (h:l.any A14L0.bad=false): ∀k∈l,Ok5 k:=by
 intro k hk
 have:=(List.any_eq_false.1 h) k hk
 unfold A14L0.bad at this
 unfold Ok5
 simp at this
 omega
theorem XU {l:List W3} (h:l.any A10L1.bad=false): ∀v∈l,A33.okv v.1 v.2.1 v.2.2=true:=by
 intro v hv
 have:=(List.any_eq_false.1 h) v hv
 unfold A10L1.bad at this
 simpa using this
theorem Z3 {l:List W3} (h:(l.map (fun v:W3=>v.1)).any (· ==0)=false): ∀v∈l,v.1≠0:=by
 intro v hv e
 have:=(List.any_eq_false.1 h) v.1 (List.mem_map_of_mem hv)
 rw[e]at this
 exact this rfl
theorem rP0 {b:Bool} {k:Int} (h:(rP b k).2=0):b=true∧(rP b k).1=k:=by
 cases b
 ·cases h
 ·exact⟨rfl,rfl⟩
abbrev ks (l:List W3):List Int:=l.map (fun v:W3=>v.1)
section
variable {l:List W3} (hok: ∀v∈l,A33.okv v.1 v.2.1 v.2.2=true)
include hok
theorem one_num (hn:A14.num (ks l)=true) (hz:(ks l).any (· ==0)=false): ∃v,l=[v]∧(v.1=2∨v.1=3)∧v.2.2=⟨#[]⟩:=by
 obtain⟨k,e,hk⟩:=np hn
 obtain⟨v,rfl,rfl⟩:=YC e
 have h0:=Z3 hz v (by simp)
 have h2:v.1=2∨v.1=3:=by omega
 exact⟨v,rfl,h2,dU h2 (hok v (by simp))⟩
theorem gU (hn:A14.txt (ks l)=true) (hz:(ks l).any (· ==0)=false): ∃v,l=[v]∧v.1=4∧v.2.2.data.toList.length≤1024∧Lib.validD v.2.2.data.toList=true:=by
 obtain⟨k,e,hk⟩:=nY hn
 obtain⟨v,rfl,rfl⟩:=YC e
 have h0:=Z3 hz v (by simp)
 have h4:v.1=4:=by omega
 have ho:=hok v (by simp)
 rw[h4]at ho
 exact⟨v,rfl,h4,(Zn ho).2⟩
end
end
end Go.Proofs.YtaiokpmmjbiajaaGreatDoorDx.Fit
namespace Go.Proofs.YtaiokpmmjbiajaaGreatDoorDx.Ref
section
open Go Go.Proofs.YtaiokpmmjbiajaaGreatDoorDx.Fit
abbrev wr (x:Int):Int:=IntKind.wrap .i64 x
theorem V0 {x:Int} (h: -9223372036854775808≤x) (h2:x≤9223372036854775807):wr x=x:=IntWalk.i64_in x ⟨h,h2⟩
theorem yV {n:Int}:inR n=true↔ -9223372036854775808≤n∧n<9223372036854775808:=by unfold inR;simp
theorem quot (n:Int):n=10000*n.tdiv 10000+n.tmod 10000∧ -10000<n.tmod 10000∧n.tmod 10000<10000∧(0≤n→0≤n.tmod 10000∧0≤n.tdiv 10000)∧(n≤0→n.tmod 10000≤0∧n.tdiv 10000≤0):=by
 rcases Int.lt_or_le n 0 with h|h
 ·obtain ⟨m, rfl⟩ : ∃ m : Int, n = -m := ⟨-n, by omega⟩
  rw[Int.neg_tdiv,Int.neg_tmod,Int.tdiv_eq_ediv_of_nonneg (by omega),Int.tmod_eq_emod_of_nonneg (by omega)]
  omega
 ·rw [Int.tdiv_eq_ediv_of_nonneg h, Int.tmod_eq_emod_of_nonneg h]
  omega
def ZW (k:Int):Bool:=k==0||(k==2||k==3)
def Kz (k:Int) (out:Int):Option Int:=bif k==0||k==out then some out else bif out==0 then some k else bif ZW out&&ZW k then some 3 else none
def ra:Int→List Int→Option Int
 |out,[]=>some out
 |out,k::l=>match Kz k out with
  |some o=>ra o l
  |none=>none
def zG (l:List Int):Int×Bool:=match ra 0 l with
 |some o=>(o,true)
 |none=>(0,false)
def J (o:Option Int) (p:Int×Bool×Bool):Prop:=
 (o=some p.1∧(p.2.1=true∨p.2.2=true)∧(p.1=0→p.2.1=true∧p.2.2=true)∧(p.2.2=true→p.1=0∨p.1=2∨p.1=3)∧(p.2.1=true→p.1=2∨p.1=3→p.2.2=true)∧(p.2.1=false→p.1=3))∨(o=none∧p.2.1=false∧p.2.2=false)
theorem dead: ∀(l:List Int) (p:Int×Bool×Bool),p.2.1=false→p.2.2=false→(l.foldl A53.step p).2.1=false∧(l.foldl A53.step p).2.2=false
 |[],p,h1,h2=>⟨h1,h2⟩
 |k::l,p,h1,h2=>by
  refine dead l _ ?_ ?_<;>
  ·unfold A53.step
   cases k==0<;>simp[h1,h2]
theorem JB: ∀(l:List Int) (out:Int) (p:Int×Bool×Bool),Ok5 out→J (some out) p→(∀k∈l,Ok5 k)→J (ra out l) (l.foldl A53.step p)
 |[],out,p,_,h,_=>h
 |k::l,out,p,ho,h,hl=>by
  rcases h with⟨e,h1,h2,h3,h4,h5⟩|⟨e,_⟩
  rotate_left
  ·cases e
  obtain⟨a,b,c⟩:=p
  cases e
  simp only at h1 h2 h3 h4 h5
  have hk:=hl k (by simp)
  have hl': ∀x∈l,Ok5 x:=fun x hx=>hl x (by simp[hx])
  show J (ra a (k::l)) (l.foldl A53.step (A53.step (a,b,c) k))
  rw[ra]
  unfold Kz A53.step
  unfold Ok5 at hk ho
  by_cases k0:k=0
  ·subst k0
   exact JB l a (a,b,c) ho (.inl ⟨rfl,h1,h2,h3,h4,h5⟩) hl'
  have e0:(k==0)=false:=beq_eq_false_iff_ne.2 k0
  simp only[e0,Bool.false_or,cond_false]
  have oR: ∀m:Int,(if k>a then k else a)=m→m≥k∧m≥a∧(m=k∨m=a):=by intro m h;split at h<;>omega
  generalize (if k>a then k else a)=m at oR
  obtain⟨m1,m2,m3⟩:=oR m rfl
  by_cases a0:a=0
  ·subst a0
   obtain⟨rfl,rfl⟩:=h2 rfl
   have e1:(k==0)=false:=e0
   simp only[e1,cond_false,BEq.rfl,cond_true,Bool.true_and,Bool.true_or]
   refine JB l k _ hk (.inl ⟨?_,.inl rfl,fun h=> ?_,fun h=> ?_,fun _ h=> ?_,fun h=>by cases h⟩) hl'
   ·show some k=some m;congr 1;omega
   ·exact absurd h (by show¬m=0;omega)
   ·simp only [Bool.or_eq_true, beq_iff_eq] at h
    show m=0∨m=2∨m=3;omega
   ·simp only [Bool.or_eq_true, beq_iff_eq]
    have h:m=2∨m=3:=h
    omega
  have ea:(a==0)=false:=beq_eq_false_iff_ne.2 a0
  by_cases ka:k=a
  ·subst ka
   simp only[BEq.rfl,cond_true,ea,Bool.false_or,Bool.and_true]
   obtain rfl:m=k:=by omega
   refine JB l m _ hk (.inl ⟨rfl,?_,fun h=>absurd h a0,fun h=> ?_,fun hb h=> ?_,h5⟩) hl'
   ·cases b
    ·right
     have:=h5 rfl
     subst this
     simp only[Bool.and_eq_true]
     exact⟨by simpa using h1,rfl⟩
    ·exact .inl rfl
   ·simp only[Bool.and_eq_true]at h;exact h3 h.1
   ·have h : m = 2 ∨ m = 3 := h
    simp only[Bool.and_eq_true,Bool.or_eq_true,beq_iff_eq]
    exact⟨h4 hb h,h⟩
  have eka:(k==a)=false:=beq_eq_false_iff_ne.2 ka
  have eak:(a==k)=false:=beq_eq_false_iff_ne.2 (fun h=>ka h.symm)
  simp only[eka,eak,ea,cond_false,Bool.or_false,Bool.and_false]
  by_cases hn:(a=2∨a=3)∧(k=2∨k=3)
  ·have e1 : ZW a = true := by unfold ZW; simp only [Bool.or_eq_true, beq_iff_eq]; omega
   have e2:ZW k=true:=by unfold ZW;simp only[Bool.or_eq_true,beq_iff_eq];omega
   have e3:(k==2||k==3)=true:=by simp only[Bool.or_eq_true,beq_iff_eq];omega
   have hc:c=true:=by
    cases hb:b
    ·rw[hb]at h1;simpa using h1
    ·exact h4 hb hn.1
   simp only[e1,e2,e3,Bool.and_self,cond_true,hc]
   have hm3:m=3:=by omega
   subst hm3
   exact JB l 3 _ (by unfold Ok5;omega) (.inl ⟨rfl,.inr rfl,(fun h=>by cases h),(fun _=> .inr (.inr rfl)),(fun _ _=>rfl),(fun _=>rfl)⟩) hl'
  ·have e1:(ZW a&&ZW k)=false:=by
    cases hx:ZW a&&ZW k
    ·rfl
    ·unfold ZW at hx;simp only[Bool.and_eq_true,Bool.or_eq_true,beq_iff_eq]at hx;omega
   simp only[e1,cond_false]
   have hc:(c&&(k==2||k==3))=false:=by
    cases hx:c&&(k==2||k==3)
    ·rfl
    ·simp only [Bool.and_eq_true, Bool.or_eq_true, beq_iff_eq] at hx
     have:=h3 hx.1
     omega
   rw[hc]
   obtain⟨d1,d2⟩:=dead l (m,false,false) rfl rfl
   exact .inr ⟨rfl,d1,d2⟩
theorem cn {l:List Int} (h: ∀k∈l,Ok5 k):(zG l).2=(A53.res l).2∧((A53.res l).2=true→(zG l).1=(A53.res l).1):=by
 have:=JB l 0 (0,true,true) (.inl rfl) (.inl ⟨rfl,.inl rfl,fun _=>⟨rfl,rfl⟩,(fun _=> .inl rfl),(fun _ h=>by rcases h with h|h<;>cases h),(fun h=>by cases h)⟩) h
 unfold zG A53.res
 rcases this with⟨e,h1,_⟩|⟨e,h1,h2⟩
 ·rw [e]
  have:((A53.alike l).2.1||(A53.alike l).2.2)=true:=by simp only[Bool.or_eq_true];exact h1
  rw[this]
  exact⟨rfl,fun _=>rfl⟩
 ·rw [e]
  have:((A53.alike l).2.1||(A53.alike l).2.2)=false:=by simp only[Bool.or_eq_false_iff];exact⟨h1,h2⟩
  rw[this]
  exact⟨rfl,fun h=>by cases h⟩
def wG (s:ByteArray) (l:List Int):Int×Int:=
 bif l.any A14L0.bad then rP false 0 else
 bif eqU s.data.toList [97,98,115]then rP (A14.num l) (l.headD 0)else
 bif eqU s.data.toList [99,101,105,108]then rP (A14.num l) 2 else
 bif eqU s.data.toList [102,108,111,111,114]then rP (A14.num l) 2 else
 bif eqU s.data.toList [114,111,117,110,100]then rP (A14.num l) 2 else
 bif eqU s.data.toList [115,105,103,110]then rP (A14.num l) 2 else
 bif eqU s.data.toList [116,111,105,110,116]then rP (A14.num l) 2 else
 bif eqU s.data.toList [116,111,100,101,99]then rP (A14.num l) 3 else
 bif eqU s.data.toList [99,111,97,108,101,115,99,101]then rP ((zG l).2&&decide (Int.ofNat l.length≥1)) (zG l).1 else
 bif eqU s.data.toList [103,114,101,97,116,101,115,116]then rP ((zG l).2&&decide (Int.ofNat l.length≥1)) (zG l).1 else
 bif eqU s.data.toList [108,101,97,115,116]then rP ((zG l).2&&decide (Int.ofNat l.length≥1)) (zG l).1 else
 bif eqU s.data.toList [99,111,110,99,97,116]then rP (l.foldl (fun b k=>b&&A14L1.ok1 k) (decide (Int.ofNat l.length≥1))) 4 else
 bif eqU s.data.toList [108,101,110,103,116,104]then rP (A14.txt l) 2 else
 bif eqU s.data.toList [108,111,119,101,114]then rP (A14.txt l) 4 else
 bif eqU s.data.toList [116,114,105,109]then rP (A14.txt l) 4 else
 bif eqU s.data.toList [117,112,112,101,114]then rP (A14.txt l) 4 else
 bif eqU s.data.toList [110,117,108,108,105,102]then rP ((zG l).2&&Int.ofNat l.length==2) (l.headD 0)else
 bif eqU s.data.toList [115,117,98,115,116,114]then rP (A14.sub l) 4 else
 bif eqU s.data.toList [116,111,116,101,120,116]then rP (Int.ofNat l.length==1) 4 else
 rP false 0
theorem nN {a b c d:Int} {x y z:Bool} (h1:x=y) (h2:y=true→a=b):rP (x&&z) a=rP (y&&z) b:=by
 subst h1
 cases x
 ·rfl
 ·rw[h2 rfl]
theorem QP (s:ByteArray) (l:List Int):wG s l=kA s l:=by
 unfold wG kA
 cases hb:l.any A14L0.bad
 rotate_left
 ·rfl
 obtain⟨h1,h2⟩:=cn (ck hb)
 have h3:rP ((zG l).2&&decide (Int.ofNat l.length≥1)) (zG l).1=rP ((A53.res l).2&&decide (Int.ofNat l.length≥1)) (A53.res l).1:=nN (c:=0) (d:=0) h1 h2
 have h4:rP ((zG l).2&&Int.ofNat l.length==2) (l.headD 0)=rP (Int.ofNat l.length==2&&(A53.res l).2) (l.headD 0):=by rw[h1,Bool.and_comm]
 rw[h3,h4]
 simp only[cond_false]
 cases KG:eqU s.data.toList [97,98,115]
 rotate_left
 ·obtain rfl := zO KG
  rfl
 cases Qv:eqU s.data.toList [99,101,105,108]
 rotate_left
 ·obtain rfl := zO Qv
  rfl
 cases xL:eqU s.data.toList [102,108,111,111,114]
 rotate_left
 ·obtain rfl := zO xL
  rfl
 cases xR:eqU s.data.toList [114,111,117,110,100]
 rotate_left
 ·obtain rfl := zO xR
  rfl
 cases Qq:eqU s.data.toList [115,105,103,110]
 rotate_left
 ·obtain rfl := zO Qq
  rfl
 cases xH:eqU s.data.toList [116,111,105,110,116]
 rotate_left
 ·obtain rfl := zO xH
  rfl
 cases xI:eqU s.data.toList [116,111,100,101,99]
 rotate_left
 ·obtain rfl := zO xI
  rfl
 cases jP:eqU s.data.toList [99,111,97,108,101,115,99,101]
 rotate_left
 ·obtain rfl := zO jP
  rfl
 cases jU:eqU s.data.toList [103,114,101,97,116,101,115,116]
 rotate_left
 ·obtain rfl := zO jU
  rfl
 cases QD:eqU s.data.toList [108,101,97,115,116]
 rotate_left
 ·obtain rfl := zO QD
  rfl
 cases yB:eqU s.data.toList [99,111,110,99,97,116]
 rotate_left
 ·obtain rfl := zO yB
  rfl
 cases yh:eqU s.data.toList [108,101,110,103,116,104]
 rotate_left
 ·obtain rfl := zO yh
  rfl
 cases QV:eqU s.data.toList [108,111,119,101,114]
 rotate_left
 ·obtain rfl := zO QV
  rfl
 cases KL:eqU s.data.toList [116,114,105,109]
 rotate_left
 ·obtain rfl := zO KL
  rfl
 cases QK:eqU s.data.toList [117,112,112,101,114]
 rotate_left
 ·obtain rfl := zO QK
  rfl
 cases yx:eqU s.data.toList [110,117,108,108,105,102]
 rotate_left
 ·obtain rfl := zO yx
  rfl
 cases yA:eqU s.data.toList [115,117,98,115,116,114]
 rotate_left
 ·obtain rfl := zO yA
  rfl
 cases yi:eqU s.data.toList [116,111,116,101,120,116]
 rotate_left
 ·obtain rfl := zO yi
  rfl
 simp only[cond_false]
def zQ (k n:Int):W3×Int:=if k=0 then(v0,0)else if k=2 then(if n≤922337203685477∧n≥ -922337203685477 then((3,wr (n*10000),⟨#[]⟩),0)else(v0,20))else if k=3 then((3,n,⟨#[]⟩),0)else(v0,22)
theorem jo {k n:Int} (hn:inR n=true):zQ k n=A75.kl k n:=by
 obtain⟨n1,n2⟩:=yV.1 hn
 unfold zQ A75.kl
 by_cases h0:k=0
 ·rw[if_pos h0,if_pos h0]
 rw[if_neg h0,if_neg h0]
 by_cases h2:k=2
 ·subst h2
  rw[if_pos rfl,if_pos (show (2:Int)=2∨(2:Int)=3 from .inl rfl)]
  have e:A127.dec 2 n=A127i.dec n:=rfl
  rw[e]
  unfold A127i.dec
  by_cases h:n≤922337203685477∧n≥ -922337203685477
  ·rw[if_pos h,if_neg (show¬(18446744073709551616≤n*10000∨n*10000≤ -18446744073709551616)by omega),if_pos (by simp only[Bool.and_eq_true,decide_eq_true_eq];omega)]
  ·rw[if_neg h,if_neg (by simp only[Bool.and_eq_true,decide_eq_true_eq];omega)]
 ·by_cases h3 : k = 3
  ·subst h3
   rw[if_neg h2,if_pos rfl,if_pos (show (3:Int)=2∨(3:Int)=3 from .inr rfl)]
   rfl
  ·rw[if_neg h2,if_neg h3,if_neg (by omega)]
theorem XK (x:Int):inR (wr x)=true:=by
 rw[yV]
 unfold wr
 rw[IntKind.wrap_i64];omega
def kD (k n:Int):Int×Int:=if k=2 then(n,0)else if n.tmod 10000<0 then(wr (wr (n.tdiv 10000) - 1),wr (n.tmod 10000+10000))else(wr (n.tdiv 10000),n.tmod 10000)
def lO (k0 n0 k1 n1:Int):Int:=if A131.wW (kD k0 n0).1 (kD k1 n1).1≠0 then A131.wW (kD k0 n0).1 (kD k1 n1).1 else A131.wW (kD k0 n0).2 (kD k1 n1).2
def YR (a b:List UInt8):Int:=if ltU a b=true then -1 else if ltU b a=true then 1 else 0
def isNum (k:Int):Bool:=k==2||k==3
def zx (k0 n0:Int) (s0:ByteArray) (k1 n1:Int) (s1:ByteArray):Int×Bool:=
 if isNum k0=true∧isNum k1=true then(lO k0 n0 k1 n1,true)else if k0=4∧k1=4 then(YR s0.data.toList s1.data.toList,true)else if k0=1∧k1=1 then(A131.wW n0 n1,true)else(0,false)
theorem Kf {k n:Int} (hk:k=2∨k=3) (hn:inR n=true):(k=2→kD k n=(n,0))∧(k=3→n=10000*(kD k n).1+(kD k n).2∧0≤(kD k n).2∧(kD k n).2<10000):=by
 obtain⟨n1,n2⟩:=yV.1 hn
 obtain⟨q1,q2,q3,q4,q5⟩:=quot n
 refine⟨fun h=>by unfold kD;rw[if_pos h],fun h=> ?_⟩
 unfold kD
 rw[if_neg (by omega),V0 (show -9223372036854775808≤n.tdiv 10000 by omega) (by omega)]
 split
 ·rw [V0 (by omega) (by omega), V0 (by omega) (by omega)]
  show n=10000*(n.tdiv 10000 - 1)+(n.tmod 10000+10000)∧0≤n.tmod 10000+10000∧n.tmod 10000+10000<10000
  omega
 ·show n = 10000 * n.tdiv 10000 + n.tmod 10000 ∧ 0 ≤ n.tmod 10000 ∧ n.tmod 10000 < 10000
  omega
theorem xV (a b:Int):(a<b∧A131.wW a b= -1)∨(b<a∧A131.wW a b=1)∨(a=b∧A131.wW a b=0):=by
 unfold A131.wW
 by_cases h:a<b
 ·rw[if_pos h];exact .inl ⟨h,rfl⟩
 ·by_cases h2 : b < a
  ·rw[if_neg h,if_pos h2];exact .inr (.inl ⟨h2,rfl⟩)
  ·rw[if_neg h,if_neg h2];exact .inr (.inr ⟨by omega,rfl⟩)
theorem ZN {n d:Int} (hd:inR d=true):(10000*n<d∧A131.yY n d= -1)∨(d<10000*n∧A131.yY n d=1)∨(10000*n=d∧A131.yY n d=0):=by
 obtain⟨n1,n2⟩:=yV.1 hd
 obtain⟨q1,q2,q3,q4,q5⟩:=quot d
 have e:IntKind.wrap .i64 (Int.tdiv d 10000)=d.tdiv 10000:=V0 (by omega) (by omega)
 unfold A131.yY
 rw[e]
 split
 ·exact .inl ⟨by omega,rfl⟩
 ·split
  ·exact .inr (.inl ⟨by omega,rfl⟩)
  ·rcases xV 0 (d.tmod 10000) with ⟨h, e⟩ | ⟨h, e⟩ | ⟨h, e⟩
   ·exact .inl ⟨by omega,e⟩
   ·exact .inr (.inl ⟨by omega,e⟩)
   ·exact .inr (.inr ⟨by omega,e⟩)
theorem mA {k0 n0 k1 n1:Int} (h0:k0=2∨k0=3) (h1:k1=2∨k1=3) (hn0:inR n0=true) (hn1:inR n1=true):lO k0 n0 k1 n1=A131.num k0 n0 k1 n1:=by
 obtain⟨a1,a2⟩:=Kf h0 hn0
 obtain⟨b1,b2⟩:=Kf h1 hn1
 unfold lO A131.num
 generalize kD k0 n0=p at a1 a2
 generalize kD k1 n1=q at b1 b2
 obtain⟨w,f⟩:=p
 obtain⟨x,g⟩:=q
 simp only[Prod.mk.injEq]at a1 a2 b1 b2 ⊢
 have c1:=xV w x
 have c2:=xV f g
 have c3:=xV n0 n1
 have c4:=ZN (n:=n0) hn1
 have c5:=ZN (n:=n1) hn0
 generalize A131.wW w x=r1 at c1 ⊢
 generalize A131.wW f g=r2 at c2 ⊢
 generalize A131.wW n0 n1=r3 at c3 ⊢
 generalize A131.yY n0 n1=r4 at c4 ⊢
 generalize A131.yY n1 n0=r5 at c5 ⊢
 rcases h0 with rfl|rfl<;>rcases h1 with rfl|rfl
 ·rw [if_pos rfl]
  have:=a1 rfl;have:=b1 rfl
  split<;>omega
 ·rw [if_neg (show ¬ ((2 : Int) = 3) by decide), if_neg (show ¬ ((2 : Int) = 3) by decide)]
  have:=a1 rfl;have:=b2 rfl
  split<;>omega
 ·rw [if_neg (show ¬ ((3 : Int) = 2) by decide), if_pos rfl]
  have:=a2 rfl;have:=b1 rfl
  split<;>omega
 ·rw [if_pos rfl]
  have:=a2 rfl;have:=b2 rfl
  split<;>omega
theorem YJ: ∀(a b:List UInt8),YR a b=Lib.compareBytes a b
 |[],[]=>rfl
 |[],_::_=>rfl
 |_::_,[]=>rfl
 |x::a,y::b=>by
  have ih:=YJ a b
  unfold YR at ih ⊢
  rw[Lib.compareBytes,←ih]
  have e1:ltU (x::a) (y::b)=(Nat.blt x.toNat y.toNat||(Nat.beq x.toNat y.toNat&&ltU a b)):=rfl
  have e2:ltU (y::b) (x::a)=(Nat.blt y.toNat x.toNat||(Nat.beq y.toNat x.toNat&&ltU b a)):=rfl
  rw[e1,e2]
  have bl: ∀m n:Nat,Nat.blt m n=decide (m<n):=fun m n=>by
   cases h:Nat.blt m n
   ·exact(decide_eq_false (fun hh=>by rw[show Nat.blt m n=true from by rw[Nat.blt_eq];exact hh]at h;cases h)).symm
   ·rw[Nat.blt_eq]at h;exact(decide_eq_true h).symm
  have be: ∀m n:Nat,Nat.beq m n=decide (m=n):=fun m n=>by
   cases h:Nat.beq m n
   ·exact(decide_eq_false (fun hh=>by subst hh;rw[Nat.beq_refl]at h;cases h)).symm
   ·exact(decide_eq_true (Nat.eq_of_beq_eq_true h)).symm
  rw[bl,bl,be,be]
  by_cases h1:x<y
  ·have h1' : x.toNat < y.toNat := h1
   rw[if_pos h1,decide_eq_true h1'];rfl
  ·have h1' : ¬ x.toNat < y.toNat := h1
   rw[if_neg h1,decide_eq_false h1']
   by_cases h2:y<x
   ·have h2' : y.toNat < x.toNat := h2
    rw[if_pos h2,decide_eq_true h2',decide_eq_false (show¬x.toNat=y.toNat by omega)];rfl
   ·have h2' : ¬ y.toNat < x.toNat := h2
    rw[if_neg h2,decide_eq_false h2',decide_eq_true (show x.toNat=y.toNat by omega),decide_eq_true (show y.toNat=x.toNat by omega)]
    simp
theorem xS {k0 n0:Int} {s0:ByteArray} {k1 n1:Int} {s1:ByteArray} (hn0:inR n0=true) (hn1:inR n1=true):zx k0 n0 s0 k1 n1 s1=A76.compare k0 n0 s0 k1 n1 s1:=by
 have rk: ∀k:Int,(k<0∧A129.wz k=4)∨(5≤k∧A129.wz k=4)∨(k=0∧A129.wz k=0)∨(k=1∧A129.wz k=1)∨(k=2∧A129.wz k=2)∨(k=3∧A129.wz k=2)∨(k=4∧A129.wz k=3):=by
  intro k;unfold A129.wz;repeat' split
  all_goals omega
 have nm: ∀k:Int,isNum k=true↔k=2∨k=3:=by intro k;unfold isNum;simp
 have r0:=rk k0
 have r1:=rk k1
 unfold zx A76.compare
 simp only[nm]
 by_cases c1:(k0=2∨k0=3)∧(k1=2∨k1=3)
 ·rw[if_pos c1,if_neg (by omega),if_neg (by omega),if_pos (by omega),mA c1.1 c1.2 hn0 hn1]
 rw[if_neg c1]
 by_cases c2:k0=4∧k1=4
 ·rw[if_pos c2,if_neg (by omega),if_neg (by omega),if_neg (by omega),if_pos (by omega),YJ]
 rw[if_neg c2]
 by_cases c3:k0=1∧k1=1
 ·rw[if_pos c3,if_neg (by omega),if_pos (by omega)]
 rw[if_neg c3]
 by_cases c4:A129.wz k0=A129.wz k1
 ·rw[if_neg (by simpa using c4),if_neg (by omega),if_neg (by omega),if_neg (by omega)]
 ·rw[if_pos c4]
def kO:List W3→List W3×Int
 |[]=>([],0)
 |v::l=>if(zQ v.1 v.2.1).2≠0 then([],(zQ v.1 v.2.1).2)else if(kO l).2≠0 then([],(kO l).2)else((zQ v.1 v.2.1).1::(kO l).1,0)
def jr (s:ByteArray) (jc v:W3):Bool:=bif eqU s.data.toList [99,111,97,108,101,115,99,101]then jc.1==0 else
 (eqU s.data.toList [103,114,101,97,116,101,115,116]&&decide ((zx v.1 v.2.1 v.2.2 jc.1 jc.2.1 jc.2.2).1>0))||(eqU s.data.toList [108,101,97,115,116]&&decide ((zx v.1 v.2.1 v.2.2 jc.1 jc.2.1 jc.2.2).1<0))
def wF (s:ByteArray) (l:List W3):W3:=l.tail.foldl (fun b v=>bif jr s b v then v else b) (l.headD v0)
def yr (s:ByteArray) (kind:Int) (l:List W3):W3×Int:=bif kind==3 then(bif(kO l).2 != 0 then(v0,(kO l).2)else(wF s (kO l).1,0))else(wF s l,0)
def conv (kind:Int) (v:W3):W3:=bif kind==3 then(A75.kl v.1 v.2.1).1 else v
def err (kind:Int) (v:W3):Bool:=kind==3&&(v.1 != 0&&(A75.kl v.1 v.2.1).2 != 0)
theorem JO {k n:Int} (h:k=0∨k=2∨k=3) (he:(A75.kl k n).2≠0):(A75.kl k n).2=20:=by
 unfold A75.kl at he ⊢
 split
 ·rename_i h0;rw[if_pos h0]at he;exact absurd rfl he
 ·rename_i h0
  rw[if_neg h0]at he
  rw[if_pos (by omega)]at he ⊢
  split
  ·rename_i h1;rw[if_pos h1]at he;exact absurd rfl he
  ·rfl
theorem go_eq (s:ByteArray) (kind:Int): ∀(l:List W3) (p:Bool×W3),(kind=3→ ∀v∈l,v.1=0∨v.1=2∨v.1=3)→
  (l.any (err kind)=true→(A34L1.go s kind p l).1=20)∧(l.any (err kind)=false→A34L1.go s kind p l=(0,(((l.filter fun v=>v.1 != 0).map (conv kind)).foldl (A34L1.pick s) p).2))
 |[],p,_=>⟨(fun h=>by cases h),fun _=>rfl⟩
 |v::l,p,hk=>by
  have hl:kind=3→ ∀v∈l,v.1=0∨v.1=2∨v.1=3:=fun h x hx=>hk h x (by simp[hx])
  rw[A34L1.go,List.any_cons,List.filter_cons]
  cases hz:v.1==0
  ·have hz' : (v.1 != 0) = true := by unfold bne; rw [hz]; rfl
   simp only[cond_false,hz',if_true,List.map_cons,List.foldl_cons]
   cases h3:kind==3
   ·have e1 : err kind v = false := by unfold err; rw [h3]; rfl
    have e2:conv kind v=v:=by unfold conv;rw[h3];rfl
    rw[e1,e2,Bool.false_or]
    exact go_eq s kind l _ hl
   ·have e1 : err kind v = ((A75.kl v.1 v.2.1).2 != 0) := by unfold err; rw [h3, hz']; rfl
    have e2:conv kind v=(A75.kl v.1 v.2.1).1:=by unfold conv;rw[h3];rfl
    rw[e1,e2]
    simp only[cond_true]
    cases hd:(A75.kl v.1 v.2.1).2 != 0
    ·rw [Bool.false_or]
     exact go_eq s kind l _ hl
    ·refine ⟨fun _ => ?_, fun h => by cases h⟩
     show (A75.kl v.1 v.2.1).2=20
     exact JO (hk (beq_iff_eq.1 h3) v (by simp)) (bne_iff_ne.1 hd)
  ·have hz' : (v.1 != 0) = false := by unfold bne; rw [hz]; rfl
   have e1:err kind v=false:=by unfold err;rw[hz'];simp
   rw[e1,Bool.false_or]
   simp only[cond_true,hz',Bool.false_eq_true,if_false]
   exact go_eq s kind l p hl
theorem Qh: ∀(l:List W3),(∀v∈l,inR v.2.1=true∧(v.1=0∨v.1=2∨v.1=3))→
  (l.any (err 3)=true→kO l=([],20))∧(l.any (err 3)=false→kO l=(l.map (conv 3),0))
 |[],_=>⟨(fun h=>by cases h),fun _=>rfl⟩
 |v::l,h=>by
  obtain⟨h1,h2⟩:=h v (by simp)
  obtain⟨i1,i2⟩:=Qh l fun x hx=>h x (by simp[hx])
  rw[kO,jo h1,List.any_cons]
  have e2:conv 3 v=(A75.kl v.1 v.2.1).1:=rfl
  by_cases hd:(A75.kl v.1 v.2.1).2=0
  ·have e1 : err 3 v = false := by unfold err; rw [hd]; simp
   rw[e1,Bool.false_or,if_neg (by simpa using hd)]
   refine⟨fun ha=> ?_,fun ha=> ?_⟩
   ·rw[i1 ha];rfl
   ·rw[i2 ha,List.map_cons,e2];rfl
  ·have hz : v.1 ≠ 0 := fun h0 => by rw [h0] at hd; exact hd rfl
   have e1:err 3 v=true:=by unfold err;rw[bne_iff_ne.2 hz,bne_iff_ne.2 hd];rfl
   rw[e1,Bool.true_or,if_pos hd,JO h2 hd]
   exact⟨fun _=>rfl,fun h=>by cases h⟩
theorem VM (s:ByteArray) (hc:eqU s.data.toList [99,111,97,108,101,115,99,101]=false): ∀(l:List W3) (b:W3),inR b.2.1=true→(∀v∈l,inR v.2.1=true)→(l.foldl (A34L1.pick s) (true,b)).2=l.foldl (fun b v=>bif jr s b v then v else b) b
 |[],b,_,_=>rfl
 |v::l,b,hb,hl=>by
  have hv:=hl v (by simp)
  have hl': ∀v∈l,inR v.2.1=true:=fun x hx=>hl x (by simp[hx])
  have e:A34L1.pick s (true,b) v=(true,bif jr s b v then v else b):=by
   unfold A34L1.pick A34L1.better jr
   rw[hc,xS hv hb]
   simp only[cond_false,Bool.not_true,Bool.false_or]
   cases (eqU s.data.toList [103,114,101,97,116,101,115,116]&&decide ((A76.compare v.1 v.2.1 v.2.2 b.1 b.2.1 b.2.2).1>0))||(eqU s.data.toList [108,101,97,115,116]&&decide ((A76.compare v.1 v.2.1 v.2.2 b.1 b.2.1 b.2.2).1<0))<;>rfl
  rw[List.foldl_cons,e,List.foldl_cons]
  refine VM s hc l _ ?_ hl'
  cases jr s b v
  ·exact hb
  ·exact hv
theorem VK {s:ByteArray} (hc:eqU s.data.toList [99,111,97,108,101,115,99,101]=true): ∀(l:List W3) (b:W3),(l.foldl (A34L1.pick s) (true,b)).2=b
 |[],b=>rfl
 |v::l,b=>by
  obtain rfl:=zO hc
  have e:A34L1.pick ⟨#[99,111,97,108,101,115,99,101]⟩ (true,b) v=(true,b):=rfl
  rw[List.foldl_cons,e]
  exact VK hc l b
theorem J8 {s:ByteArray} (hc:eqU s.data.toList [99,111,97,108,101,115,99,101]=true): ∀(l:List W3) (b:W3),b.1≠0→l.foldl (fun b v=>bif jr s b v then v else b) b=b
 |[],b,_=>rfl
 |v::l,b,hb=>by
  have e:jr s b v=false:=by unfold jr;rw[hc];exact beq_eq_false_iff_ne.2 hb
  rw[List.foldl_cons,e]
  exact J8 hc l b hb
theorem aI {s:ByteArray} (hc:eqU s.data.toList [99,111,97,108,101,115,99,101]=true): ∀(l:List W3),(∀v∈l,v.1=0→v=v0)→((l.filter fun v=>v.1 != 0).foldl (A34L1.pick s) (false,v0)).2=l.foldl (fun b v=>bif jr s b v then v else b) v0
 |[],_=>rfl
 |v::l,h=>by
  have hl: ∀v∈l,v.1=0→v=v0:=fun x hx=>h x (by simp[hx])
  have e:jr s v0 v=true:=by unfold jr;rw[hc];rfl
  rw[List.filter_cons,List.foldl_cons,e]
  by_cases hz:v.1=0
  ·have hz' : (v.1 != 0) = false := by rw [hz]; rfl
   rw[hz']
   simp only[Bool.false_eq_true,if_false,cond_true]
   rw[h v (by simp) hz]
   exact aI hc l hl
  ·have hz' : (v.1 != 0) = true := bne_iff_ne.2 hz
   rw[hz']
   simp only[if_true,cond_true,List.foldl_cons]
   have e2:A34L1.pick s (false,v0) v=(true,v):=by obtain rfl:=zO hc;rfl
   rw[e2,VK hc,J8 hc l v hz]
theorem aZ {s:ByteArray} (hc:eqU s.data.toList [99,111,97,108,101,115,99,101]=true): ∀(l:List W3),wF s l=l.foldl (fun b v=>bif jr s b v then v else b) v0
 |[]=>rfl
 |v::l=>by
  have e:jr s v0 v=true:=by unfold jr;rw[hc];rfl
  rw[List.foldl_cons,e];rfl
theorem Zx {kind:Int}: ∀(l:List W3),(∀v∈l,((conv kind v).1=0↔v.1=0))→(l.filter fun v=>v.1 != 0).map (conv kind)=(l.map (conv kind)).filter fun v=>v.1 != 0
 |[],_=>rfl
 |v::l,h=>by
  have ih:=Zx l fun x hx=>h x (by simp[hx])
  have hv:=h v (by simp)
  rw[List.filter_cons,List.map_cons,List.filter_cons]
  by_cases hz:v.1=0
  ·have a : (v.1 != 0) = false := by rw [hz]; rfl
   have b:((conv kind v).1 != 0)=false:=by rw[hv.2 hz];rfl
   rw[a,b];simpa using ih
  ·have a : (v.1 != 0) = true := bne_iff_ne.2 hz
   have b:((conv kind v).1 != 0)=true:=bne_iff_ne.2 fun h=>hz (hv.1 h)
   rw[a,b]
   simp only[if_true,List.map_cons,ih]
theorem bf {kind:Int} {v:W3} (ho:A33.okv v.1 v.2.1 v.2.2=true) (hin:inR v.2.1=true) (hk:v.1=0∨v.1=kind∨(kind=3∧(v.1=2∨v.1=3))) (he:err kind v=false):((conv kind v).1=0↔v.1=0)∧((conv kind v).1=0→conv kind v=v0)∧inR (conv kind v).2.1=true:=by
 have nul:v.1=0→v=v0:=by
  obtain⟨k,n,s⟩:=v
  intro h
  simp only at h
  subst h
  have h2:(n==0&&eqU s.data.toList [])=true:=ho
  simp only[Bool.and_eq_true,beq_iff_eq]at h2
  rw[h2.1,zO (l:=[]) h2.2];rfl
 unfold conv err at*
 cases h3:kind==3
 ·exact⟨Iff.rfl,nul,hin⟩
 ·have h3' := beq_iff_eq.1 h3
  rw[h3]at he
  simp only[cond_true]
  by_cases hz:v.1=0
  ·rw[nul hz];exact⟨Iff.rfl,fun _=>rfl,rfl⟩
  ·have h2 : v.1 = 2 ∨ v.1 = 3 := by omega
   have hd:(A75.kl v.1 v.2.1).2=0:=by
    rw[bne_iff_ne.2 hz]at he
    exact bne_eq_false_iff_eq.1 he
   have d:=dW h2 hd
   refine⟨⟨(fun h=>by rw[d.1]at h;cases h),fun h=>absurd h hz⟩,(fun h=>by rw[d.1]at h;cases h),?_⟩
   unfold A75.kl at hd ⊢
   rw[if_neg (by omega),if_pos h2]at hd ⊢
   split
   ·rcases h2 with e | e
    ·rw [e]
     show inR (A127i.dec v.2.1).1=true
     unfold A127i.dec
     dsimp only
     split
     ·rfl
     ·exact XK _
    ·rw[e];exact hin
   ·rfl
theorem Ja (s:ByteArray) (l:List W3) (hok: ∀v∈l,A33.okv v.1 v.2.1 v.2.2=true) (hin: ∀v∈l,inR v.2.1=true) (h5: ∀k∈ks l,Ok5 k) (hr:(A53.res (ks l)).2=true) (hne:l≠[])
  (hs:eqU s.data.toList [99,111,97,108,101,115,99,101]=true∨(eqU s.data.toList [99,111,97,108,101,115,99,101]=false∧(ks l).any (· ==0)=false)):yr s (A53.res (ks l)).1 l=kn s l:=by
 have hfit: ∀v∈l,v.1=0∨v.1=(A53.res (ks l)).1∨((A53.res (ks l)).1=3∧(v.1=2∨v.1=3)):=fun v hv=>bm h5 hr v.1 (List.mem_map_of_mem hv)
 unfold kn A34.jc
 have ek:(l.map (·.1))=ks l:=rfl
 rw[ek]
 generalize (A53.res (ks l)).1=kind at hfit ⊢
 have hk3:kind=3→ ∀v∈l,v.1=0∨v.1=2∨v.1=3:=fun h v hv=>by have:=hfit v hv;omega
 obtain⟨g1,g2⟩:=go_eq s kind l (false,0,0,⟨#[]⟩) hk3
 unfold yr
 cases he:l.any (err kind)
 ·have g := g2 he
  have hcn: ∀v∈l,((conv kind v).1=0↔v.1=0)∧((conv kind v).1=0→conv kind v=v0)∧inR (conv kind v).2.1=true:=fun v hv=>bf (hok v hv) (hin v hv) (hfit v hv) (by have:=List.any_eq_false.1 he v hv;simpa using this)
  have key:(((l.filter fun v=>v.1 != 0).map (conv kind)).foldl (A34L1.pick s) (false,0,0,⟨#[]⟩)).2=wF s (l.map (conv kind)):=by
   rw[Zx l fun v hv=>(hcn v hv).1]
   have hall: ∀u∈l.map (conv kind),∃v∈l,conv kind v=u:=fun u hu=>by obtain⟨v,a,b⟩:=List.mem_map.1 hu;exact⟨v,a,b⟩
   rcases hs with hc|⟨hc,hz⟩
   ·rw [aZ hc]
    exact aI hc _ fun u hu h0=>by
     obtain⟨v,a,rfl⟩:=hall u hu
     exact(hcn v a).2.1 h0
   ·have hz' := Z3 hz
    have ef:(l.map (conv kind)).filter (fun v=>v.1 != 0)=l.map (conv kind):=List.filter_eq_self.2 fun u hu=>by
     obtain⟨v,a,rfl⟩:=hall u hu
     exact bne_iff_ne.2 fun h=>hz' v a ((hcn v a).1.1 h)
    rw[ef]
    cases l with
    |nil=>exact absurd rfl hne
    |cons v l=>
     rw[List.map_cons,List.foldl_cons]
     have e2:A34L1.pick s (false,0,0,⟨#[]⟩) (conv kind v)=(true,conv kind v):=by
      unfold A34L1.pick A34L1.better;rfl
     rw[e2,VM s hc _ _ (hcn v (by simp)).2.2 fun u hu=>by
      obtain⟨x,a,rfl⟩:=List.mem_map.1 hu
      exact(hcn x (by simp[a])).2.2]
     rfl
  rw[g,key]
  cases h3:kind==3
  ·have:l.map (conv kind)=l:=by
    have:(conv kind)=id:=by funext v;unfold conv;rw[h3];rfl
    rw[this,List.map_id]
   rw[this];rfl
  ·have h3' := beq_iff_eq.1 h3
   subst h3'
   rw[(Qh l fun v hv=>⟨hin v hv,hk3 rfl v hv⟩).2 he];rfl
 ·have g := g1 he
  have h3:kind=3:=by
   obtain⟨v,_,h⟩:=List.any_eq_true.1 he
   unfold err at h
   simp only[Bool.and_eq_true,beq_iff_eq]at h
   exact h.1
  subst h3
  rw[(Qh l fun v hv=>⟨hin v hv,hk3 rfl v hv⟩).1 he,g]
  rfl
end
section
open Go Go.Proofs.YtaiokpmmjbiajaaGreatDoorDx.Fit
def kh (s:ByteArray) (n:Int):Int:=
 bif eqU s.data.toList [102,108,111,111,114]then(bif decide (n.tmod 10000<0)then wr (wr (n.tdiv 10000) - 1)else wr (n.tdiv 10000))else
 bif eqU s.data.toList [99,101,105,108]then(bif decide (n.tmod 10000>0)then wr (wr (n.tdiv 10000)+1)else wr (n.tdiv 10000))else
 bif eqU s.data.toList [114,111,117,110,100]then(bif decide (n.tmod 10000≥5000)then(bif decide (n.tmod 10000≤ -5000)then wr (wr (wr (n.tdiv 10000)+1) - 1)else wr (wr (n.tdiv 10000)+1))else(bif decide (n.tmod 10000≤ -5000)then wr (wr (n.tdiv 10000) - 1)else wr (n.tdiv 10000)))else
 wr (n.tdiv 10000)
def kC (s:ByteArray) (v:W3):W3×Int:=
 bif eqU s.data.toList [97,98,115]then(bif v.2.1== -9223372036854775808 then(v0,20)else((v.1,(if wr (0 - v.2.1)>v.2.1 then wr (0 - v.2.1)else v.2.1),⟨#[]⟩),0))else
 bif eqU s.data.toList [115,105,103,110]then((2,Kq v.2.1,⟨#[]⟩),0)else
 bif eqU s.data.toList [116,111,100,101,99]then zQ v.1 v.2.1 else
 bif v.1==2 then(v,0)else((2,kh s v.2.1,⟨#[]⟩),0)
theorem abs_eq {v:W3} (hk:v.1=2∨v.1=3) (hs:v.2.2=⟨#[]⟩) (hn:inR v.2.1=true):kC ⟨#[97,98,115]⟩ v=bif decide (v.2.1<0)then A79.xi v.1 v.2.1 else(v,0):=by
 obtain⟨k,n,s⟩:=v
 simp only at hk hs hn
 subst hs
 obtain⟨n1,n2⟩:=yV.1 hn
 show (bif n== -9223372036854775808 then(v0,(20:Int))else((k,(if wr (0 - n)>n then wr (0 - n)else n),⟨#[]⟩),0))=bif decide (n<0)then A79.xi k n else((k,n,⟨#[]⟩),0)
 have hk0: ¬k=0:=by omega
 have eN:A79.xi k n=(if n=IntKind.wrap .i64 (0 - n)∧n≠0 then(v0,20)else((k,IntKind.wrap .i64 (0 - n),⟨#[]⟩),0)):=by
  unfold A79.xi
  rw[if_neg hk0,if_pos hk]
 rw[eN]
 by_cases h1:n= -9223372036854775808
 ·subst h1
  rw[if_pos (show (-9223372036854775808:Int)=IntKind.wrap .i64 (0 - -9223372036854775808)∧(-9223372036854775808:Int)≠0 by decide)]
  rfl
 ·have e : wr (0 - n) = 0 - n := V0 (by omega) (by omega)
  have e':IntKind.wrap .i64 (0 - n)=0 - n:=e
  rw[beq_eq_false_iff_ne.2 h1,e']
  simp only[e,cond_false]
  by_cases h2:n<0
  ·rw[decide_eq_true h2,if_pos (show 0 - n>n by omega),if_neg (show¬(n=0 - n∧n≠0)by omega)];rfl
  ·rw [decide_eq_false h2]
   simp only[cond_false]
   have:(if 0 - n>n then 0 - n else n)=n:=by split<;>omega
   rw[this]
theorem X6 {s:ByteArray} {v:W3} (hk:v.1=2∨v.1=3) (hn:inR v.2.1=true) (hs:s=⟨#[99,101,105,108]⟩∨s=⟨#[102,108,111,111,114]⟩∨s=⟨#[114,111,117,110,100]⟩):kC s v=yX s v:=by
 obtain⟨k,n,t⟩:=v
 simp only at hk hn
 obtain⟨n1,n2⟩:=yV.1 hn
 obtain⟨q1,q2,q3,q4,q5⟩:=quot n
 have e:IntKind.wrap .i64 (0 - n.tmod 10000)=0 - n.tmod 10000:=V0 (by omega) (by omega)
 have key:kh s n=A80.rnd s n:=by
  unfold kh A80.rnd
  rcases hs with rfl|rfl|rfl
  ·show (bif decide (n.tmod 10000 > 0) then wr (wr (n.tdiv 10000) + 1) else wr (n.tdiv 10000)) = (bif (true && decide (Int.tmod n 10000 > 0)) || (false && decide (Int.tmod n 10000 ≥ 5000)) then _ else bif (false && decide (Int.tmod n 10000 < 0)) || (false && decide (IntKind.wrap .i64 (0 - Int.tmod n 10000) ≥ 5000)) then _ else _)
   simp only[Bool.true_and,Bool.false_and,Bool.or_false,cond_false]
  ·show (bif decide (n.tmod 10000 < 0) then wr (wr (n.tdiv 10000) - 1) else wr (n.tdiv 10000)) = (bif (false && decide (Int.tmod n 10000 > 0)) || (false && decide (Int.tmod n 10000 ≥ 5000)) then _ else bif (true && decide (Int.tmod n 10000 < 0)) || (false && decide (IntKind.wrap .i64 (0 - Int.tmod n 10000) ≥ 5000)) then _ else _)
   simp only[Bool.true_and,Bool.false_and,Bool.or_false,cond_false]
  ·show (bif decide (n.tmod 10000 ≥ 5000) then (bif decide (n.tmod 10000 ≤ -5000) then wr (wr (wr (n.tdiv 10000) + 1) - 1) else wr (wr (n.tdiv 10000) + 1)) else (bif decide (n.tmod 10000 ≤ -5000) then wr (wr (n.tdiv 10000) - 1) else wr (n.tdiv 10000))) = (bif (false && decide (Int.tmod n 10000 > 0)) || (true && decide (Int.tmod n 10000 ≥ 5000)) then _ else bif (false && decide (Int.tmod n 10000 < 0)) || (true && decide (IntKind.wrap .i64 (0 - Int.tmod n 10000) ≥ 5000)) then _ else _)
   simp only[Bool.true_and,Bool.false_and,Bool.false_or]
   rw[e]
   by_cases h1:n.tmod 10000≥5000
   ·rw[decide_eq_true h1,decide_eq_false (show¬n.tmod 10000≤ -5000 by omega)];rfl
   ·rw [decide_eq_false h1]
    by_cases h2:n.tmod 10000≤ -5000
    ·rw[decide_eq_true h2,decide_eq_true (show 0 - n.tmod 10000≥5000 by omega)];rfl
    ·rw[decide_eq_false h2,decide_eq_false (show¬0 - n.tmod 10000≥5000 by omega)];rfl
 have e0:kC s (k,n,t)=(bif k==2 then((k,n,t),0)else((2,kh s n,⟨#[]⟩),0)):=by rcases hs with rfl|rfl|rfl<;>rfl
 rw[e0,key];rfl
theorem cg {v:W3} (hk:v.1=2∨v.1=3) (hs:v.2.2=⟨#[]⟩):kC ⟨#[116,111,105,110,116]⟩ v=A82.WA v.1 v.2.1:=by
 obtain⟨k,n,s⟩:=v
 simp only at hk hs
 subst hs
 rcases hk with rfl|rfl<;>rfl
end
section
open Go Go.Proofs.YtaiokpmmjbiajaaGreatDoorDx.Fit Go.Proofs.YtaiokpmmjbiajaaGreatDoorU8 Go.Proofs.YtaiokpmmjbiajaaGreatDoorTxt
def Zs:List UInt8→List W3→Option (List UInt8)
 |out,[]=>some out
 |out,v::l=>if(out++v.2.2.data.toList).length>1024 then none else Zs (out++v.2.2.data.toList) l
def QF (l:List W3):W3×Int:=match Zs [] l with
 |none=>(v0,20)
 |some out=>kJ ⟨out.toArray⟩
theorem Xn: ∀(l:List W3) (a:ByteArray),(l.foldl (fun s v=>A37L0.bu s v.2.2) a).data.toList=a.data.toList++l.flatMap (fun v=>v.2.2.data.toList)
 |[],a=>by simp
 |v::l,a=>by rw[List.foldl_cons,Xn l,aQ,List.flatMap_cons,List.append_assoc]
theorem Yz: ∀(l:List W3) (out:List UInt8),(Zs out l=none∧(out++l.flatMap (fun v=>v.2.2.data.toList)).length>1024)∨Zs out l=some (out++l.flatMap (fun v=>v.2.2.data.toList))
 |[],out=> .inr (by simp[Zs])
 |v::l,out=>by
  rw[Zs,List.flatMap_cons,←List.append_assoc]
  split
  ·left
   refine⟨rfl,?_⟩
   rw[List.length_append];omega
  ·exact Yz l _
theorem bq (l:List W3):QF l=kJ (A37L0.cat l):=by
 have hd:(A37L0.cat l).data.toList=l.flatMap (fun v=>v.2.2.data.toList):=by
  have:=Xn l ⟨#[]⟩
  exact this.trans (List.nil_append _)
 unfold QF
 rcases Yz l []with⟨h1,h2⟩|h1
 ·rw [h1]
  rw[List.nil_append]at h2
  unfold kJ
  rw[hd,decide_eq_true (show Int.ofNat (l.flatMap fun v=>v.2.2.data.toList).length>1024 by show ((l.flatMap fun v=>v.2.2.data.toList).length:Int)>1024;omega)];rfl
 ·rw[h1,List.nil_append,←hd]
def kg (b:UInt8):Bool:=decide (128≤b.toNat)&&decide (b.toNat<192)
def vJ:Nat→List UInt8→List (List UInt8)
 |0,_=>[]
 |_+1,[]=>[]
 |n+1,b::l=>(b::l.takeWhile kg)::vJ n (l.dropWhile kg)
def pieces (l:List UInt8):List (List UInt8):=vJ l.length l
theorem JC {x:Int} (h:wJ x): ∃b t,enc x=b::t∧kg b=false∧t.all kg=true:=by
 have hh:=Qk h
 have ct: ∀{n:Nat},128≤n→n<192→kg (UInt8.ofNat n)=true:=by intro n h1 h2;unfold kg;rw[tn (by omega)];simp[h1,h2]
 have cf: ∀{n:Nat},n<256→(n<128∨192≤n)→kg (UInt8.ofNat n)=false:=by
  intro n h1 h2;unfold kg;rw[tn h1];simp;omega
 unfold wJ at h
 by_cases c1:x<128
 ·rw [if_pos c1] at hh
  exact⟨_,_,hh,cf (by omega) (by omega),rfl⟩
 by_cases c2:x<2048
 ·rw [if_neg c1, if_pos c2] at hh
  refine⟨_,_,hh,cf (by omega) (by omega),?_⟩
  simp only[List.all_cons,List.all_nil,Bool.and_true]
  exact ct (by omega) (by omega)
 by_cases c3:x<65536
 ·rw [if_neg c1, if_neg c2, if_pos c3] at hh
  refine⟨_,_,hh,cf (by omega) (by omega),?_⟩
  simp only[List.all_cons,List.all_nil,Bool.and_true,Bool.and_eq_true]
  exact⟨ct (by omega) (by omega),ct (by omega) (by omega)⟩
 ·rw [if_neg c1, if_neg c2, if_neg c3] at hh
  refine⟨_,_,hh,cf (by omega) (by omega),?_⟩
  simp only[List.all_cons,List.all_nil,Bool.and_true,Bool.and_eq_true]
  exact⟨ct (by omega) (by omega),ct (by omega) (by omega),ct (by omega) (by omega)⟩
theorem vZ {p:UInt8→Bool}: ∀{t r:List UInt8},t.all p=true→(∀b r',r=b::r'→p b=false)→(t++r).takeWhile p=t∧(t++r).dropWhile p=r
 |[],r,_,hr=>by
  cases r with
  |nil=>exact⟨rfl,rfl⟩
  |cons b r'=>
   have:=hr b r' rfl
   simp[List.takeWhile,List.dropWhile,this]
 |x::t,r,h,hr=>by
  simp only[List.all_cons,Bool.and_eq_true]at h
  obtain⟨a,b⟩:=vZ h.2 hr
  simp only[List.cons_append,List.takeWhile,List.dropWhile,h.1,a,b]
  exact⟨trivial,trivial⟩
theorem ZM: ∀(p:List Int) (n:Nat),(∀x∈p,wJ x)→(u8s p).length≤n→vJ n (u8s p)=p.map enc
 |[],n,_,_=>by cases n<;>rfl
 |x::p,n,h,hn=>by
  obtain⟨b,t,e,h1,h2⟩:=JC (h x (by simp))
  rw[vq,e]at hn ⊢
  have pc: ∀c r,u8s p=c::r→kg c=false:=by
   intro c r hc
   cases p with
   |nil=>cases hc
   |cons y q=>
    obtain⟨b',t',e',h1',h2'⟩:=JC (h y (by simp))
    rw[vq,e']at hc
    cases hc
    exact h1'
  obtain⟨a1,a2⟩:=vZ h2 pc
  cases n with
  |zero=>simp at hn
  |succ n=>
   rw[List.cons_append,vJ,a1,a2,List.map_cons,e,ZM p n (fun y hy=>h y (by simp[hy])) (by simp at hn;omega)]
theorem Ky (p:List Int) (h: ∀x∈p,wJ x):pieces (u8s p)=p.map enc:=ZM p _ h (Nat.le_refl _)
theorem length_eq (s:ByteArray) (h:Lib.validD s.data.toList=true):Int.ofNat (pieces s.data.toList).length=Int.ofNat (Lib.runeCount s):=by
 obtain⟨p,h1,h2⟩:=V6 h
 rw[dB h2,XV,Ky p h1,count_eq p h1,List.length_map]
def kT (l:List (List UInt8)) (a:Int):Int:=max 0 (min a (Int.ofNat l.length))
def ZP (l:List (List UInt8)) (a b:Int):Int:=max 0 (min b (Int.ofNat l.length - kT l a))
def jx (s:ByteArray) (a b:Int):List UInt8:=(((pieces s.data.toList).drop (kT (pieces s.data.toList) a).toNat).take (ZP (pieces s.data.toList) a b).toNat).flatten
theorem bE (s:ByteArray) (h:Lib.validD s.data.toList=true) (a b:Int):(⟨(jx s a b).toArray⟩:ByteArray)=jS s a b:=by
 obtain⟨p,h1,h2⟩:=V6 h
 have hs:=dB h2
 subst hs
 rw[dP p h1]
 unfold jx T
 rw[List.toList_toArray,Ky p h1]
 have e1:(kT (p.map enc) a).toNat=_root_.Go.Proofs.YtaiokpmmjbiajaaGreatDoorTxt.from_ p a:=by
  unfold kT _root_.Go.Proofs.YtaiokpmmjbiajaaGreatDoorTxt.from_
  rw[List.length_map]
  show (max 0 (min a (p.length:Int))).toNat=_
  omega
 have e2:(ZP (p.map enc) a b).toNat=_root_.Go.Proofs.YtaiokpmmjbiajaaGreatDoorTxt.cnt p a b:=by
  unfold ZP kT _root_.Go.Proofs.YtaiokpmmjbiajaaGreatDoorTxt.cnt
  rw[List.length_map]
  show (max 0 (min b ((p.length:Int) - max 0 (min a (p.length:Int))))).toNat=_
  omega
 rw[e1,e2,←List.map_drop,←List.map_take]
 rfl
def ab (l:List UInt8):List UInt8:=Lib.trimRightB (Lib.trimLeftB l 32) 32
theorem b7 (p:UInt8→Bool) (a:List UInt8) (x:UInt8):(a++[x]).dropWhile p=if a.all p=true then(if p x=true then[]else[x])else a.dropWhile p++[x]:=by
 induction a with
 |nil=>simp[List.dropWhile];cases p x<;>simp
 |cons y a ih=>
  rw[List.cons_append,List.dropWhile_cons,List.dropWhile_cons,List.all_cons,ih]
  cases hy:p y<;>simp
theorem cH {p:UInt8→Bool}: ∀{a:List UInt8},a.all p=true→a.dropWhile p=[]
 |[],_=>rfl
 |x::a,h=>by
  simp only[List.all_cons,Bool.and_eq_true]at h
  rw[List.dropWhile_cons,h.1]
  exact cH h.2
theorem VS (p:UInt8→Bool): ∀l:List UInt8,((l.reverse.dropWhile p).reverse).dropWhile p=((l.dropWhile p).reverse.dropWhile p).reverse
 |[]=>rfl
 |x::l=>by
  have ih:=VS p l
  rw[List.reverse_cons,b7,List.dropWhile_cons]
  cases hx:p x
  ·simp only [Bool.false_eq_true, if_false]
   rw[List.reverse_cons,b7]
   simp only[hx,Bool.false_eq_true,if_false]
   split
   ·simp[List.dropWhile,hx]
   ·rw[List.reverse_append,List.reverse_singleton,List.singleton_append,List.dropWhile_cons,hx];simp
  ·simp only [if_true]
   rw[←ih]
   split
   ·rename_i ha
    rw[cH ha]
   ·rw[List.reverse_append,List.reverse_singleton,List.singleton_append,List.dropWhile_cons,hx];simp
theorem gy (l:List UInt8):ab l=Lib.trimB l 32:=(VS (· ==32) l).symm
def nS (fr tw:Int) (c:UInt8):UInt8:=if fr≤(c.toNat:Int)∧(c.toNat:Int)≤fr+25 then UInt8.ofNat ((c.toNat:Int) - fr+tw).toNat else c
def wC (fr tw:Int) (s:ByteArray):ByteArray:=⟨(s.data.toList.map (nS fr tw)).toArray⟩
theorem eF (s:ByteArray):wC 65 97 s=wH 65 90 32 s:=by
 unfold wC wH
 congr 2
 refine List.map_congr_left fun c _=> ?_
 unfold nS one
 have:=c.toNat_lt
 by_cases h:(65:Int)≤(c.toNat:Int)∧(c.toNat:Int)≤90
 ·rw [if_pos (by omega), if_pos h]
  congr 1;omega
 ·rw[if_neg (by omega),if_neg h]
theorem eZ (s:ByteArray):wC 97 65 s=wH 97 122 (-32) s:=by
 unfold wC wH
 congr 2
 refine List.map_congr_left fun c _=> ?_
 unfold nS one
 have:=c.toNat_lt
 by_cases h:(97:Int)≤(c.toNat:Int)∧(c.toNat:Int)≤122
 ·rw [if_pos (by omega), if_pos h]
  congr 1;omega
 ·rw[if_neg (by omega),if_neg h]
def j9 (s:ByteArray) (l:List W3):W3×Int:=
 let t:=(l.headD v0).2.2
 bif eqU s.data.toList [99,111,110,99,97,116]then QF l else
 bif eqU s.data.toList [108,101,110,103,116,104]then((2,Int.ofNat (pieces t.data.toList).length,⟨#[]⟩),0)else
 bif eqU s.data.toList [108,111,119,101,114]then kJ (wC 65 97 t)else
 bif eqU s.data.toList [117,112,112,101,114]then kJ (wC 97 65 t)else
 bif eqU s.data.toList [116,114,105,109]then kJ ⟨(ab t.data.toList).toArray⟩else
 kJ ⟨(jx t (l.getD 1 v0).2.1 (l.getD 2 v0).2.1).toArray⟩
def same (a b:W3):Bool:=A35.tru (bif a.1==0||b.1==0 then 0 else 1) (bif(zx a.1 a.2.1 a.2.2 b.1 b.2.1 b.2.2).2&&(zx a.1 a.2.1 a.2.2 b.1 b.2.1 b.2.2).1==0 then 1 else 0)
def yO (s:ByteArray) (l:List W3):W3×Int:=
 bif(wG s (l.map (·.1))).2 != 0 then(v0,(wG s (l.map (·.1))).2)else
 bif l.any A10L1.bad then(v0,22)else
 bif eqU s.data.toList [110,117,108,108,105,102]then(bif same (l.headD v0) (l.getD 1 v0)then(v0,0)else(l.headD v0,0))else
 bif(l.map (·.1)).any (· ==0)&& !eqU s.data.toList [99,111,97,108,101,115,99,101]then(v0,0)else
 bif eqU s.data.toList [99,111,97,108,101,115,99,101]then yr s (wG s (l.map (·.1))).1 l else
 bif eqU s.data.toList [103,114,101,97,116,101,115,116]then yr s (wG s (l.map (·.1))).1 l else
 bif eqU s.data.toList [108,101,97,115,116]then yr s (wG s (l.map (·.1))).1 l else
 bif eqU s.data.toList [97,98,115]then kC s (l.headD v0)else
 bif eqU s.data.toList [99,101,105,108]then kC s (l.headD v0)else
 bif eqU s.data.toList [102,108,111,111,114]then kC s (l.headD v0)else
 bif eqU s.data.toList [114,111,117,110,100]then kC s (l.headD v0)else
 bif eqU s.data.toList [115,105,103,110]then kC s (l.headD v0)else
 bif eqU s.data.toList [116,111,100,101,99]then kC s (l.headD v0)else
 bif eqU s.data.toList [116,111,105,110,116]then kC s (l.headD v0)else
 bif eqU s.data.toList [116,111,116,101,120,116]then(bif(l.headD v0).1==4 then(l.headD v0,0)else kJ (j8 (l.headD v0).1 (l.headD v0).2.1 (l.headD v0).2.2))else
 j9 s l
theorem fC (s:ByteArray) (l:List W3) (hin: ∀v∈l,inR v.2.1=true):yO s l=zR s l:=by
 unfold yO zR
 rw[QP]
 cases hk:(kA s (l.map (·.1))).2 != 0
 rotate_left
 ·rfl
 have hk:=bne_eq_false_iff_eq.1 hk
 simp only[cond_false]
 cases fb:l.any A10L1.bad
 rotate_left
 ·rfl
 have hok:=XU fb
 simp only[cond_false]
 have hb5:(ks l).any A14L0.bad=false:=by
  cases hb:(ks l).any A14L0.bad
  ·rfl
  ·unfold kA at hk
   rw[show (l.map (·.1)).any A14L0.bad=true from hb]at hk
   cases hk
 have h5:=ck hb5
 have bJ:inR (l.headD v0).2.1=true:=by cases l with
  |nil=>rfl
  |cons v l=>exact hin v (by simp)
 have sE:inR (l.getD 1 v0).2.1=true:=by match l with
  |[]=>rfl
  |[_]=>rfl
  |v::u::l=>exact hin u (by simp)
 have qK:=hk
 have hkp:=VG s (ks l)
 unfold kA at qK
 rw[show (l.map (·.1)).any A14L0.bad=false from hb5]at qK
 simp only[cond_false]at qK
 cases KG:eqU s.data.toList [97,98,115]
 rotate_left
 ·obtain rfl := zO KG
  have qK:(rP (A14.num (ks l)) ((ks l).headD 0)).2=0:=qK
  obtain⟨hn,hkd⟩:=rP0 qK
  clear hkp qK hk KG
  show (bif(ks l).any (· ==0)&&true then(v0,0)else kC ⟨#[97,98,115]⟩ (l.headD v0))=(bif(ks l).any (· ==0)then(v0,0)else(bif decide ((l.headD v0).2.1<0)then A79.xi (l.headD v0).1 (l.headD v0).2.1 else(l.headD v0,0)))
  cases hz:(ks l).any (· ==0)
  rotate_left
  ·rfl
  obtain⟨v,rfl,h2,hs⟩:=one_num hok hn hz
  exact abs_eq h2 hs bJ
 simp only[KG,cond_false]at qK
 cases Qv:eqU s.data.toList [99,101,105,108]
 rotate_left
 ·obtain rfl := zO Qv
  have qK:(rP (A14.num (ks l)) 2).2=0:=qK
  obtain⟨hn,hkd⟩:=rP0 qK
  clear hkp qK hk Qv
  show (bif(ks l).any (· ==0)&&true then(v0,0)else kC ⟨#[99,101,105,108]⟩ (l.headD v0))=(bif(ks l).any (· ==0)then(v0,0)else yX ⟨#[99,101,105,108]⟩ (l.headD v0))
  cases hz:(ks l).any (· ==0)
  rotate_left
  ·rfl
  obtain⟨v,rfl,h2,hs⟩:=one_num hok hn hz
  exact X6 h2 bJ (.inl rfl)
 simp only[Qv,cond_false]at qK
 cases xL:eqU s.data.toList [102,108,111,111,114]
 rotate_left
 ·obtain rfl := zO xL
  have qK:(rP (A14.num (ks l)) 2).2=0:=qK
  obtain⟨hn,hkd⟩:=rP0 qK
  clear hkp qK hk xL
  show (bif(ks l).any (· ==0)&&true then(v0,0)else kC ⟨#[102,108,111,111,114]⟩ (l.headD v0))=(bif(ks l).any (· ==0)then(v0,0)else yX ⟨#[102,108,111,111,114]⟩ (l.headD v0))
  cases hz:(ks l).any (· ==0)
  rotate_left
  ·rfl
  obtain⟨v,rfl,h2,hs⟩:=one_num hok hn hz
  exact X6 h2 bJ (.inr (.inl rfl))
 simp only[xL,cond_false]at qK
 cases xR:eqU s.data.toList [114,111,117,110,100]
 rotate_left
 ·obtain rfl := zO xR
  have qK:(rP (A14.num (ks l)) 2).2=0:=qK
  obtain⟨hn,hkd⟩:=rP0 qK
  clear hkp qK hk xR
  show (bif(ks l).any (· ==0)&&true then(v0,0)else kC ⟨#[114,111,117,110,100]⟩ (l.headD v0))=(bif(ks l).any (· ==0)then(v0,0)else yX ⟨#[114,111,117,110,100]⟩ (l.headD v0))
  cases hz:(ks l).any (· ==0)
  rotate_left
  ·rfl
  obtain⟨v,rfl,h2,hs⟩:=one_num hok hn hz
  exact X6 h2 bJ (.inr (.inr rfl))
 simp only[xR,cond_false]at qK
 cases Qq:eqU s.data.toList [115,105,103,110]
 rotate_left
 ·obtain rfl := zO Qq
  have qK:(rP (A14.num (ks l)) 2).2=0:=qK
  obtain⟨hn,hkd⟩:=rP0 qK
  clear hkp qK hk Qq
  show (bif(ks l).any (· ==0)&&true then(v0,0)else kC ⟨#[115,105,103,110]⟩ (l.headD v0))=(bif(ks l).any (· ==0)then(v0,0)else((2,Kq (l.headD v0).2.1,⟨#[]⟩),0))
  cases hz:(ks l).any (· ==0)
  rotate_left
  ·rfl
  rfl
 simp only[Qq,cond_false]at qK
 cases xH:eqU s.data.toList [116,111,105,110,116]
 rotate_left
 ·obtain rfl := zO xH
  have qK:(rP (A14.num (ks l)) 2).2=0:=qK
  obtain⟨hn,hkd⟩:=rP0 qK
  clear hkp qK hk xH
  show (bif(ks l).any (· ==0)&&true then(v0,0)else kC ⟨#[116,111,105,110,116]⟩ (l.headD v0))=(bif(ks l).any (· ==0)then(v0,0)else A82.WA (l.headD v0).1 (l.headD v0).2.1)
  cases hz:(ks l).any (· ==0)
  rotate_left
  ·rfl
  obtain⟨v,rfl,h2,hs⟩:=one_num hok hn hz
  exact cg h2 hs
 simp only[xH,cond_false]at qK
 cases xI:eqU s.data.toList [116,111,100,101,99]
 rotate_left
 ·obtain rfl := zO xI
  have qK:(rP (A14.num (ks l)) 3).2=0:=qK
  obtain⟨hn,hkd⟩:=rP0 qK
  clear hkp qK hk xI
  show (bif(ks l).any (· ==0)&&true then(v0,0)else kC ⟨#[116,111,100,101,99]⟩ (l.headD v0))=(bif(ks l).any (· ==0)then(v0,0)else A75.kl (l.headD v0).1 (l.headD v0).2.1)
  cases hz:(ks l).any (· ==0)
  rotate_left
  ·rfl
  exact jo bJ
 simp only[xI,cond_false]at qK
 cases jP:eqU s.data.toList [99,111,97,108,101,115,99,101]
 rotate_left
 ·obtain rfl := zO jP
  have qK:(rP ((A53.res (ks l)).2&&decide (Int.ofNat (ks l).length≥1)) (A53.res (ks l)).1).2=0:=qK
  obtain⟨hn,hkd⟩:=rP0 qK
  clear hkp qK hk jP
  simp only[Bool.and_eq_true,decide_eq_true_eq]at hn
  have hne:l≠[]:=fun e=>by subst e;exact absurd hn.2 (by decide)
  have hkd:(kA ⟨#[99,111,97,108,101,115,99,101]⟩ (l.map (·.1))).1=(A53.res (ks l)).1:=by
   unfold kA
   rw[show (l.map (·.1)).any A14L0.bad=false from hb5]
   exact hkd
  show (bif(ks l).any (· ==0)&&false then(v0,0)else yr ⟨#[99,111,97,108,101,115,99,101]⟩ (kA ⟨#[99,111,97,108,101,115,99,101]⟩ (l.map (·.1))).1 l)=kn ⟨#[99,111,97,108,101,115,99,101]⟩ l
  rw[Bool.and_false,hkd]
  exact Ja _ l hok hin h5 hn.1 hne (.inl rfl)
 simp only[jP,cond_false]at qK
 cases jU:eqU s.data.toList [103,114,101,97,116,101,115,116]
 rotate_left
 ·obtain rfl := zO jU
  have qK:(rP ((A53.res (ks l)).2&&decide (Int.ofNat (ks l).length≥1)) (A53.res (ks l)).1).2=0:=qK
  obtain⟨hn,hkd⟩:=rP0 qK
  clear hkp qK hk jU
  simp only[Bool.and_eq_true,decide_eq_true_eq]at hn
  have hne:l≠[]:=fun e=>by subst e;exact absurd hn.2 (by decide)
  have hkd:(kA ⟨#[103,114,101,97,116,101,115,116]⟩ (l.map (·.1))).1=(A53.res (ks l)).1:=by
   unfold kA
   rw[show (l.map (·.1)).any A14L0.bad=false from hb5]
   exact hkd
  show (bif(ks l).any (· ==0)&&true then(v0,0)else yr ⟨#[103,114,101,97,116,101,115,116]⟩ (kA ⟨#[103,114,101,97,116,101,115,116]⟩ (l.map (·.1))).1 l)=(bif(ks l).any (· ==0)then(v0,0)else kn ⟨#[103,114,101,97,116,101,115,116]⟩ l)
  cases hz:(ks l).any (· ==0)
  rotate_left
  ·rfl
  rw[hkd]
  exact Ja _ l hok hin h5 hn.1 hne (.inr ⟨rfl,hz⟩)
 simp only[jU,cond_false]at qK
 cases QD:eqU s.data.toList [108,101,97,115,116]
 rotate_left
 ·obtain rfl := zO QD
  have qK:(rP ((A53.res (ks l)).2&&decide (Int.ofNat (ks l).length≥1)) (A53.res (ks l)).1).2=0:=qK
  obtain⟨hn,hkd⟩:=rP0 qK
  clear hkp qK hk QD
  simp only[Bool.and_eq_true,decide_eq_true_eq]at hn
  have hne:l≠[]:=fun e=>by subst e;exact absurd hn.2 (by decide)
  have hkd:(kA ⟨#[108,101,97,115,116]⟩ (l.map (·.1))).1=(A53.res (ks l)).1:=by
   unfold kA
   rw[show (l.map (·.1)).any A14L0.bad=false from hb5]
   exact hkd
  show (bif(ks l).any (· ==0)&&true then(v0,0)else yr ⟨#[108,101,97,115,116]⟩ (kA ⟨#[108,101,97,115,116]⟩ (l.map (·.1))).1 l)=(bif(ks l).any (· ==0)then(v0,0)else kn ⟨#[108,101,97,115,116]⟩ l)
  cases hz:(ks l).any (· ==0)
  rotate_left
  ·rfl
  rw[hkd]
  exact Ja _ l hok hin h5 hn.1 hne (.inr ⟨rfl,hz⟩)
 simp only[QD,cond_false]at qK
 cases yx:eqU s.data.toList [110,117,108,108,105,102]
 rotate_left
 ·obtain rfl := zO yx
  have qK:(rP (Int.ofNat (ks l).length==2&&(A53.res (ks l)).2) ((ks l).headD 0)).2=0:=qK
  obtain⟨hn,hkd⟩:=rP0 qK
  clear hkp qK hk yx
  show (bif same (l.headD v0) (l.getD 1 v0)then(v0,0)else(l.headD v0,0))=_
  unfold same
  rw[xS bJ sE];rfl
 simp only[yx,cond_false]at qK
 cases yB:eqU s.data.toList [99,111,110,99,97,116]
 rotate_left
 ·obtain rfl := zO yB
  have qK:(rP ((ks l).foldl (fun b k=>b&&A14L1.ok1 k) (decide (Int.ofNat (ks l).length≥1))) 4).2=0:=qK
  obtain⟨hn,hkd⟩:=rP0 qK
  clear hkp qK hk yB
  show (bif(ks l).any (· ==0)&&true then(v0,0)else QF l)=(bif(ks l).any (· ==0)then(v0,0)else kJ (A37L0.cat l))
  cases hz:(ks l).any (· ==0)
  rotate_left
  ·rfl
  exact bq l
 simp only[yB,cond_false]at qK
 cases yh:eqU s.data.toList [108,101,110,103,116,104]
 rotate_left
 ·obtain rfl := zO yh
  have qK:(rP (A14.txt (ks l)) 2).2=0:=qK
  obtain⟨hn,hkd⟩:=rP0 qK
  clear hkp qK hk yh
  show (bif(ks l).any (· ==0)&&true then(v0,0)else((2,Int.ofNat (pieces (l.headD v0).2.2.data.toList).length,⟨#[]⟩),0))=(bif(ks l).any (· ==0)then(v0,0)else((2,Int.ofNat (Lib.runeCount (l.headD v0).2.2),⟨#[]⟩),0))
  cases hz:(ks l).any (· ==0)
  rotate_left
  ·rfl
  obtain⟨v,rfl,h4,h6,h7⟩:=gU hok hn hz
  simp only[Bool.false_and,cond_false]
  have:=length_eq v.2.2 h7
  show ((2,Int.ofNat (pieces v.2.2.data.toList).length,(⟨#[]⟩:ByteArray)),(0:Int))=((2,Int.ofNat (Lib.runeCount v.2.2),⟨#[]⟩),0)
  rw[this]
 simp only[yh,cond_false]at qK
 cases QV:eqU s.data.toList [108,111,119,101,114]
 rotate_left
 ·obtain rfl := zO QV
  have qK:(rP (A14.txt (ks l)) 4).2=0:=qK
  obtain⟨hn,hkd⟩:=rP0 qK
  clear hkp qK hk QV
  show (bif(ks l).any (· ==0)&&true then(v0,0)else kJ (wC 65 97 (l.headD v0).2.2))=(bif(ks l).any (· ==0)then(v0,0)else kJ (_root_.Go.Proofs.YtaiokpmmjbiajaaGreatDoorTxt.wH 65 90 32 (l.headD v0).2.2))
  cases hz:(ks l).any (· ==0)
  rotate_left
  ·rfl
  rw[eF];rfl
 simp only[QV,cond_false]at qK
 cases QK:eqU s.data.toList [117,112,112,101,114]
 rotate_left
 ·obtain rfl := zO QK
  have qK:(rP (A14.txt (ks l)) 4).2=0:=qK
  obtain⟨hn,hkd⟩:=rP0 qK
  clear hkp qK hk QK
  show (bif(ks l).any (· ==0)&&true then(v0,0)else kJ (wC 97 65 (l.headD v0).2.2))=(bif(ks l).any (· ==0)then(v0,0)else kJ (_root_.Go.Proofs.YtaiokpmmjbiajaaGreatDoorTxt.wH 97 122 (-32) (l.headD v0).2.2))
  cases hz:(ks l).any (· ==0)
  rotate_left
  ·rfl
  rw[eZ];rfl
 simp only[QK,cond_false]at qK
 cases KL:eqU s.data.toList [116,114,105,109]
 rotate_left
 ·obtain rfl := zO KL
  have qK:(rP (A14.txt (ks l)) 4).2=0:=qK
  obtain⟨hn,hkd⟩:=rP0 qK
  clear hkp qK hk KL
  show (bif(ks l).any (· ==0)&&true then(v0,0)else kJ ⟨(ab (l.headD v0).2.2.data.toList).toArray⟩)=(bif(ks l).any (· ==0)then(v0,0)else kJ ⟨(Lib.trimB (l.headD v0).2.2.data.toList 32).toArray⟩)
  cases hz:(ks l).any (· ==0)
  rotate_left
  ·rfl
  rw[gy];rfl
 simp only[KL,cond_false]at qK
 cases yi:eqU s.data.toList [116,111,116,101,120,116]
 rotate_left
 ·obtain rfl := zO yi
  have qK:(rP (Int.ofNat (ks l).length==1) 4).2=0:=qK
  obtain⟨hn,hkd⟩:=rP0 qK
  clear hkp qK hk yi
  show (bif(ks l).any (· ==0)&&true then(v0,0)else(bif(l.headD v0).1==4 then(l.headD v0,0)else kJ (j8 (l.headD v0).1 (l.headD v0).2.1 (l.headD v0).2.2)))=(bif(ks l).any (· ==0)then(v0,0)else(bif(l.headD v0).1==4 then(l.headD v0,0)else kJ (j8 (l.headD v0).1 (l.headD v0).2.1 (l.headD v0).2.2)))
  rw[Bool.and_true]
 simp only[yi,cond_false]at qK
 cases yA:eqU s.data.toList [115,117,98,115,116,114]
 rotate_left
 ·obtain rfl := zO yA
  have qK:(rP (A14.sub (ks l)) 4).2=0:=qK
  obtain⟨hn,hkd⟩:=rP0 qK
  clear hkp qK hk yA
  show (bif(ks l).any (· ==0)&&true then(v0,0)else kJ ⟨(jx (l.headD v0).2.2 (l.getD 1 v0).2.1 (l.getD 2 v0).2.1).toArray⟩)=(bif(ks l).any (· ==0)then(v0,0)else kJ (_root_.Go.Proofs.YtaiokpmmjbiajaaGreatDoorTxt.jS (l.headD v0).2.2 (l.getD 1 v0).2.1 (l.getD 2 v0).2.1))
  cases hz:(ks l).any (· ==0)
  rotate_left
  ·rfl
  obtain⟨a,b,c,e,ha⟩:=XY hn
  cases l with
  |nil=>cases e
  |cons v l=>
   have ea:v.1=a:=(List.cons.inj e).1
   have:=Z3 hz v (by simp)
   have e4:v.1=4:=by omega
   have ho:=hok v (by simp)
   rw[e4]at ho
   have:=bE v.2.2 (Zn ho).2.2 ((v::l).getD 1 v0).2.1 ((v::l).getD 2 v0).2.1
   show kJ ⟨(jx v.2.2 ((v::l).getD 1 v0).2.1 ((v::l).getD 2 v0).2.1).toArray⟩=kJ (_root_.Go.Proofs.YtaiokpmmjbiajaaGreatDoorTxt.jS v.2.2 ((v::l).getD 1 v0).2.1 ((v::l).getD 2 v0).2.1)
   rw[this]
 simp only[yA,cond_false]at qK
 cases qK
end
end Go.Proofs.YtaiokpmmjbiajaaGreatDoorDx.Ref
namespace Go.Proofs.YtaiokpmmjbiajaaGreatDoorDx.Ari
section
open Go Go.Proofs Go.Proofs.YtaiokpmmjbiajaaGreatDoorDx.Fit
def bad (k:Int):Bool:= !(k==0||(k==2||k==3))
def ofV (k:Int) (p:Int×Bool):W3×Int:=bif p.2 then((k,p.1,⟨#[]⟩),0)else(v0,20)
def Vr (a b:Int):Int×Bool:=(IntKind.wrap .i64 (a+b),!(decide (a<0)==decide (b<0))||(decide (IntKind.wrap .i64 (a+b)<0)==decide (a<0)))
def Vm (a b:Int):Int×Bool:=(IntKind.wrap .i64 (a - b),(decide (a<0)==decide (b<0))||(decide (IntKind.wrap .i64 (a - b)<0)==decide (a<0)))
def j6 (f:Int→Int→Int×Bool) (a b:W3):W3×Int:=
 bif bad a.1||bad b.1 then(v0,22)else bif a.1==0||b.1==0 then(v0,0)else
 bif a.1==2&&b.1==2 then ofV 2 (f a.2.1 b.2.1)else
 bif(A127.dec a.1 a.2.1).2&&(A127.dec b.1 b.2.1).2 then ofV 3 (f (A127.dec a.1 a.2.1).1 (A127.dec b.1 b.2.1).1)else(v0,20)
theorem kinds (k:Int):k=0∨k=2∨k=3∨(bad k=true∧(k==0)=false∧(k==2)=false∧(k==3)=false∧(k != 0)=true):=by
 by_cases h0:k=0
 ·exact .inl h0
 by_cases h2:k=2
 ·exact .inr (.inl h2)
 by_cases h3:k=3
 ·exact .inr (.inr (.inl h3))
 have e0:=beq_eq_false_iff_ne.2 h0
 have e2:=beq_eq_false_iff_ne.2 h2
 have e3:=beq_eq_false_iff_ne.2 h3
 exact .inr (.inr (.inr ⟨by unfold bad;rw[e0,e2,e3];rfl,e0,e2,e3,bne_iff_ne.2 h0⟩))
def _root_.Go.Proofs.YtaiokpmmjbiajaaGreatDoorDx.Ref.zq (k k' n':Int) (div:Bool):Int×Bool:=
 bif bad k||bad k' then(22,true)else bif k==0||k'==0 then(0,true)else bif div&&n'==0 then(21,true)else(0,false)
def _root_.Go.Proofs.YtaiokpmmjbiajaaGreatDoorDx.Ref.zp (k n:Int):Int×Bool:=bif k==3 then(n,true)else(IntKind.wrap .i64 (n*10000),decide (n≤922337203685477)&&decide (n≥ -922337203685477))
def _root_.Go.Proofs.YtaiokpmmjbiajaaGreatDoorDx.Ref.Qj (a b:Int):Int×Bool:=(IntKind.wrap .i64 (a+b),!(decide (a>0)&&(decide (b>0)&&decide (IntKind.wrap .i64 (a+b)<0)))&& !(decide (a<0)&&(decide (b<0)&&decide (IntKind.wrap .i64 (a+b)≥0))))
def _root_.Go.Proofs.YtaiokpmmjbiajaaGreatDoorDx.Ref.jJ (a b:Int):Int×Bool:=(IntKind.wrap .i64 (a - b),!(decide (a≥0)&&(decide (b<0)&&decide (IntKind.wrap .i64 (a - b)<0)))&& !(decide (a<0)&&(decide (b>0)&&decide (IntKind.wrap .i64 (a - b)≥0))))
def _root_.Go.Proofs.YtaiokpmmjbiajaaGreatDoorDx.Ref.zeroV (k k' n':Int):Bool×Int:=bif bad k||bad k' then(false,22)else bif k==0||k'==0 then(true,0)else bif n'==0 then(false,21)else(false,0)
def xP (g:Int→Int→Int×Bool) (a b:W3):W3×Int:=
 bif(Ref.zq a.1 b.1 b.2.1 false).2 then(v0,(Ref.zq a.1 b.1 b.2.1 false).1)else
 bif a.1==2&&b.1==2 then ofV 2 (g a.2.1 b.2.1)else
 bif(Ref.zp a.1 a.2.1).2&&(Ref.zp b.1 b.2.1).2 then ofV 3 (g (Ref.zp a.1 a.2.1).1 (Ref.zp b.1 b.2.1).1)else(v0,20)
theorem vN {n:Int}:inR n=true↔ -9223372036854775808≤n∧n<9223372036854775808:=by
 unfold inR
 rw[Bool.and_eq_true,decide_eq_true_eq,decide_eq_true_eq]
theorem add_eq {a b:Int} (ha:inR a=true) (hb:inR b=true):Vr a b=Ref.Qj a b:=by
 have h1:=vN.1 ha
 have h2:=vN.1 hb
 unfold Vr Ref.Qj
 rw[IntKind.wrap_i64]
 congr 1
 rw[Bool.eq_iff_iff]
 simp only[Bool.or_eq_true,Bool.and_eq_true,Bool.not_eq_true',Bool.and_eq_false_iff,decide_eq_true_eq,decide_eq_false_iff_not,beq_iff_eq,beq_eq_false_iff_ne,ne_eq,decide_eq_decide]
 omega
theorem sub_eq {a b:Int} (ha:inR a=true) (hb:inR b=true):Vm a b=Ref.jJ a b:=by
 have h1:=vN.1 ha
 have h2:=vN.1 hb
 unfold Vm Ref.jJ
 rw[IntKind.wrap_i64]
 congr 1
 rw[Bool.eq_iff_iff]
 simp only[Bool.or_eq_true,Bool.and_eq_true,Bool.not_eq_true',Bool.and_eq_false_iff,decide_eq_true_eq,decide_eq_false_iff_not,beq_iff_eq,beq_eq_false_iff_ne,ne_eq,decide_eq_decide]
 omega
theorem jo {k n:Int} (hk:k=2∨k=3) (hn:inR n=true):(A127.dec k n).2=(Ref.zp k n).2∧((Ref.zp k n).2=true→(A127.dec k n).1=(Ref.zp k n).1∧inR (Ref.zp k n).1=true):=by
 have h1:=vN.1 hn
 rcases hk with rfl|rfl
 ·have e1 : A127.dec 2 n = A127i.dec n := rfl
  have e2:Ref.zp 2 n=(IntKind.wrap .i64 (n*10000),decide (n≤922337203685477)&&decide (n≥ -922337203685477)):=rfl
  rw[e1,e2]
  unfold A127i.dec
  dsimp only
  refine⟨?_,fun h=> ?_⟩
  ·rw [Bool.eq_iff_iff]
   simp only[Bool.and_eq_true,decide_eq_true_eq]
   omega
  ·simp only [Bool.and_eq_true, decide_eq_true_eq] at h
   rw[if_neg (by omega)]
   exact⟨rfl,vN.2 (by rw[IntKind.wrap_i64];omega)⟩
 ·exact⟨rfl,fun _=>⟨rfl,hn⟩⟩
theorem XS {f g:Int→Int→Int×Bool} (hfg: ∀a b,inR a=true→inR b=true→f a b=g a b) {a b:W3} (ha:inR a.2.1=true) (hb:inR b.2.1=true):j6 f a b=xP g a b:=by
 obtain⟨k,n,s⟩:=a
 obtain⟨k',n',s'⟩:=b
 dsimp only at ha hb
 unfold j6 xP Ref.zq
 dsimp only
 cases hb1:bad k||bad k'
 rotate_left
 ·rfl
 cases h0:k==0||k'==0
 rotate_left
 ·rfl
 simp only[cond_false,Bool.false_and]
 rw[Bool.or_eq_false_iff]at hb1 h0
 have hk:k=2∨k=3:=by
  rcases kinds k with rfl|h|h|⟨h,_⟩
  ·cases h0.1
  ·exact .inl h
  ·exact .inr h
  ·rw[hb1.1]at h;cases h
 have hk':k'=2∨k'=3:=by
  rcases kinds k' with rfl|h|h|⟨h,_⟩
  ·cases h0.2
  ·exact .inl h
  ·exact .inr h
  ·rw[hb1.2]at h;cases h
 cases hi:k==2&&k'==2
 rotate_left
 ·simp only [cond_true]
  rw[hfg _ _ ha hb]
 simp only[cond_false]
 obtain⟨d1,d2⟩:=jo hk ha
 obtain⟨d3,d4⟩:=jo hk' hb
 rw[d1,d3]
 cases hd:(Ref.zp k n).2&&(Ref.zp k' n').2
 ·rfl
 ·rw [Bool.and_eq_true] at hd
  obtain⟨x1,x2⟩:=d2 hd.1
  obtain⟨y1,y2⟩:=d4 hd.2
  simp only[cond_true]
  rw[x1,y1,hfg _ _ x2 y2]
def rem (a b:Int):Int:=bif b != -1 then Int.tmod a b else 0
def QQ (a b:W3):W3×Int:=
 bif(Ref.zq a.1 b.1 b.2.1 true).2 then(v0,(Ref.zq a.1 b.1 b.2.1 true).1)else
 bif a.1==3||b.1==3 then(bif(Ref.zp a.1 a.2.1).2&&(Ref.zp b.1 b.2.1).2 then((3,rem (Ref.zp a.1 a.2.1).1 (Ref.zp b.1 b.2.1).1,⟨#[]⟩),0)else(v0,20))else((2,rem a.2.1 b.2.1,⟨#[]⟩),0)
theorem KA {k k' n':Int} (h:(Ref.zq k k' n' true).2=false):n'≠0:=by
 unfold Ref.zq at h
 intro e
 subst e
 cases h1:bad k||bad k'<;>rw[h1]at h
 ·cases h2 : k == 0 || k' == 0 <;> rw [h2] at h
  ·cases h
  ·cases h
 ·cases h
theorem Va {k n:Int} (hn:n≠0) (h:(Ref.zp k n).2=true):(Ref.zp k n).1≠0:=by
 unfold Ref.zp at h ⊢
 cases hk:k==3<;>rw[hk]at h
 ·simp only [cond_false, Bool.and_eq_true, decide_eq_true_eq] at h ⊢
  rw[IntKind.wrap_i64];omega
 ·exact hn
def left (a b:Int):Int×Bool:=(rem a b,true)
def ZR (a b:W3):W3×Int:=
 bif(Ref.zeroV a.1 b.1 b.2.1).2 != 0 then(v0,(Ref.zeroV a.1 b.1 b.2.1).2)else bif(Ref.zeroV a.1 b.1 b.2.1).1 then(v0,(Ref.zeroV a.1 b.1 b.2.1).2)else j6 left a b
theorem Yt {k k' n':Int} (h1:(Ref.zeroV k k' n').1=false) (h2:((Ref.zeroV k k' n').2 != 0)=false):n'≠0:=by
 unfold Ref.zeroV at h1 h2
 intro e
 subst e
 cases h3:bad k||bad k'<;>rw[h3]at h1 h2
 ·cases h4 : k == 0 || k' == 0 <;> rw [h4] at h1 h2
  ·cases h2
  ·cases h1
 ·cases h2
theorem iH {k n:Int} (hk:k=2∨k=3) (hi:inR n=true) (hn:n≠0) (h:(A127.dec k n).2=true):(A127.dec k n).1≠0:=by
 obtain⟨d1,d2⟩:=jo hk hi
 rw[d1]at h
 rw[(d2 h).1]
 exact Va hn h
theorem iC {a b:W3} (ha:inR a.2.1=true) (hb:inR b.2.1=true):ZR a b=QQ a b:=by
 unfold ZR QQ Ref.zeroV Ref.zq
 cases h1:bad a.1||bad b.1
 rotate_left
 ·rfl
 cases h2:a.1==0||b.1==0
 rotate_left
 ·rfl
 cases h3:b.2.1==0
 rotate_left
 ·rfl
 simp only[cond_false,Bool.true_and,bne_self_eq_false]
 rw[XS (g:=left) (fun _ _ _ _=>rfl) ha hb]
 unfold xP Ref.zq
 rw[h1,h2]
 simp only[cond_false,Bool.false_and]
 rw[Bool.or_eq_false_iff]at h1 h2
 have hk:a.1=2∨a.1=3:=by
  rcases kinds a.1 with h|h|h|⟨h,_⟩
  ·rw[h]at h2;cases h2.1
  ·exact .inl h
  ·exact .inr h
  ·rw[h1.1]at h;cases h
 have hk':b.1=2∨b.1=3:=by
  rcases kinds b.1 with h|h|h|⟨h,_⟩
  ·rw[h]at h2;cases h2.2
  ·exact .inl h
  ·exact .inr h
  ·rw[h1.2]at h;cases h
 have e:(a.1==2&&b.1==2)= !(a.1==3||b.1==3):=by
  rcases hk with h|h<;>rcases hk' with h'|h'<;>rw[h,h']<;>rfl
 rw[e]
 cases a.1==3||b.1==3
 ·rfl
 ·cases (Ref.zp a.1 a.2.1).2&&(Ref.zp b.1 b.2.1).2<;>rfl
def _root_.Go.Proofs.YtaiokpmmjbiajaaGreatDoorDx.Ref.lgc (v:W3):Int:=bif v.1 != 1 then 0 else bif v.2.1 != 0 then 1 else -1
def _root_.Go.Proofs.YtaiokpmmjbiajaaGreatDoorDx.Ref.J5 (c:Int):W3:=bif c==0 then v0 else bif c==1 then(1,1,⟨#[]⟩)else(1,0,⟨#[]⟩)
def _root_.Go.Proofs.YtaiokpmmjbiajaaGreatDoorDx.Ref.wi (a:W3):W3:=Ref.J5 (-(Ref.lgc a))
def _root_.Go.Proofs.YtaiokpmmjbiajaaGreatDoorDx.Ref.Zv (a b:W3):W3:=Ref.J5 (min (Ref.lgc a) (Ref.lgc b))
def _root_.Go.Proofs.YtaiokpmmjbiajaaGreatDoorDx.Ref.orV (a b:W3):W3:=Ref.J5 (max (Ref.lgc a) (Ref.lgc b))
def _root_.Go.Proofs.YtaiokpmmjbiajaaGreatDoorDx.Ref.yI (b:Bool):W3:=bif b then(1,1,⟨#[]⟩)else(1,0,⟨#[]⟩)
def _root_.Go.Proofs.YtaiokpmmjbiajaaGreatDoorDx.Ref.Vn (s:ByteArray) (p:Int×Bool):W3:=
 bif !p.2 then v0 else bif eqU s.data.toList [60]then Ref.yI (decide (p.1<0))else bif eqU s.data.toList [60,61]then Ref.yI (decide (p.1≤0))else bif eqU s.data.toList [62]then Ref.yI (decide (p.1>0))else Ref.yI (decide (p.1≥0))
end
end Go.Proofs.YtaiokpmmjbiajaaGreatDoorDx.Ari
namespace Go.Proofs.YtaiokpmmjbiajaaGreatDoorDx
section
open Go Go.Proofs
def oo (p:O6):Value:= .agg #[.int .i64 p.1,.int .i64 p.2.1,.string p.2.2.1,.int .i64 p.2.2.2.1,.int .i64 p.2.2.2.2.1,.string p.2.2.2.2.2]
def oOf (a:AA):Option O6:=match a with
 | .v (.agg ⟨[.int .i64 k,.int .i64 n,.string t,.int .i64 vk,.int .i64 vn,.string vs]⟩)=>some (k,n,t,vk,vn,vs)
 |_=>none
theorem Wy {a:AA} {p:O6} (h:oOf a=some p):a= .v (oo p):=by
 unfold oOf at h
 split at h
 ·cases h;rfl
 ·cases h
def Ref.kH (k n:Int):Int×Int:=
 bif k==1||(k==2||k==9)then(0,1)else bif k==3||(k==5||k==10)then(1,1)else bif k==4 then(2,1)else bif k==6 then(n,1)else bif k==8 then(1,0)else(0,0)
def Ref.zj (k n:Int):Int×Int:=
 bif k==1||(k==2||k==9)then(0,1)else bif k==3||(k==5||k==10)then(1,0)else bif k==4 then(2,-1)else bif k==6 then(n,IntKind.wrap .i64 (1 - n))else bif k==8 then(1,-1)else(0,0)
theorem kL: ∀a b:List UInt8,eqU a b=eqU b a
 |[],[]=>rfl
 |[],_::_=>rfl
 |_::_,[]=>rfl
 |x::a,y::b=>by
  rw[eqU,eqU,kL a b]
  congr 1
  cases h:Nat.beq y.toNat x.toNat
  ·cases h' : Nat.beq x.toNat y.toNat
   ·rfl
   ·have := Nat.eq_of_beq_eq_true h'
    rw[this,Nat.beq_refl]at h;cases h
  ·have := Nat.eq_of_beq_eq_true h
   rw[this,Nat.beq_refl]
def Ref.nj (t:ByteArray):Bool:=eqU t.data.toList [43]||(eqU t.data.toList [45]||(eqU t.data.toList [42]||(eqU t.data.toList [47]||(eqU t.data.toList [37]||(eqU t.data.toList [61]||(eqU t.data.toList [33,61]||(eqU t.data.toList [60]||(eqU t.data.toList [60,61]||(eqU t.data.toList [62]||(eqU t.data.toList [62,61]||(eqU t.data.toList [97,110,100]||eqU t.data.toList [111,114])))))))))))
def Ref.we (k n:Int) (t:ByteArray) (at_ len lf la:Int):Bool:=
 bif k==1||k==10 then true else bif k==2 then decide (n≥0)&&decide (n<lf)else bif k==9 then decide (n≥0)&&decide (n<la)else
 bif k==3 then eqU t.data.toList [45]||eqU t.data.toList [110,111,116]else bif k==4 then Ref.nj t else bif k==5 then n==0||n==1 else
 bif k==6 then decide (n≥0)&&decide (n≤1024)else bif k==7||k==8 then decide (n>at_)&&decide (n≤len)else false
end
section
open Go
set_option linter.unusedSectionVars false
theorem jO: ∀(q:Code) {b x:Code},b∈zk q→x∈zk b→x∈zk q
 | .loop a,b,x,hb,hx=>by
  unfold zk at hb ⊢
  rcases List.mem_cons.1 hb with rfl|hb
  ·exact List.mem_cons_of_mem _ hx
  ·exact List.mem_cons_of_mem _ (jO a hb hx)
 | .seq a c,b,x,hb,hx=>by
  unfold zk at hb ⊢
  rcases List.mem_append.1 hb with hb|hb
  ·exact List.mem_append_left _ (jO a hb hx)
  ·exact List.mem_append_right _ (jO c hb hx)
 | .cond _ a c,b,x,hb,hx=>by
  unfold zk at hb ⊢
  rcases List.mem_append.1 hb with hb|hb
  ·exact List.mem_append_left _ (jO a hb hx)
  ·exact List.mem_append_right _ (jO c hb hx)
 | .block _ a,b,x,hb,hx=>by
  unfold zk at hb ⊢
  exact jO a hb hx
 | .skip,b,x,hb,hx=>by unfold zk at hb;cases hb
 | .label _,b,x,hb,hx=>by unfold zk at hb;cases hb
 | .region _ _ _,b,x,hb,hx=>by unfold zk at hb;cases hb
 | .exit _,b,x,hb,hx=>by unfold zk at hb;cases hb
 | .ret,b,x,hb,hx=>by unfold zk at hb;cases hb
 | .scope _,b,x,hb,hx=>by unfold zk at hb;cases hb
 | .goto _,b,x,hb,hx=>by unfold zk at hb;cases hb
 | .rangeFunc _ _ _ _,b,x,hb,hx=>by unfold zk at hb;cases hb
section
variable {P:Program} {La:World→Prop} {n0:Nat} {l:List (FuncId×Spec)} {L:List LpK}
theorem iT (hmix:P.follows .mixedOrders=true) (hnames:(P.funcs.toList.all fun fn=> !(fn.name== "runtime.NumGoroutine"))=true) (hsp: ∀p∈l,qu P La p.1 p.2) (hL: ∀p∈L,zw P La n0 p) {c:Cfg} {base:Nat} {I:World→Prop} (hP:c.P=P) (hn:c.n0=n0) (hG:c.G=0) (hI:Inv base I) (hIL: ∀w,I w→La w)
  {f i:Nat} (hf:gH P f=true) (hi:Nat.blt i (zk (Ql P f)).length=true) {k K m n R:Nat} {ro:Rows} {x y:KX} {ex:Ex} {jG:Ex→List Nat} {car:Ex→St→List (Nat×Bool)}
  (run:wx (zz P n0 (gpT l) (ltT n0 L)) (gpT l) (vI (zz P n0 (gpT l) (ltT n0 L)) (gpT l) (ltT n0 L) K) (ltT n0 L f) false k (qW P f i) (stK m n ro x) (zD n R m jG car)=some (ex,y)): @zA (zV base) c base I (qW P f i) m n R ro x ex y:=by
 obtain⟨fn,h1,h2,_⟩:=qE hf
 obtain⟨q,hq⟩: ∃q,fn.body=some q:=by
  cases hb:fn.body with
  |none=>rw[hb]at h2;cases h2
  |some q=>exact⟨q,rfl⟩
 have aF:Ql P f=q:=by unfold Ql;rw[h1];simp only[hq]
 have iA:qW P f i∈zk q:=by
  rw[Nat.blt_eq]at hi
  unfold qW
  rw[aF]at hi ⊢
  rw[List.getD_eq_getElem?_getD,List.getElem?_eq_getElem hi]
  exact List.getElem_mem hi
 refine @cm (zV base) c base I P n0 (gpT l) (ltT n0 L) hP hn hG hI hmix hnames (WD _ _ _ _) (@X8 (zV base) P La n0 l _ base I hIL hsp) (yW hL base I hI hIL) (ltT n0 L f) (qW P f i) (fun x hx=> ?_) k K m n R ro x y ex jG car run
 have:=(yW (l:=l) hL base I hI hIL) f fn q (by rw[show (zz P n0 (gpT l) (ltT n0 L)).fns=fun f=>P.funcs[f]? from QJ];exact h1) hq x (jO q iA hx)
 rwa [show (zz P n0 (gpT l) (ltT n0 L)).lops=fun f=>jV (ltT n0 L f)from Vs]at this
end
end
end Go.Proofs.YtaiokpmmjbiajaaGreatDoorDx
section
namespace Go.Proofs.YtaiokpmmjbiajaaGreatDoorDx.AHei
open Go
theorem JF (h:Int): ∀(l:List Int) (j:Nat),j<l.length→ins (ints .i64 l) j (.int .i64 h)=ints .i64 (l.set j h)
 |[],j,hj=>by simp at hj
 |x::l,0,hj=>rfl
 |x::l,j+1,hj=>by
  show (bif Nat.beq (j+1) 0 then _ else(Value.int .i64 x)::ins (ints .i64 l) (j+1 - 1) (.int .i64 h))=_
  rw[Nat.add_sub_cancel,JF h l j (by simpa using hj)];rfl
theorem Zt {l:List Int} {j:Nat} (hj:j<l.length) (h:Int):zr (ints .i64 l) j [.int .i64 h]=ints .i64 (l.set j h):=by
 show zr (ins (ints .i64 l) j (.int .i64 h)) (j+1) []=_
 rw[JF h l j hj];rfl
def put (t:List Int) (j:Nat) (h:Int):Option (List Int):=bif decide (t.getD j 0<0)then some (t.set j h)else bif t.getD j 0==h then some t else none
def step (N lf la:Int) (s:List Int×Int) (i:Nat) (o:O6):Option (List Int×Int):=
 bif decide (s.1.getD i 0<0)||(!Ref.we o.1 o.2.1 o.2.2.1 i N lf la||(decide (s.1.getD i 0<(Ref.zj o.1 o.2.1).1)||decide (s.1.getD i 0+(Ref.zj o.1 o.2.1).2>1024)))then none else
 ((bif o.1==7||o.1==8 then put s.1 o.2.1.toNat (s.1.getD i 0+(Ref.zj o.1 o.2.1).2)else some s.1).bind fun t=>bif o.1==7 then some t else put t (i+1) (s.1.getD i 0+(Ref.zj o.1 o.2.1).2)).map fun t=>(t,max s.2 (s.1.getD i 0+(Ref.zj o.1 o.2.1).2))
def run (N lf la:Int):Nat→List O6→List Int×Int→Option (List Int×Int)
 |_,[],s=>some s
 |i,o::l,s=>(step N lf la s i o).bind (run N lf la (i+1) l)
structure Good (n:Nat) (s:List Int×Int):Prop where
 len:s.1.length=n+1
 le: ∀x∈s.1,-1≤x∧x≤1024
 m0:0≤s.2
 m1:s.2≤1024
theorem jZ {l:List Int} {j:Nat} (h:j<l.length):l.getD j 0∈l:=by
 rw[List.getD_eq_getElem?_getD,List.getElem?_eq_getElem h];exact List.getElem_mem h
theorem JY {n:Nat} {t t':List Int} {j:Nat} {h:Int} (hl:t.length=n+1) (hle: ∀x∈t,-1≤x∧x≤1024) (h0:0≤h) (h1:h≤1024) (e:put t j h=some t'):t'.length=n+1∧ ∀x∈t',-1≤x∧x≤1024:=by
 unfold put at e
 cases h2:decide (t.getD j 0<0)<;>rw[h2]at e
 ·cases h3 : t.getD j 0 == h <;> rw [h3] at e
  ·cases e
  ·cases e;exact⟨hl,hle⟩
 ·cases e
  refine⟨by simpa using hl,fun x hx=> ?_⟩
  rcases List.mem_or_eq_of_mem_set hx with hx|rfl
  ·exact hle x hx
  ·omega
theorem yy {k n:Int} (hn:k=6→0≤n∧n≤1024):0≤(Ref.zj k n).1∧(Ref.zj k n).1≤1024∧0≤(Ref.zj k n).1+(Ref.zj k n).2∧(Ref.zj k n).1+(Ref.zj k n).2≤1:=by
 unfold Ref.zj
 cases k==1||(k==2||k==9)
 rotate_left
 ·simp only[cond_true,cond_false];omega
 cases k==3||(k==5||k==10)
 rotate_left
 ·simp only[cond_true,cond_false];omega
 cases k==4
 rotate_left
 ·simp only[cond_true,cond_false];omega
 cases h6:k==6
 rotate_left
 ·obtain ⟨a, b⟩ := hn (beq_iff_eq.1 h6)
  simp only[cond_true,cond_false]
  rw[zZ (by omega) (by omega)]
  omega
 cases k==8<;>(simp only[cond_true,cond_false];omega)
theorem ZY {k n:Int} {t:ByteArray} {i N lf la:Int} (h:Ref.we k n t i N lf la=true) (hk:k=6):0≤n∧n≤1024:=by
 subst hk
 unfold Ref.we at h
 simp only[show ((6:Int)==1||(6:Int)==10)=false from rfl,show ((6:Int)==2)=false from rfl,show ((6:Int)==9)=false from rfl,show ((6:Int)==3)=false from rfl,show ((6:Int)==4)=false from rfl,show ((6:Int)==5)=false from rfl,show ((6:Int)==6)=true from rfl,cond_true,cond_false,Bool.and_eq_true,decide_eq_true_eq]at h
 omega
theorem xw {k n:Int} {t:ByteArray} {i N lf la:Int} (h:Ref.we k n t i N lf la=true) (hk:k=7∨k=8):i<n∧n≤N:=by
 unfold Ref.we at h
 rcases hk with rfl|rfl
 ·simp only [show ((7 : Int) == 1 || (7 : Int) == 10) = false from rfl, show ((7 : Int) == 2) = false from rfl, show ((7 : Int) == 9) = false from rfl, show ((7 : Int) == 3) = false from rfl, show ((7 : Int) == 4) = false from rfl, show ((7 : Int) == 5) = false from rfl, show ((7 : Int) == 6) = false from rfl, show ((7 : Int) == 7 || (7 : Int) == 8) = true from rfl, cond_true, cond_false, Bool.and_eq_true, decide_eq_true_eq] at h
  omega
 ·simp only [show ((8 : Int) == 1 || (8 : Int) == 10) = false from rfl, show ((8 : Int) == 2) = false from rfl, show ((8 : Int) == 9) = false from rfl, show ((8 : Int) == 3) = false from rfl, show ((8 : Int) == 4) = false from rfl, show ((8 : Int) == 5) = false from rfl, show ((8 : Int) == 6) = false from rfl, show ((8 : Int) == 7 || (8 : Int) == 8) = true from rfl, cond_true, cond_false, Bool.and_eq_true, decide_eq_true_eq] at h
  omega
theorem yN {N lf la:Int} {n:Nat} {s s':List Int×Int} {i:Nat} {o:O6} (h:Good n s) (e:step N lf la s i o=some s'):Good n s':=by
 unfold step at e
 cases hc:decide (s.1.getD i 0<0)||(!Ref.we o.1 o.2.1 o.2.2.1 i N lf la||(decide (s.1.getD i 0<(Ref.zj o.1 o.2.1).1)||decide (s.1.getD i 0+(Ref.zj o.1 o.2.1).2>1024)))<;>rw[hc]at e
 rotate_left
 ·cases e
 simp only[Bool.or_eq_false_iff,Bool.not_eq_false',decide_eq_false_iff_not]at hc
 obtain⟨c1,c2,c3,c4⟩:=hc
 obtain⟨n1,n2,n3,n4⟩:=yy (k:=o.1) (n:=o.2.1) (ZY c2)
 have h0:0≤s.1.getD i 0+(Ref.zj o.1 o.2.1).2:=by omega
 have h1:s.1.getD i 0+(Ref.zj o.1 o.2.1).2≤1024:=by omega
 generalize s.1.getD i 0+(Ref.zj o.1 o.2.1).2=g at*
 simp only[cond_false]at e
 obtain⟨t2,e2,rfl⟩:=Option.map_eq_some_iff.1 e
 obtain⟨t1,e1,e3⟩:=qi e2
 have p1:t1.length=n+1∧ ∀x∈t1,-1≤x∧x≤1024:=by
  cases q:o.1==7||o.1==8<;>rw[q]at e1
  ·cases e1;exact⟨h.len,h.le⟩
  ·exact JY h.len h.le h0 h1 e1
 have p2:t2.length=n+1∧ ∀x∈t2,-1≤x∧x≤1024:=by
  cases q:o.1==7<;>rw[q]at e3
  ·exact JY p1.1 p1.2 h0 h1 e3
  ·cases e3;exact p1
 have:=h.m0;have:=h.m1
 exact⟨p2.1,p2.2,by show 0≤max s.2 g;omega,by show max s.2 g≤1024;omega⟩
def first (n:Nat):List Int:=0::List.replicate n (-1)
theorem wZ (n:Nat):Good n (first n,0):=by
 refine⟨by simp[first],fun x hx=> ?_,Int.le_refl 0,(by show (0:Int)≤1024;omega)⟩
 rcases List.mem_cons.1 hx with rfl|hx
 ·omega
 ·have:=(List.mem_replicate.1 hx).2;omega
def j5 (N lf la:Int) (l:List O6) (s:List Int×Int):List Int:=((run N lf la 0 l s).map (·.1)).getD []
def wO (N lf la:Int) (l:List O6) (s:List Int×Int):Int:=((run N lf la 0 l s).map (·.2)).getD 0
def j4 (N lf la:Int) (l:List O6) (s:List Int×Int):Bool:=(run N lf la 0 l s).isSome
end Go.Proofs.YtaiokpmmjbiajaaGreatDoorDx.AHei
namespace Go.Proofs.YtaiokpmmjbiajaaGreatDoorDx.AHei
open Go
def ie:Nat→List Value→Bool
 |0,[]=>true
 |n+1,.int .i64 (-1)::l=>ie n l
 |_,_=>false
theorem YX: ∀{n:Nat} {l:List Value},ie n l=true→l=ints .i64 (List.replicate n (-1))
 |0,[],_=>rfl
 |n+1,.int .i64 (-1)::l,h=>by
  have:=YX (n:=n) (l:=l) h
  rw[this];rfl
def Vl (m:Nat):List Value:=ints .i64 (List.replicate m (-1))
def isF (n:Nat):List Value→Bool
 | .int .i64 0::l=>ie n l
 |_=>false
theorem bY {n:Nat} {l:List Value} (h:isF n l=true):l=ints .i64 (first n):=by
 unfold isF at h
 split at h
 ·rw[YX h];rfl
 ·cases h
theorem Yj: ∀n:Nat,ie n (ints .i64 (List.replicate n (-1)))=true
 |0=>rfl
 |n+1=>Yj n
theorem fg (n:Nat):isF n (zr (Vl (n+1)) 0 [.int .i64 0])=true:=Yj n
theorem Xu {N lf la:Int} {n:Nat}: ∀{l:List O6} {i:Nat} {s t:List Int×Int},Good n s→run N lf la i l s=some t→Good n t
 |[],i,s,t,h,e=>by cases e;exact h
 |o::l,i,s,t,h,e=>by
  unfold run at e
  obtain⟨u,e1,e2⟩:=qi e
  exact Xu (yN h e1) e2
def kf (lf la:Int) (l:List O6):Int×Bool:=
 bif(l.length:Int)==0 then(0,false)else bif decide ((l.length:Int)>4096)then(0,false)else
 bif j4 l.length lf la l (first l.length,0)then(wO l.length lf la l (first l.length,0),(j5 l.length lf la l (first l.length,0)).getD l.length 0==1)else(0,false)
theorem KS {lf la:Int} {l:List O6} (h:j4 l.length lf la l (first l.length,0)=true):(j5 l.length lf la l (first l.length,0)).length=l.length+1:=by
 unfold j4 at h
 unfold j5
 cases e:run l.length lf la 0 l (first l.length,0)with
 |none=>rw[e]at h;cases h
 |some t=>exact(Xu (wZ _) e).len
end Go.Proofs.YtaiokpmmjbiajaaGreatDoorDx.AHei
end
namespace Go.Proofs.YtaiokpmmjbiajaaGreatDoorDx
section
open Go Go.Proofs
namespace A60L0N
noncomputable def cfg:Cfg:=zz Tryz.prog 4 (gpT []) (ltT 4 [])
def stA (n:Nat) (lf la k i:Int):KX:=⟨[(0,.slice (some ⟨0,0,none⟩) n 6),(1,.int .i64 lf),(2,.int .i64 la),(7,.int .i64 k),(8,.slice none 0 0),(9,.int .i64 i)],[]⟩
def kp:Ex→List Nat
 | .normal=>[0,1,2,7,8,9]
 | .exit _=>[0,1,2,7,8]
 |_=>[]
def cr:Ex→St→List (Nat×Bool):=fun e s=>match e with
 | .ret=>[]
 |_=>match s.T.get 8 with
  |some (.slice (some q) _ _)=>[(q.block,true)]
  |_=>[]
theorem round (n:Nat) (lf la k i:Int):zW cfg [] [] 60 0 (stK 148 4 [] (stA n lf la k i)) (zD 4 100 148 kp cr)=(bif decide (i≤k)then(some (.normal,⟨[(0,.slice (some ⟨0,0,none⟩) n 6),(1,.int .i64 lf),(2,.int .i64 la),(7,.int .i64 k),(8,.slice (some ⟨4,0,none⟩) 1 1),(9,.int .i64 (IntKind.wrap .i64 (i+1)))],[[.int .i64 (-1)]]⟩))else(some (.exit 0,⟨[(0,.slice (some ⟨0,0,none⟩) n 6),(1,.int .i64 lf),(2,.int .i64 la),(7,.int .i64 k),(8,.slice none 0 0)],[]⟩))):=by kernel_rfl
end A60L0N
namespace A60L0R
noncomputable def cfg:Cfg:=zz Tryz.prog 4 (gpT []) (ltT 4 [])
def stA (n:Nat) (lf la k i:Int) (m:Nat) (row:List Value):KX:=⟨[(0,.slice (some ⟨0,0,none⟩) n 6),(1,.int .i64 lf),(2,.int .i64 la),(7,.int .i64 k),(8,.slice (some ⟨4,0,none⟩) m 1),(9,.int .i64 i)],[row]⟩
def kp:Ex→List Nat
 | .normal=>[0,1,2,7,8,9]
 | .exit _=>[0,1,2,7,8]
 |_=>[]
def cr:Ex→St→List (Nat×Bool):=fun e s=>match e with
 | .ret=>[]
 |_=>match s.T.get 8 with
  |some (.slice (some q) _ _)=>[(q.block,true)]
  |_=>[]
theorem round (n:Nat) (lf la k i:Int) (m:Nat) (row:List Value):zW cfg [] [] 60 0 (stK 148 4 [] (stA n lf la k i m row)) (zD 4 100 148 kp cr)=(bif decide (i≤k)then(bif Nat.ble (m+1) 140737488355328 then(bif Nat.ble ((m+1)*8) 140737488355328 then(bif Nat.ble (0+(m*1)) row.length then(bif((((row.drop 0).take (m*1))++[Value.int .i64 (-1)]).all qo&&true)then(some (.normal,⟨[(0,.slice (some ⟨0,0,none⟩) n 6),(1,.int .i64 lf),(2,.int .i64 la),(7,.int .i64 k),(8,.slice (some ⟨4,0,none⟩) (m+1) 1),(9,.int .i64 (IntKind.wrap .i64 (i+1)))],[(((row.drop 0).take (m*1))++[Value.int .i64 (-1)])]⟩))else none)else none)else none)else none)else(bif(row.all qo&&true)then(some (.exit 0,⟨[(0,.slice (some ⟨0,0,none⟩) n 6),(1,.int .i64 lf),(2,.int .i64 la),(7,.int .i64 k),(8,.slice (some ⟨4,0,none⟩) m 1)],[row]⟩))else none)):=by kernel_rfl
end A60L0R
end
end Go.Proofs.YtaiokpmmjbiajaaGreatDoorDx
namespace Go.Proofs.YtaiokpmmjbiajaaGreatDoorDx.AHei
section
open Go
def cq (t:List Int) (j:Nat) (h:Int):Option (List Int):=bif decide (t.getD j 0≥0)&&(t.getD j 0 != h)then none else some (t.set j h)
def ZI (N lf la:Int) (s:List Int×Int) (i:Nat) (o:O6):Option (List Int×Int):=
 bif !Ref.we o.1 o.2.1 o.2.2.1 i N lf la||(decide (s.1.getD i 0<(Ref.kH o.1 o.2.1).1)||decide (s.1.getD i 0 - (Ref.kH o.1 o.2.1).1+(Ref.kH o.1 o.2.1).2>1024))then none else
 ((bif o.1==7 then some s.1 else cq s.1 (i+1) (s.1.getD i 0 - (Ref.kH o.1 o.2.1).1+(Ref.kH o.1 o.2.1).2)).bind fun t=>bif o.1==7||o.1==8 then cq t o.2.1.toNat (s.1.getD i 0 - (Ref.kH o.1 o.2.1).1+(Ref.kH o.1 o.2.1).2)else some t).map fun t=>(t,max s.2 (s.1.getD i 0 - (Ref.kH o.1 o.2.1).1+(Ref.kH o.1 o.2.1).2))
theorem aw {k n:Int} (hn:k=6→0≤n∧n≤1024):(Ref.kH k n).1=(Ref.zj k n).1∧(Ref.kH k n).2=(Ref.zj k n).1+(Ref.zj k n).2:=by
 unfold Ref.zj Ref.kH
 cases k==1||(k==2||k==9)
 rotate_left
 ·exact⟨rfl,rfl⟩
 cases k==3||(k==5||k==10)
 rotate_left
 ·exact⟨rfl,rfl⟩
 cases k==4
 rotate_left
 ·exact⟨rfl,rfl⟩
 cases h6:k==6
 rotate_left
 ·obtain ⟨a, b⟩ := hn (beq_iff_eq.1 h6)
  simp only[cond_true,cond_false]
  rw[zZ (by omega) (by omega)]
  exact⟨trivial,by omega⟩
 cases k==8<;>exact⟨rfl,rfl⟩
theorem ij (t:List Int) (j:Nat) (g:Int):cq t j g=put t j g:=by
 unfold cq put
 by_cases h:t.getD j 0<0
 ·rw[decide_eq_true h,decide_eq_false (show¬t.getD j 0≥0 by omega)];rfl
 ·rw [decide_eq_false h, decide_eq_true (show t.getD j 0 ≥ 0 by omega)]
  cases e:t.getD j 0==g
  ·rw[bne,e];rfl
  ·rw [bne, e]
   simp only[Bool.true_and,Bool.not_true,cond_false,cond_true]
   have e:=beq_iff_eq.1 e
   congr 1
   rcases Nat.lt_or_ge j t.length with hj|hj
   ·rw [List.getD_eq_getElem?_getD, List.getElem?_eq_getElem hj] at e
    have e:t[j]=g:=e
    rw[←e,List.set_getElem_self]
   ·rw[List.set_eq_of_length_le hj]
theorem getD_set_ne {t:List Int} {a b:Nat} {g:Int} (h:a≠b):(t.set a g).getD b 0=t.getD b 0:=by
 rw[List.getD_eq_getElem?_getD,List.getD_eq_getElem?_getD,List.getElem?_set_ne h]
theorem put_comm (t:List Int) (a b:Nat) (g:Int):(put t a g).bind (fun t=>put t b g)=(put t b g).bind fun t=>put t a g:=by
 by_cases hab:a=b
 ·subst hab;rfl
 unfold put
 cases h1:decide (t.getD a 0<0)<;>cases h2:decide (t.getD b 0<0)<;>cases h3:t.getD a 0==g<;>cases h4:t.getD b 0==g<;>
  simp only[cond_true,cond_false,Option.bind_some,Option.bind_none,getD_set_ne hab,getD_set_ne (fun e=>hab e.symm),h1,h2,h3,h4]<;>first|rfl|(rw[List.set_comm _ _ hab])
theorem JK {N lf la:Int} {s:List Int×Int} {i:Nat} {o:O6}:ZI N lf la s i o=step N lf la s i o:=by
 unfold ZI step
 cases c2:Ref.we o.1 o.2.1 o.2.2.1 i N lf la
 ·simp only[Bool.not_false,Bool.true_or,cond_true,Bool.or_true]
 obtain⟨a1,a2⟩:=aw (k:=o.1) (n:=o.2.1) (ZY c2)
 obtain⟨n1,n2,n3,n4⟩:=yy (k:=o.1) (n:=o.2.1) (ZY c2)
 have e:s.1.getD i 0 - (Ref.kH o.1 o.2.1).1+(Ref.kH o.1 o.2.1).2=s.1.getD i 0+(Ref.zj o.1 o.2.1).2:=by omega
 rw[e,a1]
 generalize s.1.getD i 0=h at*
 generalize h+(Ref.zj o.1 o.2.1).2=g at*
 simp only[ij,Bool.not_true,Bool.false_or]
 by_cases c3:h<(Ref.zj o.1 o.2.1).1
 ·rw[decide_eq_true c3];simp only[Bool.true_or,Bool.or_true,cond_true]
 rw[decide_eq_false c3,decide_eq_false (show¬h<0 by omega)]
 simp only[Bool.false_or]
 cases decide (g>1024)
 rotate_left
 ·rfl
 simp only[cond_false]
 cases o.1==7
 ·cases o.1 == 8
  ·simp only [Bool.or_self, cond_false, Option.bind_some]
   cases put s.1 (i+1) g<;>rfl
  ·simp only [Bool.false_or, cond_false, cond_true]
   rw[put_comm]
 ·simp only [Bool.true_or, cond_true, Option.bind_some]
  cases put s.1 o.2.1.toNat g<;>rfl
def aS (N lf la:Int):Nat→List O6→List Int×Int→Option (List Int×Int)
 |_,[],s=>some s
 |i,o::l,s=>(ZI N lf la s i o).bind (aS N lf la (i+1) l)
theorem an {N lf la:Int}: ∀(l:List O6) (i:Nat) (s:List Int×Int),aS N lf la i l s=run N lf la i l s
 |[],i,s=>rfl
 |o::l,i,s=>by
  unfold aS run
  rw[JK]
  congr 1
  funext t
  exact an l (i+1) t
theorem cX {N lf la:Int} {s s':List Int×Int} {i:Nat} {o:O6} (h: ∀x∈s.1,x≤s.2) (e:step N lf la s i o=some s'): ∀x∈s'.1,x≤s'.2:=by
 have hp: ∀{t t':List Int} {j:Nat} {g:Int},(∀x∈t,x≤max s.2 g)→put t j g=some t'→ ∀x∈t',x≤max s.2 g:=by
  intro t t' j g ht e
  unfold put at e
  cases h2:decide (t.getD j 0<0)<;>rw[h2]at e
  ·cases h3 : t.getD j 0 == g <;> rw [h3] at e
   ·cases e
   ·cases e;exact ht
  ·cases e
   intro x hx
   rcases List.mem_or_eq_of_mem_set hx with hx|rfl
   ·exact ht x hx
   ·omega
 unfold step at e
 cases hc:decide (s.1.getD i 0<0)||(!Ref.we o.1 o.2.1 o.2.2.1 i N lf la||(decide (s.1.getD i 0<(Ref.zj o.1 o.2.1).1)||decide (s.1.getD i 0+(Ref.zj o.1 o.2.1).2>1024)))<;>rw[hc]at e
 rotate_left
 ·cases e
 generalize s.1.getD i 0+(Ref.zj o.1 o.2.1).2=g at*
 simp only[cond_false]at e
 obtain⟨t2,e2,rfl⟩:=Option.map_eq_some_iff.1 e
 obtain⟨t1,e1,e3⟩:=qi e2
 have h0: ∀x∈s.1,x≤max s.2 g:=fun x hx=>by have:=h x hx;omega
 have p1: ∀x∈t1,x≤max s.2 g:=by
  cases q:o.1==7||o.1==8<;>rw[q]at e1
  ·cases e1;exact h0
  ·exact hp h0 e1
 cases q:o.1==7<;>rw[q]at e3
 ·exact hp p1 e3
 ·cases e3;exact p1
theorem Y2 {N lf la:Int}: ∀{l:List O6} {i:Nat} {s t:List Int×Int},(∀x∈s.1,x≤s.2)→run N lf la i l s=some t→ ∀x∈t.1,x≤t.2
 |[],i,s,t,h,e=>by cases e;exact h
 |o::l,i,s,t,h,e=>by
  unfold run at e
  obtain⟨u,e1,e2⟩:=qi e
  exact Y2 (cX h e1) e2
def xu (lf la:Int) (l:List O6):Int:=
 bif(l.length:Int)==0 then 0 else bif decide ((l.length:Int)>4096)then 0 else
 bif j4 l.length lf la l (first l.length,0)then(bif(j5 l.length lf la l (first l.length,0)).getD l.length 0 != 1 then 0 else wO l.length lf la l (first l.length,0))else 0
theorem Vp (lf la:Int) (l:List O6):(xu lf la l==0)= !(kf lf la l).2:=by
 unfold xu kf
 cases (l.length:Int)==0
 rotate_left
 ·rfl
 cases decide ((l.length:Int)>4096)
 rotate_left
 ·rfl
 cases hf:j4 l.length lf la l (first l.length,0)
 ·rfl
 simp only[cond_true,cond_false]
 cases h1:(j5 l.length lf la l (first l.length,0)).getD l.length 0==1
 ·rw[bne,h1];rfl
 ·rw [bne, h1]
  simp only[Bool.not_true,cond_false]
  have hl:=KS hf
  have hm:=jZ (l:=j5 l.length lf la l (first l.length,0)) (j:=l.length) (by omega)
  have:(j5 l.length lf la l (first l.length,0)).getD l.length 0≤wO l.length lf la l (first l.length,0):=by
   unfold j4 at hf
   unfold j5 wO at*
   cases e:run l.length lf la 0 l (first l.length,0)with
   |none=>rw[e]at hf;cases hf
   |some t=>
    rw[e]at hm
    exact Y2 (fun x hx=>by have:=(wZ l.length).le x hx;rcases List.mem_cons.1 hx with rfl|hx;exact Int.le_refl 0;have:=(List.mem_replicate.1 hx).2;show x≤0;omega) e _ hm
  have h1:=beq_iff_eq.1 h1
  exact beq_eq_false_iff_ne.2 (by omega)
def bad (lf la:Int) (o:O6):Bool:=(o.1==2&&decide (o.2.1≥lf))||(o.1==9&&decide (o.2.1≥la))
theorem iI {lf la N i:Int} {o:O6} (h:bad lf la o=true):Ref.we o.1 o.2.1 o.2.2.1 i N lf la=false:=by
 unfold bad at h
 unfold Ref.we
 simp only[Bool.or_eq_true,Bool.and_eq_true,beq_iff_eq,decide_eq_true_eq]at h
 rcases h with⟨h1,h2⟩|⟨h1,h2⟩<;>rw[h1]
 ·show (decide (o.2.1 ≥ 0) && decide (o.2.1 < lf)) = false
  rw[decide_eq_false (show¬o.2.1<lf by omega),Bool.and_false]
 ·show (decide (o.2.1 ≥ 0) && decide (o.2.1 < la)) = false
  rw[decide_eq_false (show¬o.2.1<la by omega),Bool.and_false]
theorem dz {lf la N i:Int} {o:O6} (hf:lf≤9223372036854775807) (ha:la≤9223372036854775807) (h:bad lf la o=false):Ref.we o.1 o.2.1 o.2.2.1 i N 9223372036854775807 9223372036854775807=Ref.we o.1 o.2.1 o.2.2.1 i N lf la:=by
 unfold bad at h
 simp only[Bool.or_eq_false_iff,Bool.and_eq_false_iff,decide_eq_false_iff_not]at h
 unfold Ref.we
 cases o.1==1||o.1==10
 rotate_left
 ·rfl
 cases h2:o.1==2
 rotate_left
 ·have := h.1.resolve_left (by rw [h2]; simp)
  rw[decide_eq_true (show o.2.1<lf by omega),decide_eq_true (show o.2.1<9223372036854775807 by omega)]
  rfl
 cases h9:o.1==9
 rotate_left
 ·have := h.2.resolve_left (by rw [h9]; simp)
  rw[decide_eq_true (show o.2.1<la by omega),decide_eq_true (show o.2.1<9223372036854775807 by omega)]
  rfl
 rfl
theorem Jn {lf la N:Int} (hf:lf≤9223372036854775807) (ha:la≤9223372036854775807): ∀(l:List O6) (i:Nat) (s:List Int×Int),l.any (bad lf la)=false→run N 9223372036854775807 9223372036854775807 i l s=run N lf la i l s
 |[],i,s,h=>rfl
 |o::l,i,s,h=>by
  rw[List.any_cons,Bool.or_eq_false_iff]at h
  unfold run
  have:step N 9223372036854775807 9223372036854775807 s i o=step N lf la s i o:=by
   unfold step;rw[dz hf ha h.1]
  rw[this]
  congr 1
  funext t
  exact Jn hf ha l (i+1) t h.2
theorem Yi {lf la N:Int}: ∀(l:List O6) (i:Nat) (s:List Int×Int),l.any (bad lf la)=true→run N lf la i l s=none
 |[],i,s,h=>by cases h
 |o::l,i,s,h=>by
  rw[List.any_cons,Bool.or_eq_true]at h
  unfold run
  rcases h with h|h
  ·have:step N lf la s i o=none:=by
    unfold step;rw[iI h];simp only[Bool.not_false,Bool.true_or,Bool.or_true,cond_true]
   rw[this];rfl
  ·cases step N lf la s i o with
   |none=>rfl
   |some t=>exact Yi l (i+1) t h
def kM (lf la:Int) (l:List O6):Int:=bif(kf lf la l).2 then 0 else 120
theorem fl {lf la:Int} (hf:lf≤9223372036854775807) (ha:la≤9223372036854775807) (l:List O6):
  (bif l.any (bad lf la)then 120 else bif(kf 9223372036854775807 9223372036854775807 l).2 then 0 else 120)=kM lf la l:=by
 unfold kM kf j4 j5 wO
 cases h:l.any (bad lf la)
 ·rw[Jn hf ha l 0 _ h];rfl
 ·rw [Yi l 0 _ h]
  cases (l.length:Int)==0<;>cases decide ((l.length:Int)>4096)<;>rfl
end
end Go.Proofs.YtaiokpmmjbiajaaGreatDoorDx.AHei
namespace Go.Proofs.YtaiokpmmjbiajaaGreatDoorDx
section
open Go Go.Proofs
namespace A60L0
def K2 (j:Nat):List Value:=ints .i64 (List.replicate j (-1))
def st (n:Nat) (lf la k:Int) (j:Nat):KX:=bif Nat.beq j 0 then A60L0N.stA n lf la k j else A60L0R.stA n lf la k j j (K2 j)
def fin (n:Nat) (lf la k:Int) (m:Nat):KX:=⟨[(0,.slice (some ⟨0,0,none⟩) n 6),(1,.int .i64 lf),(2,.int .i64 la),(7,.int .i64 k),(8,.slice (some ⟨4,0,none⟩) m 1)],[AHei.Vl m]⟩
def D:KD:=⟨148,4,100,[0,1,2,7,8,9],[],fun _=>[],fun x ro=>match x.vs,x.cars,ro with
 |[(0,.slice (some ⟨0,0,none⟩) n 6),(1,.int .i64 lf),(2,.int .i64 la),(7,.int .i64 k),(8,.slice none 0 0),(9,.int .i64 0)],[],[]=>
  .qI (decide (k=Int.ofNat n)&&Nat.ble n 4096) (.out (.exit 0,fin n lf la k (n+1)))
 |_,_,_=> .no⟩
def lp:LpK:=⟨60,6,0,D⟩
theorem qG:zw Tryz.prog La 4 lp:=by
 refine⟨by kernel_rfl,fun c base I hP hn hG hI hIL x ro ex y e=> ?_⟩
 obtain⟨vs,cars⟩:=x
 simp only[lp,D]at e ⊢
 split at e
 ·rename_i n lf la k
  obtain⟨g1,g2⟩:=GT.qh e
  cases g2
  simp only[Bool.and_eq_true,decide_eq_true_eq]at g1
  obtain⟨rfl,g3⟩:=g1
  have g3:=Nat.le_of_ble_eq_true g3
  have main: ∀d j,j+d=n+1→zF (@zA (zV base) c base I (qW Tryz.prog 60 0) 148 4 100 []) (st n lf la n j) (.exit 0) (fin n lf la n (n+1)):=by
   intro d
   induction d with
   |zero=>
    intro j hj
    obtain rfl:j=n+1:=by omega
    have hr:=A60L0R.round n lf la n ((n+1:Nat):Int) (n+1) (K2 (n+1))
    have h1:decide (((n+1:Nat):Int)≤(n:Int))=false:=decide_eq_false (by omega)
    have h2:(K2 (n+1)).all qo=true:=qY _ _
    simp only[h1,h2,cond_false,Bool.and_true,cond_true]at hr
    exact .stop (by simp) (stepT qg qd (by simp) (by simp) hP hn hG hI hIL hr)
   |succ d ih=>
    intro j hj
    have ih:=ih (j+1) (by omega)
    refine .next ?_ ih
    have h1:decide ((j:Int)≤(n:Int))=true:=decide_eq_true (by omega)
    have h5:=wrI j (by omega)
    cases j with
    |zero=>
     have hr:=A60L0N.round n lf la n ((0:Nat):Int)
     simp only[h1,h5,cond_true]at hr
     exact stepT qg qd (by simp) (by simp) hP hn hG hI hIL hr
    |succ j=>
     have hr:=A60L0R.round n lf la n ((j+1:Nat):Int) (j+1) (K2 (j+1))
     have hl:(K2 (j+1)).length=j+1:=by unfold K2;rw[zH];simp
     have q1:((K2 (j+1)).drop 0).take ((j+1)*1)++[.int .i64 (-1)]=K2 (j+1+1):=by
      rw[List.drop_zero,Nat.mul_one,List.take_of_length_le (by rw[hl];exact Nat.le_refl _)]
      unfold K2 ints
      rw[show List.replicate (j+1+1) (-1:Int)=List.replicate (j+1) (-1)++[-1]from List.replicate_succ',List.map_append];rfl
     have q2:Nat.ble (j+1+1) 140737488355328=true:=by rw[Nat.ble_eq];omega
     have q3:Nat.ble ((j+1+1)*8) 140737488355328=true:=by rw[Nat.ble_eq];omega
     have q4:Nat.ble (0+(j+1)*1) (K2 (j+1)).length=true:=by rw[Nat.ble_eq,hl];omega
     have q5:(K2 (j+1+1)).all qo=true:=qY _ _
     simp only[h1,h5,q1,q2,q3,q4,q5,Bool.and_true,cond_true]at hr
     exact stepT qg qd (by simp) (by simp) hP hn hG hI hIL hr
  exact main (n+1) 0 (by omega)
 ·cases e
end A60L0
namespace A115
def T (k0 vk0 vn0 n0:Int) (vs0 t0:ByteArray):GT Value:=let o1:GT Value:=(.out (.tuple #[.int .i64 0,.int .i64 1]));let o2:GT Value:=(.out (.tuple #[.int .i64 1,.int .i64 1]));(.br (k0==1) o1 (.br (k0==2) o1 (.br (k0==9) o1 (.br (k0==3) o2 (.br (k0==5) o2 (.br (k0==10) o2 (.br (k0==4) (.out (.tuple #[.int .i64 2,.int .i64 1])) (.br (k0==6) (.out (.tuple #[.int .i64 n0,.int .i64 1])) (.br (k0==8) (.out (.tuple #[.int .i64 1,.int .i64 0])) (.out (.tuple #[.int .i64 0,.int .i64 0])))))))))))
theorem run (k0 vk0 vn0 n0:Int) (vs0 t0:ByteArray):runK 4 [] [] 115 [.v (.agg #[.int .i64 k0,.int .i64 n0,.string t0,.int .i64 vk0,.int .i64 vn0,.string vs0])]=(T k0 vk0 vn0 n0 vs0 t0).eval:=by kernel_rfl
theorem qL (o:O6):(T o.1 o.2.2.2.1 o.2.2.2.2.1 o.2.1 o.2.2.2.2.2 o.2.2.1).eval=some (.tuple #[.int .i64 (Ref.kH o.1 o.2.1).1,.int .i64 (Ref.kH o.1 o.2.1).2]):=by
 unfold T Ref.kH
 simp only[GT.eval]
 cases o.1==1<;>cases o.1==2<;>cases o.1==9<;>cases o.1==3<;>cases o.1==5<;>cases o.1==10<;>cases o.1==4<;>cases o.1==6<;>cases o.1==8<;>rfl
def spec:Spec:=fun aa=>match aa with
 |[a]=>(oOf a).bind fun o=>some (.out (.tuple #[.int .i64 (Ref.kH o.1 o.2.1).1,.int .i64 (Ref.kH o.1 o.2.1).2]))
 |_=>none
theorem qf:qu Tryz.prog La 115 spec:=⟨qE (by kernel_rfl),fun aa t v h e=>by
 unfold spec at h
 split at h
 ·rename_i a
  obtain⟨x,h1,h⟩:=qi h
  cases h;cases e
  rw[Wy h1]
  exact⟨rfl,qR (l:=[]) (L:=[]) (n0:=4) (k:=12) qx qg qd (by simp) (by simp) (by decide) (by simp) rfl ((run _ _ _ _ _ _).trans (qL x))⟩
 ·cases h⟩
end A115
namespace A116
def T (k0 vk0 vn0 n0:Int) (vs0 t0:ByteArray) (a1:Int) (a2:Int) (a3:Int) (a4:Int):GT Value:=let o1:GT Value:=(.br (decide (n0>a1)) (.out (.bool (decide (n0≤a2)))) (.out (.bool false)));(.br (k0==1) (.out (.bool true)) (.br (k0==10) (.out (.bool true)) (.br (k0==2) (.br (decide (n0≥0)) (.out (.bool (decide (n0<a3)))) (.out (.bool false))) (.br (k0==9) (.br (decide (n0≥0)) (.out (.bool (decide (n0<a4)))) (.out (.bool false))) (.br (k0==3) (.br (eqU [45] t0.data.toList) (.out (.bool true)) (.br (eqU [110,111,116] t0.data.toList) (.out (.bool true)) (.out (.bool false)))) (.br (k0==4) (.br (eqU [43] t0.data.toList) (.out (.bool true)) (.br (eqU [45] t0.data.toList) (.out (.bool true)) (.br (eqU [42] t0.data.toList) (.out (.bool true)) (.br (eqU [47] t0.data.toList) (.out (.bool true)) (.br (eqU [37] t0.data.toList) (.out (.bool true)) (.br (eqU [61] t0.data.toList) (.out (.bool true)) (.br (eqU [33,61] t0.data.toList) (.out (.bool true)) (.br (eqU [60] t0.data.toList) (.out (.bool true)) (.br (eqU [60,61] t0.data.toList) (.out (.bool true)) (.br (eqU [62] t0.data.toList) (.out (.bool true)) (.br (eqU [62,61] t0.data.toList) (.out (.bool true)) (.br (eqU [97,110,100] t0.data.toList) (.out (.bool true)) (.br (eqU [111,114] t0.data.toList) (.out (.bool true)) (.out (.bool false))))))))))))))) (.br (k0==5) (.br (n0==0) (.out (.bool true)) (.out (.bool (n0==1)))) (.br (k0==6) (.br (decide (n0≥0)) (.out (.bool (decide (n0≤1024)))) (.out (.bool false))) (.br (k0==7) o1 (.br (k0==8) o1 (.out (.bool false))))))))))))
theorem run (k0 vk0 vn0 n0:Int) (vs0 t0:ByteArray) (a1:Int) (a2:Int) (a3:Int) (a4:Int):runK 5 [] [] 116 [.v (.agg #[.int .i64 k0,.int .i64 n0,.string t0,.int .i64 vk0,.int .i64 vn0,.string vs0]),.v (.int .i64 a1),.v (.int .i64 a2),.v (.int .i64 a3),.v (.int .i64 a4)]=(T k0 vk0 vn0 n0 vs0 t0 a1 a2 a3 a4).eval:=by kernel_rfl
theorem qL (o:O6) (i m:Int) (lf la:Int):(T o.1 o.2.2.2.1 o.2.2.2.2.1 o.2.1 o.2.2.2.2.2 o.2.2.1 i m lf la).eval=some (.bool (Ref.we o.1 o.2.1 o.2.2.1 i m lf la)):=by
 obtain⟨k,n,t,v⟩:=o
 unfold T Ref.we
 dsimp only[]
 simp only[GT.eval]
 simp only[kL [45],kL [110,111,116],kL [43],kL [42],kL [47],kL [37],kL [61],kL [33,61],kL [60],kL [60,61],kL [62],kL [62,61],kL [97,110,100],kL [111,114]]
 cases k==1
 rotate_left
 ·rfl
 cases k==10
 rotate_left
 ·rfl
 cases k==2
 rotate_left
 ·cases decide (n≥0)<;>rfl
 cases k==9
 rotate_left
 ·cases decide (n≥0)<;>rfl
 cases k==3
 rotate_left
 ·cases eqU t.data.toList [45]<;>cases eqU t.data.toList [110,111,116]<;>rfl
 cases k==4
 rotate_left
 ·unfold Ref.nj
  simp only[cond_true,cond_false,Bool.or_self]
  cases eqU t.data.toList [43]
  rotate_left
  ·rfl
  cases eqU t.data.toList [45]
  rotate_left
  ·rfl
  cases eqU t.data.toList [42]
  rotate_left
  ·rfl
  cases eqU t.data.toList [47]
  rotate_left
  ·rfl
  cases eqU t.data.toList [37]
  rotate_left
  ·rfl
  cases eqU t.data.toList [61]
  rotate_left
  ·rfl
  cases eqU t.data.toList [33,61]
  rotate_left
  ·rfl
  cases eqU t.data.toList [60]
  rotate_left
  ·rfl
  cases eqU t.data.toList [60,61]
  rotate_left
  ·rfl
  cases eqU t.data.toList [62]
  rotate_left
  ·rfl
  cases eqU t.data.toList [62,61]
  rotate_left
  ·rfl
  cases eqU t.data.toList [97,110,100]<;>cases eqU t.data.toList [111,114]<;>rfl
 cases k==5
 rotate_left
 ·cases n==0<;>rfl
 cases k==6
 rotate_left
 ·cases decide (n≥0)<;>rfl
 cases k==7<;>cases k==8<;>cases decide (n>i)<;>rfl
def spec:Spec:=fun aa=>match aa with
 |[a,.v (.int .i64 i),.v (.int .i64 m),.v (.int .i64 lf),.v (.int .i64 la)]=>(oOf a).bind fun o=>some (.out (.bool (Ref.we o.1 o.2.1 o.2.2.1 i m lf la)))
 |_=>none
theorem qf:qu Tryz.prog La 116 spec:=⟨qE (by kernel_rfl),fun aa t v h e=>by
 unfold spec at h
 split at h
 ·rename_i a i m lf la
  obtain⟨x,h1,h⟩:=qi h
  cases h;cases e
  rw[Wy h1]
  exact⟨rfl,qR (l:=[]) (L:=[]) (n0:=5) (k:=12) qx qg qd (by simp) (by simp) (by decide) (by simp) rfl ((run _ _ _ _ _ _ _ _ _ _).trans (qL x i m lf la))⟩
 ·cases h⟩
end A116
namespace A156
def T (k0 vk0 vn0 n0:Int) (vs0 t0:ByteArray):GT Value:=let o1:GT Value:=(.out (.tuple #[.int .i64 0,.int .i64 1]));let o2:GT Value:=(.out (.tuple #[.int .i64 1,.int .i64 0]));(.br (k0==1) o1 (.br (k0==2) o1 (.br (k0==9) o1 (.br (k0==3) o2 (.br (k0==5) o2 (.br (k0==10) o2 (.br (k0==4) (.out (.tuple #[.int .i64 2,.int .i64 (-1)])) (.br (k0==6) (.out (.tuple #[.int .i64 n0,.int .i64 (IntKind.wrap .i64 (1 - n0))])) (.br (k0==8) (.out (.tuple #[.int .i64 1,.int .i64 (-1)])) (.out (.tuple #[.int .i64 0,.int .i64 0])))))))))))
theorem run (k0 vk0 vn0 n0:Int) (vs0 t0:ByteArray):runK 4 [] [] 156 [.v (.agg #[.int .i64 k0,.int .i64 n0,.string t0,.int .i64 vk0,.int .i64 vn0,.string vs0])]=(T k0 vk0 vn0 n0 vs0 t0).eval:=by kernel_rfl
theorem qL (o:O6):(T o.1 o.2.2.2.1 o.2.2.2.2.1 o.2.1 o.2.2.2.2.2 o.2.2.1).eval=some (.tuple #[.int .i64 (Ref.zj o.1 o.2.1).1,.int .i64 (Ref.zj o.1 o.2.1).2]):=by
 unfold T Ref.zj
 simp only[GT.eval]
 cases o.1==1<;>cases o.1==2<;>cases o.1==9<;>cases o.1==3<;>cases o.1==5<;>cases o.1==10<;>cases o.1==4<;>cases o.1==6<;>cases o.1==8<;>rfl
def spec:Spec:=fun aa=>match aa with
 |[a]=>(oOf a).bind fun o=>some (.out (.tuple #[.int .i64 (Ref.zj o.1 o.2.1).1,.int .i64 (Ref.zj o.1 o.2.1).2]))
 |_=>none
theorem qf:qu Tryz.prog La 156 spec:=⟨qE (by kernel_rfl),fun aa t v h e=>by
 unfold spec at h
 split at h
 ·rename_i a
  obtain⟨x,h1,h⟩:=qi h
  cases h;cases e
  rw[Wy h1]
  exact⟨rfl,qR (l:=[]) (L:=[]) (n0:=4) (k:=12) qx qg qd (by simp) (by simp) (by decide) (by simp) rfl ((run _ _ _ _ _ _).trans (qL x))⟩
 ·cases h⟩
end A156
namespace A157
def T (k0 vk0 vn0 n0:Int) (vs0 t0:ByteArray) (a1:Int) (a2:Int):GT Value:=let o1:GT Value:=(.br (decide (n0≥0)) (.out (.bool (decide (n0<9223372036854775807)))) (.out (.bool false)));let o2:GT Value:=(.br (decide (n0>a1)) (.out (.bool (decide (n0≤a2)))) (.out (.bool false)));(.br (k0==1) (.out (.bool true)) (.br (k0==10) (.out (.bool true)) (.br (k0==2) o1 (.br (k0==9) o1 (.br (k0==3) (.br (eqU t0.data.toList [45]) (.out (.bool true)) (.out (.bool (eqU t0.data.toList [110,111,116])))) (.br (k0==4) (.br (eqU t0.data.toList [43]) (.out (.bool true)) (.br (eqU t0.data.toList [45]) (.out (.bool true)) (.br (eqU t0.data.toList [42]) (.out (.bool true)) (.br (eqU t0.data.toList [47]) (.out (.bool true)) (.br (eqU t0.data.toList [37]) (.out (.bool true)) (.br (eqU t0.data.toList [61]) (.out (.bool true)) (.br (eqU t0.data.toList [33,61]) (.out (.bool true)) (.br (eqU t0.data.toList [60]) (.out (.bool true)) (.br (eqU t0.data.toList [60,61]) (.out (.bool true)) (.br (eqU t0.data.toList [62]) (.out (.bool true)) (.br (eqU t0.data.toList [62,61]) (.out (.bool true)) (.br (eqU t0.data.toList [97,110,100]) (.out (.bool true)) (.br (eqU t0.data.toList [111,114]) (.out (.bool true)) (.out (.bool false))))))))))))))) (.br (k0==5) (.br (n0==0) (.out (.bool true)) (.out (.bool (n0==1)))) (.br (k0==6) (.br (decide (n0≥0)) (.out (.bool (decide (n0≤1024)))) (.out (.bool false))) (.br (k0==7) o2 (.br (k0==8) o2 (.out (.bool false))))))))))))
theorem run (k0 vk0 vn0 n0:Int) (vs0 t0:ByteArray) (a1:Int) (a2:Int):runK 4 [] [] 157 [.v (.agg #[.int .i64 k0,.int .i64 n0,.string t0,.int .i64 vk0,.int .i64 vn0,.string vs0]),.v (.int .i64 a1),.v (.int .i64 a2)]=(T k0 vk0 vn0 n0 vs0 t0 a1 a2).eval:=by kernel_rfl
theorem qL (o:O6) (i m:Int):(T o.1 o.2.2.2.1 o.2.2.2.2.1 o.2.1 o.2.2.2.2.2 o.2.2.1 i m).eval=some (.bool (Ref.we o.1 o.2.1 o.2.2.1 i m 9223372036854775807 9223372036854775807)):=by
 obtain⟨k,n,t,v⟩:=o
 unfold T Ref.we
 dsimp only[]
 simp only[GT.eval]
 cases k==1
 rotate_left
 ·rfl
 cases k==10
 rotate_left
 ·rfl
 cases k==2
 rotate_left
 ·cases decide (n≥0)<;>rfl
 cases k==9
 rotate_left
 ·cases decide (n≥0)<;>rfl
 cases k==3
 rotate_left
 ·cases eqU t.data.toList [45]<;>cases eqU t.data.toList [110,111,116]<;>rfl
 cases k==4
 rotate_left
 ·unfold Ref.nj
  simp only[cond_true,cond_false,Bool.or_self]
  cases eqU t.data.toList [43]
  rotate_left
  ·rfl
  cases eqU t.data.toList [45]
  rotate_left
  ·rfl
  cases eqU t.data.toList [42]
  rotate_left
  ·rfl
  cases eqU t.data.toList [47]
  rotate_left
  ·rfl
  cases eqU t.data.toList [37]
  rotate_left
  ·rfl
  cases eqU t.data.toList [61]
  rotate_left
  ·rfl
  cases eqU t.data.toList [33,61]
  rotate_left
  ·rfl
  cases eqU t.data.toList [60]
  rotate_left
  ·rfl
  cases eqU t.data.toList [60,61]
  rotate_left
  ·rfl
  cases eqU t.data.toList [62]
  rotate_left
  ·rfl
  cases eqU t.data.toList [62,61]
  rotate_left
  ·rfl
  cases eqU t.data.toList [97,110,100]<;>cases eqU t.data.toList [111,114]<;>rfl
 cases k==5
 rotate_left
 ·cases n==0<;>rfl
 cases k==6
 rotate_left
 ·cases decide (n≥0)<;>rfl
 cases k==7<;>cases k==8<;>cases decide (n>i)<;>rfl
def spec:Spec:=fun aa=>match aa with
 |[a,.v (.int .i64 i),.v (.int .i64 m)]=>(oOf a).bind fun o=>some (.out (.bool (Ref.we o.1 o.2.1 o.2.2.1 i m 9223372036854775807 9223372036854775807)))
 |_=>none
theorem qf:qu Tryz.prog La 157 spec:=⟨qE (by kernel_rfl),fun aa t v h e=>by
 unfold spec at h
 split at h
 ·rename_i a i m
  obtain⟨x,h1,h⟩:=qi h
  cases h;cases e
  rw[Wy h1]
  exact⟨rfl,qR (l:=[]) (L:=[]) (n0:=4) (k:=12) qx qg qd (by simp) (by simp) (by decide) (by simp) rfl ((run _ _ _ _ _ _ _ _).trans (qL x i m))⟩
 ·cases h⟩
end A157
namespace A105L1
noncomputable def cfg:Cfg:=zz Tryz.prog 4 (gpT [(156,A156.spec),(157,A157.spec)]) (ltT 4 [])
def stA (n m:Nat) (k wO i:Int) (row:List Value):KX:=⟨[(4,.int .i64 k),(5,.pointer (some ⟨106,0,none⟩)),(7,.func (.func 155) #[] #[.pointer (some ⟨106,0,none⟩)]),(8,.int .i64 wO),(38,.slice (some ⟨0,0,none⟩) n 6),(39,.int .i64 (Int.ofNat n)),(40,.int .i64 i)],[[.slice (some ⟨107,0,none⟩) m 1],row]⟩
def kp:Ex→List Nat
 | .normal=>[4,5,7,8,38,39,40]
 | .exit _=>[4,5,8]
 | .ret=>[2,3]
def cr:Ex→St→List (Nat×Bool):=fun e s=>match e with
 | .ret=>[]
 |_=>match s.T.get 5 with
  |some (.pointer (some p))=>match zK s.h p.block with
   |some [.slice (some q) _ _]=>[(p.block,false),(q.block,true)]
   |_=>[]
  |_=>[]
theorem round (n m:Nat) (k wO i:Int) (row:List Value) (cs:List Value):zW cfg [(156,A156.spec),(157,A157.spec)] [] 105 1 (stK 113 106 [(0,cs)] (stA n m k wO i row)) (zD 106 100 113 kp cr)=(let x2:=IntKind.wrap .i64 (i+1);let x4:=0+(x2.toNat*1);let x12:=0+(i.toNat*1);let x13:=0+(i.toNat*6);let x5:=rdI cs (x13+1);let x3:=0+(x5.toNat*1);let x7:=rdI cs x13;let x1:=IntKind.wrap .i64 ((rdI row x12)+(Ref.zj x7 x5).2);let x6:=if x1>wO then x1 else wO;let x8:=rdI (zr row x3 [.int .i64 x1]) x4;let x9:=rdI (zr row x3 [.int .i64 x1]) x3;let x10:=rdI (zr row x4 [.int .i64 x1]) x4;let x11:=rdI (zr (zr row x3 [.int .i64 x1]) x4 [.int .i64 x1]) x4;let o2:Option (Ex×KX):=(bif(true&&(row.all qo&&true))then(some (.normal,⟨[(4,.int .i64 k),(5,.pointer (some ⟨106,0,none⟩)),(7,.func (.func 155) #[] #[.pointer (some ⟨106,0,none⟩)]),(8,.int .i64 x6),(38,.slice (some ⟨0,0,none⟩) n 6),(39,.int .i64 (Int.ofNat n)),(40,.int .i64 x2)],[[.slice (some ⟨107,0,none⟩) m 1],row]⟩))else none);let o3:Option (Ex×KX):=(some (.ret,⟨[(2,.int .i64 0),(3,.bool false)],[]⟩));let o1:Option (Ex×KX):=(bif decide (0≤x5)then(bif Nat.blt x5.toNat m then(bif isV row x3 (.i .i64)then(bif decide ((rdI row x3)<0)then(bif decide (0≤x5)then(bif Nat.blt x5.toNat m then(bif Nat.ble (x3+1) row.length then(bif decide (0≤x5)then(bif Nat.blt x5.toNat m then(bif isV (zr row x3 [.int .i64 x1]) x3 (.i .i64)then(bif(x7 != 7)then(bif(x9==x1)then(bif decide (0≤x2)then(bif Nat.blt x2.toNat m then(bif isV (zr row x3 [.int .i64 x1]) x4 (.i .i64)then(bif decide (x8<0)then(bif decide (0≤x2)then(bif Nat.blt x2.toNat m then(bif Nat.ble (x4+1) (zr row x3 [.int .i64 x1]).length then(bif decide (0≤x2)then(bif Nat.blt x2.toNat m then(bif isV (zr (zr row x3 [.int .i64 x1]) x4 [.int .i64 x1]) x4 (.i .i64)then(bif(!(x11==x1))then o3 else(bif(true&&((zr (zr row x3 [.int .i64 x1]) x4 [.int .i64 x1]).all qo&&true))then(some (.normal,⟨[(4,.int .i64 k),(5,.pointer (some ⟨106,0,none⟩)),(7,.func (.func 155) #[] #[.pointer (some ⟨106,0,none⟩)]),(8,.int .i64 x6),(38,.slice (some ⟨0,0,none⟩) n 6),(39,.int .i64 (Int.ofNat n)),(40,.int .i64 x2)],[[.slice (some ⟨107,0,none⟩) m 1],(zr (zr row x3 [.int .i64 x1]) x4 [.int .i64 x1])]⟩))else none))else none)else none)else none)else none)else none)else none)else(bif decide (0≤x2)then(bif Nat.blt x2.toNat m then(bif isV (zr row x3 [.int .i64 x1]) x4 (.i .i64)then(bif(!(x8==x1))then o3 else(bif(true&&((zr row x3 [.int .i64 x1]).all qo&&true))then(some (.normal,⟨[(4,.int .i64 k),(5,.pointer (some ⟨106,0,none⟩)),(7,.func (.func 155) #[] #[.pointer (some ⟨106,0,none⟩)]),(8,.int .i64 x6),(38,.slice (some ⟨0,0,none⟩) n 6),(39,.int .i64 (Int.ofNat n)),(40,.int .i64 x2)],[[.slice (some ⟨107,0,none⟩) m 1],(zr row x3 [.int .i64 x1])]⟩))else none))else none)else none)else none))else none)else none)else none)else o3)else(bif(!(x9==x1))then o3 else(bif(true&&((zr row x3 [.int .i64 x1]).all qo&&true))then(some (.normal,⟨[(4,.int .i64 k),(5,.pointer (some ⟨106,0,none⟩)),(7,.func (.func 155) #[] #[.pointer (some ⟨106,0,none⟩)]),(8,.int .i64 x6),(38,.slice (some ⟨0,0,none⟩) n 6),(39,.int .i64 (Int.ofNat n)),(40,.int .i64 x2)],[[.slice (some ⟨107,0,none⟩) m 1],(zr row x3 [.int .i64 x1])]⟩))else none)))else none)else none)else none)else none)else none)else none)else(bif decide (0≤x5)then(bif Nat.blt x5.toNat m then(bif isV row x3 (.i .i64)then(bif(x7 != 7)then(bif((rdI row x3)==x1)then(bif decide (0≤x2)then(bif Nat.blt x2.toNat m then(bif isV row x4 (.i .i64)then(bif decide ((rdI row x4)<0)then(bif decide (0≤x2)then(bif Nat.blt x2.toNat m then(bif Nat.ble (x4+1) row.length then(bif decide (0≤x2)then(bif Nat.blt x2.toNat m then(bif isV (zr row x4 [.int .i64 x1]) x4 (.i .i64)then(bif(!(x10==x1))then o3 else(bif(true&&((zr row x4 [.int .i64 x1]).all qo&&true))then(some (.normal,⟨[(4,.int .i64 k),(5,.pointer (some ⟨106,0,none⟩)),(7,.func (.func 155) #[] #[.pointer (some ⟨106,0,none⟩)]),(8,.int .i64 x6),(38,.slice (some ⟨0,0,none⟩) n 6),(39,.int .i64 (Int.ofNat n)),(40,.int .i64 x2)],[[.slice (some ⟨107,0,none⟩) m 1],(zr row x4 [.int .i64 x1])]⟩))else none))else none)else none)else none)else none)else none)else none)else(bif decide (0≤x2)then(bif Nat.blt x2.toNat m then(bif isV row x4 (.i .i64)then(bif(!((rdI row x4)==x1))then o3 else o2)else none)else none)else none))else none)else none)else none)else o3)else(bif(!((rdI row x3)==x1))then o3 else o2))else none)else none)else none))else none)else none)else none);(bif decide (i<(Int.ofNat n))then(bif decide (0≤i)then(bif Nat.blt i.toNat n then(bif isL cs x13 [(.i .i64),(.i .i64),.s,(.i .i64),(.i .i64),.s]then(bif decide (0≤i)then(bif Nat.blt i.toNat m then(bif isV row x12 (.i .i64)then(bif decide ((rdI row x12)<0)then o3 else(bif(!(Ref.we x7 x5 (rdS cs ((x13+1)+1)) i k 9223372036854775807 9223372036854775807))then o3 else(bif decide ((rdI row x12)<(Ref.zj x7 x5).1)then o3 else(bif decide (x1>1024)then o3 else(bif(x7==7)then o1 else(bif(x7==8)then o1 else(bif(x7 != 7)then(bif decide (0≤x2)then(bif Nat.blt x2.toNat m then(bif isV row x4 (.i .i64)then(bif decide ((rdI row x4)<0)then(bif decide (0≤x2)then(bif Nat.blt x2.toNat m then(bif Nat.ble (x4+1) row.length then(bif decide (0≤x2)then(bif Nat.blt x2.toNat m then(bif isV (zr row x4 [.int .i64 x1]) x4 (.i .i64)then(bif(!(x10==x1))then o3 else(bif(true&&((zr row x4 [.int .i64 x1]).all qo&&true))then(some (.normal,⟨[(4,.int .i64 k),(5,.pointer (some ⟨106,0,none⟩)),(7,.func (.func 155) #[] #[.pointer (some ⟨106,0,none⟩)]),(8,.int .i64 x6),(38,.slice (some ⟨0,0,none⟩) n 6),(39,.int .i64 (Int.ofNat n)),(40,.int .i64 x2)],[[.slice (some ⟨107,0,none⟩) m 1],(zr row x4 [.int .i64 x1])]⟩))else none))else none)else none)else none)else none)else none)else none)else(bif decide (0≤x2)then(bif Nat.blt x2.toNat m then(bif isV row x4 (.i .i64)then(bif(!((rdI row x4)==x1))then o3 else o2)else none)else none)else none))else none)else none)else none)else o2)))))))else none)else none)else none)else none)else none)else none)else(bif(true&&(row.all qo&&true))then(some (.exit 2,⟨[(4,.int .i64 k),(5,.pointer (some ⟨106,0,none⟩)),(8,.int .i64 wO)],[[.slice (some ⟨107,0,none⟩) m 1],row]⟩))else none))):=by kernel_rfl
def qV:KX:=⟨[(2,.int .i64 0),(3,.bool false)],[]⟩
def jl (m:Nat) (k wO:Int) (row:List Value):KX:=⟨[(4,.int .i64 k),(5,.pointer (some ⟨106,0,none⟩)),(8,.int .i64 wO)],[[.slice (some ⟨107,0,none⟩) m 1],row]⟩
abbrev MX:Int:=9223372036854775807
theorem rd {t:List Int} {j:Nat} (h:j<t.length):rdI (ints .i64 t) j=t.getD j 0:=by
 rw[wE _ _ h,List.getD_eq_getElem?_getD,List.getElem?_eq_getElem h];rfl
theorem cy (a b:Int):(if a>b then a else b)=max b a:=by
 by_cases h:a>b
 ·rw[if_pos h];omega
 ·rw[if_neg h];omega
set_option maxHeartbeats 0 in
theorem next (l:List O6) (hl:l.length≤4096) {s:List Int×Int} (hg:AHei.Good l.length s) {i:Nat} (hi:i<l.length):
  zW cfg [(156,A156.spec),(157,A157.spec)] [] 105 1 (stK 113 106 [(0,zu l)] (stA l.length (l.length+1) l.length s.2 i (ints .i64 s.1))) (zD 106 100 113 kp cr)=
  some (match AHei.step l.length MX MX s i l[i]with|some t=>(.normal,stA l.length (l.length+1) l.length t.2 ((i+1:Nat):Int) (ints .i64 t.1))|none=>(.ret,qV)):=by
 rw[round]
 dsimp only[]
 have hlen:=hg.len
 have h1:decide ((i:Int)<Int.ofNat l.length)=true:=decide_eq_true (by show (i:Int)<(l.length:Int);omega)
 have h2:=geI i
 have h3:Nat.blt ((i:Int)).toNat l.length=true:=by rw[Nat.blt_eq];simpa using hi
 have h3':Nat.blt ((i:Int)).toNat (l.length+1)=true:=by rw[Nat.blt_eq];simp;omega
 have h4:(0+((i:Int)).toNat*6)=i*6:=by simp
 have h4':(0+((i:Int)).toNat*1)=i:=by simp
 have h5:=wrI i (by omega)
 have h6:(0+(((i+1:Nat):Int)).toNat*1)=i+1:=by simp
 have h7:decide ((0:Int)≤((i+1:Nat):Int))=true:=decide_eq_true (by omega)
 have h8:Nat.blt (((i+1:Nat):Int)).toNat (l.length+1)=true:=by rw[Nat.blt_eq,Int.toNat_natCast];omega
 have hv: ∀t:List Int,t.length=l.length+1→ ∀j,j<l.length+1→isV (ints .i64 t) j (.i .i64)=true:=fun t ht j hj=>vG _ _ (by omega)
 have hr: ∀t:List Int,t.length=l.length+1→ ∀j,j<l.length+1→rdI (ints .i64 t) j=t.getD j 0:=fun t ht j hj=>rd (by omega)
 have hp: ∀t:List Int,t.length=l.length+1→ ∀j,j<l.length+1→ ∀g:Int,zr (ints .i64 t) j [.int .i64 g]=ints .i64 (t.set j g):=fun t ht j hj g=>AHei.Zt (by omega) g
 have hb: ∀t:List Int,t.length=l.length+1→ ∀j,j<l.length+1→Nat.ble (j+1) (ints .i64 t).length=true:=fun t ht j hj=>by rw[Nat.ble_eq,zH];omega
 have hs: ∀t:List Int,t.length=l.length+1→ ∀j,∀g:Int,(t.set j g).length=l.length+1:=fun t ht j g=>by simpa using ht
 have hq: ∀t:List Int,t.length=l.length+1→ ∀j,j<l.length+1→ ∀g:Int,((t.set j g).getD j 0==g)=true:=fun t ht j hj g=>by
  rw[List.getD_eq_getElem?_getD,List.getElem?_set_self (by omega)]
  exact beq_self_eq_true g
 have hq2: ∀t:List Int,t.length=l.length+1→ ∀j,j<l.length+1→ ∀g:Int,(t.set j g).getD j 0=g:=fun t ht j hj g=>beq_iff_eq.1 (hq t ht j hj g)
 simp only[h1,h2,h3,h3',h4,h4',h5,h6,h7,h8,xG l hi,JM l hi,XM l hi,aX l hi,hv s.1 hlen i (by omega),hr s.1 hlen i (by omega),cond_true,Bool.true_and,qY,List.length_singleton,Bool.and_true,cy]
 generalize l[i]=o at*
 unfold AHei.step
 generalize hh:s.1.getD i 0=h
 cases c1:decide (h<0)
 rotate_left
 ·rfl
 cases c2:Ref.we o.1 o.2.1 o.2.2.1 i l.length MX MX
 ·rfl
 cases c3:decide (h<(Ref.zj o.1 o.2.1).1)
 rotate_left
 ·rfl
 have hh1:h≤1024:=by rw[←hh];exact(hg.le _ (AHei.jZ (by omega))).2
 simp only[decide_eq_false_iff_not]at c1 c3
 obtain⟨n1,n2,n3,n4⟩:=AHei.yy (k:=o.1) (n:=o.2.1) (AHei.ZY c2)
 have hw:IntKind.wrap .i64 (h+(Ref.zj o.1 o.2.1).2)=h+(Ref.zj o.1 o.2.1).2:=zZ (by omega) (by omega)
 simp only[hw]
 generalize h+(Ref.zj o.1 o.2.1).2=g at*
 cases c4:decide (g>1024)
 rotate_left
 ·rfl
 simp only[cond_false,Bool.not_true,Bool.or_self,Bool.false_or]
 have hi1:i+1<l.length+1:=by omega
 unfold AHei.put
 cases k7:o.1==7
 ·have k7' : (o.1 != 7) = true := by rw [bne, k7]; rfl
  cases k8:o.1==8
  ·simp only [k7', cond_true, cond_false, Bool.or_self, Option.bind_some, hv s.1 hlen _ hi1, hr s.1 hlen _ hi1, hp s.1 hlen _ hi1, hb s.1 hlen _ hi1, hv _ (hs s.1 hlen _ _) _ hi1, hr _ (hs s.1 hlen _ _) _ hi1, hq s.1 hlen _ hi1, Bool.not_true, qY]
   cases decide (s.1.getD (i+1) 0<0)
   ·cases s.1.getD (i+1) 0==g<;>rfl
   ·rfl
  ·obtain ⟨m1, m2⟩ := AHei.xw c2 (.inr (beq_iff_eq.1 k8))
   obtain⟨N,hN⟩:=Int.eq_ofNat_of_zero_le (show 0≤o.2.1 by omega)
   rw[hN]at m1 m2 ⊢
   have hNl:N<l.length+1:=by omega
   have e1:decide ((0:Int)≤(N:Int))=true:=decide_eq_true (by omega)
   have e2:Nat.blt N (l.length+1)=true:=by rw[Nat.blt_eq];exact hNl
   have e3:(0+N*1)=N:=by simp
   have hls:=hs s.1 hlen
   simp only[e1,e2,e3,Int.toNat_natCast,k7',cond_true,cond_false,Bool.false_or,hv s.1 hlen N hNl,hr s.1 hlen N hNl,hp s.1 hlen N hNl,hb s.1 hlen N hNl,hv _ (hls N g) N hNl,hr _ (hls N g) N hNl,hq s.1 hlen N hNl,hq2 s.1 hlen N hNl,Bool.not_true,hv s.1 hlen _ hi1,hr s.1 hlen _ hi1,hp s.1 hlen _ hi1,hb s.1 hlen _ hi1,hv _ (hls (i+1) g) _ hi1,hr _ (hls (i+1) g) _ hi1,hq s.1 hlen _ hi1,hv _ (hls N g) _ hi1,hr _ (hls N g) _ hi1,hp _ (hls N g) _ hi1,hb _ (hls N g) _ hi1,hv _ (hs _ (hls N g) (i+1) g) _ hi1,hr _ (hs _ (hls N g) (i+1) g) _ hi1,hq _ (hls N g) _ hi1,beq_self_eq_true,qY]
   cases decide (s.1.getD N 0<0)
   ·simp only [cond_false]
    cases s.1.getD N 0==g
    ·rfl
    ·simp only [cond_true, Option.bind_some]
     cases decide (s.1.getD (i+1) 0<0)
     ·cases s.1.getD (i+1) 0==g<;>rfl
     ·rfl
   ·simp only [cond_true, Option.bind_some]
    cases decide ((s.1.set N g).getD (i+1) 0<0)
    ·cases (s.1.set N g).getD (i+1) 0==g<;>rfl
    ·rfl
 ·have k7' : (o.1 != 7) = false := by rw [bne, k7]; rfl
  obtain⟨m1,m2⟩:=AHei.xw c2 (.inl (beq_iff_eq.1 k7))
  obtain⟨N,hN⟩:=Int.eq_ofNat_of_zero_le (show 0≤o.2.1 by omega)
  rw[hN]at m1 m2 ⊢
  have hNl:N<l.length+1:=by omega
  have e1:decide ((0:Int)≤(N:Int))=true:=decide_eq_true (by omega)
  have e2:Nat.blt N (l.length+1)=true:=by rw[Nat.blt_eq];exact hNl
  have e3:(0+N*1)=N:=by simp
  have hls:=hs s.1 hlen
  simp only[e1,e2,e3,Int.toNat_natCast,k7',cond_true,cond_false,Bool.true_or,hv s.1 hlen N hNl,hr s.1 hlen N hNl,hp s.1 hlen N hNl,hb s.1 hlen N hNl,hv _ (hls N g) N hNl,hr _ (hls N g) N hNl,hq2 s.1 hlen N hNl,beq_self_eq_true,Bool.not_true,qY]
  cases decide (s.1.getD N 0<0)
  ·cases s.1.getD N 0==g<;>rfl
  ·rfl
theorem last (l:List O6) {s:List Int×Int} (hg:AHei.Good l.length s):
  zW cfg [(156,A156.spec),(157,A157.spec)] [] 105 1 (stK 113 106 [(0,zu l)] (stA l.length (l.length+1) l.length s.2 l.length (ints .i64 s.1))) (zD 106 100 113 kp cr)=
  some (.exit 2,jl (l.length+1) l.length s.2 (ints .i64 s.1)):=by
 rw[round]
 dsimp only[]
 have h1:=xZ l.length
 simp only[h1,cond_false,qY,Bool.and_true,cond_true]
 rfl
def D:KD:=⟨113,106,100,[4,5,7,8,38,39,40],[0],fun s=>match s.T.get 5 with
 |some (.pointer (some p))=>match zK s.h p.block with
  |some [.slice (some q) _ _]=>[(p.block,false),(q.block,true)]
  |_=>[]
 |_=>[],fun x ro=>match x.vs,x.cars,ro with
 |[(4,.int .i64 k),(5,.pointer (some ⟨106,0,none⟩)),(7,.func (.func 155) ⟨[]⟩ ⟨[.pointer (some ⟨106,0,none⟩)]⟩),(8,.int .i64 0),(38,.slice (some ⟨0,0,none⟩) n 6),(39,.int .i64 m),(40,.int .i64 0)],[[.slice (some ⟨107,0,none⟩) p 1],row],[(0,cs)]=>
  .qI (je n m cs&&(k==m&&(Nat.ble n 4096&&(Nat.beq p (n+1)&&AHei.isF n row)))) (.br (AHei.j4 m MX MX (opsOf cs) (AHei.first n,0)) (.out (.exit 2,jl p k (AHei.wO m MX MX (opsOf cs) (AHei.first n,0)) (ints .i64 (AHei.j5 m MX MX (opsOf cs) (AHei.first n,0))))) (.out (.ret,qV)))
 |_,_,_=> .no⟩
def lp:LpK:=⟨105,14,1,D⟩
theorem chain {Step:KX→Ex→KX→Prop} {l:List O6} (hl:l.length≤4096)
  (hn: ∀s i (hi:i<l.length),AHei.Good l.length s→match AHei.step l.length MX MX s i l[i]with|some t=>Step (stA l.length (l.length+1) l.length s.2 i (ints .i64 s.1)) .normal (stA l.length (l.length+1) l.length t.2 ((i+1:Nat):Int) (ints .i64 t.1))|none=>Step (stA l.length (l.length+1) l.length s.2 i (ints .i64 s.1)) .ret qV)
  (he: ∀s,AHei.Good l.length s→Step (stA l.length (l.length+1) l.length s.2 l.length (ints .i64 s.1)) (.exit 2) (jl (l.length+1) l.length s.2 (ints .i64 s.1))):
  ∀(j i:Nat) (s:List Int×Int),i+j=l.length→AHei.Good l.length s→match AHei.run l.length MX MX i (l.drop i) s with|some t=>zF Step (stA l.length (l.length+1) l.length s.2 i (ints .i64 s.1)) (.exit 2) (jl (l.length+1) l.length t.2 (ints .i64 t.1))|none=>zF Step (stA l.length (l.length+1) l.length s.2 i (ints .i64 s.1)) .ret qV
 |0,i,s,h,hg=>by
  obtain rfl:i=l.length:=by omega
  rw[List.drop_length]
  exact .stop (by simp) (he s hg)
 |j+1,i,s,h,hg=>by
  have hi:i<l.length:=by omega
  rw[List.drop_eq_getElem_cons hi]
  unfold AHei.run
  have hs:=hn s i hi hg
  cases e:AHei.step l.length MX MX s i l[i]with
  |none=>rw[e]at hs;exact .stop (by simp) hs
  |some t=>
   rw[e]at hs
   have hgt:=AHei.yN hg e
   have ih:=chain hl hn he j (i+1) t (by omega) hgt
   simp only[Option.bind_some]
   cases e2:AHei.run l.length MX MX (i+1) (l.drop (i+1)) t with
   |none=>rw[e2]at ih;exact .next hs ih
   |some u=>rw[e2]at ih;exact .next hs ih
theorem qG:zw Tryz.prog La 4 lp:=by
 refine⟨by kernel_rfl,fun c base I hP hn hG hI hIL x ro ex y e=> ?_⟩
 obtain⟨vs,cars⟩:=x
 simp only[lp,D]at e ⊢
 split at e
 ·rename_i k n m p row cs
  obtain⟨g1,g2⟩:=GT.qh e
  simp only[Bool.and_eq_true,beq_iff_eq]at g1
  obtain⟨g3,rfl,g4,g5,g6⟩:=g1
  obtain⟨rfl,hn2,h4,h5⟩:=jy g3
  generalize opsOf cs=l at h4 h5 g2
  subst h4 h5
  have g4:=Nat.le_of_ble_eq_true g4
  obtain rfl:=Nat.eq_of_beq_eq_true g5
  obtain rfl:=AHei.bY g6
  have key:=chain (Step:= @zA (zV base) c base I (qW Tryz.prog 105 1) 113 106 100 [(0,zu l)]) g4 (fun s i hi hg=>by
    have hr:=next l g4 hg hi
    cases hs:AHei.step l.length MX MX s i l[i]with
    |none=>rw[hs]at hr;exact stepT qg qd (by simpa using⟨A156.qf,A157.qf⟩) (by simp) hP hn hG hI hIL hr
    |some t=>rw[hs]at hr;exact stepT qg qd (by simpa using⟨A156.qf,A157.qf⟩) (by simp) hP hn hG hI hIL hr)
   (fun s hg=>stepT qg qd (by simpa using⟨A156.qf,A157.qf⟩) (by simp) hP hn hG hI hIL (last l hg)) l.length 0 (AHei.first l.length,0) (by omega) (AHei.wZ _)
  rw[List.drop_zero]at key
  unfold AHei.j4 AHei.wO AHei.j5 at g2
  cases hrun:AHei.run l.length MX MX 0 l (AHei.first l.length,0)with
  |none=>
   rw[hrun]at key
   rw[show (Int.ofNat l.length)=(l.length:Int)from rfl,hrun]at g2
   cases g2;exact key
  |some t=>
   rw[hrun]at key
   rw[show (Int.ofNat l.length)=(l.length:Int)from rfl,hrun]at g2
   cases g2;exact key
 ·cases e
end A105L1
namespace A60L1
noncomputable def cfg:Cfg:=zz Tryz.prog 4 (gpT [(115,A115.spec),(116,A116.spec)]) (ltT 4 [])
def stA (n:Nat) (lf la k wO i:Int) (m:Nat) (row:List Value):KX:=⟨[(0,.slice (some ⟨0,0,none⟩) n 6),(1,.int .i64 lf),(2,.int .i64 la),(7,.int .i64 k),(8,.slice (some ⟨104,0,none⟩) m 1),(10,.int .i64 wO),(11,.int .i64 i)],[row]⟩
def kp:Ex→List Nat
 | .normal=>[0,1,2,7,8,10,11]
 | .exit _=>[7,8,10]
 | .ret=>[6]
def cr:Ex→St→List (Nat×Bool):=fun e s=>match e with
 | .ret=>[]
 |_=>match s.T.get 8 with
  |some (.slice (some q) _ _)=>[(q.block,true)]
  |_=>[]
theorem round (n:Nat) (lf la k wO i:Int) (m:Nat) (row:List Value) (cs:List Value):zW cfg [(115,A115.spec),(116,A116.spec)] [] 60 1 (stK 148 104 [(0,cs)] (stA n lf la k wO i m row)) (zD 104 100 148 kp cr)=(let x5:=IntKind.wrap .i64 (i+1);let x3:=0+(x5.toNat*1);let x7:=0+(i.toNat*6);let x2:=rdI cs (x7+1);let x4:=0+(x2.toNat*1);let x9:=0+(i.toNat*1);let x1:=IntKind.wrap .i64 ((IntKind.wrap .i64 ((rdI row x9) - (Ref.kH (rdI cs x7) x2).1))+(Ref.kH (rdI cs x7) x2).2);let x6:=if x1>wO then x1 else wO;let x8:=rdI (zr row x3 [.int .i64 x1]) x4;let o4:Option (Ex×KX):=(bif decide (0≤x5)then(bif Nat.blt x5.toNat m then(bif Nat.ble (x3+1) row.length then(bif((zr row x3 [.int .i64 x1]).all qo&&true)then(some (.normal,⟨[(0,.slice (some ⟨0,0,none⟩) n 6),(1,.int .i64 lf),(2,.int .i64 la),(7,.int .i64 k),(8,.slice (some ⟨104,0,none⟩) m 1),(10,.int .i64 x6),(11,.int .i64 x5)],[(zr row x3 [.int .i64 x1])]⟩))else none)else none)else none)else none);let o5:Option (Ex×KX):=(some (.ret,⟨[(6,.int .i64 0)],[]⟩));let o1:Option (Ex×KX):=(bif decide (0≤x5)then(bif Nat.blt x5.toNat m then(bif Nat.ble (x3+1) row.length then(bif decide (0≤x2)then(bif Nat.blt x2.toNat m then(bif isV (zr row x3 [.int .i64 x1]) x4 (.i .i64)then(bif decide (x8≥0)then(bif decide (0≤x2)then(bif Nat.blt x2.toNat m then(bif isV (zr row x3 [.int .i64 x1]) x4 (.i .i64)then(bif(x8 != x1)then o5 else(bif decide (0≤x2)then(bif Nat.blt x2.toNat m then(bif Nat.ble (x4+1) (zr row x3 [.int .i64 x1]).length then(bif((zr (zr row x3 [Value.int .i64 x1]) x4 [.int .i64 x1]).all qo&&true)then(some (.normal,⟨[(0,.slice (some ⟨0,0,none⟩) n 6),(1,.int .i64 lf),(2,.int .i64 la),(7,.int .i64 k),(8,.slice (some ⟨104,0,none⟩) m 1),(10,.int .i64 x6),(11,.int .i64 x5)],[(zr (zr row x3 [Value.int .i64 x1]) x4 [.int .i64 x1])]⟩))else none)else none)else none)else none))else none)else none)else none)else(bif decide (0≤x2)then(bif Nat.blt x2.toNat m then(bif Nat.ble (x4+1) (zr row x3 [.int .i64 x1]).length then(bif((zr (zr row x3 [Value.int .i64 x1]) x4 [.int .i64 x1]).all qo&&true)then(some (.normal,⟨[(0,.slice (some ⟨0,0,none⟩) n 6),(1,.int .i64 lf),(2,.int .i64 la),(7,.int .i64 k),(8,.slice (some ⟨104,0,none⟩) m 1),(10,.int .i64 x6),(11,.int .i64 x5)],[(zr (zr row x3 [Value.int .i64 x1]) x4 [.int .i64 x1])]⟩))else none)else none)else none)else none))else none)else none)else none)else none)else none)else none);let o2:Option (Ex×KX):=(bif decide (0≤i)then(bif Nat.blt i.toNat n then(bif isV cs (x7+1) (.i .i64)then(bif decide (0≤x2)then(bif Nat.blt x2.toNat m then(bif isV row x4 (.i .i64)then(bif decide ((rdI row x4)≥0)then(bif decide (0≤x2)then(bif Nat.blt x2.toNat m then(bif isV row x4 (.i .i64)then(bif((rdI row x4) != x1)then o5 else(bif decide (0≤x2)then(bif Nat.blt x2.toNat m then(bif Nat.ble (x4+1) row.length then(bif((zr row x4 [.int .i64 x1]).all qo&&true)then(some (.normal,⟨[(0,.slice (some ⟨0,0,none⟩) n 6),(1,.int .i64 lf),(2,.int .i64 la),(7,.int .i64 k),(8,.slice (some ⟨104,0,none⟩) m 1),(10,.int .i64 x6),(11,.int .i64 x5)],[(zr row x4 [.int .i64 x1])]⟩))else none)else none)else none)else none))else none)else none)else none)else(bif decide (0≤x2)then(bif Nat.blt x2.toNat m then(bif Nat.ble (x4+1) row.length then(bif((zr row x4 [.int .i64 x1]).all qo&&true)then(some (.normal,⟨[(0,.slice (some ⟨0,0,none⟩) n 6),(1,.int .i64 lf),(2,.int .i64 la),(7,.int .i64 k),(8,.slice (some ⟨104,0,none⟩) m 1),(10,.int .i64 x6),(11,.int .i64 x5)],[(zr row x4 [.int .i64 x1])]⟩))else none)else none)else none)else none))else none)else none)else none)else none)else none)else none);let o3:Option (Ex×KX):=(bif decide (0≤i)then(bif Nat.blt i.toNat n then(bif isV cs (x7+1) (.i .i64)then(bif decide (0≤x5)then(bif Nat.blt x5.toNat m then(bif isV row x3 (.i .i64)then(bif decide ((rdI row x3)≥0)then(bif decide (0≤x5)then(bif Nat.blt x5.toNat m then(bif isV row x3 (.i .i64)then(bif((rdI row x3) != x1)then o5 else o1)else none)else none)else none)else o1)else none)else none)else none)else none)else none)else none);(bif decide (i<k)then(bif decide (0≤i)then(bif Nat.blt i.toNat m then(bif isV row x9 (.i .i64)then(bif decide (0≤i)then(bif Nat.blt i.toNat n then(bif isL cs x7 [(.i .i64),(.i .i64),.s,(.i .i64),(.i .i64),.s]then(bif decide (0≤i)then(bif Nat.blt i.toNat n then(bif isL cs x7 [(.i .i64),(.i .i64),.s,(.i .i64),(.i .i64),.s]then(bif(!(Ref.we (rdI cs x7) x2 (rdS cs ((x7+1)+1)) i k lf la))then o5 else(bif decide ((rdI row x9)<(Ref.kH (rdI cs x7) x2).1)then o5 else(bif decide (x1>1024)then o5 else(bif decide (0≤i)then(bif Nat.blt i.toNat n then(bif isV cs (x7+0) (.i .i64)then(bif((rdI cs (x7+0)) != 7)then(bif decide (0≤i)then(bif Nat.blt i.toNat n then(bif isV cs (x7+0) (.i .i64)then(bif((rdI cs (x7+0))==7)then o3 else(bif decide (0≤i)then(bif Nat.blt i.toNat n then(bif isV cs (x7+0) (.i .i64)then(bif((rdI cs (x7+0))==8)then o3 else(bif decide (0≤x5)then(bif Nat.blt x5.toNat m then(bif isV row x3 (.i .i64)then(bif decide ((rdI row x3)≥0)then(bif decide (0≤x5)then(bif Nat.blt x5.toNat m then(bif isV row x3 (.i .i64)then(bif((rdI row x3) != x1)then o5 else o4)else none)else none)else none)else o4)else none)else none)else none))else none)else none)else none))else none)else none)else none)else(bif decide (0≤i)then(bif Nat.blt i.toNat n then(bif isV cs (x7+0) (.i .i64)then(bif((rdI cs (x7+0))==7)then o2 else(bif decide (0≤i)then(bif Nat.blt i.toNat n then(bif isV cs (x7+0) (.i .i64)then(bif((rdI cs (x7+0))==8)then o2 else(bif(row.all qo&&true)then(some (.normal,⟨[(0,.slice (some ⟨0,0,none⟩) n 6),(1,.int .i64 lf),(2,.int .i64 la),(7,.int .i64 k),(8,.slice (some ⟨104,0,none⟩) m 1),(10,.int .i64 x6),(11,.int .i64 x5)],[row]⟩))else none))else none)else none)else none))else none)else none)else none))else none)else none)else none))))else none)else none)else none)else none)else none)else none)else none)else none)else none)else(bif(row.all qo&&true)then(some (.exit 2,⟨[(7,.int .i64 k),(8,.slice (some ⟨104,0,none⟩) m 1),(10,.int .i64 wO)],[row]⟩))else none))):=by kernel_rfl
def qV:KX:=⟨[(6,.int .i64 0)],[]⟩
def jl (m:Nat) (k wO:Int) (row:List Value):KX:=⟨[(7,.int .i64 k),(8,.slice (some ⟨104,0,none⟩) m 1),(10,.int .i64 wO)],[row]⟩
theorem cG (l:List O6) {j:Nat} (h:j<l.length):isV (zu l) (j*6+0) (.i .i64)=true:=by
 unfold isV;rw[vm l h 0 (by omega)];rfl
theorem rX (l:List O6) {j:Nat} (h:j<l.length):isV (zu l) (j*6+1) (.i .i64)=true:=by
 unfold isV;rw[vm l h 1 (by omega)];rfl
set_option maxHeartbeats 0 in
theorem next (l:List O6) (hl:l.length≤4096) (lf la:Int) {s:List Int×Int} (hg:AHei.Good l.length s) {i:Nat} (hi:i<l.length):
  zW cfg [(115,A115.spec),(116,A116.spec)] [] 60 1 (stK 148 104 [(0,zu l)] (stA l.length lf la l.length s.2 i (l.length+1) (ints .i64 s.1))) (zD 104 100 148 kp cr)=
  some (match AHei.ZI l.length lf la s i l[i]with|some t=>(.normal,stA l.length lf la l.length t.2 ((i+1:Nat):Int) (l.length+1) (ints .i64 t.1))|none=>(.ret,qV)):=by
 rw[round]
 dsimp only[]
 have hlen:=hg.len
 have h1:decide ((i:Int)<(l.length:Int))=true:=decide_eq_true (by omega)
 have h2:=geI i
 have h3:Nat.blt ((i:Int)).toNat l.length=true:=by rw[Nat.blt_eq];simpa using hi
 have h3':Nat.blt ((i:Int)).toNat (l.length+1)=true:=by rw[Nat.blt_eq];simp;omega
 have h4:(0+((i:Int)).toNat*6)=i*6:=by simp
 have h4':(0+((i:Int)).toNat*1)=i:=by simp
 have h5:=wrI i (by omega)
 have h6:(0+(((i+1:Nat):Int)).toNat*1)=i+1:=by simp
 have h7:decide ((0:Int)≤((i+1:Nat):Int))=true:=decide_eq_true (by omega)
 have h8:Nat.blt (((i+1:Nat):Int)).toNat (l.length+1)=true:=by rw[Nat.blt_eq,Int.toNat_natCast];omega
 have hk0:rdI (zu l) (i*6+0)=l[i].1:=JM l hi
 have hv: ∀t:List Int,t.length=l.length+1→ ∀j,j<l.length+1→isV (ints .i64 t) j (.i .i64)=true:=fun t ht j hj=>vG _ _ (by omega)
 have hr: ∀t:List Int,t.length=l.length+1→ ∀j,j<l.length+1→rdI (ints .i64 t) j=t.getD j 0:=fun t ht j hj=>A105L1.rd (by omega)
 have hp: ∀t:List Int,t.length=l.length+1→ ∀j,j<l.length+1→ ∀g:Int,zr (ints .i64 t) j [.int .i64 g]=ints .i64 (t.set j g):=fun t ht j hj g=>AHei.Zt (by omega) g
 have hb: ∀t:List Int,t.length=l.length+1→ ∀j,j<l.length+1→Nat.ble (j+1) (ints .i64 t).length=true:=fun t ht j hj=>by rw[Nat.ble_eq,zH];omega
 have hs: ∀t:List Int,t.length=l.length+1→ ∀j,∀g:Int,(t.set j g).length=l.length+1:=fun t ht j g=>by simpa using ht
 simp only[h1,h2,h3,h3',h4,h4',h5,h6,h7,h8,xG l hi,cG l hi,rX l hi,hk0,JM l hi,XM l hi,aX l hi,hv s.1 hlen i (by omega),hr s.1 hlen i (by omega),cond_true,qY,Bool.and_true,A105L1.cy]
 generalize l[i]=o at*
 unfold AHei.ZI
 generalize hh:s.1.getD i 0=h
 cases c2:Ref.we o.1 o.2.1 o.2.2.1 i l.length lf la
 ·rfl
 cases c3:decide (h<(Ref.kH o.1 o.2.1).1)
 rotate_left
 ·rfl
 have hh1: -1≤h∧h≤1024:=by rw[←hh];exact(hg.le _ (AHei.jZ (by omega)))
 simp only[decide_eq_false_iff_not]at c3
 obtain⟨a1,a2⟩:=AHei.aw (k:=o.1) (n:=o.2.1) (AHei.ZY c2)
 obtain⟨n1,n2,n3,n4⟩:=AHei.yy (k:=o.1) (n:=o.2.1) (AHei.ZY c2)
 have hw:IntKind.wrap .i64 (IntKind.wrap .i64 (h - (Ref.kH o.1 o.2.1).1)+(Ref.kH o.1 o.2.1).2)=h - (Ref.kH o.1 o.2.1).1+(Ref.kH o.1 o.2.1).2:=by
  rw[show IntKind.wrap .i64 (h - (Ref.kH o.1 o.2.1).1)=h - (Ref.kH o.1 o.2.1).1 from zZ (by omega) (by omega),zZ (by omega) (by omega)]
 simp only[hw]
 generalize h - (Ref.kH o.1 o.2.1).1+(Ref.kH o.1 o.2.1).2=g at*
 cases c4:decide (g>1024)
 rotate_left
 ·rfl
 simp only[cond_false,Bool.not_true,Bool.or_self]
 have hi1:i+1<l.length+1:=by omega
 have hls:=hs s.1 hlen
 unfold AHei.cq
 cases k7:o.1==7
 ·have k7' : (o.1 != 7) = true := by rw [bne, k7]; rfl
  cases k8:o.1==8
  ·simp only [k7', cond_true, cond_false, Bool.or_self, hv s.1 hlen _ hi1, hr s.1 hlen _ hi1, hp s.1 hlen _ hi1, hb s.1 hlen _ hi1, qY]
   cases decide (s.1.getD (i+1) 0≥0)<;>cases s.1.getD (i+1) 0 != g<;>rfl
  ·obtain ⟨m1, m2⟩ := AHei.xw c2 (.inr (beq_iff_eq.1 k8))
   obtain⟨N,hN⟩:=Int.eq_ofNat_of_zero_le (show 0≤o.2.1 by omega)
   rw[hN]at m1 m2 ⊢
   have hNl:N<l.length+1:=by omega
   have e1:decide ((0:Int)≤(N:Int))=true:=decide_eq_true (by omega)
   have e2:Nat.blt N (l.length+1)=true:=by rw[Nat.blt_eq];exact hNl
   have e3:(0+N*1)=N:=by simp
   simp only[e1,e2,e3,Int.toNat_natCast,k7',cond_true,cond_false,Bool.false_or,hv s.1 hlen _ hi1,hr s.1 hlen _ hi1,hp s.1 hlen _ hi1,hb s.1 hlen _ hi1,hv _ (hls (i+1) g) _ hNl,hr _ (hls (i+1) g) _ hNl,hp _ (hls (i+1) g) _ hNl,hb _ (hls (i+1) g) _ hNl,qY]
   cases decide (s.1.getD (i+1) 0≥0)
   ·simp only [Bool.false_and, cond_false, Option.bind_some]
    cases decide ((s.1.set (i+1) g).getD N 0≥0)<;>cases (s.1.set (i+1) g).getD N 0 != g<;>rfl
   ·cases s.1.getD (i + 1) 0 != g
    ·simp only [Bool.true_and, cond_true, cond_false, Option.bind_some]
     cases decide ((s.1.set (i+1) g).getD N 0≥0)<;>cases (s.1.set (i+1) g).getD N 0 != g<;>rfl
    ·rfl
 ·have k7' : (o.1 != 7) = false := by rw [bne, k7]; rfl
  obtain⟨m1,m2⟩:=AHei.xw c2 (.inl (beq_iff_eq.1 k7))
  obtain⟨N,hN⟩:=Int.eq_ofNat_of_zero_le (show 0≤o.2.1 by omega)
  rw[hN]at m1 m2 ⊢
  have hNl:N<l.length+1:=by omega
  have e1:decide ((0:Int)≤(N:Int))=true:=decide_eq_true (by omega)
  have e2:Nat.blt N (l.length+1)=true:=by rw[Nat.blt_eq];exact hNl
  have e3:(0+N*1)=N:=by simp
  simp only[e1,e2,e3,Int.toNat_natCast,k7',cond_true,cond_false,Bool.true_or,Option.bind_some,hv s.1 hlen N hNl,hr s.1 hlen N hNl,hp s.1 hlen N hNl,hb s.1 hlen N hNl,qY]
  cases decide (s.1.getD N 0≥0)<;>cases s.1.getD N 0 != g<;>rfl
theorem last (l:List O6) (lf la:Int) {s:List Int×Int} (hg:AHei.Good l.length s):
  zW cfg [(115,A115.spec),(116,A116.spec)] [] 60 1 (stK 148 104 [(0,zu l)] (stA l.length lf la l.length s.2 l.length (l.length+1) (ints .i64 s.1))) (zD 104 100 148 kp cr)=
  some (.exit 2,jl (l.length+1) l.length s.2 (ints .i64 s.1)):=by
 rw[round]
 dsimp only[]
 have h1:decide ((l.length:Int)<(l.length:Int))=false:=decide_eq_false (by omega)
 simp only[h1,cond_false,qY,Bool.and_true,cond_true]
 rfl
def D:KD:=⟨148,104,100,[0,1,2,7,8,10,11],[0],fun s=>match s.T.get 8 with
 |some (.slice (some q) _ _)=>[(q.block,true)]
 |_=>[],fun x ro=>match x.vs,x.cars,ro with
 |[(0,.slice (some ⟨0,0,none⟩) n 6),(1,.int .i64 lf),(2,.int .i64 la),(7,.int .i64 k),(8,.slice (some ⟨104,0,none⟩) p 1),(10,.int .i64 0),(11,.int .i64 0)],[row],[(0,cs)]=>
  .qI (je n k cs&&(Nat.ble n 4096&&(Nat.beq p (n+1)&&AHei.isF n row))) (.br (AHei.j4 k lf la (opsOf cs) (AHei.first n,0)) (.out (.exit 2,jl p k (AHei.wO k lf la (opsOf cs) (AHei.first n,0)) (ints .i64 (AHei.j5 k lf la (opsOf cs) (AHei.first n,0))))) (.out (.ret,qV)))
 |_,_,_=> .no⟩
def lp:LpK:=⟨60,12,1,D⟩
theorem chain {Step:KX→Ex→KX→Prop} {l:List O6} {lf la:Int} (hl:l.length≤4096)
  (hn: ∀s i (hi:i<l.length),AHei.Good l.length s→match AHei.ZI l.length lf la s i l[i]with|some t=>Step (stA l.length lf la l.length s.2 i (l.length+1) (ints .i64 s.1)) .normal (stA l.length lf la l.length t.2 ((i+1:Nat):Int) (l.length+1) (ints .i64 t.1))|none=>Step (stA l.length lf la l.length s.2 i (l.length+1) (ints .i64 s.1)) .ret qV)
  (he: ∀s,AHei.Good l.length s→Step (stA l.length lf la l.length s.2 l.length (l.length+1) (ints .i64 s.1)) (.exit 2) (jl (l.length+1) l.length s.2 (ints .i64 s.1))):
  ∀(j i:Nat) (s:List Int×Int),i+j=l.length→AHei.Good l.length s→match AHei.aS l.length lf la i (l.drop i) s with|some t=>zF Step (stA l.length lf la l.length s.2 i (l.length+1) (ints .i64 s.1)) (.exit 2) (jl (l.length+1) l.length t.2 (ints .i64 t.1))|none=>zF Step (stA l.length lf la l.length s.2 i (l.length+1) (ints .i64 s.1)) .ret qV
 |0,i,s,h,hg=>by
  obtain rfl:i=l.length:=by omega
  rw[List.drop_length]
  exact .stop (by simp) (he s hg)
 |j+1,i,s,h,hg=>by
  have hi:i<l.length:=by omega
  rw[List.drop_eq_getElem_cons hi]
  unfold AHei.aS
  have hs:=hn s i hi hg
  cases e:AHei.ZI l.length lf la s i l[i]with
  |none=>rw[e]at hs;exact .stop (by simp) hs
  |some t=>
   rw[e]at hs
   have hgt:=AHei.yN hg (AHei.JK▸e)
   have ih:=chain hl hn he j (i+1) t (by omega) hgt
   simp only[Option.bind_some]
   cases e2:AHei.aS l.length lf la (i+1) (l.drop (i+1)) t with
   |none=>rw[e2]at ih;exact .next hs ih
   |some u=>rw[e2]at ih;exact .next hs ih
theorem qG:zw Tryz.prog La 4 lp:=by
 refine⟨by kernel_rfl,fun c base I hP hn hG hI hIL x ro ex y e=> ?_⟩
 obtain⟨vs,cars⟩:=x
 simp only[lp,D]at e ⊢
 split at e
 ·rename_i n lf la k p row cs
  obtain⟨g1,g2⟩:=GT.qh e
  simp only[Bool.and_eq_true]at g1
  obtain⟨g3,g4,g5,g6⟩:=g1
  obtain⟨rfl,hn2,h4,h5⟩:=jy g3
  generalize opsOf cs=l at h4 h5 g2
  subst h4 h5
  have g4:=Nat.le_of_ble_eq_true g4
  obtain rfl:=Nat.eq_of_beq_eq_true g5
  obtain rfl:=AHei.bY g6
  have key:=chain (Step:= @zA (zV base) c base I (qW Tryz.prog 60 1) 148 104 100 [(0,zu l)]) (lf:=lf) (la:=la) g4 (fun s i hi hg=>by
    have hr:=next l g4 lf la hg hi
    cases hs:AHei.ZI l.length lf la s i l[i]with
    |none=>rw[hs]at hr;exact stepT qg qd (by simpa using⟨A115.qf,A116.qf⟩) (by simp) hP hn hG hI hIL hr
    |some t=>rw[hs]at hr;exact stepT qg qd (by simpa using⟨A115.qf,A116.qf⟩) (by simp) hP hn hG hI hIL hr)
   (fun s hg=>stepT qg qd (by simpa using⟨A115.qf,A116.qf⟩) (by simp) hP hn hG hI hIL (last l lf la hg)) l.length 0 (AHei.first l.length,0) (by omega) (AHei.wZ _)
  rw[List.drop_zero,AHei.an]at key
  unfold AHei.j4 AHei.wO AHei.j5 at g2
  cases hrun:AHei.run l.length lf la 0 l (AHei.first l.length,0)with
  |none=>
   rw[hrun]at key
   rw[show (Int.ofNat l.length)=(l.length:Int)from rfl,hrun]at g2
   cases g2;exact key
  |some t=>
   rw[hrun]at key
   rw[show (Int.ofNat l.length)=(l.length:Int)from rfl,hrun]at g2
   cases g2;exact key
 ·cases e
end A60L1
namespace A60
def T (m0:Nat) (c0:List Value) (a1:Int) (a2:Int):GT Value:=let x1:=AHei.j5 (Int.ofNat m0) a1 a2 (opsOf c0) ((AHei.first m0),0);let x2:=0+((Int.ofNat m0).toNat*1);(.br ((Int.ofNat m0)==0) (.out (.int .i64 0)) (.br (decide ((Int.ofNat m0)>4096)) (.out (.int .i64 0)) (.br (decide ((Int.ofNat m0)=(Int.ofNat m0))&&Nat.ble m0 4096) (.br (((Value.int .i64 0::AHei.Vl m0).all qo&&true)&&(c0.all qo&&true)) (.br ((je m0 (Int.ofNat m0) c0)&&(Nat.ble m0 4096&&(Nat.beq (m0+1) (m0+1)&&(AHei.isF m0 (Value.int .i64 0::AHei.Vl m0))))) (.br (AHei.j4 (Int.ofNat m0) a1 a2 (opsOf c0) ((AHei.first m0),0)) (.br (Nat.blt (Int.ofNat m0).toNat (m0+1)) (.br (isV (x1.map (Value.int IntKind.i64)) x2 (.i .i64)) (.br ((rdI (x1.map (Value.int IntKind.i64)) x2) != 1) (.out (.int .i64 0)) (.out (.int .i64 (AHei.wO (Int.ofNat m0) a1 a2 (opsOf c0) ((AHei.first m0),0))))) .no) .no) (.out (.int .i64 0))) .no) .no) .no)))
theorem run (m0:Nat) (c0:List Value) (a1:Int) (a2:Int):runK 4 [(115,A115.spec),(116,A116.spec)] [A60L0.lp,A60L1.lp] 60 [.sl m0 6 c0,.v (.int .i64 a1),.v (.int .i64 a2)]=(T m0 c0 a1 a2).eval:=by kernel_rfl
theorem qL (l:List O6) (lf la:Int) (hl:l.length<2199023255552):(T l.length (zu l) lf la).eval=some (.int .i64 (AHei.xu lf la l)):=by
 have e0:Int.ofNat l.length=(l.length:Int):=rfl
 unfold T AHei.xu
 simp only[GT.eval,e0]
 cases h0:(l.length:Int)==0
 rotate_left
 ·rfl
 have h0':=beq_eq_false_iff_ne.1 h0
 cases h1:decide ((l.length:Int)>4096)
 rotate_left
 ·rfl
 have h1':l.length≤4096:=by have:=of_decide_eq_false h1;omega
 have a8:(Value.int .i64 0::AHei.Vl l.length)=ints .i64 (AHei.first l.length):=rfl
 have a9:je l.length (l.length:Int) (zu l)=true:=jM l hl
 have a10:Nat.ble l.length 4096=true:=by rw[Nat.ble_eq];exact h1'
 have a11:AHei.isF l.length (ints .i64 (AHei.first l.length))=true:=AHei.fg _
 have a12:Nat.blt l.length (l.length+1)=true:=by rw[Nat.blt_eq];omega
 have a13:0+l.length*1=l.length:=by omega
 simp only[a8,a9,a10,a11,a12,a13,Int.toNat_natCast,qY,vw,zy,decide_true,Nat.beq_refl,Bool.and_self,Bool.and_true,Bool.true_and,cond_true,cond_false]
 cases hf:AHei.j4 l.length lf la l (AHei.first l.length,0)
 ·rfl
 ·have ht := AHei.KS hf
  have hlt:l.length<(AHei.j5 l.length lf la l (AHei.first l.length,0)).length:=by omega
  have b1:=vG .i64 _ hlt
  have b2:=A105L1.rd hlt
  unfold ints at b1 b2
  simp only[b1,b2,cond_true]
  cases (AHei.j5 l.length lf la l (AHei.first l.length,0)).getD l.length 0 != 1<;>rfl
def spec:Spec:=fun aa=>match aa with
 |[.sl n 6 cs,.v (.int .i64 lf),.v (.int .i64 la)]=>some (.qI (je n (Int.ofNat n) cs) (.out (.int .i64 (AHei.xu lf la (opsOf cs)))))
 |_=>none
theorem qf:qu Tryz.prog La 60 spec:=⟨qE (by kernel_rfl),fun aa t v h e=>by
 unfold spec at h
 split at h
 ·rename_i n cs lf la
  cases h
  obtain⟨g1,g2⟩:=GT.qh e
  cases g2
  obtain⟨_,hn,h4,h5⟩:=jy g1
  generalize opsOf cs=l at h4 h5
  subst h4 h5
  exact⟨rfl,qR (n0:=4) (k:=12) qx qg qd (by simpa using⟨A115.qf,A116.qf⟩) (by simpa using⟨A60L0.qG,A60L1.qG⟩) (by decide) (by simp) rfl ((run _ _ _ _).trans (qL l lf la hn))⟩
 ·cases h⟩
end A60
namespace A21
def T (m0:Nat) (c0:List Value) (a1:Int) (a2:Int):GT Value:=(.br ((Nat.ble (0+(m0*6)) c0.length&&((c0.drop 0).take (m0*6)).all qo)&&(true&&(true&&true))) (.br (je m0 (Int.ofNat m0) ((c0.drop 0).take (m0*6))) (.br ((AHei.xu a1 a2 (opsOf ((c0.drop 0).take (m0*6))))==0) (.out (.int .i64 120)) (.out (.int .i64 0))) .no) .no)
theorem run (m0:Nat) (c0:List Value) (a1:Int) (a2:Int):runK 4 [(60,A60.spec)] [] 21 [.sl m0 6 c0,.v (.int .i64 a1),.v (.int .i64 a2)]=(T m0 c0 a1 a2).eval:=by kernel_rfl
theorem xQ (l:List O6):((zu l).drop 0).take (l.length*6)=zu l:=by rw[List.drop_zero,List.take_of_length_le (by rw[kK];exact Nat.le_refl _)]
theorem qL (l:List O6) (lf la:Int) (hl:l.length<2199023255552):(T l.length (zu l) lf la).eval=some (.int .i64 (AHei.kM lf la l)):=by
 unfold T AHei.kM
 have h1:Nat.ble (0+l.length*6) (zu l).length=true:=by rw[Nat.ble_eq,kK];omega
 have h2:je l.length (Int.ofNat l.length) (zu l)=true:=jM l hl
 simp only[xQ,h1,h2,vw,zy,GT.eval,AHei.Vp,Bool.and_self,cond_true]
 cases (AHei.kf lf la l).2<;>rfl
def spec:Spec:=fun aa=>match aa with
 |[.sl n 6 cs,.v (.int .i64 lf),.v (.int .i64 la)]=>some (.qI (je n (Int.ofNat n) cs) (.out (.int .i64 (AHei.kM lf la (opsOf cs)))))
 |_=>none
theorem qf:qu Tryz.prog La 21 spec:=⟨qE (by kernel_rfl),fun aa t v h e=>by
 unfold spec at h
 split at h
 ·rename_i n cs lf la
  cases h
  obtain⟨g1,g2⟩:=GT.qh e
  cases g2
  obtain⟨_,hn,h4,h5⟩:=jy g1
  generalize opsOf cs=l at h4 h5
  subst h4 h5
  exact⟨rfl,qR (n0:=4) (k:=12) qx qg qd (by simpa using A60.qf) (by simp) (by decide) (by simp) rfl ((run _ _ _ _).trans (qL l lf la hn))⟩
 ·cases h⟩
end A21
namespace A159
def T (k0 n0:Int) (s0:ByteArray) (k1 n1:Int) (s1:ByteArray):GT Value:=let x1:=IntKind.wrap .i64 ((A127.dec k0 n0).1+(A127.dec k1 n1).1);let x2:=IntKind.wrap .i64 (n0+n1);let o1:GT Value:=(.out (.tuple #[.agg #[.int .i64 0,.int .i64 0,.string ⟨#[]⟩],.int .i64 0]));let o2:GT Value:=(.out (.tuple #[.agg #[.int .i64 2,.int .i64 x2,.string ⟨#[]⟩],.int .i64 0]));let o3:GT Value:=(.out (.tuple #[.agg #[.int .i64 0,.int .i64 0,.string ⟨#[]⟩],.int .i64 20]));let o4:GT Value:=(.out (.tuple #[.agg #[.int .i64 3,.int .i64 x1,.string ⟨#[]⟩],.int .i64 0]));let o5:GT Value:=(.br (((k0==2)||(k0==3))&&(inR n0)) (.br (((k1==2)||(k1==3))&&(inR n1)) (.br ((A127.dec k0 n0).2) (.br (!(A127.dec k1 n1).2) o3 (.br (!(decide ((A127.dec k0 n0).1<0)==decide ((A127.dec k1 n1).1<0))) o4 (.br (!(decide (x1<0)==decide ((A127.dec k0 n0).1<0))) o3 o4))) o3) .no) .no);let o6:GT Value:=(.br (k0==0) o1 (.br (k1==0) o1 (.br (k0==2) (.br (k1==2) (.br (!(decide (n0<0)==decide (n1<0))) o2 (.br (!(decide (x2<0)==decide (n0<0))) o3 o2)) o5) o5)));let o7:GT Value:=(.out (.tuple #[.agg #[.int .i64 0,.int .i64 0,.string ⟨#[]⟩],.int .i64 22]));let o8:GT Value:=(.br (k1==2) o6 (.br (!(k1==3)) (.br (k1 != 0) o7 o6) o6));(.br (k0==2) o8 (.br (!(k0==3)) (.br (k0 != 0) o7 o8) o8))
theorem run (k0 n0:Int) (s0:ByteArray) (k1 n1:Int) (s1:ByteArray):runK 4 [(127,A127.spec)] [] 159 [.v (.agg #[.int .i64 k0,.int .i64 n0,.string s0]),.v (.agg #[.int .i64 k1,.int .i64 n1,.string s1])]=(T k0 n0 s0 k1 n1 s1).eval:=by kernel_rfl
set_option maxHeartbeats 0 in
theorem qL (a b:W3) (ha:inR a.2.1=true) (hb:inR b.2.1=true):(T a.1 a.2.1 a.2.2 b.1 b.2.1 b.2.2).eval=some (ve (Ari.j6 Ari.Vr a b)):=by
 obtain⟨k,n,s⟩:=a
 obtain⟨k',n',s'⟩:=b
 unfold T
 dsimp only[]at ha hb ⊢
 simp only[GT.eval,ha,hb]
 unfold Ari.j6 Ari.Vr Ari.ofV
 dsimp only[]
 generalize A127.dec k n=p
 generalize A127.dec k' n'=q
 obtain⟨x,ox⟩:=p
 obtain⟨y,oy⟩:=q
 dsimp only[]
 rcases Ari.kinds k with rfl|rfl|rfl|⟨e1,e2,e3,e4,e5⟩<;>rcases Ari.kinds k' with rfl|rfl|rfl|⟨f1,f2,f3,f4,f5⟩<;>
  (try simp only[e1,e2,e3,e4,e5])<;>(try simp only[f1,f2,f3,f4,f5])<;>(try rfl)<;>(try (generalize (decide (n<0)==decide (n'<0))=u;generalize (decide (IntKind.wrap .i64 (n+n')<0)==decide (n<0))=v;cases u<;>cases v<;>rfl))<;>(try (generalize (decide (n<0)==decide (n'<0))=u;generalize (decide (IntKind.wrap .i64 (n - n')<0)==decide (n<0))=v;cases u<;>cases v<;>rfl))<;>(try (cases ox<;>cases oy<;>(generalize (decide (x<0)==decide (y<0))=u;generalize (decide (IntKind.wrap .i64 (x+y)<0)==decide (x<0))=v;cases u<;>cases v<;>rfl)))<;>(try (cases ox<;>cases oy<;>(generalize (decide (x<0)==decide (y<0))=u;generalize (decide (IntKind.wrap .i64 (x - y)<0)==decide (x<0))=v;cases u<;>cases v<;>rfl)))
def spec:Spec:=fun aa=>match aa with
 |[a,b]=>(vOf a).bind fun x=>(vOf b).bind fun y=>some (.qI (inR x.2.1&&inR y.2.1) (.out (ve (Ari.j6 Ari.Vr x y))))
 |_=>none
theorem qf:qu Tryz.prog La 159 spec:=⟨qE (by kernel_rfl),fun aa t v h e=>by
 unfold spec at h
 split at h
 ·rename_i a b
  obtain⟨x,h1,h⟩:=qi h
  obtain⟨y,h2,h⟩:=qi h
  cases h
  obtain⟨g1,g2⟩:=GT.qh e
  cases g2
  rw[Bool.and_eq_true]at g1
  rw[qN h1,qN h2]
  exact⟨rfl,qR (n0:=4) (k:=12) qx qg qd (by simpa using A127.qf) (by simp) (by decide) (by simp) rfl ((run _ _ _ _ _ _).trans (qL x y g1.1 g1.2))⟩
 ·cases h⟩
end A159
namespace A160
def T (k0 n0:Int) (s0:ByteArray) (k1 n1:Int) (s1:ByteArray):GT Value:=let x1:=IntKind.wrap .i64 ((A127.dec k0 n0).1 - (A127.dec k1 n1).1);let x2:=IntKind.wrap .i64 (n0 - n1);let o1:GT Value:=(.out (.tuple #[.agg #[.int .i64 0,.int .i64 0,.string ⟨#[]⟩],.int .i64 0]));let o2:GT Value:=(.out (.tuple #[.agg #[.int .i64 2,.int .i64 x2,.string ⟨#[]⟩],.int .i64 0]));let o3:GT Value:=(.out (.tuple #[.agg #[.int .i64 0,.int .i64 0,.string ⟨#[]⟩],.int .i64 20]));let o4:GT Value:=(.out (.tuple #[.agg #[.int .i64 3,.int .i64 x1,.string ⟨#[]⟩],.int .i64 0]));let o5:GT Value:=(.br (((k0==2)||(k0==3))&&(inR n0)) (.br (((k1==2)||(k1==3))&&(inR n1)) (.br ((A127.dec k0 n0).2) (.br (!(A127.dec k1 n1).2) o3 (.br (decide ((A127.dec k0 n0).1<0)==decide ((A127.dec k1 n1).1<0)) o4 (.br (!(decide (x1<0)==decide ((A127.dec k0 n0).1<0))) o3 o4))) o3) .no) .no);let o6:GT Value:=(.br (k0==0) o1 (.br (k1==0) o1 (.br (k0==2) (.br (k1==2) (.br (decide (n0<0)==decide (n1<0)) o2 (.br (!(decide (x2<0)==decide (n0<0))) o3 o2)) o5) o5)));let o7:GT Value:=(.out (.tuple #[.agg #[.int .i64 0,.int .i64 0,.string ⟨#[]⟩],.int .i64 22]));let o8:GT Value:=(.br (k1==2) o6 (.br (!(k1==3)) (.br (k1 != 0) o7 o6) o6));(.br (k0==2) o8 (.br (!(k0==3)) (.br (k0 != 0) o7 o8) o8))
theorem run (k0 n0:Int) (s0:ByteArray) (k1 n1:Int) (s1:ByteArray):runK 4 [(127,A127.spec)] [] 160 [.v (.agg #[.int .i64 k0,.int .i64 n0,.string s0]),.v (.agg #[.int .i64 k1,.int .i64 n1,.string s1])]=(T k0 n0 s0 k1 n1 s1).eval:=by kernel_rfl
set_option maxHeartbeats 0 in
theorem qL (a b:W3) (ha:inR a.2.1=true) (hb:inR b.2.1=true):(T a.1 a.2.1 a.2.2 b.1 b.2.1 b.2.2).eval=some (ve (Ari.j6 Ari.Vm a b)):=by
 obtain⟨k,n,s⟩:=a
 obtain⟨k',n',s'⟩:=b
 unfold T
 dsimp only[]at ha hb ⊢
 simp only[GT.eval,ha,hb]
 unfold Ari.j6 Ari.Vm Ari.ofV
 dsimp only[]
 generalize A127.dec k n=p
 generalize A127.dec k' n'=q
 obtain⟨x,ox⟩:=p
 obtain⟨y,oy⟩:=q
 dsimp only[]
 rcases Ari.kinds k with rfl|rfl|rfl|⟨e1,e2,e3,e4,e5⟩<;>rcases Ari.kinds k' with rfl|rfl|rfl|⟨f1,f2,f3,f4,f5⟩<;>
  (try simp only[e1,e2,e3,e4,e5])<;>(try simp only[f1,f2,f3,f4,f5])<;>(try rfl)<;>(try (generalize (decide (n<0)==decide (n'<0))=u;generalize (decide (IntKind.wrap .i64 (n+n')<0)==decide (n<0))=v;cases u<;>cases v<;>rfl))<;>(try (generalize (decide (n<0)==decide (n'<0))=u;generalize (decide (IntKind.wrap .i64 (n - n')<0)==decide (n<0))=v;cases u<;>cases v<;>rfl))<;>(try (cases ox<;>cases oy<;>(generalize (decide (x<0)==decide (y<0))=u;generalize (decide (IntKind.wrap .i64 (x+y)<0)==decide (x<0))=v;cases u<;>cases v<;>rfl)))<;>(try (cases ox<;>cases oy<;>(generalize (decide (x<0)==decide (y<0))=u;generalize (decide (IntKind.wrap .i64 (x - y)<0)==decide (x<0))=v;cases u<;>cases v<;>rfl)))
def spec:Spec:=fun aa=>match aa with
 |[a,b]=>(vOf a).bind fun x=>(vOf b).bind fun y=>some (.qI (inR x.2.1&&inR y.2.1) (.out (ve (Ari.j6 Ari.Vm x y))))
 |_=>none
theorem qf:qu Tryz.prog La 160 spec:=⟨qE (by kernel_rfl),fun aa t v h e=>by
 unfold spec at h
 split at h
 ·rename_i a b
  obtain⟨x,h1,h⟩:=qi h
  obtain⟨y,h2,h⟩:=qi h
  cases h
  obtain⟨g1,g2⟩:=GT.qh e
  cases g2
  rw[Bool.and_eq_true]at g1
  rw[qN h1,qN h2]
  exact⟨rfl,qR (n0:=4) (k:=12) qx qg qd (by simpa using A127.qf) (by simp) (by decide) (by simp) rfl ((run _ _ _ _ _ _).trans (qL x y g1.1 g1.2))⟩
 ·cases h⟩
end A160
end
section
open Go Go.Proofs Go.RowKit
def We:Spec:=fun aa=>match aa with
 |[.v (.int .u64 a)]=>some (.qI (u64 a) (.out (.int .i64 (Lib.bitLen a.toNat))))
 |_=>none
theorem XT:qu Tryz.prog La 244 We:=vF (by kernel_rfl) fun aa t v h e=>by
 unfold We at h
 split at h
 ·rename_i a
  cases h
  obtain⟨g1,g2⟩:=GT.qh e
  cases g2
  unfold u64 at g1
  simp only[Bool.and_eq_true,decide_eq_true_eq]at g1
  exact⟨[.int .u64 a],rfl,rfl,fun W _=>(Tryz.bits_Len64 a W g1.1 (by omega)).mono fun e w' h=>⟨h.1,by rw[h.2];exact Below.refl _ _⟩⟩
 ·cases h
end
section
open Go Go.Proofs
namespace A228
def T (a0:Int):GT Value:=(.br (decide (0≤a0)&&decide (a0<18446744073709551616)) (.out (.int .i64 (IntKind.wrap .i64 (64 - (Int.ofNat (Go.Lib.bitLen a0.toNat)))))) .no)
theorem run (a0:Int):runK 4 [(244,We)] [] 228 [.v (.int .u64 a0)]=(T a0).eval:=by kernel_rfl
theorem lR (a:Int) (h1:a<18446744073709551616):Lib.bitLen a.toNat≤64:=by
 have:a.toNat<2 ^ 64:=by omega
 exact Lib.bitLen_le _ 64 (Nat.le_refl _) this
def spec:Spec:=fun aa=>match aa with
 |[.v (.int .u64 a)]=>some (.qI (u64 a) (.out (.int .i64 (64 - Int.ofNat (Lib.bitLen a.toNat)))))
 |_=>none
theorem qf:qu Tryz.prog La 228 spec:=⟨qE (by kernel_rfl),fun aa t v h e=>by
 unfold spec at h
 split at h
 ·rename_i a
  cases h
  obtain⟨g1,g2⟩:=GT.qh e
  cases g2
  refine⟨rfl,qR (n0:=4) (k:=12) qx qg qd (by simpa using XT) (by simp) (by decide) (by simp) rfl ((run _).trans ?_)⟩
  unfold u64 at g1
  unfold T
  rw[GT.eval,g1]
  have:=lR a (by simp only[Bool.and_eq_true,decide_eq_true_eq]at g1;exact g1.2)
  show some (Value.int .i64 (IntKind.wrap .i64 (64 - Int.ofNat (Lib.bitLen a.toNat))))=_
  rw[zZ (by show _≤64 - ((Lib.bitLen a.toNat:Nat):Int);omega) (by show 64 - ((Lib.bitLen a.toNat:Nat):Int)≤_;omega)]
 ·cases h⟩
end A228
end
end Go.Proofs.YtaiokpmmjbiajaaGreatDoorDx
namespace Go.Proofs.YtaiokpmmjbiajaaGreatDoorDx.Knuth
section
open Go
theorem J6 {u y1 y0 d q r:Int} (hD:0<y1*4294967296+y0) (hr:r=u - q*y1):(q*y0>4294967296*r+d)↔q>(u*4294967296+d) / (y1*4294967296+y0):=by
 have e:q*(y1*4294967296+y0)=q*y1*4294967296+q*y0:=by rw[Int.mul_add,←Int.mul_assoc]
 rw[show (q>(u*4294967296+d) / (y1*4294967296+y0))↔((u*4294967296+d) / (y1*4294967296+y0)<q)from Iff.rfl,Int.ediv_lt_iff_lt_mul hD,e]
 generalize q*y0=a at*
 generalize q*y1=b at*
 subst hr
 constructor<;>intro h<;>omega
theorem mP {u y1 y0 d:Int} (h1:0≤y0) (hy:0<y1) (hd:d<4294967296) (hu:u<y1*4294967296+y0):(u*4294967296+d) / (y1*4294967296+y0)<4294967296:=by
 have hD:0<y1*4294967296+y0:=by omega
 rw[Int.ediv_lt_iff_lt_mul hD]
 have:(u+1)*4294967296≤(y1*4294967296+y0)*4294967296:=Int.mul_le_mul_of_nonneg_right (by omega) (by decide)
 omega
theorem cN {u y1 y0 d:Int} (h0:0≤u) (h1:0≤y0) (hy:0<y1) (hd0:0≤d) (hd:d<4294967296):(u*4294967296+d) / (y1*4294967296+y0)≤u / y1:=by
 have hD:0<y1*4294967296+y0:=by omega
 have hq:0≤(u*4294967296+d) / (y1*4294967296+y0):=Int.ediv_nonneg (by omega) (by omega)
 rw[Int.le_ediv_iff_mul_le hy]
 have h2:=Int.ediv_mul_le (u*4294967296+d) (show y1*4294967296+y0≠0 by omega)
 generalize (u*4294967296+d) / (y1*4294967296+y0)=q at*
 have e:q*(y1*4294967296+y0)=q*y1*4294967296+q*y0:=by rw[Int.mul_add,←Int.mul_assoc]
 have h3:0≤q*y0:=Int.mul_nonneg hq h1
 rw[e]at h2
 generalize q*y0=a at*
 generalize q*y1=b at*
 omega
def dig (u y1 y0 d:Int):Int:=(u*4294967296+d) / (y1*4294967296+y0)
structure Fits (u y1 y0 d q r:Int):Prop where
 u0:0≤u
 y1l:2147483648≤y1
 y1h:y1<4294967296
 y0l:0≤y0
 y0h:y0<4294967296
 d0:0≤d
 dh:d<4294967296
 ul:u<y1*4294967296+y0
 hr:r=u - q*y1
 r0:0≤r
 rh:r<4294967296
 ge:dig u y1 y0 d≤q
noncomputable def Vy (u y1 y0 d q r:Int):Bool:= @decide (Fits u y1 y0 d q r) (Classical.propDecidable _)
theorem QA {u y1 y0 d q r:Int}:Vy u y1 y0 d q r=true↔Fits u y1 y0 d q r:=by
 unfold Vy
 exact @decide_eq_true_iff _ (Classical.propDecidable _)
theorem Fits.pos {u y1 y0 d q r:Int} (h:Fits u y1 y0 d q r):0<y1*4294967296+y0:=by have:=h.y1l;have:=h.y0l;omega
theorem Fits.small {u y1 y0 d q r:Int} (h:Fits u y1 y0 d q r):dig u y1 y0 d<4294967296:=mP h.y0l (by have:=h.y1l;omega) h.dh h.ul
theorem Fits.KW {u y1 y0 d q r:Int} (h:Fits u y1 y0 d q r):0≤dig u y1 y0 d:=Int.ediv_nonneg (by have:=h.u0;have:=h.d0;omega) (by have:=h.pos;omega)
theorem Fits.test {u y1 y0 d q r:Int} (h:Fits u y1 y0 d q r):(q≥4294967296∨q*y0>4294967296*r+d)↔dig u y1 y0 d<q:=by
 have t:=J6 (d:=d) h.pos h.hr
 have s:=h.small
 constructor
 ·rintro (g | g)
  ·omega
  ·exact t.1 g
 ·intro g
  exact .inr (t.2 g)
theorem Fits.qlt {u y1 y0 d q r:Int} (h:Fits u y1 y0 d q r):0≤q∧q*y1≤u∧q<18446744073709551616∧u<18446744073709551616:=by
 have h0:=h.KW
 have h1:=h.ge
 have h2:q*y1≤u:=by have:=h.hr;have:=h.r0;omega
 have h3:q*1≤q*y1:=Int.mul_le_mul_of_nonneg_left (by have:=h.y1l;omega) (by omega)
 have:=h.ul;have:=h.y1h;have:=h.y0h
 exact⟨by omega,h2,by omega,by omega⟩
theorem Fits.round {u y1 y0 d q r:Int} (h:Fits u y1 y0 d q r) {β:Type} (f:Int→Int→β) (g:Int→β):
  (bif decide (q≥4294967296)then(bif decide (IntKind.wrap .u64 (r+y1)≥4294967296)then g (IntKind.wrap .u64 (q - 1))else f (IntKind.wrap .u64 (q - 1)) (IntKind.wrap .u64 (r+y1)))else(bif decide ((IntKind.wrap .u64 (q*y0))>(IntKind.wrap .u64 ((IntKind.wrap .u64 (4294967296*r))+d)))then(bif decide (IntKind.wrap .u64 (r+y1)≥4294967296)then g (IntKind.wrap .u64 (q - 1))else f (IntKind.wrap .u64 (q - 1)) (IntKind.wrap .u64 (r+y1)))else g q))=
  if dig u y1 y0 d<q then(if 4294967296≤r+y1 then g (q - 1)else f (q - 1) (r+y1))else g q:=by
 obtain⟨q0,_,q1,_⟩:=h.qlt
 have hn:=h.KW
 have:=h.r0;have:=h.rh;have:=h.y1l;have:=h.y1h;have:=h.d0;have:=h.dh
 have e1:IntKind.wrap .u64 (r+y1)=r+y1:=by rw[IntKind.wrap_u64];omega
 have e2:IntKind.wrap .u64 ((IntKind.wrap .u64 (4294967296*r))+d)=4294967296*r+d:=by rw[IntKind.wrap_u64,IntKind.wrap_u64];omega
 have e3:dig u y1 y0 d<q→IntKind.wrap .u64 (q - 1)=q - 1:=fun g=>by rw[IntKind.wrap_u64];omega
 rw[e1,e2]
 have ht:=h.test
 by_cases hq:q≥4294967296
 ·have hd := ht.1 (.inl hq)
  rw[decide_eq_true hq,e3 hd,if_pos hd]
  by_cases hr:4294967296≤r+y1
  ·rw[decide_eq_true (show r+y1≥4294967296 from hr),if_pos hr];rfl
  ·rw[decide_eq_false (show¬r+y1≥4294967296 from hr),if_neg hr];rfl
 ·have e4:IntKind.wrap .u64 (q*y0)=q*y0:=by
   have a1:q*y0≤4294967296*4294967296:=Int.mul_le_mul (by omega) (by have:=h.y0h;omega) h.y0l (by decide)
   have a2:0≤q*y0:=Int.mul_nonneg q0 h.y0l
   have a3:q*y0≤4294967295*4294967295:=Int.mul_le_mul (by omega) (by have:=h.y0h;omega) h.y0l (by decide)
   rw[IntKind.wrap_u64];omega
  rw[decide_eq_false hq,e4]
  by_cases hd:dig u y1 y0 d<q
  ·have : q * y0 > 4294967296 * r + d := (ht.2 hd).resolve_left hq
   rw[decide_eq_true this,e3 hd,if_pos hd]
   by_cases hr:4294967296≤r+y1
   ·rw[decide_eq_true (show r+y1≥4294967296 from hr),if_pos hr];rfl
   ·rw[decide_eq_false (show¬r+y1≥4294967296 from hr),if_neg hr];rfl
  ·have : ¬ q * y0 > 4294967296 * r + d := fun g => hd (ht.1 (.inr g))
   rw[decide_eq_false this,if_neg hd];rfl
theorem Fits.done {u y1 y0 d q r:Int} (h:Fits u y1 y0 d q r) (g: ¬dig u y1 y0 d<q):q=dig u y1 y0 d:=by have:=h.ge;omega
theorem Fits.next {u y1 y0 d q r:Int} (h:Fits u y1 y0 d q r) (g:dig u y1 y0 d<q) (hr:r+y1<4294967296):Fits u y1 y0 d (q - 1) (r+y1):=by
 refine⟨h.u0,h.y1l,h.y1h,h.y0l,h.y0h,h.d0,h.dh,h.ul,?_,?_,hr,by omega⟩
 ·rw[h.hr,Int.sub_mul,Int.one_mul];omega
 ·have:=h.r0;have:=h.y1l;omega
theorem Fits.last {u y1 y0 d q r:Int} (h:Fits u y1 y0 d q r) (g:dig u y1 y0 d<q) (hr:4294967296≤r+y1):q - 1=dig u y1 y0 d:=by
 have hn:=h.KW
 have h1:(q - 1)*y1=u - (r+y1):=by rw[h.hr,Int.sub_mul,Int.one_mul];omega
 have h2:q - 1<4294967296:=by
  rcases Int.lt_or_le (q - 1) 4294967296 with g|g
  ·exact g
  ·have : 4294967296 * y1 ≤ (q - 1) * y1 := Int.mul_le_mul_of_nonneg_right g (by have := h.y1l; omega)
   have:=h.ul;have:=h.y0h
   omega
 have h3:(q - 1)*y0≤4294967296*4294967296:=Int.mul_le_mul (by omega) (by have:=h.y0h;omega) h.y0l (by decide)
 have t:=J6 (d:=d) (r:=r+y1) (q:=q - 1) (u:=u) h.pos (by omega)
 have: ¬((q - 1)*y0>4294967296*(r+y1)+d):=by have:=h.d0;omega
 have:=fun g=>this (t.2 g)
 unfold dig at*
 omega
theorem Fits.start {u y1 y0 d:Int} (u0:0≤u) (y1l:2147483648≤y1) (y1h:y1<4294967296) (y0l:0≤y0) (y0h:y0<4294967296) (d0:0≤d) (dh:d<4294967296) (ul:u<y1*4294967296+y0):Fits u y1 y0 d (u / y1) (u - u / y1*y1):=by
 have h:=Int.emod_add_mul_ediv u y1
 have hm:=Int.emod_nonneg u (show y1≠0 by omega)
 have hl:=Int.emod_lt_of_pos u (show 0<y1 by omega)
 rw[Int.mul_comm]at h
 exact⟨u0,y1l,y1h,y0l,y0h,d0,dh,ul,rfl,by omega,by omega,cN u0 y0l (by omega) d0 dh⟩
theorem left_eq {u y1 y0 d:Int}:u*4294967296+d - dig u y1 y0 d*(y1*4294967296+y0)=(u*4294967296+d) % (y1*4294967296+y0):=by
 have:=Int.emod_add_mul_ediv (u*4294967296+d) (y1*4294967296+y0)
 unfold dig
 rw[Int.mul_comm (y1*4294967296+y0) ((u*4294967296+d) / _)]at this
 omega
theorem XP {u D d1 d0:Int} (hD:0<D) (h0:0≤d0) (h1:d0<4294967296):(u*4294967296*4294967296+d1*4294967296+d0) / D=(u*4294967296+d1) / D*4294967296+(((u*4294967296+d1) % D)*4294967296+d0) / D∧(u*4294967296*4294967296+d1*4294967296+d0) % D=(((u*4294967296+d1) % D)*4294967296+d0) % D:=by
 have e:=Int.emod_add_mul_ediv (u*4294967296+d1) D
 have f:u*4294967296*4294967296+d1*4294967296+d0=((u*4294967296+d1) % D)*4294967296+d0+D*((u*4294967296+d1) / D*4294967296):=by
  have:D*((u*4294967296+d1) / D*4294967296)=D*((u*4294967296+d1) / D)*4294967296:=by rw[Int.mul_assoc]
  rw[this]
  generalize D*((u*4294967296+d1) / D)=x at*
  generalize (u*4294967296+d1) % D=r at*
  omega
 rw[f]
 constructor
 ·rw[Int.add_mul_ediv_left _ _ (by omega)];omega
 ·rw[Int.add_mul_emod_self_left]
end
end Go.Proofs.YtaiokpmmjbiajaaGreatDoorDx.Knuth
namespace Go.Proofs.YtaiokpmmjbiajaaGreatDoorDx.Bits
section
open Go
theorem bv {a:Int} (h0:0≤a) (h1:a<18446744073709551616):(BitVec.ofInt 64 a).toNat=a.toNat:=by
 rw[BitVec.toNat_ofInt]
 congr 1
 exact Int.emod_eq_of_lt h0 h1
theorem vX {a:Int} (h0:0≤a) (h1:a<18446744073709551616):IntKind.wrap .u64 a=a:=by
 rw[IntKind.wrap_u64];omega
theorem wM (n:Nat) (hn:n≤63) {a m:Int} (hm:m=2 ^ n - 1) (h0:0≤a) (h1:a<18446744073709551616):IntKind.wrap .u64 (Int.ofNat (BitVec.ofInt 64 a &&& BitVec.ofInt 64 m).toNat)=a % 2 ^ n:=by
 have hp:(2:Int) ^ n≤2 ^ 63:=by
  have:(2:Nat) ^ n≤2 ^ 63:=Nat.pow_le_pow_right (by decide) hn
  exact_mod_cast this
 have hp0:(0:Int)<2 ^ n:=by
  have:(0:Nat)<2 ^ n:=Nat.two_pow_pos n
  exact_mod_cast this
 have h63:(2:Int) ^ 63=9223372036854775808:=by decide
 rw[BitVec.toNat_and,bv h0 h1,bv (by omega) (by omega)]
 have e:m.toNat=2 ^ n - 1:=by
  subst hm
  have:((2:Int) ^ n - 1)=((2 ^ n - 1:Nat):Int):=by
   have:1≤2 ^ n:=Nat.two_pow_pos n
   push_cast [Int.ofNat_sub this];rfl
  rw[this];rfl
 rw[e,Nat.and_two_pow_sub_one_eq_mod]
 have e2:Int.ofNat (a.toNat % 2 ^ n)=a % 2 ^ n:=by
  show ((a.toNat % 2 ^ n:Nat):Int)=_
  rw[Int.natCast_emod,Int.toNat_of_nonneg h0]
  norm_cast
 rw[e2]
 have:=Int.emod_nonneg a (show (2:Int) ^ n≠0 by omega)
 have:=Int.emod_lt_of_pos a hp0
 exact vX (by omega) (by omega)
theorem WR (n:Nat) {x b:Int} (hx:0≤x) (hb:0≤b) (hbn:b<2 ^ n) (ha:x*2 ^ n+b<18446744073709551616):IntKind.wrap .u64 (Int.ofNat (BitVec.ofInt 64 (x*2 ^ n) ||| BitVec.ofInt 64 b).toNat)=x*2 ^ n+b:=by
 have hx0:0≤x*2 ^ n:=Int.mul_nonneg hx (by
  have:(0:Nat)<2 ^ n:=Nat.two_pow_pos n
  have:(0:Int)<2 ^ n:=by exact_mod_cast this
  omega)
 rw[BitVec.toNat_or,bv hx0 (by omega),bv hb (by omega)]
 obtain⟨u,rfl⟩:=Int.eq_ofNat_of_zero_le hx
 obtain⟨v,rfl⟩:=Int.eq_ofNat_of_zero_le hb
 have e1:((u:Int)*2 ^ n).toNat=2 ^ n*u:=by
  have:((u:Int)*2 ^ n)=((2 ^ n*u:Nat):Int):=by push_cast;rw[Int.mul_comm]
  rw[this];rfl
 have hv:v<2 ^ n:=by exact_mod_cast hbn
 rw[e1,Int.toNat_natCast,←Nat.two_pow_add_eq_or_of_lt hv]
 have e2:Int.ofNat (2 ^ n*u+v)=(u:Int)*2 ^ n+v:=by
  show ((2 ^ n*u+v:Nat):Int)=_
  push_cast;rw[Int.mul_comm]
 rw[e2]
 exact vX (by omega) ha
end
end Go.Proofs.YtaiokpmmjbiajaaGreatDoorDx.Bits
namespace Go.Proofs.YtaiokpmmjbiajaaGreatDoorDx.Knuth
section
open Go
theorem parts {h l y p p':Int} (hp:0<p) (hp':0<p') (hpp:p'*p=18446744073709551616) (h0:0≤h) (hy:h<y) (l0:0≤l) (l1:l<18446744073709551616) (yp:y*p<18446744073709551616):
  0≤l / p'∧l / p'<p∧h*p+l / p'<y*p∧(h*p+l / p')*18446744073709551616+(l*p) % 18446744073709551616=(h*18446744073709551616+l)*p∧0≤h*p:=by
 have a0:0≤l / p':=Int.ediv_nonneg l0 (by omega)
 have a1:l / p'<p:=by
  rw[Int.ediv_lt_iff_lt_mul hp',Int.mul_comm p p',hpp];exact l1
 have a2:(l*p) / 18446744073709551616=l / p':=by
  rw[←hpp,Int.mul_ediv_mul_of_pos_left _ _ hp]
 have a3:=Int.emod_add_mul_ediv (l*p) 18446744073709551616
 have a4:(h+1)*p≤y*p:=Int.mul_le_mul_of_nonneg_right (by omega) (by omega)
 rw[Int.add_mul,Int.one_mul]at a4
 have a5:0≤h*p:=Int.mul_nonneg h0 (by omega)
 refine⟨a0,a1,by omega,?_,a5⟩
 rw[a2]at a3
 rw[Int.add_mul (h*p),Int.add_mul (h*18446744073709551616),Int.mul_right_comm h]
 omega
theorem sK {k:Nat} (hk:k≤63):(0:Int)<2 ^ k∧(0:Int)<2 ^ (64 - k)∧(2:Int) ^ (64 - k)*2 ^ k=18446744073709551616:=by
 refine⟨Int.pow_pos (by decide),Int.pow_pos (by decide),?_⟩
 rw[←Int.pow_add,Nat.sub_add_cancel (by omega)]
 rfl
theorem gC (y:Int) (h0:0<y) (h1:y<18446744073709551616):1≤Lib.bitLen y.toNat∧Lib.bitLen y.toNat≤64∧9223372036854775808≤y*2 ^ (64 - Lib.bitLen y.toNat)∧y*2 ^ (64 - Lib.bitLen y.toNat)<18446744073709551616:=by
 obtain⟨n,rfl⟩:=Int.eq_ofNat_of_zero_le (Int.le_of_lt h0)
 rw[Int.toNat_natCast]
 have hn:n<2 ^ 64:=by omega
 obtain⟨a,b,c⟩:=Lib.bitLenAux_bounds 64 n hn (by omega)
 have d:Lib.bitLen n≤64:=Lib.bitLen_le _ 64 (Nat.le_refl _) hn
 unfold Lib.bitLen at*
 generalize Lib.bitLenAux 64 n=m at*
 refine⟨a,d,?_,?_⟩
 ·have : 2 ^ (m - 1) * 2 ^ (64 - m) ≤ n * 2 ^ (64 - m) := Nat.mul_le_mul_right _ b
  rw[←Nat.pow_add,show m - 1+(64 - m)=63 by omega]at this
  have:=Int.ofNat_le.2 this
  rw[Int.natCast_mul,Int.natCast_pow,Int.natCast_pow]at this
  exact this
 ·have : n * 2 ^ (64 - m) < 2 ^ m * 2 ^ (64 - m) := Nat.mul_lt_mul_of_pos_right c (Nat.two_pow_pos _)
  rw[←Nat.pow_add,show m+(64 - m)=64 by omega]at this
  have:=Int.ofNat_lt.2 this
  rw[Int.natCast_mul,Int.natCast_pow,Int.natCast_pow]at this
  exact this
theorem Xv {a b c:Int} (h0:0≤a+b - c) (h1:a+b - c<18446744073709551616):IntKind.wrap .u64 (IntKind.wrap .u64 (IntKind.wrap .u64 a+b) - IntKind.wrap .u64 c)=a+b - c:=by
 simp only[IntKind.wrap_u64];omega
end
section
open Go
theorem chain {Step:KX→Ex→KX→Prop} {st:Int→Int→KX} {en:Int→KX} {k:Nat} {u y1 y0 d q r:Int} (h:Fits u y1 y0 d q r)
  (hs: ∀q r,Fits u y1 y0 d q r→(dig u y1 y0 d<q→4294967296≤r+y1→Step (st q r) (.exit k) (en (q - 1)))∧(dig u y1 y0 d<q→ ¬4294967296≤r+y1→Step (st q r) .normal (st (q - 1) (r+y1)))∧(¬dig u y1 y0 d<q→Step (st q r) (.exit k) (en q))):zF Step (st q r) (.exit k) (en (dig u y1 y0 d)):=by
 by_cases h1:dig u y1 y0 d<q
 ·by_cases h2 : 4294967296 ≤ r + y1
  ·have := (hs q r h).1 h1 h2
   rw[h.last h1 h2]at this
   exact .stop (by simp) this
  ·have hn := h.next h1 (by omega)
   refine .next ((hs q r h).2.1 h1 h2) ?_
   by_cases h3:dig u y1 y0 d<q - 1
   ·have h4 : 4294967296 ≤ r + y1 + y1 := by have := h.r0; have := h.y1l; omega
    have:=(hs _ _ hn).1 h3 h4
    rw[hn.last h3 h4]at this
    exact .stop (by simp) this
   ·have := (hs _ _ hn).2.2 h3
    rw[congrArg en (hn.done h3)]at this
    exact .stop (by simp) this
 ·have := (hs q r h).2.2 h1
  rw[congrArg en (h.done h1)]at this
  exact .stop (by simp) this
end
end Go.Proofs.YtaiokpmmjbiajaaGreatDoorDx.Knuth
namespace Go.Proofs.YtaiokpmmjbiajaaGreatDoorDx
section
open Go Go.Proofs
namespace A206L0
noncomputable def cfg:Cfg:=zz Tryz.prog 4 (gpT []) (ltT 4 [])
def stA (y:Int) (s:Int) (y1:Int) (y0:Int) (u:Int) (d1:Int) (d0:Int) (q:Int) (r:Int):KX:=⟨[(2,.int .u64 y),(8,.int .u64 s),(9,.int .u64 y1),(10,.int .u64 y0),(11,.int .u64 u),(13,.int .u64 d1),(14,.int .u64 d0),(15,.int .u64 q),(16,.int .u64 r)],[]⟩
def qP (y:Int) (s:Int) (y1:Int) (y0:Int) (u:Int) (d1:Int) (d0:Int) (q:Int):KX:=⟨[(2,.int .u64 y),(8,.int .u64 s),(9,.int .u64 y1),(10,.int .u64 y0),(11,.int .u64 u),(13,.int .u64 d1),(14,.int .u64 d0),(15,.int .u64 q)],[]⟩
def kp:Ex→List Nat
 | .normal=>[2,8,9,10,11,13,14,15,16]
 | .exit _=>[2,8,9,10,11,13,14,15]
 |_=>[]
theorem round (y:Int) (s:Int) (y1:Int) (y0:Int) (u:Int) (d1:Int) (d0:Int) (q:Int) (r:Int):zW cfg [] [] 206 0 (stK 135 4 [] (stA y s y1 y0 u d1 d0 q r)) (zD 4 100 135 kp (fun _ _=>[]))=(let x1:=IntKind.wrap .u64 (r+y1);let x2:=IntKind.wrap .u64 (q - 1);(bif decide (q≥4294967296)then(bif decide (x1≥4294967296)then(some (.exit 0,qP y s y1 y0 u d1 d0 x2))else(some (.normal,stA y s y1 y0 u d1 d0 x2 x1)))else(bif decide ((IntKind.wrap .u64 (q*y0))>(IntKind.wrap .u64 ((IntKind.wrap .u64 (4294967296*r))+d1)))then(bif decide (x1≥4294967296)then(some (.exit 0,qP y s y1 y0 u d1 d0 x2))else(some (.normal,stA y s y1 y0 u d1 d0 x2 x1)))else(some (.exit 0,qP y s y1 y0 u d1 d0 q))))
):=by kernel_rfl
noncomputable def D:KD:=⟨135,4,100,[2,8,9,10,11,13,14,15,16],[],fun _=>[],fun x ro=>match x.vs,x.cars,ro with
 |[(2,.int .u64 y),(8,.int .u64 s),(9,.int .u64 y1),(10,.int .u64 y0),(11,.int .u64 u),(13,.int .u64 d1),(14,.int .u64 d0),(15,.int .u64 q),(16,.int .u64 r)],[],[]=>
  .qI (Knuth.Vy u y1 y0 d1 q r) (.out (.exit 0,qP y s y1 y0 u d1 d0 (Knuth.dig u y1 y0 d1)))
 |_,_,_=> .no⟩
noncomputable def lp:LpK:=⟨206,17,0,D⟩
theorem qG:zw Tryz.prog La 4 lp:=by
 refine⟨by kernel_rfl,fun c base I hP hn hG hI hIL x ro ex y e=> ?_⟩
 obtain⟨vs,cars⟩:=x
 simp only[lp,D]at e ⊢
 split at e
 ·rename_i y s y1 y0 u d1 d0 q r
  obtain⟨g1,g2⟩:=GT.qh e
  cases g2
  refine Knuth.chain (st:=fun q r=>stA y s y1 y0 u d1 d0 q r) (en:=fun q=>qP y s y1 y0 u d1 d0 q) (Knuth.QA.1 g1) fun q r h=> ?_
  have hr:=round y s y1 y0 u d1 d0 q r
  dsimp only[]at hr
  rw[h.round (fun q r=>some (Ex.normal,stA y s y1 y0 u d1 d0 q r)) (fun q=>some (.exit 0,qP y s y1 y0 u d1 d0 q))]at hr
  refine⟨fun a b=> ?_,fun a b=> ?_,fun a=> ?_⟩
  ·rw [if_pos a, if_pos b] at hr
   exact stepT qg qd (by simp) (by simp) hP hn hG hI hIL hr
  ·rw [if_pos a, if_neg b] at hr
   exact stepT qg qd (by simp) (by simp) hP hn hG hI hIL hr
  ·rw [if_neg a] at hr
   exact stepT qg qd (by simp) (by simp) hP hn hG hI hIL hr
 ·cases e
end A206L0
namespace A206L1
noncomputable def cfg:Cfg:=zz Tryz.prog 4 (gpT []) (ltT 4 [])
def stA (y:Int) (s:Int) (y1:Int) (y0:Int) (d0:Int) (q1:Int) (r:Int) (u:Int) (q:Int):KX:=⟨[(2,.int .u64 y),(8,.int .u64 s),(9,.int .u64 y1),(10,.int .u64 y0),(14,.int .u64 d0),(15,.int .u64 q1),(16,.int .u64 r),(17,.int .u64 u),(18,.int .u64 q)],[]⟩
def qP (y:Int) (s:Int) (y1:Int) (y0:Int) (d0:Int) (q1:Int) (u:Int) (q:Int):KX:=⟨[(2,.int .u64 y),(8,.int .u64 s),(9,.int .u64 y1),(10,.int .u64 y0),(14,.int .u64 d0),(15,.int .u64 q1),(17,.int .u64 u),(18,.int .u64 q)],[]⟩
def kp:Ex→List Nat
 | .normal=>[2,8,9,10,14,15,16,17,18]
 | .exit _=>[2,8,9,10,14,15,17,18]
 |_=>[]
theorem round (y:Int) (s:Int) (y1:Int) (y0:Int) (d0:Int) (q1:Int) (r:Int) (u:Int) (q:Int):zW cfg [] [] 206 1 (stK 135 104 [] (stA y s y1 y0 d0 q1 r u q)) (zD 104 100 135 kp (fun _ _=>[]))=(let x1:=IntKind.wrap .u64 (r+y1);let x2:=IntKind.wrap .u64 (q - 1);(bif decide (q≥4294967296)then(bif decide (x1≥4294967296)then(some (.exit 2,qP y s y1 y0 d0 q1 u x2))else(some (.normal,stA y s y1 y0 d0 q1 x1 u x2)))else(bif decide ((IntKind.wrap .u64 (q*y0))>(IntKind.wrap .u64 ((IntKind.wrap .u64 (4294967296*r))+d0)))then(bif decide (x1≥4294967296)then(some (.exit 2,qP y s y1 y0 d0 q1 u x2))else(some (.normal,stA y s y1 y0 d0 q1 x1 u x2)))else(some (.exit 2,qP y s y1 y0 d0 q1 u q))))
):=by kernel_rfl
noncomputable def D:KD:=⟨135,104,100,[2,8,9,10,14,15,16,17,18],[],fun _=>[],fun x ro=>match x.vs,x.cars,ro with
 |[(2,.int .u64 y),(8,.int .u64 s),(9,.int .u64 y1),(10,.int .u64 y0),(14,.int .u64 d0),(15,.int .u64 q1),(16,.int .u64 r),(17,.int .u64 u),(18,.int .u64 q)],[],[]=>
  .qI (Knuth.Vy u y1 y0 d0 q r) (.out (.exit 2,qP y s y1 y0 d0 q1 u (Knuth.dig u y1 y0 d0)))
 |_,_,_=> .no⟩
noncomputable def lp:LpK:=⟨206,24,1,D⟩
theorem qG:zw Tryz.prog La 4 lp:=by
 refine⟨by kernel_rfl,fun c base I hP hn hG hI hIL x ro ex y e=> ?_⟩
 obtain⟨vs,cars⟩:=x
 simp only[lp,D]at e ⊢
 split at e
 ·rename_i y s y1 y0 d0 q1 r u q
  obtain⟨g1,g2⟩:=GT.qh e
  cases g2
  refine Knuth.chain (st:=fun q r=>stA y s y1 y0 d0 q1 r u q) (en:=fun q=>qP y s y1 y0 d0 q1 u q) (Knuth.QA.1 g1) fun q r h=> ?_
  have hr:=round y s y1 y0 d0 q1 r u q
  dsimp only[]at hr
  rw[h.round (fun q r=>some (Ex.normal,stA y s y1 y0 d0 q1 r u q)) (fun q=>some (.exit 2,qP y s y1 y0 d0 q1 u q))]at hr
  refine⟨fun a b=> ?_,fun a b=> ?_,fun a=> ?_⟩
  ·rw [if_pos a, if_pos b] at hr
   exact stepT qg qd (by simp) (by simp) hP hn hG hI hIL hr
  ·rw [if_pos a, if_neg b] at hr
   exact stepT qg qd (by simp) (by simp) hP hn hG hI hIL hr
  ·rw [if_neg a] at hr
   exact stepT qg qd (by simp) (by simp) hP hn hG hI hIL hr
 ·cases e
end A206L1
namespace A206g
noncomputable def T (a0:Int) (a1:Int) (a2:Int):GT Value:=let x2:=IntKind.wrap .u64 (64 - (Int.ofNat (Go.Lib.bitLen (a2).toNat)));let x3:=IntKind.wrap .u64 (a2*(2 ^ (min (x2).toNat 64)));let x4:=IntKind.wrap .u64 (Int.ofNat (BitVec.ofInt 64 (IntKind.wrap .u64 (a0*(2 ^ (min (x2).toNat 64)))) ||| BitVec.ofInt 64 (Int.fdiv a1 (2 ^ (min ((IntKind.wrap .u64 (64 - x2))).toNat 64)))).toNat);let x5:=IntKind.wrap .u64 (Int.ofNat (BitVec.ofInt 64 (IntKind.wrap .u64 (a1*(2 ^ (min (x2).toNat 64)))) &&& BitVec.ofInt 64 4294967295).toNat);let x6:=IntKind.wrap .u64 (Int.ofNat (BitVec.ofInt 64 x3 &&& BitVec.ofInt 64 4294967295).toNat);let x7:=Int.fdiv x3 4294967296;let x8:=Int.fdiv (IntKind.wrap .u64 (a1*(2 ^ (min (x2).toNat 64)))) 4294967296;let x1:=IntKind.wrap .u64 ((IntKind.wrap .u64 ((IntKind.wrap .u64 (x4*4294967296))+x8)) - (IntKind.wrap .u64 ((Knuth.dig x4 x7 x6 x8)*x3)));let x9:=IntKind.wrap .u64 (Int.tdiv x4 x7);let x10:=IntKind.wrap .u64 (Int.tdiv x1 x7);(.br ((a2==0)) .no (.br (decide (a2≤a0)) .no (.br ((a0==0)) (.br ((!decide (a2=0))) (.br ((!decide (a2=0))) (.out (.tuple ([.int .u64 (IntKind.wrap .u64 (Int.tdiv a1 a2)),.int .u64 (Int.tmod a1 a2)]).toArray)) .no) .no) (.br ((decide (0≤a2)&&decide (a2<18446744073709551616))) (.br ((!decide (x2<0))) (.br ((!decide (x2<0))) (.br ((!decide ((IntKind.wrap .u64 (64 - x2))<0))) (.br ((!decide (x2<0))) (.br ((!decide (x7=0))) (.br ((Knuth.Vy x4 x7 x6 x8 x9 (IntKind.wrap .u64 (x4 - (IntKind.wrap .u64 (x9*x7)))))) (.br ((!decide (x7=0))) (.br ((Knuth.Vy x1 x7 x6 x5 x10 (IntKind.wrap .u64 (x1 - (IntKind.wrap .u64 (x10*x7)))))) (.br ((!decide (x2<0))) (.out (.tuple ([.int .u64 (IntKind.wrap .u64 ((IntKind.wrap .u64 ((Knuth.dig x4 x7 x6 x8)*4294967296))+(Knuth.dig x1 x7 x6 x5))),.int .u64 (Int.fdiv (IntKind.wrap .u64 ((IntKind.wrap .u64 ((IntKind.wrap .u64 (x1*4294967296))+x5)) - (IntKind.wrap .u64 ((Knuth.dig x1 x7 x6 x5)*x3)))) (2 ^ (min (x2).toNat 64)))]).toArray)) .no) .no) .no) .no) .no) .no) .no) .no) .no) .no))))
theorem run (a0:Int) (a1:Int) (a2:Int):runK 4 [(228,A228.spec)] [A206L0.lp,A206L1.lp] 206 [.v (.int .u64 a0),.v (.int .u64 a1),.v (.int .u64 a2)]=(T a0 a1 a2).eval:=by kernel_rfl
theorem qL (h l y:Int) (hy:h<y) (h0:0≤h) (l0:0≤l) (l1:l<18446744073709551616) (y1:y<18446744073709551616):(T h l y).eval=some (.tuple #[.int .u64 ((h*18446744073709551616+l) / y),.int .u64 ((h*18446744073709551616+l) % y)]):=by
 have hyp:0<y:=by omega
 have c1:(y==0)=false:=beq_eq_false_iff_ne.mpr (by omega)
 have c2:decide (y≤h)=false:=decide_eq_false (by omega)
 have c3:decide (y=0)=false:=decide_eq_false (by omega)
 cases c4:h==0 with
 |true=>
  obtain rfl:=beq_iff_eq.1 c4
  have e1:Int.tdiv l y=l / y:=Int.tdiv_eq_ediv_of_nonneg l0
  have e2:Int.tmod l y=l % y:=Int.tmod_eq_emod_of_nonneg l0
  have e3:IntKind.wrap .u64 (l / y)=l / y:=by
   have:=Int.ediv_nonneg l0 (Int.le_of_lt hyp)
   have:=Int.ediv_le_self y l0
   exact Bits.vX (by omega) (by omega)
  unfold T
  simp only[GT.eval,c1,c2,c3,c4,cond_true,cond_false,Bool.not_false,e1,e2,e3,Int.zero_mul,Int.zero_add]
 |false=>
  obtain⟨b1,b2,b3,b4⟩:=Knuth.gC y hyp y1
  generalize hbl:Lib.bitLen y.toNat=m at*
  obtain⟨k,hk⟩: ∃k,64 - m=k:=⟨_,rfl⟩
  have sq:k≤63:=by omega
  rw[hk]at b3 b4
  obtain⟨p1,p2,p3⟩:=Knuth.sK sq
  obtain⟨q1,q2,q3,q4,q5⟩:=Knuth.parts p1 p2 p3 h0 hy l0 l1 b4
  have s1:IntKind.wrap .u64 (64 - Int.ofNat m)=(k:Int):=by
   show IntKind.wrap .u64 (64 - ((m:Nat):Int))=_
   rw[IntKind.wrap_u64];omega
  have s2:min ((k:Int)).toNat 64=k:=by rw[Int.toNat_natCast];omega
  have s3:IntKind.wrap .u64 (64 - (k:Int))=((64 - k:Nat):Int):=by rw[IntKind.wrap_u64];omega
  have s4:min (((64 - k:Nat):Int)).toNat 64=64 - k:=by rw[Int.toNat_natCast];omega
  have s5:decide ((k:Int)<0)=false:=decide_eq_false (by omega)
  have s6:decide ((((64 - k:Nat):Int))<0)=false:=decide_eq_false (by omega)
  have s7:(decide (0≤y)&&decide (y<18446744073709551616))=true:=by simp only[Bool.and_eq_true,decide_eq_true_eq];omega
  have f1:Int.fdiv l (2 ^ (64 - k))=l / 2 ^ (64 - k):=Int.fdiv_eq_ediv_of_nonneg _ (by omega)
  have w1:IntKind.wrap .u64 (y*2 ^ k)=y*2 ^ k:=Bits.vX (by omega) b4
  have w2:IntKind.wrap .u64 (h*2 ^ k)=h*2 ^ k:=Bits.vX q5 (by omega)
  have w3:IntKind.wrap .u64 (l*2 ^ k)=(l*2 ^ k) % 18446744073709551616:=by rw[IntKind.wrap_u64]
  have w4:=Bits.WR k h0 q1 q2 (by omega)
  unfold T
  simp only[hbl,s1,s2,s3,s4,f1,w1,w2,w3,w4]
  generalize hu:h*2 ^ k+l / 2 ^ (64 - k)=u at*
  generalize ht:(l*2 ^ k) % 18446744073709551616=t at*
  have t0:0≤t∧t<18446744073709551616:=by omega
  generalize hD:y*2 ^ k=D at*
  have u0:0≤u:=by omega
  have f2:Int.fdiv D 4294967296=D / 4294967296:=Int.fdiv_eq_ediv_of_nonneg _ (by decide)
  have f3:Int.fdiv t 4294967296=t / 4294967296:=Int.fdiv_eq_ediv_of_nonneg _ (by decide)
  have m1:=Bits.wM 32 (by decide) (a:=D) (m:=4294967295) (by decide) (by omega) (by omega)
  have m2:=Bits.wM 32 (by decide) (a:=t) (m:=4294967295) (by decide) (by omega) (by omega)
  rw[show (2:Int) ^ 32=4294967296 from rfl]at m1 m2
  simp only[f2,f3,m1,m2]
  have hDs:D=D / 4294967296*4294967296+D % 4294967296:=by omega
  have bx:=Knuth.Fits.start (u:=u) (y1:=D / 4294967296) (y0:=D % 4294967296) (d:=t / 4294967296) u0 (by omega) (by omega) (by omega) (by omega) (by omega) (by omega) (by omega)
  have z1:Int.tdiv u (D / 4294967296)=u / (D / 4294967296):=Int.tdiv_eq_ediv_of_nonneg u0
  obtain⟨e1,e2,e3,e4⟩:=bx.qlt
  have e5:=bx.r0
  have e6:=bx.rh
  have e7:0≤u / (D / 4294967296)*(D / 4294967296):=Int.mul_nonneg e1 (by omega)
  have z2:IntKind.wrap .u64 (u / (D / 4294967296))=u / (D / 4294967296):=Bits.vX e1 e3
  have z3:IntKind.wrap .u64 (u - IntKind.wrap .u64 (u / (D / 4294967296)*(D / 4294967296)))=u - u / (D / 4294967296)*(D / 4294967296):=by
   rw[IntKind.wrap_u64,IntKind.wrap_u64];omega
  have l1':=Knuth.left_eq (u:=u) (y1:=D / 4294967296) (y0:=D % 4294967296) (d:=t / 4294967296)
  rw[←hDs]at l1'
  have hDp:0<D:=by omega
  have g1:=Int.emod_nonneg (u*4294967296+t / 4294967296) (show D≠0 by omega)
  have g2:=Int.emod_lt_of_pos (u*4294967296+t / 4294967296) hDp
  have dn1:=bx.KW
  have ds1:=bx.small
  generalize hq:Knuth.dig u (D / 4294967296) (D % 4294967296) (t / 4294967296)=qa at*
  have z4:IntKind.wrap .u64 (IntKind.wrap .u64 (IntKind.wrap .u64 (u*4294967296)+t / 4294967296) - IntKind.wrap .u64 (qa*D))=(u*4294967296+t / 4294967296) % D:=by
   rw[Knuth.Xv (by omega) (by omega),l1']
  have hqa:qa=(u*4294967296+t / 4294967296) / D:=by rw[←hq];unfold Knuth.dig;rw[←hDs]
  simp only[z1,z2,z3,z4,Knuth.QA.2 bx]
  generalize hv:(u*4294967296+t / 4294967296) % D=v at*
  have VP:=Knuth.Fits.start (u:=v) (y1:=D / 4294967296) (y0:=D % 4294967296) (d:=t % 4294967296) g1 (by omega) (by omega) (by omega) (by omega) (by omega) (by omega) (by omega)
  have y1':Int.tdiv v (D / 4294967296)=v / (D / 4294967296):=Int.tdiv_eq_ediv_of_nonneg g1
  obtain⟨i1,i2,i3,i4⟩:=VP.qlt
  have i5:=VP.r0
  have i6:=VP.rh
  have i7:0≤v / (D / 4294967296)*(D / 4294967296):=Int.mul_nonneg i1 (by omega)
  have y2:IntKind.wrap .u64 (v / (D / 4294967296))=v / (D / 4294967296):=Bits.vX i1 i3
  have y3:IntKind.wrap .u64 (v - IntKind.wrap .u64 (v / (D / 4294967296)*(D / 4294967296)))=v - v / (D / 4294967296)*(D / 4294967296):=by
   rw[IntKind.wrap_u64,IntKind.wrap_u64];omega
  have l2':=Knuth.left_eq (u:=v) (y1:=D / 4294967296) (y0:=D % 4294967296) (d:=t % 4294967296)
  rw[←hDs]at l2'
  have g3:=Int.emod_nonneg (v*4294967296+t % 4294967296) (show D≠0 by omega)
  have g4:=Int.emod_lt_of_pos (v*4294967296+t % 4294967296) hDp
  have dn2:=VP.KW
  have ds2:=VP.small
  generalize hq2:Knuth.dig v (D / 4294967296) (D % 4294967296) (t % 4294967296)=qb at*
  have y4:IntKind.wrap .u64 (IntKind.wrap .u64 (IntKind.wrap .u64 (v*4294967296)+t % 4294967296) - IntKind.wrap .u64 (qb*D))=(v*4294967296+t % 4294967296) % D:=by
   rw[Knuth.Xv (by omega) (by omega),l2']
  have hqb:qb=(v*4294967296+t % 4294967296) / D:=by rw[←hq2];unfold Knuth.dig;rw[←hDs]
  have y5:IntKind.wrap .u64 (IntKind.wrap .u64 (qa*4294967296)+qb)=qa*4294967296+qb:=by
   rw[IntKind.wrap_u64,IntKind.wrap_u64];omega
  have d7:decide (D / 4294967296=0)=false:=decide_eq_false (by omega)
  simp only[y1',y2,y3,y4,y5,Knuth.QA.2 VP,GT.eval,c1,c2,c4,s5,s6,s7,d7,cond_true,cond_false,Bool.not_false]
  obtain⟨t1,t2⟩:=Knuth.XP (u:=u) (D:=D) (d1:=t / 4294967296) (d0:=t % 4294967296) hDp (by omega) (by omega)
  have hN:u*4294967296*4294967296+t / 4294967296*4294967296+t % 4294967296=(h*18446744073709551616+l)*2 ^ k:=by rw[←q4];omega
  rw[hN,hv,←hqa,←hqb,←hD,Int.mul_ediv_mul_of_pos_left _ _ p1]at t1
  have hm:((h*18446744073709551616+l)*2 ^ k) % (y*2 ^ k)=(h*18446744073709551616+l) % y*2 ^ k:=by
   rw[Int.mul_comm _ (2 ^ k),Int.mul_comm y,Int.mul_emod_mul_of_pos _ _ p1,Int.mul_comm]
  rw[hN,hv,←hD,hm]at t2
  rw[←hD,←t2,←t1]
  have f4:Int.fdiv ((h*18446744073709551616+l) % y*2 ^ k) (2 ^ k)=(h*18446744073709551616+l) % y:=by
   rw[Int.fdiv_eq_ediv_of_nonneg _ (by omega),Int.mul_ediv_cancel _ (by omega)]
  rw[f4]
def spec:Spec:=fun aa=>match aa with
 |[.v (.int .u64 h),.v (.int .u64 a),.v (.int .u64 b)]=>some (.qI (decide (h<b)&&(u64 h&&(u64 a&&u64 b))) (.out (.tuple #[.int .u64 ((h*18446744073709551616+a) / b),.int .u64 ((h*18446744073709551616+a) % b)])))
 |_=>none
theorem qf:qu Tryz.prog La 206 spec:=⟨qE (by kernel_rfl),fun aa t v h e=>by
 unfold spec at h
 split at h
 ·rename_i h0 a b
  cases h
  obtain⟨g1,g2⟩:=GT.qh e
  cases g2
  unfold u64 at g1
  simp only[Bool.and_eq_true,decide_eq_true_eq]at g1
  obtain⟨g1,⟨g2,g3⟩,⟨g4,g5⟩,g6,g7⟩:=g1
  exact⟨rfl,qR (n0:=4) (k:=12) qx qg qd (by simpa using A228.qf) (by simpa using⟨A206L0.qG,A206L1.qG⟩) (by decide) (by simp) rfl ((run _ _ _).trans (qL _ _ _ g1 g2 g4 g5 g7))⟩
 ·cases h⟩
end A206g
end
end Go.Proofs.YtaiokpmmjbiajaaGreatDoorDx
namespace Go.Proofs.YtaiokpmmjbiajaaGreatDoorDx.Ari
section
open Go
def qz (n:Int):Int:=if n<0 then -n else n
theorem jv {n:Int} (h:inR n=true):0≤qz n∧qz n≤9223372036854775808:=by
 unfold inR at h
 simp only[Bool.and_eq_true,decide_eq_true_eq]at h
 unfold qz
 split<;>omega
theorem aO {n:Int}:qz n=0↔n=0:=by unfold qz;split<;>omega
def below (a b d:Int):Bool:= !((!(decide (a<0)==decide (b<0)))==decide (d<0))
def quot (a b d:Int):Int×Bool:=
 bif decide (qz a*qz b / qz d>9223372036854775808)||((qz a*qz b / qz d==9223372036854775808)&& !below a b d)then(0,false)else
 bif below a b d then(-(qz a*qz b / qz d),true)else(qz a*qz b / qz d,true)
def mdV (a b d:Int):Int×Bool:=
 bif decide (qz a*qz b / qz d≥18446744073709551616)then(0,false)else
 bif below a b d&&(qz a*qz b / qz d != 0)then(IntKind.wrap .i64 (-(qz a*qz b / qz d)),decide (qz a*qz b / qz d≤9223372036854775808))else
 (IntKind.wrap .i64 (qz a*qz b / qz d),decide (qz a*qz b / qz d<9223372036854775808))
theorem YZ {a b:Int} (ha:inR a=true) (hb:inR b=true):0≤qz a*qz b∧qz a*qz b<340282366920938463463374607431768211456:=by
 have h1:=jv ha
 have h2:=jv hb
 refine⟨Int.mul_nonneg h1.1 h2.1,?_⟩
 have:=Int.mul_le_mul h1.2 h2.2 h2.1 (by decide)
 omega
theorem size_pos {d:Int} (hd:inR d=true) (h:d≠0):0<qz d:=by
 have h1:=jv hd
 have:= @aO d
 omega
theorem JH {a b d:Int} (ha:inR a=true) (hb:inR b=true) (hd:inR d=true) (h:d≠0):(mdV a b d).2=(quot a b d).2∧((quot a b d).2=true→(mdV a b d).1=(quot a b d).1∧inR (quot a b d).1=true):=by
 have hq:0≤qz a*qz b / qz d:=Int.ediv_nonneg (YZ ha hb).1 (Int.le_of_lt (size_pos hd h))
 unfold mdV quot
 generalize qz a*qz b / qz d=q at*
 by_cases h1:q≥18446744073709551616
 ·rw [decide_eq_true h1, decide_eq_true (show q > 9223372036854775808 by omega)]
  exact⟨rfl,fun h=>by cases h⟩
 rw[decide_eq_false h1]
 cases hb2:below a b d
 ·simp only [Bool.false_and, cond_false, Bool.not_false, Bool.and_true]
  by_cases h2:q<9223372036854775808
  ·have e : (q == 9223372036854775808) = false := beq_eq_false_iff_ne.2 (by omega)
   rw[decide_eq_true h2,decide_eq_false (show¬q>9223372036854775808 by omega),e]
   refine⟨rfl,fun _=>⟨?_,?_⟩⟩
   ·show IntKind.wrap .i64 q = q
    rw[IntKind.wrap_i64];omega
   ·show inR q = true
    unfold inR;simp only[Bool.and_eq_true,decide_eq_true_eq];omega
  ·rw [decide_eq_false h2]
   have e:(decide (q>9223372036854775808)||q==9223372036854775808)=true:=by
    rw[Bool.or_eq_true,decide_eq_true_eq,beq_iff_eq];omega
   rw[e]
   exact⟨rfl,fun h=>by cases h⟩
 ·simp only [Bool.true_and, Bool.not_true, Bool.and_false, Bool.or_false, cond_true]
  by_cases h0:q=0
  ·subst h0
   exact⟨rfl,fun _=>⟨rfl,rfl⟩⟩
  ·rw [bne_iff_ne.2 h0]
   by_cases h2:q≤9223372036854775808
   ·rw [decide_eq_true h2, decide_eq_false (show ¬ q > 9223372036854775808 by omega)]
    refine⟨rfl,fun _=>⟨?_,?_⟩⟩
    ·show IntKind.wrap .i64 (-q) = -q
     rw[IntKind.wrap_i64];omega
    ·show inR (-q) = true
     unfold inR;simp only[Bool.and_eq_true,decide_eq_true_eq];omega
   ·rw [decide_eq_false h2, decide_eq_true (show q > 9223372036854775808 by omega)]
    exact⟨rfl,fun h=>by cases h⟩
end
end Go.Proofs.YtaiokpmmjbiajaaGreatDoorDx.Ari
namespace Go.Proofs.YtaiokpmmjbiajaaGreatDoorDx
section
open Go Go.Proofs
namespace A205
def T (a0:Int):GT Value:=let x1:=IntKind.wrap .u64 a0;(.br (decide (a0<0)) (.out (.int .u64 (IntKind.wrap .u64 (0 - x1)))) (.out (.int .u64 x1)))
theorem run (a0:Int):runK 4 [] [] 205 [.v (.int .i64 a0)]=(T a0).eval:=by kernel_rfl
theorem qL (a:Int) (h:inR a=true):(T a).eval=some (.int .u64 (Ari.qz a)):=by
 unfold inR at h
 simp only[Bool.and_eq_true,decide_eq_true_eq]at h
 unfold T Ari.qz
 by_cases hn:a<0
 ·have e : IntKind.wrap .u64 (0 - IntKind.wrap .u64 a) = -a := by rw [IntKind.wrap_u64, IntKind.wrap_u64]; omega
  simp only[GT.eval,decide_eq_true hn,cond_true,if_pos hn,e]
 ·have e : IntKind.wrap .u64 a = a := by rw [IntKind.wrap_u64]; omega
  simp only[GT.eval,decide_eq_false hn,cond_false,if_neg hn,e]
def spec:Spec:=fun aa=>match aa with
 |[.v (.int .i64 a)]=>some (.qI (inR a) (.out (.int .u64 (Ari.qz a))))
 |_=>none
theorem qf:qu Tryz.prog La 205 spec:=⟨qE (by kernel_rfl),fun aa t v h e=>by
 unfold spec at h
 split at h
 ·rename_i a
  cases h
  obtain⟨g1,g2⟩:=GT.qh e
  cases g2
  exact⟨rfl,qR (l:=[]) (L:=[]) (n0:=4) (k:=12) qx qg qd (by simp) (by simp) (by decide) (by simp) rfl ((run _).trans (qL _ g1))⟩
 ·cases h⟩
end A205
namespace A175
def T (a0:Int) (a1:Int) (a2:Int):GT Value:=let x1:=IntKind.wrap .i64 ((((((Ari.qz a0)*(Ari.qz a1)) / 18446744073709551616)*18446744073709551616)+(((Ari.qz a0)*(Ari.qz a1)) % 18446744073709551616)) / (Ari.qz a2));let o1:GT Value:=(.out (.tuple #[.int .i64 x1,.bool (decide (((((((Ari.qz a0)*(Ari.qz a1)) / 18446744073709551616)*18446744073709551616)+(((Ari.qz a0)*(Ari.qz a1)) % 18446744073709551616)) / (Ari.qz a2))<9223372036854775808))]));(.br (inR a0) (.br (inR a1) (.br ((decide (0≤(Ari.qz a0))&&decide ((Ari.qz a0)<18446744073709551616))&&(decide (0≤(Ari.qz a1))&&decide ((Ari.qz a1)<18446744073709551616))) (.br (inR a2) (.br (decide ((((Ari.qz a0)*(Ari.qz a1)) / 18446744073709551616)≥(Ari.qz a2))) (.out (.tuple #[.int .i64 0,.bool false])) (.br (decide ((((Ari.qz a0)*(Ari.qz a1)) / 18446744073709551616)<(Ari.qz a2))&&((decide (0≤(((Ari.qz a0)*(Ari.qz a1)) / 18446744073709551616))&&decide ((((Ari.qz a0)*(Ari.qz a1)) / 18446744073709551616)<18446744073709551616))&&((decide (0≤(((Ari.qz a0)*(Ari.qz a1)) % 18446744073709551616))&&decide ((((Ari.qz a0)*(Ari.qz a1)) % 18446744073709551616)<18446744073709551616))&&(decide (0≤(Ari.qz a2))&&decide ((Ari.qz a2)<18446744073709551616))))) (.br (((((((Ari.qz a0)*(Ari.qz a1)) / 18446744073709551616)*18446744073709551616)+(((Ari.qz a0)*(Ari.qz a1)) % 18446744073709551616)) / (Ari.qz a2)) != 0) (.br (!((!(decide (a0<0)==decide (a1<0)))==decide (a2<0))) (.out (.tuple #[.int .i64 (IntKind.wrap .i64 (IntKind.wrap .u64 (0 - ((((((Ari.qz a0)*(Ari.qz a1)) / 18446744073709551616)*18446744073709551616)+(((Ari.qz a0)*(Ari.qz a1)) % 18446744073709551616)) / (Ari.qz a2))))),.bool (decide (((((((Ari.qz a0)*(Ari.qz a1)) / 18446744073709551616)*18446744073709551616)+(((Ari.qz a0)*(Ari.qz a1)) % 18446744073709551616)) / (Ari.qz a2))≤9223372036854775808))])) o1) o1) .no)) .no) .no) .no) .no)
theorem run (a0:Int) (a1:Int) (a2:Int):runK 4 [(204,yP),(206,A206g.spec),(205,A205.spec)] [] 175 [.v (.int .i64 a0),.v (.int .i64 a1),.v (.int .i64 a2)]=(T a0 a1 a2).eval:=by kernel_rfl
theorem qL (a b d:Int) (ha:inR a=true) (hb:inR b=true) (hd:inR d=true) (h0:d≠0):(T a b d).eval=some (.tuple #[.int .i64 (Ari.mdV a b d).1,.bool (Ari.mdV a b d).2]):=by
 obtain⟨n0,n1⟩:=Ari.YZ ha hb
 have a1:=Ari.jv ha
 have b1:=Ari.jv hb
 have d1:=Ari.jv hd
 have dp:=Ari.size_pos hd h0
 unfold T Ari.mdV
 have hle:(Ari.qz a*Ari.qz b / 18446744073709551616≥Ari.qz d)↔Ari.qz a*Ari.qz b / Ari.qz d≥18446744073709551616:=by
  show Ari.qz d≤_↔18446744073709551616≤_
  rw[Int.le_ediv_iff_mul_le (by decide),Int.le_ediv_iff_mul_le dp,Int.mul_comm]
 have e1:Ari.qz a*Ari.qz b / 18446744073709551616*18446744073709551616+Ari.qz a*Ari.qz b % 18446744073709551616=Ari.qz a*Ari.qz b:=by omega
 have e2:(decide (0≤Ari.qz a)&&decide (Ari.qz a<18446744073709551616)&&(decide (0≤Ari.qz b)&&decide (Ari.qz b<18446744073709551616)))=true:=by simp only[Bool.and_eq_true,decide_eq_true_eq];omega
 have hq:0≤Ari.qz a*Ari.qz b / Ari.qz d:=Int.ediv_nonneg n0 (Int.le_of_lt dp)
 simp only[GT.eval,ha,hb,hd,e1,e2,cond_true]
 by_cases hc:Ari.qz a*Ari.qz b / 18446744073709551616≥Ari.qz d
 ·rw[decide_eq_true hc,decide_eq_true (hle.1 hc)];rfl
 ·have hc' := fun g => hc (hle.2 g)
  rw[decide_eq_false hc,decide_eq_false hc']
  have e3:(decide (Ari.qz a*Ari.qz b / 18446744073709551616<Ari.qz d)&&(decide (0≤Ari.qz a*Ari.qz b / 18446744073709551616)&&decide (Ari.qz a*Ari.qz b / 18446744073709551616<18446744073709551616)&&(decide (0≤Ari.qz a*Ari.qz b % 18446744073709551616)&&decide (Ari.qz a*Ari.qz b % 18446744073709551616<18446744073709551616)&&(decide (0≤Ari.qz d)&&decide (Ari.qz d<18446744073709551616)))))=true:=by
   simp only[Bool.and_eq_true,decide_eq_true_eq];omega
  simp only[e3,cond_true,cond_false]
  unfold Ari.below
  generalize Ari.qz a*Ari.qz b / Ari.qz d=q at*
  have e4:IntKind.wrap .i64 (IntKind.wrap .u64 (0 - q))=IntKind.wrap .i64 (-q):=by
   rw[IntKind.wrap_u64,IntKind.wrap_i64,IntKind.wrap_i64];omega
  rw[e4]
  cases q != 0<;>cases (!((!(decide (a<0)==decide (b<0)))==decide (d<0)))<;>rfl
def spec:Spec:=fun aa=>match aa with
 |[.v (.int .i64 a),.v (.int .i64 b),.v (.int .i64 d)]=>some (.qI (inR a&&(inR b&&(inR d&& !(d==0)))) (.out (.tuple #[.int .i64 (Ari.mdV a b d).1,.bool (Ari.mdV a b d).2])))
 |_=>none
theorem qf:qu Tryz.prog La 175 spec:=⟨qE (by kernel_rfl),fun aa t v h e=>by
 unfold spec at h
 split at h
 ·rename_i a b d
  cases h
  obtain⟨g1,g2⟩:=GT.qh e
  cases g2
  simp only[Bool.and_eq_true,Bool.not_eq_true',beq_eq_false_iff_ne]at g1
  obtain⟨g1,g2,g3,g4⟩:=g1
  exact⟨rfl,qR (n0:=4) (k:=12) qx qg qd (by simpa using⟨K8,A206g.qf,A205.qf⟩) (by simp) (by decide) (by simp) rfl ((run _ _ _).trans (qL _ _ _ g1 g2 g3 g4))⟩
 ·cases h⟩
end A175
end
end Go.Proofs.YtaiokpmmjbiajaaGreatDoorDx
namespace Go.Proofs.YtaiokpmmjbiajaaGreatDoorDx.Ari
section
open Go Go.Proofs Go.Proofs.YtaiokpmmjbiajaaGreatDoorDx.Fit
def Kk (a b:W3):W3×Int:=
 bif(Ref.zq a.1 b.1 b.2.1 false).2 then(v0,(Ref.zq a.1 b.1 b.2.1 false).1)else
 ofV (bif a.1==3||b.1==3 then 3 else 2) (bif a.1==3&&b.1==3 then quot a.2.1 b.2.1 10000 else quot a.2.1 b.2.1 1)
def Kl (a b:W3):W3×Int:=
 bif(Ref.zq a.1 b.1 b.2.1 true).2 then(v0,(Ref.zq a.1 b.1 b.2.1 true).1)else
 bif a.1==2&&b.1==2 then ofV 2 (quot a.2.1 1 b.2.1)else
 bif(Ref.zp a.1 a.2.1).2&&(Ref.zp b.1 b.2.1).2 then ofV 3 (quot (Ref.zp a.1 a.2.1).1 10000 (Ref.zp b.1 b.2.1).1)else(v0,20)
theorem Wo {k n:Int} (hn:inR n=true) (h:(Ref.zp k n).2=true):inR (Ref.zp k n).1=true:=by
 have h1:=vN.1 hn
 unfold Ref.zp at h ⊢
 cases hk:k==3<;>rw[hk]at h
 ·simp only [cond_false, Bool.and_eq_true, decide_eq_true_eq] at h ⊢
  exact vN.2 (by rw[IntKind.wrap_i64];omega)
 ·exact hn
end
end Go.Proofs.YtaiokpmmjbiajaaGreatDoorDx.Ari
namespace Go.Proofs.YtaiokpmmjbiajaaGreatDoorDx
section
open Go Go.Proofs
namespace A161
def T (k0 n0:Int) (s0:ByteArray) (k1 n1:Int) (s1:ByteArray):GT Value:=let x1:=if k1>k0 then k1 else k0;let x2:=Ari.mdV n0 n1 10000;let o1:GT Value:=(.out (.tuple #[.agg #[.int .i64 0,.int .i64 0,.string ⟨#[]⟩],.int .i64 0]));let o2:GT Value:=(.out (.tuple #[.agg #[.int .i64 0,.int .i64 0,.string ⟨#[]⟩],.int .i64 20]));let o3:GT Value:=(.br ((inR n0)&&((inR n1)&&true)) (.br (!(Ari.mdV n0 n1 1).2) o2 (.out (.tuple #[.agg #[.int .i64 x1,.int .i64 (Ari.mdV n0 n1 1).1,.string ⟨#[]⟩],.int .i64 0]))) .no);let o4:GT Value:=(.br (k0==0) o1 (.br (k1==0) o1 (.br (k0==3) (.br (k1==3) (.br ((inR n0)&&((inR n1)&&true)) (.br (!x2.2) o2 (.out (.tuple #[.agg #[.int .i64 x1,.int .i64 x2.1,.string ⟨#[]⟩],.int .i64 0]))) .no) o3) o3)));let o5:GT Value:=(.out (.tuple #[.agg #[.int .i64 0,.int .i64 0,.string ⟨#[]⟩],.int .i64 22]));let o6:GT Value:=(.br (k1==2) o4 (.br (!(k1==3)) (.br (k1 != 0) o5 o4) o4));(.br (k0==2) o6 (.br (!(k0==3)) (.br (k0 != 0) o5 o6) o6))
theorem run (k0 n0:Int) (s0:ByteArray) (k1 n1:Int) (s1:ByteArray):runK 4 [(175,A175.spec)] [] 161 [.v (.agg #[.int .i64 k0,.int .i64 n0,.string s0]),.v (.agg #[.int .i64 k1,.int .i64 n1,.string s1])]=(T k0 n0 s0 k1 n1 s1).eval:=by kernel_rfl
set_option maxHeartbeats 0 in
theorem qL (a b:W3) (ha:inR a.2.1=true) (hb:inR b.2.1=true):(T a.1 a.2.1 a.2.2 b.1 b.2.1 b.2.2).eval=some (ve (Ari.Kk a b)):=by
 obtain⟨k,n,s⟩:=a
 obtain⟨k',n',s'⟩:=b
 dsimp only[]at ha hb ⊢
 unfold T Ari.Kk Ref.zq
 obtain⟨e1,e2⟩:=Ari.JH ha hb (show inR 10000=true by decide) (by decide)
 obtain⟨e3,e4⟩:=Ari.JH ha hb (show inR 1=true by decide) (by decide)
 simp only[GT.eval,ha,hb]
 generalize Ari.mdV n n' 10000=m at*
 generalize Ari.quot n n' 10000=q at*
 generalize Ari.mdV n n' 1=m' at*
 generalize Ari.quot n n' 1=q' at*
 obtain⟨m1,m2⟩:=m
 obtain⟨q1,q2⟩:=q
 obtain⟨m3,m4⟩:=m'
 obtain⟨q3,q4⟩:=q'
 dsimp only[]at e1 e2 e3 e4 ⊢
 subst e1 e3
 unfold Ari.ofV
 cases m2<;>cases m4
 ·rcases Ari.kinds k with rfl|rfl|rfl|⟨g1,g2,g3,g4,g5⟩<;>rcases Ari.kinds k' with rfl|rfl|rfl|⟨f1,f2,f3,f4,f5⟩<;>
   (try simp only[g1,g2,g3,g4,g5])<;>(try simp only[f1,f2,f3,f4,f5])<;>rfl
 ·obtain ⟨rfl, _⟩ := e4 rfl
  rcases Ari.kinds k with rfl|rfl|rfl|⟨g1,g2,g3,g4,g5⟩<;>rcases Ari.kinds k' with rfl|rfl|rfl|⟨f1,f2,f3,f4,f5⟩<;>
   (try simp only[g1,g2,g3,g4,g5])<;>(try simp only[f1,f2,f3,f4,f5])<;>rfl
 ·obtain ⟨rfl, _⟩ := e2 rfl
  rcases Ari.kinds k with rfl|rfl|rfl|⟨g1,g2,g3,g4,g5⟩<;>rcases Ari.kinds k' with rfl|rfl|rfl|⟨f1,f2,f3,f4,f5⟩<;>
   (try simp only[g1,g2,g3,g4,g5])<;>(try simp only[f1,f2,f3,f4,f5])<;>rfl
 ·obtain ⟨rfl, _⟩ := e2 rfl
  obtain⟨rfl,_⟩:=e4 rfl
  rcases Ari.kinds k with rfl|rfl|rfl|⟨g1,g2,g3,g4,g5⟩<;>rcases Ari.kinds k' with rfl|rfl|rfl|⟨f1,f2,f3,f4,f5⟩<;>
   (try simp only[g1,g2,g3,g4,g5])<;>(try simp only[f1,f2,f3,f4,f5])<;>rfl
def spec:Spec:=fun aa=>match aa with
 |[a,b]=>(vOf a).bind fun x=>(vOf b).bind fun y=>some (.qI (inR x.2.1&&inR y.2.1) (.out (ve (Ari.Kk x y))))
 |_=>none
theorem qf:qu Tryz.prog La 161 spec:=⟨qE (by kernel_rfl),fun aa t v h e=>by
 unfold spec at h
 split at h
 ·rename_i a b
  obtain⟨x,h1,h⟩:=qi h
  obtain⟨y,h2,h⟩:=qi h
  cases h
  obtain⟨g1,g2⟩:=GT.qh e
  cases g2
  rw[Bool.and_eq_true]at g1
  rw[qN h1,qN h2]
  exact⟨rfl,qR (n0:=4) (k:=12) qx qg qd (by simpa using A175.qf) (by simp) (by decide) (by simp) rfl ((run _ _ _ _ _ _).trans (qL x y g1.1 g1.2))⟩
 ·cases h⟩
end A161
end
end Go.Proofs.YtaiokpmmjbiajaaGreatDoorDx
