/- A part of the proof of this claim. No condition beyond those that each theorem names. -/
import Derived.Test.YtaiokpmmjbiajaaGreatDoorAK1
import Derived.Test.YtaiokpmmjbiajaaGreatDoorAK0
import Derived.Test.YtaiokpmmjbiajaaGreatDoorALeaf0
import Derived.Test.YtaiokpmmjbiajaaGreatDoorAPLeafx1
import Derived.Lib.CountLaws
import Derived.Lib.ReplaceLaws
import Derived.WideShapes
import Derived.Test.YtaiokpmmjbiajaaGreatDoorProg
import Derived.KernelRfl
set_option maxRecDepth 1000000
set_option linter.unusedVariables false
set_option linter.unusedSimpArgs false
section
namespace Go.Proofs.YtaiokpmmjbiajaaGreatDoorDx.AHei
open Go
theorem JL (h:Int): ∀(l:List Int) (j:Nat),j<l.length→ins (ints .i64 l) j (.int .i64 h)=ints .i64 (l.set j h)
 |[],j,hj=>by simp at hj
 |x::l,0,hj=>rfl
 |x::l,j+1,hj=>by
  show (bif Nat.beq (j+1) 0 then _ else(Value.int .i64 x)::ins (ints .i64 l) (j+1 - 1) (.int .i64 h))=_
  rw[Nat.add_sub_cancel,JL h l j (by simpa using hj)];rfl
theorem Zm {l:List Int} {j:Nat} (hj:j<l.length) (h:Int):zt (ints .i64 l) j [.int .i64 h]=ints .i64 (l.set j h):=by
 show zt (ins (ints .i64 l) j (.int .i64 h)) (j+1) []=_
 rw[JL h l j hj];rfl
def put (t:List Int) (j:Nat) (h:Int):Option (List Int):=bif decide (t.getD j 0<0)then some (t.set j h)else bif t.getD j 0==h then some t else none
def step (N lf la:Int) (s:List Int×Int) (i:Nat) (o:O6):Option (List Int×Int):=
 bif decide (s.1.getD i 0<0)||(!Ref.wb o.1 o.2.1 o.2.2.1 i N lf la||(decide (s.1.getD i 0<(Ref.zj o.1 o.2.1).1)||decide (s.1.getD i 0+(Ref.zj o.1 o.2.1).2>1024)))then none else
 ((bif o.1==7||o.1==8 then put s.1 o.2.1.toNat (s.1.getD i 0+(Ref.zj o.1 o.2.1).2)else some s.1).bind fun t=>bif o.1==7 then some t else put t (i+1) (s.1.getD i 0+(Ref.zj o.1 o.2.1).2)).map fun t=>(t,max s.2 (s.1.getD i 0+(Ref.zj o.1 o.2.1).2))
def run (N lf la:Int):Nat→List O6→List Int×Int→Option (List Int×Int)
 |_,[],s=>some s
 |i,o::l,s=>(step N lf la s i o).bind (run N lf la (i+1) l)
structure Good (n:Nat) (s:List Int×Int):Prop where
 len:s.1.length=n+1
 le: ∀x∈s.1,-1≤x∧x≤1024
 m0:0≤s.2
 m1:s.2≤1024
theorem jM {l:List Int} {j:Nat} (h:j<l.length):l.getD j 0∈l:=by
 rw[AN,Au h];exact Bf h
theorem XG {n:Nat} {t t':List Int} {j:Nat} {h:Int} (hl:t.length=n+1) (hle: ∀x∈t,-1≤x∧x≤1024) (h0:0≤h) (h1:h≤1024) (e:put t j h=some t'):t'.length=n+1∧ ∀x∈t',-1≤x∧x≤1024:=by
 unfold put at e
 cases h2:decide (t.getD j 0<0)<;>rw[h2]at e
 ·cases h3 : t.getD j 0 == h <;> rw [h3] at e
  ·cases e
  ·cases e;exact⟨hl,hle⟩
 ·cases e
  refine⟨by simpa using hl,fun x hx=> ?_⟩
  rcases List.mem_or_eq_of_mem_set hx with hx|rfl
  ·exact hle x hx
  ·omega
theorem yo {k n:Int} (hn:k=6→0≤n∧n≤1024):0≤(Ref.zj k n).1∧(Ref.zj k n).1≤1024∧0≤(Ref.zj k n).1+(Ref.zj k n).2∧(Ref.zj k n).1+(Ref.zj k n).2≤1:=by
 unfold Ref.zj
 cases k==1||(k==2||k==9)
 rotate_left
 ·simp only[Ai,Ah];omega
 cases k==3||(k==5||k==10)
 rotate_left
 ·simp only[Ai,Ah];omega
 cases k==4
 rotate_left
 ·simp only[Ai,Ah];omega
 cases h6:k==6
 rotate_left
 ·obtain ⟨a, b⟩ := hn (Ay.1 h6)
  simp only[Ai,Ah]
  rw[kc (by omega) (by omega)]
  omega
 cases k==8<;>(simp only[Ai,Ah];omega)
theorem Z2 {k n:Int} {t:ByteArray} {i N lf la:Int} (h:Ref.wb k n t i N lf la=true) (hk:k=6):0≤n∧n≤1024:=by
 subst hk
 unfold Ref.wb at h
 simp only[show ((6:Int)==1||(6:Int)==10)=false from rfl,show ((6:Int)==2)=false from rfl,show ((6:Int)==9)=false from rfl,show ((6:Int)==3)=false from rfl,show ((6:Int)==4)=false from rfl,show ((6:Int)==5)=false from rfl,show ((6:Int)==6)=true from rfl,Ai,Ah,Ag,As]at h
 omega
theorem xz {k n:Int} {t:ByteArray} {i N lf la:Int} (h:Ref.wb k n t i N lf la=true) (hk:k=7∨k=8):i<n∧n≤N:=by
 unfold Ref.wb at h
 rcases hk with rfl|rfl
 ·simp only [show ((7 : Int) == 1 || (7 : Int) == 10) = false from rfl, show ((7 : Int) == 2) = false from rfl, show ((7 : Int) == 9) = false from rfl, show ((7 : Int) == 3) = false from rfl, show ((7 : Int) == 4) = false from rfl, show ((7 : Int) == 5) = false from rfl, show ((7 : Int) == 6) = false from rfl, show ((7 : Int) == 7 || (7 : Int) == 8) = true from rfl, Ai, Ah, Ag, As] at h
  omega
 ·simp only [show ((8 : Int) == 1 || (8 : Int) == 10) = false from rfl, show ((8 : Int) == 2) = false from rfl, show ((8 : Int) == 9) = false from rfl, show ((8 : Int) == 3) = false from rfl, show ((8 : Int) == 4) = false from rfl, show ((8 : Int) == 5) = false from rfl, show ((8 : Int) == 6) = false from rfl, show ((8 : Int) == 7 || (8 : Int) == 8) = true from rfl, Ai, Ah, Ag, As] at h
  omega
theorem yQ {N lf la:Int} {n:Nat} {s s':List Int×Int} {i:Nat} {o:O6} (h:Good n s) (e:step N lf la s i o=some s'):Good n s':=by
 unfold step at e
 cases hc:decide (s.1.getD i 0<0)||(!Ref.wb o.1 o.2.1 o.2.2.1 i N lf la||(decide (s.1.getD i 0<(Ref.zj o.1 o.2.1).1)||decide (s.1.getD i 0+(Ref.zj o.1 o.2.1).2>1024)))<;>rw[hc]at e
 rotate_left
 ·cases e
 simp only[AU,Cp,Bx]at hc
 obtain⟨c1,c2,c3,c4⟩:=hc
 obtain⟨n1,n2,n3,n4⟩:=yo (k:=o.1) (n:=o.2.1) (Z2 c2)
 have h0:0≤s.1.getD i 0+(Ref.zj o.1 o.2.1).2:=by omega
 have h1:s.1.getD i 0+(Ref.zj o.1 o.2.1).2≤1024:=by omega
 generalize s.1.getD i 0+(Ref.zj o.1 o.2.1).2=g at*
 simp only[Ah]at e
 obtain⟨t2,e2,rfl⟩:=Ak.1 e
 obtain⟨t1,e1,e3⟩:=qi e2
 have p1:t1.length=n+1∧ ∀x∈t1,-1≤x∧x≤1024:=by
  cases q:o.1==7||o.1==8<;>rw[q]at e1
  ·cases e1;exact⟨h.len,h.le⟩
  ·exact XG h.len h.le h0 h1 e1
 have p2:t2.length=n+1∧ ∀x∈t2,-1≤x∧x≤1024:=by
  cases q:o.1==7<;>rw[q]at e3
  ·exact XG p1.1 p1.2 h0 h1 e3
  ·cases e3;exact p1
 have:=h.m0;have:=h.m1
 exact⟨p2.1,p2.2,by show 0≤max s.2 g;omega,by show max s.2 g≤1024;omega⟩
def first (n:Nat):List Int:=0::List.replicate n (-1)
theorem wW (n:Nat):Good n (first n,0):=by
 refine⟨by simp[first],fun x hx=> ?_,Int.le_refl 0,(by show (0:Int)≤1024;omega)⟩
 rcases AX.1 hx with rfl|hx
 ·omega
 ·have:=(List.mem_replicate.1 hx).2;omega
def j9 (N lf la:Int) (l:List O6) (s:List Int×Int):List Int:=((run N lf la 0 l s).map (·.1)).getD []
def wF (N lf la:Int) (l:List O6) (s:List Int×Int):Int:=((run N lf la 0 l s).map (·.2)).getD 0
def j4 (N lf la:Int) (l:List O6) (s:List Int×Int):Bool:=(run N lf la 0 l s).isSome
end Go.Proofs.YtaiokpmmjbiajaaGreatDoorDx.AHei
namespace Go.Proofs.YtaiokpmmjbiajaaGreatDoorDx.AHei
open Go
def lK:Nat→List Value→Bool
 |0,[]=>true
 |n+1,.int .i64 (-1)::l=>lK n l
 |_,_=>false
theorem bx: ∀{n:Nat} {l:List Value},lK n l=true→l=ints .i64 (List.replicate n (-1))
 |0,[],_=>rfl
 |n+1,.int .i64 (-1)::l,h=>by
  have:=bx (n:=n) (l:=l) h
  rw[this];rfl
def VE (m:Nat):List Value:=ints .i64 (List.replicate m (-1))
def isF (n:Nat):List Value→Bool
 | .int .i64 0::l=>lK n l
 |_=>false
theorem fm {n:Nat} {l:List Value} (h:isF n l=true):l=ints .i64 (first n):=by
 unfold isF at h
 split at h
 ·rw[bx h];rfl
 ·cases h
theorem YT: ∀n:Nat,lK n (ints .i64 (List.replicate n (-1)))=true
 |0=>rfl
 |n+1=>YT n
theorem fP (n:Nat):isF n (zt (VE (n+1)) 0 [.int .i64 0])=true:=YT n
theorem XA {N lf la:Int} {n:Nat}: ∀{l:List O6} {i:Nat} {s t:List Int×Int},Good n s→run N lf la i l s=some t→Good n t
 |[],i,s,t,h,e=>by cases e;exact h
 |o::l,i,s,t,h,e=>by
  unfold run at e
  obtain⟨u,e1,e2⟩:=qi e
  exact XA (yQ h e1) e2
def kh (lf la:Int) (l:List O6):Int×Bool:=
 bif(l.length:Int)==0 then(0,false)else bif decide ((l.length:Int)>4096)then(0,false)else
 bif j4 l.length lf la l (first l.length,0)then(wF l.length lf la l (first l.length,0),(j9 l.length lf la l (first l.length,0)).getD l.length 0==1)else(0,false)
theorem Vo {lf la:Int} {l:List O6} (h:j4 l.length lf la l (first l.length,0)=true):(j9 l.length lf la l (first l.length,0)).length=l.length+1:=by
 unfold j4 at h
 unfold j9
 cases e:run l.length lf la 0 l (first l.length,0)with
 |none=>rw[e]at h;cases h
 |some t=>exact(XA (wW _) e).len
end Go.Proofs.YtaiokpmmjbiajaaGreatDoorDx.AHei
end
namespace Go.Proofs.YtaiokpmmjbiajaaGreatDoorDx.AHei
section
open Go
def fX (t:List Int) (j:Nat) (h:Int):Option (List Int):=bif decide (t.getD j 0≥0)&&(t.getD j 0 != h)then none else some (t.set j h)
def ZX (N lf la:Int) (s:List Int×Int) (i:Nat) (o:O6):Option (List Int×Int):=
 bif !Ref.wb o.1 o.2.1 o.2.2.1 i N lf la||(decide (s.1.getD i 0<(Ref.kI o.1 o.2.1).1)||decide (s.1.getD i 0 - (Ref.kI o.1 o.2.1).1+(Ref.kI o.1 o.2.1).2>1024))then none else
 ((bif o.1==7 then some s.1 else fX s.1 (i+1) (s.1.getD i 0 - (Ref.kI o.1 o.2.1).1+(Ref.kI o.1 o.2.1).2)).bind fun t=>bif o.1==7||o.1==8 then fX t o.2.1.toNat (s.1.getD i 0 - (Ref.kI o.1 o.2.1).1+(Ref.kI o.1 o.2.1).2)else some t).map fun t=>(t,max s.2 (s.1.getD i 0 - (Ref.kI o.1 o.2.1).1+(Ref.kI o.1 o.2.1).2))
theorem aP {k n:Int} (hn:k=6→0≤n∧n≤1024):(Ref.kI k n).1=(Ref.zj k n).1∧(Ref.kI k n).2=(Ref.zj k n).1+(Ref.zj k n).2:=by
 unfold Ref.zj Ref.kI
 cases k==1||(k==2||k==9)
 rotate_left
 ·exact⟨rfl,rfl⟩
 cases k==3||(k==5||k==10)
 rotate_left
 ·exact⟨rfl,rfl⟩
 cases k==4
 rotate_left
 ·exact⟨rfl,rfl⟩
 cases h6:k==6
 rotate_left
 ·obtain ⟨a, b⟩ := hn (Ay.1 h6)
  simp only[Ai,Ah]
  rw[kc (by omega) (by omega)]
  exact⟨trivial,by omega⟩
 cases k==8<;>exact⟨rfl,rfl⟩
theorem ix (t:List Int) (j:Nat) (g:Int):fX t j g=put t j g:=by
 unfold fX put
 by_cases h:t.getD j 0<0
 ·rw[Al h,An (show¬t.getD j 0≥0 by omega)];rfl
 ·rw [An h, Al (show t.getD j 0 ≥ 0 by omega)]
  cases e:t.getD j 0==g
  ·rw[bne,e];rfl
  ·rw [bne, e]
   simp only[AF,Bh,Ah,Ai]
   have e:=Ay.1 e
   congr 1
   rcases Nat.lt_or_ge j t.length with hj|hj
   ·rw [AN, Au hj] at e
    have e:t[j]=g:=e
    rw[←e,List.set_getElem_self]
   ·rw[List.set_eq_of_length_le hj]
theorem getD_set_ne {t:List Int} {a b:Nat} {g:Int} (h:a≠b):(t.set a g).getD b 0=t.getD b 0:=by
 rw[AN,AN,List.getElem?_set_ne h]
theorem put_comm (t:List Int) (a b:Nat) (g:Int):(put t a g).bind (fun t=>put t b g)=(put t b g).bind fun t=>put t a g:=by
 by_cases hab:a=b
 ·subst hab;rfl
 unfold put
 cases h1:decide (t.getD a 0<0)<;>cases h2:decide (t.getD b 0<0)<;>cases h3:t.getD a 0==g<;>cases h4:t.getD b 0==g<;>
  simp only[Ai,Ah,Ar,Option.bind_none,getD_set_ne hab,getD_set_ne (fun e=>hab e.symm),h1,h2,h3,h4]<;>first|rfl|(rw[List.set_comm _ _ hab])
theorem Xz {N lf la:Int} {s:List Int×Int} {i:Nat} {o:O6}:ZX N lf la s i o=step N lf la s i o:=by
 unfold ZX step
 cases c2:Ref.wb o.1 o.2.1 o.2.2.1 i N lf la
 ·simp only[Bv,B2,Ai,Bool.or_true]
 obtain⟨a1,a2⟩:=aP (k:=o.1) (n:=o.2.1) (Z2 c2)
 obtain⟨n1,n2,n3,n4⟩:=yo (k:=o.1) (n:=o.2.1) (Z2 c2)
 have e:s.1.getD i 0 - (Ref.kI o.1 o.2.1).1+(Ref.kI o.1 o.2.1).2=s.1.getD i 0+(Ref.zj o.1 o.2.1).2:=by omega
 rw[e,a1]
 generalize s.1.getD i 0=h at*
 generalize h+(Ref.zj o.1 o.2.1).2=g at*
 simp only[ix,Bh,Bb]
 by_cases c3:h<(Ref.zj o.1 o.2.1).1
 ·rw[Al c3];simp only[B2,Bool.or_true,Ai]
 rw[An c3,An (show¬h<0 by omega)]
 simp only[Bb]
 cases decide (g>1024)
 rotate_left
 ·rfl
 simp only[Ah]
 cases o.1==7
 ·cases o.1 == 8
  ·simp only [Cd, Ah, Ar]
   cases put s.1 (i+1) g<;>rfl
  ·simp only [Bb, Ah, Ai]
   rw[put_comm]
 ·simp only [B2, Ai, Ar]
  cases put s.1 o.2.1.toNat g<;>rfl
def cK (N lf la:Int):Nat→List O6→List Int×Int→Option (List Int×Int)
 |_,[],s=>some s
 |i,o::l,s=>(ZX N lf la s i o).bind (cK N lf la (i+1) l)
theorem aw {N lf la:Int}: ∀(l:List O6) (i:Nat) (s:List Int×Int),cK N lf la i l s=run N lf la i l s
 |[],i,s=>rfl
 |o::l,i,s=>by
  unfold cK run
  rw[Xz]
  congr 1
  funext t
  exact aw l (i+1) t
theorem gh {N lf la:Int} {s s':List Int×Int} {i:Nat} {o:O6} (h: ∀x∈s.1,x≤s.2) (e:step N lf la s i o=some s'): ∀x∈s'.1,x≤s'.2:=by
 have hp: ∀{t t':List Int} {j:Nat} {g:Int},(∀x∈t,x≤max s.2 g)→put t j g=some t'→ ∀x∈t',x≤max s.2 g:=by
  intro t t' j g ht e
  unfold put at e
  cases h2:decide (t.getD j 0<0)<;>rw[h2]at e
  ·cases h3 : t.getD j 0 == g <;> rw [h3] at e
   ·cases e
   ·cases e;exact ht
  ·cases e
   intro x hx
   rcases List.mem_or_eq_of_mem_set hx with hx|rfl
   ·exact ht x hx
   ·omega
 unfold step at e
 cases hc:decide (s.1.getD i 0<0)||(!Ref.wb o.1 o.2.1 o.2.2.1 i N lf la||(decide (s.1.getD i 0<(Ref.zj o.1 o.2.1).1)||decide (s.1.getD i 0+(Ref.zj o.1 o.2.1).2>1024)))<;>rw[hc]at e
 rotate_left
 ·cases e
 generalize s.1.getD i 0+(Ref.zj o.1 o.2.1).2=g at*
 simp only[Ah]at e
 obtain⟨t2,e2,rfl⟩:=Ak.1 e
 obtain⟨t1,e1,e3⟩:=qi e2
 have h0: ∀x∈s.1,x≤max s.2 g:=fun x hx=>by have:=h x hx;omega
 have p1: ∀x∈t1,x≤max s.2 g:=by
  cases q:o.1==7||o.1==8<;>rw[q]at e1
  ·cases e1;exact h0
  ·exact hp h0 e1
 cases q:o.1==7<;>rw[q]at e3
 ·exact hp p1 e3
 ·cases e3;exact p1
theorem YN {N lf la:Int}: ∀{l:List O6} {i:Nat} {s t:List Int×Int},(∀x∈s.1,x≤s.2)→run N lf la i l s=some t→ ∀x∈t.1,x≤t.2
 |[],i,s,t,h,e=>by cases e;exact h
 |o::l,i,s,t,h,e=>by
  unfold run at e
  obtain⟨u,e1,e2⟩:=qi e
  exact YN (gh h e1) e2
def xy (lf la:Int) (l:List O6):Int:=
 bif(l.length:Int)==0 then 0 else bif decide ((l.length:Int)>4096)then 0 else
 bif j4 l.length lf la l (first l.length,0)then(bif(j9 l.length lf la l (first l.length,0)).getD l.length 0 != 1 then 0 else wF l.length lf la l (first l.length,0))else 0
theorem VD (lf la:Int) (l:List O6):(xy lf la l==0)= !(kh lf la l).2:=by
 unfold xy kh
 cases (l.length:Int)==0
 rotate_left
 ·rfl
 cases decide ((l.length:Int)>4096)
 rotate_left
 ·rfl
 cases hf:j4 l.length lf la l (first l.length,0)
 ·rfl
 simp only[Ai,Ah]
 cases h1:(j9 l.length lf la l (first l.length,0)).getD l.length 0==1
 ·rw[bne,h1];rfl
 ·rw [bne, h1]
  simp only[Bh,Ah]
  have hl:=Vo hf
  have hm:=jM (l:=j9 l.length lf la l (first l.length,0)) (j:=l.length) (by omega)
  have:(j9 l.length lf la l (first l.length,0)).getD l.length 0≤wF l.length lf la l (first l.length,0):=by
   unfold j4 at hf
   unfold j9 wF at*
   cases e:run l.length lf la 0 l (first l.length,0)with
   |none=>rw[e]at hf;cases hf
   |some t=>
    rw[e]at hm
    exact YN (fun x hx=>by have:=(wW l.length).le x hx;rcases AX.1 hx with rfl|hx;exact Int.le_refl 0;have:=(List.mem_replicate.1 hx).2;show x≤0;omega) e _ hm
  have h1:=Ay.1 h1
  exact Ao.2 (by omega)
def bad (lf la:Int) (o:O6):Bool:=(o.1==2&&decide (o.2.1≥lf))||(o.1==9&&decide (o.2.1≥la))
theorem lC {lf la N i:Int} {o:O6} (h:bad lf la o=true):Ref.wb o.1 o.2.1 o.2.2.1 i N lf la=false:=by
 unfold bad at h
 unfold Ref.wb
 simp only[AS,Ag,Ay,As]at h
 rcases h with⟨h1,h2⟩|⟨h1,h2⟩<;>rw[h1]
 ·show (decide (o.2.1 ≥ 0) && decide (o.2.1 < lf)) = false
  rw[An (show¬o.2.1<lf by omega),Ch]
 ·show (decide (o.2.1 ≥ 0) && decide (o.2.1 < la)) = false
  rw[An (show¬o.2.1<la by omega),Ch]
theorem ee {lf la N i:Int} {o:O6} (hf:lf≤9223372036854775807) (ha:la≤9223372036854775807) (h:bad lf la o=false):Ref.wb o.1 o.2.1 o.2.2.1 i N 9223372036854775807 9223372036854775807=Ref.wb o.1 o.2.1 o.2.2.1 i N lf la:=by
 unfold bad at h
 simp only[AU,Bool.and_eq_false_iff,Bx]at h
 unfold Ref.wb
 cases o.1==1||o.1==10
 rotate_left
 ·rfl
 cases h2:o.1==2
 rotate_left
 ·have := h.1.resolve_left (by rw [h2]; simp)
  rw[Al (show o.2.1<lf by omega),Al (show o.2.1<9223372036854775807 by omega)]
  rfl
 cases h9:o.1==9
 rotate_left
 ·have := h.2.resolve_left (by rw [h9]; simp)
  rw[Al (show o.2.1<la by omega),Al (show o.2.1<9223372036854775807 by omega)]
  rfl
 rfl
theorem J8 {lf la N:Int} (hf:lf≤9223372036854775807) (ha:la≤9223372036854775807): ∀(l:List O6) (i:Nat) (s:List Int×Int),l.any (bad lf la)=false→run N 9223372036854775807 9223372036854775807 i l s=run N lf la i l s
 |[],i,s,h=>rfl
 |o::l,i,s,h=>by
  rw[BX,AU]at h
  unfold run
  have:step N 9223372036854775807 9223372036854775807 s i o=step N lf la s i o:=by
   unfold step;rw[ee hf ha h.1]
  rw[this]
  congr 1
  funext t
  exact J8 hf ha l (i+1) t h.2
theorem bm {lf la N:Int}: ∀(l:List O6) (i:Nat) (s:List Int×Int),l.any (bad lf la)=true→run N lf la i l s=none
 |[],i,s,h=>by cases h
 |o::l,i,s,h=>by
  rw[BX,AS]at h
  unfold run
  rcases h with h|h
  ·have:step N lf la s i o=none:=by
    unfold step;rw[lC h];simp only[Bv,B2,Bool.or_true,Ai]
   rw[this];rfl
  ·cases step N lf la s i o with
   |none=>rfl
   |some t=>exact bm l (i+1) t h
def kK (lf la:Int) (l:List O6):Int:=bif(kh lf la l).2 then 0 else 120
theorem dP {lf la:Int} (hf:lf≤9223372036854775807) (ha:la≤9223372036854775807) (l:List O6):
  (bif l.any (bad lf la)then 120 else bif(kh 9223372036854775807 9223372036854775807 l).2 then 0 else 120)=kK lf la l:=by
 unfold kK kh j4 j9 wF
 cases h:l.any (bad lf la)
 ·rw[J8 hf ha l 0 _ h];rfl
 ·rw [bm l 0 _ h]
  cases (l.length:Int)==0<;>cases decide ((l.length:Int)>4096)<;>rfl
end
end Go.Proofs.YtaiokpmmjbiajaaGreatDoorDx.AHei
namespace Go.Proofs.YtaiokpmmjbiajaaGreatDoorDx
section
open Go Go.Proofs
theorem qu.to {P:Program} {La:World→Prop} {f:FuncId} {sp sp':Spec} (h:qu P La f sp) (e: ∀aa t' v,sp' aa=some t'→t'.eval=some v→ ∃t,sp aa=some t∧t.eval=some v):qu P La f sp':=
 ⟨h.1, fun aa t' v h1 h2 => by
  obtain⟨t,h3,h4⟩:=e aa t' v h1 h2
  exact h.2 aa t v h3 h4⟩
def Vg:Spec:=fun aa=>match aa with
 |[.v (.string s),.v (.int .u8 a),.v (.int .u8 b),.v (.int .i64 d)]=>some (.qI (Nat.ble s.data.toList.length 9223372036854775807&&(decide (-1000≤d)&&decide (d≤1000))) (.out (.string (_root_.Go.Proofs.YtaiokpmmjbiajaaGreatDoorTxt.jl a b d s))))
 |_=>none
def Vd:Spec:=fun aa=>match aa with
 |[.v (.string s),.v (.int .i64 a),.v (.int .i64 b)]=>some (.qI (Nat.ble s.data.toList.length 70368744177664&&(inR a&&inR b)) (.out (.string (_root_.Go.Proofs.YtaiokpmmjbiajaaGreatDoorTxt.xm s a b))))
 |_=>none
def KJ:Spec:=fun aa=>match aa with
 |[a]=>(vOf a).bind fun x=>some (.qI (Nat.ble x.2.2.data.toList.length 9223372036854775807&&inR x.2.1) (.out (.string (Fit.yf x.1 x.2.1 x.2.2))))
 |_=>none
namespace A83
def rc (s:ByteArray):Int:=Int.ofNat (Lib.runeCount s)
def spec:Spec:=fun aa=>match aa with
 |[.v (.string a)]=>some (.qI (Nat.blt a.data.toList.length 9223372036854775807) (.out (.int .i64 (rc a))))
 |_=>none
theorem qg:qu Tryz.prog La 83 spec:=bM.to fun aa t' v h1 h2=>by
 unfold spec at h1
 split at h1
 ·cases h1;exact⟨_,rfl,h2⟩
 ·cases h1
end A83
namespace A80
theorem Yh (s:ByteArray) (k n:Int) (t:ByteArray):jB s k n t=ve (Fit.Zs s (k,n,t)):=by
 unfold jB Fit.Zs
 cases h:k==2
 ·rfl
 ·rfl
def wQ:Spec:=fun aa=>match aa with
 |[.v (.string s),a]=>(vOf a).bind fun x=>some (.out (ve (Fit.Zs s x)))
 |_=>none
theorem wa:qu Tryz.prog La 80 wQ:=qg.to fun aa t' v h1 h2=>by
 unfold wQ at h1
 split at h1
 ·rename_i s a
  obtain⟨x,h3,h4⟩:=qi h1
  cases h4
  refine⟨.out (jB s x.1 x.2.1 x.2.2),?_,?_⟩
  ·show ((vOf a).bind fun x => some (GT.out (jB s x.1 x.2.1 x.2.2))) = _
   rw[h3];rfl
  ·rw[Yh];exact h2
 ·cases h1
end A80
namespace A34
theorem cH (s:ByteArray) (l:List W3):xL s l=ve (Fit.kr s l):=by
 unfold xL Fit.kr
 cases h:(jk s l).1 != 0<;>rfl
def wQ:Spec:=fun aa=>match aa with
 |[.v (.string s),.sl n 3 cs]=>some (.qI (kV n (Int.ofNat n) cs&&(qj cs).all (fun v=>inR v.2.1)) (.out (ve (Fit.kr s (qj cs)))))
 |_=>none
theorem wa:qu Tryz.prog La 34 wQ:=qg.to fun aa t' v h1 h2=>by
 unfold wQ at h1
 split at h1
 ·rename_i s n cs
  cases h1
  rw[←cH]at h2
  exact⟨_,rfl,h2⟩
 ·cases h1
end A34
namespace A36
def eqK (a b:W3):Int:=bif a.1==0||b.1==0 then 0 else 1
def eqN (a b:W3):Int:=bif a.1==0||b.1==0 then 0 else bif(A76.compare a.1 a.2.1 a.2.2 b.1 b.2.1 b.2.2).2&&(A76.compare a.1 a.2.1 a.2.2 b.1 b.2.1 b.2.2).1==0 then 1 else 0
theorem nu (a b:W3):eqv a.1 a.2.1 a.2.2 b.1 b.2.1 b.2.2= .agg #[.int .i64 (eqK a b),.int .i64 (eqN a b),.string ⟨#[]⟩]:=by
 unfold eqv eqK eqN
 cases a.1==0||b.1==0
 ·cases (A76.compare a.1 a.2.1 a.2.2 b.1 b.2.1 b.2.2).2&&(A76.compare a.1 a.2.1 a.2.2 b.1 b.2.1 b.2.2).1==0<;>rfl
 ·rfl
def wQ:Spec:=fun aa=>match aa with
 |[a,b]=>(vOf a).bind fun x=>(vOf b).bind fun y=>some (.out (.agg #[.int .i64 (eqK x y),.int .i64 (eqN x y),.string ⟨#[]⟩]))
 |_=>none
theorem wa:qu Tryz.prog La 36 wQ:=qg.to fun aa t' v h1 h2=>by
 unfold wQ at h1
 split at h1
 ·rename_i a b
  obtain⟨x,h3,h1⟩:=qi h1
  obtain⟨y,h4,h1⟩:=qi h1
  cases h1
  refine⟨.out (eqv x.1 x.2.1 x.2.2 y.1 y.2.1 y.2.2),?_,?_⟩
  ·show ((vOf a).bind fun x => (vOf b).bind fun y => some (GT.out (eqv x.1 x.2.1 x.2.2 y.1 y.2.1 y.2.2))) = _
   rw[h3,h4];rfl
  ·rw[nu];exact h2
 ·cases h1
end A36
namespace A14
def wQ:Spec:=fun aa=>match aa with
 |[.v (.string s),.sl n 1 cs]=>some (.qI (wm n (Int.ofNat n) cs) (.out (Fit.two (Fit.kA s (cs.map vH)))))
 |[.v (.string s),.nil]=>some (.out (Fit.two (0,100)))
 |_=>none
theorem wa:qu Tryz.prog La 14 wQ:=qg.to fun aa t' v h1 h2=>by
 unfold wQ at h1
 split at h1
 ·cases h1
  rw[←Fit.V0]at h2
  exact⟨_,rfl,h2⟩
 ·cases h1
  exact⟨_,rfl,h2⟩
 ·cases h1
end A14
end
section
open Go Go.Proofs
open Go.Proofs.YtaiokpmmjbiajaaGreatDoor.PLeaf
theorem vP (s:ByteArray):s.data.toList.length=s.size:=by rw[Array.length_toList];rfl
theorem rp:qu Tryz.prog La 85 Vg:=vG (by kernel_rfl) fun aa t v h e=>by
 unfold Vg at h
 split at h
 ·rename_i s a b d
  cases h
  obtain⟨g1,g2⟩:=GT.qh e
  cases g2
  simp only[Ag,As,Az,vP]at g1
  refine⟨[.string s,.int .u8 a,.int .u8 b,.int .i64 d],rfl,rfl,fun W hW=>qQ.calls s a b d (_root_.Go.Proofs.YtaiokpmmjbiajaaGreatDoorTxt.jl a b d s) W ?_⟩
  unfold qQ.f
  rw[Ax g1.1,Ax g1.2.1,Ax g1.2.2]
  rfl
 ·cases h
theorem rm:qu Tryz.prog La 87 Vd:=vG (by kernel_rfl) fun aa t v h e=>by
 unfold Vd at h
 split at h
 ·rename_i s a b
  cases h
  obtain⟨g1,g2⟩:=GT.qh e
  cases g2
  simp only[Ag,inR,As,Az,vP]at g1
  obtain⟨h1,⟨h2,h3⟩,h4,h5⟩:=g1
  refine⟨[.string s,.int .i64 a,.int .i64 b],rfl,rfl,fun W hW=>qH.calls s a b (_root_.Go.Proofs.YtaiokpmmjbiajaaGreatDoorTxt.xm s a b) W ?_⟩
  have e2: ∀(n i:Nat),qH.pts s n i=_root_.Go.Proofs.YtaiokpmmjbiajaaGreatDoorTxt.pts s n i:=by
   intro n
   induction n with
   |zero=>intro i;rfl
   |succ n ih=>intro i;unfold qH.pts _root_.Go.Proofs.YtaiokpmmjbiajaaGreatDoorTxt.pts;rw[ih]
  unfold qH.f
  rw[Ax h1,Ax h2,Ax (by omega),Ax h4,Ax (by omega)]
  unfold qH.g _root_.Go.Proofs.YtaiokpmmjbiajaaGreatDoorTxt.xm
  rw[e2];rfl
 ·cases h
theorem l6 (k n:Int) (s:ByteArray) (hs:s.size≤9223372036854775807):kv.f k n s=some (if A33.okv k n s=true then 0 else 1):=by
 have he:eqU s.data.toList []=decide (s.size=0):=by
  rw[←vP]
  cases s.data.toList<;>rfl
 unfold kv.f A33.okv
 rw[he]
 by_cases h0:k=0
 ·subst h0;simp
 by_cases h1:k=1
 ·subst h1;simp
 by_cases h2:k=2
 ·subst h2;simp
 by_cases h3:k=3
 ·subst h3;simp
 by_cases h4:k=4
 ·subst h4;simp[hs,and_assoc,vP]
 ·simp[h0,h1,h2,h3,h4]
def vQ:List UInt8→List UInt8
 |[]=>[]
 |b::l=>if b=39 then 39::39::vQ l else b::vQ l
theorem yu: ∀s:List UInt8,Lib.replaceK [39] [39,39] (Lib.count s [39]) s=vQ s
 |[]=>rfl
 |b::l=>by
  have ih:=yu l
  by_cases hb:b=39
  ·subst hb
   have hi:Lib.index (39::l) [39]=(0:Nat):=by simp[Lib.index]
   rw[Lib.count_hit (by simp) hi,Nat.add_comm,Lib.replaceK_hit _ _ _ _ 0 hi]
   simp only[List.length_singleton,AQ,BE,AD,CE,Bl]
   rw[ih,vQ,Ax rfl]
   rfl
  ·have hp : ([39] : List UInt8).isPrefixOf (b :: l) = false := by simp [List.isPrefixOf]; exact fun e => hb e.symm
   rw[vQ,Aq hb]
   by_cases hl:Lib.index l [39]= -1
   ·have hi : Lib.index (b :: l) [39] = -1 := by rw [Lib.index, hp, hl]; rfl
    rw[Lib.count_miss hi]
    rw[Lib.count_miss hl]at ih
    rw[←ih]
    rfl
   ·have hge := Lib.index_ge l [39]
    obtain⟨i,hi⟩: ∃i:Nat,Lib.index l [39]=i:=⟨(Lib.index l [39]).toNat,by omega⟩
    have hi':Lib.index (b::l) [39]=((i+1:Nat):Int):=by
     rw[Lib.index,hp,hi]
     have: ¬((i:Int)== -1)=true:=fun e=>by have:=Ay.1 e;omega
     rw[Aq this]
     simp
    rw[Lib.count_hit (by simp) hi',Nat.add_comm,Lib.replaceK_hit _ _ _ _ _ hi']
    rw[Lib.count_hit (by simp) hi,Nat.add_comm,Lib.replaceK_hit _ _ _ _ _ hi]at ih
    rw[←ih]
    simp[Bw]
theorem wV (s:List UInt8):Lib.replaceAll s [39] [39,39]=vQ s:=by
 unfold Lib.replaceAll Lib.replace Lib.replaceNum
 rw[Aq (by decide),Ax (.inl (by decide))]
 exact yu s
theorem K3: ∀s,(vQ s).length≤2*s.length
 |[]=>by simp[vQ]
 |b::l=>by
  have:=K3 l
  unfold vQ
  split<;>simp<;>omega
theorem nz (k n:Int) (s:ByteArray) (hs:s.size≤9223372036854775807) (hn:inR n=true):jb.f k n s=some (Fit.yf k n s):=by
 unfold inR at hn
 simp only[Ag,As]at hn
 unfold jb.f Fit.yf Fit.aO
 rw[l6 k n s hs,Ar]
 cases ho:A33.okv k n s
 ·simp
 ·simp only [if_true, Bh, Ah]
  by_cases h1:k=1
  ·subst h1
   by_cases h:n=1
   ·subst h;rfl
   ·simp[h,Ao.2 h]
  by_cases h2:k=2
  ·subst h2
   simp[strconv_Itoa.f,hn.1,show n≤9223372036854775807 by omega]
  by_cases h3:k=3
  ·subst h3
   simp[qA.f,hn.1,show n≤9223372036854775807 by omega]
   rfl
  by_cases h4:k=4
  ·subst h4
   obtain⟨_,h5,h6⟩:=Fit.Zy ho
   rw[vP]at h5
   have hq:=K3 s.data.toList
   rw[vP]at hq
   have hc:=Lib.count_le s.data.toList [39]
   rw[vP]at hc
   have hrep:strings_ReplaceAll.f s ⟨#[39]⟩ ⟨#[39,39]⟩=some ⟨(vQ s.data.toList).toArray⟩:=by
    unfold strings_ReplaceAll.f
    have s1:(⟨#[39]⟩:ByteArray).size=1:=rfl
    have s2:(⟨#[39,39]⟩:ByteArray).size=2:=rfl
    rw[Ax (by omega),s1,Ax (by omega),s2,Ax (by show s.size+Lib.count s.data.toList [39]*2≤_;omega)]
    show some (⟨(Lib.replaceAll s.data.toList [39] [39,39]).toArray⟩:ByteArray)=_
    rw[wV]
   have hqs:(⟨(vQ s.data.toList).toArray⟩:ByteArray).size=(vQ s.data.toList).length:=by simp[ByteArray.size]
   simp only[hrep,Ar]
   rw[Aq (by decide),Aq (by decide),Aq (by decide),Ax (by decide),Ax (by rw[hqs];omega)]
   refine Bg some (WideShapes.bytes_inj ?_)
   rw[wV]
   simp
  have h0:k=0:=by
   unfold A33.okv at ho
   by_cases h0:k=0
   ·exact h0
   ·simp[Ao.2 h0,Ao.2 h1,Ao.2 h2,Ao.2 h3,Ao.2 h4]at ho
  subst h0
  rfl
def K1:Spec:=fun aa=>match aa with
 |[a]=>(vOf a).bind fun x=>some (.out (.bool (A33.okv x.1 x.2.1 x.2.2)))
 |_=>none
theorem da (k n:Int) (s:ByteArray):YtaiokpmmjbiajaaGreatDoor.Pure.okB k n s=A33.okv k n s:=by
 have he:eqU s.data.toList []=decide (s.size=0):=by
  rw[←vP]
  cases s.data.toList<;>rfl
 unfold YtaiokpmmjbiajaaGreatDoor.Pure.okB A33.okv
 rw[he]
 have hd: ∀a b:Int,(a==b)=decide (a=b):=fun a b=>by
  by_cases h:a=b
  ·rw[Al h,Ay.2 h]
  ·rw[An h,Ao.2 h]
 by_cases h0:k=0
 ·subst h0;simp[hd]
 by_cases h1:k=1
 ·subst h1;simp[hd]
 by_cases h2:k=2
 ·subst h2;simp
 by_cases h3:k=3
 ·subst h3;simp
 by_cases h4:k=4
 ·subst h4;simp[vP,Bool.and_assoc,hd]
 ·simp[h0,h1,h2,h3,h4]
theorem pd:qu Tryz.prog La 15 K1:=vG (by kernel_rfl) fun aa t v h e=>by
 unfold K1 at h
 split at h
 ·rename_i a
  obtain⟨⟨k0,n0,s0⟩,h1,h⟩:=qi h
  cases h;cases e
  rw[qM h1]
  refine⟨[.agg #[.int .i64 k0,.int .i64 n0,.string s0]],rfl,rfl,fun W hW=>qq.calls 9301 k0 n0 s0 (A33.okv k0 n0 s0) W ?_⟩
  rw[←da]
  exact YtaiokpmmjbiajaaGreatDoor.Pure.YM 0 k0 n0 s0
 ·cases h
theorem sn:qu Tryz.prog La 88 KJ:=vG (by kernel_rfl) fun aa t v h e=>by
 unfold KJ at h
 split at h
 ·rename_i a
  obtain⟨⟨k0,n0,s0⟩,h1,h⟩:=qi h
  cases h
  obtain⟨g1,g2⟩:=GT.qh e
  cases g2
  simp only[Ag,Az,vP]at g1
  rw[qM h1]
  exact⟨[.agg #[.int .i64 k0,.int .i64 n0,.string s0]],rfl,rfl,fun W hW=>jb.calls k0 n0 s0 (Fit.yf k0 n0 s0) W hW (nz k0 n0 s0 g1.1 g1.2)⟩
 ·cases h
end
section
open Go Go.Proofs
namespace A37
def T (s0:ByteArray) (m1:Nat) (c1:List Value):GT Value:=let x2:=A82.Jb (rdI c1 0) (rdI c1 1);let x3:=A79.xk (rdI c1 0) (rdI c1 1);let x4:=A75.kn (rdI c1 0) (rdI c1 1);let x5:=Go.Lib.trimB (rdS c1 2).data.toList (32:UInt8);let x6:=A37L0.cat (qj c1);let o1:GT Value:=(.out (.tuple #[.agg #[.int .i64 (rdI c1 0),.int .i64 (rdI c1 1),.string (rdS c1 2)],.int .i64 0]));let y1:=Fit.Zs s0 (rdI c1 0,rdI c1 1,rdS c1 2);let o2:GT Value:=(.out (.tuple #[.agg #[.int .i64 y1.1.1,.int .i64 y1.1.2.1,.string y1.1.2.2],.int .i64 y1.2]));let y8:=Int.ofNat m1;let o3:GT Value:=(.br (([(true,AA.v (.string s0)),((fun(cs:List Value)=>((0+m1*3).ble cs.length&&(List.take (m1*3) (List.drop 0 cs)).all qp,AA.sl m1 3 (List.take (m1*3) (List.drop 0 cs)))) c1)]).all fun x=>x.fst) (.br ((decide (y8=y8)&&((vA (List.take (m1*3) (List.drop 0 c1)))&&(Nat.beq ((c1.drop 0).take (m1*3)).length (m1*3)&&Nat.blt m1 6000000000000)))&&(qj (List.take (m1*3) (List.drop 0 c1))).all fun v=>inR v.snd.fst) (.out (.tuple #[.agg #[.int .i64 (Fit.kr s0 (qj (List.take (m1*3) (List.drop 0 c1)))).1.1,.int .i64 (Fit.kr s0 (qj (List.take (m1*3) (List.drop 0 c1)))).1.2.1,.string (Fit.kr s0 (qj (List.take (m1*3) (List.drop 0 c1)))).1.2.2],.int .i64 (Fit.kr s0 (qj (List.take (m1*3) (List.drop 0 c1)))).2])) .no) .no);let o4:GT Value:=(.out (.tuple #[.agg #[.int .i64 0,.int .i64 0,.string ⟨#[]⟩],.int .i64 20]));let y2:=(rdS c1 2).data.toList;let y3:=Go.Proofs.YtaiokpmmjbiajaaGreatDoorTxt.xm (rdS c1 2) (rdI c1 4) (rdI c1 7);let y4:=Go.Proofs.YtaiokpmmjbiajaaGreatDoorTxt.jl 97 122 (-32) (rdS c1 2);let y5:=Go.Proofs.YtaiokpmmjbiajaaGreatDoorTxt.jl 65 90 32 (rdS c1 2);let y6:=Nat.ble y2.length 9223372036854775807&&true;let y7:=Fit.yf (rdI c1 0) (rdI c1 1) (rdS c1 2);let y9:=decide ((rdI c1 1)<0);let y10:=inR (rdI c1 1);(.br (Nat.blt 0 m1) (.br (isL c1 0 [(.i .i64),(.i .i64),.s]) (.br (eqU s0.data.toList [97,98,115]) (.br y9 (.out (.tuple #[.agg #[.int .i64 x3.1.1,.int .i64 x3.1.2.1,.string x3.1.2.2],.int .i64 x3.2])) o1) (.br (eqU s0.data.toList [99,101,105,108]) o2 (.br (eqU s0.data.toList [102,108,111,111,114]) o2 (.br (eqU s0.data.toList [114,111,117,110,100]) o2 (.br (eqU s0.data.toList [115,105,103,110]) (.br y9 (.out (.tuple #[.agg #[.int .i64 2,.int .i64 (-1),.string ⟨#[]⟩],.int .i64 0])) (.br (decide ((rdI c1 1)>0)) (.out (.tuple #[.agg #[.int .i64 2,.int .i64 1,.string ⟨#[]⟩],.int .i64 0])) (.out (.tuple #[.agg #[.int .i64 2,.int .i64 0,.string ⟨#[]⟩],.int .i64 0])))) (.br (eqU s0.data.toList [116,111,105,110,116]) (.out (.tuple #[.agg #[.int .i64 x2.1.1,.int .i64 x2.1.2.1,.string x2.1.2.2],.int .i64 x2.2])) (.br (eqU s0.data.toList [116,111,100,101,99]) (.br y10 (.out (.tuple #[.agg #[.int .i64 x4.1.1,.int .i64 x4.1.2.1,.string x4.1.2.2],.int .i64 x4.2])) .no) (.br (eqU s0.data.toList [103,114,101,97,116,101,115,116]) o3 (.br (eqU s0.data.toList [108,101,97,115,116]) o3 (.br (eqU s0.data.toList [108,101,110,103,116,104]) (.br (Nat.blt y2.length 9223372036854775807) (.out (.tuple #[.agg #[.int .i64 2,.int .i64 (A83.rc (rdS c1 2)),.string ⟨#[]⟩],.int .i64 0])) .no) (.br (eqU s0.data.toList [108,111,119,101,114]) (.br y6 (.br (decide ((Int.ofNat (y5.data.toList).length)>1024)) o4 (.out (.tuple #[.agg #[.int .i64 4,.int .i64 0,.string y5],.int .i64 0]))) .no) (.br (eqU s0.data.toList [117,112,112,101,114]) (.br y6 (.br (decide ((Int.ofNat (y4.data.toList).length)>1024)) o4 (.out (.tuple #[.agg #[.int .i64 4,.int .i64 0,.string y4],.int .i64 0]))) .no) (.br (eqU s0.data.toList [116,114,105,109]) (.br (Nat.ble y2.length 9223372036854775807) (.br (decide ((Int.ofNat x5.length)>1024)) o4 (.out (.tuple #[.agg #[.int .i64 4,.int .i64 0,.string ⟨(x5).toArray⟩],.int .i64 0]))) .no) (.br (eqU s0.data.toList [115,117,98,115,116,114]) (.br (Nat.blt 1 m1) (.br (isV c1 4 (.i .i64)) (.br (Nat.blt 2 m1) (.br (isV c1 7 (.i .i64)) (.br (Nat.ble y2.length 70368744177664&&((inR (rdI c1 4))&&(inR (rdI c1 7)))) (.br (decide ((Int.ofNat (y3.data.toList).length)>1024)) o4 (.out (.tuple #[.agg #[.int .i64 4,.int .i64 0,.string y3],.int .i64 0]))) .no) .no) .no) .no) .no) (.br (eqU s0.data.toList [116,111,116,101,120,116]) (.br ((rdI c1 0)==4) o1 (.br (Nat.ble y2.length 9223372036854775807&&y10) (.br (decide ((Int.ofNat (y7.data.toList).length)>1024)) o4 (.out (.tuple #[.agg #[.int .i64 4,.int .i64 0,.string y7],.int .i64 0]))) .no)) (.br (true&&([((1:Nat),c1)]).all fun p=>p.snd.all qp) (.br ((decide (y8=y8)&&((vA c1)&&(Nat.beq c1.length (m1*3)&&Nat.blt m1 6000000000000)))&&(qj c1).all A37L0.jn) (.br (decide ((Int.ofNat (x6.data.toList).length)>1024)) o4 (.out (.tuple #[.agg #[.int .i64 4,.int .i64 0,.string x6],.int .i64 0]))) .no) .no)))))))))))))))) .no) .no)
theorem run (s0:ByteArray) (m1:Nat) (c1:List Value):runK 4 [(34,A34.wQ),(75,A75.spec),(79,A79.spec),(80,A80.wQ),(82,A82.spec),(83,A83.spec),(85,Vg),(86,Yt),(87,Vd),(88,KJ)] [A37L0.lp] 37 [.v (.string s0),.sl m1 3 c1]=(T s0 m1 c1).eval:=by kernel_rfl
theorem at0 (l:List W3) (h:0<l.length):l[0]=l.headD v0:=by cases l with
 |nil=>cases h
 |cons v l=>rfl
theorem atj (l:List W3) (j:Nat) (h:j<l.length):l[j]=l.getD j v0:=by simp[AN,h]
theorem head_mem (l:List W3) (h:0<l.length):l.headD v0∈l:=by rw[←at0 l h];exact Bf h
theorem jM (l:List W3) (j:Nat) (h:j<l.length):l.getD j v0∈l:=by rw[←atj l j h];exact Bf h
def guard (s:ByteArray) (l:List W3):Bool:=l.all (fun v=>inR v.2.1)&&(l.all A37L0.jn&&(Nat.blt 0 l.length&&(!eqU s.data.toList [115,117,98,115,116,114]||Nat.blt 2 l.length)))
theorem vI (t:ByteArray):GT.eval (.br (decide (Int.ofNat t.data.toList.length>1024)) (.out (.tuple ([.agg ([.int .i64 0,.int .i64 0,.string ⟨([]).toArray⟩]).toArray,.int .i64 20]).toArray)) (.out (.tuple ([.agg ([.int .i64 4,.int .i64 0,.string t]).toArray,.int .i64 0]).toArray)))=some (ve (Fit.kL t)):=by
 unfold Fit.kL
 cases h:decide (Int.ofNat t.data.toList.length>1024)<;>simp only[GT.eval]<;>rfl
set_option maxHeartbeats 0 in
theorem qN (s:ByteArray) (l:List W3) (hl:l.length<6000000000000) (hg:guard s l=true):(T s l.length (qm l)).eval=some (ve (Fit.Qj s l)):=by
 unfold guard at hg
 simp only[Ag]at hg
 obtain⟨hin,hsh,h0,h3⟩:=hg
 have h0':0<l.length:=by rwa [AB]at h0
 have hs1: ∀v∈l,v.2.2.data.toList.length≤1024:=fun v hv=>AW (Ap.1 hsh v hv)
 have hi1: ∀v∈l,inR v.2.1=true:=fun v hv=>Ap.1 hin v hv
 have q0:rdI (qm l) 0=(l.headD v0).1:=by have:=zU l h0';rw[at0 l h0']at this;exact this
 have q1:rdI (qm l) 1=(l.headD v0).2.1:=by have:=zT l h0';rw[at0 l h0']at this;exact this
 have q2:rdS (qm l) 2=(l.headD v0).2.2:=by have:=kE l h0';rw[at0 l h0']at this;exact this
 have q3:isL (qm l) 0 [.i .i64,.i .i64,.s]=true:=ke l h0'
 have e2:Nat.ble (l.headD v0).2.2.data.toList.length 9223372036854775807=true:=by have:=hs1 _ (head_mem l h0');rw[Az];omega
 have e3:Nat.blt (l.headD v0).2.2.data.toList.length 9223372036854775807=true:=by have:=hs1 _ (head_mem l h0');rw[AB];omega
 have e4:Nat.ble (l.headD v0).2.2.data.toList.length 70368744177664=true:=by have:=hs1 _ (head_mem l h0');rw[Az];omega
 have e5:inR (l.headD v0).2.1=true:=hi1 _ (head_mem l h0')
 have a1:(true&&[((1:Nat),qm l)].all fun p=>p.2.all qp)=true:=by simp[qO]
 have a3:((qm l).drop 0).take (l.length*3)=qm l:=by rw[AD];exact AJ (by rw[zh];exact Aw _)
 have a5:(0+l.length*3).ble (qm l).length=true:=by rw[Az,zh];omega
 have a6:(0+l.length*3).ble (l.length*3)=true:=by rw[Az];omega
 have g:Nat.blt l.length 6000000000000=true:=by rw[AB];exact hl
 unfold T
 dsimp only[]at a1 ⊢
 simp only[a1,a3,a5,a6,g,q0,q1,q2,q3,e2,e3,e4,e5,h0,vy,zh,A5,decide_true,AI,zn,qO,hin,hsh,GT.eval,AF,AE,Ai,A1,BS]
 unfold Fit.Qj Fit.is
 dsimp only[]
 cases n0:eqU s.data.toList [97,98,115]
 rotate_left
 ·cases decide ((l.headD v0).2.1<0)<;>rfl
 cases n1:eqU s.data.toList [99,101,105,108]
 rotate_left
 ·rfl
 cases n2:eqU s.data.toList [102,108,111,111,114]
 rotate_left
 ·rfl
 cases n3:eqU s.data.toList [114,111,117,110,100]
 rotate_left
 ·rfl
 cases n4:eqU s.data.toList [115,105,103,110]
 rotate_left
 ·unfold Fit.Kv
  cases decide ((l.headD v0).2.1<0)<;>cases decide ((l.headD v0).2.1>0)<;>rfl
 cases n5:eqU s.data.toList [116,111,105,110,116]
 rotate_left
 ·rfl
 cases n6:eqU s.data.toList [116,111,100,101,99]
 rotate_left
 ·rfl
 cases n7:eqU s.data.toList [103,114,101,97,116,101,115,116]
 rotate_left
 ·rfl
 cases n8:eqU s.data.toList [108,101,97,115,116]
 rotate_left
 ·rfl
 cases n9:eqU s.data.toList [108,101,110,103,116,104]
 rotate_left
 ·rfl
 cases n10:eqU s.data.toList [108,111,119,101,114]
 rotate_left
 ·exact vI _
 cases n11:eqU s.data.toList [117,112,112,101,114]
 rotate_left
 ·exact vI _
 cases n12:eqU s.data.toList [116,114,105,109]
 rotate_left
 ·have := vI ⟨(Lib.trimB (l.headD v0).2.2.data.toList 32).toArray⟩
  rw[Bt]at this
  exact this
 cases n13:eqU s.data.toList [115,117,98,115,116,114]
 rotate_left
 ·rw [n13] at h3
  have k2:2<l.length:=by
   have:Nat.blt 2 l.length=true:=h3
   rwa [AB]at this
  have k1:1<l.length:=by omega
  have b1:Nat.blt 1 l.length=true:=by rw[AB];exact k1
  have b2:Nat.blt 2 l.length=true:=by rw[AB];exact k2
  have c1:rdI (qm l) 4=(l.getD 1 v0).2.1:=by have:=zT l k1;rw[atj l 1 k1]at this;exact this
  have c2:rdI (qm l) 7=(l.getD 2 v0).2.1:=by have:=zT l k2;rw[atj l 2 k2]at this;exact this
  have d1:isV (qm l) 4 (.i .i64)=true:=by have:=k6 1 (by omega) l k1;unfold isV;rw[show (4:Nat)=1*3+1 from rfl,this];rfl
  have d2:isV (qm l) 7 (.i .i64)=true:=by have:=k6 1 (by omega) l k2;unfold isV;rw[show (7:Nat)=2*3+1 from rfl,this];rfl
  simp only[b1,b2,c1,c2,d1,d2,hi1 _ (jM l 1 k1),hi1 _ (jM l 2 k2),AI,Ai,Ah]
  exact vI _
 cases n14:eqU s.data.toList [116,111,116,101,120,116]
 rotate_left
 ·cases (l.headD v0).1 == 4
  ·exact vI _
  ·rfl
 exact vI _
def spec:Spec:=fun aa=>match aa with
 |[.v (.string s),.sl n 3 cs]=>some (.qI (kV n (Int.ofNat n) cs&&guard s (qj cs)) (.out (ve (Fit.Qj s (qj cs)))))
 |_=>none
theorem qg (h85:qu Tryz.prog La 85 Vg) (h87:qu Tryz.prog La 87 Vd) (h88:qu Tryz.prog La 88 KJ):qu Tryz.prog La 37 spec:=⟨qD (by kernel_rfl),fun aa t v h e=>by
 unfold spec at h
 split at h
 ·rename_i s n cs
  cases h
  obtain⟨g1,g2⟩:=GT.qh e
  cases g2
  simp only[Ag]at g1
  obtain⟨_,hn,h4,h5⟩:=zM g1.1
  have hg:=g1.2
  generalize qj cs=l at h4 h5 hg
  subst h4 h5
  exact⟨rfl,qS qx qf qd (by simpa using⟨A34.wa,A75.qg,A79.qg,A80.wa,A82.qg,A83.qg,h85,cE,h87,h88⟩) (by simpa using A37L0.qE) (by decide) (by simp) rfl ((run _ _ _).trans (qN _ _ hn hg))⟩
 ·cases h⟩
end A37
namespace A10
def T (s0:ByteArray) (m1:Nat) (c1:List Value):GT Value:=let x1:=(rdI c1 3,rdI c1 4,rdS c1 5);let x2:=(rdI c1 0,rdI c1 1,rdS c1 2);let o1:GT Value:=(.out (.tuple #[.agg #[.int .i64 0,.int .i64 0,.string ⟨#[]⟩],.int .i64 0]));let y3:=Int.ofNat m1;let y1:=Nat.beq m1 m1&&(decide (y3=y3)&&((vA c1)&&(Nat.beq c1.length (m1*3)&&Nat.blt m1 6000000000000)));let y2:=Nat.beq ((c1.drop 0).take (m1*3)).length (m1*3)&&Nat.blt m1 6000000000000;let y4:=[(.i .i64),(.i .i64),.s];(.br (true&&([((1:Nat),c1)]).all fun p=>p.snd.all qp) (.br y1 (.br (Nat.beq m1 0) (.out (.tuple #[.agg #[.int .i64 0,.int .i64 0,.string ⟨#[]⟩],.int .i64 100])) (.br (([(true,AA.v (.string s0)),((fun(cs:List Value)=>((0+m1*1).ble cs.length&&(List.take (m1*1) (List.drop 0 cs)).all qp,AA.sl m1 1 (List.take (m1*1) (List.drop 0 cs)))) (ints IntKind.i64 (List.map (fun(x:W3)=>x.fst) (qj c1))))]).all fun x=>x.fst) (.br (wm m1 y3 (((((qj c1).map fun(x:W3)=>x.fst).map (Value.int IntKind.i64)).drop 0).take (m1*1))) (.br ((Fit.kA s0 ((((((qj c1).map fun(x:W3)=>x.fst).map (Value.int IntKind.i64)).drop 0).take (m1*1)).map vH)).2 != 0) (.out (.tuple #[.agg #[.int .i64 0,.int .i64 0,.string ⟨#[]⟩],.int .i64 (Fit.kA s0 ((((((qj c1).map fun(x:W3)=>x.fst).map (Value.int IntKind.i64)).drop 0).take (m1*1)).map vH)).2])) (.br (true&&([((1:Nat),c1)]).all fun p=>p.snd.all qp) (.br y1 (.br ((qj c1).any A10L1.bad) (.out (.tuple #[.agg #[.int .i64 0,.int .i64 0,.string ⟨#[]⟩],.int .i64 22])) (.br (eqU s0.data.toList [99,111,97,108,101,115,99,101]) (.br (([(true,AA.v (.string s0)),((fun(cs:List Value)=>((0+m1*3).ble cs.length&&(List.take (m1*3) (List.drop 0 cs)).all qp,AA.sl m1 3 (List.take (m1*3) (List.drop 0 cs)))) c1)]).all fun x=>x.fst) (.br ((decide (y3=y3)&&((vA (List.take (m1*3) (List.drop 0 c1)))&&y2))&&(qj (List.take (m1*3) (List.drop 0 c1))).all fun v=>inR v.snd.fst) (.out (.tuple #[.agg #[.int .i64 (Fit.kr s0 (qj (List.take (m1*3) (List.drop 0 c1)))).1.1,.int .i64 (Fit.kr s0 (qj (List.take (m1*3) (List.drop 0 c1)))).1.2.1,.string (Fit.kr s0 (qj (List.take (m1*3) (List.drop 0 c1)))).1.2.2],.int .i64 (Fit.kr s0 (qj (List.take (m1*3) (List.drop 0 c1)))).2])) .no) .no) (.br (eqU s0.data.toList [110,117,108,108,105,102]) (.br (Nat.blt 0 m1) (.br (isL c1 0 y4) (.br (Nat.blt 1 m1) (.br (isL c1 3 y4) (.br (A35.tru (A36.eqK x2 x1) (A36.eqN x2 x1)) o1 (.br (Nat.blt 0 m1) (.br (isL c1 0 y4) (.out (.tuple #[.agg #[.int .i64 (rdI c1 0),.int .i64 (rdI c1 1),.string (rdS c1 2)],.int .i64 0])) .no) .no)) .no) .no) .no) .no) (.br ((List.map (fun(x:W3)=>x.fst) (qj c1)).any fun x=>x==0) o1 (.br (([(true,AA.v (.string s0)),((fun(cs:List Value)=>((0+m1*3).ble cs.length&&(List.take (m1*3) (List.drop 0 cs)).all qp,AA.sl m1 3 (List.take (m1*3) (List.drop 0 cs)))) c1)]).all fun x=>x.fst) (.br ((decide (y3=y3)&&((vA (List.take (m1*3) (List.drop 0 c1)))&&y2))&&(A37.guard s0 (qj (List.take (m1*3) (List.drop 0 c1))))) (.out (.tuple #[.agg #[.int .i64 (Fit.Qj s0 (qj (List.take (m1*3) (List.drop 0 c1)))).1.1,.int .i64 (Fit.Qj s0 (qj (List.take (m1*3) (List.drop 0 c1)))).1.2.1,.string (Fit.Qj s0 (qj (List.take (m1*3) (List.drop 0 c1)))).1.2.2],.int .i64 (Fit.Qj s0 (qj (List.take (m1*3) (List.drop 0 c1)))).2])) .no) .no))))) .no) .no)) .no) .no)) .no) .no)
theorem run (s0:ByteArray) (m1:Nat) (c1:List Value):runK 4 [(14,A14.wQ),(34,A34.wQ),(35,A35.spec),(36,A36.wQ),(37,A37.spec)] [A10L0.lp,A10L1.lp] 10 [.v (.string s0),.sl m1 3 c1]=(T s0 m1 c1).eval:=by kernel_rfl
open Fit
theorem yx (s:ByteArray):kA s []=(0,100):=by
 unfold kA
 simp[rP,A14.num,A14.txt,A14.sub]
theorem xI {s:ByteArray} {l:List W3} (h:(kA s (l.map (·.1))).2=0):0<l.length:=by
 cases l with
 |nil=>rw[List.map_nil,yx]at h;cases h
 |cons v l=>simp
theorem cR {l:List W3} (h:(kA ⟨#[115,117,98,115,116,114]⟩ (l.map (·.1))).2=0):2<l.length:=by
 unfold kA at h
 cases hb:(l.map (·.1)).any A14L0.bad<;>rw[hb]at h
 ·have h : (rP (A14.sub (l.map (·.1))) 4).2 = 0 := h
  obtain⟨a,b,c,e,_⟩:=YE (rP0 h).1
  have:=Bg List.length e
  simp at this
  omega
 ·cases h
theorem ZJ {l:List W3} (h:(kA ⟨#[110,117,108,108,105,102]⟩ (l.map (·.1))).2=0):1<l.length:=by
 unfold kA at h
 cases hb:(l.map (·.1)).any A14L0.bad<;>rw[hb]at h
 ·have h : (rP (Int.ofNat (l.map (·.1)).length == 2 && (A53.res (l.map (·.1))).2) ((l.map (·.1)).headD 0)).2 = 0 := h
  have:=(rP0 h).1
  simp only[Ag,Ay,AM]at this
  have e:(l.length:Int)=2:=this.1
  omega
 ·cases h
theorem JH {v:W3} (h:A33.okv v.1 v.2.1 v.2.2=true):A37L0.jn v=true:=by
 obtain⟨k,n,s⟩:=v
 have he:eqU s.data.toList []=true→A37L0.jn (k,n,s)=true:=fun h=>by rw[zR (l:=[]) h];rfl
 unfold A33.okv at h
 simp only at h
 cases e0:k==0
 ·rw [e0, Ah] at h
  cases e1:k==1
  ·rw [e1, Ah] at h
   cases e2:k==2||k==3
   ·rw [e2, Ah] at h
    simp only[Ag,As]at h
    unfold A37L0.jn
    rw[Az];exact h.2.2.1
   ·rw[e2,Ai]at h;exact he h
  ·rw[e1,Ai,Ag]at h;exact he h.1
 ·rw[e0,Ai,Ag]at h;exact he h.2
theorem KH {s:ByteArray} {l:List W3} (hin:l.all (fun v=>inR v.2.1)=true) (hk:(kA s (l.map (·.1))).2=0) (hb:l.any A10L1.bad=false):A37.guard s l=true:=by
 unfold A37.guard
 have h1:l.all A37L0.jn=true:=Ap.2 fun v hv=>JH (YB hb v hv)
 have h2:Nat.blt 0 l.length=true:=by rw[AB];exact xI hk
 rw[hin,h1,h2]
 cases h:eqU s.data.toList [115,117,98,115,116,114]
 ·rfl
 ·obtain rfl := zR h
  have:Nat.blt 2 l.length=true:=by rw[AB];exact cR hk
  rw[this];rfl
set_option maxHeartbeats 0 in
theorem qN (s:ByteArray) (l:List W3) (hl:l.length<6000000000000) (hin:l.all (fun v=>inR v.2.1)=true):(T s l.length (qm l)).eval=some (ve (zW s l)):=by
 have g:Nat.blt l.length 6000000000000=true:=by rw[AB];exact hl
 have gs:=qO l
 have g2:=xP (l:=l.map (·.1)) (by rw[AM];omega)
 rw[AM]at g2
 have a1:(true&&[((1:Nat),qm l)].all fun p=>p.2.all qp)=true:=by simp[qO]
 have a3:((ints .i64 (l.map (·.1))).drop 0).take (l.length*1)=ints .i64 (l.map (·.1)):=by rw[AD,BY];exact AJ (by rw[zH,AM];exact Aw _)
 have a4:((qm l).drop 0).take (l.length*3)=qm l:=by rw[AD];exact AJ (by rw[zh];exact Aw _)
 have a5:(0+l.length*1).ble l.length=true:=by rw[Az];omega
 have a6:(0+l.length*3).ble (l.length*3)=true:=by rw[Az];omega
 have e0: ∀f:List Int,f.map (Value.int .i64)=ints .i64 f:=fun _=>rfl
 unfold T
 dsimp only[]at a1 ⊢
 simp only[e0,a1,a3,a4,a5,a6,g,gs,g2,vy,zh,zH,AM,A5,decide_true,AI,zn,jG,qZ,hin,GT.eval,AF,AE,Ai,A1,BS]
 unfold zW is
 cases hb0:Nat.beq l.length 0
 rotate_left
 ·have : l = [] := AP.1 (Am hb0)
  subst this
  rw[List.map_nil,yx];rfl
 simp only[Ah]
 cases hk:(kA s (l.map (·.1))).2 != 0
 rotate_left
 ·rfl
 have hk:=bne_eq_false_iff_eq.1 hk
 simp only[Ah]
 cases gy:l.any A10L1.bad
 rotate_left
 ·rfl
 simp only[Ah]
 have h0:=xI hk
 cases n1:eqU s.data.toList [99,111,97,108,101,115,99,101]
 rotate_left
 ·rfl
 simp only[Ah]
 cases n2:eqU s.data.toList [110,117,108,108,105,102]
 rotate_left
 ·obtain rfl := zR n2
  have k1:=ZJ hk
  have q0:rdI (qm l) 0=(l.headD v0).1:=by have:=zU l h0;rw[A37.at0 l h0]at this;exact this
  have q1:rdI (qm l) 1=(l.headD v0).2.1:=by have:=zT l h0;rw[A37.at0 l h0]at this;exact this
  have q2:rdS (qm l) 2=(l.headD v0).2.2:=by have:=kE l h0;rw[A37.at0 l h0]at this;exact this
  have q3:isL (qm l) 0 [.i .i64,.i .i64,.s]=true:=ke l h0
  have r0:rdI (qm l) 3=(l.getD 1 v0).1:=by have:=zU l k1;rw[A37.atj l 1 k1]at this;exact this
  have r1:rdI (qm l) 4=(l.getD 1 v0).2.1:=by have:=zT l k1;rw[A37.atj l 1 k1]at this;exact this
  have r2:rdS (qm l) 5=(l.getD 1 v0).2.2:=by have:=kE l k1;rw[A37.atj l 1 k1]at this;exact this
  have r3:isL (qm l) 3 [.i .i64,.i .i64,.s]=true:=ke l k1
  have b0:Nat.blt 0 l.length=true:=by rw[AB];exact h0
  have b1:Nat.blt 1 l.length=true:=by rw[AB];exact k1
  simp only[q0,q1,q2,q3,r0,r1,r2,r3,b0,b1,Ai]
  generalize l.headD v0=v
  generalize l.getD 1 v0=u
  have et:A35.tru (A36.eqK (v.1,v.2.1,v.2.2) (u.1,u.2.1,u.2.2)) (A36.eqN (v.1,v.2.1,v.2.2) (u.1,u.2.1,u.2.2))=A35.tru (bif v.1==0||u.1==0 then 0 else 1) (bif(A76.compare v.1 v.2.1 v.2.2 u.1 u.2.1 u.2.2).2&&(A76.compare v.1 v.2.1 v.2.2 u.1 u.2.1 u.2.2).1==0 then 1 else 0):=by
   unfold A36.eqK A36.eqN
   dsimp only
   cases v.1==0||u.1==0<;>rfl
  rw[et]
  cases A35.tru (bif v.1==0||u.1==0 then 0 else 1) (bif(A76.compare v.1 v.2.1 v.2.2 u.1 u.2.1 u.2.2).2&&(A76.compare v.1 v.2.1 v.2.2 u.1 u.2.1 u.2.2).1==0 then 1 else 0)<;>rfl
 simp only[Ah]
 cases hz:(l.map (·.1)).any (· ==0)
 rotate_left
 ·rfl
 rw[KH hin hk gy]
 rfl
def spec:Spec:=fun aa=>match aa with
 |[.v (.string s),.sl n 3 cs]=>some (.qI (kV n (Int.ofNat n) cs&&(qj cs).all (fun v=>inR v.2.1)) (.out (ve (zW s (qj cs)))))
 |_=>none
theorem qg (h85:qu Tryz.prog La 85 Vg) (h87:qu Tryz.prog La 87 Vd) (h88:qu Tryz.prog La 88 KJ):qu Tryz.prog La 10 spec:=⟨qD (by kernel_rfl),fun aa t v h e=>by
 unfold spec at h
 split at h
 ·rename_i s n cs
  cases h
  obtain⟨g1,g2⟩:=GT.qh e
  cases g2
  simp only[Ag]at g1
  obtain⟨_,hn,h4,h5⟩:=zM g1.1
  have hin:=g1.2
  generalize qj cs=l at h4 h5 hin
  subst h4 h5
  exact⟨rfl,qS qx qf qd (by simpa using⟨A14.wa,A34.wa,A35.qg,A36.wa,A37.qg h85 h87 h88⟩) (by simpa using⟨A10L0.qE,A10L1.qE⟩) (by decide) (by simp) rfl ((run _ _ _).trans (qN _ _ hn hin))⟩
 ·cases h⟩
end A10
namespace A13
theorem run:runK 4 [(10,A10.spec),(14,A14.wQ)] [] 13 []=some (.bool true):=by kernel_rfl
def spec:Spec:=fun aa=>match aa with
 |[]=>some (.out (.bool true))
 |_=>none
theorem qg:qu Tryz.prog La 13 spec:=⟨qD (by kernel_rfl),fun aa t v h e=>by
 unfold spec at h
 split at h
 ·cases h; cases e
  exact⟨rfl,qS qx qf qd (by simpa using⟨A10.qg rp rm sn,A14.wa⟩) (by simp) (by decide) (by simp) rfl run⟩
 ·cases h⟩
end A13
namespace A10n
def T (s0:ByteArray):GT Value:= .out (ve (v0,100))
theorem run (s0:ByteArray):runK 4 [(14,A14.wQ)] [] 10 [.v (.string s0),.nil]=some (ve (v0,100)):=by kernel_rfl
def spec:Spec:=fun aa=>match aa with
 |[.v (.string s),.sl n 3 cs]=>some (.qI (kV n (Int.ofNat n) cs&&(qj cs).all (fun v=>inR v.2.1)) (.out (ve (Fit.zW s (qj cs)))))
 |[.v (.string s),.nil]=>some (.out (ve (v0,100)))
 |_=>none
theorem qg:qu Tryz.prog La 10 spec:=⟨qD (by kernel_rfl),fun aa t v h e=>by
 unfold spec at h
 split at h
 ·cases h
  exact(A10.qg rp rm sn).2 _ _ _ rfl e
 ·rename_i s
  cases h;cases e
  exact⟨rfl,qS qx qf qd (by simpa using A14.wa) (by simp) (by decide) (by simp) rfl (run s)⟩
 ·cases h⟩
end A10n
end
section
open Go Go.Proofs
def Ref.chk (k n:Int) (s:ByteArray):Int:=bif A33.okv k n s then 0 else 1
def yW:Spec:=fun aa=>match aa with
 |[a]=>(vOf a).bind fun x=>some (.out (.int .i64 (Ref.chk x.1 x.2.1 x.2.2)))
 |_=>none
theorem rM:qu Tryz.prog La 33 yW:=A33.qg
end
section
open Go Go.Proofs
namespace A16L0N
noncomputable def cfg:Cfg:=zw Tryz.prog 4 (gpT [(33,yW),(79,A79.spec),(109,A109.spec),(110,yC fun t x y=>ve (Ari.wC t x y)),(10,A10n.spec),(75,A75.spec),(35,A35.spec)]) (ltT 4 [])
def stA (n nr na:Nat) (i:Int):KX:=⟨[(0,.slice (some ⟨0,0,none⟩) n 6),(6,.pointer (some ⟨6,0,none⟩)),(7,.int .i64 0),(8,.pointer (some ⟨7,0,none⟩)),(9,.int .i64 i)],[[.int .i64 0,.int .i64 0,.string ⟨#[]⟩],[.slice none 0 0,.slice (some ⟨1,0,none⟩) nr 3,.slice (some ⟨2,0,none⟩) na 3,.int .i64 0]]⟩
def kp:Ex→List Nat
 | .normal=>[0,6,7,8,9]
 | .exit _=>[6,8]
 | .ret=>[6,7]
def cr:Ex→St→List (Nat×Bool):=fun e s=>match s.T.get 6 with
 |some (.pointer (some r))=>(match e with
  | .ret=>[(r.block,true)]
  |_=>match s.T.get 8 with
   |some (.pointer (some p))=>match zS s.h p.block with
    |some [.slice (some q) _ _,_,_,_]=>[(r.block,true),(p.block,false),(q.block,true)]
    |_=>[(r.block,true),(p.block,false)]
   |_=>[])
 |_=>[]
theorem round (n nr na:Nat) (i:Int) (cs:List Value) (rs:List Value) (as_:List Value):zN cfg [(33,yW),(79,A79.spec),(109,A109.spec),(110,yC fun t x y=>ve (Ari.wC t x y)),(10,A10n.spec),(75,A75.spec),(35,A35.spec)] [] 16 0 (stK 52 6 [(0,cs),(1,rs),(2,as_)] (stA n nr na i)) (zv 6 100 52 kp cr)=(let x2:=0+(i.toNat*6);let x1:=rdI cs (x2+1);let x3:=0+(x1.toNat*3);let x4:=IntKind.wrap .i64 (0 - x1);let x5:=IntKind.wrap .i64 (i+1);let x6:=rdS cs (((((x2+1)+1)+1)+1)+1);let x7:=rdI cs ((((x2+1)+1)+1)+1);let x8:=rdI cs (((x2+1)+1)+1);let x9:=rdS as_ ((x3+1)+1);let x10:=rdS rs ((x3+1)+1);let o1:Option (Ex×KX):=(some (.ret,⟨[(6,.pointer (some ⟨6,0,none⟩)),(7,.int .i64 22)],[[.int .i64 0,.int .i64 0,.string ⟨#[]⟩]]⟩));(bif decide (i<(Int.ofNat n))then(bif decide (0≤i)then(bif Nat.blt i.toNat n then(bif isL cs x2 [(.i .i64),(.i .i64),.s,(.i .i64),(.i .i64),.s]then(bif((rdI cs x2)==1)then(bif((Ref.chk x8 x7 x6) != 0)then o1 else(some (.normal,⟨[(0,.slice (some ⟨0,0,none⟩) n 6),(6,.pointer (some ⟨6,0,none⟩)),(7,.int .i64 0),(8,.pointer (some ⟨7,0,none⟩)),(9,.int .i64 x5)],[[.int .i64 0,.int .i64 0,.string ⟨#[]⟩],[.slice (some ⟨8,0,none⟩) 1 3,.slice (some ⟨1,0,none⟩) nr 3,.slice (some ⟨2,0,none⟩) na 3,.int .i64 0],[.int .i64 x8,.int .i64 x7,.string x6]]⟩)))else(bif((rdI cs x2)==2)then(bif decide (0≤x1)then(bif Nat.blt x1.toNat nr then(bif isL rs x3 [(.i .i64),(.i .i64),.s]then(bif((Ref.chk (rdI rs x3) (rdI rs (x3+1)) x10) != 0)then o1 else(some (.normal,⟨[(0,.slice (some ⟨0,0,none⟩) n 6),(6,.pointer (some ⟨6,0,none⟩)),(7,.int .i64 0),(8,.pointer (some ⟨7,0,none⟩)),(9,.int .i64 x5)],[[.int .i64 0,.int .i64 0,.string ⟨#[]⟩],[.slice (some ⟨8,0,none⟩) 1 3,.slice (some ⟨1,0,none⟩) nr 3,.slice (some ⟨2,0,none⟩) na 3,.int .i64 0],[.int .i64 (rdI rs x3),.int .i64 (rdI rs (x3+1)),.string x10]]⟩)))else none)else none)else none)else(bif((rdI cs x2)==9)then(bif decide (0≤x1)then(bif Nat.blt x1.toNat na then(bif isL as_ x3 [(.i .i64),(.i .i64),.s]then(bif((Ref.chk (rdI as_ x3) (rdI as_ (x3+1)) x9) != 0)then o1 else(some (.normal,⟨[(0,.slice (some ⟨0,0,none⟩) n 6),(6,.pointer (some ⟨6,0,none⟩)),(7,.int .i64 0),(8,.pointer (some ⟨7,0,none⟩)),(9,.int .i64 x5)],[[.int .i64 0,.int .i64 0,.string ⟨#[]⟩],[.slice (some ⟨8,0,none⟩) 1 3,.slice (some ⟨1,0,none⟩) nr 3,.slice (some ⟨2,0,none⟩) na 3,.int .i64 0],[.int .i64 (rdI as_ x3),.int .i64 (rdI as_ (x3+1)),.string x9]]⟩)))else none)else none)else none)else(bif((rdI cs x2)==3)then none else(bif((rdI cs x2)==4)then none else(bif((rdI cs x2)==5)then none else(bif((rdI cs x2)==6)then(bif(decide (0≤x4)&&Nat.ble x4.toNat 0)then(bif(decide (0≤x4)&&Nat.ble x4.toNat 0)then(some (.ret,⟨[(6,.pointer (some ⟨6,0,none⟩)),(7,.int .i64 100)],[[.int .i64 0,.int .i64 0,.string ⟨#[]⟩]]⟩))else none)else none)else(bif((rdI cs x2)==10)then none else(bif((rdI cs x2)==8)then none else(bif decide (0≤i)then(bif Nat.blt i.toNat n then(bif isV cs (x2+1) (.i .i64)then(some (.normal,⟨[(0,.slice (some ⟨0,0,none⟩) n 6),(6,.pointer (some ⟨6,0,none⟩)),(7,.int .i64 0),(8,.pointer (some ⟨7,0,none⟩)),(9,.int .i64 x1)],[[.int .i64 0,.int .i64 0,.string ⟨#[]⟩],[.slice none 0 0,.slice (some ⟨1,0,none⟩) nr 3,.slice (some ⟨2,0,none⟩) na 3,.int .i64 0]]⟩))else none)else none)else none))))))))))else none)else none)else none)else(some (.exit 0,⟨[(6,.pointer (some ⟨6,0,none⟩)),(8,.pointer (some ⟨7,0,none⟩))],[[.int .i64 0,.int .i64 0,.string ⟨#[]⟩],[.slice none 0 0,.slice (some ⟨1,0,none⟩) nr 3,.slice (some ⟨2,0,none⟩) na 3,.int .i64 0]]⟩)))):=by kernel_rfl
end A16L0N
namespace A16L0R
noncomputable def cfg:Cfg:=zw Tryz.prog 4 (gpT [(33,yW),(79,A79.spec),(109,A109.spec),(110,yC fun t x y=>ve (Ari.wC t x y)),(10,A10n.spec),(75,A75.spec),(35,A35.spec)]) (ltT 4 [])
def stA (n nr na k:Nat) (i:Int) (row:List Value):KX:=⟨[(0,.slice (some ⟨0,0,none⟩) n 6),(6,.pointer (some ⟨6,0,none⟩)),(7,.int .i64 0),(8,.pointer (some ⟨7,0,none⟩)),(9,.int .i64 i)],[[.int .i64 0,.int .i64 0,.string ⟨#[]⟩],[.slice (some ⟨8,0,none⟩) k 3,.slice (some ⟨1,0,none⟩) nr 3,.slice (some ⟨2,0,none⟩) na 3,.int .i64 0],row]⟩
def kp:Ex→List Nat
 | .normal=>[0,6,7,8,9]
 | .exit _=>[6,8]
 | .ret=>[6,7]
def cr:Ex→St→List (Nat×Bool):=fun e s=>match s.T.get 6 with
 |some (.pointer (some r))=>(match e with
  | .ret=>[(r.block,true)]
  |_=>match s.T.get 8 with
   |some (.pointer (some p))=>match zS s.h p.block with
    |some [.slice (some q) _ _,_,_,_]=>[(r.block,true),(p.block,false),(q.block,true)]
    |_=>[(r.block,true),(p.block,false)]
   |_=>[])
 |_=>[]
theorem round (n nr na k:Nat) (i:Int) (row:List Value) (cs:List Value) (rs:List Value) (as_:List Value):zN cfg [(33,yW),(79,A79.spec),(109,A109.spec),(110,yC fun t x y=>ve (Ari.wC t x y)),(10,A10n.spec),(75,A75.spec),(35,A35.spec)] [] 16 0 (stK 52 6 [(0,cs),(1,rs),(2,as_)] (stA n nr na k i row)) (zv 6 100 52 kp cr)=(let x1:=IntKind.wrap .i64 ((Int.ofNat k) - 1);let x4:=0+(x1.toNat*3);let x5:=0+(i.toNat*6);let x3:=IntKind.wrap .i64 ((Int.ofNat k) - (rdI cs (x5+1)));let x6:=0+((rdI cs (x5+1)).toNat*3);let x7:=IntKind.wrap .i64 ((Int.ofNat (x1.toNat - 0)) - 1);let x8:=rdI row (x4+1);let x9:=IntKind.wrap .i64 (i+1);let x10:=0+(x3.toNat*3);let x11:=A79.xk (rdI row x4) x8;let x12:=A75.kn (rdI row x4) x8;let x13:=rdS cs ((x5+1)+1);let x14:=rdS row ((x4+1)+1);let x15:=0+((x1.toNat - 0)*3);let x16:=rdS cs (((((x5+1)+1)+1)+1)+1);let x17:=rdI cs ((((x5+1)+1)+1)+1);let x18:=rdI cs (((x5+1)+1)+1);let x19:=rdS as_ ((x6+1)+1);let x20:=rdS rs ((x6+1)+1);let x21:=rdI as_ (x6+1);let x22:=0+(x7.toNat*3);let x2:=Ari.wC x13 ((rdI row x22),((rdI row (x22+1)),(rdS row ((x22+1)+1)))) ((rdI row x4),(x8,x14));let o1:Option (Ex×KX):=(some (.ret,⟨[(6,.pointer (some ⟨6,0,none⟩)),(7,.int .i64 22)],[[.int .i64 0,.int .i64 0,.string ⟨#[]⟩]]⟩));(bif decide (i<(Int.ofNat n))then(bif decide (0≤i)then(bif Nat.blt i.toNat n then(bif isL cs x5 [(.i .i64),(.i .i64),.s,(.i .i64),(.i .i64),.s]then(bif((rdI cs x5)==1)then(bif((Ref.chk x18 x17 x16) != 0)then o1 else(bif Nat.ble (k+1) 200000000000000 then(bif Nat.ble ((k+1)*32) 200000000000000 then(bif Nat.ble (0+(k*3)) row.length then(bif(true&&(true&&((((row.drop 0).take (k*3))++[Value.int .i64 x18,.int .i64 x17,.string x16]).all qp&&true)))then(some (.normal,⟨[(0,.slice (some ⟨0,0,none⟩) n 6),(6,.pointer (some ⟨6,0,none⟩)),(7,.int .i64 0),(8,.pointer (some ⟨7,0,none⟩)),(9,.int .i64 x9)],[[.int .i64 0,.int .i64 0,.string ⟨#[]⟩],[.slice (some ⟨8,0,none⟩) (k+1) 3,.slice (some ⟨1,0,none⟩) nr 3,.slice (some ⟨2,0,none⟩) na 3,.int .i64 0],(((row.drop 0).take (k*3))++[Value.int .i64 x18,.int .i64 x17,.string x16])]⟩))else none)else none)else none)else none))else(bif((rdI cs x5)==2)then(bif decide (0≤(rdI cs (x5+1)))then(bif Nat.blt (rdI cs (x5+1)).toNat nr then(bif isL rs x6 [(.i .i64),(.i .i64),.s]then(bif((Ref.chk (rdI rs x6) (rdI rs (x6+1)) x20) != 0)then o1 else(bif Nat.ble (k+1) 200000000000000 then(bif Nat.ble ((k+1)*32) 200000000000000 then(bif Nat.ble (0+(k*3)) row.length then(bif(true&&(true&&((((row.drop 0).take (k*3))++[Value.int .i64 (rdI rs x6),.int .i64 (rdI rs (x6+1)),.string x20]).all qp&&true)))then(some (.normal,⟨[(0,.slice (some ⟨0,0,none⟩) n 6),(6,.pointer (some ⟨6,0,none⟩)),(7,.int .i64 0),(8,.pointer (some ⟨7,0,none⟩)),(9,.int .i64 x9)],[[.int .i64 0,.int .i64 0,.string ⟨#[]⟩],[.slice (some ⟨8,0,none⟩) (k+1) 3,.slice (some ⟨1,0,none⟩) nr 3,.slice (some ⟨2,0,none⟩) na 3,.int .i64 0],(((row.drop 0).take (k*3))++[Value.int .i64 (rdI rs x6),.int .i64 (rdI rs (x6+1)),.string x20])]⟩))else none)else none)else none)else none))else none)else none)else none)else(bif((rdI cs x5)==9)then(bif decide (0≤(rdI cs (x5+1)))then(bif Nat.blt (rdI cs (x5+1)).toNat na then(bif isL as_ x6 [(.i .i64),(.i .i64),.s]then(bif((Ref.chk (rdI as_ x6) x21 x19) != 0)then o1 else(bif Nat.ble (k+1) 200000000000000 then(bif Nat.ble ((k+1)*32) 200000000000000 then(bif Nat.ble (0+(k*3)) row.length then(bif(true&&(true&&((((row.drop 0).take (k*3))++[Value.int .i64 (rdI as_ x6),.int .i64 x21,.string x19]).all qp&&true)))then(some (.normal,⟨[(0,.slice (some ⟨0,0,none⟩) n 6),(6,.pointer (some ⟨6,0,none⟩)),(7,.int .i64 0),(8,.pointer (some ⟨7,0,none⟩)),(9,.int .i64 x9)],[[.int .i64 0,.int .i64 0,.string ⟨#[]⟩],[.slice (some ⟨8,0,none⟩) (k+1) 3,.slice (some ⟨1,0,none⟩) nr 3,.slice (some ⟨2,0,none⟩) na 3,.int .i64 0],(((row.drop 0).take (k*3))++[Value.int .i64 (rdI as_ x6),.int .i64 x21,.string x19])]⟩))else none)else none)else none)else none))else none)else none)else none)else(bif((rdI cs x5)==3)then(bif decide (0≤x1)then(bif Nat.blt x1.toNat k then(bif isL row x4 [(.i .i64),(.i .i64),.s]then(bif(decide (0≤x1)&&Nat.ble x1.toNat k)then(bif eqU x13.data.toList [45]then(bif(x11.2 != 0)then(some (.ret,⟨[(6,.pointer (some ⟨6,0,none⟩)),(7,.int .i64 x11.2)],[[.int .i64 0,.int .i64 0,.string ⟨#[]⟩]]⟩))else(bif Nat.ble ((x1.toNat - 0)+1) 200000000000000 then(bif Nat.ble (((x1.toNat - 0)+1)*32) 200000000000000 then(bif Nat.ble x15 row.length then(bif(true&&(true&&((((row.drop 0).take ((x1.toNat - 0)*3))++[Value.int .i64 x11.1.1,.int .i64 x11.1.2.1,.string x11.1.2.2]).all qp&&true)))then(some (.normal,⟨[(0,.slice (some ⟨0,0,none⟩) n 6),(6,.pointer (some ⟨6,0,none⟩)),(7,.int .i64 0),(8,.pointer (some ⟨7,0,none⟩)),(9,.int .i64 x9)],[[.int .i64 0,.int .i64 0,.string ⟨#[]⟩],[.slice (some ⟨8,0,none⟩) ((x1.toNat - 0)+1) 3,.slice (some ⟨1,0,none⟩) nr 3,.slice (some ⟨2,0,none⟩) na 3,.int .i64 0],(((row.drop 0).take ((x1.toNat - 0)*3))++[Value.int .i64 x11.1.1,.int .i64 x11.1.2.1,.string x11.1.2.2])]⟩))else none)else none)else none)else none))else(bif Nat.ble ((x1.toNat - 0)+1) 200000000000000 then(bif Nat.ble (((x1.toNat - 0)+1)*32) 200000000000000 then(bif Nat.ble x15 row.length then(bif(true&&(true&&((((row.drop 0).take ((x1.toNat - 0)*3))++[Value.int .i64 (Ref.ja ((rdI row x4),(x8,x14))).1,.int .i64 (Ref.ja ((rdI row x4),(x8,x14))).2.1,.string (Ref.ja ((rdI row x4),(x8,x14))).2.2]).all qp&&true)))then(some (.normal,⟨[(0,.slice (some ⟨0,0,none⟩) n 6),(6,.pointer (some ⟨6,0,none⟩)),(7,.int .i64 0),(8,.pointer (some ⟨7,0,none⟩)),(9,.int .i64 x9)],[[.int .i64 0,.int .i64 0,.string ⟨#[]⟩],[.slice (some ⟨8,0,none⟩) ((x1.toNat - 0)+1) 3,.slice (some ⟨1,0,none⟩) nr 3,.slice (some ⟨2,0,none⟩) na 3,.int .i64 0],(((row.drop 0).take ((x1.toNat - 0)*3))++[Value.int .i64 (Ref.ja ((rdI row x4),(x8,x14))).1,.int .i64 (Ref.ja ((rdI row x4),(x8,x14))).2.1,.string (Ref.ja ((rdI row x4),(x8,x14))).2.2])]⟩))else none)else none)else none)else none))else none)else none)else none)else none)else(bif((rdI cs x5)==4)then(bif decide (0≤x1)then(bif Nat.blt x1.toNat k then(bif isL row x4 [(.i .i64),(.i .i64),.s]then(bif(decide (0≤x1)&&Nat.ble x1.toNat k)then(bif decide (0≤x7)then(bif Nat.blt x7.toNat (x1.toNat - 0)then(bif isL row x22 [(.i .i64),(.i .i64),.s]then(bif(decide (0≤x7)&&Nat.ble x7.toNat (x1.toNat - 0))then(bif((inR (rdI row (x22+1)))&&(inR x8))then(bif(x2.2 != 0)then(some (.ret,⟨[(6,.pointer (some ⟨6,0,none⟩)),(7,.int .i64 x2.2)],[[.int .i64 0,.int .i64 0,.string ⟨#[]⟩]]⟩))else(bif Nat.ble ((x7.toNat - 0)+1) 200000000000000 then(bif Nat.ble (((x7.toNat - 0)+1)*32) 200000000000000 then(bif Nat.ble (0+((x7.toNat - 0)*3)) row.length then(bif(true&&(true&&((((row.drop 0).take ((x7.toNat - 0)*3))++[Value.int .i64 x2.1.1,.int .i64 x2.1.2.1,.string x2.1.2.2]).all qp&&true)))then(some (.normal,⟨[(0,.slice (some ⟨0,0,none⟩) n 6),(6,.pointer (some ⟨6,0,none⟩)),(7,.int .i64 0),(8,.pointer (some ⟨7,0,none⟩)),(9,.int .i64 x9)],[[.int .i64 0,.int .i64 0,.string ⟨#[]⟩],[.slice (some ⟨8,0,none⟩) ((x7.toNat - 0)+1) 3,.slice (some ⟨1,0,none⟩) nr 3,.slice (some ⟨2,0,none⟩) na 3,.int .i64 0],(((row.drop 0).take ((x7.toNat - 0)*3))++[Value.int .i64 x2.1.1,.int .i64 x2.1.2.1,.string x2.1.2.2])]⟩))else none)else none)else none)else none))else none)else none)else none)else none)else none)else none)else none)else none)else none)else(bif((rdI cs x5)==5)then(bif decide (0≤x1)then(bif Nat.blt x1.toNat k then(bif isL row x4 [(.i .i64),(.i .i64),.s]then(bif(decide (0≤x1)&&Nat.ble x1.toNat k)then(bif(((rdI row x4)==0)==((rdI cs (x5+1))==0))then(bif Nat.ble ((x1.toNat - 0)+1) 200000000000000 then(bif Nat.ble (((x1.toNat - 0)+1)*32) 200000000000000 then(bif Nat.ble x15 row.length then(bif(true&&(true&&((((row.drop 0).take ((x1.toNat - 0)*3))++[Value.int .i64 1,.int .i64 1,.string ⟨#[]⟩]).all qp&&true)))then(some (.normal,⟨[(0,.slice (some ⟨0,0,none⟩) n 6),(6,.pointer (some ⟨6,0,none⟩)),(7,.int .i64 0),(8,.pointer (some ⟨7,0,none⟩)),(9,.int .i64 x9)],[[.int .i64 0,.int .i64 0,.string ⟨#[]⟩],[.slice (some ⟨8,0,none⟩) ((x1.toNat - 0)+1) 3,.slice (some ⟨1,0,none⟩) nr 3,.slice (some ⟨2,0,none⟩) na 3,.int .i64 0],(((row.drop 0).take ((x1.toNat - 0)*3))++[Value.int .i64 1,.int .i64 1,.string ⟨#[]⟩])]⟩))else none)else none)else none)else none)else(bif Nat.ble ((x1.toNat - 0)+1) 200000000000000 then(bif Nat.ble (((x1.toNat - 0)+1)*32) 200000000000000 then(bif Nat.ble x15 row.length then(bif(true&&(true&&((((row.drop 0).take ((x1.toNat - 0)*3))++[Value.int .i64 1,.int .i64 0,.string ⟨#[]⟩]).all qp&&true)))then(some (.normal,⟨[(0,.slice (some ⟨0,0,none⟩) n 6),(6,.pointer (some ⟨6,0,none⟩)),(7,.int .i64 0),(8,.pointer (some ⟨7,0,none⟩)),(9,.int .i64 x9)],[[.int .i64 0,.int .i64 0,.string ⟨#[]⟩],[.slice (some ⟨8,0,none⟩) ((x1.toNat - 0)+1) 3,.slice (some ⟨1,0,none⟩) nr 3,.slice (some ⟨2,0,none⟩) na 3,.int .i64 0],(((row.drop 0).take ((x1.toNat - 0)*3))++[Value.int .i64 1,.int .i64 0,.string ⟨#[]⟩])]⟩))else none)else none)else none)else none))else none)else none)else none)else none)else(bif((rdI cs x5)==6)then(bif(decide (0≤x3)&&Nat.ble x3.toNat k)then(bif(true&&((Nat.ble (x10+((k - x3.toNat)*3)) row.length&&((row.drop x10).take ((k - x3.toNat)*3)).all qp)&&true))then(bif((kV (k - x3.toNat) (Int.ofNat (k - x3.toNat)) ((row.drop x10).take ((k - x3.toNat)*3)))&&(qj ((row.drop x10).take ((k - x3.toNat)*3))).all fun v=>inR v.snd.fst)then(bif(decide (0≤x3)&&Nat.ble x3.toNat k)then(bif((Fit.zW x13 (qj ((row.drop x10).take ((k - x3.toNat)*3)))).2 != 0)then(some (.ret,⟨[(6,.pointer (some ⟨6,0,none⟩)),(7,.int .i64 (Fit.zW x13 (qj ((row.drop x10).take ((k - x3.toNat)*3)))).2)],[[.int .i64 0,.int .i64 0,.string ⟨#[]⟩]]⟩))else(bif Nat.ble ((x3.toNat - 0)+1) 200000000000000 then(bif Nat.ble (((x3.toNat - 0)+1)*32) 200000000000000 then(bif Nat.ble (0+((x3.toNat - 0)*3)) row.length then(bif(true&&(true&&((((row.drop 0).take ((x3.toNat - 0)*3))++[Value.int .i64 (Fit.zW x13 (qj ((row.drop x10).take ((k - x3.toNat)*3)))).1.1,.int .i64 (Fit.zW x13 (qj ((row.drop x10).take ((k - x3.toNat)*3)))).1.2.1,.string (Fit.zW x13 (qj ((row.drop x10).take ((k - x3.toNat)*3)))).1.2.2]).all qp&&true)))then(some (.normal,⟨[(0,.slice (some ⟨0,0,none⟩) n 6),(6,.pointer (some ⟨6,0,none⟩)),(7,.int .i64 0),(8,.pointer (some ⟨7,0,none⟩)),(9,.int .i64 x9)],[[.int .i64 0,.int .i64 0,.string ⟨#[]⟩],[.slice (some ⟨8,0,none⟩) ((x3.toNat - 0)+1) 3,.slice (some ⟨1,0,none⟩) nr 3,.slice (some ⟨2,0,none⟩) na 3,.int .i64 0],(((row.drop 0).take ((x3.toNat - 0)*3))++[Value.int .i64 (Fit.zW x13 (qj ((row.drop x10).take ((k - x3.toNat)*3)))).1.1,.int .i64 (Fit.zW x13 (qj ((row.drop x10).take ((k - x3.toNat)*3)))).1.2.1,.string (Fit.zW x13 (qj ((row.drop x10).take ((k - x3.toNat)*3)))).1.2.2])]⟩))else none)else none)else none)else none))else none)else none)else none)else none)else(bif((rdI cs x5)==10)then(bif decide (0≤x1)then(bif Nat.blt x1.toNat k then(bif isL row x4 [(.i .i64),(.i .i64),.s]then(bif(decide (0≤x1)&&Nat.ble x1.toNat k)then(bif(inR x8)then(bif(x12.2 != 0)then(some (.ret,⟨[(6,.pointer (some ⟨6,0,none⟩)),(7,.int .i64 x12.2)],[[.int .i64 0,.int .i64 0,.string ⟨#[]⟩]]⟩))else(bif Nat.ble ((x1.toNat - 0)+1) 200000000000000 then(bif Nat.ble (((x1.toNat - 0)+1)*32) 200000000000000 then(bif Nat.ble x15 row.length then(bif(true&&(true&&((((row.drop 0).take ((x1.toNat - 0)*3))++[Value.int .i64 x12.1.1,.int .i64 x12.1.2.1,.string x12.1.2.2]).all qp&&true)))then(some (.normal,⟨[(0,.slice (some ⟨0,0,none⟩) n 6),(6,.pointer (some ⟨6,0,none⟩)),(7,.int .i64 0),(8,.pointer (some ⟨7,0,none⟩)),(9,.int .i64 x9)],[[.int .i64 0,.int .i64 0,.string ⟨#[]⟩],[.slice (some ⟨8,0,none⟩) ((x1.toNat - 0)+1) 3,.slice (some ⟨1,0,none⟩) nr 3,.slice (some ⟨2,0,none⟩) na 3,.int .i64 0],(((row.drop 0).take ((x1.toNat - 0)*3))++[Value.int .i64 x12.1.1,.int .i64 x12.1.2.1,.string x12.1.2.2])]⟩))else none)else none)else none)else none))else none)else none)else none)else none)else none)else(bif((rdI cs x5)==8)then(bif decide (0≤x1)then(bif Nat.blt x1.toNat k then(bif isL row x4 [(.i .i64),(.i .i64),.s]then(bif(decide (0≤x1)&&Nat.ble x1.toNat k)then(bif(A35.tru (rdI row x4) x8)then(bif(true&&(true&&(row.all qp&&true)))then(some (.normal,⟨[(0,.slice (some ⟨0,0,none⟩) n 6),(6,.pointer (some ⟨6,0,none⟩)),(7,.int .i64 0),(8,.pointer (some ⟨7,0,none⟩)),(9,.int .i64 x9)],[[.int .i64 0,.int .i64 0,.string ⟨#[]⟩],[.slice (some ⟨8,0,none⟩) (x1.toNat - 0) 3,.slice (some ⟨1,0,none⟩) nr 3,.slice (some ⟨2,0,none⟩) na 3,.int .i64 0],row]⟩))else none)else(bif decide (0≤i)then(bif Nat.blt i.toNat n then(bif isV cs (x5+1) (.i .i64)then(bif(true&&(true&&(row.all qp&&true)))then(some (.normal,⟨[(0,.slice (some ⟨0,0,none⟩) n 6),(6,.pointer (some ⟨6,0,none⟩)),(7,.int .i64 0),(8,.pointer (some ⟨7,0,none⟩)),(9,.int .i64 (rdI cs (x5+1)))],[[.int .i64 0,.int .i64 0,.string ⟨#[]⟩],[.slice (some ⟨8,0,none⟩) (x1.toNat - 0) 3,.slice (some ⟨1,0,none⟩) nr 3,.slice (some ⟨2,0,none⟩) na 3,.int .i64 0],row]⟩))else none)else none)else none)else none))else none)else none)else none)else none)else(bif decide (0≤i)then(bif Nat.blt i.toNat n then(bif isV cs (x5+1) (.i .i64)then(bif(true&&(true&&(row.all qp&&true)))then(some (.normal,⟨[(0,.slice (some ⟨0,0,none⟩) n 6),(6,.pointer (some ⟨6,0,none⟩)),(7,.int .i64 0),(8,.pointer (some ⟨7,0,none⟩)),(9,.int .i64 (rdI cs (x5+1)))],[[.int .i64 0,.int .i64 0,.string ⟨#[]⟩],[.slice (some ⟨8,0,none⟩) k 3,.slice (some ⟨1,0,none⟩) nr 3,.slice (some ⟨2,0,none⟩) na 3,.int .i64 0],row]⟩))else none)else none)else none)else none))))))))))else none)else none)else none)else(bif(true&&(true&&(row.all qp&&true)))then(some (.exit 0,⟨[(6,.pointer (some ⟨6,0,none⟩)),(8,.pointer (some ⟨7,0,none⟩))],[[.int .i64 0,.int .i64 0,.string ⟨#[]⟩],[.slice (some ⟨8,0,none⟩) k 3,.slice (some ⟨1,0,none⟩) nr 3,.slice (some ⟨2,0,none⟩) na 3,.int .i64 0],row]⟩))else none))):=by kernel_rfl
end A16L0R
end
end Go.Proofs.YtaiokpmmjbiajaaGreatDoorDx
namespace Go.Proofs.YtaiokpmmjbiajaaGreatDoorDx.Ari
section
open Go Go.Proofs Go.Proofs.YtaiokpmmjbiajaaGreatDoorDx.Fit
theorem xr (x:Int):inR (IntKind.wrap .i64 x)=true:=vR.2 (by rw[IntKind.wrap_i64];omega)
abbrev I (v:W3):Prop:=inR v.2.1=true
theorem gx (k n:Int):I (A79.xk k n).1:=by
 unfold A79.xk
 split
 ·rfl
 ·split
  ·split
   ·rfl
   ·exact xr _
  ·rfl
theorem mM {k n:Int} (hk:k=2∨k=3) (hn:inR n=true) (h:(A127.dec k n).2=true):inR (A127.dec k n).1=true:=by
 obtain⟨d1,d2⟩:=jo hk hn
 rw[d1]at h
 rw[(d2 h).1]
 exact(d2 h).2
theorem mK {k n:Int} (hn:inR n=true) (h:(A127.dec k n).2=true):inR (A127.dec k n).1=true:=by
 by_cases hk:k=3
 ·subst hk;exact hn
 ·have e : A127.dec k n = A127.dec 2 n := by unfold A127.dec; rw [Aq hk, Aq (by decide)]
  rw[e]at h ⊢
  exact mM (.inl rfl) hn h
theorem Yd {k n:Int} (hn:inR n=true):I (A75.kn k n).1:=by
 unfold A75.kn
 split
 ·rfl
 ·split
  ·rename_i hk
   split
   ·rename_i h;exact mM hk hn h
   ·rfl
  ·rfl
theorem W9 (c:Int):I (Ref.J9 c):=by
 unfold Ref.J9
 cases c==0<;>cases c==1<;>rfl
theorem Zf (b:Bool):I (Ref.yi b):=by cases b<;>rfl
theorem rA (s:ByteArray) (p:Int×Bool):I (Ref.XK s p):=by
 unfold Ref.XK
 cases p.2
 ·rfl
 ·cases eqU s.data.toList [60]
  ·cases eqU s.data.toList [60, 61]
   ·cases eqU s.data.toList [62]
    ·exact Zf _
    ·exact Zf _
   ·exact Zf _
  ·exact Zf _
theorem Xh {k:Int} {p:Int×Bool} (h:p.2=true→inR p.1=true):I (ofV k p).1:=by
 unfold ofV
 cases e:p.2
 ·rfl
 ·exact h e
theorem df {f:Int→Int→Int×Bool} (hf: ∀a b,inR a=true→inR b=true→(f a b).2=true→inR (f a b).1=true) {a b:W3} (ha:I a) (hb:I b):I (j8 f a b).1:=by
 unfold j8
 cases bad a.1||bad b.1
 rotate_left
 ·rfl
 cases a.1==0||b.1==0
 rotate_left
 ·rfl
 cases a.1==2&&b.1==2
 rotate_left
 ·exact Xh (hf _ _ ha hb)
 cases hd:(A127.dec a.1 a.2.1).2&&(A127.dec b.1 b.2.1).2
 ·rfl
 ·refine Xh fun h => ?_
  rw[Ag]at hd
  exact hf _ _ (mK ha hd.1) (mK hb hd.2) h
theorem aW (n:Nat) (b:Int):0≤Int.tmod (n:Int) b∧Int.tmod (n:Int) b≤n:=by
 cases b with
 |ofNat m=>
  show (0:Int)≤((n % m:Nat):Int)∧((n % m:Nat):Int)≤n
  have:=Nat.mod_le n m
  omega
 |negSucc m=>
  show (0:Int)≤((n % (m+1):Nat):Int)∧((n % (m+1):Nat):Int)≤n
  have:=Nat.mod_le n (m+1)
  omega
theorem pT {a b:Int} (ha:inR a=true) (hb:inR b=true):inR (rem a b)=true:=by
 have h1:=vR.1 ha
 unfold rem
 cases b != -1
 ·rfl
 ·show inR (Int.tmod a b) = true
  refine vR.2 ?_
  rcases Int.lt_or_le a 0 with h|h
  ·have e : Int.tmod a b = -Int.tmod (-a) b := by rw [Int.neg_tmod, Int.neg_neg]
   obtain⟨n,hn⟩:=AG (show 0≤ -a by omega)
   have g:=aW n b
   rw[e,hn]
   omega
  ·obtain ⟨n, rfl⟩ := AG h
   have g:=aW n b
   omega
theorem iK {k n:Int} {t:ByteArray} (h:A33.okv k n t=true):t.data.toList.length≤1024:=by
 have e0:eqU t.data.toList []=true→t.data.toList.length≤1024:=fun e=>by
  have:=Go.Proofs.YtaiokpmmjbiajaaGreatDoorDx.Fit.yF e
  rw[this];decide
 unfold A33.okv at h
 cases h0:k==0<;>rw[h0]at h
 rotate_left
 ·simp only[Ai,Ag]at h;exact e0 h.2
 cases h1:k==1<;>rw[h1]at h
 rotate_left
 ·simp only[Ai,Ah,Ag]at h;exact e0 h.1
 cases h2:k==2||k==3<;>rw[h2]at h
 rotate_left
 ·exact e0 h
 simp only[Ah,Ag,As]at h
 exact h.2.2.1
theorem Jg {a b d:Int} (ha:inR a=true) (hb:inR b=true) (hd:inR d=true) (h0:d≠0) (h:(quot a b d).2=true):inR (quot a b d).1=true:=((XM ha hb hd h0).2 h).2
theorem oX {a b:W3} (ha:I a) (hb:I b):I (Kw a b).1:=by
 unfold Kw
 cases (Ref.zD a.1 b.1 b.2.1 false).2
 rotate_left
 ·rfl
 refine Xh ?_
 cases a.1==3&&b.1==3
 ·exact Jg ha hb rfl (by decide)
 ·exact Jg ha hb rfl (by decide)
theorem oL {a b:W3} (ha:I a) (hb:I b):I (Va a b).1:=by
 unfold Va
 cases hf:(Ref.zD a.1 b.1 b.2.1 true).2
 rotate_left
 ·rfl
 have hn:=KE hf
 cases a.1==2&&b.1==2
 rotate_left
 ·exact Xh (Jg ha rfl hb hn)
 cases hd:(Ref.zO a.1 a.2.1).2&&(Ref.zO b.1 b.2.1).2
 ·rfl
 ·rw [Ag] at hd
  exact Xh (Jg (Wt ha hd.1) rfl (Wt hb hd.2) (K9 hn hd.2))
theorem oH {a b:W3} (ha:I a) (hb:I b):I (Z6 a b).1:=by
 unfold Z6
 cases (Ref.zeroV a.1 b.1 b.2.1).2 != 0
 rotate_left
 ·rfl
 cases (Ref.zeroV a.1 b.1 b.2.1).1
 rotate_left
 ·rfl
 exact df (fun x y hx hy _=>pT hx hy) ha hb
theorem oY (t:ByteArray) {a b:W3} (ha:I a) (hb:I b):I (wC t a b).1:=by
 unfold wC
 cases eqU t.data.toList [43]||(eqU t.data.toList [45]||(eqU t.data.toList [42]||(eqU t.data.toList [47]||eqU t.data.toList [37])))
 rotate_left
 ·unfold xQ
  cases eqU t.data.toList [43]
  rotate_left
  ·exact df (fun x y _ _ _=>xr _) ha hb
  cases eqU t.data.toList [45]
  rotate_left
  ·exact df (fun x y _ _ _=>xr _) ha hb
  cases eqU t.data.toList [42]
  rotate_left
  ·exact oX ha hb
  cases eqU t.data.toList [47]
  ·exact oH ha hb
  ·exact oL ha hb
 cases eqU t.data.toList [61]
 rotate_left
 ·show inR (Ref.W0 a b) = true
  unfold Ref.W0
  cases a.1==0||b.1==0
  ·cases (A76.compare a.1 a.2.1 a.2.2 b.1 b.2.1 b.2.2).2&&(A76.compare a.1 a.2.1 a.2.2 b.1 b.2.1 b.2.2).1==0<;>rfl
  ·rfl
 cases eqU t.data.toList [33,61]
 rotate_left
 ·exact W9 _
 cases eqU t.data.toList [97,110,100]
 rotate_left
 ·exact W9 _
 cases eqU t.data.toList [111,114]
 rotate_left
 ·exact W9 _
 exact rA _ _
theorem lD (s:ByteArray) (kind:Int): ∀(l:List W3) (p:Bool×W3),(∀v∈l,I v)→I p.2→I (A34L1.go s kind p l).2
 |[],p,h,hp=>hp
 |v::l,p,h,hp=>by
  have hv:=h v (Ca ..)
  have ht: ∀w∈l,I w:=fun w hw=>h w (BK _ hw)
  have hpick: ∀u:W3,I u→I (A34L1.pick s p u).2:=fun u hu=>by
   unfold A34L1.pick
   cases A34L1.better s p.1 (A76.compare u.1 u.2.1 u.2.2 p.2.1 p.2.2.1 p.2.2.2).1
   ·exact hp
   ·exact hu
  unfold A34L1.go
  cases v.1==0
  rotate_left
  ·exact lD s kind l p ht hp
  cases kind==3
  ·exact lD s kind l _ ht (hpick v hv)
  ·cases (A75.kn v.1 v.2.1).2 != 0
   ·exact lD s kind l _ ht (hpick _ (Yd hv))
   ·exact hp
theorem Kx (s:ByteArray) (l:List W3) (h: ∀v∈l,I v):I (kr s l).1:=by
 unfold kr
 cases (A34.jk s l).1 != 0
 ·exact lD s _ l _ h rfl
 ·rfl
theorem Zx (t:ByteArray):I (kL t).1:=by
 unfold kL
 cases decide (Int.ofNat t.data.toList.length>1024)<;>rfl
theorem dO (s:ByteArray) {v:W3} (hv:I v):I (Zs s v).1:=by
 unfold Zs
 cases v.1==2
 ·show inR (A80.rnd s v.2.1) = true
  unfold A80.rnd
  cases (eqU s.data.toList [99,101,105,108]&&decide (Int.tmod v.2.1 10000>0))||(eqU s.data.toList [114,111,117,110,100]&&decide (Int.tmod v.2.1 10000≥5000))
  ·cases (eqU s.data.toList [102,108,111,111,114]&&decide (Int.tmod v.2.1 10000<0))||(eqU s.data.toList [114,111,117,110,100]&&decide (IntKind.wrap .i64 (0 - Int.tmod v.2.1 10000)≥5000))<;>exact xr _
  ·exact xr _
 ·exact hv
theorem bC {l:List W3} (h: ∀v∈l,I v):I (l.headD v0):=by
 cases l with
 |nil=>rfl
 |cons v l=>exact h v (Ca ..)
theorem nW {k n:Int} (hn:inR n=true):I (A82.Jb k n).1:=by
 unfold A82.Jb
 split
 ·rfl
 ·split
  ·exact xr _
  ·split
   ·exact hn
   ·rfl
theorem nf (s:ByteArray) (l:List W3) (h: ∀v∈l,I v) (hok:l.any A10L1.bad=false):I (Qj s l).1:=by
 have hh:=bC h
 have hlen:inR (Int.ofNat (Lib.runeCount (l.headD v0).2.2))=true:=by
  have hs:(l.headD v0).2.2.size≤1024:=by
   cases l with
   |nil=>show (0:Nat)≤1024;omega
   |cons v l=>
    rw[BX,AU]at hok
    have ho:A33.okv v.1 v.2.1 v.2.2=true:=by have:=hok.1;unfold A10L1.bad at this;simpa using this
    show v.2.2.size≤1024
    have:=iK ho
    rwa [Array.length_toList]at this
  have hr:Lib.runeCount (l.headD v0).2.2≤(l.headD v0).2.2.size:=Lib.runeCountFrom_le _ _ _
  exact vR.2 (by show -9223372036854775808≤((Lib.runeCount (l.headD v0).2.2:Nat):Int)∧((Lib.runeCount (l.headD v0).2.2:Nat):Int)<_;omega)
 unfold Qj
 dsimp only[]
 cases is s [97,98,115]
 rotate_left
 ·cases decide ((l.headD v0).2.1 < 0)
  ·exact hh
  ·exact gx _ _
 cases is s [99,101,105,108]
 rotate_left
 ·exact dO s hh
 cases is s [102,108,111,111,114]
 rotate_left
 ·exact dO s hh
 cases is s [114,111,117,110,100]
 rotate_left
 ·exact dO s hh
 cases is s [115,105,103,110]
 rotate_left
 ·show inR (Kv (l.headD v0).2.1) = true
  unfold Kv
  cases decide ((l.headD v0).2.1<0)<;>cases decide ((l.headD v0).2.1>0)<;>rfl
 cases is s [116,111,105,110,116]
 rotate_left
 ·exact nW hh
 cases is s [116,111,100,101,99]
 rotate_left
 ·exact Yd hh
 cases is s [103,114,101,97,116,101,115,116]
 rotate_left
 ·exact Kx s l h
 cases is s [108,101,97,115,116]
 rotate_left
 ·exact Kx s l h
 cases is s [108,101,110,103,116,104]
 rotate_left
 ·exact hlen
 cases is s [108,111,119,101,114]
 rotate_left
 ·exact Zx _
 cases is s [117,112,112,101,114]
 rotate_left
 ·exact Zx _
 cases is s [116,114,105,109]
 rotate_left
 ·exact Zx _
 cases is s [115,117,98,115,116,114]
 rotate_left
 ·exact Zx _
 cases is s [116,111,116,101,120,116]
 ·exact Zx _
 ·cases (l.headD v0).1 == 4
  ·exact Zx _
  ·exact hh
theorem iI (s:ByteArray) (l:List W3) (h: ∀v∈l,I v):I (zW s l).1:=by
 unfold zW
 cases (kA s (l.map (·.1))).2 != 0
 rotate_left
 ·rfl
 cases hb:l.any A10L1.bad
 rotate_left
 ·rfl
 cases is s [99,111,97,108,101,115,99,101]
 rotate_left
 ·exact Kx s l h
 cases is s [110,117,108,108,105,102]
 rotate_left
 ·cases A35.tru (bif (l.headD v0).1 == 0 || (l.getD 1 v0).1 == 0 then 0 else 1) (bif (A76.compare (l.headD v0).1 (l.headD v0).2.1 (l.headD v0).2.2 (l.getD 1 v0).1 (l.getD 1 v0).2.1 (l.getD 1 v0).2.2).2 && (A76.compare (l.headD v0).1 (l.headD v0).2.1 (l.headD v0).2.2 (l.getD 1 v0).1 (l.getD 1 v0).2.1 (l.getD 1 v0).2.2).1 == 0 then 1 else 0)
  ·exact bC h
  ·rfl
 cases (l.map (·.1)).any (· ==0)
 ·exact nf s l h hb
 ·rfl
end
end Go.Proofs.YtaiokpmmjbiajaaGreatDoorDx.Ari
namespace Go.Proofs.YtaiokpmmjbiajaaGreatDoorDx
section
open Go Go.Proofs
theorem iS {a b:List Value} {i:Nat} (h:i<a.length):nth (a++b) i=nth a i:=by rw[vM,vM,BC h]
theorem jX (l:List W3) (r:List Value) {j:Nat} (h:j<l.length) (d:Nat) (hd:d<3):nth (qm l++r) (j*3+d)=(vC (l.getD j v0))[d]? :=by
 rw[iS (by rw[zh];omega),k6 d hd l h,AN,Au h];rfl
theorem kC (l:List W3) (r:List Value) {j:Nat} (h:j<l.length):isL (qm l++r) (j*3) [.i .i64,.i .i64,.s]=true:=by
 have h0:=jX l r h 0 (by omega)
 have h1:=jX l r h 1 (by omega)
 have h2:=jX l r h 2 (by omega)
 simp only[isL,isV,Bw,Cj]at h0 ⊢
 rw[h0,h1,h2]
 rfl
theorem ku (l:List W3) (r:List Value) {j:Nat} (h:j<l.length):rdI (qm l++r) (j*3)=(l.getD j v0).1:=by
 have h0:=jX l r h 0 (by omega)
 rw[Cj]at h0
 unfold rdI;rw[h0];rfl
theorem kB (l:List W3) (r:List Value) {j:Nat} (h:j<l.length):rdI (qm l++r) (j*3+1)=(l.getD j v0).2.1:=by
 unfold rdI;rw[jX l r h 1 (by omega)];rfl
theorem kN (l:List W3) (r:List Value) {j:Nat} (h:j<l.length):rdS (qm l++r) (j*3+1+1)=(l.getD j v0).2.2:=by
 unfold rdS;rw[Bw,jX l r h 2 (by omega)];rfl
theorem yA (a b:List W3):qm (a++b)=qm a++qm b:=by unfold qm;rw[List.flatMap_append]
theorem cL (l:List W3) (p:Nat):(qm l).take (p*3)=qm (l.take p):=by
 induction l generalizing p with
 |nil=>simp[qm]
 |cons v l ih=>
  cases p with
  |zero=>simp[qm]
  |succ p=>
   show (vC v++qm l).take _=vC v++qm (l.take p)
   rw[List.take_append,AJ (by show 3≤(p+1)*3;omega),←ih p]
   congr 2
   show (p+1)*3 - 3=p*3
   omega
theorem bN (l:List W3) (p:Nat):(qm l).drop (p*3)=qm (l.drop p):=by
 induction l generalizing p with
 |nil=>simp[qm]
 |cons v l ih=>
  cases p with
  |zero=>simp
  |succ p=>
   show (vC v++qm l).drop _=qm (l.drop p)
   rw[List.drop_append,List.drop_of_length_le (by show 3≤(p+1)*3;omega),←ih p,Bl]
   congr 1
   show (p+1)*3 - 3=p*3
   omega
theorem vD (l:List W3) (r:List Value) {p:Nat} (h:p≤l.length):((qm l++r).drop 0).take (p*3)=qm (l.take p):=by
 rw[AD,Cx (by rw[zh];exact BA _ h),cL]
theorem XT (l:List W3) (r:List Value) {p:Nat} (h:p≤l.length):((qm l++r).drop (p*3)).take ((l.length - p)*3)=qm (l.drop p):=by
 rw[List.drop_append_of_le_length (by rw[zh];exact BA _ h),bN,Cx (by rw[zh,B5];exact Aw _),AJ (by rw[zh,B5];exact Aw _)]
theorem Zw (l:List W3) (v:W3):qm l++[.int .i64 v.1,.int .i64 v.2.1,.string v.2.2]=qm (l++[v]):=by rw[yA];rfl
namespace AMac
def given (v:W3) (st:List W3) (i:Nat):(List W3×Nat) ⊕ Int:=bif Ref.chk v.1 v.2.1 v.2.2 != 0 then .inr 22 else .inl (st++[v],i+1)
def put (p:W3×Int) (st:List W3) (i:Nat):(List W3×Nat) ⊕ Int:=bif p.2 != 0 then .inr p.2 else .inl (st++[p.1],i+1)
def step (row aggs:List W3) (o:O6) (i:Nat) (st:List W3):(List W3×Nat) ⊕ Int:=
 bif o.1==1 then given o.2.2.2 st i else
 bif o.1==2 then given (row.getD o.2.1.toNat v0) st i else
 bif o.1==9 then given (aggs.getD o.2.1.toNat v0) st i else
 bif o.1==3 then(bif eqU o.2.2.1.data.toList [45]then put (A79.xk (st.getD (st.length - 1) v0).1 (st.getD (st.length - 1) v0).2.1) (st.take (st.length - 1)) i else .inl (st.take (st.length - 1)++[Ref.ja (st.getD (st.length - 1) v0)],i+1))else
 bif o.1==4 then put (Ari.wC o.2.2.1 (st.getD (st.length - 2) v0) (st.getD (st.length - 1) v0)) (st.take (st.length - 2)) i else
 bif o.1==5 then .inl (st.take (st.length - 1)++[Ref.yi (((st.getD (st.length - 1) v0).1==0)==(o.2.1==0))],i+1)else
 bif o.1==6 then put (Fit.zW o.2.2.1 (st.drop (st.length - o.2.1.toNat))) (st.take (st.length - o.2.1.toNat)) i else
 bif o.1==10 then put (A75.kn (st.getD (st.length - 1) v0).1 (st.getD (st.length - 1) v0).2.1) (st.take (st.length - 1)) i else
 bif o.1==8 then(bif A35.tru (st.getD (st.length - 1) v0).1 (st.getD (st.length - 1) v0).2.1 then .inl (st.take (st.length - 1),i+1)else .inl (st.take (st.length - 1),o.2.1.toNat))else
 .inl (st,o.2.1.toNat)
structure QK (row aggs:List W3) (o:O6) (i:Nat) (N:Int) (st:List W3):Prop where
 may:Ref.wb o.1 o.2.1 o.2.2.1 i N row.length aggs.length=true
 qI:(Ref.zj o.1 o.2.1).1≤st.length
 small:st.length≤1024
 ist: ∀v∈st,Ari.I v
 irow: ∀v∈row,Ari.I v
 iagg: ∀v∈aggs,Ari.I v
 iop:Ari.I o.2.2.2
theorem xj {l:List W3} (h: ∀v∈l,Ari.I v) (j:Nat):Ari.I (l.getD j v0):=by
 rw[AN]
 cases e:l[j]? with
 |none=>rfl
 |some v=>exact h v (AR e)
theorem Wz {l:List W3} {v:W3} (h: ∀w∈l,Ari.I w) (hv:Ari.I v): ∀w∈l++[v],Ari.I w:=fun w hw=>by
 rcases AT.1 hw with hw|hw
 ·exact h w hw
 ·rw[AL.1 hw];exact hv
theorem fF {row aggs:List W3} {o:O6} {i:Nat} {N:Int} {st st':List W3} {i':Nat} (h:QK row aggs o i N st) (e:step row aggs o i st= .inl (st',i')): ∀v∈st',Ari.I v:=by
 have ht: ∀p,∀v∈st.take p,Ari.I v:=fun p v hv=>h.ist v (List.mem_of_mem_take hv)
 have hd: ∀p,∀v∈st.drop p,Ari.I v:=fun p v hv=>h.ist v (Cy hv)
 have hg:=xj h.ist
 have giv: ∀v,Ari.I v→given v st i= .inl (st',i')→ ∀w∈st',Ari.I w:=fun v hv e=>by
  unfold given at e
  cases q:Ref.chk v.1 v.2.1 v.2.2 != 0<;>rw[q]at e
  ·cases e;exact Wz h.ist hv
  ·cases e
 have pt: ∀(p:W3×Int) (l:List W3),Ari.I p.1→(∀w∈l,Ari.I w)→put p l i= .inl (st',i')→ ∀w∈st',Ari.I w:=fun p l hp hl e=>by
  unfold put at e
  cases q:p.2 != 0<;>rw[q]at e
  ·cases e;exact Wz hl hp
  ·cases e
 unfold step at e
 cases q1:o.1==1<;>rw[q1]at e
 rotate_left
 ·exact giv _ h.iop e
 cases q2:o.1==2<;>rw[q2]at e
 rotate_left
 ·exact giv _ (xj h.irow _) e
 cases q9:o.1==9<;>rw[q9]at e
 rotate_left
 ·exact giv _ (xj h.iagg _) e
 cases q3:o.1==3<;>rw[q3]at e
 rotate_left
 ·cases qt : eqU o.2.2.1.data.toList [45] <;> rw [qt] at e
  ·cases e;exact Wz (ht _) (Ari.W9 _)
  ·exact pt _ _ (Ari.gx _ _) (ht _) e
 cases q4:o.1==4<;>rw[q4]at e
 rotate_left
 ·exact pt _ _ (Ari.oY _ (hg _) (hg _)) (ht _) e
 cases q5:o.1==5<;>rw[q5]at e
 rotate_left
 ·cases e;exact Wz (ht _) (Ari.Zf _)
 cases q6:o.1==6<;>rw[q6]at e
 rotate_left
 ·exact pt _ _ (Ari.iI _ _ (hd _)) (ht _) e
 cases q10:o.1==10<;>rw[q10]at e
 rotate_left
 ·exact pt _ _ (Ari.Yd (hg _)) (ht _) e
 cases q8:o.1==8<;>rw[q8]at e
 ·cases e;exact h.ist
 ·cases qt:A35.tru (st.getD (st.length - 1) v0).1 (st.getD (st.length - 1) v0).2.1<;>rw[qt]at e<;>cases e<;>exact ht _
end AMac
end
end Go.Proofs.YtaiokpmmjbiajaaGreatDoorDx
section
namespace Go.Proofs.YtaiokpmmjbiajaaGreatDoorDx.AHei
open Go
theorem Xi {t:List Int} {a b:Nat} {g:Int} (hb:b<t.length):(t.set a g).getD b 0=if a=b then g else t.getD b 0:=by
 split
 ·rename_i e
  subst e
  rw[AN,List.getElem?_set_self hb];rfl
 ·rename_i e
  exact getD_set_ne e
theorem Xy {t t':List Int} {j:Nat} {g:Int} (h0:0≤g) (hj:j<t.length) (e:put t j g=some t'):t'.length=t.length∧t'.getD j 0=g∧ ∀x,x<t.length→0≤t.getD x 0→t'.getD x 0=t.getD x 0:=by
 unfold put at e
 cases h2:decide (t.getD j 0<0)<;>rw[h2]at e
 ·cases h3 : t.getD j 0 == g <;> rw [h3] at e
  ·cases e
  ·cases e;exact⟨rfl,Ay.1 h3,fun x _ _=>rfl⟩
 ·cases e
  have h2:=AY h2
  refine⟨by simp,by rw[Xi hj,Ax rfl],fun x hx hx0=> ?_⟩
  rw[Xi hx]
  split
  ·rename_i e;subst e;omega
  ·rfl
structure Ok (N lf la:Int) (t:List Int) (i:Nat) (o:O6):Prop where
 may:Ref.wb o.1 o.2.1 o.2.2.1 i N lf la=true
 h0:0≤t.getD i 0
 qI:(Ref.zj o.1 o.2.1).1≤t.getD i 0
 h1:t.getD i 0≤1024
 next:o.1≠7→t.getD (i+1) 0=t.getD i 0+(Ref.zj o.1 o.2.1).2
 jump:o.1=7∨o.1=8→t.getD o.2.1.toNat 0=t.getD i 0+(Ref.zj o.1 o.2.1).2
 pos:0≤t.getD i 0+(Ref.zj o.1 o.2.1).2
theorem step_ok {N lf la:Int} {n:Nat} (hN:N=n) {s s':List Int×Int} {i:Nat} {o:O6} (hi:i<n) (h:Good n s) (e:step N lf la s i o=some s'):Ok N lf la s'.1 i o∧ ∀x,x<n+1→0≤s.1.getD x 0→s'.1.getD x 0=s.1.getD x 0:=by
 unfold step at e
 cases hc:decide (s.1.getD i 0<0)||(!Ref.wb o.1 o.2.1 o.2.2.1 i N lf la||(decide (s.1.getD i 0<(Ref.zj o.1 o.2.1).1)||decide (s.1.getD i 0+(Ref.zj o.1 o.2.1).2>1024)))<;>rw[hc]at e
 rotate_left
 ·cases e
 simp only[AU,Cp,Bx]at hc
 obtain⟨c1,c2,c3,c4⟩:=hc
 obtain⟨n1,n2,n3,n4⟩:=yo (k:=o.1) (n:=o.2.1) (Z2 c2)
 have hg0:0≤s.1.getD i 0+(Ref.zj o.1 o.2.1).2:=by omega
 have hh:=(h.le _ (jM (l:=s.1) (j:=i) (by have:=h.len;omega))).2
 have hlen:=h.len
 simp only[Ah]at e
 obtain⟨t2,e2,rfl⟩:=Ak.1 e
 obtain⟨t1,e1,e3⟩:=qi e2
 generalize hg:s.1.getD i 0+(Ref.zj o.1 o.2.1).2=g at*
 have p1:t1.length=n+1∧((o.1=7∨o.1=8)→t1.getD o.2.1.toNat 0=g∧o.2.1.toNat<n+1)∧ ∀x,x<n+1→0≤s.1.getD x 0→t1.getD x 0=s.1.getD x 0:=by
  cases q:o.1==7||o.1==8<;>rw[q]at e1
  ·cases e1
   refine⟨hlen,fun hk=> ?_,fun x _ _=>rfl⟩
   rcases hk with hk|hk<;>rw[hk]at q<;>cases q
  ·have hk : o.1 = 7 ∨ o.1 = 8 := by simpa using q
   have hb:=xz c2 hk
   have hjn:o.2.1.toNat<n+1:=by omega
   obtain⟨a1,a2,a3⟩:=Xy hg0 (by omega) e1
   exact⟨by omega,fun _=>⟨a2,hjn⟩,fun x hx h0=>a3 x (by omega) h0⟩
 have p2:t2.length=n+1∧(o.1≠7→t2.getD (i+1) 0=g)∧ ∀x,x<n+1→0≤t1.getD x 0→t2.getD x 0=t1.getD x 0:=by
  cases q:o.1==7<;>rw[q]at e3
  ·obtain ⟨a1, a2, a3⟩ := Xy hg0 (by omega) e3
   exact⟨by omega,fun _=>a2,fun x hx h0=>a3 x (by omega) h0⟩
  ·cases e3
   exact⟨p1.1,fun hk=>absurd (Ay.1 q) hk,fun x _ _=>rfl⟩
 have mono: ∀x,x<n+1→0≤s.1.getD x 0→t2.getD x 0=s.1.getD x 0:=fun x hx h0=>by
  have:=p1.2.2 x hx h0
  rw[p2.2.2 x hx (by omega),this]
 have hii:=mono i (by omega) (by omega)
 refine⟨⟨c2,?_,?_,?_,fun hk=> ?_,fun hk=> ?_,?_⟩,mono⟩
 ·show 0≤t2.getD i 0;omega
 ·show _≤t2.getD i 0;omega
 ·show t2.getD i 0≤_;omega
 ·show t2.getD (i + 1) 0 = t2.getD i 0 + _
  rw[p2.2.1 hk,hii];omega
 ·show t2.getD o.2.1.toNat 0 = t2.getD i 0 + _
  obtain⟨b1,b2⟩:=p1.2.1 hk
  rw[p2.2.2 _ b2 (by omega),b1,hii];omega
 ·show 0≤t2.getD i 0+_;omega
theorem Ok.mono {N lf la:Int} {n:Nat} (hN:N=n) {t u:List Int} {i:Nat} {o:O6} (hi:i<n) (h:Ok N lf la t i o) (hm: ∀x,x<n+1→0≤t.getD x 0→u.getD x 0=t.getD x 0):Ok N lf la u i o:=by
 have h0:=h.h0;have h1:=h.h1;have hn:=h.qI;have hp:=h.pos
 have e:=hm i (by omega) h0
 refine⟨h.may,by omega,by omega,by omega,fun hk=> ?_,fun hk=> ?_,by omega⟩
 ·have g := h.next hk
  rw[hm (i+1) (by omega) (by omega),g,e]
 ·have g := h.jump hk
  have hb:=xz h.may hk
  rw[hm _ (by omega) (by omega),g,e]
theorem Yf {N lf la:Int} {n:Nat} (hN:N=n): ∀(l:List O6) (i:Nat) (s t:List Int×Int),i+l.length=n→Good n s→run N lf la i l s=some t→(∀j (hj:j<l.length),Ok N lf la t.1 (i+j) l[j])∧ ∀x,x<n+1→0≤s.1.getD x 0→t.1.getD x 0=s.1.getD x 0
 |[],i,s,t,hl,hg,e=>by cases e;exact⟨fun j hj=>absurd hj (Cz _),fun x _ _=>rfl⟩
 |o::l,i,s,t,hl,hg,e=>by
  rw[AK]at hl
  unfold run at e
  obtain⟨u,e1,e2⟩:=qi e
  obtain⟨a1,a2⟩:=step_ok hN (show i<n by omega) hg e1
  obtain⟨b1,b2⟩:=Yf hN l (i+1) u t (by omega) (yQ hg e1) e2
  refine⟨fun j hj=> ?_,fun x hx h0=> ?_⟩
  ·cases j with
   |zero=>exact Ok.mono hN (by omega) a1 b2
   |succ j=>
    have:=b1 j (by simpa using hj)
    rw[show i+(j+1)=i+1+j by omega]
    exact this
  ·have := a2 x hx h0
   rw[b2 x hx (by omega),this]
theorem QB {lf la:Int} {l:List O6} (h:(kh lf la l).2=true):l.length≤4096∧ ∃T:List Int,T.getD 0 0=0∧T.getD l.length 0=1∧ ∀j (hj:j<l.length),Ok l.length lf la T j l[j]:=by
 unfold kh at h
 cases h0:(l.length:Int)==0<;>rw[h0]at h
 rotate_left
 ·cases h
 cases h1:decide ((l.length:Int)>4096)<;>rw[h1]at h
 rotate_left
 ·cases h
 cases h2:j4 l.length lf la l (first l.length,0)<;>rw[h2]at h
 ·cases h
 have h1:=of_decide_eq_false h1
 have h:((j9 l.length lf la l (first l.length,0)).getD l.length 0==1)=true:=h
 refine⟨by omega,j9 l.length lf la l (first l.length,0),?_,Ay.1 h,?_⟩
 ·unfold j4 at h2
  unfold j9
  cases e:run l.length lf la 0 l (first l.length,0)with
  |none=>rw[e]at h2;cases h2
  |some t=>
   have:=(Yf rfl l 0 _ t (by omega) (wW _) e).2 0 (by omega) (Int.le_refl 0)
   exact this
 ·unfold j4 at h2
  unfold j9
  cases e:run l.length lf la 0 l (first l.length,0)with
  |none=>rw[e]at h2;cases h2
  |some t=>
   have:=(Yf rfl l 0 _ t (by omega) (wW _) e).1
   intro j hj
   have g:=this j hj
   rw[AQ]at g
   exact g
end Go.Proofs.YtaiokpmmjbiajaaGreatDoorDx.AHei
namespace Go.Proofs.YtaiokpmmjbiajaaGreatDoorDx.AMac
open Go
theorem KK {row aggs:List W3} {o:O6} {i:Nat} {N:Int} {st st':List W3} {i':Nat} (h:QK row aggs o i N st) (e:step row aggs o i st= .inl (st',i')):
  (st'.length:Int)=st.length+(Ref.zj o.1 o.2.1).2∧((o.1≠7∧i'=i+1)∨((o.1=7∨o.1=8)∧i'=o.2.1.toNat)):=by
 have hneed:=h.qI
 have kY:=h.may
 have giv: ∀v,given v st i= .inl (st',i')→st'.length=st.length+1∧i'=i+1:=fun v e=>by
  unfold given at e
  cases q:Ref.chk v.1 v.2.1 v.2.2 != 0<;>rw[q]at e
  ·cases e;exact⟨by simp,rfl⟩
  ·cases e
 have pt: ∀(p:W3×Int) (m:Nat),m≤st.length→put p (st.take m) i= .inl (st',i')→st'.length=m+1∧i'=i+1:=fun p m hm e=>by
  unfold put at e
  cases q:p.2 != 0<;>rw[q]at e
  ·cases e;exact⟨by rw[AO,BQ];simp;omega,rfl⟩
  ·cases e
 have Qa: ∀p:Nat,p≤st.length→(st.take p).length=p:=fun p hp=>by rw[BQ];omega
 unfold step at e
 cases q1:o.1==1<;>rw[q1]at e
 rotate_left
 ·obtain ⟨a, b⟩ := giv _ e
  rw[Ay.1 q1]
  exact⟨by show (st'.length:Int)=st.length+1;omega,.inl ⟨by decide,b⟩⟩
 cases q2:o.1==2<;>rw[q2]at e
 rotate_left
 ·obtain ⟨a, b⟩ := giv _ e
  rw[Ay.1 q2]
  exact⟨by show (st'.length:Int)=st.length+1;omega,.inl ⟨by decide,b⟩⟩
 cases q9:o.1==9<;>rw[q9]at e
 rotate_left
 ·obtain ⟨a, b⟩ := giv _ e
  rw[Ay.1 q9]
  exact⟨by show (st'.length:Int)=st.length+1;omega,.inl ⟨by decide,b⟩⟩
 cases q3:o.1==3<;>rw[q3]at e
 rotate_left
 ·rw [Ay.1 q3] at hneed ⊢
  have hn:(1:Int)≤st.length:=hneed
  have:st'.length=st.length - 1+1∧i'=i+1:=by
   cases qt:eqU o.2.2.1.data.toList [45]<;>rw[qt]at e
   ·cases e;exact⟨by rw[AO,Qa _ (by omega)];rfl,rfl⟩
   ·exact pt _ _ (by omega) e
  exact⟨by show (st'.length:Int)=st.length+0;omega,.inl ⟨by decide,this.2⟩⟩
 cases q4:o.1==4<;>rw[q4]at e
 rotate_left
 ·rw [Ay.1 q4] at hneed ⊢
  have hn:(2:Int)≤st.length:=hneed
  obtain⟨a,b⟩:=pt _ _ (by omega) e
  exact⟨by show (st'.length:Int)=st.length+ -1;omega,.inl ⟨by decide,b⟩⟩
 cases q5:o.1==5<;>rw[q5]at e
 rotate_left
 ·rw [Ay.1 q5] at hneed ⊢
  have hn:(1:Int)≤st.length:=hneed
  cases e
  exact⟨by rw[AO,Qa _ (by omega)];show ((st.length - 1+1:Nat):Int)=st.length+0;omega,.inl ⟨by decide,rfl⟩⟩
 cases q6:o.1==6<;>rw[q6]at e
 rotate_left
 ·obtain ⟨m1, m2⟩ := AHei.Z2 kY (Ay.1 q6)
  rw[Ay.1 q6]at hneed ⊢
  have hn:o.2.1≤st.length:=hneed
  obtain⟨a,b⟩:=pt _ _ (by omega) e
  refine⟨?_,.inl ⟨by decide,b⟩⟩
  show (st'.length:Int)=st.length+IntKind.wrap .i64 (1 - o.2.1)
  rw[kc (by omega) (by omega)];omega
 cases q10:o.1==10<;>rw[q10]at e
 rotate_left
 ·rw [Ay.1 q10] at hneed ⊢
  have hn:(1:Int)≤st.length:=hneed
  obtain⟨a,b⟩:=pt _ _ (by omega) e
  exact⟨by show (st'.length:Int)=st.length+0;omega,.inl ⟨by decide,b⟩⟩
 cases q8:o.1==8<;>rw[q8]at e
 ·cases e
  have hk:o.1=7:=by
   by_cases h7:o.1=7
   ·exact h7
   ·have e7 : (o.1 == 7 || o.1 == 8) = false := by rw [q8, Ao.2 h7]; rfl
    unfold Ref.wb at kY
    rw[q1,q2,q9,q3,q4,q5,q6,q10,e7]at kY
    cases kY
  rw[hk]
  exact⟨by show (st.length:Int)=st.length+0;omega,.inr ⟨.inl rfl,rfl⟩⟩
 ·rw [Ay.1 q8] at hneed ⊢
  have hn:(1:Int)≤st.length:=hneed
  cases qt:A35.tru (st.getD (st.length - 1) v0).1 (st.getD (st.length - 1) v0).2.1<;>rw[qt]at e<;>cases e
  ·exact⟨by rw[Qa _ (by omega)];show ((st.length - 1:Nat):Int)=st.length+ -1;omega,.inr ⟨.inr rfl,rfl⟩⟩
  ·exact⟨by rw[Qa _ (by omega)];show ((st.length - 1:Nat):Int)=st.length+ -1;omega,.inl ⟨by decide,rfl⟩⟩
def run (row aggs:List W3) (ops:List O6):Nat→Nat→List W3→List W3 ⊕ Int
 |0,_,st=> .inl st
 |f+1,i,st=>match ops[i]? with
  |none=> .inl st
  |some o=>match step row aggs o i st with
   | .inl p=>run row aggs ops f p.2 p.1
   | .inr e=> .inr e
def wB (row aggs:List W3) (ops:List O6):W3×Int:=
 bif AHei.kK row.length aggs.length ops != 0 then(v0,120)else match run row aggs ops ops.length 0 []with
  | .inl st=>(st.getD 0 v0,0)
  | .inr e=>(v0,e)
def qC (k:Int) (st:List W3) (j:List Value):List Value:=
 bif k==1 then[]else bif k==2 then[]else bif k==9 then[]else bif k==3 then[]else bif k==4 then[]else bif k==5 then[]else bif k==6 then[]else bif k==10 then[]else
 bif k==8 then vC (st.getD (st.length - 1) v0)++j else j
theorem V7 {k:Int} {st:List W3} {j:List Value} (h:j.all qp=true):(qC k st j).all qp=true:=by
 unfold qC
 cases k==1
 rotate_left
 ·rfl
 cases k==2
 rotate_left
 ·rfl
 cases k==9
 rotate_left
 ·rfl
 cases k==3
 rotate_left
 ·rfl
 cases k==4
 rotate_left
 ·rfl
 cases k==5
 rotate_left
 ·rfl
 cases k==6
 rotate_left
 ·rfl
 cases k==10
 rotate_left
 ·rfl
 cases k==8
 ·exact h
 ·show (vC _ ++ j).all qp = true
  rw[BP,h];rfl
def w9 (row aggs:List W3) (ops:List O6):Nat→Nat→List W3→List Value→(List W3×List Value) ⊕ Int
 |0,_,st,j=> .inl (st,j)
 |f+1,i,st,j=>match ops[i]? with
  |none=> .inl (st,j)
  |some o=>match step row aggs o i st with
   | .inl p=>w9 row aggs ops f p.2 p.1 (qC o.1 st j)
   | .inr e=> .inr e
theorem JQ (row aggs:List W3) (ops:List O6): ∀(f i:Nat) (st:List W3) (j:List Value),(match w9 row aggs ops f i st j with| .inl p=>(.inl p.1:List W3 ⊕ Int)| .inr e=> .inr e)=run row aggs ops f i st
 |0,i,st,j=>rfl
 |f+1,i,st,j=>by
  unfold w9 run
  cases ops[i]? with
  |none=>rfl
  |some o=>
   dsimp only[]
   cases step row aggs o i st with
   |inl p=>exact JQ row aggs ops f p.2 p.1 _
   |inr e=>rfl
structure At (row aggs:List W3) (ops:List O6) (T:List Int) (i:Nat) (st:List W3):Prop where
 le:i≤ops.length
 len:(st.length:Int)=T.getD i 0
 ist: ∀v∈st,Ari.I v
theorem At.j4 {row aggs:List W3} {ops:List O6} {T:List Int} {i:Nat} {st:List W3} (h:At row aggs ops T i st) (hi:i<ops.length) (hT: ∀j (hj:j<ops.length),AHei.Ok ops.length row.length aggs.length T j ops[j]) (hr: ∀v∈row,Ari.I v) (ha: ∀v∈aggs,Ari.I v) (ho: ∀o∈ops,Ari.I o.2.2.2):QK row aggs ops[i] i ops.length st:=by
 have hk:=hT i hi
 have:=h.len;have:=hk.qI;have:=hk.h1
 exact⟨hk.may,by omega,by omega,h.ist,hr,ha,ho _ (Bf hi)⟩
theorem At.next {row aggs:List W3} {ops:List O6} {T:List Int} {i:Nat} {st:List W3} (h:At row aggs ops T i st) (hi:i<ops.length) (hT: ∀j (hj:j<ops.length),AHei.Ok ops.length row.length aggs.length T j ops[j]) (hf:QK row aggs ops[i] i ops.length st) {st':List W3} {i':Nat} (e:step row aggs ops[i] i st= .inl (st',i')):i<i'∧At row aggs ops T i' st':=by
 have hk:=hT i hi
 obtain⟨a,b⟩:=KK hf e
 have hl:=h.len
 rcases b with⟨b1,rfl⟩|⟨b1,rfl⟩
 ·exact⟨by omega,⟨hi,by rw[hk.next b1];omega,fF hf e⟩⟩
 ·have hb := AHei.xz hk.may b1
  exact⟨by omega,⟨by omega,by rw[hk.jump b1];omega,fF hf e⟩⟩
end Go.Proofs.YtaiokpmmjbiajaaGreatDoorDx.AMac
namespace Go.Proofs.YtaiokpmmjbiajaaGreatDoorDx.AMac
open Go
def gd (n nr na:Nat) (cs rs as_:List Value):Bool:=
 wP n (Int.ofNat n) cs&&(kV nr (Int.ofNat nr) rs&&(kV na (Int.ofNat na) as_&&((opsOf cs).all (fun o=>inR o.2.2.2.2.1)&&((qj rs).all (fun v=>inR v.2.1)&&((qj as_).all (fun v=>inR v.2.1)&&AHei.kK nr na (opsOf cs)==0)))))
def ZT (cs rs as_:List Value):Bool:=match w9 (qj rs) (qj as_) (opsOf cs) (opsOf cs).length 0 [] []with
 | .inl _=>false
 | .inr _=>true
def err (cs rs as_:List Value):Int:=match w9 (qj rs) (qj as_) (opsOf cs) (opsOf cs).length 0 [] []with
 | .inl _=>0
 | .inr e=>e
def ZY (cs rs as_:List Value):List Value:=match w9 (qj rs) (qj as_) (opsOf cs) (opsOf cs).length 0 [] []with
 | .inl p=>qm p.1++p.2
 | .inr _=>[]
theorem yx (s:ByteArray):Fit.kA s []=(0,100):=by
 unfold Fit.kA Fit.rP
 simp only[show ([]:List Int).any A14L0.bad=false from rfl,show A14.num []=false from rfl,show A14.txt []=false from rfl,show A14.sub []=false from rfl,show ((A53.res []).2&&decide (Int.ofNat ([]:List Int).length≥1))=false from rfl,show (Int.ofNat ([]:List Int).length==2&&(A53.res []).2)=false from rfl,show ([]:List Int).foldl (fun b k=>b&&A14L1.ok1 k) (decide (Int.ofNat ([]:List Int).length≥1))=false from rfl,show (Int.ofNat ([]:List Int).length==1)=false from rfl,Ah,Bool.cond_self]
theorem Ku (s:ByteArray):Fit.zW s []=(v0,100):=by
 unfold Fit.zW
 rw[List.map_nil,yx];rfl
end Go.Proofs.YtaiokpmmjbiajaaGreatDoorDx.AMac
namespace Go.Proofs.YtaiokpmmjbiajaaGreatDoorDx.AMac
open Go
def gd0 (n nr na:Nat) (cs rs as_:List Value):Bool:=
 wP n (Int.ofNat n) cs&&(kV nr (Int.ofNat nr) rs&&(kV na (Int.ofNat na) as_&&((opsOf cs).all (fun o=>inR o.2.2.2.2.1)&&((qj rs).all (fun v=>inR v.2.1)&&(qj as_).all (fun v=>inR v.2.1)))))
end Go.Proofs.YtaiokpmmjbiajaaGreatDoorDx.AMac
namespace Go.Proofs.YtaiokpmmjbiajaaGreatDoorDx.AMac
open Go
def Xs (row aggs:List W3) (ops:List O6):Bool×Int:=
 bif(ops.length:Int)==0 then(true,0)else((wB row aggs ops).2==0&&A35.tru (wB row aggs ops).1.1 (wB row aggs ops).1.2.1,(wB row aggs ops).2)
end Go.Proofs.YtaiokpmmjbiajaaGreatDoorDx.AMac
end
namespace Go.Proofs.YtaiokpmmjbiajaaGreatDoorDx
section
open Go Go.Proofs
namespace A16L0
abbrev sp:List (FuncId×Spec):=[(33,yW),(79,A79.spec),(109,A109.spec),(110,yC fun t x y=>ve (Ari.wC t x y)),(10,A10n.spec),(75,A75.spec),(35,A35.spec)]
theorem zZ: ∀p∈sp,qu Tryz.prog La p.1 p.2:=by simpa[sp]using⟨rM,A79.qg,A109.qg,A110.qg,A10n.qg,A75.qg,A35.qg⟩
def qP (e:Int):KX:=⟨[(6,.pointer (some ⟨6,0,none⟩)),(7,.int .i64 e)],[[.int .i64 0,.int .i64 0,.string ⟨#[]⟩]]⟩
def stS (n nr na:Nat) (i:Nat) (st:List W3) (qC:List Value):KX:=A16L0R.stA n nr na st.length i (qm st++qC)
theorem xx (n nr na i:Nat) (l:List W3) (v:W3):A16L0R.stA n nr na (l.length+1) i (qm l++[.int .i64 v.1,.int .i64 v.2.1,.string v.2.2])=stS n nr na i (l++[v]) []:=by
 unfold stS
 rw[A0,←Zw,AO];rfl
theorem dn (n:Nat):decide ((0:Int)≤(n:Int))=true:=Al (by omega)
theorem vu (l:List W3) (h:l.length<6000000000000):kV l.length (Int.ofNat l.length) (qm l)=true:=by
 unfold kV
 simp only[Ag,decide_true,vy,zh,A5,AB,true_and]
 exact h
def res (n nr na:Nat) (qC:List Value):(List W3×Nat) ⊕ Int→Ex×KX
 | .inl p=>(.normal,stS n nr na p.2 p.1 qC)
 | .inr e=>(.ret,qP e)
set_option maxHeartbeats 0 in
theorem fV (ops:List O6) (row aggs:List W3) (hl:ops.length≤4096) {i:Nat} (hi:i<ops.length) {st:List W3} {qC:List Value} (hj:qC.all qp=true) (hf:AMac.QK row aggs ops[i] i ops.length st):
  zN A16L0R.cfg sp [] 16 0 (stK 52 6 [(0,zK ops),(1,qm row),(2,qm aggs)] (stS ops.length row.length aggs.length i st qC)) (zv 6 100 52 A16L0R.kp A16L0R.cr)=
  some (res ops.length row.length aggs.length (AMac.qC ops[i].1 st qC) (AMac.step row aggs ops[i] i st)):=by
 unfold stS
 rw[A16L0R.round]
 dsimp only[]
 have h1:decide ((i:Int)<(ops.length:Int))=true:=Al (by omega)
 have h2:=geI i
 have h3:Nat.blt i ops.length=true:=by rw[AB];exact hi
 have h4:(0+i*6)=i*6:=by omega
 have h5:=wrI i (by omega)
 have hv1:isV (zK ops) (i*6+1) (.i .i64)=true:=by unfold isV;rw[vl ops hi 1 (by omega)];rfl
 have i1: ∀n:Nat,Int.ofNat n=(n:Int):=fun _=>rfl
 have hsc:(qm st++qC).all qp=true:=by rw[BP,qO,hj];rfl
 have YD:=hf.small
 have big: ∀p:Nat,p≤1024→Nat.ble (p+1) 200000000000000=true∧Nat.ble ((p+1)*32) 200000000000000=true:=fun p hp=>⟨by rw[Az];omega,by rw[Az];omega⟩
 have len: ∀p:Nat,p≤st.length→Nat.ble (p*3) (qm st++qC).length=true:=fun p hp=>by rw[Az,AO,zh];omega
 have Qa: ∀p:Nat,p≤st.length→(st.take p).length=p:=fun p hp=>by rw[BQ];omega
 have sc3: ∀(l:List W3) (a b:Int) (c:ByteArray),(qm l++[Value.int .i64 a,.int .i64 b,.string c]).all qp=true:=fun l a b c=>by rw[BP,qO];rfl
 have fin: ∀(p:Nat) (hp:p≤st.length) (j:Nat) (v:W3),A16L0R.stA ops.length row.length aggs.length (p+1) j (qm (st.take p)++[.int .i64 v.1,.int .i64 v.2.1,.string v.2.2])=stS ops.length row.length aggs.length j (st.take p++[v]) []:=fun p hp j v=>by
  have:=xx ops.length row.length aggs.length j (st.take p) v
  rw[Qa p hp]at this;exact this
 obtain⟨kY,hneed,_,hist,eX,eI,X4⟩:=hf
 simp only[h1,h2,h3,h4,h5,hv1,xV ops hi,XU ops hi,YC ops hi,bV ops hi,YR ops hi,aJ ops hi,bp ops hi,Av,Ai,AF,AE,hsc,i1]
 generalize ops[i]=o at*
 obtain⟨k,n,t,vk,vn,vs⟩:=o
 dsimp only[]at kY hneed X4 ⊢
 have om:st.take st.length=st:=Bo
 have t0:=vD st qC (Aw _)
 rw[om]at t0
 have b0:=big st.length YD
 have l0:=len st.length (Aw _)
 have top1:1≤st.length→Nat.blt (st.length - 1) st.length=true∧Nat.ble (st.length - 1) st.length=true:=fun h=>⟨by rw[AB];omega,by rw[Az];omega⟩
 have w1:1≤st.length→IntKind.wrap .i64 ((st.length:Int) - 1)=((st.length - 1:Nat):Int):=fun h=>by rw[kc (by omega) (by omega)];omega
 have giv: ∀v:W3,(bif Ref.chk v.1 v.2.1 v.2.2 != 0 then some (Ex.ret,qP 22)else some (.normal,A16L0R.stA ops.length row.length aggs.length (st.length+1) ((i+1:Nat):Int) (qm st++[.int .i64 v.1,.int .i64 v.2.1,.string v.2.2])))=some (res ops.length row.length aggs.length [] (AMac.given v st i)):=fun v=>by
  unfold AMac.given
  cases Ref.chk v.1 v.2.1 v.2.2 != 0
  ·rw[xx];rfl
  ·rfl
 have pt: ∀(p:W3×Int) (q:Nat),q≤st.length→(bif p.2 != 0 then some (Ex.ret,qP p.2)else some (.normal,A16L0R.stA ops.length row.length aggs.length (q+1) ((i+1:Nat):Int) (qm (st.take q)++[.int .i64 p.1.1,.int .i64 p.1.2.1,.string p.1.2.2])))=some (res ops.length row.length aggs.length [] (AMac.put p (st.take q) i)):=fun p q hq=>by
  unfold AMac.put
  cases p.2 != 0
  ·rw[fin q hq];rfl
  ·rfl
 unfold AMac.step AMac.qC
 dsimp only[]
 cases q1:k==1
 rotate_left
 ·simp only [Ai, t0, b0.1, b0.2, l0, AQ, sc3]
  exact giv (vk,vn,vs)
 cases q2:k==2
 rotate_left
 ·obtain rfl := Ay.1 q2
  have hm:0≤n∧n<row.length:=by
   have:(decide (n≥0)&&decide (n<(row.length:Int)))=true:=kY
   simp only[Ag,As]at this
   omega
  obtain⟨N,rfl⟩:=AG hm.1
  have hN:N<row.length:=by omega
  have a1:Nat.blt N row.length=true:=by rw[AB];exact hN
  have a2:=kC row [] hN
  have a3:=ku row [] hN
  have a4:=kB row [] hN
  have a5:=kN row [] hN
  rw[A0]at a2 a3 a4 a5
  simp only[dn,Av,a1,AQ,a2,a3,a4,a5,Ai,Ah,t0,b0.1,b0.2,l0,sc3]
  exact giv (row.getD N v0)
 cases q9:k==9
 rotate_left
 ·obtain rfl := Ay.1 q9
  have hm:0≤n∧n<aggs.length:=by
   have:(decide (n≥0)&&decide (n<(aggs.length:Int)))=true:=kY
   simp only[Ag,As]at this
   omega
  obtain⟨N,rfl⟩:=AG hm.1
  have hN:N<aggs.length:=by omega
  have a1:Nat.blt N aggs.length=true:=by rw[AB];exact hN
  have a2:=kC aggs [] hN
  have a3:=ku aggs [] hN
  have a4:=kB aggs [] hN
  have a5:=kN aggs [] hN
  rw[A0]at a2 a3 a4 a5
  simp only[dn,Av,a1,AQ,a2,a3,a4,a5,Ai,Ah,t0,b0.1,b0.2,l0,sc3]
  exact giv (aggs.getD N v0)
 have one:1≤st.length→ ∀z:Nat,True:=fun _ _=>trivial
 cases q3:k==3
 rotate_left
 ·obtain rfl := Ay.1 q3
  have hm:1≤st.length:=by have:(1:Int)≤st.length:=hneed;omega
  have hp:st.length - 1<st.length:=by omega
  have t1:=vD st qC (AV hp)
  have b1:=big (st.length - 1) (by omega)
  simp only[w1 hm,dn,Av,(top1 hm).1,(top1 hm).2,AQ,Bq,kC st qC hp,ku st qC hp,kB st qC hp,kN st qC hp,Ai,Ah,AF,t1,b1.1,b1.2,len _ (AV hp),sc3]
  cases eqU t.data.toList [45]
  ·simp only [Ah]
   have:=fin (st.length - 1) (AV hp) (i+1) (Ref.ja (st.getD (st.length - 1) v0))
   exact Bg (fun z=>some (Ex.normal,z)) this
  ·exact pt (A79.xk (st.getD (st.length - 1) v0).1 (st.getD (st.length - 1) v0).2.1) (st.length - 1) (AV hp)
 cases q4:k==4
 rotate_left
 ·obtain rfl := Ay.1 q4
  have hm:2≤st.length:=by have:(2:Int)≤st.length:=hneed;omega
  have hp:st.length - 1<st.length:=by omega
  have hp2:st.length - 2<st.length:=by omega
  have t1:=vD st qC (AV hp2)
  have b1:=big (st.length - 2) (by omega)
  have w2:IntKind.wrap .i64 (((st.length - 1:Nat):Int) - 1)=((st.length - 2:Nat):Int):=by rw[kc (by omega) (by omega)];omega
  have a1:Nat.blt (st.length - 2) (st.length - 1)=true:=by rw[AB];omega
  have a2:Nat.ble (st.length - 2) (st.length - 1)=true:=by rw[Az];omega
  have g1:inR (st.getD (st.length - 2) v0).2.1=true:=AMac.xj hist _
  have g2:inR (st.getD (st.length - 1) v0).2.1=true:=AMac.xj hist _
  simp only[w1 (by omega),w2,dn,Av,(top1 (by omega)).1,(top1 (by omega)).2,a1,a2,AQ,Bq,kC st qC hp,ku st qC hp,kB st qC hp,kN st qC hp,kC st qC hp2,ku st qC hp2,kB st qC hp2,kN st qC hp2,g1,g2,Ai,Ah,AF,t1,b1.1,b1.2,len _ (AV hp2),sc3]
  exact pt (Ari.wC t (st.getD (st.length - 2) v0) (st.getD (st.length - 1) v0)) (st.length - 2) (AV hp2)
 cases q5:k==5
 rotate_left
 ·obtain rfl := Ay.1 q5
  have hm:1≤st.length:=by have:(1:Int)≤st.length:=hneed;omega
  have hp:st.length - 1<st.length:=by omega
  have t1:=vD st qC (AV hp)
  have b1:=big (st.length - 1) (by omega)
  simp only[w1 hm,dn,Av,(top1 hm).1,(top1 hm).2,AQ,Bq,kC st qC hp,ku st qC hp,kB st qC hp,kN st qC hp,Ai,Ah,AF,t1,b1.1,b1.2,len _ (AV hp),sc3]
  have:=fin (st.length - 1) (AV hp) (i+1)
  cases ((st.getD (st.length - 1) v0).1==0)==(n==0)
  ·exact Bg (fun z=>some (Ex.normal,z)) (this (1,0,⟨#[]⟩))
  ·exact Bg (fun z=>some (Ex.normal,z)) (this (1,1,⟨#[]⟩))
 cases q6:k==6
 rotate_left
 ·obtain rfl := Ay.1 q6
  obtain⟨m1,m2⟩:=AHei.Z2 kY rfl
  obtain⟨N,rfl⟩:=AG m1
  have hm:N≤st.length:=by have:(N:Int)≤st.length:=hneed;omega
  have hp:st.length - N≤st.length:=by omega
  have w3:IntKind.wrap .i64 ((st.length:Int) - (N:Int))=((st.length - N:Nat):Int):=by rw[kc (by omega) (by omega)];omega
  have t1:=vD st qC hp
  have t2:=XT st qC hp
  have b1:=big (st.length - N) (by omega)
  have a1:Nat.ble (st.length - N) st.length=true:=by rw[Az];omega
  have a2:Nat.ble ((st.length - N)*3+(st.length - (st.length - N))*3) (qm st++qC).length=true:=by rw[Az,AO,zh];omega
  have hlen:(st.drop (st.length - N)).length=st.length - (st.length - N):=B5
  have a3:=vu (st.drop (st.length - N)) (by rw[hlen];omega)
  rw[hlen]at a3
  have a4:((st.drop (st.length - N)).all fun v=>inR v.snd.fst)=true:=Ap.2 fun v hv=>hist v (Cy hv)
  have a3':kV (st.length - (st.length - N)) ((st.length - (st.length - N):Nat):Int) (qm (st.drop (st.length - N)))=true:=a3
  simp only[w3,dn,Av,AQ,Bq,t1,t2,a1,a2,a3',a4,zn,qO,Ai,Ah,AF,AE,b1.1,b1.2,len _ hp,sc3]
  exact pt (Fit.zW t (st.drop (st.length - N))) (st.length - N) hp
 cases q10:k==10
 rotate_left
 ·obtain rfl := Ay.1 q10
  have hm:1≤st.length:=by have:(1:Int)≤st.length:=hneed;omega
  have hp:st.length - 1<st.length:=by omega
  have t1:=vD st qC (AV hp)
  have b1:=big (st.length - 1) (by omega)
  have g2:inR (st.getD (st.length - 1) v0).2.1=true:=AMac.xj hist _
  simp only[w1 hm,dn,Av,(top1 hm).1,(top1 hm).2,AQ,Bq,kC st qC hp,ku st qC hp,kB st qC hp,kN st qC hp,g2,Ai,Ah,AF,t1,b1.1,b1.2,len _ (AV hp),sc3]
  exact pt (A75.kn (st.getD (st.length - 1) v0).1 (st.getD (st.length - 1) v0).2.1) (st.length - 1) (AV hp)
 cases q8:k==8
 ·have hn: ∃N:Nat,n=N:=by
   by_cases h7:k=7
   ·obtain ⟨m1, m2⟩ := AHei.xz kY (.inl h7)
    exact⟨n.toNat,by omega⟩
   ·have e7 : (k == 7 || k == 8) = false := by rw [q8, Ao.2 h7]; rfl
    unfold Ref.wb at kY
    rw[q1,q2,q9,q3,q4,q5,q6,q10,e7]at kY
    cases kY
  obtain⟨N,rfl⟩:=hn
  simp only[Ah,Ai]
  rfl
 ·obtain rfl := Ay.1 q8
  obtain⟨m1,m2⟩:=AHei.xz kY (.inr rfl)
  obtain⟨N,rfl⟩:=AG (show 0≤n by omega)
  have hm:1≤st.length:=by have:(1:Int)≤st.length:=hneed;omega
  have hp:st.length - 1<st.length:=by omega
  have eg:qm st++qC=qm (st.take (st.length - 1))++(vC (st.getD (st.length - 1) v0)++qC):=by
   rw[←List.append_assoc]
   congr 1
   have:st=st.take (st.length - 1)++[st.getD (st.length - 1) v0]:=by
    rw[AN,Au hp]
    show st=st.take (st.length - 1)++[st[st.length - 1]]
    rw[List.take_append_getElem hp,Nat.sub_add_cancel hm,Bo]
   conv=>lhs;rw[this]
   rw[yA];rfl
  simp only[w1 hm,dn,Av,(top1 hm).1,(top1 hm).2,AQ,Bq,kC st qC hp,ku st qC hp,kB st qC hp,Ai,Ah,AF]
  have hst: ∀j:Nat,A16L0R.stA ops.length row.length aggs.length (st.length - 1) j (qm st++qC)=stS ops.length row.length aggs.length j (st.take (st.length - 1)) (vC (st.getD (st.length - 1) v0)++qC):=fun j=>by
   unfold stS;rw[Qa _ (AV hp),eg]
  cases A35.tru (st.getD (st.length - 1) v0).1 (st.getD (st.length - 1) v0).2.1
  ·exact Bg (fun z=>some (Ex.normal,z)) (hst N)
  ·exact Bg (fun z=>some (Ex.normal,z)) (hst (i+1))
end A16L0
end
end Go.Proofs.YtaiokpmmjbiajaaGreatDoorDx
namespace Go.Proofs.YtaiokpmmjbiajaaGreatDoorDx.AAll
section
open Go Go.Proofs
def val (row:List W3) (ops:List O6):W3:=(AMac.wB row [] ops).1
def bad (row:List W3) (ops:List O6):Bool:=(AMac.wB row [] ops).2 != 0
def err (row:List W3):List (List O6)→Int
 |[]=>0
 |ops::l=>bif bad row ops then(AMac.wB row [] ops).2 else err row l
def Ya (rs cs:List Value):List Value:=qm ((xn cs).map (val (qj rs)))
theorem WD (row:List W3): ∀l:List (List O6),(err row l != 0)=l.any (bad row)
 |[]=>rfl
 |ops::l=>by
  unfold err
  rw[BX,←WD row l]
  cases h:bad row ops
  ·rfl
  ·unfold bad at h
   simp only[Ai,h,B2]
theorem K2 {row:List W3} (ret:Int→Ex×KX) (fin:Ex×KX): ∀l:List (List O6),wE (fun(_:Unit) ops=>bif bad row ops then .inr (ret (AMac.wB row [] ops).2)else .inl ()) (fun _=>fin) () l=bif err row l != 0 then ret (err row l)else fin
 |[]=>rfl
 |ops::l=>by
  rw[WD]
  unfold wE err
  rw[BX]
  cases h:bad row ops
  ·simp only [Ah, Bb]
   rw[K2 ret fin l,WD]
  ·rfl
def acc (row:List W3) (l:List (List O6)) (j:Nat):List W3:=(l.take j).map (val row)
theorem Q7 (row:List W3) (l:List (List O6)) {j:Nat} (h:j<l.length):acc row l (j+1)=acc row l j++[val row l[j]]:=by
 unfold acc
 rw[←List.take_append_getElem h,BH];rfl
theorem an (row:List W3) (l:List (List O6)) {j:Nat} (h:j≤l.length):(acc row l j).length=j:=by
 unfold acc
 rw[AM,BQ];omega
theorem aF (row:List W3) (l:List (List O6)):acc row l l.length=l.map (val row):=by unfold acc;rw[Bo]
theorem snoc (l:List W3) (v:W3):qm l++[.int .i64 v.1,.int .i64 v.2.1,.string v.2.2]=qm (l++[v]):=Zw l v
theorem Ju (l:List (List O6)) {j:Nat} (h:j<l.length):nth ((l.map kZ).drop (((j:Int)).toNat*1)) 0=some (kZ l[j]):=by
 rw[vM,BY,Av,Br,BN,Cj,Au h];rfl
theorem t1 (l:List (List O6)) {j:Nat} (h:j<l.length):isV ((l.map kZ).drop (((j:Int)).toNat*1)) 0 .t=true:=by unfold isV;rw[Ju l h];rfl
theorem t2 (l:List (List O6)) {j:Nat} (h:j<l.length):rdZ ((l.map kZ).drop (((j:Int)).toNat*1)) 0=6:=by unfold rdZ;rw[Ju l h];rfl
theorem t3 (l:List (List O6)) {j:Nat} (h:j<l.length):rdN ((l.map kZ).drop (((j:Int)).toNat*1)) 0=l[j].length:=by unfold rdN;rw[Ju l h];rfl
theorem t4 (l:List (List O6)) {j:Nat} (h:j<l.length):rdC ((l.map kZ).drop (((j:Int)).toNat*1)) 0=zK l[j]:=by unfold rdC;rw[Ju l h];rfl
theorem fA {ops:List O6} {row:List W3} (l0:ops.length<2199023255552) (l1:row.length<6000000000000) (i0: ∀o∈ops,inR o.2.2.2.2.1=true) (i1: ∀v∈row,inR v.2.1=true):
  AMac.gd0 ops.length row.length 0 (zK ops) (qm row) []=true:=by
 unfold AMac.gd0
 rw[zo,zn]
 simp only[Ag,Ap]
 exact⟨jj ops l0,A16L0.vu row l1,rfl,i0,i1,fun v hv=>absurd hv (AZ)⟩
theorem r1 (row:List W3):Nat.ble (0+row.length*3) (qm row).length=true:=by rw[Az,zh];omega
theorem r2 (row:List W3):((qm row).drop 0).take (row.length*3)=qm row:=by rw[AD,AJ (by rw[zh];exact Aw _)]
end
end Go.Proofs.YtaiokpmmjbiajaaGreatDoorDx.AAll
namespace Go.Proofs.YtaiokpmmjbiajaaGreatDoorDx
section
open Go Go.Proofs Go.ChangeShapes Go.WideShapes Go.Deep
set_option maxRecDepth 100000 in
theorem KV {α:Type} [Inhabited α] {f:α→List Value} {z:Nat} (hz:0<z) (hf: ∀x,(f x).length=z) {t te:TypeId} (ht:Tryz.prog.underlying t=some (.slice te)) (hc:Tryz.prog.cellsOf te=z)
  {H:Type} {enc:TypeId×Value→H} {W:World} {good:α→DataW H→Prop} (one: ∀{m:Nat} {cs:List Value} {x:DataW H×List MemPlace},DataW.trod enc Tryz.prog W 0 (fun _=>true) true m te cs=some x→ ∃v:α,cs.length=z∧(∀(i:Nat) a b,(f v)[i]? =some a→cs[i]? =some b→Told W a b)∧good v x.1)
  (hLa:La W) {fuel:Nat} {cs:List Value} {x:DataW H×List MemPlace} (h:DataW.trod enc Tryz.prog W 0 (fun _=>true) true fuel t cs=some x):
  ∃(y:Value) (l:List α),cs=[y]∧Told W (.func (.yield z) ⟨[.int .i64 (Int.ofNat l.length)]⟩ ⟨l.flatMap f⟩) y∧(l=[]∨ ∃elems spare,x.1= .slice elems spare∧elems.length=l.length∧ ∀(i:Nat) v d,l[i]? =some v→elems[i]? =some d→good v d):=by
 obtain⟨cs2,el2,fr2,hh2⟩:=Q8 hLa
 rcases open_slice ht h with⟨hcs,_⟩|⟨a,len,cap,m,n,D,Pl,hcs,_,hl,_,hmm,hx,hel⟩
 ·exact⟨_,[],hcs,.nil z none 2 cs2 el2 fr2 hh2,.inl rfl⟩
 have hm:m=cap:=by rw[hmm,Ax rfl]
 subst hm
 rw[hc]at hel
 have each: ∀i,i<m→ ∃p:α×List Value,(∀j,j<z→W.cell? ((a.add (i*z)).add j)=p.2[j]?)∧p.2.length=z∧(∀(j:Nat) u v,(f p.1)[j]? =some u→p.2[j]? =some v→Told W u v)∧good p.1 (D i):=fun i hi=>by
  obtain⟨cs',h1,h2⟩:=hel i hi
  obtain⟨v,h3,h4,h5⟩:=one h2
  exact⟨(v,cs'),fun j hj=>(World.cells?_some h1).2.2 j hj,h3,h4,h5⟩
 obtain⟨g,hg⟩:=choose_lt each
 have hll:((List.range len).map fun i=>(g i).1).length=len:=by simp
 refine⟨_,(List.range len).map fun i=>(g i).1,hcs,?_,.inr ⟨_,_,Bg Prod.fst hx,by simp,fun i v d hv hd=> ?_⟩⟩
 rotate_left
 ·rw [BN] at hv hd
  obtain⟨i',hi',rfl⟩:=Ak.1 hv
  rw[hi']at hd
  cases hd
  have hil:=(AH.1 hi').1
  have:i'=i:=by have:=(AH.1 hi').2;simpa using this.symm
  subst this
  rw[List.length_range]at hil
  exact(hg i' (by omega)).2.2.2
 rcases Nat.eq_zero_or_pos m with h0|h0
 ·subst h0
  obtain rfl:len=0:=by omega
  exact .nil z (some a) 2 cs2 el2 fr2 hh2
 ·obtain ⟨q1, q2, _, _⟩ := hg 0 h0
  have hx0:(g 0).2[0]? =some ((g 0).2[0]'(by omega)):=Au (by omega)
  have Xb:a.spot=none:=by
   have:=q1 0 hz
   rw[hx0]at this
   simp only[Nat.zero_mul,Addr.add,if_true]at this
   exact World.cell?_spot this
  obtain⟨k,d0,sp⟩:=a
  simp only at Xb
  subst Xb
  have hcell: ∀i j,i<m→j<z→W.cell? ⟨k,d0+i*z+j,none⟩=(g i).2[j]? :=fun i j hi hj=>by rw[←VP];exact(hg i hi).1 j hj
  have oQ: ∃cs el fr,W.heap[k]? =some (.cells cs el fr):=by
   have hc:=hcell 0 0 h0 hz
   rw[hx0]at hc
   unfold World.cell? at hc
   split at hc
   ·rename_i cs el fr hh;exact⟨cs,el,fr,hh⟩
   ·cases hc
  obtain⟨cs,el,fr,hh⟩:=oQ
  have hat: ∀i j,i<m→j<z→cs[d0+i*z+j]? =(g i).2[j]? :=fun i j hi hj=>by
   rw[←hcell i j hi hj]
   simp[World.cell?,hh]
  have hsz:d0+m*z≤cs.size:=by
   have h1:=hat (m - 1) (z - 1) (by omega) (by omega)
   rw[Au (by rw[(hg (m - 1) (by omega)).2.1];omega)]at h1
   have h2:=(Be.1 h1).1
   have h3:m*z=(m - 1)*z+z:=by
    rw[←Nat.succ_mul];congr 1;omega
   omega
  have hfl:(((List.range len).map fun i=>(g i).1).flatMap f).length=len*z:=by rw[yO hf,hll]
  have:=BA z hl
  have key:Told W (.func (.yield z) ⟨[.int .i64 (len:Int)]⟩ ⟨((List.range len).map fun i=>(g i).1).flatMap f⟩) (.slice (some ⟨k,d0,none⟩) len m):=by
   refine .sl z len _ k d0 m cs el fr hh hl hsz (by omega) fun i x y hx hy=> ?_
   have hlt:=(AH.1 hx).1
   rw[hfl]at hlt
   have hj:i / z<len:=by rw[Nat.div_lt_iff_lt_mul hz];exact hlt
   have hr:=Nat.mod_lt i hz
   have hi:i / z*z+i % z=i:=by rw[Nat.mul_comm];exact Nat.div_add_mod i z
   have hx2:=Km hf (i % z) hr ((List.range len).map fun i=>(g i).1) (j:=i / z) (by simpa using hj)
   rw[vM,hi,hx]at hx2
   have hfj:((List.range len).map fun i=>(g i).1)[i / z]'(by simpa using hj)=(g (i / z)).1:=by simp
   rw[hfj]at hx2
   rw[show i+d0=d0+i / z*z+i % z by omega,hat (i / z) (i % z) (by omega) hr]at hy
   exact(hg (i / z) (by omega)).2.2.1 (i % z) x y hx2.symm hy
  rw[hll]
  exact key
theorem cm {W:World} {l cs:List Value} (e:cs=l) (h:l.all qp=true): ∀(i:Nat) a b,l[i]? =some a→cs[i]? =some b→Told W a b:=fun i a b ha hb=>by
 rw[e,ha]at hb
 cases hb
 have:=Ap.1 h a (AR ha)
 cases a<;>first|exact .int _ _|exact .string _|cases this
def ma {H:Type} (ops:List O6) (d:DataW H):Prop:=(∀o∈ops,inR o.2.2.2.2.1=true)∧(ops=[]∨ ∃elems spare,d= .slice elems spare∧elems.length=ops.length)
set_option maxRecDepth 100000 in
theorem pW {H:Type} {enc:TypeId×Value→H} {W:World} (hLa:La W) {m:Nat} {cs:List Value} {x:DataW H×List MemPlace} (h:DataW.trod enc Tryz.prog W 0 (fun _=>true) true m 37 cs=some x):
  ∃v:List O6,cs.length=1∧(∀(i:Nat) a b,[kZ v][i]? =some a→cs[i]? =some b→Told W a b)∧ma v x.1:=by
 obtain⟨y,l,rfl,h1,h2⟩:=KV (f:=Qr) (z:=6) (by decide) (fun _=>rfl) Tryz.underlying37 (by kernel_rfl) (good:=fun(o:O6) _=>inR o.2.2.2.2.1=true) (fun h=>by
  obtain⟨o,e,g⟩:=rE h
  exact⟨o,by rw[e];rfl,cm e rfl,g⟩) hLa h
 refine⟨l,rfl,fun i a b ha hb=> ?_,?_,?_⟩
 ·cases i with
  |zero=>cases ha;cases hb;exact h1
  |succ i=>simp at ha
 ·rcases h2 with rfl | ⟨elems, spare, _, e2, e3⟩
  ·exact fun o ho=>absurd ho (AZ)
  ·intro o ho
   obtain⟨i,hi,rfl⟩:=List.getElem_of_mem ho
   exact e3 i _ elems[i] (Au hi) (Au (by omega))
 ·rcases h2 with rfl | ⟨elems, spare, e1, e2, _⟩
  ·exact .inl rfl
  ·exact .inr ⟨elems,spare,e1,e2⟩
theorem ZR {H:Type} {P:Program} {e:TypeId}: ∀{l:List (DataW H)} {d:DataW H} {n:Nat},d∈l→n∈d.weights P e→n∈DataW.weightsAll P e l
 |x::l,d,n,hd,hn=>by
  simp only[DataW.weightsAll,AT]
  rcases AX.1 hd with rfl|hd
  ·exact .inl hn
  ·exact .inr (ZR hd hn)
end
section
open Go Go.Proofs
namespace A16L0
def jq (nr na:Nat) (row:List Value):KX:=⟨[(6,.pointer (some ⟨6,0,none⟩)),(8,.pointer (some ⟨7,0,none⟩))],[[.int .i64 0,.int .i64 0,.string ⟨#[]⟩],[.slice (some ⟨8,0,none⟩) 1 3,.slice (some ⟨1,0,none⟩) nr 3,.slice (some ⟨2,0,none⟩) na 3,.int .i64 0],row]⟩
theorem eJ (ops:List O6) (row aggs:List W3) {v:W3} {qC:List Value} (hj:qC.all qp=true):
  zN A16L0R.cfg sp [] 16 0 (stK 52 6 [(0,zK ops),(1,qm row),(2,qm aggs)] (stS ops.length row.length aggs.length ops.length [v] qC)) (zv 6 100 52 A16L0R.kp A16L0R.cr)=
  some (.exit 0,jq row.length aggs.length (qm [v]++qC)):=by
 unfold stS
 rw[A16L0R.round]
 dsimp only[]
 have h1:decide ((ops.length:Int)<Int.ofNat ops.length)=false:=An (by show¬(ops.length:Int)<(ops.length:Int);omega)
 have hsc:(qm [v]++qC).all qp=true:=by rw[BP,qO,hj];rfl
 simp only[h1,hsc,Ah,AE,AF,Ai]
 rfl
def ZD (n nr na:Nat) (k:Int):(List W3×Nat) ⊕ Int→Ex×KX
 | .inl p=>(.normal,bif k==7 then A16L0N.stA n nr na p.2 else stS n nr na p.2 p.1 [])
 | .inr e=>(.ret,qP e)
set_option maxHeartbeats 0 in
theorem dM (ops:List O6) (row aggs:List W3) (hl:ops.length≤4096) {i:Nat} (hi:i<ops.length) (hf:AMac.QK row aggs ops[i] i ops.length []):
  zN A16L0N.cfg sp [] 16 0 (stK 52 6 [(0,zK ops),(1,qm row),(2,qm aggs)] (A16L0N.stA ops.length row.length aggs.length i)) (zv 6 100 52 A16L0N.kp A16L0N.cr)=
  some (ZD ops.length row.length aggs.length ops[i].1 (AMac.step row aggs ops[i] i [])):=by
 rw[A16L0N.round]
 dsimp only[]
 have h1:decide ((i:Int)<(ops.length:Int))=true:=Al (by omega)
 have h2:=geI i
 have h3:Nat.blt i ops.length=true:=by rw[AB];exact hi
 have h4:(0+i*6)=i*6:=by omega
 have h5:=wrI i (by omega)
 have hv1:isV (zK ops) (i*6+1) (.i .i64)=true:=by unfold isV;rw[vl ops hi 1 (by omega)];rfl
 have i1: ∀n:Nat,Int.ofNat n=(n:Int):=fun _=>rfl
 obtain⟨kY,hneed,_,hist,eX,eI,X4⟩:=hf
 simp only[h1,h2,h3,h4,h5,hv1,xV ops hi,XU ops hi,YC ops hi,bV ops hi,YR ops hi,aJ ops hi,bp ops hi,Av,Ai,AF,AE,i1]
 generalize ops[i]=o at*
 obtain⟨k,n,t,vk,vn,vs⟩:=o
 dsimp only[]at kY hneed X4 ⊢
 have giv: ∀(k:Int) (v:W3),(k==7)=false→(bif Ref.chk v.1 v.2.1 v.2.2 != 0 then some (Ex.ret,qP 22)else some (.normal,A16L0R.stA ops.length row.length aggs.length 1 ((i+1:Nat):Int) [.int .i64 v.1,.int .i64 v.2.1,.string v.2.2]))=some (ZD ops.length row.length aggs.length k (AMac.given v [] i)):=fun k v hk=>by
  unfold AMac.given
  cases Ref.chk v.1 v.2.1 v.2.2 != 0
  ·show _ = some (Ex.normal, bif k == 7 then _ else _)
   rw[hk]
   exact Bg (fun z=>some (Ex.normal,z)) (xx ops.length row.length aggs.length (i+1) [] v)
  ·rfl
 unfold AMac.step
 dsimp only[]
 cases q1:k==1
 rotate_left
 ·obtain rfl := Ay.1 q1
  simp only[Ai]
  exact giv 1 (vk,vn,vs) rfl
 cases q2:k==2
 rotate_left
 ·obtain rfl := Ay.1 q2
  have hm:0≤n∧n<row.length:=by
   have:(decide (n≥0)&&decide (n<(row.length:Int)))=true:=kY
   simp only[Ag,As]at this
   omega
  obtain⟨N,rfl⟩:=AG hm.1
  have hN:N<row.length:=by omega
  have a1:Nat.blt N row.length=true:=by rw[AB];exact hN
  have a2:=kC row [] hN
  have a3:=ku row [] hN
  have a4:=kB row [] hN
  have a5:=kN row [] hN
  rw[A0]at a2 a3 a4 a5
  simp only[dn,Av,a1,AQ,a2,a3,a4,a5,Ai,Ah]
  exact giv 2 (row.getD N v0) rfl
 cases q9:k==9
 rotate_left
 ·obtain rfl := Ay.1 q9
  have hm:0≤n∧n<aggs.length:=by
   have:(decide (n≥0)&&decide (n<(aggs.length:Int)))=true:=kY
   simp only[Ag,As]at this
   omega
  obtain⟨N,rfl⟩:=AG hm.1
  have hN:N<aggs.length:=by omega
  have a1:Nat.blt N aggs.length=true:=by rw[AB];exact hN
  have a2:=kC aggs [] hN
  have a3:=ku aggs [] hN
  have a4:=kB aggs [] hN
  have a5:=kN aggs [] hN
  rw[A0]at a2 a3 a4 a5
  simp only[dn,Av,a1,AQ,a2,a3,a4,a5,Ai,Ah]
  exact giv 9 (aggs.getD N v0) rfl
 cases q3:k==3
 rotate_left
 ·obtain rfl := Ay.1 q3
  have:(1:Int)≤0:=hneed
  omega
 cases q4:k==4
 rotate_left
 ·obtain rfl := Ay.1 q4
  have:(2:Int)≤0:=hneed
  omega
 cases q5:k==5
 rotate_left
 ·obtain rfl := Ay.1 q5
  have:(1:Int)≤0:=hneed
  omega
 cases q6:k==6
 rotate_left
 ·obtain rfl := Ay.1 q6
  obtain⟨m1,m2⟩:=AHei.Z2 kY rfl
  have:n≤0:=hneed
  obtain rfl:n=0:=by omega
  have e:AMac.put (Fit.zW t (([]:List W3).drop (([]:List W3).length - (0:Int).toNat))) (([]:List W3).take (([]:List W3).length - (0:Int).toNat)) i= .inr 100:=by
   rw[List.drop_nil,AMac.Ku];rfl
  simp only[Ai,Ah,e]
  rfl
 cases q10:k==10
 rotate_left
 ·obtain rfl := Ay.1 q10
  have:(1:Int)≤0:=hneed
  omega
 cases q8:k==8
 rotate_left
 ·obtain rfl := Ay.1 q8
  have:(1:Int)≤0:=hneed
  omega
 have hk:k=7:=by
  by_cases h7:k=7
  ·exact h7
  ·have e7 : (k == 7 || k == 8) = false := by rw [q8, Ao.2 h7]; rfl
   unfold Ref.wb at kY
   rw[q1,q2,q9,q3,q4,q5,q6,q10,e7]at kY
   cases kY
 subst hk
 obtain⟨m1,m2⟩:=AHei.xz kY (.inl rfl)
 obtain⟨N,rfl⟩:=AG (show 0≤n by omega)
 rfl
section
variable {Step:KX→Ex→KX→Prop} {ops:List O6} {row aggs:List W3} {T:List Int}
theorem Yc (hT: ∀j (hj:j<ops.length),AHei.Ok ops.length row.length aggs.length T j ops[j]) (hT1:T.getD ops.length 0=1) (hr: ∀v∈row,Ari.I v) (ha: ∀v∈aggs,Ari.I v) (ho: ∀o∈ops,Ari.I o.2.2.2)
  (hn: ∀i (hi:i<ops.length) st qC,qC.all qp=true→AMac.QK row aggs ops[i] i ops.length st→Step (stS ops.length row.length aggs.length i st qC) (res ops.length row.length aggs.length (AMac.qC ops[i].1 st qC) (AMac.step row aggs ops[i] i st)).1 (res ops.length row.length aggs.length (AMac.qC ops[i].1 st qC) (AMac.step row aggs ops[i] i st)).2)
  (he: ∀v qC,qC.all qp=true→Step (stS ops.length row.length aggs.length ops.length [v] qC) (.exit 0) (jq row.length aggs.length (qm [v]++qC))):
  ∀(f i:Nat) (st:List W3) (qC:List Value),ops.length≤i+f→qC.all qp=true→AMac.At row aggs ops T i st→match AMac.w9 row aggs ops f i st qC with
   | .inl p=>zI Step (stS ops.length row.length aggs.length i st qC) (.exit 0) (jq row.length aggs.length (qm p.1++p.2))∧p.1.length=1
   | .inr e=>zI Step (stS ops.length row.length aggs.length i st qC) .ret (qP e):=by
 have fin: ∀(i:Nat) (st:List W3) (qC:List Value),i=ops.length→qC.all qp=true→AMac.At row aggs ops T i st→zI Step (stS ops.length row.length aggs.length i st qC) (.exit 0) (jq row.length aggs.length (qm st++qC))∧st.length=1:=fun i st qC h hj hat=>by
  subst h
  have:=hat.len
  rw[hT1]at this
  match st,this with
  |[v],_=>exact⟨.stop (by simp) (he v qC hj),rfl⟩
  |[],h=>cases h
  |_::_::l,h=>rw[AK,AK]at h;omega
 intro f
 induction f with
 |zero=>
  intro i st qC h hj hat
  have:=hat.le
  exact fin i st qC (by omega) hj hat
 |succ f ih=>
  intro i st qC h hj hat
  unfold AMac.w9
  by_cases hi:i<ops.length
  ·rw [Au hi]
   dsimp only[]
   have hf:=hat.j4 hi hT hr ha ho
   have hs:=hn i hi st qC hj hf
   cases e:AMac.step row aggs ops[i] i st with
   |inr x=>rw[e]at hs;exact .stop (by simp[res]) hs
   |inl p=>
    rw[e]at hs
    obtain⟨a,b⟩:=hat.next hi hT hf e
    have:=ih p.2 p.1 (AMac.qC ops[i].1 st qC) (by omega) (AMac.V7 hj) b
    dsimp only[]
    cases e2:AMac.w9 row aggs ops f p.2 p.1 (AMac.qC ops[i].1 st qC)with
    |inl q=>rw[e2]at this;exact⟨.next hs this.1,this.2⟩
    |inr x=>rw[e2]at this;exact .next hs this
  ·have := hat.le
   rw[List.getElem?_eq_none (by omega)]
   exact fin i st qC (by omega) hj hat
theorem WB (hT: ∀j (hj:j<ops.length),AHei.Ok ops.length row.length aggs.length T j ops[j]) (hT1:T.getD ops.length 0=1) (hr: ∀v∈row,Ari.I v) (ha: ∀v∈aggs,Ari.I v) (ho: ∀o∈ops,Ari.I o.2.2.2)
  (hn: ∀i (hi:i<ops.length) st qC,qC.all qp=true→AMac.QK row aggs ops[i] i ops.length st→Step (stS ops.length row.length aggs.length i st qC) (res ops.length row.length aggs.length (AMac.qC ops[i].1 st qC) (AMac.step row aggs ops[i] i st)).1 (res ops.length row.length aggs.length (AMac.qC ops[i].1 st qC) (AMac.step row aggs ops[i] i st)).2)
  (he: ∀v qC,qC.all qp=true→Step (stS ops.length row.length aggs.length ops.length [v] qC) (.exit 0) (jq row.length aggs.length (qm [v]++qC)))
  (h0: ∀i (hi:i<ops.length),AMac.QK row aggs ops[i] i ops.length []→Step (A16L0N.stA ops.length row.length aggs.length i) (ZD ops.length row.length aggs.length ops[i].1 (AMac.step row aggs ops[i] i [])).1 (ZD ops.length row.length aggs.length ops[i].1 (AMac.step row aggs ops[i] i [])).2):
  ∀(f i:Nat),ops.length≤i+f→AMac.At row aggs ops T i []→match AMac.w9 row aggs ops f i [] []with
   | .inl p=>zI Step (A16L0N.stA ops.length row.length aggs.length i) (.exit 0) (jq row.length aggs.length (qm p.1++p.2))∧p.1.length=1
   | .inr e=>zI Step (A16L0N.stA ops.length row.length aggs.length i) .ret (qP e):=by
 have no: ∀i,i=ops.length→AMac.At row aggs ops T i []→False:=fun i h hat=>by
  subst h
  have:=hat.len
  rw[hT1]at this
  cases this
 intro f
 induction f with
 |zero=>
  intro i h hat
  have:=hat.le
  exact(no i (by omega) hat).elim
 |succ f ih=>
  intro i h hat
  unfold AMac.w9
  by_cases hi:i<ops.length
  ·rw [Au hi]
   dsimp only[]
   have hf:=hat.j4 hi hT hr ha ho
   have hs:=h0 i hi hf
   cases e:AMac.step row aggs ops[i] i []with
   |inr x=>rw[e]at hs;exact .stop (by simp[ZD]) hs
   |inl p=>
    rw[e]at hs
    obtain⟨a,b⟩:=hat.next hi hT hf e
    obtain⟨i',hi'⟩: ∃x,p.2=x:=⟨_,rfl⟩
    obtain⟨st',hst⟩: ∃x,p.1=x:=⟨_,rfl⟩
    obtain⟨p1,p2⟩:=p
    subst hi' hst
    dsimp only[]at a b hs ⊢
    unfold ZD at hs
    dsimp only[]at hs
    cases h7:ops[i].1==7
    ·rw [h7] at hs
     have hj:AMac.qC ops[i].1 [] []=[]:=by
      have hm:=hf.may
      have hnd:=hf.qI
      generalize ops[i]=o at*
      obtain⟨k,n,t,v⟩:=o
      dsimp only[]at hm hnd h7 ⊢
      unfold AMac.qC
      cases h8:k==8
      ·simp only[Ah,Bool.cond_self]
      ·obtain rfl := Ay.1 h8
       have:(1:Int)≤0:=hnd
       omega
     rw[hj]
     have:=Yc hT hT1 hr ha ho hn he f p2 p1 [] (by omega) rfl b
     cases e2:AMac.w9 row aggs ops f p2 p1 []with
     |inl q=>rw[e2]at this;exact⟨.next hs this.1,this.2⟩
     |inr x=>rw[e2]at this;exact .next hs this
    ·rw [h7] at hs
     have h7':=Ay.1 h7
     have hp1:p1=[]:=by
      obtain⟨l,_⟩:=AMac.KK hf e
      rw[h7']at l
      have:(p1.length:Int)=0+0:=l
      exact List.eq_nil_of_length_eq_zero (by omega)
     subst hp1
     have hj:AMac.qC ops[i].1 [] []=[]:=by rw[h7'];rfl
     rw[hj]
     have:=ih p2 (by omega) b
     cases e2:AMac.w9 row aggs ops f p2 [] []with
     |inl q=>rw[e2]at this;exact⟨.next hs this.1,this.2⟩
     |inr x=>rw[e2]at this;exact .next hs this
  ·have := hat.le
   exact(no i (by omega) hat).elim
end
def D:KD:=⟨52,6,100,[0,6,7,8,9],[0,1,2],fun s=>match s.T.get 6 with
 |some (.pointer (some r))=>(match s.T.get 8 with
  |some (.pointer (some p))=>[(r.block,true),(p.block,false)]
  |_=>[])
 |_=>[],fun x ro=>match x.vs,x.cars,ro with
 |[(0,.slice (some ⟨0,0,none⟩) n 6),(6,.pointer (some ⟨6,0,none⟩)),(7,.int .i64 0),(8,.pointer (some ⟨7,0,none⟩)),(9,.int .i64 0)],[[.int .i64 0,.int .i64 0,.string ⟨⟨[]⟩⟩],[.slice none 0 0,.slice (some ⟨1,0,none⟩) nr 3,.slice (some ⟨2,0,none⟩) na 3,.int .i64 0]],[(0,cs),(1,rs),(2,as_)]=>
  .qI (AMac.gd n nr na cs rs as_) (.br (AMac.ZT cs rs as_) (.out (.ret,qP (AMac.err cs rs as_))) (.out (.exit 0,jq nr na (AMac.ZY cs rs as_))))
 |_,_,_=> .no⟩
def lp:LpK:=⟨16,5,0,D⟩
theorem mo {n nr na:Nat} {cs rs as_:List Value} (h:AMac.gd n nr na cs rs as_=true): ∃(ops:List O6) (row aggs:List W3),cs=zK ops∧rs=qm row∧as_=qm aggs∧n=ops.length∧nr=row.length∧na=aggs.length∧(∀o∈ops,Ari.I o.2.2.2)∧(∀v∈row,Ari.I v)∧(∀v∈aggs,Ari.I v)∧(AHei.kh row.length aggs.length ops).2=true:=by
 unfold AMac.gd at h
 simp only[Ag,Ap]at h
 obtain⟨h1,h2,h3,h4,h5,h6,h7⟩:=h
 obtain⟨_,_,a1,a2⟩:=jd h1
 obtain⟨_,_,b1,b2⟩:=zM h2
 obtain⟨_,_,c1,c2⟩:=zM h3
 refine⟨opsOf cs,qj rs,qj as_,a1,b1,c1,a2.symm,b2.symm,c2.symm,h4,h5,h6,?_⟩
 unfold AHei.kK at h7
 rw[b2,c2]
 cases e:(AHei.kh nr na (opsOf cs)).2
 ·rw[e]at h7;cases h7
 ·rfl
theorem qE:zq Tryz.prog La 4 lp:=by
 refine⟨by kernel_rfl,fun c base I hP hn hG hI hIL x ro ex y e=> ?_⟩
 obtain⟨vs,cars⟩:=x
 simp only[lp,D]at e ⊢
 split at e
 ·rename_i n nr na cs rs as_
  obtain⟨g1,g2⟩:=GT.qh e
  obtain⟨ops,row,aggs,rfl,rfl,rfl,rfl,rfl,rfl,ho,hr,ha,hc⟩:=mo g1
  obtain⟨hl,T,T0,T1,hT⟩:=AHei.QB hc
  have key:=WB (Step:= @zy (zL base) c base I (qV Tryz.prog 16 0) 52 6 100 [(0,zK ops),(1,qm row),(2,qm aggs)]) hT T1 hr ha ho
   (fun i hi st qC hj hf=>stepT qf qd zZ (by simp) hP hn hG hI hIL (fV ops row aggs hl hi hj hf))
   (fun v qC hj=>stepT qf qd zZ (by simp) hP hn hG hI hIL (eJ ops row aggs hj))
   (fun i hi hf=>stepT qf qd zZ (by simp) hP hn hG hI hIL (dM ops row aggs hl hi hf)) ops.length 0 (by omega) ⟨by omega,by rw[T0];rfl,fun v hv=>absurd hv (AZ)⟩
  unfold AMac.ZT AMac.err AMac.ZY at g2
  rw[zo,zn,zn]at g2
  cases hrun:AMac.w9 row aggs ops ops.length 0 [] []with
  |inl p=>rw[hrun]at key g2;cases g2;exact key.1
  |inr x=>rw[hrun]at key g2;cases g2;exact key
 ·cases e
end A16L0
namespace A55L0
noncomputable def cfg:Cfg:=zw Tryz.prog 4 (gpT []) (ltT 4 [])
def stA (n:Nat) (lf la i:Int):KX:=⟨[(0,.slice (some ⟨0,0,none⟩) n 6),(1,.int .i64 lf),(2,.int .i64 la),(11,.slice (some ⟨0,0,none⟩) n 6),(12,.int .i64 (Int.ofNat n)),(13,.int .i64 i)],[]⟩
def kp:Ex→List Nat
 | .normal=>[0,1,2,11,12,13]
 | .exit _=>[0,1,2]
 | .ret=>[6]
def cr:Ex→St→List (Nat×Bool):=fun _ _=>[]
theorem round (n:Nat) (lf la i:Int) (cs:List Value):zN cfg [] [] 55 0 (stK 45 4 [(0,cs)] (stA n lf la i)) (zv 4 100 45 kp cr)=(let x1:=0+(i.toNat*6);let x2:=IntKind.wrap .i64 (i+1);let o1:Option (Ex×KX):=(some (.normal,⟨[(0,.slice (some ⟨0,0,none⟩) n 6),(1,.int .i64 lf),(2,.int .i64 la),(11,.slice (some ⟨0,0,none⟩) n 6),(12,.int .i64 (Int.ofNat n)),(13,.int .i64 x2)],[]⟩));let o2:Option (Ex×KX):=(bif((rdI cs x1)==9)then(bif decide ((rdI cs (x1+1))≥la)then(some (.ret,⟨[(6,.int .i64 120)],[]⟩))else o1)else o1);(bif decide (i<(Int.ofNat n))then(bif decide (0≤i)then(bif Nat.blt i.toNat n then(bif isL cs x1 [(.i .i64),(.i .i64),.s,(.i .i64),(.i .i64),.s]then(bif((rdI cs x1)==2)then(bif decide ((rdI cs (x1+1))≥lf)then(some (.ret,⟨[(6,.int .i64 120)],[]⟩))else o2)else o2)else none)else none)else none)else(some (.exit 0,⟨[(0,.slice (some ⟨0,0,none⟩) n 6),(1,.int .i64 lf),(2,.int .i64 la)],[]⟩)))):=by kernel_rfl
def qP:KX:=⟨[(6,.int .i64 120)],[]⟩
def stE (n:Nat) (lf la:Int):KX:=⟨[(0,.slice (some ⟨0,0,none⟩) n 6),(1,.int .i64 lf),(2,.int .i64 la)],[]⟩
def D:KD:=⟨45,4,100,[0,1,2,11,12,13],[0],fun _=>[],fun x ro=>match x.vs,x.cars,ro with
 |[(0,.slice (some ⟨0,0,none⟩) n 6),(1,.int .i64 lf),(2,.int .i64 la),(11,.slice (some ⟨0,0,none⟩) n' 6),(12,.int .i64 m),(13,.int .i64 0)],[],[(0,cs)]=>
  .qI (Nat.beq n' n&&wP n m cs) (.br ((opsOf cs).any (AHei.bad lf la)) (.out (.ret,qP)) (.out (.exit 0,stE n lf la)))
 |_,_,_=> .no⟩
def lp:LpK:=⟨55,2,0,D⟩
theorem qE:zq Tryz.prog La 4 lp:=by
 refine⟨by kernel_rfl,fun c base I hP hn hG hI hIL x ro ex y e=> ?_⟩
 obtain⟨vs,cars⟩:=x
 simp only[lp,D]at e ⊢
 split at e
 ·rename_i n lf la n' m cs
  obtain⟨g1,g2⟩:=GT.qh e
  simp only[Ag]at g1
  obtain rfl:=Am g1.1
  obtain⟨rfl,hn2,h4,h5⟩:=jd g1.2
  generalize opsOf cs=l at h4 h5 g2
  subst h4 h5
  have key:=zA (Step:= @zy (zL base) c base I (qV Tryz.prog 55 0) 45 4 100 [(0,zK l)]) (step:=fun(_:Unit) (o:O6)=>bif AHei.bad lf la o then .inr (.ret,qP)else .inl ()) (fin:=fun _=>(.exit 0,stE l.length lf la)) (st:=fun _ j=>stA l.length lf la j) (l:=l) (fun s=>by simp) (fun s a r h=>by cases hb:AHei.bad lf la a<;>rw[hb]at h<;>cases h<;>simp) (fun _ j hj=>by
    have h1:=ltI hj
    have h2:=geI j
    have h3:=j7 hj
    have h4:(0+((j:Int)).toNat*6)=j*6:=by simp
    have h5:=wrI j (by omega)
    have hr:=round l.length lf la j (zK l)
    dsimp only[]at hr
    simp only[h1,h2,h3,h4,h5,xV l hj,XU l hj,YC l hj,Ai]at hr
    unfold AHei.bad
    generalize l[j]=o at hr
    revert hr
    cases o.1==2<;>cases o.1==9<;>cases decide (o.2.1≥lf)<;>cases decide (o.2.1≥la)<;>exact fun hr=>stepT qf qd (by simp) (by simp) hP hn hG hI hIL hr) (fun _=>by
    have h1:=j6 l.length
    have hr:=round l.length lf la l.length (zK l)
    dsimp only[]at hr
    simp only[h1,Ah]at hr
    exact stepT qf qd (by simp) (by simp) hP hn hG hI hIL hr) l.length 0 () (by omega)
  rw[AD,xK]at key
  cases hb:l.any (AHei.bad lf la)with
  |true=>rw[GT.eval,hb]at g2;cases g2;rw[hb]at key;exact key
  |false=>rw[GT.eval,hb]at g2;cases g2;rw[hb]at key;exact key
 ·cases e
end A55L0
namespace A105L0
noncomputable def cfg:Cfg:=zw Tryz.prog 4 (gpT []) (ltT 4 [])
def stA (n m:Nat) (k i:Int) (row:List Value):KX:=⟨[(0,.slice (some ⟨0,0,none⟩) n 6),(4,.int .i64 k),(5,.pointer (some ⟨6,0,none⟩)),(27,.int .i64 (Int.ofNat m)),(28,.int .i64 i)],[[.slice (some ⟨7,0,none⟩) m 1],row]⟩
def kp:Ex→List Nat
 | .normal=>[0,4,5,27,28]
 | .exit _=>[0,4,5]
 |_=>[]
def cr:Ex→St→List (Nat×Bool):=fun _ s=>match s.T.get 5 with
 |some (.pointer (some p))=>match zS s.h p.block with
  |some [.slice (some q) _ _]=>[(p.block,false),(q.block,true)]
  |_=>[]
 |_=>[]
theorem round (n m:Nat) (k i:Int) (row:List Value):zN cfg [] [] 105 0 (stK 113 6 [] (stA n m k i row)) (zv 6 100 113 kp cr)=(let x1:=0+(i.toNat*1);let y1:=zt row x1 [.int .i64 (-1)];(bif decide (i<(Int.ofNat m))then(bif decide (0≤i)then(bif Nat.blt i.toNat m then(bif Nat.ble (x1+1) row.length then(bif(true&&(y1.all qp&&true))then(some (.normal,⟨[(0,.slice (some ⟨0,0,none⟩) n 6),(4,.int .i64 k),(5,.pointer (some ⟨6,0,none⟩)),(27,.int .i64 (Int.ofNat m)),(28,.int .i64 (IntKind.wrap .i64 (i+1)))],[[.slice (some ⟨7,0,none⟩) m 1],y1]⟩))else none)else none)else none)else none)else(bif(true&&(row.all qp&&true))then(some (.exit 0,⟨[(0,.slice (some ⟨0,0,none⟩) n 6),(4,.int .i64 k),(5,.pointer (some ⟨6,0,none⟩))],[[.slice (some ⟨7,0,none⟩) m 1],row]⟩))else none))):=by kernel_rfl
def st (n:Nat) (k:Int) (row:List Int) (j:Nat):KX:=stA n row.length k j (ints .i64 (List.replicate j (-1)++row.drop j))
def fin (n m:Nat) (k:Int):KX:=⟨[(0,.slice (some ⟨0,0,none⟩) n 6),(4,.int .i64 k),(5,.pointer (some ⟨6,0,none⟩))],[[.slice (some ⟨7,0,none⟩) m 1],AHei.VE m]⟩
def D:KD:=⟨113,6,100,[0,4,5,27,28],[],fun s=>match s.T.get 5 with
 |some (.pointer (some p))=>match zS s.h p.block with
  |some [.slice (some q) _ _]=>[(p.block,false),(q.block,true)]
  |_=>[]
 |_=>[],fun x ro=>match x.vs,x.cars,ro with
 |[(0,.slice (some ⟨0,0,none⟩) n 6),(4,.int .i64 k),(5,.pointer (some ⟨6,0,none⟩)),(27,.int .i64 l),(28,.int .i64 0)],[[.slice (some ⟨7,0,none⟩) m 1],row],[]=>
  .qI (wm m l row) (.out (.exit 0,fin n m k))
 |_,_,_=> .no⟩
def lp:LpK:=⟨105,6,0,D⟩
theorem qE:zq Tryz.prog La 4 lp:=by
 refine⟨by kernel_rfl,fun c base I hP hn hG hI hIL x ro ex y e=> ?_⟩
 obtain⟨vs,cars⟩:=x
 simp only[lp,D]at e ⊢
 split at e
 ·rename_i n k l m row
  obtain⟨g1,g2⟩:=GT.qh e
  cases g2
  obtain⟨rfl,hm,rw0,rfl,_,rfl⟩:=vV g1
  have main: ∀j,j≤rw0.length→zI (@zy (zL base) c base I (qV Tryz.prog 105 0) 113 6 100 []) (st n k rw0 (rw0.length - j)) (.exit 0) (fin n rw0.length k):=by
   intro j
   induction j with
   |zero=>
    intro _
    have hr:=round n rw0.length k rw0.length (ints .i64 (List.replicate rw0.length (-1)))
    have h1:decide ((rw0.length:Int)<Int.ofNat rw0.length)=false:=An (by show¬(rw0.length:Int)<(rw0.length:Int);omega)
    simp only[h1,Ah,qZ,AE,Ai]at hr
    have e:st n k rw0 (rw0.length - 0)=stA n rw0.length k rw0.length (ints .i64 (List.replicate rw0.length (-1))):=by
     unfold st;rw[Bq,B6,A0]
    rw[e]
    exact .stop (by simp) (stepT qf qd (by simp) (by simp) hP hn hG hI hIL hr)
   |succ j ih=>
    intro hj
    obtain⟨i,hi⟩: ∃i,rw0.length - (j+1)=i:=⟨_,rfl⟩
    have hi2:rw0.length - j=i+1:=by omega
    have hil:i<rw0.length:=by omega
    rw[hi]
    rw[hi2]at ih
    refine .next ?_ (ih (by omega))
    have hr:=round n rw0.length k i (ints .i64 (List.replicate i (-1)++rw0.drop i))
    have h1:decide ((i:Int)<Int.ofNat rw0.length)=true:=Al (by show (i:Int)<(rw0.length:Int);omega)
    have h2:=geI i
    have h3:Nat.blt ((i:Int)).toNat rw0.length=true:=by rw[AB];simpa using hil
    have h4:(0+((i:Int)).toNat*1)=i:=by simp
    have h5:=wrI i (by omega)
    have hlen:(List.replicate i (-1:Int)++rw0.drop i).length=rw0.length:=by simp;omega
    have h6:Nat.ble (i+1) (ints .i64 (List.replicate i (-1)++rw0.drop i)).length=true:=by rw[Az,zH,hlen];omega
    have h7:zt (ints .i64 (List.replicate i (-1)++rw0.drop i)) i [.int .i64 (-1)]=ints .i64 (List.replicate (i+1) (-1)++rw0.drop (i+1)):=by
     rw[AHei.Zm (by rw[hlen];exact hil)]
     refine Bg (ints .i64) ?_
     rw[List.set_append_right _ _ (by simp),List.length_replicate,Nat.sub_self,A8 hil,List.set_cons_zero,List.replicate_succ',CI]
     rfl
    simp only[h1,h2,h3,h4,h5,h6,h7,qZ,AE,Ai]at hr
    exact stepT qf qd (by simp) (by simp) hP hn hG hI hIL hr
  have e0:st n k rw0 (rw0.length - rw0.length)=⟨[(0,.slice (some ⟨0,0,none⟩) n 6),(4,.int .i64 k),(5,.pointer (some ⟨6,0,none⟩)),(27,.int .i64 (Int.ofNat rw0.length)),(28,.int .i64 0)],[[.slice (some ⟨7,0,none⟩) rw0.length 1],ints .i64 rw0]⟩:=by
   unfold st;rw[Nat.sub_self];rfl
  exact e0▸main rw0.length (Aw _)
 ·cases e
end A105L0
namespace A156
def T (k0 vk0 vn0 n0:Int) (vs0 t0:ByteArray):GT Value:=let o1:GT Value:=(.out (.tuple #[.int .i64 0,.int .i64 1]));let o2:GT Value:=(.out (.tuple #[.int .i64 1,.int .i64 0]));(.br (k0==1) o1 (.br (k0==2) o1 (.br (k0==9) o1 (.br (k0==3) o2 (.br (k0==5) o2 (.br (k0==10) o2 (.br (k0==4) (.out (.tuple #[.int .i64 2,.int .i64 (-1)])) (.br (k0==6) (.out (.tuple #[.int .i64 n0,.int .i64 (IntKind.wrap .i64 (1 - n0))])) (.br (k0==8) (.out (.tuple #[.int .i64 1,.int .i64 (-1)])) (.out (.tuple #[.int .i64 0,.int .i64 0])))))))))))
theorem run (k0 vk0 vn0 n0:Int) (vs0 t0:ByteArray):runK 4 [] [] 156 [.v (.agg #[.int .i64 k0,.int .i64 n0,.string t0,.int .i64 vk0,.int .i64 vn0,.string vs0])]=(T k0 vk0 vn0 n0 vs0 t0).eval:=by kernel_rfl
theorem qN (o:O6):(T o.1 o.2.2.2.1 o.2.2.2.2.1 o.2.1 o.2.2.2.2.2 o.2.2.1).eval=some (.tuple #[.int .i64 (Ref.zj o.1 o.2.1).1,.int .i64 (Ref.zj o.1 o.2.1).2]):=by
 unfold T Ref.zj
 simp only[GT.eval]
 cases o.1==1<;>cases o.1==2<;>cases o.1==9<;>cases o.1==3<;>cases o.1==5<;>cases o.1==10<;>cases o.1==4<;>cases o.1==6<;>cases o.1==8<;>rfl
def spec:Spec:=fun aa=>match aa with
 |[a]=>(oOf a).bind fun o=>some (.out (.tuple #[.int .i64 (Ref.zj o.1 o.2.1).1,.int .i64 (Ref.zj o.1 o.2.1).2]))
 |_=>none
theorem qg:qu Tryz.prog La 156 spec:=⟨qD (by kernel_rfl),fun aa t v h e=>by
 unfold spec at h
 split at h
 ·rename_i a
  obtain⟨x,h1,h⟩:=qi h
  cases h;cases e
  rw[Jl h1]
  exact⟨rfl,qS (l:=[]) (L:=[]) (n0:=4) (k:=12) qx qf qd (by simp) (by simp) (by decide) (by simp) rfl ((run _ _ _ _ _ _).trans (qN x))⟩
 ·cases h⟩
end A156
namespace A157
def T (k0 vk0 vn0 n0:Int) (vs0 t0:ByteArray) (a1:Int) (a2:Int):GT Value:=let y2:=decide (n0≥0);let o1:GT Value:=(.br y2 (.out (.bool (decide (n0<9223372036854775807)))) (.out (.bool false)));let o2:GT Value:=(.br (decide (n0>a1)) (.out (.bool (decide (n0≤a2)))) (.out (.bool false)));let y1:=eqU t0.data.toList [45];(.br (k0==1) (.out (.bool true)) (.br (k0==10) (.out (.bool true)) (.br (k0==2) o1 (.br (k0==9) o1 (.br (k0==3) (.br y1 (.out (.bool true)) (.out (.bool (eqU t0.data.toList [110,111,116])))) (.br (k0==4) (.br (eqU t0.data.toList [43]) (.out (.bool true)) (.br y1 (.out (.bool true)) (.br (eqU t0.data.toList [42]) (.out (.bool true)) (.br (eqU t0.data.toList [47]) (.out (.bool true)) (.br (eqU t0.data.toList [37]) (.out (.bool true)) (.br (eqU t0.data.toList [61]) (.out (.bool true)) (.br (eqU t0.data.toList [33,61]) (.out (.bool true)) (.br (eqU t0.data.toList [60]) (.out (.bool true)) (.br (eqU t0.data.toList [60,61]) (.out (.bool true)) (.br (eqU t0.data.toList [62]) (.out (.bool true)) (.br (eqU t0.data.toList [62,61]) (.out (.bool true)) (.br (eqU t0.data.toList [97,110,100]) (.out (.bool true)) (.br (eqU t0.data.toList [111,114]) (.out (.bool true)) (.out (.bool false))))))))))))))) (.br (k0==5) (.br (n0==0) (.out (.bool true)) (.out (.bool (n0==1)))) (.br (k0==6) (.br y2 (.out (.bool (decide (n0≤1024)))) (.out (.bool false))) (.br (k0==7) o2 (.br (k0==8) o2 (.out (.bool false))))))))))))
theorem run (k0 vk0 vn0 n0:Int) (vs0 t0:ByteArray) (a1:Int) (a2:Int):runK 4 [] [] 157 [.v (.agg #[.int .i64 k0,.int .i64 n0,.string t0,.int .i64 vk0,.int .i64 vn0,.string vs0]),.v (.int .i64 a1),.v (.int .i64 a2)]=(T k0 vk0 vn0 n0 vs0 t0 a1 a2).eval:=by kernel_rfl
theorem qN (o:O6) (i m:Int):(T o.1 o.2.2.2.1 o.2.2.2.2.1 o.2.1 o.2.2.2.2.2 o.2.2.1 i m).eval=some (.bool (Ref.wb o.1 o.2.1 o.2.2.1 i m 9223372036854775807 9223372036854775807)):=by
 obtain⟨k,n,t,v⟩:=o
 unfold T Ref.wb
 dsimp only[]
 simp only[GT.eval]
 cases k==1
 rotate_left
 ·rfl
 cases k==10
 rotate_left
 ·rfl
 cases k==2
 rotate_left
 ·cases decide (n≥0)<;>rfl
 cases k==9
 rotate_left
 ·cases decide (n≥0)<;>rfl
 cases k==3
 rotate_left
 ·cases eqU t.data.toList [45]<;>cases eqU t.data.toList [110,111,116]<;>rfl
 cases k==4
 rotate_left
 ·unfold Ref.oE
  simp only[Ai,Ah,Cd]
  cases eqU t.data.toList [43]
  rotate_left
  ·rfl
  cases eqU t.data.toList [45]
  rotate_left
  ·rfl
  cases eqU t.data.toList [42]
  rotate_left
  ·rfl
  cases eqU t.data.toList [47]
  rotate_left
  ·rfl
  cases eqU t.data.toList [37]
  rotate_left
  ·rfl
  cases eqU t.data.toList [61]
  rotate_left
  ·rfl
  cases eqU t.data.toList [33,61]
  rotate_left
  ·rfl
  cases eqU t.data.toList [60]
  rotate_left
  ·rfl
  cases eqU t.data.toList [60,61]
  rotate_left
  ·rfl
  cases eqU t.data.toList [62]
  rotate_left
  ·rfl
  cases eqU t.data.toList [62,61]
  rotate_left
  ·rfl
  cases eqU t.data.toList [97,110,100]<;>cases eqU t.data.toList [111,114]<;>rfl
 cases k==5
 rotate_left
 ·cases n==0<;>rfl
 cases k==6
 rotate_left
 ·cases decide (n≥0)<;>rfl
 cases k==7<;>cases k==8<;>cases decide (n>i)<;>rfl
def spec:Spec:=fun aa=>match aa with
 |[a,.v (.int .i64 i),.v (.int .i64 m)]=>(oOf a).bind fun o=>some (.out (.bool (Ref.wb o.1 o.2.1 o.2.2.1 i m 9223372036854775807 9223372036854775807)))
 |_=>none
theorem qg:qu Tryz.prog La 157 spec:=⟨qD (by kernel_rfl),fun aa t v h e=>by
 unfold spec at h
 split at h
 ·rename_i a i m
  obtain⟨x,h1,h⟩:=qi h
  cases h;cases e
  rw[Jl h1]
  exact⟨rfl,qS (l:=[]) (L:=[]) (n0:=4) (k:=12) qx qf qd (by simp) (by simp) (by decide) (by simp) rfl ((run _ _ _ _ _ _ _ _).trans (qN x i m))⟩
 ·cases h⟩
end A157
namespace A105L1
noncomputable def cfg:Cfg:=zw Tryz.prog 4 (gpT [(156,A156.spec),(157,A157.spec)]) (ltT 4 [])
def stA (n m:Nat) (k wF i:Int) (row:List Value):KX:=⟨[(4,.int .i64 k),(5,.pointer (some ⟨106,0,none⟩)),(7,.func (.func 155) #[] #[.pointer (some ⟨106,0,none⟩)]),(8,.int .i64 wF),(38,.slice (some ⟨0,0,none⟩) n 6),(39,.int .i64 (Int.ofNat n)),(40,.int .i64 i)],[[.slice (some ⟨107,0,none⟩) m 1],row]⟩
def kp:Ex→List Nat
 | .normal=>[4,5,7,8,38,39,40]
 | .exit _=>[4,5,8]
 | .ret=>[2,3]
def cr:Ex→St→List (Nat×Bool):=fun e s=>match e with
 | .ret=>[]
 |_=>match s.T.get 5 with
  |some (.pointer (some p))=>match zS s.h p.block with
   |some [.slice (some q) _ _]=>[(p.block,false),(q.block,true)]
   |_=>[]
  |_=>[]
theorem round (n m:Nat) (k wF i:Int) (row:List Value) (cs:List Value):zN cfg [(156,A156.spec),(157,A157.spec)] [] 105 1 (stK 113 106 [(0,cs)] (stA n m k wF i row)) (zv 106 100 113 kp cr)=(let x2:=IntKind.wrap .i64 (i+1);let x4:=0+(x2.toNat*1);let x12:=0+(i.toNat*1);let x13:=0+(i.toNat*6);let x5:=rdI cs (x13+1);let x3:=0+(x5.toNat*1);let x7:=rdI cs x13;let x1:=IntKind.wrap .i64 ((rdI row x12)+(Ref.zj x7 x5).2);let x6:=if x1>wF then x1 else wF;let x8:=rdI (zt row x3 [.int .i64 x1]) x4;let x9:=rdI (zt row x3 [.int .i64 x1]) x3;let x10:=rdI (zt row x4 [.int .i64 x1]) x4;let x11:=rdI (zt (zt row x3 [.int .i64 x1]) x4 [.int .i64 x1]) x4;let o2:Option (Ex×KX):=(bif(true&&(row.all qp&&true))then(some (.normal,⟨[(4,.int .i64 k),(5,.pointer (some ⟨106,0,none⟩)),(7,.func (.func 155) #[] #[.pointer (some ⟨106,0,none⟩)]),(8,.int .i64 x6),(38,.slice (some ⟨0,0,none⟩) n 6),(39,.int .i64 (Int.ofNat n)),(40,.int .i64 x2)],[[.slice (some ⟨107,0,none⟩) m 1],row]⟩))else none);let o3:Option (Ex×KX):=(some (.ret,⟨[(2,.int .i64 0),(3,.bool false)],[]⟩));let o1:Option (Ex×KX):=(bif decide (0≤x5)then(bif Nat.blt x5.toNat m then(bif isV row x3 (.i .i64)then(bif decide ((rdI row x3)<0)then(bif decide (0≤x5)then(bif Nat.blt x5.toNat m then(bif Nat.ble (x3+1) row.length then(bif decide (0≤x5)then(bif Nat.blt x5.toNat m then(bif isV (zt row x3 [.int .i64 x1]) x3 (.i .i64)then(bif(x7 != 7)then(bif(x9==x1)then(bif decide (0≤x2)then(bif Nat.blt x2.toNat m then(bif isV (zt row x3 [.int .i64 x1]) x4 (.i .i64)then(bif decide (x8<0)then(bif decide (0≤x2)then(bif Nat.blt x2.toNat m then(bif Nat.ble (x4+1) (zt row x3 [.int .i64 x1]).length then(bif decide (0≤x2)then(bif Nat.blt x2.toNat m then(bif isV (zt (zt row x3 [.int .i64 x1]) x4 [.int .i64 x1]) x4 (.i .i64)then(bif(!(x11==x1))then o3 else(bif(true&&((zt (zt row x3 [.int .i64 x1]) x4 [.int .i64 x1]).all qp&&true))then(some (.normal,⟨[(4,.int .i64 k),(5,.pointer (some ⟨106,0,none⟩)),(7,.func (.func 155) #[] #[.pointer (some ⟨106,0,none⟩)]),(8,.int .i64 x6),(38,.slice (some ⟨0,0,none⟩) n 6),(39,.int .i64 (Int.ofNat n)),(40,.int .i64 x2)],[[.slice (some ⟨107,0,none⟩) m 1],(zt (zt row x3 [.int .i64 x1]) x4 [.int .i64 x1])]⟩))else none))else none)else none)else none)else none)else none)else none)else(bif decide (0≤x2)then(bif Nat.blt x2.toNat m then(bif isV (zt row x3 [.int .i64 x1]) x4 (.i .i64)then(bif(!(x8==x1))then o3 else(bif(true&&((zt row x3 [.int .i64 x1]).all qp&&true))then(some (.normal,⟨[(4,.int .i64 k),(5,.pointer (some ⟨106,0,none⟩)),(7,.func (.func 155) #[] #[.pointer (some ⟨106,0,none⟩)]),(8,.int .i64 x6),(38,.slice (some ⟨0,0,none⟩) n 6),(39,.int .i64 (Int.ofNat n)),(40,.int .i64 x2)],[[.slice (some ⟨107,0,none⟩) m 1],(zt row x3 [.int .i64 x1])]⟩))else none))else none)else none)else none))else none)else none)else none)else o3)else(bif(!(x9==x1))then o3 else(bif(true&&((zt row x3 [.int .i64 x1]).all qp&&true))then(some (.normal,⟨[(4,.int .i64 k),(5,.pointer (some ⟨106,0,none⟩)),(7,.func (.func 155) #[] #[.pointer (some ⟨106,0,none⟩)]),(8,.int .i64 x6),(38,.slice (some ⟨0,0,none⟩) n 6),(39,.int .i64 (Int.ofNat n)),(40,.int .i64 x2)],[[.slice (some ⟨107,0,none⟩) m 1],(zt row x3 [.int .i64 x1])]⟩))else none)))else none)else none)else none)else none)else none)else none)else(bif decide (0≤x5)then(bif Nat.blt x5.toNat m then(bif isV row x3 (.i .i64)then(bif(x7 != 7)then(bif((rdI row x3)==x1)then(bif decide (0≤x2)then(bif Nat.blt x2.toNat m then(bif isV row x4 (.i .i64)then(bif decide ((rdI row x4)<0)then(bif decide (0≤x2)then(bif Nat.blt x2.toNat m then(bif Nat.ble (x4+1) row.length then(bif decide (0≤x2)then(bif Nat.blt x2.toNat m then(bif isV (zt row x4 [.int .i64 x1]) x4 (.i .i64)then(bif(!(x10==x1))then o3 else(bif(true&&((zt row x4 [.int .i64 x1]).all qp&&true))then(some (.normal,⟨[(4,.int .i64 k),(5,.pointer (some ⟨106,0,none⟩)),(7,.func (.func 155) #[] #[.pointer (some ⟨106,0,none⟩)]),(8,.int .i64 x6),(38,.slice (some ⟨0,0,none⟩) n 6),(39,.int .i64 (Int.ofNat n)),(40,.int .i64 x2)],[[.slice (some ⟨107,0,none⟩) m 1],(zt row x4 [.int .i64 x1])]⟩))else none))else none)else none)else none)else none)else none)else none)else(bif decide (0≤x2)then(bif Nat.blt x2.toNat m then(bif isV row x4 (.i .i64)then(bif(!((rdI row x4)==x1))then o3 else o2)else none)else none)else none))else none)else none)else none)else o3)else(bif(!((rdI row x3)==x1))then o3 else o2))else none)else none)else none))else none)else none)else none);(bif decide (i<(Int.ofNat n))then(bif decide (0≤i)then(bif Nat.blt i.toNat n then(bif isL cs x13 [(.i .i64),(.i .i64),.s,(.i .i64),(.i .i64),.s]then(bif decide (0≤i)then(bif Nat.blt i.toNat m then(bif isV row x12 (.i .i64)then(bif decide ((rdI row x12)<0)then o3 else(bif(!(Ref.wb x7 x5 (rdS cs ((x13+1)+1)) i k 9223372036854775807 9223372036854775807))then o3 else(bif decide ((rdI row x12)<(Ref.zj x7 x5).1)then o3 else(bif decide (x1>1024)then o3 else(bif(x7==7)then o1 else(bif(x7==8)then o1 else(bif(x7 != 7)then(bif decide (0≤x2)then(bif Nat.blt x2.toNat m then(bif isV row x4 (.i .i64)then(bif decide ((rdI row x4)<0)then(bif decide (0≤x2)then(bif Nat.blt x2.toNat m then(bif Nat.ble (x4+1) row.length then(bif decide (0≤x2)then(bif Nat.blt x2.toNat m then(bif isV (zt row x4 [.int .i64 x1]) x4 (.i .i64)then(bif(!(x10==x1))then o3 else(bif(true&&((zt row x4 [.int .i64 x1]).all qp&&true))then(some (.normal,⟨[(4,.int .i64 k),(5,.pointer (some ⟨106,0,none⟩)),(7,.func (.func 155) #[] #[.pointer (some ⟨106,0,none⟩)]),(8,.int .i64 x6),(38,.slice (some ⟨0,0,none⟩) n 6),(39,.int .i64 (Int.ofNat n)),(40,.int .i64 x2)],[[.slice (some ⟨107,0,none⟩) m 1],(zt row x4 [.int .i64 x1])]⟩))else none))else none)else none)else none)else none)else none)else none)else(bif decide (0≤x2)then(bif Nat.blt x2.toNat m then(bif isV row x4 (.i .i64)then(bif(!((rdI row x4)==x1))then o3 else o2)else none)else none)else none))else none)else none)else none)else o2)))))))else none)else none)else none)else none)else none)else none)else(bif(true&&(row.all qp&&true))then(some (.exit 2,⟨[(4,.int .i64 k),(5,.pointer (some ⟨106,0,none⟩)),(8,.int .i64 wF)],[[.slice (some ⟨107,0,none⟩) m 1],row]⟩))else none))):=by kernel_rfl
def qP:KX:=⟨[(2,.int .i64 0),(3,.bool false)],[]⟩
def jq (m:Nat) (k wF:Int) (row:List Value):KX:=⟨[(4,.int .i64 k),(5,.pointer (some ⟨106,0,none⟩)),(8,.int .i64 wF)],[[.slice (some ⟨107,0,none⟩) m 1],row]⟩
abbrev MX:Int:=9223372036854775807
theorem rd {t:List Int} {j:Nat} (h:j<t.length):rdI (ints .i64 t) j=t.getD j 0:=by
 rw[wN _ _ h,AN,Au h];rfl
theorem dC (a b:Int):(if a>b then a else b)=max b a:=by
 by_cases h:a>b
 ·rw[Ax h];omega
 ·rw[Aq h];omega
set_option maxHeartbeats 0 in
theorem next (l:List O6) (hl:l.length≤4096) {s:List Int×Int} (hg:AHei.Good l.length s) {i:Nat} (hi:i<l.length):
  zN cfg [(156,A156.spec),(157,A157.spec)] [] 105 1 (stK 113 106 [(0,zK l)] (stA l.length (l.length+1) l.length s.2 i (ints .i64 s.1))) (zv 106 100 113 kp cr)=
  some (match AHei.step l.length MX MX s i l[i]with|some t=>(.normal,stA l.length (l.length+1) l.length t.2 ((i+1:Nat):Int) (ints .i64 t.1))|none=>(.ret,qP)):=by
 rw[round]
 dsimp only[]
 have hlen:=hg.len
 have h1:decide ((i:Int)<Int.ofNat l.length)=true:=Al (by show (i:Int)<(l.length:Int);omega)
 have h2:=geI i
 have h3:Nat.blt ((i:Int)).toNat l.length=true:=by rw[AB];simpa using hi
 have h3':Nat.blt ((i:Int)).toNat (l.length+1)=true:=by rw[AB];simp;omega
 have h4:(0+((i:Int)).toNat*6)=i*6:=by simp
 have h4':(0+((i:Int)).toNat*1)=i:=by simp
 have h5:=wrI i (by omega)
 have h6:(0+(((i+1:Nat):Int)).toNat*1)=i+1:=by simp
 have h7:decide ((0:Int)≤((i+1:Nat):Int))=true:=Al (by omega)
 have h8:Nat.blt (((i+1:Nat):Int)).toNat (l.length+1)=true:=by rw[AB,Av];omega
 have hv: ∀t:List Int,t.length=l.length+1→ ∀j,j<l.length+1→isV (ints .i64 t) j (.i .i64)=true:=fun t ht j hj=>vF _ _ (by omega)
 have hr: ∀t:List Int,t.length=l.length+1→ ∀j,j<l.length+1→rdI (ints .i64 t) j=t.getD j 0:=fun t ht j hj=>rd (by omega)
 have hp: ∀t:List Int,t.length=l.length+1→ ∀j,j<l.length+1→ ∀g:Int,zt (ints .i64 t) j [.int .i64 g]=ints .i64 (t.set j g):=fun t ht j hj g=>AHei.Zm (by omega) g
 have hb: ∀t:List Int,t.length=l.length+1→ ∀j,j<l.length+1→Nat.ble (j+1) (ints .i64 t).length=true:=fun t ht j hj=>by rw[Az,zH];omega
 have hs: ∀t:List Int,t.length=l.length+1→ ∀j,∀g:Int,(t.set j g).length=l.length+1:=fun t ht j g=>by simpa using ht
 have hq: ∀t:List Int,t.length=l.length+1→ ∀j,j<l.length+1→ ∀g:Int,((t.set j g).getD j 0==g)=true:=fun t ht j hj g=>by
  rw[AN,List.getElem?_set_self (by omega)]
  exact B4 g
 have hq2: ∀t:List Int,t.length=l.length+1→ ∀j,j<l.length+1→ ∀g:Int,(t.set j g).getD j 0=g:=fun t ht j hj g=>Ay.1 (hq t ht j hj g)
 simp only[h1,h2,h3,h3',h4,h4',h5,h6,h7,h8,xV l hi,XU l hi,YC l hi,bV l hi,hv s.1 hlen i (by omega),hr s.1 hlen i (by omega),Ai,AF,qZ,List.length_singleton,AE,dC]
 generalize l[i]=o at*
 unfold AHei.step
 generalize hh:s.1.getD i 0=h
 cases c1:decide (h<0)
 rotate_left
 ·rfl
 cases c2:Ref.wb o.1 o.2.1 o.2.2.1 i l.length MX MX
 ·rfl
 cases c3:decide (h<(Ref.zj o.1 o.2.1).1)
 rotate_left
 ·rfl
 have hh1:h≤1024:=by rw[←hh];exact(hg.le _ (AHei.jM (by omega))).2
 simp only[Bx]at c1 c3
 obtain⟨n1,n2,n3,n4⟩:=AHei.yo (k:=o.1) (n:=o.2.1) (AHei.Z2 c2)
 have hw:IntKind.wrap .i64 (h+(Ref.zj o.1 o.2.1).2)=h+(Ref.zj o.1 o.2.1).2:=kc (by omega) (by omega)
 simp only[hw]
 generalize h+(Ref.zj o.1 o.2.1).2=g at*
 cases c4:decide (g>1024)
 rotate_left
 ·rfl
 simp only[Ah,Bh,Cd,Bb]
 have hi1:i+1<l.length+1:=by omega
 unfold AHei.put
 cases k7:o.1==7
 ·have k7' : (o.1 != 7) = true := by rw [bne, k7]; rfl
  cases k8:o.1==8
  ·simp only [k7', Ai, Ah, Cd, Ar, hv s.1 hlen _ hi1, hr s.1 hlen _ hi1, hp s.1 hlen _ hi1, hb s.1 hlen _ hi1, hv _ (hs s.1 hlen _ _) _ hi1, hr _ (hs s.1 hlen _ _) _ hi1, hq s.1 hlen _ hi1, Bh, qZ]
   cases decide (s.1.getD (i+1) 0<0)
   ·cases s.1.getD (i+1) 0==g<;>rfl
   ·rfl
  ·obtain ⟨m1, m2⟩ := AHei.xz c2 (.inr (Ay.1 k8))
   obtain⟨N,hN⟩:=AG (show 0≤o.2.1 by omega)
   rw[hN]at m1 m2 ⊢
   have hNl:N<l.length+1:=by omega
   have e1:decide ((0:Int)≤(N:Int))=true:=Al (by omega)
   have e2:Nat.blt N (l.length+1)=true:=by rw[AB];exact hNl
   have e3:(0+N*1)=N:=by simp
   have hls:=hs s.1 hlen
   simp only[e1,e2,e3,Av,k7',Ai,Ah,Bb,hv s.1 hlen N hNl,hr s.1 hlen N hNl,hp s.1 hlen N hNl,hb s.1 hlen N hNl,hv _ (hls N g) N hNl,hr _ (hls N g) N hNl,hq s.1 hlen N hNl,hq2 s.1 hlen N hNl,Bh,hv s.1 hlen _ hi1,hr s.1 hlen _ hi1,hp s.1 hlen _ hi1,hb s.1 hlen _ hi1,hv _ (hls (i+1) g) _ hi1,hr _ (hls (i+1) g) _ hi1,hq s.1 hlen _ hi1,hv _ (hls N g) _ hi1,hr _ (hls N g) _ hi1,hp _ (hls N g) _ hi1,hb _ (hls N g) _ hi1,hv _ (hs _ (hls N g) (i+1) g) _ hi1,hr _ (hs _ (hls N g) (i+1) g) _ hi1,hq _ (hls N g) _ hi1,B4,qZ]
   cases decide (s.1.getD N 0<0)
   ·simp only [Ah]
    cases s.1.getD N 0==g
    ·rfl
    ·simp only [Ai, Ar]
     cases decide (s.1.getD (i+1) 0<0)
     ·cases s.1.getD (i+1) 0==g<;>rfl
     ·rfl
   ·simp only [Ai, Ar]
    cases decide ((s.1.set N g).getD (i+1) 0<0)
    ·cases (s.1.set N g).getD (i+1) 0==g<;>rfl
    ·rfl
 ·have k7' : (o.1 != 7) = false := by rw [bne, k7]; rfl
  obtain⟨m1,m2⟩:=AHei.xz c2 (.inl (Ay.1 k7))
  obtain⟨N,hN⟩:=AG (show 0≤o.2.1 by omega)
  rw[hN]at m1 m2 ⊢
  have hNl:N<l.length+1:=by omega
  have e1:decide ((0:Int)≤(N:Int))=true:=Al (by omega)
  have e2:Nat.blt N (l.length+1)=true:=by rw[AB];exact hNl
  have e3:(0+N*1)=N:=by simp
  have hls:=hs s.1 hlen
  simp only[e1,e2,e3,Av,k7',Ai,Ah,B2,hv s.1 hlen N hNl,hr s.1 hlen N hNl,hp s.1 hlen N hNl,hb s.1 hlen N hNl,hv _ (hls N g) N hNl,hr _ (hls N g) N hNl,hq2 s.1 hlen N hNl,B4,Bh,qZ]
  cases decide (s.1.getD N 0<0)
  ·cases s.1.getD N 0==g<;>rfl
  ·rfl
theorem last (l:List O6) {s:List Int×Int} (hg:AHei.Good l.length s):
  zN cfg [(156,A156.spec),(157,A157.spec)] [] 105 1 (stK 113 106 [(0,zK l)] (stA l.length (l.length+1) l.length s.2 l.length (ints .i64 s.1))) (zv 106 100 113 kp cr)=
  some (.exit 2,jq (l.length+1) l.length s.2 (ints .i64 s.1)):=by
 rw[round]
 dsimp only[]
 have h1:=j6 l.length
 simp only[h1,Ah,qZ,AE,Ai]
 rfl
def D:KD:=⟨113,106,100,[4,5,7,8,38,39,40],[0],fun s=>match s.T.get 5 with
 |some (.pointer (some p))=>match zS s.h p.block with
  |some [.slice (some q) _ _]=>[(p.block,false),(q.block,true)]
  |_=>[]
 |_=>[],fun x ro=>match x.vs,x.cars,ro with
 |[(4,.int .i64 k),(5,.pointer (some ⟨106,0,none⟩)),(7,.func (.func 155) ⟨[]⟩ ⟨[.pointer (some ⟨106,0,none⟩)]⟩),(8,.int .i64 0),(38,.slice (some ⟨0,0,none⟩) n 6),(39,.int .i64 m),(40,.int .i64 0)],[[.slice (some ⟨107,0,none⟩) p 1],row],[(0,cs)]=>
  .qI (wP n m cs&&(k==m&&(Nat.ble n 4096&&(Nat.beq p (n+1)&&AHei.isF n row)))) (.br (AHei.j4 m MX MX (opsOf cs) (AHei.first n,0)) (.out (.exit 2,jq p k (AHei.wF m MX MX (opsOf cs) (AHei.first n,0)) (ints .i64 (AHei.j9 m MX MX (opsOf cs) (AHei.first n,0))))) (.out (.ret,qP)))
 |_,_,_=> .no⟩
def lp:LpK:=⟨105,14,1,D⟩
theorem chain {Step:KX→Ex→KX→Prop} {l:List O6} (hl:l.length≤4096)
  (hn: ∀s i (hi:i<l.length),AHei.Good l.length s→match AHei.step l.length MX MX s i l[i]with|some t=>Step (stA l.length (l.length+1) l.length s.2 i (ints .i64 s.1)) .normal (stA l.length (l.length+1) l.length t.2 ((i+1:Nat):Int) (ints .i64 t.1))|none=>Step (stA l.length (l.length+1) l.length s.2 i (ints .i64 s.1)) .ret qP)
  (he: ∀s,AHei.Good l.length s→Step (stA l.length (l.length+1) l.length s.2 l.length (ints .i64 s.1)) (.exit 2) (jq (l.length+1) l.length s.2 (ints .i64 s.1))):
  ∀(j i:Nat) (s:List Int×Int),i+j=l.length→AHei.Good l.length s→match AHei.run l.length MX MX i (l.drop i) s with|some t=>zI Step (stA l.length (l.length+1) l.length s.2 i (ints .i64 s.1)) (.exit 2) (jq (l.length+1) l.length t.2 (ints .i64 t.1))|none=>zI Step (stA l.length (l.length+1) l.length s.2 i (ints .i64 s.1)) .ret qP
 |0,i,s,h,hg=>by
  obtain rfl:i=l.length:=by omega
  rw[B6]
  exact .stop (by simp) (he s hg)
 |j+1,i,s,h,hg=>by
  have hi:i<l.length:=by omega
  rw[A8 hi]
  unfold AHei.run
  have hs:=hn s i hi hg
  cases e:AHei.step l.length MX MX s i l[i]with
  |none=>rw[e]at hs;exact .stop (by simp) hs
  |some t=>
   rw[e]at hs
   have hgt:=AHei.yQ hg e
   have ih:=chain hl hn he j (i+1) t (by omega) hgt
   simp only[Ar]
   cases e2:AHei.run l.length MX MX (i+1) (l.drop (i+1)) t with
   |none=>rw[e2]at ih;exact .next hs ih
   |some u=>rw[e2]at ih;exact .next hs ih
theorem qE:zq Tryz.prog La 4 lp:=by
 refine⟨by kernel_rfl,fun c base I hP hn hG hI hIL x ro ex y e=> ?_⟩
 obtain⟨vs,cars⟩:=x
 simp only[lp,D]at e ⊢
 split at e
 ·rename_i k n m p row cs
  obtain⟨g1,g2⟩:=GT.qh e
  simp only[Ag,Ay]at g1
  obtain⟨g3,rfl,g4,g5,g6⟩:=g1
  obtain⟨rfl,hn2,h4,h5⟩:=jd g3
  generalize opsOf cs=l at h4 h5 g2
  subst h4 h5
  have g4:=AW g4
  obtain rfl:=Am g5
  obtain rfl:=AHei.fm g6
  have key:=chain (Step:= @zy (zL base) c base I (qV Tryz.prog 105 1) 113 106 100 [(0,zK l)]) g4 (fun s i hi hg=>by
    have hr:=next l g4 hg hi
    cases hs:AHei.step l.length MX MX s i l[i]with
    |none=>rw[hs]at hr;exact stepT qf qd (by simpa using⟨A156.qg,A157.qg⟩) (by simp) hP hn hG hI hIL hr
    |some t=>rw[hs]at hr;exact stepT qf qd (by simpa using⟨A156.qg,A157.qg⟩) (by simp) hP hn hG hI hIL hr)
   (fun s hg=>stepT qf qd (by simpa using⟨A156.qg,A157.qg⟩) (by simp) hP hn hG hI hIL (last l hg)) l.length 0 (AHei.first l.length,0) (by omega) (AHei.wW _)
  rw[AD]at key
  unfold AHei.j4 AHei.wF AHei.j9 at g2
  cases hrun:AHei.run l.length MX MX 0 l (AHei.first l.length,0)with
  |none=>
   rw[hrun]at key
   rw[show (Int.ofNat l.length)=(l.length:Int)from rfl,hrun]at g2
   cases g2;exact key
  |some t=>
   rw[hrun]at key
   rw[show (Int.ofNat l.length)=(l.length:Int)from rfl,hrun]at g2
   cases g2;exact key
 ·cases e
end A105L1
namespace A105
def T (m0:Nat) (c0:List Value):GT Value:=let y1:=Int.ofNat m0;let x1:=IntKind.wrap .i64 (y1+1);let x2:=AHei.j9 y1 9223372036854775807 9223372036854775807 (opsOf c0) ((AHei.first m0),0);let x3:=AHei.VE x1.toNat;let x4:=0+(y1.toNat*1);let o1:GT Value:=(.out (.tuple #[.int .i64 0,.bool false]));let y3:=x2.map (Value.int IntKind.i64);let y4:=rep [.int .i64 0] x1.toNat;let y5:=zt x3 0 [.int .i64 0];let y6:=decide (0≤x1);(.br (y1==0) o1 (.br (decide (y1>4096)) o1 (.br y6 (.br y6 (.br (Nat.ble x1.toNat 1000000) (.br (Nat.ble x1.toNat x1.toNat) (.br ((true&&(y4.all qp&&true))&&true) (.br (wm x1.toNat (Int.ofNat x1.toNat) y4) (.br (Nat.blt 0 x1.toNat) (.br (Nat.ble 1 x3.length) (.br ((true&&(y5.all qp&&true))&&(c0.all qp&&true)) (.br ((wP m0 y1 c0)&&((y1==y1)&&(Nat.ble m0 4096&&(Nat.beq x1.toNat (m0+1)&&(AHei.isF m0 y5))))) (.br (AHei.j4 y1 9223372036854775807 9223372036854775807 (opsOf c0) ((AHei.first m0),0)) (.br (Nat.blt y1.toNat x1.toNat) (.br (isV y3 x4 (.i .i64)) (.out (.tuple #[.int .i64 (AHei.wF y1 9223372036854775807 9223372036854775807 (opsOf c0) ((AHei.first m0),0)),.bool ((rdI y3 x4)==1)])) .no) .no) o1) .no) .no) .no) .no) .no) .no) .no) .no) .no) .no)))
theorem run (m0:Nat) (c0:List Value):runK 4 [(156,A156.spec),(157,A157.spec)] [A105L0.lp,A105L1.lp] 105 [.sl m0 6 c0]=(T m0 c0).eval:=by kernel_rfl
theorem qN (l:List O6) (hl:l.length<2199023255552):(T l.length (zK l)).eval=some (.tuple #[.int .i64 (AHei.kh 9223372036854775807 9223372036854775807 l).1,.bool (AHei.kh 9223372036854775807 9223372036854775807 l).2]):=by
 have e0:Int.ofNat l.length=(l.length:Int):=rfl
 unfold T AHei.kh
 simp only[GT.eval,e0]
 cases h0:(l.length:Int)==0
 rotate_left
 ·rfl
 have h0':=Ao.1 h0
 cases h1:decide ((l.length:Int)>4096)
 rotate_left
 ·rfl
 have h1':l.length≤4096:=by have:=of_decide_eq_false h1;omega
 have w:IntKind.wrap .i64 ((l.length:Int)+1)=((l.length+1:Nat):Int):=by rw[kc (by omega) (by omega)];omega
 have a1:decide ((0:Int)≤((l.length+1:Nat):Int))=true:=Al (by omega)
 have a2:Nat.ble (l.length+1) 1000000=true:=by rw[Az];omega
 have a3:Nat.ble (l.length+1) (l.length+1)=true:=by rw[Az];exact Aw _
 have a4:rep [Value.int .i64 0] (l.length+1)=ints .i64 (List.replicate (l.length+1) 0):=by
  generalize l.length+1=n
  induction n with
  |zero=>rfl
  |succ n ih=>show [Value.int .i64 0]++rep [Value.int .i64 0] n=_;rw[ih];rfl
 have a5:wm (l.length+1) (((l.length+1:Nat):Int)) (ints .i64 (List.replicate (l.length+1) 0))=true:=by
  have:=xP (l:=List.replicate (l.length+1) (0:Int)) (by simp;omega)
  rw[List.length_replicate]at this
  exact this
 have a6:Nat.blt 0 (l.length+1)=true:=by rw[AB];omega
 have a7:Nat.ble 1 (AHei.VE (l.length+1)).length=true:=by unfold AHei.VE;rw[Az,zH];simp
 have a8:zt (AHei.VE (l.length+1)) 0 [.int .i64 0]=ints .i64 (AHei.first l.length):=rfl
 have a9:wP l.length (l.length:Int) (zK l)=true:=jj l hl
 have a10:Nat.ble l.length 4096=true:=by rw[Az];exact h1'
 have a11:AHei.isF l.length (ints .i64 (AHei.first l.length))=true:=AHei.fP _
 have a12:Nat.blt l.length (l.length+1)=true:=by rw[AB];omega
 have a13:0+l.length*1=l.length:=by omega
 have i1: ∀n:Nat,Int.ofNat n=(n:Int):=fun _=>rfl
 simp only[w,a1,a2,a3,a4,a5,a6,a7,a8,a9,a10,a11,a12,a13,i1,Av,qZ,vo,zo,B4,A5,AI,AE,AF,Ai,Ah]
 cases hf:AHei.j4 l.length 9223372036854775807 9223372036854775807 l (AHei.first l.length,0)
 ·rfl
 ·have ht := AHei.Vo hf
  have hlt:l.length<(AHei.j9 l.length 9223372036854775807 9223372036854775807 l (AHei.first l.length,0)).length:=by omega
  have b1:=vF .i64 _ hlt
  have b2:=A105L1.rd hlt
  unfold ints at b1 b2
  simp only[b1,b2,Ai]
def spec:Spec:=fun aa=>match aa with
 |[.sl n 6 cs]=>some (.qI (wP n (Int.ofNat n) cs) (.out (.tuple #[.int .i64 (AHei.kh 9223372036854775807 9223372036854775807 (opsOf cs)).1,.bool (AHei.kh 9223372036854775807 9223372036854775807 (opsOf cs)).2])))
 |_=>none
theorem qg:qu Tryz.prog La 105 spec:=⟨qD (by kernel_rfl),fun aa t v h e=>by
 unfold spec at h
 split at h
 ·rename_i n cs
  cases h
  obtain⟨g1,g2⟩:=GT.qh e
  cases g2
  obtain⟨_,hn,h4,h5⟩:=jd g1
  generalize opsOf cs=l at h4 h5
  subst h4 h5
  exact⟨rfl,qS (n0:=4) (k:=12) qx qf qd (by simpa using⟨A156.qg,A157.qg⟩) (by simpa using⟨A105L0.qE,A105L1.qE⟩) (by decide) (by simp) rfl ((run _ _).trans (qN l hn))⟩
 ·cases h⟩
end A105
namespace A60L0N
noncomputable def cfg:Cfg:=zw Tryz.prog 4 (gpT []) (ltT 4 [])
def stA (n:Nat) (lf la k i:Int):KX:=⟨[(0,.slice (some ⟨0,0,none⟩) n 6),(1,.int .i64 lf),(2,.int .i64 la),(7,.int .i64 k),(8,.slice none 0 0),(9,.int .i64 i)],[]⟩
def kp:Ex→List Nat
 | .normal=>[0,1,2,7,8,9]
 | .exit _=>[0,1,2,7,8]
 |_=>[]
def cr:Ex→St→List (Nat×Bool):=fun e s=>match e with
 | .ret=>[]
 |_=>match s.T.get 8 with
  |some (.slice (some q) _ _)=>[(q.block,true)]
  |_=>[]
theorem round (n:Nat) (lf la k i:Int):zN cfg [] [] 60 0 (stK 148 4 [] (stA n lf la k i)) (zv 4 100 148 kp cr)=(bif decide (i≤k)then(some (.normal,⟨[(0,.slice (some ⟨0,0,none⟩) n 6),(1,.int .i64 lf),(2,.int .i64 la),(7,.int .i64 k),(8,.slice (some ⟨4,0,none⟩) 1 1),(9,.int .i64 (IntKind.wrap .i64 (i+1)))],[[.int .i64 (-1)]]⟩))else(some (.exit 0,⟨[(0,.slice (some ⟨0,0,none⟩) n 6),(1,.int .i64 lf),(2,.int .i64 la),(7,.int .i64 k),(8,.slice none 0 0)],[]⟩))):=by kernel_rfl
end A60L0N
namespace A60L0R
noncomputable def cfg:Cfg:=zw Tryz.prog 4 (gpT []) (ltT 4 [])
def stA (n:Nat) (lf la k i:Int) (m:Nat) (row:List Value):KX:=⟨[(0,.slice (some ⟨0,0,none⟩) n 6),(1,.int .i64 lf),(2,.int .i64 la),(7,.int .i64 k),(8,.slice (some ⟨4,0,none⟩) m 1),(9,.int .i64 i)],[row]⟩
def kp:Ex→List Nat
 | .normal=>[0,1,2,7,8,9]
 | .exit _=>[0,1,2,7,8]
 |_=>[]
def cr:Ex→St→List (Nat×Bool):=fun e s=>match e with
 | .ret=>[]
 |_=>match s.T.get 8 with
  |some (.slice (some q) _ _)=>[(q.block,true)]
  |_=>[]
theorem round (n:Nat) (lf la k i:Int) (m:Nat) (row:List Value):zN cfg [] [] 60 0 (stK 148 4 [] (stA n lf la k i m row)) (zv 4 100 148 kp cr)=(let y1:=((row.drop 0).take (m*1))++[Value.int .i64 (-1)];bif decide (i≤k)then(bif Nat.ble (m+1) 200000000000000 then(bif Nat.ble ((m+1)*8) 200000000000000 then(bif Nat.ble (0+(m*1)) row.length then(bif(y1.all qp&&true)then(some (.normal,⟨[(0,.slice (some ⟨0,0,none⟩) n 6),(1,.int .i64 lf),(2,.int .i64 la),(7,.int .i64 k),(8,.slice (some ⟨4,0,none⟩) (m+1) 1),(9,.int .i64 (IntKind.wrap .i64 (i+1)))],[y1]⟩))else none)else none)else none)else none)else(bif(row.all qp&&true)then(some (.exit 0,⟨[(0,.slice (some ⟨0,0,none⟩) n 6),(1,.int .i64 lf),(2,.int .i64 la),(7,.int .i64 k),(8,.slice (some ⟨4,0,none⟩) m 1)],[row]⟩))else none)):=by kernel_rfl
end A60L0R
namespace A60L0
def Ve (j:Nat):List Value:=ints .i64 (List.replicate j (-1))
def st (n:Nat) (lf la k:Int) (j:Nat):KX:=bif Nat.beq j 0 then A60L0N.stA n lf la k j else A60L0R.stA n lf la k j j (Ve j)
def fin (n:Nat) (lf la k:Int) (m:Nat):KX:=⟨[(0,.slice (some ⟨0,0,none⟩) n 6),(1,.int .i64 lf),(2,.int .i64 la),(7,.int .i64 k),(8,.slice (some ⟨4,0,none⟩) m 1)],[AHei.VE m]⟩
def D:KD:=⟨148,4,100,[0,1,2,7,8,9],[],fun _=>[],fun x ro=>match x.vs,x.cars,ro with
 |[(0,.slice (some ⟨0,0,none⟩) n 6),(1,.int .i64 lf),(2,.int .i64 la),(7,.int .i64 k),(8,.slice none 0 0),(9,.int .i64 0)],[],[]=>
  .qI (decide (k=Int.ofNat n)&&Nat.ble n 4096) (.out (.exit 0,fin n lf la k (n+1)))
 |_,_,_=> .no⟩
def lp:LpK:=⟨60,6,0,D⟩
theorem qE:zq Tryz.prog La 4 lp:=by
 refine⟨by kernel_rfl,fun c base I hP hn hG hI hIL x ro ex y e=> ?_⟩
 obtain⟨vs,cars⟩:=x
 simp only[lp,D]at e ⊢
 split at e
 ·rename_i n lf la k
  obtain⟨g1,g2⟩:=GT.qh e
  cases g2
  simp only[Ag,As]at g1
  obtain⟨rfl,g3⟩:=g1
  have g3:=AW g3
  have main: ∀d j,j+d=n+1→zI (@zy (zL base) c base I (qV Tryz.prog 60 0) 148 4 100 []) (st n lf la n j) (.exit 0) (fin n lf la n (n+1)):=by
   intro d
   induction d with
   |zero=>
    intro j hj
    obtain rfl:j=n+1:=by omega
    have hr:=A60L0R.round n lf la n ((n+1:Nat):Int) (n+1) (Ve (n+1))
    have h1:decide (((n+1:Nat):Int)≤(n:Int))=false:=An (by omega)
    have h2:(Ve (n+1)).all qp=true:=qZ _ _
    simp only[h1,h2,Ah,AE,Ai]at hr
    exact .stop (by simp) (stepT qf qd (by simp) (by simp) hP hn hG hI hIL hr)
   |succ d ih=>
    intro j hj
    have ih:=ih (j+1) (by omega)
    refine .next ?_ ih
    have h1:decide ((j:Int)≤(n:Int))=true:=Al (by omega)
    have h5:=wrI j (by omega)
    cases j with
    |zero=>
     have hr:=A60L0N.round n lf la n ((0:Nat):Int)
     simp only[h1,h5,Ai]at hr
     exact stepT qf qd (by simp) (by simp) hP hn hG hI hIL hr
    |succ j=>
     have hr:=A60L0R.round n lf la n ((j+1:Nat):Int) (j+1) (Ve (j+1))
     have hl:(Ve (j+1)).length=j+1:=by unfold Ve;rw[zH];simp
     have q1:((Ve (j+1)).drop 0).take ((j+1)*1)++[.int .i64 (-1)]=Ve (j+1+1):=by
      rw[AD,BY,AJ (by rw[hl];exact Aw _)]
      unfold Ve ints
      rw[show List.replicate (j+1+1) (-1:Int)=List.replicate (j+1) (-1)++[-1]from List.replicate_succ',BH];rfl
     have q2:Nat.ble (j+1+1) 200000000000000=true:=by rw[Az];omega
     have q3:Nat.ble ((j+1+1)*8) 200000000000000=true:=by rw[Az];omega
     have q4:Nat.ble (0+(j+1)*1) (Ve (j+1)).length=true:=by rw[Az,hl];omega
     have q5:(Ve (j+1+1)).all qp=true:=qZ _ _
     simp only[h1,h5,q1,q2,q3,q4,q5,AE,Ai]at hr
     exact stepT qf qd (by simp) (by simp) hP hn hG hI hIL hr
  exact main (n+1) 0 (by omega)
 ·cases e
end A60L0
namespace A115
def T (k0 vk0 vn0 n0:Int) (vs0 t0:ByteArray):GT Value:=let o1:GT Value:=(.out (.tuple #[.int .i64 0,.int .i64 1]));let o2:GT Value:=(.out (.tuple #[.int .i64 1,.int .i64 1]));(.br (k0==1) o1 (.br (k0==2) o1 (.br (k0==9) o1 (.br (k0==3) o2 (.br (k0==5) o2 (.br (k0==10) o2 (.br (k0==4) (.out (.tuple #[.int .i64 2,.int .i64 1])) (.br (k0==6) (.out (.tuple #[.int .i64 n0,.int .i64 1])) (.br (k0==8) (.out (.tuple #[.int .i64 1,.int .i64 0])) (.out (.tuple #[.int .i64 0,.int .i64 0])))))))))))
theorem run (k0 vk0 vn0 n0:Int) (vs0 t0:ByteArray):runK 4 [] [] 115 [.v (.agg #[.int .i64 k0,.int .i64 n0,.string t0,.int .i64 vk0,.int .i64 vn0,.string vs0])]=(T k0 vk0 vn0 n0 vs0 t0).eval:=by kernel_rfl
theorem qN (o:O6):(T o.1 o.2.2.2.1 o.2.2.2.2.1 o.2.1 o.2.2.2.2.2 o.2.2.1).eval=some (.tuple #[.int .i64 (Ref.kI o.1 o.2.1).1,.int .i64 (Ref.kI o.1 o.2.1).2]):=by
 unfold T Ref.kI
 simp only[GT.eval]
 cases o.1==1<;>cases o.1==2<;>cases o.1==9<;>cases o.1==3<;>cases o.1==5<;>cases o.1==10<;>cases o.1==4<;>cases o.1==6<;>cases o.1==8<;>rfl
def spec:Spec:=fun aa=>match aa with
 |[a]=>(oOf a).bind fun o=>some (.out (.tuple #[.int .i64 (Ref.kI o.1 o.2.1).1,.int .i64 (Ref.kI o.1 o.2.1).2]))
 |_=>none
theorem qg:qu Tryz.prog La 115 spec:=⟨qD (by kernel_rfl),fun aa t v h e=>by
 unfold spec at h
 split at h
 ·rename_i a
  obtain⟨x,h1,h⟩:=qi h
  cases h;cases e
  rw[Jl h1]
  exact⟨rfl,qS (l:=[]) (L:=[]) (n0:=4) (k:=12) qx qf qd (by simp) (by simp) (by decide) (by simp) rfl ((run _ _ _ _ _ _).trans (qN x))⟩
 ·cases h⟩
end A115
namespace A116
def T (k0 vk0 vn0 n0:Int) (vs0 t0:ByteArray) (a1:Int) (a2:Int) (a3:Int) (a4:Int):GT Value:=let o1:GT Value:=(.br (decide (n0>a1)) (.out (.bool (decide (n0≤a2)))) (.out (.bool false)));let y1:=decide (n0≥0);let y2:=eqU [45] t0.data.toList;(.br (k0==1) (.out (.bool true)) (.br (k0==10) (.out (.bool true)) (.br (k0==2) (.br y1 (.out (.bool (decide (n0<a3)))) (.out (.bool false))) (.br (k0==9) (.br y1 (.out (.bool (decide (n0<a4)))) (.out (.bool false))) (.br (k0==3) (.br y2 (.out (.bool true)) (.br (eqU [110,111,116] t0.data.toList) (.out (.bool true)) (.out (.bool false)))) (.br (k0==4) (.br (eqU [43] t0.data.toList) (.out (.bool true)) (.br y2 (.out (.bool true)) (.br (eqU [42] t0.data.toList) (.out (.bool true)) (.br (eqU [47] t0.data.toList) (.out (.bool true)) (.br (eqU [37] t0.data.toList) (.out (.bool true)) (.br (eqU [61] t0.data.toList) (.out (.bool true)) (.br (eqU [33,61] t0.data.toList) (.out (.bool true)) (.br (eqU [60] t0.data.toList) (.out (.bool true)) (.br (eqU [60,61] t0.data.toList) (.out (.bool true)) (.br (eqU [62] t0.data.toList) (.out (.bool true)) (.br (eqU [62,61] t0.data.toList) (.out (.bool true)) (.br (eqU [97,110,100] t0.data.toList) (.out (.bool true)) (.br (eqU [111,114] t0.data.toList) (.out (.bool true)) (.out (.bool false))))))))))))))) (.br (k0==5) (.br (n0==0) (.out (.bool true)) (.out (.bool (n0==1)))) (.br (k0==6) (.br y1 (.out (.bool (decide (n0≤1024)))) (.out (.bool false))) (.br (k0==7) o1 (.br (k0==8) o1 (.out (.bool false))))))))))))
theorem run (k0 vk0 vn0 n0:Int) (vs0 t0:ByteArray) (a1:Int) (a2:Int) (a3:Int) (a4:Int):runK 5 [] [] 116 [.v (.agg #[.int .i64 k0,.int .i64 n0,.string t0,.int .i64 vk0,.int .i64 vn0,.string vs0]),.v (.int .i64 a1),.v (.int .i64 a2),.v (.int .i64 a3),.v (.int .i64 a4)]=(T k0 vk0 vn0 n0 vs0 t0 a1 a2 a3 a4).eval:=by kernel_rfl
theorem qN (o:O6) (i m:Int) (lf la:Int):(T o.1 o.2.2.2.1 o.2.2.2.2.1 o.2.1 o.2.2.2.2.2 o.2.2.1 i m lf la).eval=some (.bool (Ref.wb o.1 o.2.1 o.2.2.1 i m lf la)):=by
 obtain⟨k,n,t,v⟩:=o
 unfold T Ref.wb
 dsimp only[]
 simp only[GT.eval]
 simp only[kM [45],kM [110,111,116],kM [43],kM [42],kM [47],kM [37],kM [61],kM [33,61],kM [60],kM [60,61],kM [62],kM [62,61],kM [97,110,100],kM [111,114]]
 cases k==1
 rotate_left
 ·rfl
 cases k==10
 rotate_left
 ·rfl
 cases k==2
 rotate_left
 ·cases decide (n≥0)<;>rfl
 cases k==9
 rotate_left
 ·cases decide (n≥0)<;>rfl
 cases k==3
 rotate_left
 ·cases eqU t.data.toList [45]<;>cases eqU t.data.toList [110,111,116]<;>rfl
 cases k==4
 rotate_left
 ·unfold Ref.oE
  simp only[Ai,Ah,Cd]
  cases eqU t.data.toList [43]
  rotate_left
  ·rfl
  cases eqU t.data.toList [45]
  rotate_left
  ·rfl
  cases eqU t.data.toList [42]
  rotate_left
  ·rfl
  cases eqU t.data.toList [47]
  rotate_left
  ·rfl
  cases eqU t.data.toList [37]
  rotate_left
  ·rfl
  cases eqU t.data.toList [61]
  rotate_left
  ·rfl
  cases eqU t.data.toList [33,61]
  rotate_left
  ·rfl
  cases eqU t.data.toList [60]
  rotate_left
  ·rfl
  cases eqU t.data.toList [60,61]
  rotate_left
  ·rfl
  cases eqU t.data.toList [62]
  rotate_left
  ·rfl
  cases eqU t.data.toList [62,61]
  rotate_left
  ·rfl
  cases eqU t.data.toList [97,110,100]<;>cases eqU t.data.toList [111,114]<;>rfl
 cases k==5
 rotate_left
 ·cases n==0<;>rfl
 cases k==6
 rotate_left
 ·cases decide (n≥0)<;>rfl
 cases k==7<;>cases k==8<;>cases decide (n>i)<;>rfl
def spec:Spec:=fun aa=>match aa with
 |[a,.v (.int .i64 i),.v (.int .i64 m),.v (.int .i64 lf),.v (.int .i64 la)]=>(oOf a).bind fun o=>some (.out (.bool (Ref.wb o.1 o.2.1 o.2.2.1 i m lf la)))
 |_=>none
theorem qg:qu Tryz.prog La 116 spec:=⟨qD (by kernel_rfl),fun aa t v h e=>by
 unfold spec at h
 split at h
 ·rename_i a i m lf la
  obtain⟨x,h1,h⟩:=qi h
  cases h;cases e
  rw[Jl h1]
  exact⟨rfl,qS (l:=[]) (L:=[]) (n0:=5) (k:=12) qx qf qd (by simp) (by simp) (by decide) (by simp) rfl ((run _ _ _ _ _ _ _ _ _ _).trans (qN x i m lf la))⟩
 ·cases h⟩
end A116
namespace A60L1
noncomputable def cfg:Cfg:=zw Tryz.prog 4 (gpT [(115,A115.spec),(116,A116.spec)]) (ltT 4 [])
def stA (n:Nat) (lf la k wF i:Int) (m:Nat) (row:List Value):KX:=⟨[(0,.slice (some ⟨0,0,none⟩) n 6),(1,.int .i64 lf),(2,.int .i64 la),(7,.int .i64 k),(8,.slice (some ⟨104,0,none⟩) m 1),(10,.int .i64 wF),(11,.int .i64 i)],[row]⟩
def kp:Ex→List Nat
 | .normal=>[0,1,2,7,8,10,11]
 | .exit _=>[7,8,10]
 | .ret=>[6]
def cr:Ex→St→List (Nat×Bool):=fun e s=>match e with
 | .ret=>[]
 |_=>match s.T.get 8 with
  |some (.slice (some q) _ _)=>[(q.block,true)]
  |_=>[]
theorem round (n:Nat) (lf la k wF i:Int) (m:Nat) (row:List Value) (cs:List Value):zN cfg [(115,A115.spec),(116,A116.spec)] [] 60 1 (stK 148 104 [(0,cs)] (stA n lf la k wF i m row)) (zv 104 100 148 kp cr)=(let x5:=IntKind.wrap .i64 (i+1);let x3:=0+(x5.toNat*1);let x7:=0+(i.toNat*6);let x2:=rdI cs (x7+1);let x4:=0+(x2.toNat*1);let x9:=0+(i.toNat*1);let x1:=IntKind.wrap .i64 ((IntKind.wrap .i64 ((rdI row x9) - (Ref.kI (rdI cs x7) x2).1))+(Ref.kI (rdI cs x7) x2).2);let x6:=if x1>wF then x1 else wF;let x8:=rdI (zt row x3 [.int .i64 x1]) x4;let o4:Option (Ex×KX):=(bif decide (0≤x5)then(bif Nat.blt x5.toNat m then(bif Nat.ble (x3+1) row.length then(bif((zt row x3 [.int .i64 x1]).all qp&&true)then(some (.normal,⟨[(0,.slice (some ⟨0,0,none⟩) n 6),(1,.int .i64 lf),(2,.int .i64 la),(7,.int .i64 k),(8,.slice (some ⟨104,0,none⟩) m 1),(10,.int .i64 x6),(11,.int .i64 x5)],[(zt row x3 [.int .i64 x1])]⟩))else none)else none)else none)else none);let o5:Option (Ex×KX):=(some (.ret,⟨[(6,.int .i64 0)],[]⟩));let o1:Option (Ex×KX):=(bif decide (0≤x5)then(bif Nat.blt x5.toNat m then(bif Nat.ble (x3+1) row.length then(bif decide (0≤x2)then(bif Nat.blt x2.toNat m then(bif isV (zt row x3 [.int .i64 x1]) x4 (.i .i64)then(bif decide (x8≥0)then(bif decide (0≤x2)then(bif Nat.blt x2.toNat m then(bif isV (zt row x3 [.int .i64 x1]) x4 (.i .i64)then(bif(x8 != x1)then o5 else(bif decide (0≤x2)then(bif Nat.blt x2.toNat m then(bif Nat.ble (x4+1) (zt row x3 [.int .i64 x1]).length then(bif((zt (zt row x3 [Value.int .i64 x1]) x4 [.int .i64 x1]).all qp&&true)then(some (.normal,⟨[(0,.slice (some ⟨0,0,none⟩) n 6),(1,.int .i64 lf),(2,.int .i64 la),(7,.int .i64 k),(8,.slice (some ⟨104,0,none⟩) m 1),(10,.int .i64 x6),(11,.int .i64 x5)],[(zt (zt row x3 [Value.int .i64 x1]) x4 [.int .i64 x1])]⟩))else none)else none)else none)else none))else none)else none)else none)else(bif decide (0≤x2)then(bif Nat.blt x2.toNat m then(bif Nat.ble (x4+1) (zt row x3 [.int .i64 x1]).length then(bif((zt (zt row x3 [Value.int .i64 x1]) x4 [.int .i64 x1]).all qp&&true)then(some (.normal,⟨[(0,.slice (some ⟨0,0,none⟩) n 6),(1,.int .i64 lf),(2,.int .i64 la),(7,.int .i64 k),(8,.slice (some ⟨104,0,none⟩) m 1),(10,.int .i64 x6),(11,.int .i64 x5)],[(zt (zt row x3 [Value.int .i64 x1]) x4 [.int .i64 x1])]⟩))else none)else none)else none)else none))else none)else none)else none)else none)else none)else none);let o2:Option (Ex×KX):=(bif decide (0≤i)then(bif Nat.blt i.toNat n then(bif isV cs (x7+1) (.i .i64)then(bif decide (0≤x2)then(bif Nat.blt x2.toNat m then(bif isV row x4 (.i .i64)then(bif decide ((rdI row x4)≥0)then(bif decide (0≤x2)then(bif Nat.blt x2.toNat m then(bif isV row x4 (.i .i64)then(bif((rdI row x4) != x1)then o5 else(bif decide (0≤x2)then(bif Nat.blt x2.toNat m then(bif Nat.ble (x4+1) row.length then(bif((zt row x4 [.int .i64 x1]).all qp&&true)then(some (.normal,⟨[(0,.slice (some ⟨0,0,none⟩) n 6),(1,.int .i64 lf),(2,.int .i64 la),(7,.int .i64 k),(8,.slice (some ⟨104,0,none⟩) m 1),(10,.int .i64 x6),(11,.int .i64 x5)],[(zt row x4 [.int .i64 x1])]⟩))else none)else none)else none)else none))else none)else none)else none)else(bif decide (0≤x2)then(bif Nat.blt x2.toNat m then(bif Nat.ble (x4+1) row.length then(bif((zt row x4 [.int .i64 x1]).all qp&&true)then(some (.normal,⟨[(0,.slice (some ⟨0,0,none⟩) n 6),(1,.int .i64 lf),(2,.int .i64 la),(7,.int .i64 k),(8,.slice (some ⟨104,0,none⟩) m 1),(10,.int .i64 x6),(11,.int .i64 x5)],[(zt row x4 [.int .i64 x1])]⟩))else none)else none)else none)else none))else none)else none)else none)else none)else none)else none);let o3:Option (Ex×KX):=(bif decide (0≤i)then(bif Nat.blt i.toNat n then(bif isV cs (x7+1) (.i .i64)then(bif decide (0≤x5)then(bif Nat.blt x5.toNat m then(bif isV row x3 (.i .i64)then(bif decide ((rdI row x3)≥0)then(bif decide (0≤x5)then(bif Nat.blt x5.toNat m then(bif isV row x3 (.i .i64)then(bif((rdI row x3) != x1)then o5 else o1)else none)else none)else none)else o1)else none)else none)else none)else none)else none)else none);(bif decide (i<k)then(bif decide (0≤i)then(bif Nat.blt i.toNat m then(bif isV row x9 (.i .i64)then(bif decide (0≤i)then(bif Nat.blt i.toNat n then(bif isL cs x7 [(.i .i64),(.i .i64),.s,(.i .i64),(.i .i64),.s]then(bif decide (0≤i)then(bif Nat.blt i.toNat n then(bif isL cs x7 [(.i .i64),(.i .i64),.s,(.i .i64),(.i .i64),.s]then(bif(!(Ref.wb (rdI cs x7) x2 (rdS cs ((x7+1)+1)) i k lf la))then o5 else(bif decide ((rdI row x9)<(Ref.kI (rdI cs x7) x2).1)then o5 else(bif decide (x1>1024)then o5 else(bif decide (0≤i)then(bif Nat.blt i.toNat n then(bif isV cs (x7+0) (.i .i64)then(bif((rdI cs (x7+0)) != 7)then(bif decide (0≤i)then(bif Nat.blt i.toNat n then(bif isV cs (x7+0) (.i .i64)then(bif((rdI cs (x7+0))==7)then o3 else(bif decide (0≤i)then(bif Nat.blt i.toNat n then(bif isV cs (x7+0) (.i .i64)then(bif((rdI cs (x7+0))==8)then o3 else(bif decide (0≤x5)then(bif Nat.blt x5.toNat m then(bif isV row x3 (.i .i64)then(bif decide ((rdI row x3)≥0)then(bif decide (0≤x5)then(bif Nat.blt x5.toNat m then(bif isV row x3 (.i .i64)then(bif((rdI row x3) != x1)then o5 else o4)else none)else none)else none)else o4)else none)else none)else none))else none)else none)else none))else none)else none)else none)else(bif decide (0≤i)then(bif Nat.blt i.toNat n then(bif isV cs (x7+0) (.i .i64)then(bif((rdI cs (x7+0))==7)then o2 else(bif decide (0≤i)then(bif Nat.blt i.toNat n then(bif isV cs (x7+0) (.i .i64)then(bif((rdI cs (x7+0))==8)then o2 else(bif(row.all qp&&true)then(some (.normal,⟨[(0,.slice (some ⟨0,0,none⟩) n 6),(1,.int .i64 lf),(2,.int .i64 la),(7,.int .i64 k),(8,.slice (some ⟨104,0,none⟩) m 1),(10,.int .i64 x6),(11,.int .i64 x5)],[row]⟩))else none))else none)else none)else none))else none)else none)else none))else none)else none)else none))))else none)else none)else none)else none)else none)else none)else none)else none)else none)else(bif(row.all qp&&true)then(some (.exit 2,⟨[(7,.int .i64 k),(8,.slice (some ⟨104,0,none⟩) m 1),(10,.int .i64 wF)],[row]⟩))else none))):=by kernel_rfl
def qP:KX:=⟨[(6,.int .i64 0)],[]⟩
def jq (m:Nat) (k wF:Int) (row:List Value):KX:=⟨[(7,.int .i64 k),(8,.slice (some ⟨104,0,none⟩) m 1),(10,.int .i64 wF)],[row]⟩
theorem cY (l:List O6) {j:Nat} (h:j<l.length):isV (zK l) (j*6+0) (.i .i64)=true:=by
 unfold isV;rw[vl l h 0 (by omega)];rfl
theorem tB (l:List O6) {j:Nat} (h:j<l.length):isV (zK l) (j*6+1) (.i .i64)=true:=by
 unfold isV;rw[vl l h 1 (by omega)];rfl
set_option maxHeartbeats 0 in
theorem next (l:List O6) (hl:l.length≤4096) (lf la:Int) {s:List Int×Int} (hg:AHei.Good l.length s) {i:Nat} (hi:i<l.length):
  zN cfg [(115,A115.spec),(116,A116.spec)] [] 60 1 (stK 148 104 [(0,zK l)] (stA l.length lf la l.length s.2 i (l.length+1) (ints .i64 s.1))) (zv 104 100 148 kp cr)=
  some (match AHei.ZX l.length lf la s i l[i]with|some t=>(.normal,stA l.length lf la l.length t.2 ((i+1:Nat):Int) (l.length+1) (ints .i64 t.1))|none=>(.ret,qP)):=by
 rw[round]
 dsimp only[]
 have hlen:=hg.len
 have h1:decide ((i:Int)<(l.length:Int))=true:=Al (by omega)
 have h2:=geI i
 have h3:Nat.blt ((i:Int)).toNat l.length=true:=by rw[AB];simpa using hi
 have h3':Nat.blt ((i:Int)).toNat (l.length+1)=true:=by rw[AB];simp;omega
 have h4:(0+((i:Int)).toNat*6)=i*6:=by simp
 have h4':(0+((i:Int)).toNat*1)=i:=by simp
 have h5:=wrI i (by omega)
 have h6:(0+(((i+1:Nat):Int)).toNat*1)=i+1:=by simp
 have h7:decide ((0:Int)≤((i+1:Nat):Int))=true:=Al (by omega)
 have h8:Nat.blt (((i+1:Nat):Int)).toNat (l.length+1)=true:=by rw[AB,Av];omega
 have hk0:rdI (zK l) (i*6+0)=l[i].1:=XU l hi
 have hv: ∀t:List Int,t.length=l.length+1→ ∀j,j<l.length+1→isV (ints .i64 t) j (.i .i64)=true:=fun t ht j hj=>vF _ _ (by omega)
 have hr: ∀t:List Int,t.length=l.length+1→ ∀j,j<l.length+1→rdI (ints .i64 t) j=t.getD j 0:=fun t ht j hj=>A105L1.rd (by omega)
 have hp: ∀t:List Int,t.length=l.length+1→ ∀j,j<l.length+1→ ∀g:Int,zt (ints .i64 t) j [.int .i64 g]=ints .i64 (t.set j g):=fun t ht j hj g=>AHei.Zm (by omega) g
 have hb: ∀t:List Int,t.length=l.length+1→ ∀j,j<l.length+1→Nat.ble (j+1) (ints .i64 t).length=true:=fun t ht j hj=>by rw[Az,zH];omega
 have hs: ∀t:List Int,t.length=l.length+1→ ∀j,∀g:Int,(t.set j g).length=l.length+1:=fun t ht j g=>by simpa using ht
 simp only[h1,h2,h3,h3',h4,h4',h5,h6,h7,h8,xV l hi,cY l hi,tB l hi,hk0,XU l hi,YC l hi,bV l hi,hv s.1 hlen i (by omega),hr s.1 hlen i (by omega),Ai,qZ,AE,A105L1.dC]
 generalize l[i]=o at*
 unfold AHei.ZX
 generalize hh:s.1.getD i 0=h
 cases c2:Ref.wb o.1 o.2.1 o.2.2.1 i l.length lf la
 ·rfl
 cases c3:decide (h<(Ref.kI o.1 o.2.1).1)
 rotate_left
 ·rfl
 have hh1: -1≤h∧h≤1024:=by rw[←hh];exact(hg.le _ (AHei.jM (by omega)))
 simp only[Bx]at c3
 obtain⟨a1,a2⟩:=AHei.aP (k:=o.1) (n:=o.2.1) (AHei.Z2 c2)
 obtain⟨n1,n2,n3,n4⟩:=AHei.yo (k:=o.1) (n:=o.2.1) (AHei.Z2 c2)
 have hw:IntKind.wrap .i64 (IntKind.wrap .i64 (h - (Ref.kI o.1 o.2.1).1)+(Ref.kI o.1 o.2.1).2)=h - (Ref.kI o.1 o.2.1).1+(Ref.kI o.1 o.2.1).2:=by
  rw[show IntKind.wrap .i64 (h - (Ref.kI o.1 o.2.1).1)=h - (Ref.kI o.1 o.2.1).1 from kc (by omega) (by omega),kc (by omega) (by omega)]
 simp only[hw]
 generalize h - (Ref.kI o.1 o.2.1).1+(Ref.kI o.1 o.2.1).2=g at*
 cases c4:decide (g>1024)
 rotate_left
 ·rfl
 simp only[Ah,Bh,Cd]
 have hi1:i+1<l.length+1:=by omega
 have hls:=hs s.1 hlen
 unfold AHei.fX
 cases k7:o.1==7
 ·have k7' : (o.1 != 7) = true := by rw [bne, k7]; rfl
  cases k8:o.1==8
  ·simp only [k7', Ai, Ah, Cd, hv s.1 hlen _ hi1, hr s.1 hlen _ hi1, hp s.1 hlen _ hi1, hb s.1 hlen _ hi1, qZ]
   cases decide (s.1.getD (i+1) 0≥0)<;>cases s.1.getD (i+1) 0 != g<;>rfl
  ·obtain ⟨m1, m2⟩ := AHei.xz c2 (.inr (Ay.1 k8))
   obtain⟨N,hN⟩:=AG (show 0≤o.2.1 by omega)
   rw[hN]at m1 m2 ⊢
   have hNl:N<l.length+1:=by omega
   have e1:decide ((0:Int)≤(N:Int))=true:=Al (by omega)
   have e2:Nat.blt N (l.length+1)=true:=by rw[AB];exact hNl
   have e3:(0+N*1)=N:=by simp
   simp only[e1,e2,e3,Av,k7',Ai,Ah,Bb,hv s.1 hlen _ hi1,hr s.1 hlen _ hi1,hp s.1 hlen _ hi1,hb s.1 hlen _ hi1,hv _ (hls (i+1) g) _ hNl,hr _ (hls (i+1) g) _ hNl,hp _ (hls (i+1) g) _ hNl,hb _ (hls (i+1) g) _ hNl,qZ]
   cases decide (s.1.getD (i+1) 0≥0)
   ·simp only [BU, Ah, Ar]
    cases decide ((s.1.set (i+1) g).getD N 0≥0)<;>cases (s.1.set (i+1) g).getD N 0 != g<;>rfl
   ·cases s.1.getD (i + 1) 0 != g
    ·simp only [AF, Ai, Ah, Ar]
     cases decide ((s.1.set (i+1) g).getD N 0≥0)<;>cases (s.1.set (i+1) g).getD N 0 != g<;>rfl
    ·rfl
 ·have k7' : (o.1 != 7) = false := by rw [bne, k7]; rfl
  obtain⟨m1,m2⟩:=AHei.xz c2 (.inl (Ay.1 k7))
  obtain⟨N,hN⟩:=AG (show 0≤o.2.1 by omega)
  rw[hN]at m1 m2 ⊢
  have hNl:N<l.length+1:=by omega
  have e1:decide ((0:Int)≤(N:Int))=true:=Al (by omega)
  have e2:Nat.blt N (l.length+1)=true:=by rw[AB];exact hNl
  have e3:(0+N*1)=N:=by simp
  simp only[e1,e2,e3,Av,k7',Ai,Ah,B2,Ar,hv s.1 hlen N hNl,hr s.1 hlen N hNl,hp s.1 hlen N hNl,hb s.1 hlen N hNl,qZ]
  cases decide (s.1.getD N 0≥0)<;>cases s.1.getD N 0 != g<;>rfl
theorem last (l:List O6) (lf la:Int) {s:List Int×Int} (hg:AHei.Good l.length s):
  zN cfg [(115,A115.spec),(116,A116.spec)] [] 60 1 (stK 148 104 [(0,zK l)] (stA l.length lf la l.length s.2 l.length (l.length+1) (ints .i64 s.1))) (zv 104 100 148 kp cr)=
  some (.exit 2,jq (l.length+1) l.length s.2 (ints .i64 s.1)):=by
 rw[round]
 dsimp only[]
 have h1:decide ((l.length:Int)<(l.length:Int))=false:=An (by omega)
 simp only[h1,Ah,qZ,AE,Ai]
 rfl
def D:KD:=⟨148,104,100,[0,1,2,7,8,10,11],[0],fun s=>match s.T.get 8 with
 |some (.slice (some q) _ _)=>[(q.block,true)]
 |_=>[],fun x ro=>match x.vs,x.cars,ro with
 |[(0,.slice (some ⟨0,0,none⟩) n 6),(1,.int .i64 lf),(2,.int .i64 la),(7,.int .i64 k),(8,.slice (some ⟨104,0,none⟩) p 1),(10,.int .i64 0),(11,.int .i64 0)],[row],[(0,cs)]=>
  .qI (wP n k cs&&(Nat.ble n 4096&&(Nat.beq p (n+1)&&AHei.isF n row))) (.br (AHei.j4 k lf la (opsOf cs) (AHei.first n,0)) (.out (.exit 2,jq p k (AHei.wF k lf la (opsOf cs) (AHei.first n,0)) (ints .i64 (AHei.j9 k lf la (opsOf cs) (AHei.first n,0))))) (.out (.ret,qP)))
 |_,_,_=> .no⟩
def lp:LpK:=⟨60,12,1,D⟩
theorem chain {Step:KX→Ex→KX→Prop} {l:List O6} {lf la:Int} (hl:l.length≤4096)
  (hn: ∀s i (hi:i<l.length),AHei.Good l.length s→match AHei.ZX l.length lf la s i l[i]with|some t=>Step (stA l.length lf la l.length s.2 i (l.length+1) (ints .i64 s.1)) .normal (stA l.length lf la l.length t.2 ((i+1:Nat):Int) (l.length+1) (ints .i64 t.1))|none=>Step (stA l.length lf la l.length s.2 i (l.length+1) (ints .i64 s.1)) .ret qP)
  (he: ∀s,AHei.Good l.length s→Step (stA l.length lf la l.length s.2 l.length (l.length+1) (ints .i64 s.1)) (.exit 2) (jq (l.length+1) l.length s.2 (ints .i64 s.1))):
  ∀(j i:Nat) (s:List Int×Int),i+j=l.length→AHei.Good l.length s→match AHei.cK l.length lf la i (l.drop i) s with|some t=>zI Step (stA l.length lf la l.length s.2 i (l.length+1) (ints .i64 s.1)) (.exit 2) (jq (l.length+1) l.length t.2 (ints .i64 t.1))|none=>zI Step (stA l.length lf la l.length s.2 i (l.length+1) (ints .i64 s.1)) .ret qP
 |0,i,s,h,hg=>by
  obtain rfl:i=l.length:=by omega
  rw[B6]
  exact .stop (by simp) (he s hg)
 |j+1,i,s,h,hg=>by
  have hi:i<l.length:=by omega
  rw[A8 hi]
  unfold AHei.cK
  have hs:=hn s i hi hg
  cases e:AHei.ZX l.length lf la s i l[i]with
  |none=>rw[e]at hs;exact .stop (by simp) hs
  |some t=>
   rw[e]at hs
   have hgt:=AHei.yQ hg (AHei.Xz▸e)
   have ih:=chain hl hn he j (i+1) t (by omega) hgt
   simp only[Ar]
   cases e2:AHei.cK l.length lf la (i+1) (l.drop (i+1)) t with
   |none=>rw[e2]at ih;exact .next hs ih
   |some u=>rw[e2]at ih;exact .next hs ih
theorem qE:zq Tryz.prog La 4 lp:=by
 refine⟨by kernel_rfl,fun c base I hP hn hG hI hIL x ro ex y e=> ?_⟩
 obtain⟨vs,cars⟩:=x
 simp only[lp,D]at e ⊢
 split at e
 ·rename_i n lf la k p row cs
  obtain⟨g1,g2⟩:=GT.qh e
  simp only[Ag]at g1
  obtain⟨g3,g4,g5,g6⟩:=g1
  obtain⟨rfl,hn2,h4,h5⟩:=jd g3
  generalize opsOf cs=l at h4 h5 g2
  subst h4 h5
  have g4:=AW g4
  obtain rfl:=Am g5
  obtain rfl:=AHei.fm g6
  have key:=chain (Step:= @zy (zL base) c base I (qV Tryz.prog 60 1) 148 104 100 [(0,zK l)]) (lf:=lf) (la:=la) g4 (fun s i hi hg=>by
    have hr:=next l g4 lf la hg hi
    cases hs:AHei.ZX l.length lf la s i l[i]with
    |none=>rw[hs]at hr;exact stepT qf qd (by simpa using⟨A115.qg,A116.qg⟩) (by simp) hP hn hG hI hIL hr
    |some t=>rw[hs]at hr;exact stepT qf qd (by simpa using⟨A115.qg,A116.qg⟩) (by simp) hP hn hG hI hIL hr)
   (fun s hg=>stepT qf qd (by simpa using⟨A115.qg,A116.qg⟩) (by simp) hP hn hG hI hIL (last l lf la hg)) l.length 0 (AHei.first l.length,0) (by omega) (AHei.wW _)
  rw[AD,AHei.aw]at key
  unfold AHei.j4 AHei.wF AHei.j9 at g2
  cases hrun:AHei.run l.length lf la 0 l (AHei.first l.length,0)with
  |none=>
   rw[hrun]at key
   rw[show (Int.ofNat l.length)=(l.length:Int)from rfl,hrun]at g2
   cases g2;exact key
  |some t=>
   rw[hrun]at key
   rw[show (Int.ofNat l.length)=(l.length:Int)from rfl,hrun]at g2
   cases g2;exact key
 ·cases e
end A60L1
namespace A60
def T (m0:Nat) (c0:List Value) (a1:Int) (a2:Int):GT Value:=let y1:=Int.ofNat m0;let x1:=AHei.j9 y1 a1 a2 (opsOf c0) ((AHei.first m0),0);let x2:=0+(y1.toNat*1);let y3:=x1.map (Value.int IntKind.i64);(.br (y1==0) (.out (.int .i64 0)) (.br (decide (y1>4096)) (.out (.int .i64 0)) (.br (decide (y1=y1)&&Nat.ble m0 4096) (.br (((Value.int .i64 0::AHei.VE m0).all qp&&true)&&(c0.all qp&&true)) (.br ((wP m0 y1 c0)&&(Nat.ble m0 4096&&(Nat.beq (m0+1) (m0+1)&&(AHei.isF m0 (Value.int .i64 0::AHei.VE m0))))) (.br (AHei.j4 y1 a1 a2 (opsOf c0) ((AHei.first m0),0)) (.br (Nat.blt y1.toNat (m0+1)) (.br (isV y3 x2 (.i .i64)) (.br ((rdI y3 x2) != 1) (.out (.int .i64 0)) (.out (.int .i64 (AHei.wF y1 a1 a2 (opsOf c0) ((AHei.first m0),0))))) .no) .no) (.out (.int .i64 0))) .no) .no) .no)))
theorem run (m0:Nat) (c0:List Value) (a1:Int) (a2:Int):runK 4 [(115,A115.spec),(116,A116.spec)] [A60L0.lp,A60L1.lp] 60 [.sl m0 6 c0,.v (.int .i64 a1),.v (.int .i64 a2)]=(T m0 c0 a1 a2).eval:=by kernel_rfl
theorem qN (l:List O6) (lf la:Int) (hl:l.length<2199023255552):(T l.length (zK l) lf la).eval=some (.int .i64 (AHei.xy lf la l)):=by
 have e0:Int.ofNat l.length=(l.length:Int):=rfl
 unfold T AHei.xy
 simp only[GT.eval,e0]
 cases h0:(l.length:Int)==0
 rotate_left
 ·rfl
 have h0':=Ao.1 h0
 cases h1:decide ((l.length:Int)>4096)
 rotate_left
 ·rfl
 have h1':l.length≤4096:=by have:=of_decide_eq_false h1;omega
 have a8:(Value.int .i64 0::AHei.VE l.length)=ints .i64 (AHei.first l.length):=rfl
 have a9:wP l.length (l.length:Int) (zK l)=true:=jj l hl
 have a10:Nat.ble l.length 4096=true:=by rw[Az];exact h1'
 have a11:AHei.isF l.length (ints .i64 (AHei.first l.length))=true:=AHei.fP _
 have a12:Nat.blt l.length (l.length+1)=true:=by rw[AB];omega
 have a13:0+l.length*1=l.length:=by omega
 simp only[a8,a9,a10,a11,a12,a13,Av,qZ,vo,zo,decide_true,A5,AI,AE,AF,Ai,Ah]
 cases hf:AHei.j4 l.length lf la l (AHei.first l.length,0)
 ·rfl
 ·have ht := AHei.Vo hf
  have hlt:l.length<(AHei.j9 l.length lf la l (AHei.first l.length,0)).length:=by omega
  have b1:=vF .i64 _ hlt
  have b2:=A105L1.rd hlt
  unfold ints at b1 b2
  simp only[b1,b2,Ai]
  cases (AHei.j9 l.length lf la l (AHei.first l.length,0)).getD l.length 0 != 1<;>rfl
def spec:Spec:=fun aa=>match aa with
 |[.sl n 6 cs,.v (.int .i64 lf),.v (.int .i64 la)]=>some (.qI (wP n (Int.ofNat n) cs) (.out (.int .i64 (AHei.xy lf la (opsOf cs)))))
 |_=>none
theorem qg:qu Tryz.prog La 60 spec:=⟨qD (by kernel_rfl),fun aa t v h e=>by
 unfold spec at h
 split at h
 ·rename_i n cs lf la
  cases h
  obtain⟨g1,g2⟩:=GT.qh e
  cases g2
  obtain⟨_,hn,h4,h5⟩:=jd g1
  generalize opsOf cs=l at h4 h5
  subst h4 h5
  exact⟨rfl,qS (n0:=4) (k:=12) qx qf qd (by simpa using⟨A115.qg,A116.qg⟩) (by simpa using⟨A60L0.qE,A60L1.qE⟩) (by decide) (by simp) rfl ((run _ _ _ _).trans (qN l lf la hn))⟩
 ·cases h⟩
end A60
namespace A21
def T (m0:Nat) (c0:List Value) (a1:Int) (a2:Int):GT Value:=let y1:=(c0.drop 0).take (m0*6);(.br ((Nat.ble (0+(m0*6)) c0.length&&y1.all qp)&&(true&&(true&&true))) (.br (wP m0 (Int.ofNat m0) y1) (.br ((AHei.xy a1 a2 (opsOf y1))==0) (.out (.int .i64 120)) (.out (.int .i64 0))) .no) .no)
theorem run (m0:Nat) (c0:List Value) (a1:Int) (a2:Int):runK 4 [(60,A60.spec)] [] 21 [.sl m0 6 c0,.v (.int .i64 a1),.v (.int .i64 a2)]=(T m0 c0 a1 a2).eval:=by kernel_rfl
theorem Q9 (l:List O6):((zK l).drop 0).take (l.length*6)=zK l:=by rw[AD,AJ (by rw[je];exact Aw _)]
theorem qN (l:List O6) (lf la:Int) (hl:l.length<2199023255552):(T l.length (zK l) lf la).eval=some (.int .i64 (AHei.kK lf la l)):=by
 unfold T AHei.kK
 have h1:Nat.ble (0+l.length*6) (zK l).length=true:=by rw[Az,je];omega
 have h2:wP l.length (Int.ofNat l.length) (zK l)=true:=jj l hl
 simp only[Q9,h1,h2,vo,zo,GT.eval,AHei.VD,AI,Ai]
 cases (AHei.kh lf la l).2<;>rfl
def spec:Spec:=fun aa=>match aa with
 |[.sl n 6 cs,.v (.int .i64 lf),.v (.int .i64 la)]=>some (.qI (wP n (Int.ofNat n) cs) (.out (.int .i64 (AHei.kK lf la (opsOf cs)))))
 |_=>none
theorem qg:qu Tryz.prog La 21 spec:=⟨qD (by kernel_rfl),fun aa t v h e=>by
 unfold spec at h
 split at h
 ·rename_i n cs lf la
  cases h
  obtain⟨g1,g2⟩:=GT.qh e
  cases g2
  obtain⟨_,hn,h4,h5⟩:=jd g1
  generalize opsOf cs=l at h4 h5
  subst h4 h5
  exact⟨rfl,qS (n0:=4) (k:=12) qx qf qd (by simpa using A60.qg) (by simp) (by decide) (by simp) rfl ((run _ _ _ _).trans (qN l lf la hn))⟩
 ·cases h⟩
end A21
namespace A55
def T (m0:Nat) (c0:List Value) (a1:Int) (a2:Int):GT Value:=let y1:=(c0.drop 0).take (m0*6);(.br (true&&(c0.all qp&&true)) (.br (Nat.beq m0 m0&&(wP m0 (Int.ofNat m0) c0)) (.br ((opsOf c0).any (AHei.bad a1 a2)) (.out (.int .i64 120)) (.br ((Nat.ble (0+(m0*6)) c0.length&&y1.all qp)&&true) (.br (wP m0 (Int.ofNat m0) y1) (.br (!(AHei.kh 9223372036854775807 9223372036854775807 (opsOf y1)).2) (.out (.int .i64 120)) (.out (.int .i64 0))) .no) .no)) .no) .no)
theorem run (m0:Nat) (c0:List Value) (a1:Int) (a2:Int):runK 4 [(105,A105.spec)] [A55L0.lp] 55 [.sl m0 6 c0,.v (.int .i64 a1),.v (.int .i64 a2)]=(T m0 c0 a1 a2).eval:=by kernel_rfl
theorem qN (l:List O6) (lf la:Int) (hl:l.length<2199023255552) (hf:lf≤9223372036854775807) (ha:la≤9223372036854775807):(T l.length (zK l) lf la).eval=some (.int .i64 (AHei.kK lf la l)):=by
 unfold T
 rw[←AHei.dP hf ha l]
 have h1:Nat.ble (0+l.length*6) (zK l).length=true:=by rw[Az,je];omega
 have h2:wP l.length (Int.ofNat l.length) (zK l)=true:=jj l hl
 simp only[A21.Q9,h1,h2,vo,zo,GT.eval,AI,Ai,A5]
 cases l.any (AHei.bad lf la)<;>cases (AHei.kh 9223372036854775807 9223372036854775807 l).2<;>rfl
def spec:Spec:=fun aa=>match aa with
 |[.sl n 6 cs,.v (.int .i64 lf),.v (.int .i64 la)]=>some (.qI (wP n (Int.ofNat n) cs&&(inR lf&&inR la)) (.out (.int .i64 (AHei.kK lf la (opsOf cs)))))
 |_=>none
theorem qg:qu Tryz.prog La 55 spec:=⟨qD (by kernel_rfl),fun aa t v h e=>by
 unfold spec at h
 split at h
 ·rename_i n cs lf la
  cases h
  obtain⟨g1,g2⟩:=GT.qh e
  cases g2
  simp only[Ag]at g1
  obtain⟨g1,g3,g4⟩:=g1
  have g3:=Ari.vR.1 g3
  have g4:=Ari.vR.1 g4
  obtain⟨_,hn,h4,h5⟩:=jd g1
  generalize opsOf cs=l at h4 h5
  subst h4 h5
  exact⟨rfl,qS (n0:=4) (k:=12) qx qf qd (by simpa using A105.qg) (by simpa using A55L0.qE) (by decide) (by simp) rfl ((run _ _ _ _).trans (qN l lf la hn (by omega) (by omega)))⟩
 ·cases h⟩
end A55
namespace A16
def T (m0:Nat) (c0:List Value) (m1:Nat) (c1:List Value) (m2:Nat) (c2:List Value):GT Value:=let x1:=AMac.ZY c0 c1 c2;let y1:=(c0.drop 0).take (m0*6);(.br ((Nat.ble (0+(m0*6)) c0.length&&y1.all qp)&&(true&&(true&&true))) (.br ((wP m0 (Int.ofNat m0) y1)&&((inR (Int.ofNat m1))&&(inR (Int.ofNat m2)))) (.br ((AHei.kK (Int.ofNat m1) (Int.ofNat m2) (opsOf y1)) != 0) (.out (.tuple #[.agg #[.int .i64 0,.int .i64 0,.string ⟨#[]⟩],.int .i64 120])) (.br ((true&&(true&&true))&&(c0.all qp&&(c1.all qp&&(c2.all qp&&true)))) (.br (AMac.gd m0 m1 m2 c0 c1 c2) (.br (AMac.ZT c0 c1 c2) (.out (.tuple #[.agg #[.int .i64 0,.int .i64 0,.string ⟨#[]⟩],.int .i64 (AMac.err c0 c1 c2)])) (.br (isL x1 0 [(.i .i64),(.i .i64),.s]) (.out (.tuple #[.agg #[.int .i64 (rdI x1 0),.int .i64 (rdI x1 1),.string (rdS x1 2)],.int .i64 0])) .no)) .no) .no)) .no) .no)
theorem run (m0:Nat) (c0:List Value) (m1:Nat) (c1:List Value) (m2:Nat) (c2:List Value):runK 4 [(55,A55.spec)] [A16L0.lp] 16 [.sl m0 6 c0,.sl m1 3 c1,.sl m2 3 c2]=(T m0 c0 m1 c1 m2 c2).eval:=by kernel_rfl
theorem Xc {row aggs:List W3} {ops:List O6} (hc:(AHei.kh row.length aggs.length ops).2=true) (ho: ∀o∈ops,Ari.I o.2.2.2) (hr: ∀v∈row,Ari.I v) (ha: ∀v∈aggs,Ari.I v) {p:List W3×List Value} (e:AMac.w9 row aggs ops ops.length 0 [] []= .inl p): ∃v,p.1=[v]:=by
 obtain⟨hl,T,T0,T1,hT⟩:=AHei.QB hc
 have key:=A16L0.WB (Step:=fun _ _ _=>True) hT T1 hr ha ho (fun _ _ _ _ _ _=>trivial) (fun _ _ _=>trivial) (fun _ _ _=>trivial) ops.length 0 (by omega) ⟨by omega,by rw[T0];rfl,fun v hv=>absurd hv (AZ)⟩
 rw[e]at key
 obtain⟨v,hv⟩:=List.length_eq_one_iff.1 key.2
 exact⟨v,hv⟩
theorem eu {row aggs:List W3} {ops:List O6} (h:AHei.kK row.length aggs.length ops=0):AMac.wB row aggs ops=match AMac.w9 row aggs ops ops.length 0 [] []with
  | .inl p=>(p.1.getD 0 v0,0)
  | .inr e=>(v0,e):=by
 unfold AMac.wB
 rw[h,←AMac.JQ row aggs ops ops.length 0 [] []]
 cases AMac.w9 row aggs ops ops.length 0 [] []<;>rfl
theorem qN (ops:List O6) (row aggs:List W3) (hl:ops.length<2199023255552) (hrl:row.length<6000000000000) (hal:aggs.length<6000000000000) (ho: ∀o∈ops,Ari.I o.2.2.2) (hr: ∀v∈row,Ari.I v) (ha: ∀v∈aggs,Ari.I v):
  (T ops.length (zK ops) row.length (qm row) aggs.length (qm aggs)).eval=some (ve (AMac.wB row aggs ops)):=by
 have e1:Nat.ble (0+ops.length*6) (zK ops).length=true:=by rw[Az,je];omega
 have e2:wP ops.length (Int.ofNat ops.length) (zK ops)=true:=jj ops hl
 have e3: ∀n:Nat,n<6000000000000→inR (Int.ofNat n)=true:=fun n h=>Ari.vR.2 (by show -9223372036854775808≤(n:Int)∧(n:Int)<_;omega)
 unfold T
 simp only[A21.Q9,e1,e2,e3 _ hrl,e3 _ hal,vo,qO,zo,GT.eval,AI,AE,AF,Ai]
 cases hc:AHei.kK (Int.ofNat row.length) (Int.ofNat aggs.length) ops != 0
 rotate_left
 ·have hc' : (AHei.kK (row.length : Int) (aggs.length : Int) ops != 0) = true := hc
  unfold AMac.wB
  rw[hc'];rfl
 have hc0:AHei.kK (row.length:Int) (aggs.length:Int) ops=0:=by
  have:(AHei.kK (row.length:Int) (aggs.length:Int) ops != 0)=false:=hc
  simpa[bne]using this
 have hh:(AHei.kh row.length aggs.length ops).2=true:=by
  unfold AHei.kK at hc0
  cases e:(AHei.kh row.length aggs.length ops).2
  ·rw[e]at hc0;cases hc0
  ·rfl
 have hgd:AMac.gd ops.length row.length aggs.length (zK ops) (qm row) (qm aggs)=true:=by
  unfold AMac.gd
  rw[zo,zn,zn]
  simp only[Ag,Ap]
  exact⟨e2,A16L0.vu row hrl,A16L0.vu aggs hal,ho,hr,ha,by rw[hc0];rfl⟩
 rw[eu hc0]
 simp only[hgd,Ai,Ah]
 unfold AMac.ZT AMac.err AMac.ZY
 rw[zo,zn,zn]
 cases hrun:AMac.w9 row aggs ops ops.length 0 [] []with
 |inr x=>rfl
 |inl p=>
  obtain⟨v,hv⟩:=Xc hh ho hr ha hrun
  dsimp only[]
  rw[hv]
  rfl
def spec:Spec:=fun aa=>match aa with
 |[.sl n 6 cs,.sl nr 3 rs,.sl na 3 as_]=>some (.qI (AMac.gd0 n nr na cs rs as_) (.out (ve (AMac.wB (qj rs) (qj as_) (opsOf cs)))))
 |_=>none
theorem Yi {n nr na:Nat} {cs rs as_:List Value} (h:AMac.gd0 n nr na cs rs as_=true): ∃(ops:List O6) (row aggs:List W3),cs=zK ops∧rs=qm row∧as_=qm aggs∧n=ops.length∧nr=row.length∧na=aggs.length∧(∀o∈ops,Ari.I o.2.2.2)∧(∀v∈row,Ari.I v)∧(∀v∈aggs,Ari.I v)∧n<2199023255552∧nr<6000000000000∧na<6000000000000:=by
 unfold AMac.gd0 at h
 simp only[Ag,Ap]at h
 obtain⟨h1,h2,h3,h4,h5,h6⟩:=h
 obtain⟨_,a0,a1,a2⟩:=jd h1
 obtain⟨_,b0,b1,b2⟩:=zM h2
 obtain⟨_,c0,c1,c2⟩:=zM h3
 exact⟨opsOf cs,qj rs,qj as_,a1,b1,c1,a2.symm,b2.symm,c2.symm,h4,h5,h6,a0,b0,c0⟩
theorem qg:qu Tryz.prog La 16 spec:=⟨qD (by kernel_rfl),fun aa t v h e=>by
 unfold spec at h
 split at h
 ·rename_i n cs nr rs na as_
  cases h
  obtain⟨g1,g2⟩:=GT.qh e
  cases g2
  obtain⟨ops,row,aggs,rfl,rfl,rfl,rfl,rfl,rfl,ho,hr,ha,h1,h2,h3⟩:=Yi g1
  rw[zo,zn,zn]
  exact⟨rfl,qS (n0:=4) (k:=12) qx qf qd (by simpa using A55.qg) (by simpa using A16L0.qE) (by decide) (by simp) rfl ((run _ _ _ _ _ _).trans (qN ops row aggs h1 h2 h3 ho hr ha))⟩
 ·cases h⟩
end A16
namespace A22L0N
noncomputable def cfg:Cfg:=zw Tryz.prog 4 (gpT [(16,tol [6,3,3] A16.spec)]) (ltT 4 [])
def stA (n nr:Nat) (i:Int) (cs:List Value):KX:=⟨[(1,.slice (some ⟨1,0,none⟩) nr 3),(2,.slice none 0 0),(8,.slice none 0 0),(13,.func (.yield 1) ⟨[.int .i64 (Int.ofNat n)]⟩ ⟨cs⟩),(14,.int .i64 (Int.ofNat n)),(15,.int .i64 i)],[]⟩
def kp:Ex→List Nat
 | .normal=>[1,2,8,13,14,15]
 | .exit _=>[8]
 | .ret=>[6,7]
def cr:Ex→St→List (Nat×Bool):=fun e s=>match e with
 | .ret=>[]
 |_=>match s.T.get 8 with
  |some (.slice (some p) _ _)=>[(p.block,true)]
  |_=>[]
theorem round (n nr:Nat) (i:Int) (cs:List Value) (rs:List Value):zN cfg [(16,tol [6,3,3] A16.spec)] [] 22 0 (stK 35 4 [(1,rs)] (stA n nr i cs)) (zv 4 100 35 kp cr)=(let y1:=cs.drop (i.toNat*1);let y2:=(rs.drop 0).take (nr*3);let x1:=AMac.wB (qj y2) (qj []) (opsOf (rdC y1 0));(bif decide (i<(Int.ofNat n))then(bif decide (0≤i)then(bif Nat.blt i.toNat n then(bif isV y1 0 .t then(bif(true&&((Nat.ble (0+(nr*3)) rs.length&&y2.all qp)&&(true&&true)))then(bif((Nat.beq (rdZ y1 0) 6&&(rdC y1 0).all qp)&&true)then(bif(AMac.gd0 (rdN y1 0) nr 0 (rdC y1 0) y2 [])then(bif(x1.2 != 0)then(some (.ret,⟨[(6,.slice none 0 0),(7,.int .i64 x1.2)],[]⟩))else(some (.normal,⟨[(1,.slice (some ⟨1,0,none⟩) nr 3),(2,.slice none 0 0),(8,.slice (some ⟨4,0,none⟩) 1 3),(13,.func (.yield 1) ⟨[.int .i64 (Int.ofNat n)]⟩ ⟨cs⟩),(14,.int .i64 (Int.ofNat n)),(15,.int .i64 (IntKind.wrap .i64 (i+1)))],[[.int .i64 x1.1.1,.int .i64 x1.1.2.1,.string x1.1.2.2]]⟩)))else none)else none)else none)else none)else none)else none)else(some (.exit 0,⟨[(8,.slice none 0 0)],[]⟩)))):=by kernel_rfl
end A22L0N
namespace A22L0R
noncomputable def cfg:Cfg:=zw Tryz.prog 4 (gpT [(16,tol [6,3,3] A16.spec)]) (ltT 4 [])
def stA (n nr k:Nat) (i:Int) (cs row:List Value):KX:=⟨[(1,.slice (some ⟨1,0,none⟩) nr 3),(2,.slice none 0 0),(8,.slice (some ⟨4,0,none⟩) k 3),(13,.func (.yield 1) ⟨[.int .i64 (Int.ofNat n)]⟩ ⟨cs⟩),(14,.int .i64 (Int.ofNat n)),(15,.int .i64 i)],[row]⟩
def kp:Ex→List Nat
 | .normal=>[1,2,8,13,14,15]
 | .exit _=>[8]
 | .ret=>[6,7]
def cr:Ex→St→List (Nat×Bool):=fun e s=>match e with
 | .ret=>[]
 |_=>match s.T.get 8 with
  |some (.slice (some p) _ _)=>[(p.block,true)]
  |_=>[]
theorem round (n nr k:Nat) (i:Int) (cs row:List Value) (rs:List Value):zN cfg [(16,tol [6,3,3] A16.spec)] [] 22 0 (stK 35 4 [(1,rs)] (stA n nr k i cs row)) (zv 4 100 35 kp cr)=(let y1:=cs.drop (i.toNat*1);let y3:=(rs.drop 0).take (nr*3);let x1:=AMac.wB (qj y3) (qj []) (opsOf (rdC y1 0));let y2:=((row.drop 0).take (k*3))++[Value.int .i64 x1.1.1,.int .i64 x1.1.2.1,.string x1.1.2.2];(bif decide (i<(Int.ofNat n))then(bif decide (0≤i)then(bif Nat.blt i.toNat n then(bif isV y1 0 .t then(bif(true&&((Nat.ble (0+(nr*3)) rs.length&&y3.all qp)&&(true&&true)))then(bif((Nat.beq (rdZ y1 0) 6&&(rdC y1 0).all qp)&&true)then(bif(AMac.gd0 (rdN y1 0) nr 0 (rdC y1 0) y3 [])then(bif(x1.2 != 0)then(some (.ret,⟨[(6,.slice none 0 0),(7,.int .i64 x1.2)],[]⟩))else(bif Nat.ble (k+1) 200000000000000 then(bif Nat.ble ((k+1)*32) 200000000000000 then(bif Nat.ble (0+(k*3)) row.length then(bif(y2.all qp&&true)then(some (.normal,⟨[(1,.slice (some ⟨1,0,none⟩) nr 3),(2,.slice none 0 0),(8,.slice (some ⟨4,0,none⟩) (k+1) 3),(13,.func (.yield 1) ⟨[.int .i64 (Int.ofNat n)]⟩ ⟨cs⟩),(14,.int .i64 (Int.ofNat n)),(15,.int .i64 (IntKind.wrap .i64 (i+1)))],[y2]⟩))else none)else none)else none)else none))else none)else none)else none)else none)else none)else none)else(bif(row.all qp&&true)then(some (.exit 0,⟨[(8,.slice (some ⟨4,0,none⟩) k 3)],[row]⟩))else none))):=by kernel_rfl
end A22L0R
namespace A22L0
def st (row:List W3) (l:List (List O6)) (j:Nat):KX:=bif Nat.beq j 0 then A22L0N.stA l.length row.length (j:Int) (l.map kZ)else A22L0R.stA l.length row.length j (j:Int) (l.map kZ) (qm (AAll.acc row l j))
def qP (e:Int):KX:=⟨[(6,.slice none 0 0),(7,.int .i64 e)],[]⟩
def exN:KX:=⟨[(8,.slice none 0 0)],[]⟩
def exR (n:Nat) (row:List Value):KX:=⟨[(8,.slice (some ⟨4,0,none⟩) n 3)],[row]⟩
abbrev sp:List (FuncId×Spec):=[(16,tol [6,3,3] A16.spec)]
theorem zZ: ∀p∈sp,qu Tryz.prog La p.1 p.2:=by simpa[sp]using A16.qg.tol [6,3,3]
theorem fresh {row:List W3} {l:List (List O6)} (hl:l.length<6000000000000) (hr:row.length<6000000000000) (ho: ∀ops∈l,ops.length<2199023255552∧ ∀o∈ops,inR o.2.2.2.2.1=true) (hi: ∀v∈row,inR v.2.1=true) {j:Nat} (hj:j<l.length):
  zN A22L0N.cfg sp [] 22 0 (stK 35 4 [(1,qm row)] (st row l j)) (zv 4 100 35 A22L0N.kp A22L0N.cr)=some (bif AAll.bad row l[j]then(.ret,qP (AMac.wB row [] l[j]).2)else(.normal,st row l (j+1))):=by
 have h1:=ltI hj
 have h2:=geI j
 have h3:=j7 hj
 have h5:=wrI j (by omega)
 have hm:=Bf hj
 have g1:=AAll.fA (ho _ hm).1 hr (ho _ hm).2 hi
 have v0':qj []=[]:=rfl
 have b6:Nat.beq 6 6=true:=rfl
 cases j with
 |zero=>
  have hr:=A22L0N.round l.length row.length ((0:Nat):Int) (l.map kZ) (qm row)
  dsimp only[]at hr
  simp only[h1,h2,h3,h5,AAll.t1 l hj,AAll.t2 l hj,AAll.t3 l hj,AAll.t4 l hj,AAll.r1,AAll.r2,qO,vo,b6,g1,zo,zn,v0',Ai,AI,AE,AF]at hr
  refine hr.trans ?_
  unfold AAll.bad
  cases (AMac.wB row [] l[0]).2 != 0
  ·have e : st row l (0 + 1) = A22L0R.stA l.length row.length 1 ((0 + 1 : Nat) : Int) (l.map kZ) (qm (AAll.acc row l (0 + 1))) := rfl
   rw[e,AAll.Q7 row l hj];rfl
  ·rfl
 |succ j=>
  have hk:=AAll.an row l (AV hj)
  have hr:=A22L0R.round l.length row.length (j+1) ((j+1:Nat):Int) (l.map kZ) (qm (AAll.acc row l (j+1))) (qm row)
  have q1:((qm (AAll.acc row l (j+1))).drop 0).take ((j+1)*3)=qm (AAll.acc row l (j+1)):=by
   have:=AAll.r2 (AAll.acc row l (j+1))
   rwa [hk]at this
  have q2:Nat.ble (j+1+1) 200000000000000=true:=by rw[Az];omega
  have q3:Nat.ble ((j+1+1)*32) 200000000000000=true:=by rw[Az];omega
  have q4:Nat.ble (0+(j+1)*3) (qm (AAll.acc row l (j+1))).length=true:=by rw[Az,zh,hk];omega
  have sc3: ∀(m:List W3) (a b:Int) (c:ByteArray),(qm m++[Value.int .i64 a,.int .i64 b,.string c]).all qp=true:=fun m a b c=>by rw[BP,qO];rfl
  dsimp only[]at hr
  simp only[h1,h2,h3,h5,AAll.t1 l hj,AAll.t2 l hj,AAll.t3 l hj,AAll.t4 l hj,AAll.r1,AAll.r2,qO,vo,b6,g1,zo,zn,v0',q1,q2,q3,q4,sc3,Ai,AI,AE,AF]at hr
  refine hr.trans ?_
  unfold AAll.bad
  cases (AMac.wB row [] l[j+1]).2 != 0
  ·have e : st row l (j + 1 + 1) = A22L0R.stA l.length row.length (j + 1 + 1) ((j + 1 + 1 : Nat) : Int) (l.map kZ) (qm (AAll.acc row l (j + 1 + 1))) := rfl
   rw[e,AAll.Q7 row l hj,←AAll.snoc];rfl
  ·rfl
theorem last (row:List W3) (l:List (List O6)):zN A22L0N.cfg sp [] 22 0 (stK 35 4 [(1,qm row)] (st row l l.length)) (zv 4 100 35 A22L0N.kp A22L0N.cr)=some (bif Nat.beq l.length 0 then(.exit 0,exN)else(.exit 0,exR l.length (qm (l.map (AAll.val row))))):=by
 have h1:=j6 l.length
 cases hl:l.length with
 |zero=>
  have hr:=A22L0N.round l.length row.length (l.length:Int) (l.map kZ) (qm row)
  dsimp only[]at hr
  simp only[h1,Ah]at hr
  have e:st row l 0=A22L0N.stA l.length row.length (l.length:Int) (l.map kZ):=by rw[hl];unfold st;rw[hl];rfl
  rw[e];exact hr
 |succ j=>
  have hr:=A22L0R.round l.length row.length l.length (l.length:Int) (l.map kZ) (qm (AAll.acc row l l.length)) (qm row)
  dsimp only[]at hr
  simp only[h1,Ah,qO,AE,Ai]at hr
  have e:st row l (j+1)=A22L0R.stA l.length row.length l.length (l.length:Int) (l.map kZ) (qm (AAll.acc row l l.length)):=by rw[hl];unfold st;rw[hl];rfl
  rw[e]
  refine hr.trans ?_
  rw[AAll.aF,hl];rfl
def D:KD:=⟨35,4,100,[1,2,8,13,14,15],[1],fun _=>[],fun x ro=>match x.vs,x.cars,ro with
 |[(1,.slice (some ⟨1,0,none⟩) nr 3),(2,.slice none 0 0),(8,.slice none 0 0),(13,.func (.yield 1) ⟨[.int .i64 (.ofNat n)]⟩ ⟨cs⟩),(14,.int .i64 m),(15,.int .i64 0)],[],[(1,rs)]=>
  .qI (m==Int.ofNat n&&Z9 n cs&&(kV nr (Int.ofNat nr) rs&&(qj rs).all (fun v=>inR v.2.1))) (.br (AAll.err (qj rs) (xn cs) != 0) (.out (.ret,qP (AAll.err (qj rs) (xn cs)))) (.br (Nat.beq n 0) (.out (.exit 0,exN)) (.out (.exit 0,exR n (AAll.Ya rs cs)))))
 |_,_,_=> .no⟩
def lp:LpK:=⟨22,3,0,D⟩
theorem qE:zq Tryz.prog La 4 lp:=by
 refine⟨by kernel_rfl,fun c base I hP hn hG hI hIL x ro ex y e=> ?_⟩
 obtain⟨vs,cars⟩:=x
 simp only[lp,D]at e ⊢
 split at e
 ·rename_i nr n cs m rs
  obtain⟨g1,g2⟩:=GT.qh e
  simp only[Ag,Ap,Ay]at g1
  obtain⟨⟨rfl,g1⟩,g3,g4⟩:=g1
  obtain⟨h1,h2,h3,h4⟩:=Jf g1
  obtain⟨_,h5,h6,h7⟩:=zM g3
  unfold AAll.Ya at g2
  generalize xn cs=l at h2 h3 h4 g2
  generalize qj rs=row at h6 h7 g4 g2
  subst h2 h3 h6 h7
  have key:=zA (Step:= @zy (zL base) c base I (qV Tryz.prog 22 0) 35 4 100 [(1,qm row)]) (step:=fun(_:Unit) ops=>bif AAll.bad row ops then .inr ((.ret,qP (AMac.wB row [] ops).2):Ex×KX)else .inl ()) (fin:=fun _=>bif Nat.beq l.length 0 then(.exit 0,exN)else(.exit 0,exR l.length (qm (l.map (AAll.val row))))) (st:=fun _ j=>st row l j) (l:=l)
   (fun s=>by cases Nat.beq l.length 0<;>simp) (fun s a r h=>by cases hb:AAll.bad row a<;>rw[hb]at h<;>cases h;simp)
   (fun _ j hj => by
    have hr:=fresh h1 h5 h4 g4 hj
    cases hb:AAll.bad row l[j]<;>rw[hb]at hr
    ·exact stepT qf qd zZ (by simp) hP hn hG hI hIL hr
    ·exact stepT qf qd zZ (by simp) hP hn hG hI hIL hr)
   (fun _ => by
    have hr:=last row l
    cases hb:Nat.beq l.length 0<;>rw[hb]at hr
    ·exact stepT qf qd zZ (by simp) hP hn hG hI hIL hr
    ·exact stepT qf qd zZ (by simp) hP hn hG hI hIL hr) l.length 0 () (by omega)
  rw[AD,AAll.K2 (fun e=>(.ret,qP e)) (bif Nat.beq l.length 0 then(.exit 0,exN)else(.exit 0,exR l.length (qm (l.map (AAll.val row))))) l]at key
  cases he:AAll.err row l != 0<;>rw[he]at key
  ·cases hb:Nat.beq l.length 0<;>rw[hb]at key<;>(rw[GT.eval,he,Ah,GT.eval,hb]at g2;cases g2;exact key)
  ·rw[GT.eval,he]at g2;cases g2;exact key
 ·cases e
end A22L0
end
end Go.Proofs.YtaiokpmmjbiajaaGreatDoorDx
section
namespace Go.Proofs.YtaiokpmmjbiajaaGreatDoorDx.Ari
open Go
def cW (hi lo z:Int):Int:=((hi*18446744073709551616+lo) / z) % 18446744073709551616
noncomputable def Vl (hi lo z:Int):Bool:= @decide ((hi*18446744073709551616+lo) / z≥18446744073709551616) (Classical.propDecidable _)
structure OkD (z lo hi:Int):Prop where
 z0:0<z
 z1:z≤9223372036854775808
 l0:0≤lo
 l1:lo<18446744073709551616
 h0:0≤hi
 h1:hi<18446744073709551616
noncomputable def okD (z lo hi:Int):Bool:= @decide (OkD z lo hi) (Classical.propDecidable _)
theorem bu {z lo hi:Int}:okD z lo hi=true↔OkD z lo hi:= @decide_eq_true_iff _ (Classical.propDecidable _)
theorem iE (n:Nat) (hn:n≤62) {a m:Int} (hm:m=2 ^ n - 1) (h0:0≤a) (h1:a<18446744073709551616):Int.ofNat (BitVec.ofInt 64 a &&& BitVec.ofInt 64 m).toNat=a % 2 ^ n:=by
 have h:=Bits.wD n (by omega) hm h0 h1
 have hlt:(BitVec.ofInt 64 a &&& BitVec.ofInt 64 m).toNat<2 ^ 64:=BitVec.isLt _
 rw[←h,Bits.vZ (by show (0:Int)≤((_:Nat):Int);omega) (by show ((_:Nat):Int)<_;omega)]
theorem yw (j:Nat):(0:Int)<2 ^ j:=Int.pow_pos (by decide)
theorem ow {hi lo:Int} (j:Nat) (hj:j<64):((hi*18446744073709551616+lo) / 2 ^ j) % 2=(lo / 2 ^ j) % 2:=by
 have e:hi*18446744073709551616=2 ^ j*(2*(hi*2 ^ (63 - j))):=by
  have:(18446744073709551616:Int)=2 ^ j*(2*2 ^ (63 - j)):=by
   rw[←Int.pow_succ',←Int.pow_add,show j+(63 - j+1)=64 by omega];rfl
  rw[this,Int.mul_left_comm hi,Int.mul_left_comm hi]
 rw[e,Int.add_comm,Ct _ _ (by have:=yw j;omega),Cg]
theorem pv {hi lo:Int} (l0:0≤lo) (l1:lo<18446744073709551616) (j:Nat) (hj:64≤j):((hi*18446744073709551616+lo) / 2 ^ j)=hi / 2 ^ (j - 64):=by
 have e:(2:Int) ^ j=18446744073709551616*2 ^ (j - 64):=by
  have:(18446744073709551616:Int)=2 ^ 64:=rfl
  rw[this,←Int.pow_add,show 64+(j - 64)=j by omega]
 rw[e,←Int.ediv_ediv_of_nonneg (by decide)]
 congr 1
 omega
theorem dD {N:Int} (j:Nat):N / 2 ^ j=2*(N / 2 ^ (j+1))+(N / 2 ^ j) % 2:=by
 rw[Int.pow_succ,←Int.ediv_ediv_of_nonneg (by have:=yw j;omega)]
 omega
theorem dv {t b z:Int} (hz:0<z) (hz1:z≤9223372036854775808) (ht:0≤t) (hb:0≤b∧b≤1):
  (2*t+b) % z=(if z≤2*(t % z)+b then 2*(t % z)+b - z else 2*(t % z)+b)∧(2*t+b) / z=(if z≤2*(t % z)+b then 2*(t / z)+1 else 2*(t / z)):=by
 have h1:=Ce t z
 have h2:=Cn t (show z≠0 by omega)
 have h3:=Cb t hz
 generalize t % z=r at*
 generalize t / z=q at*
 have e:2*t+b=(2*r+b)+z*(2*q):=by
  rw[←h1,Int.mul_left_comm z];omega
 have e2:(2*r+b)+z*(2*q)=(2*r+b - z)+z*(2*q+1):=by rw[Int.mul_add];omega
 split
 ·rw [e, e2, Cg, Ct _ _ (by omega), CJ (by omega) (by omega), Int.ediv_eq_zero_of_lt (by omega) (by omega)]
  omega
 ·rw [e, Cg, Ct _ _ (by omega), CJ (by omega) (by omega), Int.ediv_eq_zero_of_lt (by omega) (by omega)]
  omega
theorem oG {x:Int} (h0:0≤x) (h1:x*2+1<18446744073709551616):IntKind.wrap .u64 (Int.ofNat (BitVec.ofInt 64 (x*2) ||| BitVec.ofInt 64 1).toNat)=x*2+1:=Bits.W4 1 h0 (by decide) (by decide) h1
theorem nK {x b:Int} (h0:0≤x) (hb:0≤b∧b≤1) (h1:x*2+b<18446744073709551616):IntKind.wrap .u64 (Int.ofNat (BitVec.ofInt 64 (x*2) ||| BitVec.ofInt 64 b).toNat)=x*2+b:=Bits.W4 1 h0 hb.1 (by have:(2:Int) ^ 1=2:=rfl;omega) h1
end Go.Proofs.YtaiokpmmjbiajaaGreatDoorDx.Ari
namespace Go.Proofs.YtaiokpmmjbiajaaGreatDoorDx.Ari
theorem nS {x y:Int} (x0:0≤x) (x1:x≤9223372036854775808) (y0:0≤y) (y1:y≤9223372036854775808):
  ∀X1 X0 Y1 Y0 ll lh hl:Int,X1=x / 4294967296→X0=x % 4294967296→Y1=y / 4294967296→Y0=y % 4294967296→ll=X0*Y0→lh=X0*Y1→hl=X1*Y0→
  (0≤ll∧ll<18446744073709551616)∧(0≤lh∧lh<9223372036854775808)∧(0≤hl∧hl<9223372036854775808)∧(0≤X1*Y1∧X1*Y1≤4611686018427387904)∧x*y=X1*Y1*18446744073709551616+(lh+hl)*4294967296+ll:=by
 intro X1 X0 Y1 Y0 ll lh hl e1 e2 e3 e4 e5 e6 e7
 have a1:0≤X1∧X1≤2147483648:=by omega
 have a2:0≤X0∧X0≤4294967295:=by omega
 have a3:0≤Y1∧Y1≤2147483648:=by omega
 have a4:0≤Y0∧Y0≤4294967295:=by omega
 have b1:=BG a2.1 a4.1
 have b2:=BG a2.1 a3.1
 have b3:=BG a1.1 a4.1
 have b4:=BG a1.1 a3.1
 have c1:=B9 a2.2 a4.2 a4.1 (by decide)
 have c2:=B9 a2.2 a3.2 a3.1 (by decide)
 have c3:=B9 a1.2 a4.2 a4.1 (by decide)
 have c4:=B9 a1.2 a3.2 a3.1 (by decide)
 have ex:x=X1*4294967296+X0:=by omega
 have ey:y=Y1*4294967296+Y0:=by omega
 have em:x*y=X1*Y1*18446744073709551616+(lh+hl)*4294967296+ll:=by
  rw[ex,ey,Int.add_mul,Int.mul_add,Int.mul_add,←Int.mul_assoc (X1*4294967296),Int.mul_right_comm X1 4294967296 Y1,Int.mul_right_comm X1 4294967296 Y0,←Int.mul_assoc X0,e5,e6,e7]
  omega
 omega
end Go.Proofs.YtaiokpmmjbiajaaGreatDoorDx.Ari
end
