/-
  Helping texts: plain functions and plain laws. No statement of the seed is proved here.
-/
import Derived.Test.YtmmiladckdcjeacGreatDoorE1
import Derived.Test.YtmmiladckdcjeacGreatDoorA2
set_option linter.unusedVariables false
set_option linter.unusedSimpArgs false
set_option linter.unusedSectionVars false
namespace Go.Gk
open Go Classical
section
variable {N:Nat}
section
variable {α:Type}
def oj (P:α->Bool) (l:List α) (n:Nat):List Nat:=(List.range n).filter (fun k=>(l[k]?).any P)
theorem wJ {P:α->Bool} {l:List α} {n:Nat} {x:α} (h:l[n]? =some x):oj P l (n+1)=if P x=true then oj P l n++[n] else oj P l n:=by
 unfold oj
 rw [List.range_succ,kD]
 by_cases hp:P x=true
 ·rw [aC hp];simp [h,hp]
 ·rw [aG hp];simp [h,hp]
theorem yy (P:α->Bool) (l:List α) (n:Nat): (oj P l n).length<=n:=by
 have:=nG (fun k=>(l[k]?).any P) (List.range n)
 rw [List.length_range] at this;exact this
theorem Gx {P:α->Bool} {l:List α} {n k:Nat}:k∈oj P l n↔k<n/\(l[k]?).any P=true:=by unfold oj;simp
theorem xK {β:Type} {l:List α} (P:α->Bool) (g:Nat->β):vB l.length (fun k=>(l[k]?).bind fun x=>if P x=true then some (g k) else none)= (l.findIdx? P).map g:=by
 cases h:l.findIdx? P with
 | none=>
  rw [List.findIdx?_eq_none_iff] at h
  refine n9.2 fun k hk=>?_
  rw [aN hk]
  have:=h _ (cN hk)
  simp [this]
 | some j=>
  obtain⟨hj,hp,hn⟩:=List.findIdx?_eq_some_iff_getElem.1 h
  refine oZ.2 ⟨j,hj,by rw [aN hj];simp [hp],fun i hi=>?_⟩
  rw [aN (by omega)]
  have:=hn i hi
  simp [this]
end
def ints (l:List Nat):List Int:=l.map fun i=>((i:Nat):Int)
theorem pD (l m:List Nat):ints (l++m)=ints l++ints m:=dO
theorem lx (l:List Nat): (ints l).length=l.length:=cY _
theorem pE {l:List Nat} {x:Int}:x∈ints l↔∃i∈l,x= ((i:Nat):Int):=by
 unfold ints;rw [dG]
 constructor
 ·rintro⟨i,h1,h2⟩;exact⟨i,h1,h2.symm⟩
 ·rintro⟨i,h1,h2⟩;exact⟨i,h1,h2.symm⟩
def qc (p0 p1:aI):Bool:=((((decide (p0.X0<p1.X1))&&(decide (p1.X0<p0.X1)))&&((p0.Y1==p1.Y0)||(p1.Y1==p0.Y0)))||(((decide (p0.Y0<p1.Y1))&&(decide (p1.Y0<p0.Y1)))&&((p0.X1==p1.X0)||(p1.X1==p0.X0))))
def gX (b:bZ) (p:aK):Bool:=b.fS&&(jW b p.cT&&p.iJ.any (fun r=>qc r (ui b)))
def j5 (bs:List bZ) (pcs:List aK):List (List Int):=bs.map fun b=>ints (oj (gX b) pcs pcs.length)
theorem rF {l:List aI} {φ:aI->Option Bool} (p:aI->Bool) (hl:l.length<=4611686018427387904) (h: ∀x∈l,φ x=some (p x)):gT N l φ=some (l.any p):=
 sg p hl h
theorem HQ {bs:List bZ} {pcs:List aK} (hb:kB bs) (hp:pcs.length<=1073741824) (hr: ∀p∈pcs,p.iJ.length<=1073741824):kb N bs pcs []=some (j5 bs pcs):=by
 refine Ok.get ?_
 have hbl:=hb.len
 unfold kb
 refine Ok.bind (Ok.nY (fun k st=>st=j5 (bs.take k) pcs) (by omega) rfl (fun k st hk e=>?_)) (fun st e=>Ok.ret (by rw [e,eQ]))
 subst e
 have hg:=hb.ok _ (cN hk)
 refine Ok.idx hk ?_
 refine Ok.bind (P:=fun t=>t=ints (oj (gX bs[k]) pcs pcs.length)) (Ok.nY (fun j t=>t=ints (oj (gX bs[k]) pcs j)) (by omega) rfl (fun j t hj e=>?_)) (fun t e=>?_)
 ·subst e
  have hjx:pcs[j]? =some pcs[j]:=aN hj
  have hl:=yy (gX bs[k]) pcs j
  refine Ok.ix hjx ?_
  refine Ok.eq (x:=gX bs[k] pcs[j]) ?_ ?_
  ·unfold gX
   cases bs[k].fS with
   | false=>rfl
   | true=>
    rw [aP,AG,aB,Bool.true_and]
    cases jW bs[k] pcs[j].cT with
    | false=>rfl
    | true=>
     rw [aP,rF (fun r=>qc r (ui bs[k])) (by have:=hr _ (cN hj);omega) (fun r _=>by
      unfold km;rw [mP hg.1];rfl),aB,Bool.true_and]
  ·rw [wJ hjx]
   cases ht:gX bs[k] pcs[j] with
   | false=>rw [aR,aG (by simp)];exact Ok.eq rfl (Ok.ret rfl)
   | true=>
    rw [aP,aC rfl]
    refine Ok.eq (x:=ints (oj (gX bs[k]) pcs j)++[((j:Nat):Int)]) (by rw [kL (by rw [lx];simp;omega),aB]) (Ok.ret ?_)
    rw [pD];rfl
 ·subst e
  refine Ok.app ?_ (Ok.ret ?_)
  ·unfold j5;simp;omega
  ·unfold j5
   rw [eI hk,dO];rfl
def y4 (r:List aI) (p:jr):Bool:=r.any (fun x=>decide (p.X>=x.X0)&&(decide (p.X<x.X1)&&(decide (p.Y>=x.Y0)&&decide (p.Y<x.Y1))))
theorem xL {r:List aI} {p:jr} (hl:r.length<=4611686018427387904):kz N r p=some (y4 r p):=by
 unfold kz
 rw [rF (fun x=>decide (p.X>=x.X0)&&(decide (p.X<x.X1)&&(decide (p.Y>=x.Y0)&&decide (p.Y<x.Y1)))) hl (fun x _=>by
  unfold lI
  cases decide (p.X>=x.X0) <;> cases decide (p.X<x.X1) <;> cases decide (p.Y>=x.Y0) <;> rfl)];rfl
def lz (l:eM) (b:bZ):Bool:=b.fS&&(jW b l.cT&&y4 [ui b] l.At)
def kP (l:eM) (p:aK):Bool:=(p.cT==l.cT)&&y4 p.iJ l.At
def zp (bs:List bZ) (pcs:List aK) (l:eM):Option j8:=match bs.findIdx? (lz l) with
 | some k=>some ⟨true,((k:Nat):Int)⟩
 | none=>(pcs.findIdx? (kP l)).map fun k=>⟨false,((k:Nat):Int)⟩
theorem HR {bs:List bZ} {pcs:List aK} (hb:kB bs) (hp:pcs.length<=1073741824) (hr: ∀p∈pcs,p.iJ.length<=1073741824) (l:eM):
  kd N bs pcs l=some ((zp bs pcs l).getD ⟨false,0⟩,(zp bs pcs l).isSome):=by
 have hbl:=hb.len
 unfold kd
 rw [sf (fun k=>(bs[k]?).bind fun x=>if lz l x=true then some ((⟨true,((k:Nat):Int)⟩:j8),true) else none) (by omega) (fun k hk _=>by
  have hkx:bs[k]? =some bs[k]:=aN hk
  have hg:=hb.ok _ (cN hk)
  rw [dU hkx,aB,hkx,mP hg.1,aB,aB,xL (by simp)]
  unfold lz
  cases bs[k].fS with
  | false=>rfl
  | true=>
   show (((bif jW bs[k] l.cT then _ else _:Option Bool)).bind _)=_
   cases jW bs[k] l.cT with
   | false=>rfl
   | true=>
    cases y4 [ui bs[k]] l.At <;> rfl),aB,xK (lz l) (fun k=>((⟨true,((k:Nat):Int)⟩:j8),true))]
 unfold zp
 cases bs.findIdx? (lz l) with
 | some k=>rfl
 | none=>
  show ((vt pcs.length _ ()).bind _)=_
  rw [sf (fun k=>(pcs[k]?).bind fun x=>if kP l x=true then some ((⟨false,((k:Nat):Int)⟩:j8),true) else none) (by omega) (fun k hk _=>by
   have hkx:pcs[k]? =some pcs[k]:=aN hk
   rw [dU hkx,aB,hkx,aB,xL (by have:=hr _ (cN hk);omega)]
   unfold kP
   cases pcs[k].cT==l.cT with
   | false=>rfl
   | true=>cases y4 pcs[k].iJ l.At <;> rfl),aB,xK (kP l) (fun k=>((⟨false,((k:Nat):Int)⟩:j8),true))]
  cases pcs.findIdx? (kP l) <;> rfl
def Lk (n:Nat) (tch:List (List Int)) (i j:Nat):Prop:=∃(k:Nat) (l:List Int),tch[k]? =some l/\((i:Nat):Int)∈l/\j=n+k
structure IY (n m:Nat) (tch:List (List Int)) (r:Nat->Nat):Prop where
 le: ∀i,i<n+m->r i<=i
 rr: ∀i,i<n+m->r (r i)=r i
 co: ∀i j,Lk n tch i j->r i=r j
 fi: ∀S:Nat->Prop,(∀i j,Lk n tch i j->(S i↔S j))->∀i j,i<n+m->j<n+m->r i=r j->S i->S j
theorem Gy {n m:Nat} {tch:List (List Int)} (hm:tch.length=m) (ht: ∀l∈tch,l.length<=1073741824/\∀x∈l,∃i:Nat,i<n/\x= ((i:Nat):Int)) (hn:n<=1073741824) (hm2:m<=1073741824) {up:List Int} (hu:UF (n+m) up (fun i=>i)) (hN:4398046511104<=N):
  Ok (nY tch.length (fun(k34:Nat) (s35: (List Int))=>((idx tch (k34:Int)).bind fun x89=>(nY x89.length (fun(k92:Nat) (s93: (List Int))=>((idx x89 (k92:Int)).bind fun x107=>(ig N s93 x107 (IntKind.wrap .i64 ((n:Int)+ (k34:Int)))).bind fun x109=>some x109:Option ((List Int)))) s35).bind fun s93=>some s93:Option ((List Int)))) up)
   (fun up'=>∃r,UF (n+m) up' r/\IY n m tch r):=by
 have base:Ok (nY tch.length (fun(k34:Nat) (s35: (List Int))=>((idx tch (k34:Int)).bind fun x89=>(nY x89.length (fun(k92:Nat) (s93: (List Int))=>((idx x89 (k92:Int)).bind fun x107=>(ig N s93 x107 (IntKind.wrap .i64 ((n:Int)+ (k34:Int)))).bind fun x109=>some x109:Option ((List Int)))) s35).bind fun s93=>some s93:Option ((List Int)))) up)
   (fun up'=>∃r E,UF (n+m) up' r/\qQ r E/\Au (n+m) r E/\(∀p∈E,Lk n tch p.1 p.2)/\∀(k:Nat) l (i:Nat),k<tch.length->tch[k]? =some l->((i:Nat):Int)∈l->(i,n+k)∈E):=by
  refine Ok.nY (fun q up'=>∃r E,UF (n+m) up' r/\qQ r E/\Au (n+m) r E/\(∀p∈E,Lk n tch p.1 p.2)/\∀(k:Nat) l (i:Nat),k<q->tch[k]? =some l->((i:Nat):Int)∈l->(i,n+k)∈E) (by omega)
   ⟨_,_,hu,qQ.id,Au.id _,fun p hp=>(by cases hp),fun k l i hk=>by omega⟩ (fun q up' hq hI=>?_)
  obtain⟨r,E,h1,h2,h3,h4,h5⟩:=hI
  have hqx:tch[q]? =some tch[q]:=aN hq
  obtain⟨hl1,hl2⟩:=ht _ (cN hq)
  refine Ok.ix hqx ?_
  rw [wrap_add (by omega)]
  refine Ok.bind (Ok.nY (fun t up'=>∃r E,UF (n+m) up' r/\qQ r E/\Au (n+m) r E/\(∀p∈E,Lk n tch p.1 p.2)/\(∀(k:Nat) l (i:Nat),k<q->tch[k]? =some l->((i:Nat):Int)∈l->(i,n+k)∈E)/\∀i:Nat,((i:Nat):Int)∈tch[q].take t->(i,n+q)∈E) (by omega)
   ⟨r,E,h1,h2,h3,h4,h5,fun i hi=>by simp at hi⟩ (fun t up' htl hI=>?_)) (fun up' hI=>Ok.ret ?_)
  ·obtain⟨r,E,h1,h2,h3,h4,h5,h6⟩:=hI
   refine Ok.idx htl ?_
   obtain⟨i,hi,e⟩:=hl2 _ (cN htl)
   rw [e]
   obtain⟨u2,a1,a2⟩:=IV (N:=N) h1 (i:=i) (k:=n+q) (by omega) (by omega) (by omega)
   refine Ok.eq a1 (Ok.ret ⟨_,_,a2,h2.join i (n+q) (h1.rr i (by omega)),h3.join (by omega) (by omega),fun p hp=>?_,fun k l j hk hl hj=>List.mem_append_left _ (h5 k l j hk hl hj),fun j hj=>?_⟩)
   ·rcases dA.1 hp with hp | hp
    ·exact h4 p hp
    ·simp at hp;subst hp
     exact⟨q,tch[q],hqx,by rw [<-e];exact cN htl,rfl⟩
   ·rw [eI htl,dA] at hj
    rcases hj with hj | hj
    ·exact List.mem_append_left _ (h6 j hj)
    ·rw [rn,e] at hj
     have:j=i:=by omega
     subst this;simp
  ·obtain⟨r,E,h1,h2,h3,h4,h5,h6⟩:=hI
   refine⟨r,E,h1,h2,h3,h4,fun k l i hk hl hi=>?_⟩
   by_cases hkq:k<q
   ·exact h5 k l i hkq hl hi
   ·have:k=q:=by omega
    subst this
    rw [hqx] at hl;injection hl with hl;subst hl
    exact h6 i (by rw [eQ];exact hi)
 obtain⟨up',e,r,E,h1,h2,h3,h4,h5⟩:=base
 have hE: ∀i j,Lk n tch i j->(i,j)∈E:=fun i j ⟨k,l,hl,hi,hj⟩=>by
  rw [hj];exact h5 k l i (bA.1 hl).1 hl hi
 exact⟨up',e,r,h1,h1.le,h1.rr,fun i j h=>h2 (i,j) (hE i j h),fun S hS i j hi hj=>h3 S (fun p hp=>hS p.1 p.2 (h4 p hp)) i j hi hj⟩
def sR (bs:List bZ) (j:Nat):Bool:=(bs[j]?).any (fun b=>b.fS)
def gP (n:Nat) (c:List Nat):List Nat:=c.filter (fun i=>decide (i<n))
def gB (bs:List bZ) (n:Nat) (c:List Nat):List Nat:=(c.filter (fun i=> !decide (i<n)&&sR bs (i - n))).map (fun i=>i - n)
def DQ (bs:List bZ) (n:Nat) (c:List Nat):Bool:=decide (0< (gP n c).length+ (gB bs n c).length)
def JA (bs:List bZ) (n:Nat) (c:List Nat):cF:=⟨ints (gP n c),ints (gB bs n c),[]⟩
theorem FK (n:Nat) (c:List Nat) (i:Nat):gP n (c++[i])=if i<n then gP n c++[i] else gP n c:=by
 unfold gP;rw [kD];split <;> rename_i h <;> simp [h]
theorem FL (bs:List bZ) (n:Nat) (c:List Nat) (i:Nat):gB bs n (c++[i])=if i<n then gB bs n c else if sR bs (i - n)=true then gB bs n c++[i - n] else gB bs n c:=by
 unfold gB;rw [kD,dO]
 split
 ·rename_i h;simp [h]
 ·rename_i h
  split <;> rename_i h2 <;> simp [h,h2]
theorem EY (n:Nat) (c:List Nat): (gP n c).length<=c.length:=nG _ _
theorem EZ (bs:List bZ) (n:Nat) (c:List Nat): (gB bs n c).length<=c.length:=by unfold gB;rw [cY];exact nG _ _
def live (bs:List bZ) (n t:Nat) (r:Nat->Nat) (hs:List Nat):List Nat:=hs.filter (fun h=>DQ bs n (cls t r h))
def lA (bs:List bZ) (n t:Nat) (r:Nat->Nat) (hs:List Nat):List cF:=(live bs n t r hs).map (fun h=>JA bs n (cls t r h))
theorem BT (bs:List bZ) (n t:Nat) (r:Nat->Nat) (hs:List Nat) (h:Nat):live bs n t r (hs++[h])=if DQ bs n (cls t r h)=true then live bs n t r hs++[h] else live bs n t r hs:=by
 unfold live;rw [kD];split <;> rename_i h2 <;> simp [h2]
theorem sS (bs:List bZ) (n t:Nat) (r:Nat->Nat) (hs:List Nat): (lA bs n t r hs).length= (live bs n t r hs).length:=by unfold lA;rw [cY]
def gi (bs:List bZ) (n t:Nat) (r:Nat->Nat) (h:Nat):Nat:=(live bs n t r ((bL t r).takeWhile (fun x=>decide (x≠h)))).length
theorem vW {l:List Nat} (hn:l.Nodup) {k h:Nat} (hk:l[k]? =some h):l.takeWhile (fun x=>decide (x≠h))=l.take k:=by
 induction l generalizing k with
 | nil=>simp at hk
 | cons a l ih=>
  cases k with
  | zero=>simp at hk;subst hk;simp
  | succ k=>
   have hk:l[k]? =some h:=by simpa using hk
   have hne:a≠h:=fun e=>(List.nodup_cons.1 hn).1 (by rw [e];exact eW hk)
   rw [List.takeWhile_cons,aC (by simpa using hne),List.take_succ_cons,ih (List.nodup_cons.1 hn).2 hk]
theorem qd (bs:List bZ) (n t:Nat) (r:Nat->Nat) (hs:List Nat): (live bs n t r hs).length<=hs.length:=nG _ _
theorem JB {bs:List bZ} {n t:Nat} {r:Nat->Nat} {h:Nat} (hh:h∈bL t r) (hne:DQ bs n (cls t r h)=true):gi bs n t r h< (live bs n t r (bL t r)).length/\(live bs n t r (bL t r))[gi bs n t r h]? =some h:=by
 obtain⟨k,hk⟩:=dN hh
 have hkl:=(bA.1 hk).1
 unfold gi
 rw [vW (mO t r) hk]
 have e:bL t r= (bL t r).take k++h::(bL t r).drop (k+1):=by
  have h1:=(List.take_append_drop k (bL t r)).symm
  rw [s9 hkl,(bA.1 hk).2] at h1;exact h1
 have e2:live bs n t r (bL t r)=live bs n t r ((bL t r).take k)++h::live bs n t r ((bL t r).drop (k+1)):=by
  conv=>lhs;rw [e]
  unfold live
  rw [kD,List.filter_cons,aC hne]
 constructor
 ·rw [e2];simp
 ·rw [e2]
  simp
end
end Go.Gk
namespace Go.Gk
open Go Classical
section
variable {N:Nat}
theorem yz {l:List Nat} (h:l.Nodup) {i j a:Nat} (hi:l[i]? =some a) (hj:l[j]? =some a):i=j:=
 (List.getElem_inj (h₀:=(bA.1 hi).1) (h₁:=(bA.1 hj).1) h).1 (by rw [(bA.1 hi).2,(bA.1 hj).2])
theorem o9 {n i k:Nat} {r:Nat->Nat}:i∈cls n r k↔i<n/\r i=k:=by unfold cls;simp
theorem Gz (n:Nat) (r:Nat->Nat) (k:Nat): (cls n r k).Nodup:=List.Nodup.sublist List.filter_sublist List.nodup_range
structure LH (bs:List bZ) (n m:Nat) (r:Nat->Nat) (hs:List Nat) (ofP ofB:List Int):Prop where
 lp:ofP.length=n
 lb:ofB.length=m
 pc: ∀i,i<n->r i∈hs->ofP[i]? =some ((gi bs n (n+m) r (r i):Nat):Int)
 bo: ∀j,j<m->r (n+j)∈hs->ofB[j]? =some (if sR bs j=true then ((gi bs n (n+m) r (r (n+j)):Nat):Int) else -1)
theorem DR {bs:List bZ} {n m:Nat} {r:Nat->Nat} (hm:bs.length=m) (hn:n<=1073741824) (hm2:m<=1073741824) {op ob:List Int} (hop:op.length=n) (hob:ob.length=m)
  {body:Nat->List cF×List Int×List Int->Option (List cF×List Int×List Int)}
  (hbody:body= (fun(k123:Nat) (s124: (List cF)×(List Int)×(List Int))=>((idx (qR (n+m) r) (k123:Int)).bind fun x455=>(nY x455.length (fun(k458:Nat) (s459: (List Int)×(List Int)×(List Int)×(List Int))=>((idx x455 (k458:Int)).bind fun x556=>(bif (decide (x556< (n:Int))) then ((idx s459.1 x556).bind fun x580=>(app 8 s459.2.2.1 ([x556]: (List Int))).bind fun x582=>some ((s459.1.set (Int.toNat x556) (s124.1.length:Int)),s459.2.1,x582,s459.2.2.2)) else ((idx bs (IntKind.wrap .i64 (x556 - (n:Int)))).bind fun x584=>(bif x584.fS then ((idx s459.2.1 (IntKind.wrap .i64 (x556 - (n:Int)))).bind fun x594=>(app 8 s459.2.2.2 ([(IntKind.wrap .i64 (x556 - (n:Int)))]: (List Int))).bind fun x596=>some ((s459.2.1.set (Int.toNat (IntKind.wrap .i64 (x556 - (n:Int)))) (s124.1.length:Int)),x596)) else ((idx s459.2.1 (IntKind.wrap .i64 (x556 - (n:Int)))).bind fun x598=>some ((s459.2.1.set (Int.toNat (IntKind.wrap .i64 (x556 - (n:Int)))) (-1)),s459.2.2.2))).bind fun s592=>some (s459.1,s592.1,s459.2.2.1,s592.2))).bind fun s577=>some (s577.1,s577.2.1,s577.2.2.1,s577.2.2.2):Option ((List Int)×(List Int)×(List Int)×(List Int)))) (s124.2.1,s124.2.2,([]: (List Int)),([]: (List Int)))).bind fun s459=>(bif (decide ((IntKind.wrap .i64 ((s459.2.2.1.length:Int)+ (s459.2.2.2.length:Int)))>0)) then ((app 72 s124.1 [(⟨s459.2.2.1,s459.2.2.2,([]: (List dV))⟩:cF)]).bind fun x610=>some x610) else (some s124.1)).bind fun s606=>some (s606,s459.1,s459.2.1):Option ((List cF)×(List Int)×(List Int))))):
  Ok (nY (qR (n+m) r).length body ([],op,ob)) (fun st=>st.1=lA bs n (n+m) r (bL (n+m) r)/\LH bs n m r (bL (n+m) r) st.2.1 st.2.2):=by
 subst hbody
 have hsl: (qR (n+m) r).length= (bL (n+m) r).length:=by unfold qR;simp
 have hhl:=lu (n+m) r
 refine Ok.mono (Ok.nY (fun(k:Nat) (st:List cF×List Int×List Int)=>st.1=lA bs n (n+m) r ((bL (n+m) r).take k)/\LH bs n m r ((bL (n+m) r).take k) st.2.1 st.2.2) (by omega) ⟨rfl,hop,hob,fun i hi h=>by simp at h,fun j hj h=>by simp at h⟩ (fun k st hk hI=>?_)) (fun st h=>by rw [hsl,eQ] at h;exact h)
 obtain⟨gs,ofP,ofB⟩:=st
 obtain⟨e1,I⟩:=hI
 dsimp only at e1 I ⊢
 subst e1
 rw [hsl] at hk
 have hkx: (bL (n+m) r)[k]? =some (bL (n+m) r)[k]:=aN hk
 have hts: (bL (n+m) r).take (k+1)= (bL (n+m) r).take k++[(bL (n+m) r)[k]]:=eI hk
 have hgk:gi bs n (n+m) r (bL (n+m) r)[k]= (lA bs n (n+m) r ((bL (n+m) r).take k)).length:=by
  unfold gi;rw [vW (mO _ _) hkx,sS]
 generalize hh: (bL (n+m) r)[k]=h at *
 have hsx: (qR (n+m) r)[k]? =some (ints (cls (n+m) r h)):=by unfold qR;rw [gC,hkx];rfl
 refine Ok.ix hsx ?_
 have hcl:=zF (n+m) r h
 rw [lx]
 have hgl: (lA bs n (n+m) r ((bL (n+m) r).take k)).length<=n+m:=by
  rw [sS]
  have:=qd bs n (n+m) r ((bL (n+m) r).take k)
  rw [cL] at this;omega
 have hold: ∀i∈cls (n+m) r h,∀i',r i'∈(bL (n+m) r).take k->i≠i':=fun i hi i' hi' e=>by
  subst e
  rw [(o9.1 hi).2] at hi'
  obtain⟨j,hj⟩:=dN hi'
  have hjk:j<k:=by have:=(bA.1 hj).1;rw [cL] at this;omega
  rw [List.getElem?_take_of_lt hjk] at hj
  have:=yz (mO (n+m) r) hj hkx
  omega
 refine Ok.bind (P:=fun s'=>LH bs n m r ((bL (n+m) r).take (k+1)) s'.1 s'.2.1/\s'.2.2.1=ints (gP n (cls (n+m) r h))/\s'.2.2.2=ints (gB bs n (cls (n+m) r h))) (Ok.mono (Ok.nY
  (fun(t:Nat) (s':List Int×List Int×List Int×List Int)=>LH bs n m r ((bL (n+m) r).take k) s'.1 s'.2.1/\s'.2.2.1=ints (gP n ((cls (n+m) r h).take t))/\s'.2.2.2=ints (gB bs n ((cls (n+m) r h).take t))/\
   (∀i∈(cls (n+m) r h).take t,i<n->s'.1[i]? =some ((gi bs n (n+m) r h:Nat):Int))/\∀i∈(cls (n+m) r h).take t,¬i<n->s'.2.1[i - n]? =some (if sR bs (i - n)=true then ((gi bs n (n+m) r h:Nat):Int) else -1)) (by omega)
   ⟨I,rfl,rfl,fun i hi=>by simp at hi,fun i hi=>by simp at hi⟩ (fun t s' ht hI'=>?_)) ?_) ?_
 ·obtain⟨oP,oB,pp,bb⟩:=s'
  obtain⟨J,e2,e3,J1,J2⟩:=hI'
  dsimp only at J e2 e3 J1 J2 ⊢
  subst e2;subst e3
  have htx: (ints (cls (n+m) r h))[t]? =some (((cls (n+m) r h)[t]:Nat):Int):=by unfold ints;rw [gC,aN ht];rfl
  refine Ok.ix htx ?_
  have htt: (cls (n+m) r h).take (t+1)= (cls (n+m) r h).take t++[(cls (n+m) r h)[t]]:=eI ht
  have hcm:=cN ht
  have hdist: ∀i∈(cls (n+m) r h).take t,i≠(cls (n+m) r h)[t]:=fun i hi e=>by
   obtain⟨j,hj⟩:=dN hi
   have hjt:j<t:=by have:=(bA.1 hj).1;rw [cL] at this;omega
   rw [List.getElem?_take_of_lt hjt] at hj
   have:=yz (Gz (n+m) r h) hj (by rw [e];exact aN ht)
   omega
  generalize (cls (n+m) r h)[t]=c at *
  obtain⟨hc1,hc2⟩:=o9.1 hcm
  have hgp:=EY n ((cls (n+m) r h).take t)
  have hgb:=EZ bs n ((cls (n+m) r h).take t)
  rw [cL] at hgp hgb
  by_cases hcn:c<n
  ·rw [bU (by omega: ((c:Nat):Int)< ((n:Nat):Int)),aP]
   refine Ok.bind (P:=fun x=>x= (oP.set c ((gi bs n (n+m) r h:Nat):Int),oB,ints (gP n ((cls (n+m) r h).take t))++[((c:Nat):Int)],ints (gB bs n ((cls (n+m) r h).take t)))) ?_ ?_
   ·refine Ok.idx (by rw [J.lp];exact hcn) (Ok.app (by rw [lx];simp;omega) (Ok.ret ?_))
    rw [cJ,hgk]
   ·rintro _ rfl
    refine Ok.ret ⟨⟨by simp [J.lp],J.lb,fun i hi hr=>?_,J.bo⟩,?_,?_,fun i hi hin=>?_,fun i hi hin=>?_⟩
    ·dsimp only
     rw [nL (by rw [J.lp];exact hcn),aG (fun e=>hold c hcm i hr e.symm)];exact J.pc i hi hr
    ·dsimp only;rw [htt,FK,aC hcn,pD];rfl
    ·dsimp only;rw [htt,FL,aC hcn]
    ·dsimp only
     rw [nL (by rw [J.lp];exact hcn)]
     split
     ·rfl
     ·rename_i hne
      rw [htt] at hi
      rcases dA.1 hi with hi | hi
      ·exact J1 i hi hin
      ·exact absurd (by simpa using hi) hne
    ·rw [htt] at hi
     rcases dA.1 hi with hi | hi
     ·exact J2 i hi hin
     ·have:i=c:=by simpa using hi
      subst this;exact absurd hcn hin
  ·rw [bY (by omega: ¬((c:Nat):Int)< ((n:Nat):Int)),aR]
   have hw:IntKind.wrap .i64 (((c:Nat):Int) - ((n:Nat):Int))= ((c - n:Nat):Int):=by rw [eR (by omega) (by omega)];omega
   have hcm2:c - n<bs.length:=by omega
   have hpl:sR bs (c - n)=bs[c - n].fS:=by unfold sR;rw [aN hcm2];rfl
   rw [hw]
   refine Ok.bind (P:=fun x=>x= (oP,oB.set (c - n) (if sR bs (c - n)=true then ((gi bs n (n+m) r h:Nat):Int) else -1),ints (gP n ((cls (n+m) r h).take t)),ints (gB bs n ((cls (n+m) r h).take t++[c])))) ?_ ?_
   ·refine Ok.idx hcm2 ?_
    rw [FL,aG hcn,hpl]
    cases hp:bs[c - n].fS with
    | true=>
     rw [aP,aC rfl,aC rfl]
     refine Ok.eq (x:=(oB.set (c - n) ((gi bs n (n+m) r h:Nat):Int),ints (gB bs n ((cls (n+m) r h).take t)++[c - n]))) ?_ (Ok.ret rfl)
     rw [kZ _ _ (by rw [J.lb];omega),aB,kL (by rw [lx];simp;omega),aB,cJ,hgk,pD];rfl
    | false=>
     rw [aR,aG (by simp),aG (by simp)]
     refine Ok.eq (x:=(oB.set (c - n) (-1),ints (gB bs n ((cls (n+m) r h).take t)))) ?_ (Ok.ret rfl)
     rw [kZ _ _ (by rw [J.lb];omega),aB,cJ]
   ·rintro _ rfl
    refine Ok.ret ⟨⟨J.lp,by simp [J.lb],J.pc,fun j hj hr=>?_⟩,?_,?_,fun i hi hin=>?_,fun i hi hin=>?_⟩
    ·dsimp only
     rw [nL (by rw [J.lb];omega),aG (fun e=>hold c hcm (n+j) hr (by omega))];exact J.bo j hj hr
    ·dsimp only;rw [htt,FK,aG hcn]
    ·dsimp only;rw [htt]
    ·rw [htt] at hi
     rcases dA.1 hi with hi | hi
     ·exact J1 i hi hin
     ·have:i=c:=by simpa using hi
      subst this;exact absurd hin hcn
    ·dsimp only
     rw [nL (by rw [J.lb];omega)]
     split
     ·rename_i e;rw [e]
     ·rename_i hne
      rw [htt] at hi
      rcases dA.1 hi with hi | hi
      ·exact J2 i hi hin
      ·exact absurd (by have:i=c:=(by simpa using hi);rw [this]) hne
 ·rintro⟨oP,oB,pp,bb⟩ ⟨J,e2,e3,J1,J2⟩
  dsimp only at J e2 e3 J1 J2 ⊢
  rw [eQ] at e2 e3 J1 J2
  refine⟨⟨J.lp,J.lb,fun i hi hr=>?_,fun j hj hr=>?_⟩,e2,e3⟩
  ·rw [hts] at hr
   rcases dA.1 hr with hr | hr
   ·exact J.pc i hi hr
   ·have hr:r i=h:=by simpa using hr
    rw [hr];exact J1 i (o9.2 ⟨by omega,hr⟩) hi
  ·rw [hts] at hr
   rcases dA.1 hr with hr | hr
   ·exact J.bo j hj hr
   ·have hr:r (n+j)=h:=by simpa using hr
    rw [hr]
    have:=J2 (n+j) (o9.2 ⟨by omega,hr⟩) (by omega)
    rwa [Nat.add_sub_cancel_left] at this
 ·rintro⟨oP,oB,pp,bb⟩ ⟨J,e2,e3⟩
  dsimp only at J e2 e3 ⊢
  subst e2;subst e3
  have hgp:=EY n (cls (n+m) r h)
  have hgb:=EZ bs n (cls (n+m) r h)
  rw [lx,lx,wrap_add (by omega)]
  have hgs:lA bs n (n+m) r ((bL (n+m) r).take (k+1))=if DQ bs n (cls (n+m) r h)=true then lA bs n (n+m) r ((bL (n+m) r).take k)++[JA bs n (cls (n+m) r h)] else lA bs n (n+m) r ((bL (n+m) r).take k):=by
   unfold lA
   rw [hts,BT]
   split
   ·rw [dO];rfl
   ·rfl
  refine Ok.bind (P:=fun x=>x=lA bs n (n+m) r ((bL (n+m) r).take (k+1))) (Ok.bif (fun hb=>?_) (fun hb=>Ok.ret ?_)) (fun x e=>Ok.ret ⟨e,J⟩)
  ·have hne:DQ bs n (cls (n+m) r h)=true:=bU (by have:=of_decide_eq_true hb;omega)
   refine Ok.app (by simp;omega) (Ok.ret ?_)
   rw [hgs,aC hne];rfl
  ·have hne: ¬DQ bs n (cls (n+m) r h)=true:=fun h'=>by
    have h1:=of_decide_eq_true h'
    have h2:=of_decide_eq_false hb
    omega
   rw [hgs,aG hne]
end
end Go.Gk
namespace Go.Gk
open Go Classical
section
variable {N:Nat}
def lT (n:Nat) (h:j8):Nat:=if h.bZ=true then n+h.Number.toNat else h.Number.toNat
structure JC (bs:List bZ) (n m:Nat) (h:j8):Prop where
 num: ∃k:Nat,h.Number= ((k:Nat):Int)/\(h.bZ=true->k<m/\sR bs k=true)/\(h.bZ=false->k<n)
theorem HS {bs:List bZ} {pcs:List aK} {l:eM} {h:j8} (hh:zp bs pcs l=some h):JC bs pcs.length bs.length h:=by
 unfold zp at hh
 cases hf:bs.findIdx? (lz l) with
 | some k=>
  rw [hf] at hh
  injection hh with hh;subst hh
  obtain⟨hk,hp,_⟩:=List.findIdx?_eq_some_iff_getElem.1 hf
  refine⟨k,rfl,fun _=>⟨hk,?_⟩,fun h=>by cases h⟩
  unfold lz at hp
  unfold sR
  rw [aN hk]
  rw [bW] at hp
  exact hp.1
 | none=>
  rw [hf] at hh
  dsimp only at hh
  rw [rl] at hh
  obtain⟨k,hk,rfl⟩:=hh
  obtain⟨hk,_⟩:=List.findIdx?_eq_some_iff_getElem.1 hk
  exact⟨k,rfl,fun h=>(by cases h),fun _=>hk⟩
def zq (bs:List bZ) (pcs:List aK) (r:Nat->Nat) (l:eM):Option Nat:=(zp bs pcs l).map fun h=>gi bs pcs.length (pcs.length+bs.length) r (r (lT pcs.length h))
def FM (bs:List bZ) (pcs:List aK) (r:Nat->Nat) (l:eM):Int:=match zq bs pcs r l with | some g=>((g:Nat):Int) | none=> -1
def gh (gs:List cF) (lg:eM->Option Nat) (ls:List eM):List cF:=gs.mapIdx (fun g x=>{x with gl:=(ls.filter (fun l=>decide (lg l=some g))).map jV})
theorem jv {gs:List cF} {lg:eM->Option Nat} {ls:List eM} {g:Nat}: (gh gs lg ls)[g]? = (gs[g]?).map fun x=>{x with gl:=(ls.filter (fun l=>decide (lg l=some g))).map jV}:=by
 unfold gh;rw [List.getElem?_mapIdx]
theorem xM (gs:List cF) (lg:eM->Option Nat) (ls:List eM): (gh gs lg ls).length=gs.length:=by unfold gh;rw [List.length_mapIdx]
theorem vX {gs:List cF} {lg:eM->Option Nat} {ls:List eM} {l:eM} (h:lg l=none):gh gs lg (ls++[l])=gh gs lg ls:=by
 apply List.ext_getElem?
 intro g
 rw [jv,jv]
 congr 2
 funext x
 rw [kD]
 simp [h]
theorem xN {gs:List cF} {lg:eM->Option Nat} {ls:List eM} {l:eM} {k:Nat} {x:cF} (h:lg l=some k) (hx: (gh gs lg ls)[k]? =some x):
  (gh gs lg ls).set k {x with gl:=x.gl++[jV l]}=gh gs lg (ls++[l]):=by
 apply List.ext_getElem?
 intro g
 have hk:=(bA.1 hx).1
 rw [fz]
 by_cases e:k=g
 ·subst e
  rw [aC rfl,aC hk,jv]
  rw [jv,rl] at hx
  obtain⟨y,hy,rfl⟩:=hx
  rw [hy,kD]
  simp [h]
 ·rw [aG e,jv,jv]
  congr 2
  funext x
  rw [kD]
  have: ¬(lg l=some g):=by rw [h];intro h';injection h' with h';exact e h'
  simp [this]
theorem HT {bs:List bZ} {n t:Nat} {r:Nat->Nat} {i:Nat} (hi:i<n) (ht:i<t):DQ bs n (cls t r (r i))=true:=by
 unfold DQ
 rw [bO]
 have:i∈gP n (cls t r (r i)):=jH.2 ⟨o9.2 ⟨ht,rfl⟩,by simpa using hi⟩
 have:=List.length_pos_of_mem this
 omega
theorem HU {bs:List bZ} {n t:Nat} {r:Nat->Nat} {j:Nat} (hp:sR bs j=true) (ht:n+j<t):DQ bs n (cls t r (r (n+j)))=true:=by
 unfold DQ
 rw [bO]
 have:j∈gB bs n (cls t r (r (n+j))):=dG.2 ⟨n+j,jH.2 ⟨o9.2 ⟨ht,rfl⟩,by simp [hp]⟩,by omega⟩
 have:=List.length_pos_of_mem this
 omega
structure E0 (bs:List bZ) (ls:List eM) (pcs:List aK) (r:Nat->Nat) (gs:List cF) (ofP ofB vo:List Int) (vY:List j8):Prop where
 conn:IY pcs.length bs.length (j5 bs pcs) r
 gs:gs=gh (lA bs pcs.length (pcs.length+bs.length) r (bL (pcs.length+bs.length) r)) (zq bs pcs r) ls
 of:LH bs pcs.length bs.length r (bL (pcs.length+bs.length) r) ofP ofB
 vo:vo=ls.map (FM bs pcs r)
 vY:vY=ls.map (fun l=>(zp bs pcs l).getD ⟨false,0⟩)
theorem DS {bs:List bZ} {pcs:List aK} (hp:pcs.length<=1073741824): ∀l∈j5 bs pcs,l.length<=1073741824/\∀x∈l,∃i:Nat,i<pcs.length/\x= ((i:Nat):Int):=by
 intro l hl
 unfold j5 at hl
 obtain⟨b,_,rfl⟩:=dG.1 hl
 have:=yy (gX b) pcs pcs.length
 refine⟨by rw [lx];omega,fun x hx=>?_⟩
 obtain⟨i,hi,rfl⟩:=pE.1 hx
 exact⟨i,(Gx.1 hi).1,rfl⟩
theorem Cx {bs:List bZ} {ls:List eM} {pcs:List aK} (hb:kB bs) (hp:pcs.length<=1000000000) (hr: ∀p∈pcs,p.iJ.length<=1073741824) (hl:ls.length<=1073741824) (hN:4398046511104<=N):
  Ok (gq N bs ls pcs (j5 bs pcs) [] [] [] []) (fun x=>∃r,E0 bs ls pcs r x.1 x.2.1 x.2.2.1 x.2.2.2.1 x.2.2.2.2):=by
 have hbl:=hb.len
 unfold gq
 rw [wrap_add (by omega)]
 obtain⟨up0,u1,u2⟩:=DF (N:=N) (n:=pcs.length+bs.length) (by omega)
 refine Ok.eq u1 ?_
 refine Ok.bind (Gy (n:=pcs.length) (m:=bs.length) (by unfold j5;simp) (DS (by omega)) (by omega) (by omega) u2 hN) ?_
 rintro up1 ⟨r,v1,v2⟩
 refine Ok.eq (rz 0 (by omega)) (Ok.eq (rz 0 (by omega)) ?_)
 obtain⟨up2,w1,_⟩:=IW (N:=N) v1 (by omega) (by omega)
 refine Ok.eq w1 ?_
 refine Ok.bind (DR (bs:=bs) (n:=pcs.length) (m:=bs.length) (r:=r) rfl (by omega) (by omega) (op:=List.replicate pcs.length 0) (ob:=List.replicate bs.length 0) (by simp) (by simp) rfl) ?_
 rintro⟨gs,ofP,ofB⟩ ⟨e1,I⟩
 dsimp only at e1 I ⊢
 subst e1
 have hgl: (lA bs pcs.length (pcs.length+bs.length) r (bL (pcs.length+bs.length) r)).length<=pcs.length+bs.length:=by
  rw [sS]
  have:=qd bs pcs.length (pcs.length+bs.length) r (bL (pcs.length+bs.length) r)
  have:=lu (pcs.length+bs.length) r
  omega
 refine Ok.bind (Ok.nY (fun(k:Nat) (st:List cF×List Int×List Int×List Int×List j8)=>st= (gh (lA bs pcs.length (pcs.length+bs.length) r (bL (pcs.length+bs.length) r)) (zq bs pcs r) (ls.take k),ofP,ofB,(ls.take k).map (FM bs pcs r),(ls.take k).map (fun l=>(zp bs pcs l).getD ⟨false,0⟩))) (by omega) ?_ (fun k st hk e=>?_)) ?_
 ·congr 1
  unfold gh
  apply List.ext_getElem?
  intro g
  rw [List.getElem?_mapIdx]
  unfold lA
  rw [gC]
  cases (live bs pcs.length (pcs.length+bs.length) r (bL (pcs.length+bs.length) r))[g]? <;> rfl
 ·subst e
  dsimp only
  have hts:ls.take (k+1)=ls.take k++[ls[k]]:=eI hk
  refine Ok.idx hk (Ok.eq (HR hb (by omega) hr _) ?_)
  dsimp only
  refine Ok.bind (P:=fun x=>x= (gh (lA bs pcs.length (pcs.length+bs.length) r (bL (pcs.length+bs.length) r)) (zq bs pcs r) (ls.take k++[ls[k]]),FM bs pcs r ls[k])) ?_ ?_
  ·cases hh:zp bs pcs ls[k] with
   | none=>
    refine Ok.ret ?_
    have h1:zq bs pcs r ls[k]=none:=by unfold zq;rw [hh];rfl
    rw [vX h1]
    unfold FM;rw [h1]
   | some h=>
    have h1:zq bs pcs r ls[k]=some (gi bs pcs.length (pcs.length+bs.length) r (r (lT pcs.length h))):=by unfold zq;rw [hh];rfl
    have h2:FM bs pcs r ls[k]= ((gi bs pcs.length (pcs.length+bs.length) r (r (lT pcs.length h)):Nat):Int):=by unfold FM;rw [h1]
    obtain⟨q,q1,q2,q3⟩:=(HS hh).num
    have hix:lT pcs.length h<pcs.length+bs.length/\DQ bs pcs.length (cls (pcs.length+bs.length) r (r (lT pcs.length h)))=true/\iw N ofP ofB h=some ((gi bs pcs.length (pcs.length+bs.length) r (r (lT pcs.length h)):Nat):Int):=by
     unfold iw lT
     rw [q1,cJ]
     cases hbo:h.bZ with
     | true=>
      obtain⟨q4,q5⟩:=q2 hbo
      rw [aP,aC rfl]
      refine⟨by omega,HU q5 (by omega),?_⟩
      have:=I.bo q q4 (jq.2 ⟨by have:=v2.le (pcs.length+q) (by omega);omega,v2.rr _ (by omega)⟩)
      rw [aC q5] at this
      rw [dU this,aB]
     | false=>
      have q4:=q3 hbo
      rw [aR,aG (by simp)]
      refine⟨by omega,HT q4 (by omega),?_⟩
      have:=I.pc q q4 (jq.2 ⟨by have:=v2.le q (by omega);omega,v2.rr _ (by omega)⟩)
      rw [dU this,aB]
    obtain⟨i1,i2,i3⟩:=hix
    have hgi:=JB (r:=r) (t:=pcs.length+bs.length) (bs:=bs) (n:=pcs.length) (h:=r (lT pcs.length h)) (jq.2 ⟨by have:=v2.le _ i1;omega,v2.rr _ i1⟩) i2
    have hgx:gi bs pcs.length (pcs.length+bs.length) r (r (lT pcs.length h))< (gh (lA bs pcs.length (pcs.length+bs.length) r (bL (pcs.length+bs.length) r)) (zq bs pcs r) (ls.take k)).length:=by
     rw [xM,sS];exact hgi.1
    rw [h2]
    dsimp only [Option.getD,Option.isSome]
    rw [aP]
    refine Ok.eq i3 ?_
    generalize gi bs pcs.length (pcs.length+bs.length) r (r (lT pcs.length h))=g at *
    refine Ok.idx hgx (Ok.eq (yw _) ?_)
    have hpl: ((gh (lA bs pcs.length (pcs.length+bs.length) r (bL (pcs.length+bs.length) r)) (zq bs pcs r) (ls.take k))[g]).gl.length<=ls.length:=by
     have:=jv (gs:=lA bs pcs.length (pcs.length+bs.length) r (bL (pcs.length+bs.length) r)) (lg:=zq bs pcs r) (ls:=ls.take k) (g:=g)
     rw [aN hgx] at this
     have:=this.symm
     rw [rl] at this
     obtain⟨y,_,hy⟩:=this
     rw [<-hy,cY]
     have:=nG (fun l=>decide (zq bs pcs r l=some g)) (ls.take k)
     rw [cL] at this;omega
    refine Ok.app (by simp;omega) (Ok.idx hgx (Ok.ret ?_))
    rw [cJ]
    congr 1
    exact xN h1 (aN hgx)
  ·rintro _ rfl
   dsimp only
   refine Ok.app (by simp;omega) (Ok.app (by simp;omega) (Ok.ret ?_))
   rw [hts,dO,dO];rfl
 ·rintro st rfl
  dsimp only
  rw [eQ]
  exact Ok.ret ⟨r,v2,rfl,I,rfl,rfl⟩
end
end Go.Gk
namespace Go.Gk
open Go Classical
section
variable {N:Nat}
theorem yA {p:aK}: ∀{iq:List (List (List aA))} {k:Nat},p∈fD k iq->∃(i:Nat) (ps:List (List aA)) (q:List aA),iq[i]? =some ps/\q∈ps/\p= ⟨((k+i:Nat):Int),q,aS q⟩
 | [],k,h=>by cases h
 | ps::iq,k,h=>by
  rcases dA.1 h with h | h
  ·obtain⟨q,hq,rfl⟩:=dG.1 h
   exact⟨0,ps,q,rfl,hq,rfl⟩
  ·obtain⟨i,ps',q,h1,h2,h3⟩:=yA h
   refine⟨i+1,ps',q,by simpa using h1,h2,?_⟩
   rw [h3,show k+1+i=k+ (i+1) by omega]
structure pd (a:kT):Prop where
 yZ:0<a.aJ.length/\a.aJ.length<=16
 Nl: ∀r∈a.aJ,jY r=0
 out:jY a.cG=0
 many:a.cG.length+ (a.aJ.map List.length).sum<=2000
 xO:jc a=0
 DT:mR a=0
theorem pd.gb {a:kT} (h:pd a):kB a.aO:=⟨(l6 h.xO).1,fun b hb=>⟨((l6 h.xO).2 b hb).1,((l6 h.xO).2 b hb).2.1⟩⟩
theorem pd.cs {a:kT} (h:pd a): ∀r∈a.aJ,r.length<=2000/\∀x∈r,A7 x:=fun r hr=>AE (uX.1 (h.Nl r hr)).1
structure xP (a:kT) (nu:List (List aA)) (iq:List (List (List aA))) (p:aK) (i:Nat) (r:List aI) (s:List aA) (ps:List (List aA)) (u:Nat->Nat) (j k:Nat):Prop where
 NJ:a.aJ[i]? =some r
 nu:nu[i]? =some s
 iq:iq[i]? =some ps
 dr:tD r (j4 a.aO ((i:Nat):Int)) s
 pt:rC s u ps
 at_:ps[j]? =some p.Set
 head: (bL (aS s).length u)[j]? =some k
 set:sN (nF (aS s) (aS s).length u k) p.Set
 lim:wO (sL r++sL (j4 a.aO ((i:Nat):Int))) (ju r++ju (j4 a.aO ((i:Nat):Int))) (p.Set.map cA)
 LI:p.cT= ((i:Nat):Int)
 LJ:p.iJ=aS p.Set
theorem HV {a:kT} {nu:List (List aA)} {iq:List (List (List aA))} (hg:pd a) (hD:wI a.aJ a.aO a.aJ.length nu iq) {p:aK} (hp:p∈fD 0 iq): ∃i r s ps u j k,xP a nu iq p i r s ps u j k:=by
 obtain⟨i,ps,q,h1,h2,rfl⟩:=yA hp
 have hil:i<a.aJ.length:=by have:=(bA.1 h1).1;rw [hD.zo] at this;exact this
 have hc:a.aJ[i]? =some a.aJ[i]:=aN hil
 have hd:nu[i]? =some (nu[i]'(by rw [hD.len];exact hil)):=aN _
 have hdr:=hD.dr i _ _ hil hc hd
 obtain⟨u,hu⟩:=hD.pt i _ ps hil hd h1
 obtain⟨sx,sy⟩:=hdr.small (hg.cs _ (cN hil)).2 (fun x hx=>(qT hg.gb _ x hx).1)
 obtain⟨j,k,g1,g2,g3,g4⟩:=AH hu hdr.can hdr.lim sx sy h2
 exact⟨i,_,_,ps,u,j,k,hc,hd,h1,hdr,hu,g1,g2,g3,g4,by rw [iI],rfl⟩
theorem xP.DM {a:kT} {nu:List (List aA)} {iq:List (List (List aA))} (hg:pd a) {p:aK} {i:Nat} {r:List aI} {s:List aA} {ps:List (List aA)} {u:Nat->Nat} {j k:Nat} (h:xP a nu iq p i r s ps u j k):
  p.Set.length<=5000/\(∀b∈p.Set,b.Xs.length<=5000)/\p.iJ.length<=5000*5000:=by
 have h1:=(hg.cs r (eW h.NJ)).1
 have h2:=yx hg.gb ((i:Nat):Int)
 rw [h.LJ]
 exact vn (A:=5000) h.set.can h.lim (by rw [cZ,lR,lR];omega) (by rw [cZ,jE,jE];omega)
def xQ (a0 a1 b0 b1:Int):Bool:=decide (b0<a1)&&decide (a0<b1)
def DU (a b:aI):Bool:=xQ a.X0 a.X1 b.X0 b.X1&&xQ a.Y0 a.Y1 b.Y0 b.Y1
theorem AJ {a0 a1 b0 b1:Int} (h1: -1000000<=a0/\a0<=1000000) (h2: -1000000<=a1/\a1<=1000000) (h3: -1000000<=b0/\b0<=1000000) (h4: -1000000<=b1/\b1<=1000000): ∃n,lY N a0 a1 b0 b1=some n/\0<=n/\(n=0↔xQ a0 a1 b0 b1=true):=by
 unfold lY xQ
 have e1:IntKind.wrap .i64 (b0 - a1)=b0 - a1:=eR (by omega) (by omega)
 have e2:IntKind.wrap .i64 (a0 - b1)=a0 - b1:=eR (by omega) (by omega)
 have e3:IntKind.wrap .i64 (b0 - a1+1)=b0 - a1+1:=eR (by omega) (by omega)
 have e4:IntKind.wrap .i64 (a0 - b1+1)=a0 - b1+1:=eR (by omega) (by omega)
 rw [e1,e2,e3,e4]
 refine⟨_,rfl,?_,?_⟩
 ·repeat' split
  all_goals omega
 ·rw [bW,bO,bO]
  repeat' split
  all_goals omega
theorem Ke {a b:aI} (h1:fC a=true) (h2:fC b=true): ∃n,r5 N a b=some n/\(n=0↔DU a b=true):=by
 have b1:=mQ h1
 have b2:=mQ h2
 obtain⟨n,n1,n2,n3⟩:=AJ (N:=N) (a0:=a.X0) (a1:=a.X1) (b0:=b.X0) (b1:=b.X1) (by omega) (by omega) (by omega) (by omega)
 obtain⟨m,m1,m2,m3⟩:=AJ (N:=N) (a0:=a.Y0) (a1:=a.Y1) (b0:=b.Y0) (b1:=b.Y1) (by omega) (by omega) (by omega) (by omega)
 unfold r5 DU
 rw [n1,aB,m1,aB]
 refine⟨_,rfl,?_⟩
 rw [bW,<-n3,<-m3]
 split <;> omega
def qU (x y:bZ):Bool:=(decide (x.cO<=y.To)&&decide (y.cO<=x.To))&&DU (ui x) (ui y)
def qV (a:kT):Prop:=∃(i k:Nat) (x y:bZ),k<i/\a.aO[i]? =some x/\a.aO[k]? =some y/\qU x y=true
noncomputable def vN (r:List aI):Option Int:=if jY r≠0 then some (jY r) else none
noncomputable def DV (a:kT):Int:=if 2000<a.cG.length+ (a.aJ.map List.length).sum then 2 else if jc a≠0 then jc a else if mR a≠0 then mR a else if qV a then 12 else 0
noncomputable def HW (a:kT):Int:=match a.aJ.findSome? vN with | some e=>e | none=>if jY a.cG≠0 then jY a.cG else DV a
noncomputable def kQ (a:kT):Int:=if a.aJ.length=0 then 9 else if 16<a.aJ.length then 2 else HW a
def Km (nu:List (List aA)) (iq:List (List (List aA))):Prop:=(∀s∈nu,(aS s).length<=2000)/\(fD 0 iq).length<=2000
abbrev AK:=(List (List aI))×(List aI)×(List bZ)×(List eM)×(List (List aA))×(List aK)×(List (List Int))×(List cF)×(List Int)×(List Int)×(List Int)×(List j8)
def JD (a:kT) (x:Option AK×Int):Prop:=
 (kQ a≠0/\x= (none,kQ a))\/(kQ a=0/\pd a/\¬qV a/\∃nu iq,wI a.aJ a.aO a.aJ.length nu iq/\
  ((¬Km nu iq/\x= (none,2))\/(Km nu iq/\∃r gs ofP ofB vo vY,E0 a.aO a.bM (fD 0 iq) r gs ofP ofB vo vY/\
   x= (some (a.aJ,a.cG,a.aO,a.bM,nu,fD 0 iq,j5 a.aO (fD 0 iq),gs,ofP,ofB,vo,vY),0))))
structure uY (a:kT):Prop where
 cs:a.aJ.length<=1048576
 each: ∀r∈a.aJ,r.length<=1048576
 out:a.cG.length<=1048576
 bs:a.aO.length<=1048576
 ls:a.bM.length<=1048576
 nm:AF a
theorem DW {a:kT} (h:bk a<=1048576):uY a:=by
 rw [HB] at h
 have h1:=yk a.aJ
 have h2:=yk a.cG
 have h3:=yk a.aO
 have h4:=yk a.bM
 refine⟨by omega,fun r hr=>?_,by omega,by omega,by omega,fun x hx=>?_⟩
 ·have:=EL hr
  have:=yk r;omega
 ·have:=EL hx
  rw [FA,Hx,Hx] at this;omega
theorem BU {a:kT} (hs:uY a) (hN:4398046511104<=N):Ok (j3 N a) (JD a):=by
 unfold j3
 have pe: ∀e:Int,e≠0->kQ a=e->Ok (some ((none:Option AK),e)) (JD a):=fun e he h=>Ok.ret (.inl ⟨by rw [h];exact he,by rw [h]⟩)
 have c1:=hs.cs
 refine Ok.bif (fun h=>?_) (fun h=>?_)
 ·have:a.aJ.length=0:=by have:=beq_iff_eq.1 h;omega
  exact pe 9 (by omega) (by unfold kQ;rw [aC this])
 have h0: ¬a.aJ.length=0:=by rw [beq_eq_false_iff_ne] at h;omega
 refine Ok.bif (fun h=>?_) (fun h=>?_)
 ·have h1:16<a.aJ.length:=by have:=of_decide_eq_true h;omega
  exact pe 2 (by omega) (by unfold kQ;rw [aG h0,aC h1])
 have h1: ¬16<a.aJ.length:=by have:=of_decide_eq_false h;omega
 have pe1:kQ a=HW a:=by unfold kQ;rw [aG h0,aG h1]
 have hso:=hs.out
 have sumle: ∀k,k<=a.aJ.length->((a.aJ.take k).map List.length).sum<=k*1048576:=by
  intro k
  induction k with
  | zero=>intro _;simp
  | succ k ih=>
   intro hk
   have:=ih (by omega)
   have h2:=hs.each _ (cN (show k<a.aJ.length by omega))
   rw [eI (by omega),dO,List.sum_append]
   simp only [dZ,List.map_nil,List.sum_cons,List.sum_nil]
   rw [Nat.add_mul];omega
 refine Ok.bind (Ok.vt (Go:=fun s:Int=>s= ((a.cG.length+ (a.aJ.map List.length).sum:Nat):Int)/\∀r∈a.aJ,jY r=0) (Rt:=fun x:Option AK×Int=>∃e,e≠0/\x= (none,e)/\a.aJ.findSome? vN=some e)
  (fun(k:Nat) (s:Int)=>s= ((a.cG.length+ ((a.aJ.take k).map List.length).sum:Nat):Int)/\∀r∈a.aJ.take k,jY r=0) (by omega) ⟨by simp,fun r hr=>by simp at hr⟩ (fun k s hk hI=>?_) (fun s hI=>by rw [eQ] at hI;exact hI)) ?_
 ·obtain⟨e,hI⟩:=hI
  subst e
  have hkx:a.aJ[k]? =some a.aJ[k]:=aN hk
  have hts:a.aJ.take (k+1)=a.aJ.take k++[a.aJ[k]]:=eI hk
  have he:=hs.each _ (cN hk)
  refine Ok.ix hkx (Ok.eq (uW (by omega) hN) ?_)
  refine Ok.bif (fun h=>Ok.rt ?_) (fun h=>Ok.nx ?_)
  ·have h:jY a.aJ[k]≠0:=by simpa using h
   refine⟨_,h,rfl,?_⟩
   rw [List.findSome?_eq_some_iff]
   refine⟨a.aJ.take k,a.aJ[k],a.aJ.drop (k+1),?_,by unfold vN;rw [aC h],fun r hr=>by unfold vN;rw [aG (by simpa using hI r hr)]⟩
   rw [<-s9 hk,List.take_append_drop]
  ·have h:jY a.aJ[k]=0:=by simpa using h
   have:=sumle k (by omega)
   have hk16:k*1048576<=16*1048576:=Nat.mul_le_mul_right _ (by omega)
   refine⟨?_,fun r hr=>?_⟩
   ·rw [wrap_add (by omega),hts,dO,List.sum_append]
    simp only [dZ,List.map_nil,List.sum_cons,List.sum_nil]
    congr 1
    omega
   ·rw [hts] at hr
    rcases dA.1 hr with hr | hr
    ·exact hI r hr
    ·simp at hr;subst hr;exact h
 intro o ho
 refine Ok.cs ho ?_ ?_
 rotate_left
 ·rintro x ⟨e,he,rfl,hf⟩
  exact pe e he (by rw [pe1];unfold HW;rw [hf])
 rintro s ⟨rfl,hreg⟩
 have LO:a.aJ.findSome? vN=none:=List.findSome?_eq_none_iff.2 fun r hr=>by unfold vN;rw [aG (by simpa using hreg r hr)]
 have pe2:kQ a=if jY a.cG≠0 then jY a.cG else DV a:=by rw [pe1];unfold HW;rw [LO]
 refine Ok.eq (uW (by omega) hN) ?_
 refine Ok.bif (fun h=>?_) (fun h=>?_)
 ·have h:jY a.cG≠0:=by simpa using h
  exact pe _ h (by rw [pe2,aC h])
 have hout:jY a.cG=0:=by simpa using h
 have pe3:kQ a=DV a:=by rw [pe2,aG (by simpa using hout)]
 refine Ok.bif (fun h=>?_) (fun h=>?_)
 ·have h:2000<a.cG.length+ (a.aJ.map List.length).sum:=by have:=of_decide_eq_true h;omega
  exact pe 2 (by omega) (by rw [pe3];unfold DV;rw [aC h])
 have hmany: ¬2000<a.cG.length+ (a.aJ.map List.length).sum:=by have:=of_decide_eq_false h;omega
 have hbs:=hs.bs
 have hls:=hs.ls
 refine Ok.eq (Bp (by omega) (by omega) (by omega)) ?_
 refine Ok.bif (fun h=>?_) (fun h=>?_)
 ·have h:jc a≠0:=by simpa using h
  exact pe _ h (by rw [pe3];unfold DV;rw [aG hmany,aC h])
 have hbo:jc a=0:=by simpa using h
 refine Ok.eq (Bq (by omega) (by omega) hs.nm (by omega)) ?_
 refine Ok.bif (fun h=>?_) (fun h=>?_)
 ·have h:mR a≠0:=by simpa using h
  exact pe _ h (by rw [pe3];unfold DV;rw [aG hmany,aG (by simpa using hbo),aC h])
 have hla:mR a=0:=by simpa using h
 have hg:pd a:=⟨by omega,hreg,hout,by omega,hbo,hla⟩
 have pe4:kQ a=if qV a then 12 else 0:=by rw [pe3];unfold DV;rw [aG hmany,aG (by simpa using hbo),aG (by simpa using hla)]
 refine Ok.bind (Ok.vt (Go:=fun _:Unit=>¬qV a) (Rt:=fun x:Option AK×Int=>x= (none,12)/\qV a)
  (fun(k:Nat) (_:Unit)=>∀(i j:Nat) (x y:bZ),i<k->j<i->a.aO[i]? =some x->a.aO[j]? =some y->¬qU x y=true) (by omega) (fun i j x y h=>by omega) (fun k s hk hI=>?_) (fun s hI=>?_)) ?_
 ·have hkx:a.aO[k]? =some a.aO[k]:=aN hk
  refine Ok.ix hkx (Ok.eq (qF _ k (by omega)) ?_)
  have hgk:=hg.gb.ok _ (cN hk)
  refine Ok.bind (Ok.vt (Go:=fun _:Unit=>∀(j:Nat) (y:bZ),j<k->a.aO[j]? =some y->¬qU a.aO[k] y=true) (Rt:=fun x:Option AK×Int=>x= (none,12)/\qV a)
   (fun(t:Nat) (_:Unit)=>∀(j:Nat) (y:bZ),j<t->a.aO[j]? =some y->¬qU a.aO[k] y=true) (by rw [cL];omega) (fun j y h=>by omega) (fun t s ht hI2=>?_) (fun s hI2 j y hj hy=>hI2 j y (by rw [cL];omega) hy)) ?_
  ·have htk:t<k:=by rw [cL] at ht;omega
   have htx: (a.aO.take k)[t]? =some a.aO[t]:=by rw [List.getElem?_take_of_lt htk];exact aN (by omega)
   have hgt:=hg.gb.ok _ (cN (show t<a.aO.length by omega))
   refine Ok.ix htx ?_
   refine Ok.eq (x:=qU a.aO[k] a.aO[t]) ?_ ?_
   ·unfold qU
    cases hc: (decide (a.aO[k].cO<=a.aO[t].To)&&decide (a.aO[t].cO<=a.aO[k].To)) with
    | false=>rfl
    | true=>
     obtain⟨n,n1,n2⟩:=Ke (N:=N) hgk.2 hgt.2
     rw [aP,mP hgk.1,aB,mP hgt.1,aB,n1,aB,Bool.true_and]
     congr 1
     rw [eN,beq_iff_eq];exact n2
   ·refine Ok.bif (fun h=>Ok.rt ⟨rfl,k,t,_,_,htk,hkx,aN (by omega),h⟩) (fun h=>Ok.nx fun j y hj hy=>?_)
    by_cases e:j<t
    ·exact hI2 j y e hy
    ·have:j=t:=by omega
     subst this
     rw [aN (by omega)] at hy;injection hy with hy
     rw [<-hy,h];simp
  ·intro o ho
   refine Ok.cs ho (fun s hI2=>Ok.nx fun i j x y hi hj hx hy=>?_) (fun x hx=>Ok.rt hx)
   by_cases e:i<k
   ·exact hI i j x y e hj hx hy
   ·have:i=k:=by omega
    subst this
    rw [hkx] at hx;injection hx with hx
    rw [<-hx];exact hI2 j y hj hy
 ·rintro⟨i,j,x,y,hj,hx,hy,hc⟩
  exact hI i j x y (bA.1 hx).1 hj hx hy hc
 intro o ho
 refine Ok.cs ho ?_ ?_
 rotate_left
 ·rintro x ⟨rfl,hc⟩
  exact pe 12 (by omega) (by rw [pe4,aC hc])
 intro _ hncl
 have pe5:kQ a=0:=by rw [pe4,aG hncl]
 refine Ok.bind (EX (N:=N) (by omega) hg.cs hg.gb hN) ?_
 rintro⟨okk,nu,pcs⟩ ⟨iq,D,e1,e2⟩
 dsimp only at D e1 e2 ⊢
 subst e1
 refine Ok.bif (fun h=>Ok.ret (.inr ⟨pe5,hg,hncl,nu,iq,D, .inl ⟨fun hf=>?_,rfl⟩⟩)) (fun h=>?_)
 ·have:=e2.2 hf
  rw [this] at h;cases h
 ·have hf:Km nu iq:=e2.1 (by cases okk <;> simp_all)
  have hpr: ∀p∈fD 0 iq,p.iJ.length<=1073741824:=fun p hp=>by
   obtain⟨i,r,s,ps,u,j,k,hP⟩:=HV hg D hp
   have:=(hP.DM hg).2.2;omega
  have hf2:=hf.2
  refine Ok.eq (HQ hg.gb (by omega) hpr) ?_
  refine Ok.bind (Cx (N:=N) hg.gb (by omega) hpr (by omega) hN) ?_
  rintro⟨gs,ofP,ofB,vo,vY⟩ ⟨r,hC⟩
  exact Ok.ret (.inr ⟨pe5,hg,hncl,nu,iq,D, .inr ⟨hf,r,gs,ofP,ofB,vo,vY,hC,rfl⟩⟩)
end
end Go.Gk
namespace Go.Gk
open Go Classical
section
variable {N:Nat}
theorem FN {w:Nat} {g:Nat->Nat} {a:Nat}: ∀{ks:List Nat},ks.Nodup->a∈ks->(ks.map (fun k=>(if a=k then w else 0)+g k)).sum=w+ (ks.map g).sum
 | [],_,h=>by cases h
 | k::ks,hn,h=>by
  have hn':=List.nodup_cons.1 hn
  simp only [dZ,List.sum_cons]
  by_cases e:a=k
  ·subst e
   rw [aC rfl]
   have:ks.map (fun k=>(if a=k then w else 0)+g k)=ks.map g:=List.map_congr_left fun x hx=>by
    rw [aG (fun e=>hn'.1 (by rw [e];exact hx)),iI]
   rw [this];omega
  ·rw [aG e,FN hn'.2 (by rcases dC.1 h with h | h;exact absurd h e;exact h)];omega
theorem DX {α:Type} {ks:List Nat} (hn:ks.Nodup) (f w:α->Nat): ∀{l:List α},(∀x∈l,f x∈ks)->(ks.map (fun k=>((l.filter (fun x=>decide (f x=k))).map w).sum)).sum= (l.map w).sum
 | [],_=>by
  have: ∀ks:List Nat,(ks.map (fun _=>0)).sum=0:=fun ks=>by
   induction ks with
   | nil=>rfl
   | cons k ks ih=>simp only [dZ,List.sum_cons,ih]
  simpa using this ks
 | x::l,h=>by
  have ih:=DX hn f w (l:=l) fun y hy=>h y (gZ _ hy)
  have: (ks.map (fun k=>(((x::l).filter (fun x=>decide (f x=k))).map w).sum))=ks.map (fun k=>(if f x=k then w x else 0)+ ((l.filter (fun x=>decide (f x=k))).map w).sum):=List.map_congr_left fun k _=>by
   rw [List.filter_cons]
   by_cases e:f x=k
   ·rw [aC (by simpa using e),aC e,dZ,List.sum_cons]
   ·rw [aG (by simpa using e),aG e,iI]
  rw [this,FN hn (h x (by simp)),ih,dZ,List.sum_cons]
def FO (s:List aA):jr:=match s with | b::_=>⟨b.Xs.headD 0,b.Y0⟩ | []=>⟨0,0⟩
theorem xP.ne {a:kT} {nu:List (List aA)} {iq:List (List (List aA))} {p:aK} {i:Nat} {r:List aI} {s:List aA} {ps:List (List aA)} {u:Nat->Nat} {j k:Nat} (h:xP a nu iq p i r s ps u j k):p.Set≠[]:=by
 intro e
 have hh:=jq.1 (eW h.head)
 have hx: (aS s)[k]? =some (aS s)[k]:=aN hh.1
 have hm: (aS s)[k]∈nF (aS s) (aS s).length u k:=lS.2 ⟨k,hh.1,hh.2,hx⟩
 obtain⟨b,hb,q,hq,hr⟩:=qu (eW hx)
 have hbm:cA b∈s.map cA:=dG.2 ⟨b,hb,rfl⟩
 have hq1:=EP (h.dr.can.each _ hbm).2.2.1 q hq
 have hb1:=(h.dr.can.each _ hbm).1
 have hc:=h.set.cover q.1 b.Y0
 rw [e] at hc
 have:sH (nF (aS s) (aS s).length u k) q.1 b.Y0=true:=iT.2 ⟨_,hm,by rw [hr];exact⟨⟨Int.le_refl _,hq1⟩,Int.le_refl _,hb1⟩⟩
 rw [this] at hc
 cases hc
structure rV (a:kT) (nu:List (List aA)) (iq:List (List (List aA))) (r:Nat->Nat) (gs:List cF) (ofP ofB vo:List Int) (vY:List j8):Prop where
 AL:pd a
 NK: ¬qV a
 dr:wI a.aJ a.aO a.aJ.length nu iq
 yZ:Km nu iq
 LK:E0 a.aO a.bM (fD 0 iq) r gs ofP ofB vo vY
inductive Kf (N:Nat) (a:kT):Prop
 | err (e:Int) (he:e≠0) (h:j3 N a=some (none,e))
 | ok {nu:List (List aA)} {iq:List (List (List aA))} {r:Nat->Nat} {gs:List cF} {ofP ofB vo:List Int} {vY:List j8} (b:rV a nu iq r gs ofP ofB vo vY)
  (h:j3 N a=some (some (a.aJ,a.cG,a.aO,a.bM,nu,fD 0 iq,j5 a.aO (fD 0 iq),gs,ofP,ofB,vo,vY),0))
theorem opened {a:kT} (hs:uY a) (hN:4398046511104<=N):Kf N a:=by
 obtain⟨x,hx,hI⟩:=BU (N:=N) hs hN
 rcases hI with ⟨he,rfl⟩ | ⟨_,hg,hcl,nu,iq,D,⟨_,rfl⟩ | ⟨hf,r,gs,ofP,ofB,vo,vY,hC,rfl⟩⟩
 ·exact .err _ he hx
 ·exact .err 2 (by omega) hx
 ·exact .ok ⟨hg,hcl,D,hf,hC⟩ hx
end
end Go.Gk
namespace Go.Gk
open Go Classical
section
variable {S R:Type}
theorem Ok.pF {body:S->Option (Fl S R)} {N n:Nat} {s:S} (ι:S->Int) (Inv:Nat->S->Prop) {Go:S->Prop} {Rt:R->Prop}
  (h1: ∀k s,k<n->ι s= ((k:Nat):Int)->Inv k s->Ok (body s) (Ig (fun s'=>ι s'= ((k+1:Nat):Int)/\Inv (k+1) s') Go Rt))
  (h2: ∀s,ι s= ((n:Nat):Int)->Inv n s->Ok (body s) (Ig (fun _=>False) Go Rt))
  {k0:Nat} (hk:k0<=n) (hi:ι s= ((k0:Nat):Int)) (h0:Inv k0 s) (hn:n<N):Ok (Gk.jw body N s) (LB Go Rt):=by
 refine Ok.jw (fun s=>∃k:Nat,k<=n/\ι s= ((k:Nat):Int)/\Inv k s) (fun s=>n - (ι s).toNat) ?_ ⟨k0,hk,hi,h0⟩ (by omega)
 rintro s ⟨k,hk,e,hI⟩
 by_cases hlt:k<n
 ·refine(h1 k s hlt e hI).mono ?_
  rintro(s' | s' | r) hp
  ·have hp1:ι s'= ((k+1:Nat):Int):=hp.1
   exact⟨⟨k+1,hlt,hp.1,hp.2⟩,by rw [e,hp1];simp only [cJ];omega⟩
  ·exact hp
  ·exact hp
 ·have:k=n:=by omega
  subst this
  refine(h2 s e hI).mono ?_
  rintro(s' | s' | r) hp
  ·exact hp.elim
  ·exact hp
  ·exact hp
theorem kR {k n:Nat} (h:k<n):decide (((k:Nat):Int)< ((n:Nat):Int))=true:=bU (by omega)
theorem ng (n:Nat):decide (((n:Nat):Int)< ((n:Nat):Int))=false:=bY (by omega)
theorem xR {k n:Nat} (h:n<=k):decide (((k:Nat):Int)< ((n:Nat):Int))=false:=bY (by omega)
end
theorem qe {α:Type} {p:α->Bool}: ∀{l:List α} {k:Nat},(∀(j:Nat) x,j<k->l[j]? =some x->p x=true)->(∀x,l[k]? =some x->p x=false)->l.takeWhile p=l.take k/\l.dropWhile p=l.drop k
 | [],k,_,_=>by simp
 | y::l,0,_,h2=>by
  have:=h2 y rfl
  rw [List.takeWhile_cons,List.dropWhile_cons,this];simp
 | y::l,k+1,h1,h2=>by
  have h:=h1 0 y (by omega) rfl
  obtain⟨e1,e2⟩:=qe (l:=l) (k:=k) (fun j x hj hx=>h1 (j+1) x (by omega) hx) (fun x hx=>h2 x hx)
  rw [List.takeWhile_cons,List.dropWhile_cons,h,aC rfl,aC rfl,e1,e2];simp
section
variable {N:Nat}
def qf (l:List Int) (c:Int):List Int:=if c∈l then l else l.takeWhile (fun x=>decide (x<c))++c::l.dropWhile (fun x=>decide (x<c))
theorem xS (l:List Int) (c:Int): (qf l c).length<=l.length+1:=by
 unfold qf
 split
 ·omega
 ·have: (l.takeWhile (fun x=>decide (x<c))).length+ (l.dropWhile (fun x=>decide (x<c))).length=l.length:=by rw [<-cZ,List.takeWhile_append_dropWhile]
  rw [cZ,dR];omega
theorem AM {l:List Int} {c x:Int}:x∈qf l c↔x∈l\/x=c:=by
 unfold qf
 split
 ·rename_i h
  exact⟨.inl,fun h'=>h'.elim id fun e=>e▸h⟩
 ·have:x∈l↔x∈l.takeWhile (fun x=>decide (x<c))\/x∈l.dropWhile (fun x=>decide (x<c)):=by rw [<-dA,List.takeWhile_append_dropWhile]
  rw [dA,dC,this]
  constructor
  ·rintro(h | h | h)
   ·exact .inl (.inl h)
   ·exact .inr h
   ·exact .inl (.inr h)
  ·rintro((h | h) | h)
   ·exact .inl h
   ·exact .inr (.inr h)
   ·exact .inr (.inl h)
theorem FP {l:List Int} (h:jD l) (c:Int): ∀x∈l.dropWhile (fun x=>decide (x<c)),c<=x:=by
 induction l with
 | nil=>intro x hx;cases hx
 | cons a l ih=>
  rw [List.dropWhile_cons]
  by_cases ha:a<c
  ·rw [aC (by simpa using ha)];exact ih h.tail
  ·rw [aG (by simpa using ha)]
   intro x hx
   rcases dC.1 hx with rfl | hx
   ·omega
   ·have:=h.head x hx;omega
theorem IZ (l:List Int) (c:Int): ∀x∈l.takeWhile (fun x=>decide (x<c)),x<c:=by
 induction l with
 | nil=>intro x hx;cases hx
 | cons a l ih=>
  rw [List.takeWhile_cons]
  by_cases ha:a<c
  ·rw [aC (by simpa using ha)]
   intro x hx
   rcases dC.1 hx with rfl | hx
   ·exact ha
   ·exact ih x hx
  ·rw [aG (by simpa using ha)]
   intro x hx;cases hx
theorem sT {l:List Int} {c:Int} (h:jD l):jD (qf l c):=by
 unfold qf
 split
 ·exact h
 ·rename_i hc
  have hs:=h
  rw [<-List.takeWhile_append_dropWhile (p:=fun x=>decide (x<c)) (l:=l)] at hs
  unfold jD at hs ⊢
  rw [mT] at hs ⊢
  refine⟨hs.1,ov.2 ⟨fun x hx=>?_,hs.2.1⟩,fun x hx y hy=>?_⟩
  ·have h1:=FP h c x hx
   have h2:x≠c:=fun e=>hc (by rw [<-e,<-List.takeWhile_append_dropWhile (p:=fun x=>decide (x<c)) (l:=l)];exact List.mem_append_right _ hx)
   omega
  ·have h1:=IZ l c x hx
   rcases dC.1 hy with rfl | hy
   ·exact h1
   ·have:=FP h c y hy;omega
def kq (l:List Int):List Int:=l.foldl qf []
theorem tF: ∀(cs l:List Int),jD l->jD (cs.foldl qf l)/\(∀x,x∈cs.foldl qf l↔x∈l\/x∈cs)/\(cs.foldl qf l).length<=l.length+cs.length
 | [],l,h=>⟨h,fun x=>by simp,by simp⟩
 | c::cs,l,h=>by
  obtain⟨h1,h2,h3⟩:=tF cs (qf l c) (sT h)
  refine⟨h1,fun x=>?_,?_⟩
  ·rw [List.foldl_cons,h2,AM,dC,or_assoc]
  ·rw [List.foldl_cons,dR]
   have:=xS l c;omega
theorem nh (l:List Int):jD (kq l):=(tF l [] jX).1
theorem yB {l:List Int} {x:Int}:x∈kq l↔x∈l:=by
 have:=(tF l [] jX).2.1 x
 unfold kq;rw [this];simp
theorem sU (l:List Int): (kq l).length<=l.length:=by
 have:=(tF l [] jX).2.2
 unfold kq;simpa using this
theorem uZ (l:List Int) (c d:Int):kq (l++[c,d])=qf (qf (kq l) c) d:=by unfold kq;rw [List.foldl_append];rfl
theorem E1 {a b:Nat} (h:a+b<=4611686018427387904):IntKind.wrap .i64 (Int.tdiv (IntKind.wrap .i64 (((a:Nat):Int)+ ((b:Nat):Int))) 2)= (((a+b) / 2:Nat):Int):=by
 rw [wrap_add h,Int.tdiv_eq_ediv_of_nonneg (by omega),eR (by omega) (by omega)];omega
theorem vq {l:List Int} {c:Int} (h:jD l) (hl:l.length<=1099511627776) (hN:4398046511104<=N):fA N l c=some (qf l c):=by
 refine Ok.get ?_
 unfold fA
 refine Ok.bind (Ok.jw (Go:=fun st:Int×Int=>∃a:Nat,st.1= ((a:Nat):Int)/\a<=l.length/\(∀(j:Nat) x,j<a->l[j]? =some x->x<c)/\(∀(j:Nat) x,a<=j->l[j]? =some x->c<=x)) (Rt:=fun _=>True)
  (fun st=>∃a b:Nat,st= (((a:Nat):Int),((b:Nat):Int))/\a<=b/\b<=l.length/\(∀(j:Nat) x,j<a->l[j]? =some x->x<c)/\(∀(j:Nat) x,b<=j->l[j]? =some x->c<=x))
  (fun st=>(st.2 - st.1).toNat) ?_ ⟨0,l.length,rfl,by omega,bT _,fun j x hj=>by omega,fun j x hj hx=>by have:=(bA.1 hx).1;omega⟩ (by simp only;omega)) ?_
 ·rintro st ⟨a,b,rfl,hab,hb,h1,h2⟩
  dsimp only
  by_cases hlt:a<b
  ·have hm: (a+b) / 2<l.length:=by omega
   have hx:l[(a+b) / 2]? =some l[(a+b) / 2]:=aN hm
   rw [kR hlt,aP,E1 (by omega)]
   refine Ok.ix hx ?_
   by_cases hc:l[(a+b) / 2]<c
   ·rw [bU hc,aP,aB]
    refine Ok.nx ⟨⟨(a+b) / 2+1,b,?_,by omega,hb,fun j x hj hx'=>?_,h2⟩,?_⟩
    ·rw [bR (by omega)]
    ·by_cases e:j= (a+b) / 2
     ·subst e;rw [hx] at hx';injection hx' with hx';omega
     ·have:=h.lt (i:=j) (j:=(a+b) / 2) (by omega) hx' hx
      omega
    ·rw [bR (by omega)];simp only;omega
   ·rw [bY hc,aR,aB]
    refine Ok.nx ⟨⟨a,(a+b) / 2,rfl,by omega,by omega,h1,fun j x hj hx'=>?_⟩,by simp only;omega⟩
    by_cases e:j= (a+b) / 2
    ·subst e;rw [hx] at hx';injection hx' with hx';omega
    ·have:=h.lt (i:=(a+b) / 2) (j:=j) (by omega) hx hx'
     omega
  ·rw [xR (by omega),aR]
   exact Ok.br ⟨a,rfl,by omega,h1,fun j x hj hx=>h2 j x (by omega) hx⟩
 intro o ho
 refine Ok.cs ho ?_ (fun r hr=>r.elim)
 rintro⟨st1,st2⟩ ⟨a,ha,hle,h1,h2⟩
 dsimp only at ha ⊢
 subst ha
 have hin:l[a]? =some c->qf l c=l:=fun hx=>by unfold qf;rw [aC (eW hx)]
 have hout:l[a]? ≠some c->qf l c=l.take a++c::l.drop a:=fun hx=>by
  have hc:c∉l:=fun hc=>by
   obtain⟨j,hj⟩:=dN hc
   by_cases h3:j<a
   ·have:=h1 j c h3 hj;omega
   ·by_cases e:j=a
    ·subst e;exact hx hj
    ·have h5:a<l.length:=by have:=(bA.1 hj).1;omega
     have h6:l[a]? =some l[a]:=aN h5
     have h7:=h.lt (i:=a) (j:=j) (by omega) h6 hj
     have h8:=h2 a _ (bT _) h6
     omega
  unfold qf
  rw [aG hc]
  obtain⟨e1,e2⟩:=qe (p:=fun x=>decide (x<c)) (l:=l) (k:=a) (fun j x hj hx'=>bU (h1 j x hj hx')) (fun x hx'=>bY (by have:=h2 a x (bT _) hx';omega))
  rw [e1,e2]
 have hrest:l[a]? ≠some c->Ok ((s8 l 0 ((a:Nat):Int)).bind fun x49=>(app 8 ([]:List Int) x49).bind fun x51=>(app 8 x51 ([c]:List Int)).bind fun x54=>(s8 l ((a:Nat):Int) ((l.length:Nat):Int)).bind fun x56=>(app 8 x54 x56).bind fun x58=>some x58) (fun r=>r=qf l c):=fun hx=>by
  have htk: (l.take a).length=a:=by rw [cL];omega
  refine Ok.eq (qF l a hle) (Ok.app (by simp only [List.length_nil];omega) (Ok.app (by rw [List.nil_append];simp only [dR,List.length_nil];omega) (Ok.eq (pq l a hle) (Ok.app ?_ (Ok.ret ?_)))))
  ·rw [List.nil_append,cZ,iH];simp only [dR,List.length_nil];omega
  ·rw [hout hx];simp
 by_cases hlt:a<l.length
 ·have hx:l[a]? =some l[a]:=aN hlt
  rw [kR hlt,aP,dU hx,aB,aB]
  refine Ok.bif (fun hb=>Ok.ret ?_) (fun hb=>hrest ?_)
  ·rw [beq_iff_eq] at hb
   rw [hin (by rw [hx,hb])]
  ·rw [beq_eq_false_iff_ne] at hb
   rw [hx];intro e;injection e with e;exact hb e
 ·rw [xR (by omega),aR,aB,aR]
  exact hrest (by rw [List.getElem?_eq_none (by omega)];intro e;cases e)
theorem DY (l m:List aI):ju (l++m)=ju l++ju m:=List.flatMap_append
theorem AO {l:List aI} (hl:l.length<=268435456) (hN:4398046511104<=N):gS N l=some (kq (ju l)):=by
 refine Ok.get ?_
 unfold gS
 refine Ok.bind (Ok.pF (n:=l.length) (fun s=>s.2) (fun k s=>s.1=kq (ju (l.take k))) (Go:=fun s=>s.1=kq (ju l)) (Rt:=fun _=>False) ?_ ?_ (dJ _) rfl rfl (by omega)) ?_
 ·rintro k ⟨out,i⟩ hk e hI
  dsimp only at e hI ⊢
  subst e;subst hI
  rw [kR hk,aP]
  have hx:l[k]? =some l[k]:=aN hk
  have h1:=sU (ju (l.take k))
  rw [jE,cL] at h1
  have h2:=xS (kq (ju (l.take k))) l[k].Y0
  refine Ok.ix hx (Ok.ix hx (Ok.eq (vq (nh _) (by omega) hN) (Ok.eq (vq (sT (nh _)) (by omega) hN) (Ok.nx ⟨bR (by omega),?_⟩))))
  rw [eI hk,DY]
  exact(uZ _ _ _).symm
 ·rintro⟨out,i⟩ e hI
  dsimp only at e hI ⊢
  subst e
  rw [ng,aR]
  exact Ok.br (by rw [eQ] at hI;exact hI)
 intro o ho
 exact Ok.cs ho (fun s hs=>Ok.ret hs) (fun r hr=>hr.elim)
def sp (s:aF):Int×Int:=(s.from_,s.to)
theorem HX: ∀{l m:List aF},l.map sp=m.map sp->l=m
 | [],[],_=>rfl
 | [],_::_,h=>by cases h
 | _::_,[],h=>by cases h
 | ⟨a,b⟩::l,⟨c,d⟩::m,h=>by
  rw [dZ,dZ] at h
  injection h with h1 h2
  unfold sp at h1
  injection h1 with h3 h4
  simp only at h3 h4
  rw [h3,h4,HX h2]
theorem tG (a b:Int): (if b<a then b else a)=min a b:=by split <;> omega
theorem tH (a b:Int): (if a<b then b else a)=max a b:=by split <;> omega
theorem BV {l:List aF} {s:aF} (hl:l.length<=268435456) (hN:4398046511104<=N):Ok (iA N l s) (fun r=>r.map sp=lL (l.map sp) (sp s)):=by
 unfold iA
 have hget: ∀(j:Nat) (x:Int×Int),(l.map sp)[j]? =some x->∃y,l[j]? =some y/\x=sp y:=fun j x h=>by
  rw [gC] at h
  cases hy:l[j]? with
  | none=>rw [hy] at h;cases h
  | some y=>rw [hy] at h;injection h with h;exact⟨y,rfl,h.symm⟩
 refine Ok.bind (Ok.jw (Go:=fun st:List aF×Int=>∃k:Nat,st= (l.take k,((k:Nat):Int))/\k<=l.length/\(∀(j:Nat) x,j<k->l[j]? =some x->x.to<s.from_)/\(∀x,l[k]? =some x->¬x.to<s.from_)) (Rt:=fun _=>False)
  (fun st=>∃k:Nat,st= (l.take k,((k:Nat):Int))/\k<=l.length/\∀(j:Nat) x,j<k->l[j]? =some x->x.to<s.from_) (fun st=>l.length - st.2.toNat) ?_ ⟨0,by simp,by omega,fun j x hj=>by omega⟩ (by simp;omega)) ?_
 ·rintro st ⟨k,rfl,hk,hI⟩
  dsimp only
  by_cases hlt:k<l.length
  ·have hx:l[k]? =some l[k]:=aN hlt
   rw [kR hlt,aP,dU hx,aB,aB]
   refine Ok.bif (fun hb=>?_) (fun hb=>?_)
   ·have hb:=of_decide_eq_true hb
    refine Ok.eq rfl (Ok.app ?_ (Ok.nx ⟨⟨k+1,?_,hlt,?_⟩,?_⟩))
    ·rw [cL];simp only [dR,List.length_nil];omega
    ·rw [bR (by omega),eI hlt]
    ·intro j x hj hx'
     by_cases e:j=k
     ·subst e;rw [hx] at hx';injection hx' with hx';rw [<-hx'];exact hb
     ·exact hI j x (by omega) hx'
    ·rw [bR (by omega)];simp only [cJ];omega
   ·have hb:=of_decide_eq_false hb
    exact Ok.br ⟨k,rfl,hk,hI,fun x hx'=>by rw [hx] at hx';injection hx' with hx';rw [<-hx'];exact hb⟩
  ·rw [xR (by omega),aR,aB,aR]
   exact Ok.br ⟨k,rfl,hk,hI,fun x hx'=>by have:=(bA.1 hx').1;omega⟩
 intro o ho
 refine Ok.cs ho ?_ (fun r hr=>hr.elim)
 rintro st ⟨k,rfl,hk,hI,hE⟩
 dsimp only
 obtain⟨e1,e2⟩:=qe (p:=fun a:Int×Int=>decide (a.2< (sp s).1)) (l:=l.map sp) (k:=k) (fun j x hj hx=>by
  obtain⟨y,hy,rfl⟩:=hget j x hx
  exact bU (hI j y hj hy)) (fun x hx=>by
  obtain⟨y,hy,rfl⟩:=hget k x hx
  exact bY (hE y hy))
 refine Ok.bind (Ok.jw (Go:=fun st:aF×Int=>∃i:Nat,st.2= ((i:Nat):Int)/\i<=l.length/\ku (sp s) ((l.drop k).map sp)= (sp st.1,(l.drop i).map sp)) (Rt:=fun _=>False)
  (fun st=>∃i:Nat,st.2= ((i:Nat):Int)/\i<=l.length/\ku (sp s) ((l.drop k).map sp)=ku (sp st.1) ((l.drop i).map sp)) (fun st=>l.length - st.2.toNat) ?_ ⟨k,rfl,hk,rfl⟩ (by simp only [cJ];omega)) ?_
 ·rintro⟨s',i'⟩ ⟨i,e,hi,hm⟩
  dsimp only at e hm ⊢
  subst e
  by_cases hlt:i<l.length
  ·have hx:l[i]? =some l[i]:=aN hlt
   have hd: (l.drop i).map sp=sp l[i]::(l.drop (i+1)).map sp:=by rw [s9 hlt,dZ]
   rw [kR hlt,aP,dU hx,aB,aB]
   refine Ok.bif (fun hb=>?_) (fun hb=>?_)
   ·have hb:=of_decide_eq_true hb
    refine Ok.eq rfl (Ok.eq rfl (Ok.nx ⟨⟨i+1,bR (by omega),hlt,?_⟩,?_⟩))
    ·rw [hm,hd]
     conv=>lhs;unfold ku
     rw [aC (show (sp l[i]).1<=(sp s').2 from hb),tG,tH]
     rfl
    ·dsimp only;rw [bR (by omega)];simp only [cJ];omega
   ·have hb:=of_decide_eq_false hb
    refine Ok.br ⟨i,rfl,hi,?_⟩
    rw [hm,hd]
    conv=>lhs;unfold ku
    rw [aG (show ¬(sp l[i]).1<=(sp s').2 from hb)]
  ·rw [xR (by omega),aR,aB,aR]
   refine Ok.br ⟨i,rfl,hi,?_⟩
   rw [hm,List.drop_eq_nil_of_le (by omega)];rfl
 intro o ho
 refine Ok.cs ho ?_ (fun r hr=>hr.elim)
 rintro⟨s',i'⟩ ⟨i,e,hi,hm⟩
 dsimp only at e hm ⊢
 subst e
 refine Ok.app ?_ (Ok.eq (pq l i hi) (Ok.app ?_ (Ok.ret ?_)))
 ·rw [cL];simp only [dR,List.length_nil];omega
 ·rw [cZ,cL,iH];simp only [dR,List.length_nil];omega
 ·unfold lL
  rw [e1,e2,<-List.map_take,<-List.map_drop,hm]
  simp
theorem AP: ∀(l:List (Int×Int)) (s:Int×Int),(ku s l).2.length<=l.length
 | [],s=>bT _
 | a::l,s=>by
  unfold ku
  split
  ·have:=AP l (min s.1 a.1,max s.2 a.2)
   rw [dR];omega
  ·exact bT _
theorem y5 (l:List (Int×Int)) (s:Int×Int): (lL l s).length<=l.length+1:=by
 unfold lL
 have h1:=AP (l.dropWhile fun a=>decide (a.2<s.1)) s
 have h2: (l.takeWhile (fun x=>decide (x.2<s.1))).length+ (l.dropWhile (fun x=>decide (x.2<s.1))).length=l.length:=by rw [<-cZ,List.takeWhile_append_dropWhile]
 rw [cZ,dR];omega
def jQ (y:Int) (out:List (Int×Int)) (r:aI):List (Int×Int):=if r.Y0<=y/\y<r.Y1 then lL out (r.X0,r.X1) else out
def kS (l:List aI) (y:Int):List (Int×Int):=l.foldl (jQ y) []
theorem GA (l:List aI) (r:aI) (y:Int):kS (l++[r]) y=jQ y (kS l y) r:=by unfold kS;rw [List.foldl_append];rfl
theorem y6 (y:Int): ∀(l:List aI) (out:List (Int×Int)),(l.foldl (jQ y) out).length<=out.length+l.length
 | [],out=>by simp
 | r::l,out=>by
  rw [List.foldl_cons,dR]
  have h1:=y6 y l (jQ y out r)
  have h2: (jQ y out r).length<=out.length+1:=by
   unfold jQ
   split
   ·exact y5 _ _
   ·omega
  omega
theorem qW (l:List aI) (y:Int): (kS l y).length<=l.length:=by
 have:=y6 y l []
 unfold kS;simpa using this
theorem xT (y:Int): ∀(l:List aI) (out:List (Int×Int)),(∀r∈l,r.X0<r.X1)->jD (dD out)->jD (dD (l.foldl (jQ y) out))/\∀x,jm (l.foldl (jQ y) out) x= (jm out x||sH l x y)
 | [],out,_,h=>⟨h,fun x=>by simp [sH]⟩
 | r::l,out,hr,h=>by
  have h0:=hr r (by simp)
  rw [List.foldl_cons]
  have hst:jD (dD (jQ y out r))/\∀x,jm (jQ y out r) x= (jm out x||((decide (r.X0<=x)&&decide (x<r.X1))&&(decide (r.Y0<=y)&&decide (y<r.Y1)))):=by
   unfold jQ
   by_cases hy:r.Y0<=y/\y<r.Y1
   ·rw [aC hy]
    obtain⟨j1,j2⟩:=xD (l:=out) (s:=(r.X0,r.X1)) h h0
    refine⟨j1,fun x=>?_⟩
    rw [j2,bU hy.1,bU hy.2,Bool.or_comm];simp
   ·rw [aG hy]
    refine⟨h,fun x=>?_⟩
    have: (decide (r.Y0<=y)&&decide (y<r.Y1))=false:=by rw [Bool.and_eq_false_iff,decide_eq_false_iff_not,decide_eq_false_iff_not];omega
    rw [this];simp
  obtain⟨m1,m2⟩:=xT y l (jQ y out r) (fun r' hr'=>hr r' (gZ _ hr')) hst.1
  refine⟨m1,fun x=>?_⟩
  rw [m2,hst.2,Bool.or_assoc];rfl
theorem sV {l:List aI} (h: ∀r∈l,r.X0<r.X1) (y:Int):jD (dD (kS l y))/\∀x,jm (kS l y) x=sH l x y:=by
 obtain⟨h1,h2⟩:=xT y l [] h jX
 exact⟨h1,fun x=>by rw [show jm (kS l y) x=_ from h2 x,show jm [] x=false from rfl,Bool.false_or]⟩
theorem vZ {y y':Int}: ∀(l:List aI) (out:List (Int×Int)),(∀r∈l,(r.Y0<=y/\y<r.Y1)↔(r.Y0<=y'/\y'<r.Y1))->l.foldl (jQ y) out=l.foldl (jQ y') out
 | [],out,_=>rfl
 | r::l,out,h=>by
  rw [List.foldl_cons,List.foldl_cons,vZ l _ (fun r' hr'=>h r' (gZ _ hr'))]
  congr 1
  unfold jQ
  have:=h r (by simp)
  by_cases h1:r.Y0<=y/\y<r.Y1
  ·rw [aC h1,aC (this.1 h1)]
  ·rw [aG h1,aG (fun h2=>h1 (this.2 h2))]
theorem E2 {l:List aI} {y y':Int} (h: ∀r∈l,(r.Y0<=y/\y<r.Y1)↔(r.Y0<=y'/\y'<r.Y1)):kS l y=kS l y':=vZ l [] h
theorem HY {l:List aI} {y:Int} (h: ∀r∈l,¬(r.Y0<=y/\y<r.Y1)):kS l y= []:=by
 have: ∀(l:List aI) (out:List (Int×Int)),(∀r∈l,¬(r.Y0<=y/\y<r.Y1))->l.foldl (jQ y) out=out:=by
  intro l
  induction l with
  | nil=>intro out _;rfl
  | cons r l ih=>
   intro out h
   rw [List.foldl_cons,ih _ (fun r' hr'=>h r' (gZ _ hr'))]
   unfold jQ;rw [aG (h r (by simp))]
 exact this l [] h
theorem Cy {l:List aI} {y:Int} (hl:l.length<=134217728) (hN:4398046511104<=N):Ok (gR N l y) (fun r=>r.map sp=kS l y):=by
 unfold gR
 refine Ok.bind (Ok.pF (n:=l.length) (fun s=>s.2) (fun k s=>s.1.map sp=kS (l.take k) y) (Go:=fun s=>s.1.map sp=kS l y) (Rt:=fun _=>False) ?_ ?_ (dJ _) rfl rfl (by omega)) ?_
 ·rintro k ⟨out,i⟩ hk e hI
  dsimp only at e hI ⊢
  subst e
  rw [kR hk,aP]
  have hx:l[k]? =some l[k]:=aN hk
  have hlen:out.length<=l.length:=by
   have h1:=qW (l.take k) y
   rw [<-hI,cY,cL] at h1;omega
  rw [dU hx,aB]
  have hst:kS (l.take (k+1)) y=jQ y (kS (l.take k) y) l[k]:=by rw [eI hk,GA]
  have hno: ¬(l[k].Y0<=y/\y<l[k].Y1)->Ok ((some out).bind fun s141=>some (Fl.nx (s141,IntKind.wrap .i64 (((k:Nat):Int)+1)):Fl (List aF×Int) Empty)) (Ig (fun s'=>s'.2= ((k+1:Nat):Int)/\s'.1.map sp=kS (l.take (k+1)) y) (fun s=>s.1.map sp=kS l y) (fun _=>False)):=fun hy=>by
   rw [aB]
   refine Ok.nx ⟨bR (by omega),?_⟩
   rw [hst];unfold jQ;rw [aG hy];exact hI
  by_cases h1:l[k].Y0<=y
  ·rw [bU h1,aP,aB,aB]
   by_cases h2:y<l[k].Y1
   ·rw [bU h2,aP]
    refine Ok.bind (P:=fun r:List aF=>r.map sp=kS (l.take (k+1)) y) (Ok.eq rfl (Ok.eq rfl (Ok.bind (BV (by omega) hN) (fun r hr=>Ok.ret ?_)))) (fun r hr=>Ok.nx ⟨bR (by omega),hr⟩)
    rw [hr,hI,hst];unfold jQ;rw [aC ⟨h1,h2⟩];rfl
   ·rw [bY h2,aR]
    exact hno (fun h=>h2 h.2)
  ·rw [bY h1,aR,aB,aR]
   exact hno (fun h=>h1 h.1)
 ·rintro⟨out,i⟩ e hI
  dsimp only at e hI ⊢
  subst e
  rw [ng,aR]
  exact Ok.br (by rw [eQ] at hI;exact hI)
 intro o ho
 exact Ok.cs ho (fun s hs=>Ok.ret hs) (fun r hr=>hr.elim)
theorem yC {l:List aF} {x:Int} (hl:l.length<=1099511627776) (hN:4398046511104<=N):gu N l x=some (jm (l.map sp) x):=by
 refine Ok.get ?_
 unfold gu
 have hm: ∀b:Bool,(jm (l.map sp) x=b↔(l.any fun s=>decide (s.from_<=x)&&decide (x<s.to))=b):=fun b=>by unfold jm;rw [List.any_map];rfl
 refine Ok.bind (Ok.pF (n:=l.length) (fun s=>s) (fun k s=>∀(j:Nat) y,j<k->l[j]? =some y->¬(y.from_<=x/\x<y.to)) (Go:=fun s=>jm (l.map sp) x=false) (Rt:=fun r=>r=jm (l.map sp) x) ?_ ?_ (dJ _) rfl (fun j y hj=>by omega) (by omega)) ?_
 ·rintro k i hk e hI
  subst e
  rw [kR hk,aP]
  have hx:l[k]? =some l[k]:=aN hk
  rw [dU hx,aB]
  have hno: ¬(l[k].from_<=x/\x<l[k].to)->Ok (some (Fl.nx (IntKind.wrap .i64 (((k:Nat):Int)+1)):Fl Int Bool)) (Ig (fun s'=>s'= ((k+1:Nat):Int)/\∀(j:Nat) y,j<k+1->l[j]? =some y->¬(y.from_<=x/\x<y.to)) (fun s=>jm (l.map sp) x=false) (fun r=>r=jm (l.map sp) x)):=fun hy=>Ok.nx ⟨bR (by omega),fun j y hj hjy=>by
   by_cases e:j=k
   ·subst e;rw [hx] at hjy;injection hjy with hjy;rw [<-hjy];exact hy
   ·exact hI j y (by omega) hjy⟩
  by_cases h1:l[k].from_<=x
  ·rw [bU h1,aP,aB,aB]
   by_cases h2:x<l[k].to
   ·rw [bU h2,aP]
    refine Ok.rt ?_
    symm;rw [hm,kl]
    exact⟨l[k],cN hk,by rw [bU h1,bU h2];rfl⟩
   ·rw [bY h2,aR];exact hno (fun h=>h2 h.2)
  ·rw [bY h1,aR,aB,aR];exact hno (fun h=>h1 h.1)
 ·rintro i e hI
  subst e
  rw [ng,aR]
  refine Ok.br ?_
  rw [hm,List.any_eq_false]
  intro y hy
  obtain⟨j,hj⟩:=dN hy
  have:=hI j y (bA.1 hj).1 hj
  rw [iM,Bool.and_eq_false_iff,decide_eq_false_iff_not,decide_eq_false_iff_not];omega
 intro o ho
 exact Ok.cs ho (fun s hs=>Ok.ret hs.symm) (fun r hr=>Ok.ret hr)
end
end Go.Gk
namespace Go.Gk
open Go Classical
section
variable {α:Type} [DecidableEq α] {N:Nat}
def JE (N:Nat) (p0 p1:List α):Option Bool:=
 bif ((p0.length:Int) != (p1.length:Int)) then (some false) else ((jw (fun(s32:Int)=>(bif (decide (s32< (p0.length:Int))) then ((idx p0 s32).bind fun x45=>(idx p1 s32).bind fun x48=>bif (!(decide (x45=x48))) then (some (.rt false)) else (some (.nx (IntKind.wrap .i64 (s32+1))))) else (some (.br s32)):Option (Fl (Int) Bool))) N 0).bind fun o51=>o51.cs (fun(s32:Int)=>some true) (fun r=>some r))
theorem DZ {l m:List α} (hl:l.length<=1099511627776) (hN:4398046511104<=N):JE N l m=some (decide (l=m)):=by
 refine Ok.get ?_
 unfold JE
 by_cases he:l.length=m.length
 ·rw [show ((((l.length:Nat):Int)) != ((m.length:Nat):Int))=false by rw [he];simp,aR]
  refine Ok.bind (Ok.pF (n:=l.length) (fun s=>s) (fun k s=>∀j,j<k->l[j]? =m[j]?) (Go:=fun s=>l=m) (Rt:=fun r=>r=false/\l≠m) ?_ ?_ (dJ _) rfl (fun j hj=>by omega) (by omega)) ?_
  ·rintro k i hk e hI
   subst e
   have hx:l[k]? =some l[k]:=aN hk
   have hy:m[k]? =some (m[k]'(by omega)):=aN _
   rw [kR hk,aP]
   refine Ok.ix hx (Ok.ix hy (Ok.bif (fun hb=>Ok.rt ⟨rfl,fun e=>?_⟩) (fun hb=>Ok.nx ⟨bR (by omega),fun j hj=>?_⟩)))
   ·have h1:some l[k]=some (m[k]'(by omega)):=hx.symm.trans ((by rw [e]:l[k]? =m[k]?).trans hy)
    injection h1 with h1
    rw [h1] at hb;simp at hb
   ·by_cases e:j=k
    ·subst e;rw [hx,hy];simpa using hb
    ·exact hI j (by omega)
  ·rintro i e hI
   subst e
   rw [ng,aR]
   refine Ok.br (List.ext_getElem? fun j=>?_)
   by_cases hj:j<l.length
   ·exact hI j hj
   ·rw [List.getElem?_eq_none (by omega),List.getElem?_eq_none (by omega)]
  intro o ho
  exact Ok.cs ho (fun s hs=>Ok.ret (bU hs).symm) (fun r hr=>Ok.ret (by rw [hr.1,bY hr.2]))
 ·rw [show ((((l.length:Nat):Int)) != ((m.length:Nat):Int))=true by rw [bne_iff_ne];omega,aP]
  exact Ok.ret (bY fun h=>he (by rw [h])).symm
end
section
variable {N:Nat}
theorem Cz {l m:List aI} (hl:l.length<=1099511627776) (hN:4398046511104<=N):jM N l m=some (decide (l=m)):=DZ hl hN
theorem CA {l m:List aF} (hl:l.length<=1099511627776) (hN:4398046511104<=N):jL N l m=some (decide (l=m)):=DZ hl hN
def rX (b:aL):Bd:=⟨b.from_,b.to,dD (b.iX.map sp)⟩
theorem GC {l:List (Int×Int)}:dD l= []↔l= []:=by
 cases l with
 | nil=>exact⟨fun _=>rfl,fun _=>rfl⟩
 | cons s l=>exact⟨fun h=>(by cases h),fun h=>(by cases h)⟩
theorem GD {l m:List aF}:dD (l.map sp)=dD (m.map sp)↔l=m:=⟨fun h=>HX (BN h),fun h=>by rw [h]⟩
theorem E3 {l:List aL} {b:aL} (hlt:b.from_<b.to) (hl:l.length<=1073741824) (hs: ∀c∈l,c.iX.length<=1099511627776) (hN:4398046511104<=N):
  Ok (fT N l b) (fun r=>r.map rX=jO (l.map rX) (rX b)):=by
 unfold fT jO
 by_cases h0:b.iX= []
 ·rw [show (((b.iX.length:Nat):Int)==0)=true by rw [h0];rfl,aP,aC (.inl (by unfold rX;rw [h0];rfl))]
  exact Ok.ret rfl
 ·rw [show (((b.iX.length:Nat):Int)==0)=false by rw [beq_eq_false_iff_ne];intro h;exact h0 (List.eq_nil_of_length_eq_zero (by omega)),aR]
  have hne: ¬((rX b).xs= []\/(rX b).y1<=(rX b).y0):=by
   rintro(h | h)
   ·have h:=GC.1 h
    exact h0 (List.map_eq_nil_iff.1 h)
   ·have h:b.to<=b.from_:=h
    omega
  rw [aG hne]
  rcases List.eq_nil_or_concat l with rfl | ⟨A,c,hA⟩
  ·rw [show decide (((([]:List aL).length:Nat):Int)>0)=false by decide,aR,aB,aR]
   exact Ok.app (by simp) (Ok.ret rfl)
  ·rw [List.concat_eq_append] at hA
   subst hA
   have hlen: (A++[c]).length=A.length+1:=by simp
   have hwp:IntKind.wrap .i64 ((((A++[c]).length:Nat):Int) - 1)= ((A.length:Nat):Int):=by rw [Al (by omega) (by omega),hlen];rfl
   have hlast: (A++[c])[A.length]? =some c:=by simp
   rw [hwp,bU (by omega),aP,dU hlast,aB,aB,CA (by have:=hs c (by simp);omega) hN,aB,aB,cJ]
   have hl2: ((A++[c]).map rX).getLast? =some (rX c):=by simp
   have hd2: ((A++[c]).map rX).dropLast=A.map rX:=by simp
   rw [hl2,hd2]
   dsimp only
   by_cases h1:c.to=b.from_/\c.iX=b.iX
   ·rw [aC (show (rX c).y1= (rX b).y0/\(rX c).xs= (rX b).xs from ⟨h1.1,by unfold rX;rw [h1.2]⟩),show (c.to==b.from_)=true by rw [h1.1];simp,aP,bU h1.2,aB,aP]
    refine Ok.ret ?_
    rw [List.set_append_right _ _ (bT _),Nat.sub_self]
    simp [rX]
   ·rw [aG (show ¬((rX c).y1= (rX b).y0/\(rX c).xs= (rX b).xs) from fun h=>h1 ⟨h.1,GD.1 h.2⟩)]
    have e2: (bif (c.to==b.from_) then (some (decide (c.iX=b.iX))) else (some false))=some false:=by
     by_cases h2:c.to=b.from_
     ·rw [show (c.to==b.from_)=true by rw [h2];simp,aP,bY (fun h=>h1 ⟨h2,h⟩)]
     ·rw [show (c.to==b.from_)=false by simpa using h2,aR]
    rw [e2,aB,aR]
    exact Ok.app (by rw [hlen];simp;omega) (Ok.ret (by simp))
theorem HZ {s:List Bd} {b c:Bd} (h:c∈jO s b):c.xs=b.xs\/∃d∈s,c.xs=d.xs:=by
 unfold jO at h
 split at h
 ·exact .inr ⟨c,h,rfl⟩
 ·split at h
  ·rename_i d hd
   split at h
   ·rcases dA.1 h with h | h
    ·exact .inr ⟨c,List.dropLast_subset _ h,rfl⟩
    ·simp at h
     exact .inr ⟨d,List.mem_of_getLast? hd,by rw [h]⟩
   ·rcases dA.1 h with h | h
    ·exact .inr ⟨c,h,rfl⟩
    ·simp at h;exact .inl (by rw [h])
  ·simp at h;exact .inl (by rw [h])
theorem qg {f:Int->List Int} {B:Nat} (hf: ∀y,(f y).length<=B): ∀(ss:List (Int×Int)) (out:List Bd),(∀c∈out,c.xs.length<=B)->(∀c∈me f ss out,c.xs.length<=B)/\(me f ss out).length<=out.length+ss.length
 | [],out,h=>⟨h,by simp [me]⟩
 | s::ss,out,h=>by
  obtain⟨h1,h2⟩:=qg hf ss (jO out ⟨s.1,s.2,f s.1⟩) (fun c hc=>by
   rcases HZ hc with h3 | ⟨d,hd,h3⟩
   ·rw [h3];exact hf _
   ·rw [h3];exact h d hd)
  refine⟨h1,?_⟩
  have:=Gn out ⟨s.1,s.2,f s.1⟩
  show (me f ss (jO out ⟨s.1,s.2,f s.1⟩)).length<=_
  rw [dR];omega
theorem mS: ∀(ys:List Int),(kj ys).length=ys.length - 1
 | []=>rfl
 | [_]=>rfl
 | a::b::l=>by
  show (kj (b::l)).length+1=_
  rw [mS (b::l)];simp
theorem AQ: ∀(ys:List Int) (k:Nat) (h:k+1<ys.length),(kj ys)[k]? =some (ys[k],ys[k+1])
 | [],k,h=>by simp at h
 | [_],k,h=>by simp at h
 | a::b::l,0,h=>rfl
 | a::b::l,k+1,h=>by
  have:=AQ (b::l) k (by simp at h ⊢;omega)
  show (kj (b::l))[k]? =_
  rw [this];rfl
theorem D0 (f:Int->List Int) (ss:List (Int×Int)) (s:Int×Int) (out:List Bd):me f (ss++[s]) out=jO (me f ss out) ⟨s.1,s.2,f s.1⟩:=by unfold me;rw [List.foldl_append];rfl
theorem AR {ys:List Int} (hy:jD ys) {f:Int->List Int} {B:Nat} (hf: ∀y,(f y).length<=B) (hB:B<=1099511627776) (hys:ys.length<=1073741824) {out:List aL} {k:Nat} (h1:1<=k) (hk:k<ys.length)
  (hI:out.map rX=me f ((kj ys).take (k - 1)) []) {r:List aF} (hr:dD (r.map sp)=f (ys[k - 1]'(by omega))) (hN:4398046511104<=N):
  Ok (fT N out ⟨ys[k - 1]'(by omega),ys[k],r⟩) (fun o=>o.map rX=me f ((kj ys).take k) []):=by
 have hlt:ys[k - 1]'(by omega)<ys[k]:=mf.1 hy (k - 1) k (by omega) hk (by omega)
 obtain⟨s1,s2⟩:=qg hf ((kj ys).take (k - 1)) [] (fun c hc=>by cases hc)
 have hol:out.length<=ys.length:=by
  have: (out.map rX).length<=ys.length:=by
   rw [hI]
   have h3:=mS ys
   rw [cL] at s2
   simp only [List.length_nil] at s2;omega
  rwa [cY] at this
 refine(E3 hlt (by omega) (fun c hc=>?_) hN).mono fun o ho=>?_
 ·have h3: (rX c).xs.length<=B:=s1 _ (by rw [<-hI];exact dG.2 ⟨c,hc,rfl⟩)
  have h4: (rX c).xs.length=2*c.iX.length:=by unfold rX;rw [j7,cY]
  omega
 ·have hg:=AQ ys (k - 1) (by omega)
  have hts: (kj ys).take k= (kj ys).take (k - 1)++[(ys[k - 1]'(by omega),ys[k])]:=by
   have hl:k - 1< (kj ys).length:=by rw [mS];omega
   have e:=eI hl
   rw [show k - 1+1=k by omega] at e
   rw [e]
   congr 1
   rw [aN hl] at hg
   injection hg with hg
   rw [hg];simp only [show k - 1+1=k by omega]
  rw [ho,hI,hts,D0]
  congr 1
  unfold rX
  simp only [hr]
def pP (b:aL):List aI:=b.iX.map fun s=>⟨s.from_,b.from_,s.to,b.to⟩
def lN (l:List aL):List aI:=l.flatMap pP
theorem D1: ∀(l:List (Int×Int)),An (dD l)=l
 | []=>rfl
 | s::l=>by rw [jo];show (s.1,s.2)::An (dD l)=_;rw [D1 l]
theorem yD: ∀{l:List aL} {s:List aA},l.map rX=s.map cA->lN l=aS s
 | [],[],_=>rfl
 | [],_::_,h=>by cases h
 | _::_,[],h=>by cases h
 | b::l,c::s,h=>by
  rw [dZ,dZ] at h
  injection h with h1 h2
  have e:=yD h2
  show pP b++lN l=mM c++aS s
  rw [e]
  congr 1
  unfold rX cA at h1
  injection h1 with g1 g2 g3
  unfold pP mM
  rw [<-g3,D1,g1,g2,List.map_map]
  rfl
theorem D2 (l:List aL) (b:aL):lN (l++[b])=lN l++pP b:=by unfold lN;rw [List.flatMap_append];simp
theorem FQ {l:List aL} (hl:l.length<=1099511627776) (hs: ∀b∈l,b.iX.length<=1099511627776) (hr: (lN l).length<=1099511627776) (hN:4398046511104<=N):je N l=some (lN l):=by
 refine Ok.get ?_
 unfold je
 refine Ok.bind (Ok.pF (n:=l.length) (fun s=>s.2) (fun k s=>s.1=lN (l.take k)) (Go:=fun s=>s.1=lN l) (Rt:=fun _=>False) ?_ ?_ (dJ _) rfl rfl (by omega)) ?_
 ·rintro k ⟨out,i⟩ hk e hI
  dsimp only at e hI ⊢
  subst e;subst hI
  rw [kR hk,aP]
  have hx:l[k]? =some l[k]:=aN hk
  have hsl:=hs _ (cN hk)
  have hts:lN (l.take (k+1))=lN (l.take k)++pP l[k]:=by rw [eI hk,D2]
  have hlen: (lN (l.take k)).length+l[k].iX.length<=(lN l).length:=by
   have h1: (lN l).length= (lN (l.take (k+1))).length+ (lN (l.drop (k+1))).length:=by
    rw [<-cZ];unfold lN;rw [<-List.flatMap_append,List.take_append_drop]
   have h2: (pP l[k]).length=l[k].iX.length:=by unfold pP;rw [cY]
   rw [hts,cZ,h2] at h1;omega
  refine Ok.bind (Ok.pF (n:=l[k].iX.length) (fun s=>s.2) (fun j s=>s.1=lN (l.take k)++(pP l[k]).take j) (Go:=fun s=>s.1=lN (l.take (k+1))) (Rt:=fun _=>False) ?_ ?_ (dJ _) rfl (by simp) (by omega)) ?_
  ·rintro j ⟨o2,i2⟩ hj e hI
   dsimp only at e hI ⊢
   subst e;subst hI
   have hy:l[k].iX[j]? =some l[k].iX[j]:=aN hj
   have hjr:j< (pP l[k]).length:=by unfold pP;rw [cY];exact hj
   refine Ok.ix hx ?_
   rw [kR hj,aP]
   refine Ok.ix hx (Ok.ix hy (Ok.ix hx (Ok.ix hx (Ok.ix hy (Ok.ix hx (Ok.app ?_ (Ok.nx ⟨bR (by omega),?_⟩)))))))
   ·rw [cZ,cL];simp only [dR,List.length_nil];omega
   ·dsimp only
    rw [kC]
    congr 1
    rw [eI hjr]
    congr 1
    simp [pP]
  ·rintro⟨o2,i2⟩ e hI
   dsimp only at e hI ⊢
   subst e;subst hI
   refine Ok.ix hx ?_
   rw [ng,aR]
   refine Ok.br ?_
   dsimp only
   rw [hts]
   congr 1
   exact lE (by unfold pP;rw [cY];omega)
  intro o ho
  exact Ok.cs ho (fun s hs=>Ok.nx ⟨bR (by omega),hs⟩) (fun r hr=>hr.elim)
 ·rintro⟨out,i⟩ e hI
  dsimp only at e hI ⊢
  subst e
  rw [ng,aR]
  exact Ok.br (by rw [eQ] at hI;exact hI)
 intro o ho
 exact Ok.cs ho (fun s hs=>Ok.ret hs) (fun r hr=>hr.elim)
theorem yE {l:List aI} {ys:List Int} (hm: ∀r∈l,r.Y0∈ys/\r.Y1∈ys) {s:Int×Int} {y:Int} (hs:s∈kj ys) (hy:jD ys) (h1:s.1<=y) (h2:y<s.2):kS l y=kS l s.1:=E2 fun r hr=>by
 obtain⟨m1,m2⟩:=hm r hr
 obtain⟨_,_,_,h⟩:=qt hy s hs
 rcases h _ m1 with h3 | h3 <;> rcases h _ m2 with h4 | h4 <;> constructor <;> intro h5 <;> omega
theorem CB {l:List aI} {ys:List Int} (hm: ∀r∈l,r.Y0∈ys/\r.Y1∈ys) {y:Int} (h: (∀c∈ys,y<c)\/(∀c∈ys,c<=y)):kS l y= []:=HY fun r hr hc=>by
 obtain⟨m1,m2⟩:=hm r hr
 rcases h with h | h
 ·have:=h _ m1;omega
 ·have:=h _ m2;omega
theorem CC {l:List aI}: ∀r∈l,r.Y0∈kq (ju l)/\r.Y1∈kq (ju l):=fun r hr=>⟨yB.2 (lr.2 ⟨r,hr, .inl rfl⟩),yB.2 (lr.2 ⟨r,hr, .inr rfl⟩)⟩
theorem H0 (l:List aI): (kq (ju l)).length<=2*l.length:=by
 have:=sU (ju l)
 rwa [jE] at this
theorem tI {l:List aI} {s:List aA} (hc:eU (s.map cA)) (hcov: ∀x y,uh (s.map cA) x y=sH l x y) (hl:l.length<=10000000) (hok: ∀r∈l,r.X0<r.X1) (hr: (aS s).length<=1099511627776) (hN:4398046511104<=N):
  eY N l=some (aS s):=by
 refine Ok.get ?_
 unfold eY
 refine Ok.eq (AO (by omega) hN) ?_
 have hyl:=H0 l
 have hyi:=nh (ju l)
 have hf: ∀y,jD (dD (kS l y))/\(dD (kS l y)).length % 2=0:=fun y=>⟨(sV hok y).1,by rw [j7];omega⟩
 have hfl: ∀y,(dD (kS l y)).length<=20000000:=fun y=>by rw [j7];have:=qW l y;omega
 obtain⟨b1,b2⟩:=yW (f:=fun y=>dD (kS l y)) hf hyi (fun t ht y h1 h2=>by (try dsimp only);rw [yE CC ht hyi h1 h2]) (fun y h=>by (try dsimp only);rw [CB CC h];rfl)
 have hsame:me (fun y=>dD (kS l y)) (kj (kq (ju l))) []=s.map cA:=tA b1 hc fun x y=>by
  rw [hcov];unfold uh;rw [b2,sJ (hf y).1,(sV hok y).2]
 have hmy:= @CC l
 generalize kq (ju l)=ys at *
 refine Ok.bind (Ok.pF (n:=max 1 ys.length) (fun s=>s.2) (fun k st=>1<=k/\st.1.map rX=me (fun y=>dD (kS l y)) ((kj ys).take (k - 1)) []) (Go:=fun st=>st.1.map rX=s.map cA) (Rt:=fun _=>False) ?_ ?_ (k0:=1) (by omega) rfl ⟨bT _,rfl⟩ (by omega)) ?_
 ·rintro k ⟨out,i⟩ hk e ⟨hk1,hI⟩
  dsimp only at e hI ⊢
  subst e
  have hk2:k<ys.length:=by omega
  rw [kR hk2,aP,jk hk1 (by omega)]
  refine Ok.idx (by omega) (Ok.idx hk2 (Ok.idx (by omega) (Ok.bind (Cy (by omega) hN) fun r hr=>Ok.bind (AR hyi (f:=fun y=>dD (kS l y)) hfl (by omega) (by omega) hk1 hk2 hI (by (try dsimp only);rw [hr]) hN) fun o ho=>Ok.nx ⟨bR (by omega),by omega,?_⟩)))
  rw [Nat.add_sub_cancel];exact ho
 ·rintro⟨out,i⟩ e ⟨hk1,hI⟩
  dsimp only at e hI ⊢
  subst e
  rw [xR (by omega),aR]
  refine Ok.br ?_
  rw [lE (by rw [mS];omega),hsame] at hI
  exact hI
 intro o ho
 refine Ok.cs ho (fun st hs=>?_) (fun r hr=>hr.elim)
 have e:=yD hs
 obtain⟨s1,s2⟩:=qg (f:=fun y=>dD (kS l y)) hfl (kj ys) [] (fun c hc=>by cases hc)
 refine Ok.eq (FQ (l:=st.1) ?_ ?_ (by rw [e];exact hr) hN) (Ok.ret e)
 ·have: (st.1.map rX).length<=ys.length:=by rw [hs,<-hsame];have:=mS ys;simp only [List.length_nil] at s2;omega
  rw [cY] at this;omega
 ·intro b hb
  have h3:=s1 (rX b) (by rw [hsame,<-hs];exact dG.2 ⟨b,hb,rfl⟩)
  have h4: (rX b).xs.length=2*b.iX.length:=by unfold rX;rw [j7,cY]
  omega
def qX (w:Int) (p q:Bool):Bool:=((((w==1)&&(p||q))||(((w==2)&&p)&&q))||(((w==3)&&p)&&(!q)))
theorem H2 (w:Int):qX w false false=false:=by unfold qX;simp
theorem y7 (gM:Bool->Bool->Bool) (a b ss:List (Int×Int)) (s:Int×Int) (out:List (Int×Int)):mc gM a b (ss++[s]) out=if gM (jm a s.1) (jm b s.1)=true then lL (mc gM a b ss out) s else mc gM a b ss out:=by unfold mc;rw [List.foldl_append];rfl
theorem wK (gM:Bool->Bool->Bool) (a b:List (Int×Int)): ∀(ss out:List (Int×Int)),(mc gM a b ss out).length<=out.length+ss.length
 | [],out=>by simp [mc]
 | s::ss,out=>by
  have h1:=wK gM a b ss (if gM (jm a s.1) (jm b s.1)=true then lL out s else out)
  have h2: (if gM (jm a s.1) (jm b s.1)=true then lL out s else out).length<=out.length+1:=by
   split
   ·exact y5 _ _
   ·omega
  show (mc gM a b ss (if gM (jm a s.1) (jm b s.1)=true then lL out s else out)).length<=_
  rw [dR];omega
def y8 (a b:List (Int×Int)):List Int:=kq (dD a++dD b)
theorem BW (a b:List (Int×Int)): (y8 a b).length<=2*a.length+2*b.length:=by
 have:=sU (dD a++dD b)
 rw [cZ,j7,j7] at this
 exact this
theorem H3 {a b:List aF} {w:Int} (ha:a.length<=10000000) (hb:b.length<=10000000) (hN:4398046511104<=N):
  Ok (jT N a b w) (fun r=>r.map sp=mc (qX w) (a.map sp) (b.map sp) (kj (y8 (a.map sp) (b.map sp))) []):=by
 unfold jT
 have hfl: ∀(l:List aF),(kq (dD (l.map sp))).length<=2*l.length:=fun l=>by
  have:=sU (dD (l.map sp))
  rwa [j7,cY] at this
 refine Ok.bind (Ok.pF (n:=a.length) (fun s=>s.2) (fun k s=>s.1=kq (dD ((a.take k).map sp))) (Go:=fun s=>s.1=kq (dD (a.map sp))) (Rt:=fun _=>False) ?_ ?_ (dJ _) rfl rfl (by omega)) ?_
 ·rintro k ⟨out,i⟩ hk e hI
  dsimp only at e hI ⊢
  subst e;subst hI
  rw [kR hk,aP]
  have hx:a[k]? =some a[k]:=aN hk
  have h1:=hfl (a.take k)
  rw [cL] at h1
  have h2:=xS (kq (dD ((a.take k).map sp))) a[k].from_
  refine Ok.ix hx (Ok.ix hx (Ok.eq (vq (nh _) (by omega) hN) (Ok.eq (vq (sT (nh _)) (by omega) hN) (Ok.nx ⟨bR (by omega),?_⟩))))
  rw [eI hk,dO,tB]
  exact(uZ _ _ _).symm
 ·rintro⟨out,i⟩ e hI
  dsimp only at e hI ⊢
  subst e
  rw [ng,aR]
  exact Ok.br (by rw [eQ] at hI;exact hI)
 intro o ho
 refine Ok.cs ho ?_ (fun r hr=>hr.elim)
 rintro⟨xa,ia⟩ hxa
 dsimp only at hxa ⊢
 subst hxa
 refine Ok.bind (Ok.pF (n:=b.length) (fun s=>s.2) (fun k s=>s.1=kq (dD (a.map sp)++dD ((b.take k).map sp))) (Go:=fun s=>s.1=y8 (a.map sp) (b.map sp)) (Rt:=fun _=>False) ?_ ?_ (dJ _) rfl (by simp [dD]) (by omega)) ?_
 ·rintro k ⟨out,i⟩ hk e hI
  dsimp only at e hI ⊢
  subst e;subst hI
  rw [kR hk,aP]
  have hx:b[k]? =some b[k]:=aN hk
  have h1:=sU (dD (a.map sp)++dD ((b.take k).map sp))
  rw [cZ,j7,j7,cY,cY,cL] at h1
  have h2:=xS (kq (dD (a.map sp)++dD ((b.take k).map sp))) b[k].from_
  refine Ok.ix hx (Ok.ix hx (Ok.eq (vq (nh _) (by omega) hN) (Ok.eq (vq (sT (nh _)) (by omega) hN) (Ok.nx ⟨bR (by omega),?_⟩))))
  rw [eI hk,dO,tB,<-kC]
  exact(uZ _ _ _).symm
 ·rintro⟨out,i⟩ e hI
  dsimp only at e hI ⊢
  subst e
  rw [ng,aR]
  exact Ok.br (by rw [eQ] at hI;exact hI)
 intro o ho
 refine Ok.cs ho ?_ (fun r hr=>hr.elim)
 rintro⟨xs,ix⟩ hxs
 dsimp only at hxs ⊢
 have hxl:=BW (a.map sp) (b.map sp)
 rw [<-hxs,cY,cY] at hxl
 rw [<-hxs]
 clear hxs
 refine Ok.bind (Ok.pF (n:=max 1 xs.length) (fun s=>s.2) (fun k st=>1<=k/\st.1.map sp=mc (qX w) (a.map sp) (b.map sp) ((kj xs).take (k - 1)) []) (Go:=fun st=>st.1.map sp=mc (qX w) (a.map sp) (b.map sp) (kj xs) []) (Rt:=fun _=>False) ?_ ?_ (k0:=1) (by omega) rfl ⟨bT _,rfl⟩ (by omega)) ?_
 ·rintro k ⟨out,i⟩ hk e ⟨hk1,hI⟩
  dsimp only at e hI ⊢
  subst e
  have hk2:k<xs.length:=by omega
  rw [kR hk2,aP,jk hk1 (by omega)]
  have hx:xs[k - 1]? =some (xs[k - 1]'(by omega)):=aN _
  have hy:xs[k]? =some xs[k]:=aN hk2
  have hg:=AQ xs (k - 1) (by omega)
  have hts: (kj xs).take k= (kj xs).take (k - 1)++[(xs[k - 1]'(by omega),xs[k])]:=by
   have hl:k - 1< (kj xs).length:=by rw [mS];omega
   have e:=eI hl
   rw [show k - 1+1=k by omega] at e
   rw [e]
   congr 1
   rw [aN hl] at hg
   injection hg with hg
   rw [hg];simp only [show k - 1+1=k by omega]
  have hol:out.length<=xs.length:=by
   have h1:=wK (qX w) (a.map sp) (b.map sp) ((kj xs).take (k - 1)) []
   rw [<-hI,cY,cL,mS] at h1
   simp only [List.length_nil] at h1;omega
  refine Ok.ix hx (Ok.ix hx (Ok.eq (yC (by omega) hN) (Ok.eq (yC (by omega) hN) ?_)))
  refine Ok.bind (P:=fun r:List aF=>r.map sp=mc (qX w) (a.map sp) (b.map sp) ((kj xs).take k) []) (Ok.bif (fun hb=>?_) (fun hb=>?_)) (fun r hr=>Ok.nx ⟨bR (by omega),by omega,by rw [Nat.add_sub_cancel];exact hr⟩)
  ·refine Ok.ix hx (Ok.ix hy (Ok.bind (BV (by omega) hN) (fun r hr=>Ok.ret ?_)))
   rw [hr,hI,hts,y7,aC (show qX w _ _=true from hb)];rfl
  ·refine Ok.ret ?_
   rw [hI,hts,y7,aG (show ¬qX w _ _=true by rw [iM];exact hb)]
 ·rintro⟨out,i⟩ e ⟨hk1,hI⟩
  dsimp only at e hI ⊢
  subst e
  rw [xR (by omega),aR]
  refine Ok.br ?_
  rw [lE (by rw [mS];omega)] at hI
  exact hI
 intro o ho
 exact Ok.cs ho (fun s hs=>Ok.ret hs) (fun r hr=>hr.elim)
def nW (w:Int) (a b:List aI) (y:Int):List (Int×Int):=mc (qX w) (kS a y) (kS b y) (kj (y8 (kS a y) (kS b y))) []
theorem D3 (a b:List (Int×Int)):Ends a (y8 a b)/\Ends b (y8 a b):=by
 constructor <;> intro s hs <;> constructor <;> refine yB.2 (dA.2 ?_)
 ·exact .inl (List.mem_flatMap.2 ⟨s,hs,by simp⟩)
 ·exact .inl (List.mem_flatMap.2 ⟨s,hs,by simp⟩)
 ·exact .inr (List.mem_flatMap.2 ⟨s,hs,by simp⟩)
 ·exact .inr (List.mem_flatMap.2 ⟨s,hs,by simp⟩)
theorem y9 {a b:List aI} (ha: ∀r∈a,r.X0<r.X1) (hb: ∀r∈b,r.X0<r.X1) (w y:Int):jD (dD (nW w a b y))/\∀x,jm (nW w a b y) x=qX w (sH a x y) (sH b x y):=by
 obtain⟨h1,h2⟩:=DB (gM:=qX w) (H2 w) (a:=kS a y) (b:=kS b y) (xs:=y8 (kS a y) (kS b y)) (nh _) (D3 _ _).1 (D3 _ _).2
 exact⟨h1,fun x=>by rw [show jm (nW w a b y) x=_ from h2 x,(sV ha y).2,(sV hb y).2]⟩
theorem E4 (w:Int) (a b:List aI) (y:Int): (nW w a b y).length<=2*a.length+2*b.length:=by
 have h1:=wK (qX w) (kS a y) (kS b y) (kj (y8 (kS a y) (kS b y))) []
 have h2:=BW (kS a y) (kS b y)
 have h3:=qW a y
 have h4:=qW b y
 rw [mS] at h1
 unfold nW
 simp only [List.length_nil] at h1;omega
theorem D4 {a b:List aI} {w:Int} {s:List aA} (hc:eU (s.map cA)) (hcov: ∀x y,uh (s.map cA) x y=qX w (sH a x y) (sH b x y)) (hla:a.length<=10000000) (hlb:b.length<=10000000)
  (ha: ∀r∈a,r.X0<r.X1) (hb: ∀r∈b,r.X0<r.X1) (hr: (aS s).length<=1099511627776) (hN:4398046511104<=N):gE N a b w=some (aS s):=by
 refine Ok.get ?_
 unfold gE
 refine Ok.app (by simp only [List.length_nil];omega) (Ok.app (by rw [List.nil_append];omega) ?_)
 rw [List.nil_append]
 refine Ok.eq (AO (by rw [cZ];omega) hN) ?_
 have hyl:=H0 (a++b)
 rw [cZ] at hyl
 have hyi:=nh (ju (a++b))
 have hmy:= @CC (a++b)
 have hma: ∀r∈a,r.Y0∈kq (ju (a++b))/\r.Y1∈kq (ju (a++b)):=fun r hr=>hmy r (List.mem_append_left _ hr)
 have hmb: ∀r∈b,r.Y0∈kq (ju (a++b))/\r.Y1∈kq (ju (a++b)):=fun r hr=>hmy r (List.mem_append_right _ hr)
 have hf: ∀y,jD (dD (nW w a b y))/\(dD (nW w a b y)).length % 2=0:=fun y=>⟨(y9 ha hb w y).1,by rw [j7];omega⟩
 have hfl: ∀y,(dD (nW w a b y)).length<=80000000:=fun y=>by rw [j7];have:=E4 w a b y;omega
 obtain⟨b1,b2⟩:=yW (f:=fun y=>dD (nW w a b y)) hf hyi (fun t ht y h1 h2=>by (try dsimp only);unfold nW;rw [yE hma ht hyi h1 h2,yE hmb ht hyi h1 h2]) (fun y h=>by
  (try dsimp only);unfold nW;rw [CB hma h,CB hmb h];rfl)
 have hsame:me (fun y=>dD (nW w a b y)) (kj (kq (ju (a++b)))) []=s.map cA:=tA b1 hc fun x y=>by
  rw [hcov];unfold uh;rw [b2,sJ (hf y).1,(y9 ha hb w y).2]
 clear hmy hma hmb
 generalize kq (ju (a++b))=ys at *
 refine Ok.bind (Ok.pF (n:=max 1 ys.length) (fun s=>s.2) (fun k st=>1<=k/\st.1.map rX=me (fun y=>dD (nW w a b y)) ((kj ys).take (k - 1)) []) (Go:=fun st=>st.1.map rX=s.map cA) (Rt:=fun _=>False) ?_ ?_ (k0:=1) (by omega) rfl ⟨bT _,rfl⟩ (by omega)) ?_
 ·rintro k ⟨out,i⟩ hk e ⟨hk1,hI⟩
  dsimp only at e hI ⊢
  subst e
  have hk2:k<ys.length:=by omega
  rw [kR hk2,aP,jk hk1 (by omega)]
  refine Ok.idx (by omega) (Ok.idx hk2 (Ok.idx (by omega) (Ok.idx (by omega) (Ok.bind (Cy (by omega) hN) fun r1 hr1=>Ok.bind (Cy (by omega) hN) fun r2 hr2=>?_))))
  have l1:r1.length<=10000000:=by have:=qW a (ys[k - 1]'(by omega));rw [<-hr1,cY] at this;omega
  have l2:r2.length<=10000000:=by have:=qW b (ys[k - 1]'(by omega));rw [<-hr2,cY] at this;omega
  refine Ok.bind (H3 l1 l2 hN) fun r hr=>Ok.bind (AR hyi (f:=fun y=>dD (nW w a b y)) hfl (by omega) (by omega) hk1 hk2 hI (by (try dsimp only);rw [hr,hr1,hr2];rfl) hN) fun o ho=>Ok.nx ⟨bR (by omega),by omega,?_⟩
  rw [Nat.add_sub_cancel];exact ho
 ·rintro⟨out,i⟩ e ⟨hk1,hI⟩
  dsimp only at e hI ⊢
  subst e
  rw [xR (by omega),aR]
  refine Ok.br ?_
  rw [lE (by rw [mS];omega),hsame] at hI
  exact hI
 intro o ho
 refine Ok.cs ho (fun st hs=>?_) (fun r hr=>hr.elim)
 have e:=yD hs
 obtain⟨s1,s2⟩:=qg (f:=fun y=>dD (nW w a b y)) hfl (kj ys) [] (fun c hc=>by cases hc)
 refine Ok.eq (FQ (l:=st.1) ?_ ?_ (by rw [e];exact hr) hN) (Ok.ret e)
 ·have: (st.1.map rX).length<=ys.length:=by rw [hs,<-hsame];have:=mS ys;simp only [List.length_nil] at s2;omega
  rw [cY] at this;omega
 ·intro b hb
  have h3:=s1 (rX b) (by rw [hsame,<-hs];exact dG.2 ⟨b,hb,rfl⟩)
  have h4: (rX b).xs.length=2*b.iX.length:=by unfold rX;rw [j7,cY]
  omega
theorem CD (n:Int):cR N n=some (lD n):=rfl
theorem AU {l:List aI} (hl:l.length<=1099511627776) (hN:4398046511104<=N):gU N l=some (lv l):=by
 refine Ok.get ?_
 unfold gU lv
 by_cases h:2000<l.length
 ·rw [bU (by omega),aP,aC h];exact Ok.ret rfl
 ·rw [bY (by omega),aR,aG h]
  refine Ok.bind (Ok.pF (n:=l.length) (fun s=>s) (fun k s=>∀(j:Nat) x,j<k->l[j]? =some x->kO x=none) (Go:=fun s=>l.findSome? kO=none) (Rt:=fun r=>l.findSome? kO=some r) ?_ ?_ (dJ _) rfl (fun j x hj=>by omega) (by omega)) ?_
  ·rintro k i hk e hI
   subst e
   rw [kR hk,aP]
   have hx:l[k]? =some l[k]:=aN hk
   have hrt: ∀c,kO l[k]=some c->l.findSome? kO=some c:=fun c hc=>by
    rw [List.findSome?_eq_some_iff]
    refine⟨l.take k,l[k],l.drop (k+1),?_,hc,fun x hx'=>?_⟩
    ·rw [List.getElem_cons_drop,List.take_append_drop]
    ·obtain⟨j,hj⟩:=dN hx'
     have hjk:j<k:=by have:=(bA.1 hj).1;rw [cL] at this;omega
     exact hI j x hjk (by rw [List.getElem?_take_of_lt hjk] at hj;exact hj)
   refine Ok.ix hx ?_
   have hb: ((cR N l[k].X0).bind fun x110=>bif (!x110) then (some true) else ((cR N l[k].Y0).bind fun x112=>bif (!x112) then (some true) else ((cR N l[k].X1).bind fun x114=>bif (!x114) then (some true) else ((cR N l[k].Y1).bind fun x116=>some (!x116)))))=some (!fC l[k]):=by
    rw [CD,CD,CD,CD]
    unfold fC
    simp only [aB]
    cases lD l[k].X0 <;> cases lD l[k].Y0 <;> cases lD l[k].X1 <;> rfl
   refine Ok.eq hb (Ok.bif (fun h1=>Ok.rt (hrt 1 ?_)) (fun h1=>Ok.bif (fun h2=>Ok.rt (hrt 13 ?_)) (fun h2=>Ok.nx ⟨bR (by omega),fun j x hj hjx=>?_⟩)))
   ·unfold kO;rw [aG (by rw [iM];simpa using h1)]
   ·unfold kO
    rw [aC (by simpa using h1),aC (by rw [dI,bO,bO] at h2;exact h2)]
   ·by_cases e:j=k
    ·subst e;rw [hx] at hjx;injection hjx with hjx;rw [<-hjx]
     unfold kO
     rw [aC (by simpa using h1),aG (by rw [<-iM,dI,bO,bO] at h2;exact h2)]
    ·exact hI j x (by omega) hjx
  ·rintro i e hI
   subst e
   rw [ng,aR]
   refine Ok.br ?_
   rw [List.findSome?_eq_none_iff]
   intro x hx
   obtain⟨j,hj⟩:=dN hx
   exact hI j x (bA.1 hj).1 hj
  intro o ho
  exact Ok.cs ho (fun s hs=>Ok.ret (by rw [hs];rfl)) (fun r hr=>Ok.ret (by rw [hr];rfl))
theorem E5 {l:List aI} {s:List aA} (hs:sN l s):AD l↔aS s=l:=⟨fun⟨t,h1,h2⟩=>by rw [hs.unique h1];exact h2,fun h=>⟨s,hs,h⟩⟩
theorem tT {l:List aI} (hl:l.length<=1073741824) (hN:4398046511104<=N):fE N l=some (jY l):=by
 refine Ok.get ?_
 unfold fE
 refine Ok.eq (AU (by omega) hN) ?_
 unfold jY
 refine Ok.bif (fun h=>Ok.ret ?_) (fun h=>?_)
 ·rw [aC (by simpa using h)]
 ·have h0:lv l=0:=by simpa using h
  rw [aG (by simpa using h0)]
  obtain⟨hlen,hok⟩:=AE h0
  have hbf: ∀a b:aI,(((decide (a.Y0<b.Y0))||((a.Y0==b.Y0)&&(decide (a.X0<b.X0))))=true)↔¬(b.Y0<a.Y0\/(b.Y0=a.Y0/\b.X0<=a.X0)):=fun a b=>by
   rw [dI,bW,bO,bO,beq_iff_eq];omega
  refine Ok.bind (Ok.jw (Go:=fun _=>Kd l) (Rt:=fun r=>r=8/\¬Kd l) (fun s=>∃k:Nat,s= ((k:Nat):Int)/\1<=k/\∀(j:Nat) a b,j+1<k->l[j]? =some a->l[j+1]? =some b->¬(b.Y0<a.Y0\/(b.Y0=a.Y0/\b.X0<=a.X0))) (fun s=>l.length - s.toNat) ?_ ⟨1,rfl,bT _,fun j a b hj=>by omega⟩ (by simp;omega)) ?_
  ·rintro s ⟨k,rfl,hk,hI⟩
   refine Ok.bif (fun h=>?_) (fun h=>Ok.br fun j a b ha hb=>hI j a b ?_ ha hb)
   ·have hk2:k<l.length:=by have:=of_decide_eq_true h;omega
    rw [jk hk (by omega)]
    have hx:l[k - 1]? =some (l[k - 1]'(by omega)):=aN _
    have hy:l[k]? =some l[k]:=aN hk2
    refine Ok.ix hx (Ok.ix hy ?_)
    unfold iz
    rw [aB]
    refine Ok.bif (fun hb=>Ok.rt ⟨rfl,fun hu=>?_⟩) (fun hb=>Ok.nx ⟨⟨k+1,by rw [bR (by omega)],by omega,fun j a b hj ha hb'=>?_⟩,by rw [bR (by omega)];simp only [cJ];omega⟩)
    ·have:=(hbf _ _).2 (hu (k - 1) _ _ hx (by rw [show k - 1+1=k by omega];exact hy))
     rw [this] at hb;cases hb
    ·by_cases e:j+1<k
     ·exact hI j a b e ha hb'
     ·have:j+1=k:=by omega
      have h1:l[k - 1]? =some a:=by rw [show k - 1=j by omega];exact ha
      have h2:l[k]? =some b:=by rw [<-this];exact hb'
      rw [hx] at h1;rw [hy] at h2
      injection h1 with h1;injection h2 with h2
      rw [<-h1,<-h2]
      refine(hbf _ _).1 ?_
      rw [Bool.not_eq_false'] at hb
      exact hb
   ·have:=of_decide_eq_false h
    have:=(bA.1 hb).1;omega
  ·rintro o ho
   refine Ok.cs ho (fun s hu=>?_) (fun r hr=>Ok.ret (by rw [hr.1,aG hr.2]))
   rw [aC hu]
   obtain⟨s,_,hs⟩:=o4 (N:=N) (l:=l) (by omega) hok (by omega)
   obtain⟨z1,z2,z3⟩:=hs.DM
   have z4:2*l.length* (2*l.length)<=4000*4000:=Nat.mul_le_mul (by omega) (by omega)
   refine Ok.eq (tI hs.can hs.cover (by omega) (fun r hr=>(hok r hr).x) (by omega) hN) (Ok.eq (Cz (by omega) hN) ?_)
   have hiff:=E5 hs
   refine Ok.bif (fun h=>Ok.ret ?_) (fun h=>Ok.ret ?_)
   ·have h: ¬l=aS s:=by simpa using h
    rw [aG (fun h'=>h (hiff.1 h').symm)]
   ·have h:l=aS s:=by simpa using h
    rw [aC (hiff.2 h.symm)]
end
end Go.Gk
namespace Go.Gk
open Go Classical
theorem AV (n:Nat) (g:Nat->Nat): ((List.range (n+1)).map g).sum= ((List.range n).map g).sum+g n:=by
 rw [List.range_succ,dO,List.sum_append];simp
def LR (r:aI) (x y:Int):Bool:=(decide (r.X0<=x)&&decide (x<r.X1))&&(decide (r.Y0<=y)&&decide (y<r.Y1))
def LL (a b:aI):Prop:=∀x y,¬(LR a x y=true/\LR b x y=true)
theorem I0 {r:aI} {x y:Int}:LR r x y=true↔(r.X0<=x/\x<r.X1)/\r.Y0<=y/\y<r.Y1:=by unfold LR;simp
theorem xU: ∀{xs:List Int},jD xs->(An xs).Pairwise (fun p q=>p.2<q.1)
 | [],_=>jX
 | [a],_=>jX
 | a::b::l,h=>by
  unfold An
  rw [ov]
  exact⟨fun q hq=>h.tail.head q.1 (Cr q hq).1,xU h.tail.tail⟩
def qY (a b:aI):Prop:=a.Y1<=b.Y0\/(a.Y0=b.Y0/\a.Y1=b.Y1/\a.X1<b.X0)
theorem qY.apart {a b:aI} (h:qY a b):LL a b:=fun x y ⟨h1,h2⟩=>by
 rw [I0] at h1 h2
 rcases h with h | h <;> omega
theorem qh: ∀{s:List aA},eU (s.map cA)->(aS s).Pairwise qY
 | [],_=>jX
 | b::s,h=>by
  rw [mN,mT]
  refine⟨?_,qh h.tail,fun x hx y hy=>?_⟩
  ·unfold mM
   rw [List.pairwise_map]
   exact List.Pairwise.imp (fun hpq=> .inr ⟨rfl,rfl,hpq⟩) (xU (h.each (cA b) (by simp)).2.2.1)
  ·unfold mM at hx
   obtain⟨p,_,rfl⟩:=dG.1 hx
   obtain⟨c,hc,q,_,rfl⟩:=qu hy
   exact .inl (h.Ai (cA c) (dG.2 ⟨c,hc,rfl⟩))
theorem sW {s:List aA} (h:eU (s.map cA)): ∀r∈aS s,r.X0<r.X1/\r.Y0<r.Y1:=fun r hr=>by
 obtain⟨b,hb,p,hp,rfl⟩:=qu hr
 have hc:=h.each (cA b) (dG.2 ⟨b,hb,rfl⟩)
 exact⟨EP hc.2.2.1 p hp,hc.1⟩
theorem D5 {s:List aA} (h:eU (s.map cA)): (aS s).Nodup:=by
 have h1:=qh h
 have h2:=sW h
 refine List.Pairwise.imp_of_mem (fun{a b} ha hb hab e=>?_) h1
 subst e
 have:=h2 a ha
 rcases hab with h | h <;> omega
def pQ (s:List Bd):Nat:=(s.map (fun b=>b.xs.length / 2)).sum
theorem u3 (s t:List Bd):pQ (s++t)=pQ s+pQ t:=by unfold pQ;rw [dO,List.sum_append]
theorem GF (s:List Bd) (b:Bd):pQ (jO s b)<=pQ s+b.xs.length / 2:=by
 unfold jO
 split
 ·omega
 ·split
  ·rename_i c hc
   have hsp:=qP hc
   have e:pQ s=pQ s.dropLast+c.xs.length / 2:=by
    conv=>lhs;rw [hsp,u3]
    simp [pQ]
   split
   ·rw [u3,e];simp [pQ]
   ·rw [u3];simp [pQ]
  ·simp [pQ]
structure Ns (t:List Bd):Prop where
 each: ∀b∈t,b.y0<b.y1/\jD b.xs/\b.xs.length % 2=0
 ord:t.Pairwise (fun b c=>b.y1<=c.y0)
theorem fold_push: ∀(t out:List Bd),Ns t->eU out->(∀c∈out,∀b∈t,c.y1<=b.y0)->eU (t.foldl jO out)/\pQ (t.foldl jO out)<=pQ out+pQ t/\
  ∀y,rowAt (t.foldl jO out) y=if (∃b∈t,b.y0<=y/\y<b.y1) then rowAt t y else rowAt out y
 | [],out,_,hc,_=>⟨hc,by simp [pQ],fun y=>by simp⟩
 | b::t,out,hl,hc,ho=>by
  have hb:=hl.each b (by simp)
  have hord:=ov.1 hl.ord
  have ho1: ∀c∈out,c.y1<=b.y0:=fun c h=>ho c h b (by simp)
  have h1:=vf hc ho1 hb.2.1 hb.2.2
  have htop:=vg ho1 (show b.y0<=b.y1 by omega)
  obtain⟨f1,f2,f3⟩:=fold_push t (jO out b) ⟨fun c hcm=>hl.each c (gZ _ hcm),hord.2⟩ h1 (fun c hcm d hd=>by have:=htop c hcm;have:=hord.1 d hd;omega)
  refine⟨f1,?_,fun y=>?_⟩
  ·have:=GF out b
   have e:pQ (b::t)=b.xs.length / 2+pQ t:=by simp [pQ]
   rw [List.foldl_cons,e];omega
  ·rw [List.foldl_cons,f3 y,ve ho1 (fun c hcm=>(hc.each c hcm).1) (fun h=>absurd h (by omega)),mK]
   by_cases hy:b.y0<=y/\y<b.y1
   ·have hn: ¬∃c∈t,c.y0<=y/\y<c.y1:=fun⟨c,hcm,h⟩=>by have:=hord.1 c hcm;omega
    rw [aG hn,aC hy,aC ⟨b,by simp,hy⟩,aC hy]
   ·rw [aG hy]
    by_cases h: ∃c∈t,c.y0<=y/\y<c.y1
    ·obtain⟨c,hcm,h⟩:=h
     rw [aC ⟨c,hcm,h⟩,aC ⟨c,gZ _ hcm,h⟩,aG hy]
    ·rw [aG h,aG hy,aG (show ¬∃c∈b::t,c.y0<=y/\y<c.y1 from fun⟨c,hcm,h2⟩=>by
      rcases dC.1 hcm with rfl | hcm
      ·exact hy h2
      ·exact h ⟨c,hcm,h2⟩)]
noncomputable def pU (C:List aI) (b:aA):Bd:=⟨b.Y0,b.Y1,dD ((An b.Xs).filter (fun p=>decide ((⟨p.1,b.Y0,p.2,b.Y1⟩:aI)∈C)))⟩
theorem GG {l m:List (Int×Int)} (h:l.Sublist m): (dD l).Sublist (dD m):=by
 induction h with
 | slnil=>exact List.Sublist.refl _
 | cons a _ ih=>rw [jo];exact(ih.cons _).cons _
 | cons_cons a _ ih=>rw [jo,jo];exact(ih.cons_cons _).cons_cons _
theorem AW (l:List (Int×Int)): (dD l).length % 2=0/\(dD l).length / 2=l.length:=by rw [j7];omega
theorem BX {s p:List aA} {C:List aI} (hs:eU (s.map cA)) (hp:eU (p.map cA)) (hC: ∀r∈C,r∈aS s) (hcov: ∀x y,uh (p.map cA) x y=sH C x y): (aS p).length<=C.length:=by
 have hinc: ∀b∈s,jD (pU C b).xs:=fun b hb=>by
  have h1:=FJ hs b hb
  have h2:=GG (List.filter_sublist (l:=An b.Xs) (p:=fun p=>decide ((⟨p.1,b.Y0,p.2,b.Y1⟩:aI)∈C)))
  rw [xF (sP hs b hb)] at h2
  exact List.Pairwise.sublist h2 h1
 have hlow:Ns (s.map (pU C)):=by
  refine⟨fun b hb=>?_,?_⟩
  ·obtain⟨c,hc,rfl⟩:=dG.1 hb
   exact⟨(hs.each (cA c) (dG.2 ⟨c,hc,rfl⟩)).1,hinc c hc,(AW _).1⟩
  ·have:=hs.ord
   rw [List.pairwise_map] at this ⊢
   exact List.Pairwise.imp (fun h=>h.1) this
 obtain⟨f1,f2,f3⟩:=fold_push (s.map (pU C)) [] hlow eU.nil (fun c hc=>by cases hc)
 have hrow: ∀{t:List aA},(∀b∈t,b∈s)->∀x y,oU (rowAt (t.map (pU C)) y) x=true->sH C x y=true:=by
  intro t ht x y h
  induction t with
  | nil=>cases h
  | cons b t ih=>
   rw [dZ,mK] at h
   split at h
   ·rename_i hy
    have hbm:=ht b (by simp)
    have h1:=hinc b hbm
    have h:oU (dD ((An b.Xs).filter (fun p=>decide ((⟨p.1,b.Y0,p.2,b.Y1⟩:aI)∈C)))) x=true:=h
    rw [sJ h1,sI] at h
    obtain⟨q,hq,h2⟩:=h
    have hq:=jH.1 hq
    exact iT.2 ⟨_,of_decide_eq_true hq.2,h2,hy⟩
   ·exact ih (fun c hc=>ht c (gZ _ hc)) h
 have hrow2: ∀x y,sH C x y=true->oU (rowAt (s.map (pU C)) y) x=true:=by
  intro x y h
  obtain⟨r,hr,h1,h2⟩:=iT.1 h
  obtain⟨b,hb,q,hq,rfl⟩:=qu (hC r hr)
  dsimp only at h1 h2
  have key: ∀{t:List aA},(∀c∈t,c∈s)->eU (t.map cA)->b∈t->rowAt (t.map (pU C)) y= (pU C b).xs:=by
   intro t ht hc hbt
   induction t with
   | nil=>cases hbt
   | cons c t ih=>
    rw [dZ,mK]
    by_cases hy:c.Y0<=y/\y<c.Y1
    ·rw [aC (show (pU C c).y0<=y/\y< (pU C c).y1 from hy)]
     rcases dC.1 hbt with rfl | hbt
     ·rfl
     ·have:=hc.Ai (cA b) (dG.2 ⟨b,hbt,rfl⟩)
      have e1: (cA c).y1=c.Y1:=rfl
      have e2: (cA b).y0=b.Y0:=rfl
      omega
    ·rw [aG (show ¬((pU C c).y0<=y/\y< (pU C c).y1) from hy)]
     rcases dC.1 hbt with rfl | hbt
     ·exact absurd h2 hy
     ·exact ih (fun d hd=>ht d (gZ _ hd)) hc.tail hbt
  rw [key (fun c hc=>hc) hs hb]
  have h1':=hinc b hb
  show oU (dD ((An b.Xs).filter (fun p=>decide ((⟨p.1,b.Y0,p.2,b.Y1⟩:aI)∈C)))) x=true
  rw [sJ h1',sI]
  exact⟨q,jH.2 ⟨hq,bU hr⟩,h1⟩
 have hsame:p.map cA= (s.map (pU C)).foldl jO []:=tA hp f1 fun x y=>by
  rw [hcov,eN]
  have e:rowAt ((s.map (pU C)).foldl jO []) y=rowAt (s.map (pU C)) y:=by
   rw [f3]
   by_cases h: ∃b∈s.map (pU C),b.y0<=y/\y<b.y1
   ·rw [aC h]
   ·rw [aG h]
    exact(lK fun b hb=>by
     have: ¬(b.y0<=y/\y<b.y1):=fun h2=>h ⟨b,hb,h2⟩
     omega).symm
  unfold uh
  rw [e]
  exact⟨hrow2 x y,hrow (fun b hb=>hb) x y⟩
 have hc1: (aS p).length=pQ (p.map cA):=by
  have: ∀p:List aA,(aS p).length=pQ (p.map cA):=fun p=>by
   induction p with
   | nil=>rfl
   | cons b p ih=>rw [mN,cZ,nc,ih];unfold pQ;rw [dZ,dZ,List.sum_cons];rfl
  exact this p
 have hc2: ∀s:List aA,pQ (s.map (pU C))= ((aS s).filter (fun r=>decide (r∈C))).length:=fun s=>by
  induction s with
  | nil=>rfl
  | cons b s ih=>
   rw [mN,kD,cZ,<-ih]
   unfold pQ
   rw [dZ,dZ,List.sum_cons]
   congr 1
   show (dD _).length / 2=_
   rw [(AW _).2]
   unfold mM
   rw [List.filter_map,cY];rfl
 have hc3: ((aS s).filter (fun r=>decide (r∈C))).length<=C.length:=fN (List.Nodup.sublist List.filter_sublist (D5 hs)) fun r hr=>of_decide_eq_true (jH.1 hr).2
 rw [hc1,hsame]
 have e0:pQ ([]:List Bd)=0:=rfl
 have:=hc2 s
 omega
end Go.Gk
namespace Go.Gk
open Go Classical
section
variable {N:Nat}
theorem I1 (hN:16<=N):iW N=some true:=by
 have:=Gt (N:=N - 16)
 rwa [show N - 16+16=N by omega] at this
theorem v5 {all:List aI} (w:aI->Nat): ∀(c:List Nat),((c.filterMap (fun i=>all[i]?)).map w).sum= (c.map (fun i=>(all[i]?).elim 0 w)).sum
 | []=>rfl
 | i::c=>by
  rw [dZ,List.sum_cons,<-v5 w c]
  cases h:all[i]? with
  | none=>rw [List.filterMap_cons_none (f:=fun i=>all[i]?) h];simp
  | some x=>rw [List.filterMap_cons_some (f:=fun i=>all[i]?) h,dZ,List.sum_cons];rfl
theorem I2 {all:List aI} {u:Nat->Nat} (h: ∀i,i<all.length->u i∈bL all.length u) (w:aI->Nat): ((bL all.length u).map (fun k=>((nF all all.length u k).map w).sum)).sum= (all.map w).sum:=by
 have e: (fun k=>((nF all all.length u k).map w).sum)=fun k=>(((List.range all.length).filter (fun x=>decide (u x=k))).map (fun i=>(all[i]?).elim 0 w)).sum:=by
  funext k;unfold nF;rw [v5];rfl
 rw [e,DX (mO _ _) u _ (fun x hx=>h x (rm.1 hx))]
 have: ∀m,m<=all.length->((List.range m).map (fun i=>(all[i]?).elim 0 w)).sum= ((all.take m).map w).sum:=by
  intro m
  induction m with
  | zero=>intro _;rfl
  | succ m ih=>
   intro hm
   rw [AV,ih (by omega),eI (by omega),dO,List.sum_append,aN (by omega)]
   simp
 rw [this _ (bT _),eQ]
theorem AX: ∀{l m:List Nat},l.length=m.length->(∀(j x y:Nat),l[j]? =some x->m[j]? =some y->x<=y)->l.sum<=m.sum
 | [],[],_,_=>bT _
 | [],_::_,h,_=>by simp at h
 | _::_,[],h,_=>by simp at h
 | a::l,b::m,h,hle=>by
  have h1:=hle 0 a b rfl rfl
  have h2:=AX (l:=l) (m:=m) (by simpa using h) fun j x y hx hy=>hle (j+1) x y (by simpa using hx) (by simpa using hy)
  rw [List.sum_cons,List.sum_cons];omega
theorem FR {r hs:List aI} {s:List aA} (h1: ∀x∈r,fC x=true) (h2: ∀x∈hs,fC x=true) (hc:eU (s.map cA)) (hl:wO (sL r++sL hs) (ju r++ju hs) (s.map cA)): ∀q∈aS s,fC q=true/\q.X0<q.X1/\q.Y0<q.Y1:=by
 intro q hq
 have hp:=sW hc q hq
 obtain⟨b,hb,p,hpm,rfl⟩:=qu hq
 have hll:=hl (cA b) (dG.2 ⟨b,hb,rfl⟩)
 have hm:=Cr p hpm
 have bx: ∀c∈sL r++sL hs,-1000000<=c/\c<=1000000:=fun c hcm=>by
  rcases dA.1 hcm with h | h
  ·obtain⟨x,hx,h⟩:=sM.1 h
   have:=mQ (h1 x hx)
   rcases h with rfl | rfl <;> omega
  ·obtain⟨x,hx,h⟩:=sM.1 h
   have:=mQ (h2 x hx)
   rcases h with rfl | rfl <;> omega
 have by': ∀c∈ju r++ju hs,-1000000<=c/\c<=1000000:=fun c hcm=>by
  rcases dA.1 hcm with h | h
  ·obtain⟨x,hx,h⟩:=lr.1 h
   have:=mQ (h1 x hx)
   rcases h with rfl | rfl <;> omega
  ·obtain⟨x,hx,h⟩:=lr.1 h
   have:=mQ (h2 x hx)
   rcases h with rfl | rfl <;> omega
 have g1:=bx _ (hll.2.2 p.1 hm.1)
 have g2:=bx _ (hll.2.2 p.2 hm.2)
 have g3:=by' _ hll.1
 have g4:=by' _ hll.2.1
 exact⟨AB ⟨g1,g3,g2,g4⟩,hp⟩
structure pR (r hs:List aI) (s:List aA) (u:Nat->Nat) (ps:List (List aA)):Prop where
 r1: ∀x∈r,fC x=true
 r2: ∀x∈hs,fC x=true
 k1: ∀x∈r,A7 x
 k2: ∀x∈hs,A7 x
 dr:tD r hs s
 pt:rC s u ps
 yZ: (aS s).length<=2000
theorem pR.part {r hs:List aI} {s:List aA} {u:Nat->Nat} {ps:List (List aA)} (h:pR r hs s u ps) {p:List aA} (hp:p∈ps):eU (p.map cA)/\(aS p).length<=2000/\∀q∈aS p,fC q=true/\q.X0<q.X1/\q.Y0<q.Y1:=by
 obtain⟨sx,sy⟩:=h.dr.small h.k1 h.k2
 obtain⟨j,k,g1,g2,g3,g4⟩:=AH h.pt h.dr.can h.dr.lim sx sy hp
 have:=BX h.dr.can g3.can (fun x hx=>by
  obtain⟨i,_,_,hi⟩:=lS.1 hx
  exact eW hi) g3.cover
 have h2:=Ax (aS s) (aS s).length u k
 have:=h.yZ
 exact⟨g3.can,by omega,FR h.r1 h.r2 g3.can g4⟩
theorem pR.bL {r hs:List aI} {s:List aA} {u:Nat->Nat} {ps:List (List aA)} (h:pR r hs s u ps): ∀i,i< (aS s).length->u i∈Gk.bL (aS s).length u:=fun i hi=>jq.2 ⟨by have:=h.pt.join.le i hi;omega,h.pt.join.rr i hi⟩
theorem pR.total {r hs:List aI} {s:List aA} {u:Nat->Nat} {ps:List (List aA)} (h:pR r hs s u ps): (ps.map (fun p=>(aS p).length)).sum<=(aS s).length:=by
 have h1:=I2 h.bL (fun _=>1)
 have one: ∀l:List aI,(l.map (fun _=>1)).sum=l.length:=fun l=>by
  induction l with
  | nil=>rfl
  | cons x l ih=>simp only [dZ,List.sum_cons,ih,dR];omega
 simp only [one] at h1
 rw [<-h1]
 refine AX (by simp [h.pt.len]) fun j x y hx hy=>?_
 rw [gC,rl] at hx hy
 obtain⟨p,hp,rfl⟩:=hx
 obtain⟨k,hk,rfl⟩:=hy
 have hs:=h.pt.each j k p hk hp
 exact BX h.dr.can hs.can (fun x hx=>by
  obtain⟨i,_,_,hi⟩:=lS.1 hx
  exact eW hi) hs.cover
theorem za {ps:List (List aA)} {x y:Int}:sH (ps.flatMap aS) x y=true↔∃p∈ps,sH (aS p) x y=true:=by
 rw [iT]
 constructor
 ·rintro⟨r,hr,h⟩
  obtain⟨p,hp,hrp⟩:=List.mem_flatMap.1 hr
  exact⟨p,hp,iT.2 ⟨r,hrp,h⟩⟩
 ·rintro⟨p,hp,h⟩
  obtain⟨r,hr,h⟩:=iT.1 h
  exact⟨r,List.mem_flatMap.2 ⟨p,hp,hr⟩,h⟩
theorem pR.cover {r hs:List aI} {s:List aA} {u:Nat->Nat} {ps:List (List aA)} (h:pR r hs s u ps) (x y:Int):sH (ps.flatMap aS) x y=uh (s.map cA) x y:=by
 rw [<-o5 h.dr.can,eN,za]
 constructor
 ·rintro⟨p,hp,hc⟩
  obtain⟨j,hj⟩:=dN hp
  have hjl:=(bA.1 hj).1
  have hk: (Gk.bL (aS s).length u)[j]? =some ((Gk.bL (aS s).length u)[j]'(by rw [<-h.pt.len];exact hjl)):=aN _
  have hs:=h.pt.each j _ _ hk hj
  rw [o5 hs.can,hs.cover] at hc
  obtain⟨q,hq,h2⟩:=iT.1 hc
  obtain⟨i,_,_,hi⟩:=lS.1 hq
  exact iT.2 ⟨q,eW hi,h2⟩
 ·intro hc
  obtain⟨q,hq,h2⟩:=iT.1 hc
  obtain⟨i,hi⟩:=dN hq
  have hil:=(bA.1 hi).1
  obtain⟨j,hj⟩:=dN (h.bL i hil)
  have hjl:j<ps.length:=by rw [h.pt.len];exact(bA.1 hj).1
  have hs:=h.pt.each j _ _ hj (aN hjl)
  refine⟨_,cN hjl,?_⟩
  rw [o5 hs.can,hs.cover]
  exact iT.2 ⟨q,lS.2 ⟨i,hil,rfl,hi⟩,h2⟩
section
variable {a:kT} {nu:List (List aA)} {iq:List (List (List aA))} {r:Nat->Nat} {gs:List cF} {ofP ofB vo:List Int} {vY:List j8}
theorem zb (b:rV a nu iq r gs ofP ofB vo vY) {i:Nat} (hi:i<a.aJ.length): ∃s ps u,nu[i]? =some s/\iq[i]? =some ps/\pR a.aJ[i] (j4 a.aO ((i:Nat):Int)) s u ps:=by
 have hd:nu[i]? =some (nu[i]'(by rw [b.dr.len];exact hi)):=aN _
 have hp:iq[i]? =some (iq[i]'(by rw [b.dr.zo];exact hi)):=aN _
 have hdr:=b.dr.dr i _ _ hi (aN hi) hd
 obtain⟨u,hu⟩:=b.dr.pt i _ _ hi hd hp
 have hreg:=uX.1 (b.AL.Nl _ (cN hi))
 exact⟨_,_,u,hd,hp,fun x hx=>((o8.1 hreg.1).2 x hx).1,fun x hx=>(qT b.AL.gb _ x hx).2,(AE hreg.1).2,fun x hx=>(qT b.AL.gb _ x hx).1,hdr,hu,b.yZ.1 _ (eW hd)⟩
end
end
end Go.Gk
namespace Go.Gk
open Go Classical
def AY (a b:aI):Prop:=(0<min a.X1 b.X1 - max a.X0 b.X0/\0<=min a.Y1 b.Y1 - max a.Y0 b.Y0)\/(0<=min a.X1 b.X1 - max a.X0 b.X0/\0<min a.Y1 b.Y1 - max a.Y0 b.Y0)
theorem GH {all:List aI} (hB:all.Pairwise qY) (hp: ∀r∈all,r.X0<r.X1/\r.Y0<r.Y1) {i j:Nat} {a c:aI} (ha:all[i]? =some a) (hc:all[j]? =some c):AY a c↔i=j\/xX all i j\/xX all j i:=by
 have h1:xX all i j↔Cv a c:=⟨fun⟨a',c',e1,e2,h⟩=>by rw [ha] at e1;rw [hc] at e2;injection e1 with e1;injection e2 with e2;rw [e1,e2];exact h,fun h=>⟨a,c,ha,hc,h⟩⟩
 have h2:xX all j i↔Cv c a:=⟨fun⟨a',c',e1,e2,h⟩=>by rw [hc] at e1;rw [ha] at e2;injection e1 with e1;injection e2 with e2;rw [e1,e2];exact h,fun h=>⟨c,a,hc,ha,h⟩⟩
 have p1:=hp a (eW ha)
 have p2:=hp c (eW hc)
 rw [h1,h2]
 obtain⟨l1,e1⟩:=bA.1 ha
 obtain⟨l2,e2⟩:=bA.1 hc
 unfold AY Cv
 rcases Nat.lt_trichotomy i j with h | h | h
 ·have:=mf.1 hB i j l1 l2 h
  rw [e1,e2] at this
  unfold qY at this
  rcases this with this | this
  ·constructor
   ·rintro(h3 | h3)
    ·exact .inr (.inl ⟨by omega,by omega,by omega⟩)
    ·omega
   ·rintro(h3 | h3 | h3)
    ·omega
    ·left;omega
    ·omega
  ·constructor
   ·rintro(h3 | h3) <;> omega
   ·rintro(h3 | h3 | h3) <;> omega
 ·subst h
  rw [ha] at hc;injection hc with hc;subst hc
  exact⟨fun _=> .inl rfl,fun _=> .inl (by omega)⟩
 ·have:=mf.1 hB j i l2 l1 h
  rw [e1,e2] at this
  unfold qY at this
  rcases this with this | this
  ·constructor
   ·rintro(h3 | h3)
    ·exact .inr (.inr ⟨by omega,by omega,by omega⟩)
    ·omega
   ·rintro(h3 | h3 | h3)
    ·omega
    ·omega
    ·left;omega
  ·constructor
   ·rintro(h3 | h3) <;> omega
   ·rintro(h3 | h3 | h3) <;> omega
theorem yF {α:Type} {q q':List α} (h:q <+:q') {t:Nat} {x:α} (hx:q[t]? =some x):q'[t]? =some x:=by
 obtain⟨r,rfl⟩:=h
 rw [gA (bA.1 hx).1];exact hx
def tJ (f:Int->Int->Bool) (x y:Int):Prop:=f x y=true/\∀x' y',f x' y'=true->y<y'\/(y=y'/\x<=x')
theorem tJ.unique {f:Int->Int->Bool} {x y x' y':Int} (h:tJ f x y) (h':tJ f x' y'):x=x'/\y=y':=by
 have h1:=h.2 _ _ h'.1
 have h2:=h'.2 _ _ h.1
 omega
theorem E6 {a:aI} {l:List aI} (hp: ∀r∈a::l,r.X0<r.X1/\r.Y0<r.Y1) (hB: ∀r∈l,qY a r):tJ (sH (a::l)) a.X0 a.Y0:=by
 have pa:=hp a (by simp)
 refine⟨iT.2 ⟨a,by simp,by omega,by omega⟩,fun x' y' h=>?_⟩
 obtain⟨r,hr,hx,hy⟩:=iT.1 h
 rcases dC.1 hr with rfl | hr
 ·omega
 ·have:=hB r hr
  unfold qY at this
  omega
theorem E7 {s:List aA} (hc:eU (s.map cA)) (hne:s≠[]): ∃r t,aS s=r::t/\tJ (fun x y=>uh (s.map cA) x y) r.X0 r.Y0/\FO s= ⟨r.X0,r.Y0⟩:=by
 cases s with
 | nil=>exact absurd rfl hne
 | cons b s=>
  have hx:=hc.each (cA b) (by simp)
  have hxs:b.Xs≠[]:=hx.2.1
  have he:b.Xs.length % 2=0:=hx.2.2.2
  obtain⟨x0,x1,xs,e⟩: ∃x0 x1 xs,b.Xs=x0::x1::xs:=by
   match hb:b.Xs with
   | []=>exact absurd hb hxs
   | [x0]=>rw [hb] at he;simp at he
   | x0::x1::xs=>exact⟨x0,x1,xs,rfl⟩
  have hr:aS (b::s)= ⟨x0,b.Y0,x1,b.Y1⟩::((An xs).map (fun p=>(⟨p.1,b.Y0,p.2,b.Y1⟩:aI))++aS s):=by
   rw [mN]
   unfold mM
   rw [e];rfl
  have hB:=qh hc
  have hpos:=sW hc
  rw [hr] at hB hpos
  refine⟨_,_,hr,?_,by unfold FO;dsimp only;rw [e];rfl⟩
  have:=E6 hpos (ov.1 hB).1
  rw [<-hr] at this
  refine⟨?_,fun x' y' h=>this.2 x' y' ?_⟩
  ·show uh _ _ _=true
   rw [<-o5 hc];exact this.1
  ·rw [o5 hc];exact h
theorem BZ {all:List aI} {u:Nat->Nat} (hB:all.Pairwise qY) (hp: ∀r∈all,r.X0<r.X1/\r.Y0<r.Y1) (hJ:Joined all u) {h:Nat} {a:aI} (ha:all[h]? =some a) (hu:u h=h):tJ (sH (nF all all.length u h)) a.X0 a.Y0:=by
 obtain⟨hl,e⟩:=bA.1 ha
 have pa:=hp a (eW ha)
 refine⟨iT.2 ⟨a,lS.2 ⟨h,hl,hu,ha⟩,by omega,by omega⟩,fun x' y' hc=>?_⟩
 obtain⟨r,hr,hx,hy⟩:=iT.1 hc
 obtain⟨k,hk,huk,hrk⟩:=lS.1 hr
 have hle:=hJ.le k hk
 by_cases ek:k=h
 ·subst ek;rw [ha] at hrk;injection hrk with hrk;subst hrk;omega
 ·obtain⟨hl2,e2⟩:=bA.1 hrk
  have:=mf.1 hB h k hl hl2 (by omega)
  rw [e,e2] at this
  unfold qY at this
  omega
theorem tK {u:Nat->Nat}: ∀(d i:Nat),∃t,bL (i+d) u=bL i u++t
 | 0,i=>⟨[],by simp⟩
 | d+1,i=>by
  obtain⟨t,ht⟩:=tK (u:=u) d i
  rw [<-Nat.add_assoc,gx,ht]
  split
  ·exact⟨t++[i+d],by simp⟩
  ·exact⟨t,rfl⟩
theorem H4 {u:Nat->Nat} {i n:Nat} (hi:i<n) (hu:u i=i): (bL n u)[(bL i u).length]? =some i:=by
 obtain⟨t,ht⟩:=tK (u:=u) (n - (i+1)) (i+1)
 rw [show i+1+ (n - (i+1))=n by omega] at ht
 rw [ht,gx,aC hu]
 simp
section
variable {N:Nat}
theorem GI {a b:aI} (ha:A7 a) (hb:A7 b):iV N a b=some (decide (AY a b)):=by
 have a1:=ha.s1;have a2:=ha.s2;have a3:=ha.s3;have a4:=ha.s4
 have b1:=hb.s1;have b2:=hb.s2;have b3:=hb.s3;have b4:=hb.s4
 unfold small at a1 a2 a3 a4 b1 b2 b3 b4
 unfold iV
 rw [tG,tG,tH,tH,eR (x:=min a.X1 b.X1 - max a.X0 b.X0) (by omega) (by omega),eR (x:=min a.Y1 b.Y1 - max a.Y0 b.Y0) (by omega) (by omega)]
 congr 1
 rw [eN]
 unfold AY
 simp only [dI,bW,bO,gt_iff_lt,ge_iff_le]
theorem insert_eq {l:List (List aI)} {r0:aI} {t:List aI} (hl:l.length<=1000000) (hN:4398046511104<=N) (h: ∀x,l[l.length - 1]? =some x->∃x0 t',x=x0::t'/\¬(r0.Y0<x0.Y0\/(r0.Y0=x0.Y0/\r0.X0<x0.X0))):jC N l (r0::t)=some (l++[r0::t]):=by
 refine Ok.get ?_
 unfold jC
 refine Ok.bind (Ok.jw (Go:=fun s=>s= ((l.length:Nat):Int)) (Rt:=fun _=>False) (fun s=>s= ((l.length:Nat):Int)) (fun s=>0) ?_ rfl (by omega)) ?_
 ·rintro s rfl
  by_cases h0:l.length=0
  ·rw [bY (by omega),aR,aB,aR];exact Ok.br rfl
  ·rw [bU (by omega),aP,jk (by omega) (by omega)]
   have hx:l[l.length - 1]? =some (l[l.length - 1]'(by omega)):=aN _
   obtain⟨x0,t',e,hn⟩:=h _ hx
   have i1:idx (r0::t) 0=some r0:=rfl
   have i2:idx (l[l.length - 1]'(by omega)) 0=some x0:=by rw [e];rfl
   rw [i1,aB,dU hx,aB,i2,aB]
   unfold iz
   rw [aB,aB,show ((decide (r0.Y0<x0.Y0))||((r0.Y0==x0.Y0)&&(decide (r0.X0<x0.X0))))=false by
    rw [<-iM,dI,bW,bO,bO,beq_iff_eq];exact hn,aR]
   exact Ok.br rfl
 intro o ho
 refine Ok.cs ho ?_ (fun r hr=>hr.elim)
 rintro s rfl
 refine Ok.eq (qF l l.length (bT _)) (Ok.app ?_ (Ok.app ?_ (Ok.eq (pq l l.length (bT _)) (Ok.app ?_ (Ok.ret ?_)))))
 ·rw [eQ];simp only [List.length_nil];omega
 ·rw [eQ];simp only [List.length_nil,cZ,dR];omega
 ·rw [eQ,List.drop_length];simp only [List.length_nil,cZ,dR];omega
 ·simp
structure BI (all:List aI) (u:Nat->Nat) (i:Nat) (q:List Nat) (done:List Bool) (own:List aI):Prop where
 len:done.length=all.length
 nd:q.Nodup
 lt: ∀k∈q,k<all.length/\u k=i
 hd:i∈q
 dn: ∀k,k<all.length->done[k]? =some (decide (u k<i\/k∈q))
 ow:own.map some=q.map (fun k=>all[k]?)
theorem BI.LM {all:List aI} {u:Nat->Nat} {i:Nat} {q:List Nat} {done:List Bool} {own:List aI} (h:BI all u i q done own):own.length=q.length:=by
 have:=congrArg List.length h.ow
 rwa [cY,cY] at this
theorem BI.yZ {all:List aI} {u:Nat->Nat} {i:Nat} {q:List Nat} {done:List Bool} {own:List aI} (h:BI all u i q done own):q.length<=all.length:=by
 have:=fN h.nd (m:=List.range all.length) (fun k hk=>by rw [rm];exact(h.lt k hk).1)
 rwa [List.length_range] at this
theorem BI.at_ {all:List aI} {u:Nat->Nat} {i:Nat} {q:List Nat} {done:List Bool} {own:List aI} (h:BI all u i q done own) {p k:Nat} (hk:q[p]? =some k):own[p]? =all[k]? :=by
 have e:=congrArg (fun l=>l[p]?) h.ow
 simp only [gC,hk,Option.map_some] at e
 cases ho:own[p]? with
 | none=>rw [ho] at e;cases e
 | some x=>rw [ho] at e;injection e
theorem BI.mem {all:List aI} {u:Nat->Nat} {i:Nat} {q:List Nat} {done:List Bool} {own:List aI} (h:BI all u i q done own) {r:aI}:r∈own↔∃k∈q,all[k]? =some r:=by
 have:r∈own↔some r∈own.map some:=by simp
 rw [this,h.ow,dG]
theorem D6 {s:List aA} {u:Nat->Nat} {ps:List (List aA)} (hc:eU (s.map cA)) (hP:rC s u ps) (hn: (aS s).length<=2000) (hok: ∀r∈aS s,A7 r) (hps: ∀p∈ps,(aS p).length<=2000) (hN:4398046511104<=N):
  fK N (aS s)=some (ps.map aS):=by
 refine Ok.get ?_
 have hB:=qh hc
 have hpos:=sW hc
 have hJ:=hP.join
 have hlen:=hP.len
 have heach:=hP.each
 clear hP hc
 generalize aS s=all at *
 unfold fK
 refine Ok.eq (rz false (by omega)) ?_
 have hadj: ∀a b,(xX all a b\/xX all b a)->u a=u b:=fun a b h=>h.elim (fun h=>hJ.co a b h) (fun h=>(hJ.co b a h).symm)
 refine Ok.bind (Ok.pF (n:=all.length) (fun st=>st.2.2) (fun i st=>st.1.length=all.length/\(∀k,k<all.length->st.1[k]? =some (decide (u k<i)))/\st.2.1= (ps.take (bL i u).length).map aS) (Go:=fun st=>st.2.1=ps.map aS) (Rt:=fun _=>False) ?_ ?_ (dJ _) rfl
  ⟨by simp,fun k hk=>by simp [hk],by simp [bL]⟩ (by omega)) ?_
 ·rintro i ⟨done,out,ii⟩ hi e ⟨hdl,hdn,hout⟩
  dsimp only at e hdl hdn hout ⊢
  subst e
  rw [kR hi,aP]
  refine Ok.ix (hdn i hi) (Ok.bif (fun hb=>?_) (fun hb=>?_))
  ·have hlt:u i<i:=of_decide_eq_true hb
   refine Ok.nx ⟨bR (by omega),hdl,fun k hk=>?_,?_⟩
   ·rw [hdn k hk]
    congr 1
    rw [decide_eq_decide]
    have hne:u k≠i:=fun e=>by have:=hJ.rr k hk;rw [e] at this;omega
    omega
   ·rw [gx,aG (by omega)];exact hout
  ·have hge: ¬u i<i:=of_decide_eq_false hb
   have hui:u i=i:=by have:=hJ.le i hi;omega
   have hx:all[i]? =some all[i]:=aN hi
   refine Ok.ix (hdn i hi) (Ok.ix hx ?_)
   refine Ok.bind (Ok.jw (Go:=fun st=>st.1.length=all.length/\(∀k,k<all.length->st.1[k]? =some (decide (u k<i+1)))/\(∀r,r∈st.2.1↔r∈nF all all.length u i)/\st.2.1.length<=all.length) (Rt:=fun _=>False)
    (fun st=>∃(q:List Nat) (t:Nat),st.2.2= ((t:Nat):Int)/\t<=q.length/\BI all u i q st.1 st.2.1/\∀(p k j:Nat),p<t->q[p]? =some k->j<all.length->(xX all k j\/xX all j k)->j∈q)
    (fun st=>all.length+1 - st.2.2.toNat) ?_ ⟨[i],0,rfl,by simp,?_,fun p k j hp=>by omega⟩ (by simp;omega)) ?_
   ·rintro⟨d1,o1,t'⟩ ⟨q,t,e,ht,hI,hcl⟩
    dsimp only at e hI ⊢
    subst e
    have hql:=hI.yZ
    have hol:=hI.LM
    by_cases hlt:t<q.length
    ·rw [kR (by omega:t<o1.length),aP]
     have hqt:q[t]? =some q[t]:=aN hlt
     have hkt:=hI.lt _ (cN hlt)
     have hya:all[q[t]]? =some all[q[t]]:=aN hkt.1
     refine Ok.bind (Ok.pF (n:=all.length) (fun st=>st.2.2) (fun j st=>∃q',q <+:q'/\BI all u i q' st.1 st.2.1/\∀j',j'<j->(xX all q[t] j'\/xX all j' q[t])->j'∈q')
      (Go:=fun st=>∃q',q <+:q'/\BI all u i q' st.1 st.2.1/\∀j',j'<all.length->(xX all q[t] j'\/xX all j' q[t])->j'∈q') (Rt:=fun _=>False) ?_ ?_ (dJ _) rfl ⟨q,List.prefix_refl _,hI,fun j' hj=>by omega⟩ (by omega)) ?_
     ·rintro j ⟨d2,o2,jj⟩ hj e ⟨q',hpre,hI',hc'⟩
      dsimp only at e hI' ⊢
      subst e
      rw [kR hj,aP]
      have hq't:q'[t]? =some q[t]:=by rw [yF hpre hqt]
      have hy2:o2[t]? =some all[q[t]]:=by rw [hI'.at_ hq't];exact hya
      have hz:all[j]? =some all[j]:=aN hj
      have htc:=GH hB hpos hya hz
      have hcond: ((idx d2 ((j:Nat):Int)).bind fun x1054=>bif (!x1054) then ((idx o2 ((t:Nat):Int)).bind fun x1056=>(idx all ((j:Nat):Int)).bind fun x1058=>(iV N x1056 x1058).bind fun x1061=>some x1061) else (some false))=some (!decide (u j<i\/j∈q')&&decide (AY all[q[t]] all[j])):=by
       rw [dU (hI'.dn j hj),aB]
       cases decide (u j<i\/j∈q') with
       | true=>rfl
       | false=>rw [o6,aP,dU hy2,aB,dU hz,aB,GI (hok _ (cN hkt.1)) (hok _ (cN hj)),aB,Bool.true_and]
      refine Ok.eq hcond ?_
      refine Ok.bind (P:=fun st:List Bool×List aI=>∃q',q <+:q'/\BI all u i q' st.1 st.2/\∀j',j'<j+1->(xX all q[t] j'\/xX all j' q[t])->j'∈q') (Ok.bif (fun hb=>?_) (fun hb=>?_)) (fun st hst=>Ok.nx ⟨bR (by omega),hst⟩)
      ·rw [bW,Bool.not_eq_true',decide_eq_false_iff_not,bO] at hb
       have hju:u j=i:=by
        rcases htc.1 hb.2 with h | h
        ·rw [<-h];exact hkt.2
        ·rw [<-hadj _ _ h];exact hkt.2
       have hjq:j∉q':=fun h=>hb.1 (.inr h)
       have hol2:=hI'.LM
       have hql2:=hI'.yZ
       refine Ok.ix (hI'.dn j hj) (Ok.ix hz (Ok.app (by simp only [dR,List.length_nil];omega) (Ok.ret ⟨q'++[j],hpre.trans (List.prefix_append _ _),⟨?_,?_,?_,?_,?_,?_⟩,?_⟩)))
       ·rw [i5];exact hI'.len
       ·rw [List.nodup_append]
        exact⟨hI'.nd,by simp,fun a ha b hb=>by simp at hb;subst hb;exact fun e=>hjq (e▸ha)⟩
       ·intro k hk
        rcases dA.1 hk with hk | hk
        ·exact hI'.lt k hk
        ·simp at hk;subst hk;exact⟨hj,hju⟩
       ·exact List.mem_append_left _ hI'.hd
       ·intro k hk
        rw [cJ,fz]
        by_cases e:j=k
        ·subst e
         rw [aC rfl,aC (by rw [hI'.len];exact hj)]
         congr 1
         exact(bU (.inr (by simp))).symm
        ·rw [aG e,hI'.dn k hk]
         congr 1
         rw [decide_eq_decide,dA]
         simp only [rn]
         constructor
         ·exact fun h=>h.elim .inl (fun h=> .inr (.inl h))
         ·exact fun h=>h.elim .inl (fun h=>h.elim .inr (fun h=>absurd h.symm e))
       ·rw [dO,dO,hI'.ow];simp [hz]
       ·intro j' hj' ha
        by_cases e:j'=j
        ·subst e;simp
        ·exact List.mem_append_left _ (hc' j' (by omega) ha)
      ·refine Ok.ret ⟨q',hpre,hI',fun j' hj' ha=>?_⟩
       by_cases e:j'=j
       ·subst e
        have hj2:u j'=i:=by rw [<-hadj _ _ ha];exact hkt.2
        rw [bU (htc.2 (.inr ha)),Bool.and_true,Bool.not_eq_false',bO] at hb
        rcases hb with hb | hb
        ·omega
        ·exact hb
       ·exact hc' j' (by omega) ha
     ·rintro⟨d2,o2,jj⟩ e hI2
      dsimp only at e hI2 ⊢
      subst e
      rw [ng,aR]
      exact Ok.br hI2
     intro o ho
     refine Ok.cs ho ?_ (fun r hr=>hr.elim)
     rintro⟨d2,o2,jj⟩ ⟨q',hpre,hI',hc'⟩
     dsimp only at hI' ⊢
     refine Ok.nx ⟨⟨q',t+1,bR (by omega),?_,hI',fun p k j hp hk hj ha=>?_⟩,?_⟩
     ·have:=hpre.length_le;omega
     ·by_cases e:p=t
      ·subst e
       rw [yF hpre hqt] at hk;injection hk with hk;subst hk
       exact hc' j hj ha
      ·have hpq:q[p]? =some (q[p]'(by omega)):=aN _
       rw [yF hpre hpq] at hk;injection hk with hk;subst hk
       exact hpre.subset (hcl p _ j (by omega) hpq hj ha)
     ·rw [bR (by omega)];simp only [cJ];omega
    ·rw [xR (by omega:o1.length<=t),aR]
     have htq:t=q.length:=by omega
     have hcls: ∀k,k<all.length->(k∈q↔u k=i):=fun k hk=>⟨fun h=>(hI.lt k h).2,fun h=>by
      have hstep: ∀a b,xX all a b->(a∈q↔b∈q):=fun a b hab=>by
       have hab':=hab
       obtain⟨ra,rb,e1,e2,_⟩:=hab'
       have hla:=(bA.1 e1).1
       have hlb:=(bA.1 e2).1
       constructor
       ·intro h'
        obtain⟨p,hp⟩:=dN h'
        exact hcl p a b (by rw [htq];exact(bA.1 hp).1) hp hlb (.inl hab)
       ·intro h'
        obtain⟨p,hp⟩:=dN h'
        exact hcl p b a (by rw [htq];exact(bA.1 hp).1) hp hla (.inr hab)
      exact hJ.fi (fun k=>k∈q) hstep i k hi hk (by rw [hui,h]) hI.hd⟩
     refine Ok.br ⟨hI.len,fun k hk=>?_,fun r=>?_,by rw [hol];exact hql⟩
     ·rw [hI.dn k hk]
      congr 1
      rw [decide_eq_decide,hcls k hk];omega
     ·rw [hI.mem,lS]
      constructor
      ·rintro⟨k,hk,h⟩
       exact⟨k,(hI.lt k hk).1,(hI.lt k hk).2,h⟩
      ·rintro⟨k,hk,h1,h2⟩
       exact⟨k,(hcls k hk).2 h1,h2⟩
   ·refine⟨by rw [i5];exact hdl,by simp,fun k hk=>by simp at hk;subst hk;exact⟨hi,hui⟩,by simp,fun k hk=>?_,by simp [hx]⟩
    rw [cJ,fz]
    by_cases e:i=k
    ·subst e
     rw [aC rfl,aC (by rw [hdl];exact hi)]
     congr 1
     exact(bU (.inr (by simp))).symm
    ·rw [aG e,hdn k hk]
     congr 1
     rw [decide_eq_decide]
     simp only [rn]
     omega
   intro o ho
   refine Ok.cs ho ?_ (fun r hr=>hr.elim)
   rintro⟨d1,o1,t'⟩ ⟨g1,g2,g3,g4⟩
   dsimp only at g1 g2 g3 g4 ⊢
   have hh:=H4 hi hui
   have hml: (bL i u).length<ps.length:=by rw [hlen];exact(bA.1 hh).1
   have hpp:ps[(bL i u).length]? =some ps[(bL i u).length]:=aN hml
   have mW:=heach _ _ _ hh hpp
   have hcov: ∀x y,uh (ps[(bL i u).length].map cA) x y=sH o1 x y:=fun x y=>by rw [mW.cover];exact(IP g3 x y).symm
   have hpl:=hps _ (cN hml)
   refine Ok.eq (tI mW.can hcov (by omega) (fun r hr=>?_) (by omega) hN) ?_
   ·obtain⟨k,_,_,hk⟩:=lS.1 ((g3 r).1 hr)
    exact(hpos r (eW hk)).1
   have hfirst: ∀(j h:Nat) p,(bL all.length u)[j]? =some h->ps[j]? =some p->∃r t a,aS p=r::t/\all[h]? =some a/\r.X0=a.X0/\r.Y0=a.Y0:=fun j h p hj hp=>by
    have hs:=heach j h p hj hp
    obtain⟨hhl,hhu⟩:=jq.1 (eW hj)
    have ha:all[h]? =some all[h]:=aN hhl
    have hne:p≠[]:=fun e=>by
     have hL:=(BZ hB hpos hJ ha hhu).1
     rw [<-hs.cover,e] at hL
     cases hL
    obtain⟨r,t,e1,e2,_⟩:=E7 hs.can hne
    have e2':tJ (sH (nF all all.length u h)) r.X0 r.Y0:=⟨by rw [<-hs.cover];exact e2.1,fun x' y' hxy=>e2.2 x' y' (by simp only;rw [hs.cover];exact hxy)⟩
    obtain⟨e3,e4⟩:=e2'.unique (BZ hB hpos hJ ha hhu)
    exact⟨r,t,all[h],e1,ha,e3,e4⟩
   obtain⟨r,t,a,e1,e2,e3,e4⟩:=hfirst _ _ _ hh hpp
   have hheads: (bL i u).length<=i:=lu i u
   rw [e1]
   refine Ok.eq (insert_eq (by rw [hout,cY,cL];omega) hN (fun x hxl=>?_)) (Ok.nx ⟨bR (by omega),g1,g2,?_⟩)
   ·have hol:out.length= (bL i u).length:=by rw [hout,cY,cL];omega
    have hpos2:0< (bL i u).length:=by
     have:=(bA.1 hxl).1;omega
    rw [hout,gC,cY,cL,show min (bL i u).length ps.length= (bL i u).length by omega,List.getElem?_take_of_lt (by omega)] at hxl
    have hp2:ps[(bL i u).length - 1]? =some (ps[(bL i u).length - 1]'(by omega)):=aN _
    rw [hp2] at hxl
    injection hxl with hxl
    have hh2: (bL i u)[(bL i u).length - 1]? =some ((bL i u)[(bL i u).length - 1]'(by omega)):=aN _
    have hm2:=jq.1 (eW hh2)
    obtain⟨tl,htl⟩:=tK (u:=u) (all.length - i) i
    rw [show i+ (all.length - i)=all.length by omega] at htl
    have hh3: (bL all.length u)[(bL i u).length - 1]? =some ((bL i u)[(bL i u).length - 1]'(by omega)):=by rw [htl,gA (by omega)];exact hh2
    obtain⟨r',t',a',f1,f2,f3,f4⟩:=hfirst _ _ _ hh3 hp2
    refine⟨r',t',by rw [<-hxl];exact f1,?_⟩
    obtain⟨l1,q1⟩:=bA.1 f2
    obtain⟨l2,q2⟩:=bA.1 e2
    have hbh:=mf.1 hB _ _ l1 l2 hm2.1
    rw [q1,q2] at hbh
    have p1:=hpos a' (eW f2)
    unfold qY at hbh
    rw [e3,e4,f3,f4]
    omega
   ·dsimp only
    rw [gx,aC hui,cZ,hout]
    simp only [dR,List.length_nil]
    rw [eI hml,dO,dZ,List.map_nil,e1]
 ·rintro⟨done,out,ii⟩ e ⟨_,_,hout⟩
  dsimp only at e hout ⊢
  subst e
  rw [ng,aR]
  refine Ok.br ?_
  dsimp only
  rw [hout,lE (by rw [hlen];omega)]
 intro o ho
 exact Ok.cs ho (fun s hs=>Ok.ret hs) (fun r hr=>hr.elim)
end
end Go.Gk
namespace Go.Gk
open Go Classical
section
variable {α β:Type}
theorem H5 {N:Nat} {l:List α} {s:β} {φ:α->β->Option Int} (c:α->Int) (hφ: ∀x,φ x s=some (c x)) (hs: ∀(i j:Nat) (x y:α),i<j->l[i]? =some x->l[j]? =some y->0<=c x->0<c y)
  (hl:l.length<=1048576) (hN:4194304<=N): ∃r,Hz N l s φ=some r/\r.2=l.any (fun x=>c x==0)/\(r.2=true->r.1=Ge l (fun x=>c x==0)):=by
 show Ok (Hz N l s φ) (fun r=>r.2=l.any (fun x=>c x==0)/\(r.2=true->r.1=Ge l (fun x=>c x==0)))
 unfold Hz
 refine Ok.bind (Ok.jw (Go:=fun st:Int×Int=>∃a:Nat,st.1= ((a:Nat):Int)/\a<=l.length/\(∀j x,j<a->l[j]? =some x->c x<0)/\(∀j x,a<=j->l[j]? =some x->0<=c x)) (Rt:=fun _=>True)
  (fun st=>∃a b:Nat,st= (((a:Nat):Int),((b:Nat):Int))/\a<=b/\b<=l.length/\(∀j x,j<a->l[j]? =some x->c x<0)/\(∀j x,b<=j->l[j]? =some x->0<=c x))
  (fun st=>(st.2 - st.1).toNat) ?_ ⟨0,l.length,rfl,by omega,bT _,fun j x hj=>by omega,fun j x hj hx=>by have:=(bA.1 hx).1;omega⟩ (by simp only;omega)) ?_
 ·rintro st ⟨a,b,rfl,hab,hb,h1,h2⟩
  dsimp only
  by_cases hlt:a<b
  ·have hm: (a+b) / 2<l.length:=by omega
   have hx:l[(a+b) / 2]? =some l[(a+b) / 2]:=aN hm
   rw [show decide (((a:Nat):Int)< ((b:Nat):Int))=true by rw [bO];omega,aP,Gf hlt (by omega:b<=4611686018427387904)]
   refine Ok.ix hx (Ok.eq (hφ _) ?_)
   by_cases hc:c l[(a+b) / 2]<0
   ·rw [bU hc,aP,aB]
    refine Ok.nx ⟨⟨(a+b) / 2+1,b,?_,by omega,hb,fun j x hj hx'=>?_,h2⟩,?_⟩
    ·rw [bR (by omega)]
    ·by_cases e:j= (a+b) / 2
     ·subst e;rw [hx] at hx';injection hx' with hx';rw [<-hx'];exact hc
     ·by_cases h0:c x<0
      ·exact h0
      ·have:=hs j _ x _ (by omega) hx' hx (by omega)
       omega
    ·rw [bR (by omega)];simp only;omega
   ·rw [bY hc,aR,aB]
    refine Ok.nx ⟨⟨a,(a+b) / 2,rfl,by omega,by omega,h1,fun j x hj hx'=>?_⟩,by simp only;omega⟩
    by_cases e:j= (a+b) / 2
    ·subst e;rw [hx] at hx';injection hx' with hx';rw [<-hx'];omega
    ·have:=hs _ j _ x (by omega) hx hx' (by omega)
     omega
  ·rw [show decide (((a:Nat):Int)< ((b:Nat):Int))=false by rw [decide_eq_false_iff_not];omega,aR]
   exact Ok.br ⟨a,rfl,by omega,h1,fun j x hj hx=>h2 j x (by omega) hx⟩
 intro o ho
 refine Ok.cs ho ?_ (fun r hr=>r.elim)
 rintro⟨st1,st2⟩ ⟨a,ha,hle,h1,h2⟩
 dsimp only at ha ⊢
 subst ha
 by_cases hlt:a<l.length
 ·have hx:l[a]? =some l[a]:=aN hlt
  rw [show decide (((a:Nat):Int)< ((l.length:Nat):Int))=true by rw [bO];omega,aP,dU hx,aB,hφ,aB,aB]
  refine Ok.ret ?_
  by_cases he:c l[a]=0
  ·have hb: (c l[a]==0)=true:=by rw [beq_iff_eq];exact he
   rw [hb]
   refine⟨(kl.2 ⟨_,cN hlt,hb⟩).symm,fun _=>?_⟩
   rw [Dz hx hb (fun j y hj hy=>by have:=h1 j y hj hy;rw [beq_eq_false_iff_ne];omega)]
  ·have hb: (c l[a]==0)=false:=by rw [beq_eq_false_iff_ne];exact he
   rw [hb]
   refine⟨?_,fun h=>by cases h⟩
   symm
   rw [List.any_eq_false]
   intro x hx'
   obtain⟨j,hj⟩:=dN hx'
   rw [iM,beq_eq_false_iff_ne]
   by_cases hja:j<a
   ·have:=h1 j x hja hj;omega
   ·by_cases e:j=a
    ·subst e;rw [hx] at hj;injection hj with hj;rw [<-hj];exact he
    ·have h3:=h2 a _ (bT _) hx
     have:=hs a j _ x (by omega) hx hj h3
     omega
 ·rw [show decide (((a:Nat):Int)< ((l.length:Nat):Int))=false by rw [decide_eq_false_iff_not];omega,aR,aB]
  refine Ok.ret ⟨?_,fun h=>by cases h⟩
  symm
  rw [List.any_eq_false]
  intro x hx'
  obtain⟨j,hj⟩:=dN hx'
  have:=(bA.1 hj).1
  have:=h1 j x (by omega) hj
  rw [iM,beq_eq_false_iff_ne];omega
end
def yG (p q:dV):Prop:=eJ.lt p.Part q.Part\/(p.Part=q.Part/\eJ.lt p.dV q.dV)
theorem FT {p q:dV} (h1:p.Part=q.Part) (h2:p.dV=q.dV):p=q:=by cases p;cases q;simp at h1 h2;subst h1;subst h2;rfl
theorem yG.irrefl (p:dV): ¬yG p p:=fun h=>by
 rcases h with h | ⟨_,h⟩
 ·exact eJ.lt_irrefl _ h
 ·exact eJ.lt_irrefl _ h
theorem yG.trans {p q r:dV} (h1:yG p q) (h2:yG q r):yG p r:=by
 rcases h1 with h1 | ⟨e1,h1⟩ <;> rcases h2 with h2 | ⟨e2,h2⟩
 ·exact .inl (eJ.lt_trans h1 h2)
 ·exact .inl (by rw [<-e2];exact h1)
 ·exact .inl (by rw [e1];exact h2)
 ·exact .inr ⟨e1.trans e2,eJ.lt_trans h1 h2⟩
theorem yG.total (p q:dV):yG p q\/p=q\/yG q p:=by
 rcases eJ.Dx p.Part q.Part with h | h | h
 ·exact .inl (.inl h)
 ·rcases eJ.Dx p.dV q.dV with h' | h' | h'
  ·exact .inl (.inr ⟨h,h'⟩)
  ·exact .inr (.inl (FT h h'))
  ·exact .inr (.inr (.inr ⟨h.symm,h'⟩))
 ·exact .inr (.inr (.inl h))
theorem yG.asymm {p q:dV} (h:yG p q): ¬yG q p:=fun h'=>yG.irrefl p (h.trans h')
theorem yG.ne {p q:dV} (h:yG p q):p≠q:=fun e=>by subst e;exact yG.irrefl _ h
theorem sX {a b:eJ}:Lib.compareBytes a.cX b.cX=0↔a=b:=⟨fun h=>eJ.ext' ((wy _ _).1 h),fun h=>(wy _ _).2 (by rw [h])⟩
theorem oN {p q:dV}:jP p q=0↔p=q:=by
 unfold jP
 by_cases h:Lib.compareBytes p.Part.cX q.Part.cX=0
 ·rw [aG (by simpa using h),sX]
  exact⟨fun h'=>FT (sX.1 h) h',fun h'=>by rw [h']⟩
 ·rw [aC h]
  exact⟨fun h'=>absurd h' h,fun h'=>absurd (sX.2 (by rw [h'])) h⟩
theorem wL {p q:dV}:jP p q<0↔yG p q:=by
 unfold jP yG
 by_cases h:Lib.compareBytes p.Part.cX q.Part.cX=0
 ·rw [aG (by simpa using h),wx]
  have e:=sX.1 h
  constructor
  ·exact fun h'=> .inr ⟨e,h'⟩
  ·rintro(h' | ⟨_,h'⟩)
   ·rw [e] at h';exact absurd h' (eJ.lt_irrefl _)
   ·exact h'
 ·rw [aC h,wx]
  constructor
  ·exact fun h'=> .inl h'
  ·rintro(h' | ⟨e,_⟩)
   ·exact h'
   ·exact absurd (sX.2 e) h
theorem wM {p q:dV}:0<jP p q↔yG q p:=by
 constructor
 ·intro h
  rcases yG.total p q with h' | h' | h'
  ·have:=wL.2 h';omega
  ·have:=oN.2 h';omega
  ·exact h'
 ·intro h
  by_cases h1:jP p q<0
  ·exact absurd (wL.1 h1) h.asymm
  ·by_cases h2:jP p q=0
   ·exact absurd (oN.1 h2).symm h.ne
   ·omega
section
variable {N:Nat}
structure E8 (a:kT) (x:eM):Prop where
 name:nr x.Part=true/\isWord x.dV=true
 LI:0<=x.cT/\x.cT< ((a.aJ.length:Nat):Int)
 at_:qS x.At=true
structure sY (a:kT):Prop where
 yZ:a.bM.length<=1000
 each: ∀x∈a.bM,E8 a x
 up:a.bM.Pairwise (fun x y=>yG (jV x) (jV y))
theorem CE {a:kT} {k:Nat} {x:eM} (hx:a.bM[k]? =some x) (h:ko a k=none):E8 a x/\∀y,0<k->a.bM[k - 1]? =some y->yG (jV y) (jV x):=by
 unfold ko at h
 rw [hx,Option.bind_some] at h
 split at h
 ·rename_i h1
  split at h
  ·rename_i h2
   split at h
   ·cases h
   ·rename_i h3
    rw [bW] at h1 h2
    unfold fP at h2
    rw [bW,bO,bO] at h2
    refine⟨⟨h1,⟨by omega,by omega⟩,h2.2⟩,fun y hk hy=>?_⟩
    have h4: ¬jP (jV x) (jV y)<=0:=fun h4=>h3 ⟨hk,y,hy,h4⟩
    exact wM.1 (by omega)
  ·cases h
 ·cases h
theorem AZ {a:kT} {k:Nat} {e:Int} (h:ko a k=some e):e≠0:=by
 unfold ko at h
 cases hx:a.bM[k]? with
 | none=>rw [hx] at h;cases h
 | some x=>
  rw [hx,Option.bind_some] at h
  repeat' split at h
  all_goals first | (injection h with h;omega) | cases h
theorem GJ {a:kT} (h:mR a=0):sY a:=by
 unfold mR at h
 split at h
 ·omega
 rename_i hl
 have hn:vB a.bM.length (ko a)=none:=by
  cases hf:vB a.bM.length (ko a) with
  | none=>rfl
  | some e=>
   rw [hf] at h
   obtain⟨k,_,hk,_⟩:=oZ.1 hf
   exact absurd h (AZ hk)
 rw [n9] at hn
 have hg: ∀(k:Nat) x,a.bM[k]? =some x->E8 a x/\∀y,0<k->a.bM[k - 1]? =some y->yG (jV y) (jV x):=fun k x hx=>CE hx (hn k (bA.1 hx).1)
 refine⟨by omega,fun x hx=>?_,?_⟩
 ·obtain⟨k,hk⟩:=dN hx
  exact(hg k x hk).1
 ·have hstep: ∀(n i:Nat) x y,a.bM[i]? =some x->a.bM[i+n+1]? =some y->yG (jV x) (jV y):=by
   intro n
   induction n with
   | zero=>intro i x y hx hy;exact(hg (i+1) y hy).2 x (by omega) hx
   | succ n ih=>
    intro i x y hx hy
    have hz:i+n+1<a.bM.length:=by have:=(bA.1 hy).1;omega
    have h1:=ih i x _ hx (aN hz)
    exact h1.trans ((hg (i+ (n+1)+1) y hy).2 _ (by omega) (by rw [show i+ (n+1)+1 - 1=i+n+1 by omega];exact aN hz))
  rw [mf]
  intro i j hi hj hij
  exact hstep (j - i - 1) i _ _ (aN hi) (by rw [show i+ (j - i - 1)+1=j by omega];exact aN hj)
theorem sY.inj {a:kT} (h:sY a) {i j:Nat} {x y:eM} (hx:a.bM[i]? =some x) (hy:a.bM[j]? =some y) (e:jV x=jV y):i=j:=by
 obtain⟨h1,rfl⟩:=bA.1 hx
 obtain⟨h2,rfl⟩:=bA.1 hy
 have hp:=mf.1 h.up
 rcases Nat.lt_trichotomy i j with h3 | h3 | h3
 ·exact absurd e (hp i j h1 h2 h3).ne
 ·exact h3
 ·exact absurd e.symm (hp j i h2 h1 h3).ne
theorem D7 {l:List eM} {p:dV} (hu:l.Pairwise (fun x y=>yG (jV x) (jV y))) (hl:l.length<=1048576) (hN:4194304<=N) {φ:eM->dV->Option Int} (hφ: ∀x,φ x p=some (jP (jV x) p)):
  ∃r,Hz N l p φ=some r/\(bif (!r.2) then (some (-1)) else (some r.1))=some (Ge l (fun x=>decide (jV x=p))):=by
 obtain⟨r,h1,h2,h3⟩:=H5 (N:=N) (l:=l) (s:=p) (φ:=φ) (fun x=>jP (jV x) p) hφ (fun i j x y hij hx hy hc=>by
  obtain⟨g1,rfl⟩:=bA.1 hx
  obtain⟨g2,rfl⟩:=bA.1 hy
  have hlt:=mf.1 hu i j g1 g2 hij
  refine wM.2 ?_
  by_cases h0:jP (jV l[i]) p=0
  ·rw [<-oN.1 h0];exact hlt
  ·exact(wM.1 (by omega)).trans hlt) hl hN
 have e: (fun x=>jP (jV x) p==0)= (fun x=>decide (jV x=p)):=by
  funext x
  rw [eN,beq_iff_eq,bO,oN]
 rw [e] at h2 h3
 refine⟨r,h1,?_⟩
 cases hr:r.2 with
 | true=>simp only [mV,aR];rw [h3 hr]
 | false=>
  simp only [o6,aP]
  rw [hr] at h2
  rw [Dy h2.symm]
def A0 (a:kT) (p:dV):Int:=Ge a.bM (fun x=>decide (jV x=p))
theorem D8 (a:kT) (p:dV): (A0 a p = -1/\∀x∈a.bM,jV x≠p)\/∃(k:Nat) (x:eM),A0 a p= ((k:Nat):Int)/\a.bM[k]? =some x/\jV x=p:=by
 rcases vc a.bM (fun x=>decide (jV x=p)) with ⟨h1,h2⟩ | ⟨k,x,h1,h2,h3,_⟩
 ·exact .inl ⟨h1,fun x hx=>of_decide_eq_false (h2 x hx)⟩
 ·exact .inr ⟨k,x,h1,h2,of_decide_eq_true h3⟩
end
end Go.Gk
namespace Go.Gk
open Go Classical
theorem u4 {α β:Type} {l:List α} {f:α->Option β} {k:Nat} {x:α} {c:β} (hx:l[k]? =some x) (hn: ∀(j:Nat) y,j<k->l[j]? =some y->f y=none) (hc:f x=some c):l.findSome? f=some c:=by
 obtain⟨hk,rfl⟩:=bA.1 hx
 rw [List.findSome?_eq_some_iff]
 refine⟨l.take k,l[k],l.drop (k+1),?_,hc,fun y hy=>?_⟩
 ·rw [List.getElem_cons_drop,List.take_append_drop]
 ·obtain⟨j,hj⟩:=dN hy
  have hjk:j<k:=by have:=(bA.1 hj).1;rw [cL] at this;omega
  exact hn j y hjk (by rw [List.getElem?_take_of_lt hjk] at hj;exact hj)
theorem zc {α β:Type} {l:List α} {f:α->Option β} (h: ∀(j:Nat) y,j<l.length->l[j]? =some y->f y=none):l.findSome? f=none:=by
 rw [List.findSome?_eq_none_iff]
 intro x hx
 obtain⟨j,hj⟩:=dN hx
 exact h j x (bA.1 hj).1 hj
section
variable {N:Nat}
theorem LN (c:UInt8): (bif (!((((decide (((c.toNat:Nat):Int)>=97))&&(decide (((c.toNat:Nat):Int)<=122)))||((decide (((c.toNat:Nat):Int)>=65))&&(decide (((c.toNat:Nat):Int)<=90))))||((decide (((c.toNat:Nat):Int)>=48))&&(decide (((c.toNat:Nat):Int)<=57))))) then ((gO N (⟨[95,43,45,35]⟩) ((c.toNat:Nat):Int)).bind fun x50=>some (decide (x50<0))) else (some false))=some (DJ c):=by
 rw [tC,aB]
 unfold DJ
 generalize decide (Lib.indexByte (⟨[95,43,45,35]⟩:eJ).cX c<0)=p
 have e: (!((((decide (((c.toNat:Nat):Int)>=97))&&(decide (((c.toNat:Nat):Int)<=122)))||((decide (((c.toNat:Nat):Int)>=65))&&(decide (((c.toNat:Nat):Int)<=90))))||((decide (((c.toNat:Nat):Int)>=48))&&(decide (((c.toNat:Nat):Int)<=57)))))= ((((decide (((c.toNat:Nat):Int)<65))||(decide (((c.toNat:Nat):Int)>90)))&&((decide (((c.toNat:Nat):Int)<97))||(decide (((c.toNat:Nat):Int)>122))))&&((decide (((c.toNat:Nat):Int)<48))||(decide (((c.toNat:Nat):Int)>57)))):=by
  rw [eN]
  simp only [Bool.not_eq_true',Bool.or_eq_false_iff,Bool.and_eq_false_iff,decide_eq_false_iff_not,bW,dI,bO]
  omega
 rw [e]
 cases ((((decide (((c.toNat:Nat):Int)<65))||(decide (((c.toNat:Nat):Int)>90)))&&((decide (((c.toNat:Nat):Int)<97))||(decide (((c.toNat:Nat):Int)>122))))&&((decide (((c.toNat:Nat):Int)<48))||(decide (((c.toNat:Nat):Int)>57)))) with
 | true=>rw [aP,Bool.true_and]
 | false=>rw [aR,Bool.false_and]
theorem zd {s:eJ} (h:s.cX.length<=1048576) (hN:4194304<=N):gr N s=some (isWord s):=by
 refine Ok.get ?_
 unfold gr isWord
 refine Ok.bind (Ok.pF (n:=s.cX.length) (fun s=>s) (fun k _=>∀(j:Nat) x,j<k->s.cX[j]? =some x->DJ x=false) (Go:=fun _=>s.cX.any DJ=false) (Rt:=fun r=>r=false/\s.cX.any DJ=true) ?_ ?_ (dJ _) rfl (fun j x hj=>by omega) (by omega)) ?_
 ·rintro k i hk e hI
  subst e
  rw [kR hk,aP]
  refine Ok.eq (Dw s k hk) (Ok.eq (LN _) (Ok.bif (fun hb=>Ok.rt ⟨rfl,kl.2 ⟨_,cN hk,hb⟩⟩) (fun hb=>Ok.nx ⟨bR (by omega),fun j x hj hx=>?_⟩)))
  by_cases e:j=k
  ·subst e;rw [aN hk] at hx;injection hx with hx;rw [<-hx];exact hb
  ·exact hI j x (by omega) hx
 ·rintro i e hI
  subst e
  rw [ng,aR]
  refine Ok.br ?_
  rw [List.any_eq_false]
  intro x hx
  obtain⟨j,hj⟩:=dN hx
  rw [hI j x (bA.1 hj).1 hj];exact mU
 intro o ho
 refine Ok.cs ho (fun s' hs'=>?_) (fun r hr=>Ok.ret (by rw [hr.1,hr.2];rfl))
 rw [hs']
 show Ok ((some _).bind _) _
 refine Ok.ret ?_
 rw [o6,Bool.true_and]
 congr 1 <;> · rw [decide_eq_decide];omega
theorem D9 {s:eJ} (h:s.cX.length<=1048576) (hN:4194304<=N):jB N s=some (nr s):=by
 refine Ok.get ?_
 unfold jB nr
 refine Ok.eq (DL 47 h hN) ?_
 have hsn:=BS s 47
 refine Ok.bind (Ok.pF (n:=(nV s 47).length) (fun s=>s) (fun k _=>∀(j:Nat) x,j<k->(nV s 47)[j]? =some x->isWord x=true) (Go:=fun _=>(nV s 47).all isWord=true) (Rt:=fun r=>r=false/\(nV s 47).all isWord=false) ?_ ?_ (dJ _) rfl (fun j x hj=>by omega) (by omega)) ?_
 ·rintro k i hk e hI
  subst e
  rw [kR hk,aP]
  have hx: (nV s 47)[k]? =some (nV s 47)[k]:=aN hk
  have hl:=BR (cN hk)
  refine Ok.ix hx (Ok.eq (zd (by omega) hN) (Ok.bif (fun hb=>Ok.rt ⟨rfl,?_⟩) (fun hb=>Ok.nx ⟨bR (by omega),fun j x hj hx'=>?_⟩)))
  ·rw [List.all_eq_false]
   exact⟨_,cN hk,by simpa using hb⟩
  ·by_cases e:j=k
   ·subst e;rw [hx] at hx';injection hx' with hx';rw [<-hx'];simpa using hb
   ·exact hI j x (by omega) hx'
 ·rintro i e hI
  subst e
  rw [ng,aR]
  refine Ok.br ?_
  rw [kY]
  intro x hx
  obtain⟨j,hj⟩:=dN hx
  exact hI j x (bA.1 hj).1 hj
 intro o ho
 refine Ok.cs ho (fun s' hs'=>Ok.ret ?_) (fun r hr=>Ok.ret (by rw [hr.1,hr.2,Bool.and_false]))
 rw [hs',Bool.and_true,decide_eq_decide];omega
theorem rG (n lo hi:Int):dX N n lo hi=some (fP n lo hi):=rfl
theorem l7 {b:bZ} (h:pT b=true):cH N b=some (ui b):=mP (N:=N) h
theorem yH {b:bZ}:gJ N b=some (ml b).2:=by
 have e1: (bif (!(fP b.dE 1 10000)) then (some true) else (some (!(qS b.At))))=some (!pT b):=by unfold pT;cases fP b.dE 1 10000 <;> rfl
 have e2: ∀n,cR N n=some (lD n):=fun _=>rfl
 unfold gJ ml
 rw [rG,aB,yY,aB,e1,aB]
 cases hf:pT b with
 | false=>rfl
 | true=>
  rw [mV,aR,l7 hf,aB]
  simp only [e2,aB]
  unfold fC
  cases lD (ui b).X0 <;> cases lD (ui b).Y0 <;> cases lD (ui b).X1 <;> cases lD (ui b).Y1 <;> rfl
theorem Kg {x y:eM}: ((x.Part.sZ y.Part)||((x.Part.qw y.Part)&&(x.dV.sZ y.dV||x.dV.qw y.dV)))=decide (jP (jV x) (jV y)<=0):=by
 have hle:jP (jV x) (jV y)<=0↔yG (jV x) (jV y)\/jV x=jV y:=by
  rw [<-wL,<-oN];omega
 rw [eN,bO,hle,dI,bW,dI,zB,zB]
 unfold yG jV
 simp only [dV.mk.injEq]
 constructor
 ·rintro(h | ⟨h1,h2 | h2⟩)
  ·exact .inl (.inl h)
  ·exact .inl (.inr ⟨h1,h2⟩)
  ·exact .inr ⟨h1,h2⟩
 ·rintro((h | ⟨h1,h2⟩) | ⟨h1,h2⟩)
  ·exact .inl h
  ·exact .inr ⟨h1, .inl h2⟩
  ·exact .inr ⟨h1, .inr h2⟩
theorem A1 {a:kT} (hc:a.aJ.length<=1073741824) (hl:a.bM.length<=1073741824) {k:Nat} {x:eM} (hx:a.bM[k]? =some x) (hn:x.Part.cX.length<=1048576/\x.dV.cX.length<=1048576) (hN:4194304<=N):iB N a ((k:Nat):Int)=some ((ko a k).getD 0):=by
 have hk:=(bA.1 hx).1
 have hw:IntKind.wrap .i64 (((a.aJ.length:Nat):Int) - 1)= ((a.aJ.length:Nat):Int) - 1:=eR (by omega) (by omega)
 unfold iB ko
 rw [dU hx,aB,D9 hn.1 hN,aB,hx,Option.bind_some]
 have e1: (bif (!(nr x.Part)) then (some true) else ((gr N x.dV).bind fun x44=>some (!x44)))=some (!(nr x.Part&&isWord x.dV)):=by
  rw [zd hn.2 hN,aB]
  cases nr x.Part <;> rfl
 rw [e1,aB]
 cases h1: (nr x.Part&&isWord x.dV) with
 | false=>rw [o6,aP,aG mU];rfl
 | true=>
  rw [mV,aR,aC rfl,hw,rG,aB]
  have e2: (bif (!(fP x.cT 0 (((a.aJ.length:Nat):Int) - 1))) then (some true) else ((fU N x.At).bind fun x57=>some (!x57)))=some (!(fP x.cT 0 (((a.aJ.length:Nat):Int) - 1)&&qS x.At)):=by
   rw [yY,aB]
   cases fP x.cT 0 (((a.aJ.length:Nat):Int) - 1) <;> rfl
  rw [e2,aB]
  cases h2: (fP x.cT 0 (((a.aJ.length:Nat):Int) - 1)&&qS x.At) with
  | false=>rw [o6,aP,aG mU];rfl
  | true=>
   rw [mV,aR,aC rfl]
   by_cases h0:0<k
   ·have hy:a.bM[k - 1]? =some (a.bM[k - 1]'(by omega)):=aN _
    rw [bU (by omega),aP,jk h0 (by omega),dU hy,aB,Kg]
    by_cases h3:jP (jV x) (jV (a.bM[k - 1]'(by omega)))<=0
    ·rw [bU h3,aP,aC ⟨h0,_,hy,h3⟩];rfl
    ·rw [bY h3,aR,aG (by rintro⟨_,y,hy',h4⟩;rw [hy] at hy';injection hy' with hy';subst hy';exact h3 h4)];rfl
   ·rw [bY (by omega),aR,aG (fun h=>h0 h.1)];rfl
noncomputable def lU (a:kT):Int:=if a.aJ.length=0 then 9 else if 16<a.aJ.length then 2 else match a.aJ.findSome? vN with
 | some e=>e
 | none=>if jY a.cG≠0 then jY a.cG else if 2000<a.cG.length+ (a.aJ.map List.length).sum then 2 else if jc a≠0 then jc a else mR a
theorem Ea (a:kT):kQ a=if lU a≠0 then lU a else if qV a then 12 else 0:=by
 unfold kQ lU HW DV
 by_cases h0:a.aJ.length=0
 ·rw [aC h0,aC h0,aC (by decide)]
 rw [aG h0,aG h0]
 by_cases h1:16<a.aJ.length
 ·rw [aC h1,aC h1,aC (by decide)]
 rw [aG h1,aG h1]
 cases hf:a.aJ.findSome? vN with
 | some e=>
  have he:e≠0:=by
   obtain⟨_,x,_,_,hx,_⟩:=List.findSome?_eq_some_iff.1 hf
   unfold vN at hx
   split at hx
   ·rename_i h;injection hx with hx;rw [<-hx];exact h
   ·cases hx
  dsimp only
  rw [aC he]
 | none=>
  dsimp only
  by_cases h2:jY a.cG≠0
  ·rw [aC h2,aC h2,aC h2]
  rw [aG h2,aG h2]
  by_cases h3:2000<a.cG.length+ (a.aJ.map List.length).sum
  ·rw [aC h3,aC h3,aC (by decide)]
  rw [aG h3,aG h3]
  by_cases h4:jc a≠0
  ·rw [aC h4,aC h4,aC h4]
  rw [aG h4,aG h4]
theorem A2 {a:kT} (h:lU a=0):jc a=0:=by
 unfold lU at h
 by_cases h0:a.aJ.length=0
 ·rw [aC h0] at h;omega
 rw [aG h0] at h
 by_cases h1:16<a.aJ.length
 ·rw [aC h1] at h;omega
 rw [aG h1] at h
 cases hf:a.aJ.findSome? vN with
 | some e=>
  rw [hf] at h
  have h:e=0:=h
  obtain⟨_,x,_,_,hx,_⟩:=List.findSome?_eq_some_iff.1 hf
  unfold vN at hx
  split at hx
  ·rename_i h';injection hx with hx;rw [hx] at h';exact absurd h h'
  ·cases hx
 | none=>
  rw [hf] at h
  dsimp only at h
  by_cases h2:jY a.cG≠0
  ·rw [aC h2] at h;exact absurd h h2
  rw [aG h2] at h
  by_cases h3:2000<a.cG.length+ (a.aJ.map List.length).sum
  ·rw [aC h3] at h;omega
  rw [aG h3] at h
  by_cases h4:jc a≠0
  ·rw [aC h4] at h;exact absurd h h4
  ·simpa using h4
theorem zu {a:kT} (hs:uY a) (hN:4398046511104<=N):gV N a=some (lU a):=by
 refine Ok.get ?_
 have c1:=hs.cs
 have c2:=hs.out
 have c3:=hs.bs
 have c4:=hs.ls
 unfold gV lU
 refine Ok.bif (fun h=>Ok.ret ?_) (fun h=>?_)
 ·rw [aC (by have:=beq_iff_eq.1 h;omega)]
 have h0: ¬a.aJ.length=0:=by rw [beq_eq_false_iff_ne] at h;omega
 rw [aG h0]
 refine Ok.bif (fun h=>Ok.ret ?_) (fun h=>?_)
 ·rw [aC (by have:=of_decide_eq_true h;omega)]
 have h1: ¬16<a.aJ.length:=by have:=of_decide_eq_false h;omega
 rw [aG h1]
 have sumle: ∀k,k<=a.aJ.length->((a.aJ.take k).map List.length).sum<=k*1048576:=by
  intro k
  induction k with
  | zero=>intro _;simp
  | succ k ih=>
   intro hk
   have:=ih (by omega)
   have h2:=hs.each _ (cN (show k<a.aJ.length by omega))
   rw [eI (by omega),dO,List.sum_append]
   simp only [dZ,List.map_nil,List.sum_cons,List.sum_nil]
   rw [Nat.add_mul];omega
 refine Ok.bind (Ok.pF (n:=a.aJ.length) (fun s=>s.2) (fun k s=>s.1= ((a.cG.length+ ((a.aJ.take k).map List.length).sum:Nat):Int)/\∀(j:Nat) r,j<k->a.aJ[j]? =some r->vN r=none)
  (Go:=fun s=>s.1= ((a.cG.length+ (a.aJ.map List.length).sum:Nat):Int)/\a.aJ.findSome? vN=none) (Rt:=fun r=>a.aJ.findSome? vN=some r) ?_ ?_ (dJ _) rfl ⟨by simp,fun j r hj=>by omega⟩ (by omega)) ?_
 ·rintro k ⟨m,i⟩ hk e ⟨hm,hI⟩
  dsimp only at e hm ⊢
  subst e;subst hm
  have hx:a.aJ[k]? =some a.aJ[k]:=aN hk
  have he:=hs.each _ (cN hk)
  have hsl:=sumle k (by omega)
  rw [kR hk,aP]
  refine Ok.ix hx (Ok.eq (tT (by omega) hN) (Ok.bif (fun hb=>Ok.rt ?_) (fun hb=>Ok.ix hx (Ok.nx ⟨bR (by omega),?_,fun j r hj hr=>?_⟩))))
  ·exact u4 hx hI (by unfold vN;rw [aC (by simpa using hb)])
  ·dsimp only
   rw [wrap_add (by omega),eI hk,dO,List.sum_append]
   simp only [dZ,List.map_nil,List.sum_cons,List.sum_nil]
   omega
  ·by_cases e:j=k
   ·subst e;rw [hx] at hr;injection hr with hr;rw [<-hr]
    unfold vN;rw [aG (by simpa using hb)]
   ·exact hI j r (by omega) hr
 ·rintro⟨m,i⟩ e ⟨hm,hI⟩
  dsimp only at e hm ⊢
  subst e
  rw [ng,aR]
  rw [eQ] at hm
  exact Ok.br ⟨hm,zc hI⟩
 intro o ho
 refine Ok.cs ho ?_ (fun r hr=>Ok.ret (by rw [hr]))
 rintro⟨m,i⟩ ⟨hm,hf⟩
 dsimp only at hm ⊢
 subst hm
 rw [hf]
 dsimp only
 refine Ok.eq (tT (by omega) hN) (Ok.bif (fun h=>Ok.ret ?_) (fun h=>?_))
 ·rw [aC (by simpa using h)]
 rw [aG (by simpa using h)]
 have hmr:Ok (bif (decide (((a.cG.length+ (a.aJ.map List.length).sum:Nat):Int)>2000)) then (some true) else (some (decide (((a.aO.length:Nat):Int)>500)))) (fun b=>b=decide (2000<a.cG.length+ (a.aJ.map List.length).sum\/500<a.aO.length)):=by
  by_cases h2:2000<a.cG.length+ (a.aJ.map List.length).sum
  ·rw [bU (by omega),aP];exact Ok.ret (bU (.inl h2)).symm
  ·rw [bY (by omega),aR]
   refine Ok.ret ?_
   rw [decide_eq_decide];omega
 refine Ok.bind hmr fun b hb=>?_
 subst hb
 refine Ok.bif (fun h=>Ok.ret ?_) (fun h=>?_)
 ·have h:=of_decide_eq_true h
  by_cases h2:2000<a.cG.length+ (a.aJ.map List.length).sum
  ·rw [aC h2]
  ·rw [aG h2]
   have hb:jc a=2:=by unfold jc;rw [aC (by omega)]
   rw [hb,aC (by decide)]
 have h:=of_decide_eq_false h
 rw [aG (by omega)]
 have hbe:jc a= (a.aO.findSome? (lM a.aJ.length)).getD 0:=by unfold jc;rw [aG (by omega)]
 have hw:IntKind.wrap .i64 (((a.aJ.length:Nat):Int) - 1)= ((a.aJ.length:Nat):Int) - 1:=eR (by omega) (by omega)
 refine Ok.bind (Ok.pF (n:=a.aO.length) (fun s=>s) (fun k _=>∀(j:Nat) b,j<k->a.aO[j]? =some b->lM a.aJ.length b=none) (Go:=fun _=>a.aO.findSome? (lM a.aJ.length)=none) (Rt:=fun r=>a.aO.findSome? (lM a.aJ.length)=some r/\r≠0) ?_ ?_ (dJ _) rfl (fun j b hj=>by omega) (by omega)) ?_
 ·rintro k i hk e hI
  subst e
  rw [kR hk,aP]
  have hx:a.aO[k]? =some a.aO[k]:=aN hk
  refine Ok.ix hx (Ok.eq yH (Ok.bif (fun hb=>Ok.rt ?_) (fun hb=>?_)))
  ·have hb: (ml a.aO[k]).2≠0:=by simpa using hb
   exact⟨u4 hx hI (by unfold lM;rw [aC hb]),hb⟩
  ·have hb: ¬(ml a.aO[k]).2≠0:=by simpa using hb
   rw [hw]
   have e2: ((dX N a.aO[k].cO 0 (((a.aJ.length:Nat):Int) - 1)).bind fun x135=>bif (!x135) then (some true) else ((dX N a.aO[k].To a.aO[k].cO (((a.aJ.length:Nat):Int) - 1)).bind fun x138=>some (!x138)))=some (!(fP a.aO[k].cO 0 (((a.aJ.length:Nat):Int) - 1)&&fP a.aO[k].To a.aO[k].cO (((a.aJ.length:Nat):Int) - 1))):=by
    rw [rG,aB,rG,aB]
    cases fP a.aO[k].cO 0 (((a.aJ.length:Nat):Int) - 1) <;> rfl
   refine Ok.eq e2 (Ok.bif (fun h3=>Ok.rt ⟨u4 hx hI ?_,by decide⟩) (fun h3=>Ok.nx ⟨bR (by omega),fun j b hj hb'=>?_⟩))
   ·unfold lM
    rw [aG hb,aG (by rintro⟨g1,g2⟩;rw [g1,g2] at h3;cases h3)]
   ·by_cases e:j=k
    ·subst e;rw [hx] at hb';injection hb' with hb';rw [<-hb']
     rw [Bool.not_eq_false',bW] at h3
     unfold lM;rw [aG hb,aC h3]
    ·exact hI j b (by omega) hb'
 ·rintro i e hI
  subst e
  rw [ng,aR]
  exact Ok.br (zc hI)
 intro o ho
 refine Ok.cs ho ?_ (fun r hr=>Ok.ret ?_)
 rotate_left
 ·rw [hbe,hr.1,Option.getD_some,aC hr.2]
 intro _ hbn
 rw [hbe,hbn,Option.getD_none,aG (by decide)]
 unfold mR
 refine Ok.bif (fun h=>Ok.ret ?_) (fun h=>?_)
 ·rw [aC (by have:=of_decide_eq_true h;omega)]
 have h5: ¬1000<a.bM.length:=by have:=of_decide_eq_false h;omega
 rw [aG h5]
 refine Ok.bind (Ok.pF (n:=a.bM.length) (fun s=>s) (fun k _=>∀j,j<k->ko a j=none) (Go:=fun _=>vB a.bM.length (ko a)=none) (Rt:=fun r=>vB a.bM.length (ko a)=some r) ?_ ?_ (dJ _) rfl (fun j hj=>by omega) (by omega)) ?_
 ·rintro k i hk e hI
  subst e
  rw [kR hk,aP]
  have hx:a.bM[k]? =some a.bM[k]:=aN hk
  refine Ok.eq (A1 (by omega) (by omega) hx (hs.nm _ (cN hk)) (by omega)) (Ok.bif (fun hb=>Ok.rt ?_) (fun hb=>Ok.nx ⟨bR (by omega),fun j hj=>?_⟩))
  ·cases hl:ko a k with
   | none=>rw [hl] at hb;cases hb
   | some e=>exact oZ.2 ⟨k,hk,hl,hI⟩
  ·by_cases e:j=k
   ·subst e
    cases hl:ko a j with
    | none=>rfl
    | some e=>rw [hl] at hb;exact absurd (by simpa using hb) (AZ hl)
   ·exact hI j (by omega)
 ·rintro i e hI
  subst e
  rw [ng,aR]
  exact Ok.br (n9.2 hI)
 intro o ho
 exact Ok.cs ho (fun _ h=>Ok.ret (by rw [h];rfl)) (fun r hr=>Ok.ret (by rw [hr];rfl))
theorem tL (b:bZ) (k:Int):eV N b k=some (jW b k):=rfl
theorem u5 {a:kT} {i:Nat} {r:List aI} {s:List aA} (hb:kB a.aO) (hr:a.aJ[i]? =some r) (hrl:r.length<=2000) (hro: ∀x∈r,A7 x) (hd:tD r (j4 a.aO ((i:Nat):Int)) s) (hN:4398046511104<=N):gm N a ((i:Nat):Int)=some (aS s):=by
 refine Ok.get ?_
 have hbl:=hb.len
 have hhl:=yx hb ((i:Nat):Int)
 have hho:=qT hb ((i:Nat):Int)
 unfold gm
 refine Ok.bind (Ok.pF (n:=a.aO.length) (fun s=>s.2) (fun k st=>st.1=j4 (a.aO.take k) ((i:Nat):Int)) (Go:=fun st=>st.1=j4 a.aO ((i:Nat):Int)) (Rt:=fun _=>False) ?_ ?_ (dJ _) rfl rfl (by omega)) ?_
 ·rintro k ⟨out,ii⟩ hk e hI
  dsimp only at e hI ⊢
  subst e;subst hI
  have hx:a.aO[k]? =some a.aO[k]:=aN hk
  have hts:j4 (a.aO.take (k+1)) ((i:Nat):Int)=if jW a.aO[k] ((i:Nat):Int)=true then j4 (a.aO.take k) ((i:Nat):Int)++[ui a.aO[k]] else j4 (a.aO.take k) ((i:Nat):Int):=by
   unfold j4
   rw [eI hk,kD,dO]
   by_cases h:jW a.aO[k] ((i:Nat):Int)=true
   ·rw [aC h];simp [h]
   ·rw [aG h];simp [h]
  have hlen: (j4 (a.aO.take k) ((i:Nat):Int)).length<=k:=by
   unfold j4
   rw [cY]
   have:=nG (fun b=>jW b ((i:Nat):Int)) (a.aO.take k)
   rw [cL] at this;omega
  rw [kR hk,aP]
  refine Ok.ix hx (Ok.eq (tL _ _) (Ok.bind (P:=fun st:List aI=>st=j4 (a.aO.take (k+1)) ((i:Nat):Int)) (Ok.bif (fun h=>?_) (fun h=>Ok.ret ?_)) (fun st hst=>Ok.nx ⟨bR (by omega),hst⟩)))
  ·refine Ok.ix hx (Ok.eq (l7 (hb.ok _ (cN hk)).1) (Ok.app (by simp only [dR,List.length_nil];omega) (Ok.ret ?_)))
   rw [hts,aC h]
  ·rw [hts,aG (by rw [iM];exact h)]
 ·rintro⟨out,ii⟩ e hI
  dsimp only at e hI ⊢
  subst e
  rw [ng,aR]
  exact Ok.br (by rw [eQ] at hI;exact hI)
 intro o ho
 refine Ok.cs ho ?_ (fun r hr=>hr.elim)
 rintro⟨hs,ii⟩ hI
 dsimp only at hI ⊢
 subst hI
 obtain⟨t,_,ht⟩:=o4 (N:=N) (l:=j4 a.aO ((i:Nat):Int)) (by omega) (fun x hx=>(hho x hx).1) (by omega)
 obtain⟨z1,z2,z3⟩:=ht.DM
 have z4:2* (j4 a.aO ((i:Nat):Int)).length* (2* (j4 a.aO ((i:Nat):Int)).length)<=1000*1000:=Nat.mul_le_mul (by omega) (by omega)
 refine Ok.ix hr (Ok.eq (tI ht.can ht.cover (by omega) (fun x hx=>(hho x hx).1.x) (by omega) hN) ?_)
 unfold kn
 have hsz:=(vn (A:=5000) hd.can hd.lim (by rw [cZ,lR,lR];omega) (by rw [cZ,jE,jE];omega)).2.2
 have hc:gE N r (aS t) 3=some (aS s):=D4 hd.can (fun x y=>by
  rw [hd.cover,o5 ht.can,ht.cover];unfold qX;simp) (by omega) (by omega) (fun x hx=>(hro x hx).x) (fun x hx=>(sW ht.can x hx).1) (by omega) hN
 rw [hc,aB,aB]
 exact Ok.ret rfl
theorem vr: ∀(iq:List (List (List aA))) (k:Nat),(fD k iq).length= (iq.map List.length).sum
 | [],k=>rfl
 | ps::iq,k=>by
  show (ps.map _++fD (k+1) iq).length=_
  rw [cZ,cY,vr iq (k+1),dZ,List.sum_cons]
theorem GK {a:kT} {nu:List (List aA)} {iq:List (List (List aA))} (hg:pd a) (hD:wI a.aJ a.aO a.aJ.length nu iq) {i:Nat} {s:List aA} (hi:i<a.aJ.length) (hd:nu[i]? =some s) (hf: (aS s).length<=2000): ∃ps u,iq[i]? =some ps/\pR a.aJ[i] (j4 a.aO ((i:Nat):Int)) s u ps:=by
 have hp:iq[i]? =some (iq[i]'(by rw [hD.zo];exact hi)):=aN _
 have hdr:=hD.dr i _ _ hi (aN hi) hd
 obtain⟨u,hu⟩:=hD.pt i _ _ hi hd hp
 have hreg:=uX.1 (hg.Nl _ (cN hi))
 exact⟨_,u,hp,fun x hx=>((o8.1 hreg.1).2 x hx).1,fun x hx=>(qT hg.gb _ x hx).2,(AE hreg.1).2,fun x hx=>(qT hg.gb _ x hx).1,hdr,hu,hf⟩
theorem pR.pieces {r hs:List aI} {s:List aA} {u:Nat->Nat} {ps:List (List aA)} (h:pR r hs s u ps) (hN:4398046511104<=N):fK N (aS s)=some (ps.map aS):=by
 refine D6 h.dr.can h.pt h.yZ (fun q hq=>?_) (fun p hp=>(h.part hp).2.1) hN
 obtain⟨h1,h2,h3⟩:=FR h.r1 h.r2 h.dr.can h.dr.lim q hq
 exact Cw h1 h2 h3
theorem E9 {a b:aI} (ha:a.X0<a.X1/\a.Y0<a.Y1) (hb:b.X0<b.X1/\b.Y0<b.Y1):fV N a b=some (DU a b):=by
 unfold fV
 rw [tG,tG,tH,tH]
 have e1:decide (min a.X1 b.X1>max a.X0 b.X0)=xQ a.X0 a.X1 b.X0 b.X1:=by
  unfold xQ
  rw [eN,bW,bO,bO,bO];omega
 have e2:decide (min a.Y1 b.Y1>max a.Y0 b.Y0)=xQ a.Y0 a.Y1 b.Y0 b.Y1:=by
  unfold xQ
  rw [eN,bW,bO,bO,bO];omega
 rw [e1,e2]
 unfold DU
 cases xQ a.X0 a.X1 b.X0 b.X1 <;> rfl
theorem sq_pos {b:bZ} (h:pT b=true): (ui b).X0< (ui b).X1/\(ui b).Y0< (ui b).Y1:=by
 obtain⟨h1,_,_⟩:=rD h
 simp only [ui];omega
inductive Checked (N:Nat) (a:kT):Prop
 | err (e:Int) (he:e≠0) (h1:j3 N a=some (none,e)) (h2:dW N a=some e)
 | ok {nu:List (List aA)} {iq:List (List (List aA))} {r:Nat->Nat} {gs:List cF} {ofP ofB vo:List Int} {vY:List j8} (b:rV a nu iq r gs ofP ofB vo vY)
  (h1:j3 N a=some (some (a.aJ,a.cG,a.aO,a.bM,nu,fD 0 iq,j5 a.aO (fD 0 iq),gs,ofP,ofB,vo,vY),0)) (h2:dW N a=some 0)
theorem FU {a:kT} (hb:kB a.aO) (hN:4398046511104<=N) {f:Int->Option Int} {Q:Int->Prop} (hc:qV a->Q 12) (hn: ¬qV a->∀s,Ok (f s) Q):
  Ok ((jw (fun(s35:Int)=>(bif (decide (s35< (a.aO.length:Int))) then ((jw (fun(s622:Int)=>(bif (decide (s622<s35)) then (((idx a.aO s35).bind fun x869=>(idx a.aO s622).bind fun x873=>(iC N x869 x873).bind fun x876=>bif x876 then ((idx a.aO s35).bind fun x879=>(cH N x879).bind fun x882=>(idx a.aO s622).bind fun x885=>(cH N x885).bind fun x888=>(fV N x882 x888).bind fun x890=>some x890) else (some false)).bind fun s867=>bif s867 then (some (.rt 12)) else (some (.nx (IntKind.wrap .i64 (s622+1))))) else (some (.br s622)):Option (Fl (Int) Int))) N 0).bind fun o911=>o911.cs (fun(s622:Int)=>some (.nx (IntKind.wrap .i64 (s35+1)))) (fun r=>some (.rt r))) else (some (.br s35)):Option (Fl (Int) Int))) N 0).bind fun o933=>o933.cs f (fun r=>some r)) Q:=by
 have hbl:=hb.len
 refine Ok.bind (Ok.pF (n:=a.aO.length) (fun s=>s) (fun k _=>∀(i j:Nat) (x y:bZ),i<k->j<i->a.aO[i]? =some x->a.aO[j]? =some y->¬qU x y=true) (Go:=fun _=>¬qV a) (Rt:=fun r=>r=12/\qV a) ?_ ?_ (dJ _) rfl (fun i j x y hi=>by omega) (by omega)) ?_
 ·rintro k s hk e hI
  subst e
  rw [kR hk,aP]
  have hx:a.aO[k]? =some a.aO[k]:=aN hk
  have fx:=(hb.ok _ (cN hk)).1
  refine Ok.bind (Ok.pF (n:=k) (fun s=>s) (fun t _=>∀(j:Nat) (y:bZ),j<t->a.aO[j]? =some y->¬qU a.aO[k] y=true) (Go:=fun _=>∀(j:Nat) (y:bZ),j<k->a.aO[j]? =some y->¬qU a.aO[k] y=true) (Rt:=fun r=>r=12/\qV a) ?_ ?_ (dJ _) rfl (fun j y hj=>by omega) (by omega)) ?_
  ·rintro t s ht e hI2
   subst e
   rw [kR ht,aP]
   have hy:a.aO[t]? =some (a.aO[t]'(by omega)):=aN _
   have fy:=(hb.ok _ (cN (show t<a.aO.length by omega))).1
   have hcond: ((idx a.aO ((k:Nat):Int)).bind fun x869=>(idx a.aO ((t:Nat):Int)).bind fun x873=>(iC N x869 x873).bind fun x876=>bif x876 then ((idx a.aO ((k:Nat):Int)).bind fun x879=>(cH N x879).bind fun x882=>(idx a.aO ((t:Nat):Int)).bind fun x885=>(cH N x885).bind fun x888=>(fV N x882 x888).bind fun x890=>some x890) else (some false))=some (qU a.aO[k] (a.aO[t]'(by omega))):=by
    rw [dU hx,aB,dU hy,aB]
    unfold iC qU
    rw [aB]
    cases (decide (a.aO[k].cO<=(a.aO[t]'(by omega)).To)&&decide ((a.aO[t]'(by omega)).cO<=a.aO[k].To)) with
    | false=>rfl
    | true=>rw [aP,aB,l7 fx,aB,aB,l7 fy,aB,E9 (sq_pos fx) (sq_pos fy),aB,Bool.true_and]
   refine Ok.eq hcond (Ok.bif (fun h=>Ok.rt ⟨rfl,k,t,_,_,ht,hx,hy,h⟩) (fun h=>Ok.nx ⟨bR (by omega),fun j y hj hjy=>?_⟩))
   by_cases e:j=t
   ·subst e;rw [hy] at hjy;injection hjy with hjy;rw [<-hjy,h];exact mU
   ·exact hI2 j y (by omega) hjy
  ·rintro s e hI2
   subst e
   rw [ng,aR]
   exact Ok.br hI2
  intro o ho
  refine Ok.cs ho (fun s hs=>Ok.nx ⟨bR (by omega),fun i j x y hi hj hix hjy=>?_⟩) (fun r hr=>Ok.rt hr)
  by_cases e:i=k
  ·subst e;rw [hx] at hix;injection hix with hix;rw [<-hix];exact hs j y hj hjy
  ·exact hI i j x y (by omega) hj hix hjy
 ·rintro s e hI
  subst e
  rw [ng,aR]
  refine Ok.br ?_
  rintro⟨i,j,x,y,hij,hx,hy,hc⟩
  exact hI i j x y (bA.1 hx).1 hij hx hy hc
 intro o ho
 exact Ok.cs ho (fun s hs=>hn hs s) (fun r hr=>Ok.ret (by rw [hr.1];exact hc hr.2))
theorem checked {a:kT} (hs:uY a) (hN:4398046511104<=N):Checked N a:=by
 obtain⟨x,hx,hI⟩:=BU (N:=N) hs hN
 have hbe:=Ea a
 have hcp:=zu (N:=N) hs hN
 rcases hI with ⟨he,rfl⟩ | ⟨h0,hg,hcl,nu,iq,D,hI⟩
 ·refine .err _ he hx (Ok.get ?_)
  unfold dW
  refine Ok.eq hcp ?_
  by_cases h:lU a≠0
  ·rw [aC h] at hbe
   rw [show (lU a != 0)=true by simpa using h,aP,hbe];exact Ok.ret rfl
  ·rw [aG h] at hbe
   have hp0:lU a=0:=by simpa using h
   have hc:qV a:=by
    by_cases hc:qV a
    ·exact hc
    ·rw [aG hc] at hbe;exact absurd hbe he
   rw [aC hc] at hbe
   rw [hp0,show ((0:Int) != 0)=false by rfl,aR]
   have hbo:=A2 hp0
   refine FU ⟨(l6 hbo).1,fun b hb=>⟨((l6 hbo).2 b hb).1,((l6 hbo).2 b hb).2.1⟩⟩ hN (fun _=>hbe.symm) (fun h=>absurd hc h)
 ·have hp0:lU a=0:=by
   by_cases h:lU a≠0
   ·rw [aC h] at hbe;rw [hbe] at h0;exact h0
   ·simpa using h
  have key:dW N a=some (if Km nu iq then 0 else 2):=by
   refine Ok.get ?_
   unfold dW
   refine Ok.eq hcp ?_
   rw [hp0,show ((0:Int) != 0)=false by rfl,aR]
   refine FU hg.gb hN (fun h=>absurd h hcl) (fun _ _=>?_)
   have hc16:=hg.yZ.2
   refine Ok.bind (Ok.pF (n:=a.aJ.length) (fun s=>s.2) (fun k st=>st.1= ((((iq.take k).map List.length).sum:Nat):Int)/\((iq.take k).map List.length).sum<=k*2000/\∀(j:Nat) s,j<k->nu[j]? =some s->(aS s).length<=2000)
    (Go:=fun st=>st.1= (((iq.map List.length).sum:Nat):Int)/\∀s∈nu,(aS s).length<=2000) (Rt:=fun r=>r=2/\¬Km nu iq) ?_ ?_ (dJ _) rfl ⟨by simp,by simp,fun j s hj=>by omega⟩ (by omega)) ?_
   ·rintro k ⟨m,i⟩ hk e ⟨hm,hml,hI2⟩
    dsimp only at e hm ⊢
    subst e;subst hm
    rw [kR hk,aP]
    have hcx:a.aJ[k]? =some a.aJ[k]:=aN hk
    have hd:nu[k]? =some (nu[k]'(by rw [D.len];exact hk)):=aN _
    have hcs:=hg.cs _ (cN hk)
    refine Ok.eq (u5 hg.gb hcx hcs.1 hcs.2 (D.dr k _ _ hk hcx hd) hN) (Ok.bif (fun h=>Ok.rt ⟨rfl,fun hf=>?_⟩) (fun h=>?_))
    ·have:=hf.1 _ (eW hd)
     have:=of_decide_eq_true h
     omega
    ·have hf: (aS (nu[k]'(by rw [D.len];exact hk))).length<=2000:=by have:=of_decide_eq_false h;omega
     obtain⟨ps,u,hp,L⟩:=GK hg D hk hd hf
     have hpl:=L.pt.yZ
     have hkp:k<iq.length:=by rw [D.zo];exact hk
     have hpe:iq[k]=ps:=by rw [aN hkp] at hp;injection hp
     refine Ok.eq (L.pieces hN) (Ok.nx ⟨bR (by omega),?_,?_,fun j s hj hjs=>?_⟩)
     ·dsimp only
      rw [cY,wrap_add (by omega),eI hkp,dO,List.sum_append,hpe]
      simp
     ·rw [eI hkp,dO,List.sum_append,hpe]
      simp only [dZ,List.map_nil,List.sum_cons,List.sum_nil]
      rw [Nat.add_mul];omega
     ·by_cases e:j=k
      ·subst e;rw [hd] at hjs;injection hjs with hjs;rw [<-hjs];exact hf
      ·exact hI2 j s (by omega) hjs
   ·rintro⟨m,i⟩ e ⟨hm,hml,hI2⟩
    dsimp only at e hm ⊢
    subst e
    rw [ng,aR]
    rw [lE (by rw [D.zo];exact bT _)] at hm
    refine Ok.br ⟨hm,fun s hs'=>?_⟩
    obtain⟨j,hj⟩:=dN hs'
    exact hI2 j s (by have:=(bA.1 hj).1;rw [D.len] at this;exact this) hj
   intro o ho
   refine Ok.cs ho ?_ (fun r hr=>Ok.ret (by rw [hr.1,aG hr.2]))
   rintro⟨m,i⟩ ⟨hm,hf⟩
   dsimp only at hm ⊢
   subst hm
   have hpl:=vr iq 0
   refine Ok.bif (fun h=>Ok.ret ?_) (fun h=>Ok.ret ?_)
   ·rw [aG]
    rintro⟨_,h2⟩
    have:=of_decide_eq_true h
    omega
   ·rw [aC]
    exact⟨hf,by have:=of_decide_eq_false h;omega⟩
  rcases hI with ⟨hf,rfl⟩ | ⟨hf,r,gs,ofP,ofB,vo,vY,hC,rfl⟩
  ·rw [aG hf] at key
   exact .err 2 (by decide) hx key
  ·rw [aC hf] at key
   exact .ok ⟨hg,hcl,D,hf,hC⟩ hx key
end
end Go.Gk
namespace Go.Gk
open Go Classical
theorem zG: ∀{l m:List Int},jD l->jD m->(∀x,x∈l↔x∈m)->l=m
 | [],[],_,_,_=>rfl
 | [],b::m,_,_,h=>absurd ((h b).2 (by simp)) (by simp)
 | a::l,[],_,_,h=>absurd ((h a).1 (by simp)) (by simp)
 | a::l,b::m,hl,hm,h=>by
  have h1:a=b:=by
   have ha:=(h a).1 (by simp)
   have hb:=(h b).2 (by simp)
   rcases dC.1 ha with e | ha
   ·exact e
   ·rcases dC.1 hb with e | hb
    ·exact e.symm
    ·have:=hl.head b hb
     have:=hm.head a ha
     omega
  subst h1
  rw [zG hl.tail hm.tail fun x=>?_]
  have hx:=h x
  rw [dC,dC] at hx
  constructor
  ·intro hxl
   rcases hx.1 (.inr hxl) with e | h'
   ·have:=hl.head x hxl;omega
   ·exact h'
  ·intro hxm
   rcases hx.2 (.inr hxm) with e | h'
   ·have:=hm.head x hxm;omega
   ·exact h'
theorem Eb {l:List Nat} (h:l.Pairwise (· < ·)):jD (ints l):=by
 unfold jD ints
 rw [List.pairwise_map]
 exact h.imp fun h=>by omega
section
variable {N:Nat}
theorem A3 {l:List Int} {c:Int} (h:jD l) (hl:l.length<=1000000000) (hN:4398046511104<=N):iD N l c=some (qf l c):=by
 refine Ok.get ?_
 unfold iD
 refine Ok.bind (Ok.jw (Go:=fun s=>∃a:Nat,s= ((a:Nat):Int)/\a<=l.length/\(∀(j:Nat) x,a<=j->l[j]? =some x->c<x)/\(∀x,0<a->l[a - 1]? =some x->¬c<x)) (Rt:=fun _=>False)
  (fun s=>∃a:Nat,s= ((a:Nat):Int)/\a<=l.length/\∀(j:Nat) x,a<=j->l[j]? =some x->c<x) (fun s=>s.toNat) ?_ ⟨l.length,rfl,bT _,fun j x hj hx=>by have:=(bA.1 hx).1;omega⟩ (by simp only [cJ];omega)) ?_
 ·rintro s ⟨a,rfl,ha,hI⟩
  by_cases h0:0<a
  ·have hx:l[a - 1]? =some (l[a - 1]'(by omega)):=aN _
   rw [bU (by omega),aP,jk h0 (by omega),dU hx,aB,aB]
   refine Ok.bif (fun hb=>?_) (fun hb=>?_)
   ·have hb:=of_decide_eq_true hb
    refine Ok.nx ⟨⟨a - 1,rfl,by omega,fun j x hj hx'=>?_⟩,by simp only [cJ];omega⟩
    by_cases e:j=a - 1
    ·subst e;rw [hx] at hx';injection hx' with hx';rw [<-hx'];exact hb
    ·exact hI j x (by omega) hx'
   ·have hb:=of_decide_eq_false hb
    exact Ok.br ⟨a,rfl,ha,hI,fun x _ hx'=>by rw [hx] at hx';injection hx' with hx';rw [<-hx'];exact hb⟩
  ·rw [bY (by omega),aR,aB,aR]
   exact Ok.br ⟨a,rfl,ha,hI,fun x h=>absurd h h0⟩
 intro o ho
 refine Ok.cs ho ?_ (fun r hr=>hr.elim)
 rintro s ⟨a,rfl,ha,hI,hE⟩
 have hlow: ∀(j:Nat) x,j<a->l[j]? =some x->x<=c:=fun j x hj hx=>by
  have hy:l[a - 1]? =some (l[a - 1]'(by omega)):=aN _
  have h1:=hE _ (by omega) hy
  by_cases e:j=a - 1
  ·subst e;rw [hy] at hx;injection hx with hx;omega
  ·have:=h.lt (i:=j) (j:=a - 1) (by omega) hx hy;omega
 have hout:c∉l->qf l c=l.take a++c::l.drop a:=fun hc=>by
  unfold qf
  rw [aG hc]
  obtain⟨e1,e2⟩:=qe (p:=fun x=>decide (x<c)) (l:=l) (k:=a) (fun j x hj hx=>bU (by
   have h1:=hlow j x hj hx
   have h2:x≠c:=fun e=>hc (e▸eW hx)
   omega)) (fun x hx=>bY (by have:=hI a x (bT _) hx;omega))
  rw [e1,e2]
 have hrest:c∉l->Ok ((s8 l 0 ((a:Nat):Int)).bind fun x61=>(app 8 ([]: (List Int)) x61).bind fun x63=>(app 8 x63 ([c]: (List Int))).bind fun x66=>(s8 l ((a:Nat):Int) ((l.length:Nat):Int)).bind fun x68=>(app 8 x66 x68).bind fun x70=>some x70) (fun r=>r=qf l c):=fun hc=>by
  have htk: (l.take a).length=a:=by rw [cL];omega
  refine Ok.eq (qF l a ha) (Ok.app (by simp only [List.length_nil];omega) (Ok.app (by rw [List.nil_append];simp only [dR,List.length_nil];omega) (Ok.eq (pq l a ha) (Ok.app ?_ (Ok.ret ?_)))))
  ·rw [List.nil_append,cZ,iH];simp only [dR,List.length_nil];omega
  ·rw [hout hc];simp
 by_cases h0:0<a
 ·have hx:l[a - 1]? =some (l[a - 1]'(by omega)):=aN _
  rw [bU (by omega),aP,jk h0 (by omega),dU hx,aB,aB]
  refine Ok.bif (fun hb=>Ok.ret ?_) (fun hb=>hrest ?_)
  ·rw [beq_iff_eq] at hb
   unfold qf;rw [aC (by rw [<-hb];exact eW hx)]
  ·rw [beq_eq_false_iff_ne] at hb
   intro hc
   obtain⟨j,hj⟩:=dN hc
   by_cases h1:a<=j
   ·have:=hI j c h1 hj;omega
   ·by_cases e:j=a - 1
    ·subst e;rw [hx] at hj;injection hj with hj;exact hb hj
    ·have:=h.lt (i:=j) (j:=a - 1) (by omega) hj hx
     have:=hlow (a - 1) _ (by omega) hx
     omega
 ·rw [bY (by omega),aR,aB,aR]
  refine hrest fun hc=>?_
  obtain⟨j,hj⟩:=dN hc
  have:=hI j c (by omega) hj;omega
theorem tM {l:List Int} {c:Int} (hl:l.length<=1099511627776) (hN:4398046511104<=N):cE N l c=some (decide (c∈l)):=by
 refine Ok.get ?_
 unfold cE
 refine Ok.bind (Ok.pF (n:=l.length) (fun s=>s) (fun k _=>∀(j:Nat) x,j<k->l[j]? =some x->x≠c) (Go:=fun _=>c∉l) (Rt:=fun r=>r=true/\c∈l) ?_ ?_ (dJ _) rfl (fun j x hj=>by omega) (by omega)) ?_
 ·rintro k s hk e hI
  subst e
  rw [kR hk,aP]
  have hx:l[k]? =some l[k]:=aN hk
  refine Ok.ix hx (Ok.bif (fun hb=>Ok.rt ⟨rfl,?_⟩) (fun hb=>Ok.nx ⟨bR (by omega),fun j x hj hx'=>?_⟩))
  ·rw [beq_iff_eq] at hb
   exact hb▸cN hk
  ·by_cases e:j=k
   ·subst e;rw [hx] at hx';injection hx' with hx';rw [<-hx'];exact beq_eq_false_iff_ne.1 hb
   ·exact hI j x (by omega) hx'
 ·rintro s e hI
  subst e
  rw [ng,aR]
  refine Ok.br fun hc=>?_
  obtain⟨j,hj⟩:=dN hc
  exact hI j c (bA.1 hj).1 hj rfl
 intro o ho
 exact Ok.cs ho (fun s hs=>Ok.ret (bY hs).symm) (fun r hr=>Ok.ret (by rw [hr.1,bU hr.2]))
theorem H6 {p q:aI} (hp:p.X0<p.X1/\p.Y0<p.Y1) (hq:q.X0<q.X1/\q.Y0<q.Y1):qc p q=decide ((0<min p.X1 q.X1 - max p.X0 q.X0/\min p.Y1 q.Y1 - max p.Y0 q.Y0=0)\/(min p.X1 q.X1 - max p.X0 q.X0=0/\0<min p.Y1 q.Y1 - max p.Y0 q.Y0)):=by
 unfold qc
 rw [eN]
 simp only [dI,bW,bO,beq_iff_eq]
 constructor
 ·rintro(h | h)
  ·left;omega
  ·right;omega
 ·rintro(h | h)
  ·left;omega
  ·right;omega
theorem I3 {l:List aI} {q:aI} (hl:l.length<=1000000000) (ho: ∀r∈l,A7 r) (hq:A7 q) (hN:4398046511104<=N):jf N l q=some (l.any (fun r=>qc r q)):=by
 refine Ok.get ?_
 unfold jf
 refine Ok.bind (Ok.pF (n:=l.length) (fun s=>s) (fun k _=>∀(j:Nat) x,j<k->l[j]? =some x->qc x q=false) (Go:=fun _=>l.any (fun r=>qc r q)=false) (Rt:=fun r=>r=true/\l.any (fun r=>qc r q)=true) ?_ ?_ (dJ _) rfl (fun j x hj=>by omega) (by omega)) ?_
 ·rintro k s hk e hI
  subst e
  rw [kR hk,aP]
  have hx:l[k]? =some l[k]:=aN hk
  have hr:=ho _ (cN hk)
  have hb:=H6 (p:=l[k]) (q:=q) ⟨hr.x,hr.y⟩ ⟨hq.x,hq.y⟩
  have a1:=hr.s1;have a2:=hr.s2;have a3:=hr.s3;have a4:=hr.s4
  have b1:=hq.s1;have b2:=hq.s2;have b3:=hq.s3;have b4:=hq.s4
  unfold small at a1 a2 a3 a4 b1 b2 b3 b4
  refine Ok.ix hx (Ok.ix hx (Ok.ix hx (Ok.ix hx ?_)))
  rw [tG,tG,tH,tH,eR (x:=min l[k].X1 q.X1 - max l[k].X0 q.X0) (by omega) (by omega),eR (x:=min l[k].Y1 q.Y1 - max l[k].Y0 q.Y0) (by omega) (by omega)]
  have e: ((decide (min l[k].X1 q.X1 - max l[k].X0 q.X0>0)&&(min l[k].Y1 q.Y1 - max l[k].Y0 q.Y0==0))||((min l[k].X1 q.X1 - max l[k].X0 q.X0==0)&&decide (min l[k].Y1 q.Y1 - max l[k].Y0 q.Y0>0)))=qc l[k] q:=by
   rw [hb,eN]
   simp only [dI,bW,bO,beq_iff_eq,gt_iff_lt]
  rw [e]
  refine Ok.bif (fun h=>Ok.rt ⟨rfl,kl.2 ⟨_,cN hk,h⟩⟩) (fun h=>Ok.nx ⟨bR (by omega),fun j x hj hx'=>?_⟩)
  by_cases e:j=k
  ·subst e;rw [hx] at hx';injection hx' with hx';rw [<-hx'];exact h
  ·exact hI j x (by omega) hx'
 ·rintro s e hI
  subst e
  rw [ng,aR]
  refine Ok.br ?_
  rw [List.any_eq_false]
  intro x hx
  obtain⟨j,hj⟩:=dN hx
  rw [hI j x (bA.1 hj).1 hj];exact mU
 intro o ho
 exact Ok.cs ho (fun s hs=>Ok.ret hs.symm) (fun r hr=>Ok.ret (by rw [hr.1,hr.2]))
theorem yI (r:List aI) (p:jr):y4 r p=sH r p.X p.Y:=by
 unfold y4 sH
 congr 1
 funext x
 rw [eN]
 simp only [bW,bO,ge_iff_le,and_assoc]
theorem ze {r:List aI} {p:jr} (hl:r.length<=134217728) (hr: ∀x∈r,x.X0<x.X1) (hN:4398046511104<=N):eO N r p=some (y4 r p):=by
 refine Ok.get ?_
 unfold eO
 refine Ok.bind (Cy hl hN) fun s hs=>?_
 have hsl:s.length<=r.length:=by have:=qW r p.Y;rw [<-hs,cY] at this;exact this
 refine Ok.eq (yC (by omega) hN) (Ok.ret ?_)
 rw [hs,(sV hr p.Y).2,yI]
def H7 (bs:List bZ) (pcs:List aK) (l:eM):Option j8:=match pcs.findIdx? (kP l) with
 | some k=>some ⟨false,((k:Nat):Int)⟩
 | none=>(bs.findIdx? (lz l)).map fun k=>⟨true,((k:Nat):Int)⟩
theorem I4 {bs:List bZ} {pcs:List aK} {l:eM} (hd: ∀b∈bs,∀p∈pcs,lz l b=true->kP l p=true->False):H7 bs pcs l=zp bs pcs l:=by
 unfold H7 zp
 cases h1:pcs.findIdx? (kP l) with
 | none=>cases bs.findIdx? (lz l) <;> rfl
 | some k=>
  cases h2:bs.findIdx? (lz l) with
  | none=>rfl
  | some j=>
   obtain⟨hk,hp,_⟩:=List.findIdx?_eq_some_iff_getElem.1 h1
   obtain⟨hj,hb,_⟩:=List.findIdx?_eq_some_iff_getElem.1 h2
   exact(hd _ (cN hj) _ (cN hk) hb hp).elim
theorem A4 {α:Type} {l:List α} {p:α->Bool} {k:Nat} {x:α} (hx:l[k]? =some x) (hp:p x=true) (hn: ∀(j:Nat) y,j<k->l[j]? =some y->p y=false):l.findIdx? p=some k:=by
 obtain⟨hk,rfl⟩:=bA.1 hx
 rw [List.findIdx?_eq_some_iff_getElem]
 exact⟨hk,hp,fun j hj=>by rw [hn j _ hj (aN _)];exact mU⟩
theorem A5 {α:Type} {l:List α} {p:α->Bool} (hn: ∀(j:Nat) y,j<l.length->l[j]? =some y->p y=false):l.findIdx? p=none:=by
 rw [List.findIdx?_eq_none_iff]
 intro x hx
 obtain⟨j,hj⟩:=dN hx
 exact hn j x (bA.1 hj).1 hj
theorem GL {bs:List bZ} {pcs:List aK} (hb:kB bs) (hp:pcs.length<=1000000) (hr: ∀p∈pcs,p.iJ.length<=1000000/\∀x∈p.iJ,x.X0<x.X1) (l:eM) (hN:4398046511104<=N):
  fF N bs (pcs.map aK.cT) (pcs.map aK.iJ) l=some ((H7 bs pcs l).getD ⟨false,0⟩,(H7 bs pcs l).isSome):=by
 refine Ok.get ?_
 have hbl:=hb.len
 unfold fF H7
 rw [cY]
 refine Ok.bind (Ok.pF (n:=pcs.length) (fun s=>s) (fun k _=>∀(j:Nat) x,j<k->pcs[j]? =some x->kP l x=false) (Go:=fun _=>pcs.findIdx? (kP l)=none) (Rt:=fun r=>∃k:Nat,pcs.findIdx? (kP l)=some k/\r= (⟨false,((k:Nat):Int)⟩,true)) ?_ ?_ (dJ _) rfl (fun j x hj=>by omega) (by omega)) ?_
 ·rintro k s hk e hI
  subst e
  rw [kR hk,aP]
  have hx:pcs[k]? =some pcs[k]:=aN hk
  have hlx: (pcs.map aK.cT)[k]? =some pcs[k].cT:=by rw [gC,hx];rfl
  have hrx: (pcs.map aK.iJ)[k]? =some pcs[k].iJ:=by rw [gC,hx];rfl
  have hrl:=hr _ (cN hk)
  have hcond: ((idx (pcs.map aK.cT) ((k:Nat):Int)).bind fun x88=>bif (x88==l.cT) then ((idx (pcs.map aK.iJ) ((k:Nat):Int)).bind fun x91=>(eO N x91 l.At).bind fun x95=>some x95) else (some false))=some (kP l pcs[k]):=by
   rw [dU hlx,aB,dU hrx,aB,ze (by omega) hrl.2 hN,aB]
   unfold kP
   cases pcs[k].cT==l.cT <;> rfl
  refine Ok.eq hcond (Ok.bif (fun h=>Ok.rt ⟨k,A4 hx h hI,rfl⟩) (fun h=>Ok.nx ⟨bR (by omega),fun j x hj hx'=>?_⟩))
  by_cases e:j=k
  ·subst e;rw [hx] at hx';injection hx' with hx';rw [<-hx'];exact h
  ·exact hI j x (by omega) hx'
 ·rintro s e hI
  subst e
  rw [ng,aR]
  exact Ok.br (A5 hI)
 intro o ho
 refine Ok.cs ho ?_ (fun r hr=>by obtain⟨k,h1,h2⟩:=hr;rw [h1,h2];exact Ok.ret rfl)
 intro _ hno
 rw [hno]
 dsimp only
 refine Ok.bind (Ok.pF (n:=bs.length) (fun s=>s) (fun k _=>∀(j:Nat) x,j<k->bs[j]? =some x->lz l x=false) (Go:=fun _=>bs.findIdx? (lz l)=none) (Rt:=fun r=>∃k:Nat,bs.findIdx? (lz l)=some k/\r= (⟨true,((k:Nat):Int)⟩,true)) ?_ ?_ (dJ _) rfl (fun j x hj=>by omega) (by omega)) ?_
 ·rintro k s hk e hI
  subst e
  rw [kR hk,aP]
  have hx:bs[k]? =some bs[k]:=aN hk
  have hg:=hb.ok _ (cN hk)
  have hcond: ((idx bs ((k:Nat):Int)).bind fun x301=>bif x301.fS then ((idx bs ((k:Nat):Int)).bind fun x305=>(eV N x305 l.cT).bind fun x308=>bif x308 then ((idx bs ((k:Nat):Int)).bind fun x310=>(cH N x310).bind fun x313=>(eO N ([x313]: (List aI)) l.At).bind fun x317=>some x317) else (some false)) else (some false))=some (lz l bs[k]):=by
   rw [dU hx,aB,aB,tL,aB,aB,l7 hg.1,aB,ze (by simp) (fun x hx=>by simp at hx;subst hx;exact(sq_pos hg.1).1) hN,aB]
   unfold lz
   cases bs[k].fS with
   | false=>rfl
   | true=>cases jW bs[k] l.cT <;> rfl
  refine Ok.eq hcond (Ok.bif (fun h=>Ok.rt ⟨k,A4 hx h hI,rfl⟩) (fun h=>Ok.nx ⟨bR (by omega),fun j x hj hx'=>?_⟩))
  by_cases e:j=k
  ·subst e;rw [hx] at hx';injection hx' with hx';rw [<-hx'];exact h
  ·exact hI j x (by omega) hx'
 ·rintro s e hI
  subst e
  rw [ng,aR]
  exact Ok.br (A5 hI)
 intro o ho
 exact Ok.cs ho (fun _ h=>Ok.ret (by rw [h];rfl)) (fun r hr=>by obtain⟨k,h1,h2⟩:=hr;rw [h1,h2];exact Ok.ret rfl)
end
section
variable {N:Nat} {a:kT} {nu:List (List aA)} {iq:List (List (List aA))} {r:Nat->Nat} {gs:List cF} {ofP ofB vo:List Int} {vY:List j8}
theorem xV (b:rV a nu iq r gs ofP ofB vo vY) {p:aK} (hp:p∈fD 0 iq):p.iJ.length<=2000/\(∀q∈p.iJ,fC q=true/\q.X0<q.X1/\q.Y0<q.Y1)/\∃i:Nat,p.cT= ((i:Nat):Int)/\∀x y,sH p.iJ x y=true->sH (j4 a.aO ((i:Nat):Int)) x y=false:=by
 obtain⟨i,ps,q,h1,h2,rfl⟩:=yA hp
 have hil:i<a.aJ.length:=by have:=(bA.1 h1).1;rw [b.dr.zo] at this;exact this
 obtain⟨s,ps',u,g1,g2,L⟩:=zb b hil
 rw [h1] at g2;injection g2 with g2;subst g2
 obtain⟨k1,k2,k3⟩:=L.part h2
 refine⟨k2,k3,i,by simp,fun x y h=>?_⟩
 have h3:sH (ps.flatMap aS) x y=true:=za.2 ⟨q,h2,h⟩
 rw [L.cover,L.dr.cover,bW,Bool.not_eq_true'] at h3
 exact h3.2
theorem FV (b:rV a nu iq r gs ofP ofB vo vY) (l:eM): ∀x∈a.aO,∀p∈fD 0 iq,lz l x=true->kP l p=true->False:=fun x hx p hp h1 h2=>by
 obtain⟨_,_,i,e,hc⟩:=xV b hp
 unfold lz at h1
 unfold kP at h2
 rw [bW,bW,yI] at h1
 rw [bW,yI,beq_iff_eq] at h2
 have h3:=hc _ _ h2.2
 rw [<-e,h2.1] at h3
 obtain⟨q,hq,hxy⟩:=iT.1 h1.2.2
 simp at hq
 subst hq
 have h4:sH (j4 a.aO l.cT) l.At.X l.At.Y=true:=iT.2 ⟨ui x,dG.2 ⟨x,jH.2 ⟨hx,h1.2.1⟩,rfl⟩,hxy⟩
 rw [h3] at h4;cases h4
end
end Go.Gk
namespace Go.Gk
open Go Classical
structure PS (n:Nat) (r:Nat->Nat) (h:Nat) (q:List Nat) (seen:List Bool) (pieces todo:List Int):Prop where
 sl:seen.length=n
 sn: ∀p,p<n->seen[p]? =some (decide (r p<h\/p∈q))
 qn:q.Nodup
 qi: ∀p∈q,p<n/\r p=h
 q0:h∈q
 td:todo=ints q
 pi:jD pieces
 pm: ∀x,x∈pieces↔∃p∈q,x= ((p:Nat):Int)
structure QS (n m:Nat) (tch:List (List Int)) (r:Nat->Nat) (h:Nat) (q qb:List Nat) (xO:List Int) (used:List Bool):Prop where
 ul:used.length=m
 un: ∀k,k<m->used[k]? =some (decide (k∈qb))
 bi:jD xO
 bm: ∀x,x∈xO↔∃k∈qb,x= ((k:Nat):Int)
 bk: ∀k∈qb,k<m/\r (n+k)=h/\∀l,tch[k]? =some l->∀p:Nat,((p:Nat):Int)∈l->p∈q
theorem PS.yZ {n:Nat} {r:Nat->Nat} {h:Nat} {q:List Nat} {seen:List Bool} {pieces todo:List Int} (H:PS n r h q seen pieces todo):q.length<=n/\pieces.length<=n:=by
 have h1:=fN H.qn (m:=List.range n) (fun k hk=>by rw [rm];exact(H.qi k hk).1)
 rw [List.length_range] at h1
 have h2:=fN H.pi.nodup (m:=ints q) (fun x hx=>pE.2 ((H.pm x).1 hx))
 rw [lx] at h2
 exact⟨h1,by omega⟩
theorem QS.yZ {n m:Nat} {tch:List (List Int)} {r:Nat->Nat} {h:Nat} {q qb:List Nat} {xO:List Int} {used:List Bool} (H:QS n m tch r h q qb xO used):xO.length<=m:=by
 have h2:=fN H.bi.nodup (m:=ints (List.range m)) (fun x hx=>by
  obtain⟨k,hk,e⟩:=(H.bm x).1 hx
  exact pE.2 ⟨k,rm.2 (H.bk k hk).1,e⟩)
 rwa [lx,List.length_range] at h2
theorem Kh (n t:Nat) (r:Nat->Nat) (h:Nat):jD (ints (gP n (cls t r h))):=Eb (List.Pairwise.sublist (List.filter_sublist.trans List.filter_sublist) (List.pairwise_lt_range (n:=t)))
theorem H8 (bs:List bZ) (n t:Nat) (r:Nat->Nat) (h:Nat):jD (ints (gB bs n (cls t r h))):=by
 refine Eb ?_
 unfold gB
 rw [List.pairwise_map]
 have hp: (List.filter (fun i=> !decide (i<n)&&sR bs (i - n)) (cls t r h)).Pairwise (· < ·):=List.Pairwise.sublist (List.filter_sublist.trans List.filter_sublist) (List.pairwise_lt_range (n:=t))
 refine hp.imp_of_mem fun{a b} ha hb hab=>?_
 have h1:=(jH.1 ha).2
 rw [bW,Bool.not_eq_true',decide_eq_false_iff_not] at h1
 omega
theorem CF {n t:Nat} {r:Nat->Nat} {h p:Nat}:p∈gP n (cls t r h)↔p<n/\p<t/\r p=h:=by
 unfold gP
 rw [jH,o9,bO]
 constructor
 ·rintro⟨⟨h1,h2⟩,h3⟩;exact⟨h3,h1,h2⟩
 ·rintro⟨h3,h1,h2⟩;exact⟨⟨h1,h2⟩,h3⟩
theorem yJ {bs:List bZ} {n t:Nat} {r:Nat->Nat} {h k:Nat}:k∈gB bs n (cls t r h)↔n+k<t/\r (n+k)=h/\sR bs k=true:=by
 unfold gB
 rw [dG]
 constructor
 ·rintro⟨i,hi,rfl⟩
  rw [jH,o9,bW,Bool.not_eq_true',decide_eq_false_iff_not] at hi
  have e:n+ (i - n)=i:=by omega
  rw [e]
  exact⟨hi.1.1,hi.1.2,hi.2.2⟩
 ·rintro⟨h1,h2,h3⟩
  refine⟨n+k,?_,by omega⟩
  rw [jH,o9,bW,Bool.not_eq_true',decide_eq_false_iff_not,Nat.add_sub_cancel_left]
  exact⟨⟨h1,h2⟩,by omega,h3⟩
section
variable {N:Nat}
theorem Ec {bs:List bZ} {n m:Nat} {tch:List (List Int)} {r:Nat->Nat} (hC:IY n m tch r) (hm:tch.length=m) (ht: ∀l∈tch,l.length<=1073741824/\∀x∈l,∃i:Nat,i<n/\x= ((i:Nat):Int)) (hn:n<=1000000) (hm2:m<=1000000)
  (hpl: ∀(k:Nat) l,tch[k]? =some l->l≠[]->sR bs k=true) {h:Nat} (hh:h<n) (hr:r h=h) {seen:List Bool} (hsl:seen.length=n) (hsn: ∀p,p<n->seen[p]? =some (decide (r p<h))) (hN:4398046511104<=N):
  Ok (gv N tch ((h:Nat):Int) seen) (fun x=>x.1.1=ints (gP n (cls (n+m) r h))/\x.1.2.1=ints (gB bs n (cls (n+m) r h))/\x.1.2.2= []/\x.2.length=n/\∀p,p<n->x.2[p]? =some (decide (r p<h+1))):=by
 unfold gv
 refine Ok.ix (hsn h hh) (Ok.eq (rz false (by omega)) ?_)
 refine Ok.bind (Ok.jw (Go:=fun st=>st.2.1=ints (gP n (cls (n+m) r h))/\st.2.2.1=ints (gB bs n (cls (n+m) r h))/\st.1.length=n/\∀p,p<n->st.1[p]? =some (decide (r p<h+1))) (Rt:=fun _=>False)
  (fun st=>∃(q qb:List Nat) (t:Nat),st.2.2.2.2.2= ((t:Nat):Int)/\t<=q.length/\PS n r h q st.1 st.2.1 st.2.2.2.2.1/\QS n m tch r h q qb st.2.2.1 st.2.2.2.1/\∀(j p k:Nat) l,j<t->q[j]? =some p->tch[k]? =some l->((p:Nat):Int)∈l->k∈qb)
  (fun st=>n+1 - st.2.2.2.2.2.toNat) ?_ ⟨[h],[],0,rfl,by simp,?_,?_,fun j p k l hj=>by omega⟩ (by simp;omega)) ?_
 ·rintro⟨sn,pi,bo,us,td,t'⟩ ⟨q,qb,t,e,htq,hP,hQ,hcl⟩
  dsimp only at e hP hQ ⊢
  subst e
  have htl:td.length=q.length:=by rw [hP.td,lx]
  have hqf:=hP.yZ
  by_cases hlt:t<q.length
  ·rw [kR (by omega:t<td.length),aP]
   have hqt:q[t]? =some q[t]:=aN hlt
   have hqi:=hP.qi _ (cN hlt)
   refine Ok.bind (Ok.pF (n:=tch.length) (fun st=>st.2.2.2.2.2) (fun i st=>∃q' qb',q <+:q'/\(∀k∈qb,k∈qb')/\PS n r h q' st.1 st.2.1 st.2.2.2.2.1/\QS n m tch r h q' qb' st.2.2.1 st.2.2.2.1/\∀k l,k<i->tch[k]? =some l->((q[t]:Nat):Int)∈l->k∈qb')
    (Go:=fun st=>∃q' qb',q <+:q'/\(∀k∈qb,k∈qb')/\PS n r h q' st.1 st.2.1 st.2.2.2.2.1/\QS n m tch r h q' qb' st.2.2.1 st.2.2.2.1/\∀k l,tch[k]? =some l->((q[t]:Nat):Int)∈l->k∈qb') (Rt:=fun _=>False) ?_ ?_ (dJ _) rfl
    ⟨q,qb,List.prefix_refl _,fun k hk=>hk,hP,hQ,fun k l hk=>by omega⟩ (by omega)) ?_
   ·rintro k ⟨sn1,pi1,bo1,us1,td1,i'⟩ hk e ⟨q1,qb1,hpre,hsub,hP1,hQ1,hc1⟩
    dsimp only at e hP1 hQ1 ⊢
    subst e
    rw [kR hk,aP]
    have hkm:k<m:=by omega
    have htk:tch[k]? =some tch[k]:=aN hk
    have htk2:=ht _ (cN hk)
    have hq1t:td1[t]? =some ((q[t]:Nat):Int):=by
     rw [hP1.td];unfold ints;rw [gC,yF hpre hqt];rfl
    have hcond: ((idx us1 ((k:Nat):Int)).bind fun x948=>bif x948 then (some true) else ((idx tch ((k:Nat):Int)).bind fun x950=>(idx td1 ((t:Nat):Int)).bind fun x953=>(cE N x950 x953).bind fun x954=>some (!x954)))=some (decide (k∈qb1)|| !decide (((q[t]:Nat):Int)∈tch[k])):=by
     rw [dU (hQ1.un k hkm),aB,dU htk,aB,dU hq1t,aB,tM (l:=tch[k]) (c:=((q[t]:Nat):Int)) (by have:=htk2.1;omega) hN,aB]
     cases decide (k∈qb1) <;> rfl
    refine Ok.eq hcond (Ok.bif (fun hb=>Ok.nx ⟨bR (by omega),q1,qb1,hpre,hsub,hP1,hQ1,fun k' l hk' hl hm'=>?_⟩) (fun hb=>?_))
    ·by_cases e:k'=k
     ·subst e
      rw [htk] at hl;injection hl with hl
      rw [hl,bU hm',mV,Bool.or_false,bO] at hb
      exact hb
     ·exact hc1 k' l (by omega) hl hm'
    ·rw [Bool.or_eq_false_iff,decide_eq_false_iff_not,Bool.not_eq_false',bO] at hb
     obtain⟨hkn,hqm⟩:=hb
     have hrk:r (n+k)=h:=by rw [<-hC.co q[t] (n+k) ⟨k,_,htk,hqm,rfl⟩];exact hqi.2
     have hbf:=hQ1.yZ
     refine Ok.ix (hQ1.un k hkm) (Ok.eq (A3 hQ1.bi (by omega) hN) ?_)
     refine Ok.bind (Ok.pF (n:=tch[k].length) (fun st=>st.2.2.2) (fun i st=>∃q2,q1 <+:q2/\PS n r h q2 st.1 st.2.1 st.2.2.1/\∀(j p:Nat),j<i->tch[k][j]? =some ((p:Nat):Int)->p∈q2)
      (Go:=fun st=>∃q2,q1 <+:q2/\PS n r h q2 st.1 st.2.1 st.2.2.1/\∀(p:Nat),((p:Nat):Int)∈tch[k]->p∈q2) (Rt:=fun _=>False) ?_ ?_ (dJ _) rfl ⟨q1,List.prefix_refl _,hP1,fun j p hj=>by omega⟩ (by omega)) ?_
     ·rintro j ⟨sn2,pi2,td2,jj⟩ hj e ⟨q2,hpre2,hP2,hc2⟩
      dsimp only at e hP2 ⊢
      subst e
      have hlj:tch[k][j]? =some tch[k][j]:=aN hj
      obtain⟨p,hpn,hpe⟩:=htk2.2 _ (cN hj)
      rw [hpe] at hlj
      have hpf:=hP2.yZ
      have hrp:r p=h:=by rw [hC.co p (n+k) ⟨k,_,htk,eW hlj,rfl⟩];exact hrk
      refine Ok.ix htk ?_
      rw [kR hj,aP]
      refine Ok.ix htk (Ok.ix hlj (Ok.ix (hP2.sn p hpn) ?_))
      refine Ok.bind (P:=fun st:List Bool×List Int×List Int=>∃q2,q1 <+:q2/\PS n r h q2 st.1 st.2.1 st.2.2/\∀(j' p:Nat),j'<j+1->tch[k][j']? =some ((p:Nat):Int)->p∈q2) (Ok.bif (fun hb=>?_) (fun hb=>Ok.ret ⟨q2,hpre2,hP2,fun j' p' hj' hp'=>?_⟩)) (fun st hst=>Ok.nx ⟨bR (by omega),hst⟩)
      ·have hpq:p∉q2:=by
        rw [Bool.not_eq_true',decide_eq_false_iff_not] at hb
        exact fun h=>hb (.inr h)
       refine Ok.ix (hP2.sn p hpn) (Ok.eq (A3 hP2.pi (by omega) hN) (Ok.app (by rw [hP2.td,lx];simp only [dR,List.length_nil];omega) (Ok.ret ⟨q2++[p],hpre2.trans (List.prefix_append _ _),⟨?_,?_,?_,?_,?_,?_,?_,?_⟩,?_⟩)))
       ·rw [i5];exact hP2.sl
       ·intro p' hp'
        rw [cJ,fz]
        by_cases e:p=p'
        ·subst e
         rw [aC rfl,aC (by rw [hP2.sl];exact hpn)]
         congr 1
         exact(bU (.inr (by simp))).symm
        ·rw [aG e,hP2.sn p' hp']
         congr 1
         rw [decide_eq_decide,dA]
         simp only [rn]
         constructor
         ·exact fun h=>h.elim .inl (fun h=> .inr (.inl h))
         ·exact fun h=>h.elim .inl (fun h=>h.elim .inr (fun h=>absurd h.symm e))
       ·rw [List.nodup_append]
        exact⟨hP2.qn,by simp,fun a ha b hb=>by simp at hb;subst hb;exact fun e=>hpq (e▸ha)⟩
       ·intro p' hp'
        rcases dA.1 hp' with hp' | hp'
        ·exact hP2.qi p' hp'
        ·simp at hp';subst hp';exact⟨hpn,hrp⟩
       ·exact List.mem_append_left _ hP2.q0
       ·dsimp only;rw [hP2.td,pD];rfl
       ·exact sT hP2.pi
       ·intro x
        rw [AM,hP2.pm]
        constructor
        ·rintro(⟨p',h1,h2⟩ | h1)
         ·exact⟨p',List.mem_append_left _ h1,h2⟩
         ·exact⟨p,by simp,h1⟩
        ·rintro⟨p',h1,h2⟩
         rcases dA.1 h1 with h1 | h1
         ·exact .inl ⟨p',h1,h2⟩
         ·simp at h1;subst h1;exact .inr h2
       ·intro j' p' hj' hp'
        by_cases e:j'=j
        ·subst e;rw [hlj] at hp';injection hp' with hp'
         have:p'=p:=by omega
         subst this;simp
        ·exact List.mem_append_left _ (hc2 j' p' (by omega) hp')
      ·by_cases e:j'=j
       ·subst e;rw [hlj] at hp';injection hp' with hp'
        have:p'=p:=by omega
        subst this
        rw [Bool.not_eq_false',bO] at hb
        rcases hb with hb | hb
        ·omega
        ·exact hb
       ·exact hc2 j' p' (by omega) hp'
     ·rintro⟨sn2,pi2,td2,jj⟩ e ⟨q2,hpre2,hP2,hc2⟩
      dsimp only at e hP2 ⊢
      subst e
      refine Ok.ix htk ?_
      rw [ng,aR]
      refine Ok.br ⟨q2,hpre2,hP2,fun p hp=>?_⟩
      obtain⟨j,hj⟩:=dN hp
      exact hc2 j p (bA.1 hj).1 hj
     intro o ho
     refine Ok.cs ho ?_ (fun r hr=>hr.elim)
     rintro⟨sn2,pi2,td2,jj⟩ ⟨q2,hpre2,hP2,hc2⟩
     dsimp only at hP2 ⊢
     refine Ok.nx ⟨bR (by omega),q2,qb1++[k],hpre.trans hpre2,fun k' hk'=>List.mem_append_left _ (hsub k' hk'),hP2,⟨?_,?_,?_,?_,?_⟩,fun k' l hk' hl hm'=>?_⟩
     ·rw [i5];exact hQ1.ul
     ·intro k' hk'
      rw [cJ,fz]
      by_cases e:k=k'
      ·subst e
       rw [aC rfl,aC (by rw [hQ1.ul];exact hkm)]
       congr 1
       exact(bU (by simp)).symm
      ·rw [aG e,hQ1.un k' hk']
       congr 1
       rw [decide_eq_decide,dA]
       simp only [rn]
       exact⟨.inl,fun h=>h.elim id (fun h=>absurd h.symm e)⟩
     ·exact sT hQ1.bi
     ·intro x
      rw [AM,hQ1.bm]
      constructor
      ·rintro(⟨p',h1,h2⟩ | h1)
       ·exact⟨p',List.mem_append_left _ h1,h2⟩
       ·exact⟨k,by simp,h1⟩
      ·rintro⟨p',h1,h2⟩
       rcases dA.1 h1 with h1 | h1
       ·exact .inl ⟨p',h1,h2⟩
       ·simp at h1;subst h1;exact .inr h2
     ·intro k' hk'
      rcases dA.1 hk' with hk' | hk'
      ·obtain⟨h1,h2,h3⟩:=hQ1.bk k' hk'
       exact⟨h1,h2,fun l hl p hp=>hpre2.subset (h3 l hl p hp)⟩
      ·simp at hk';subst hk'
       refine⟨hkm,hrk,fun l hl p hp=>?_⟩
       rw [htk] at hl;injection hl with hl
       exact hc2 p (by rw [hl];exact hp)
     ·by_cases e:k'=k
      ·subst e;simp
      ·exact List.mem_append_left _ (hc1 k' l (by omega) hl hm')
   ·rintro⟨sn1,pi1,bo1,us1,td1,i'⟩ e ⟨q1,qb1,hpre,hsub,hP1,hQ1,hc1⟩
    dsimp only at e hP1 hQ1 ⊢
    subst e
    rw [ng,aR]
    exact Ok.br ⟨q1,qb1,hpre,hsub,hP1,hQ1,fun k l hl=>hc1 k l (bA.1 hl).1 hl⟩
   intro o ho
   refine Ok.cs ho ?_ (fun r hr=>hr.elim)
   rintro⟨sn1,pi1,bo1,us1,td1,i'⟩ ⟨q1,qb1,hpre,hsub,hP1,hQ1,hc1⟩
   dsimp only at hP1 hQ1 ⊢
   refine Ok.nx ⟨⟨q1,qb1,t+1,bR (by omega),by have:=hpre.length_le;omega,hP1,hQ1,fun j p k l hj hjp hl hm'=>?_⟩,?_⟩
   ·by_cases e:j=t
    ·subst e
     rw [yF hpre hqt] at hjp;injection hjp with hjp;subst hjp
     exact hc1 k l hl hm'
    ·have hjq:q[j]? =some (q[j]'(by omega)):=aN _
     rw [yF hpre hjq] at hjp;injection hjp with hjp;subst hjp
     exact hsub k (hcl j _ k l (by omega) hjq hl hm')
   ·rw [bR (by omega)];simp only [cJ];omega
  ·rw [xR (by omega:td.length<=t),aR]
   have htq':t=q.length:=by omega
   have hclosed: ∀i j,Lk n tch i j->(((i<n/\i∈q)\/∃k,k∈qb/\i=n+k)↔((j<n/\j∈q)\/∃k,k∈qb/\j=n+k)):=by
    rintro i j ⟨k,l,hl,hil,rfl⟩
    obtain⟨i',hi',ei⟩:=(ht l (eW hl)).2 _ hil
    have:i'=i:=by omega
    subst this
    constructor
    ·rintro(⟨_,h1⟩ | ⟨k',_,h1⟩)
     ·obtain⟨p,hp⟩:=dN h1
      exact .inr ⟨k,hcl p i' k l (by rw [htq'];exact(bA.1 hp).1) hp hl hil,rfl⟩
     ·omega
    ·rintro(⟨h1,_⟩ | ⟨k',h1,h2⟩)
     ·omega
     ·have:k'=k:=by omega
      subst this
      exact .inl ⟨hi',(hQ.bk k' h1).2.2 l hl i' hil⟩
   have hall: ∀x,x<n+m->r x=h->(x<n/\x∈q)\/∃k,k∈qb/\x=n+k:=fun x hx hrx=>hC.fi _ hclosed h x (by omega) hx (by rw [hr,hrx]) (.inl ⟨hh,hP.q0⟩)
   refine Ok.br ⟨?_,?_,hP.sl,fun p hp=>?_⟩
   ·refine zG hP.pi (Kh _ _ _ _) fun x=>?_
    rw [hP.pm,pE]
    constructor
    ·rintro⟨p,h1,h2⟩
     exact⟨p,CF.2 ⟨(hP.qi p h1).1,by have:=(hP.qi p h1).1;omega,(hP.qi p h1).2⟩,h2⟩
    ·rintro⟨p,h1,h2⟩
     obtain⟨g1,g2,g3⟩:=CF.1 h1
     rcases hall p g2 g3 with ⟨_,g4⟩ | ⟨k,_,g4⟩
     ·exact⟨p,g4,h2⟩
     ·omega
   ·refine zG hQ.bi (H8 _ _ _ _ _) fun x=>?_
    rw [hQ.bm,pE]
    constructor
    ·rintro⟨k,h1,h2⟩
     obtain⟨g1,g2,g3⟩:=hQ.bk k h1
     refine⟨k,yJ.2 ⟨by omega,g2,?_⟩,h2⟩
     have hk:tch[k]? =some (tch[k]'(by omega)):=aN _
     refine hpl k _ hk fun hemp=>?_
     have hal: ∀i j,Lk n tch i j->((i=n+k)↔(j=n+k)):=by
      rintro i j ⟨k',l,hl,hil,rfl⟩
      obtain⟨i',hi',ei⟩:=(ht l (eW hl)).2 _ hil
      constructor
      ·intro;omega
      ·intro e
       have:k'=k:=by omega
       subst this
       rw [hk] at hl;injection hl with hl
       rw [<-hl,hemp] at hil;cases hil
     have:=hC.fi (fun x=>x=n+k) hal (n+k) h (by omega) (by omega) (by rw [g2,hr]) rfl
     omega
    ·rintro⟨k,h1,h2⟩
     obtain⟨g1,g2,_⟩:=yJ.1 h1
     rcases hall (n+k) g1 g2 with ⟨g4,_⟩ | ⟨k',g3,g4⟩
     ·omega
     ·have:k'=k:=by omega
      subst this
      exact⟨k',g3,h2⟩
   ·rw [hP.sn p hp]
    congr 1
    rw [decide_eq_decide]
    constructor
    ·rintro(h1 | h1)
     ·omega
     ·have:=(hP.qi p h1).2;omega
    ·intro h1
     by_cases e:r p=h
     ·rcases hall p (by omega) e with ⟨_,g4⟩ | ⟨k,_,g4⟩
      ·exact .inr g4
      ·omega
     ·exact .inl (by omega)
 ·refine⟨by rw [i5];exact hsl,fun p hp=>?_,by simp,fun p hp=>by simp at hp;subst hp;exact⟨hh,hr⟩,by simp,rfl,List.pairwise_singleton _ _,fun x=>by simp⟩
  rw [cJ,fz]
  by_cases e:h=p
  ·subst e
   rw [aC rfl,aC (by rw [hsl];exact hh)]
   congr 1
   exact(bU (.inr (by simp))).symm
  ·rw [aG e,hsn p hp]
   congr 1
   rw [decide_eq_decide]
   simp only [rn]
   omega
 ·exact⟨by rw [u6];exact hm,fun k hk=>by simp [hm,hk],jX,fun x=>by simp,fun k hk=>by cases hk⟩
 intro o ho
 refine Ok.cs ho ?_ (fun r hr=>hr.elim)
 rintro⟨sn,pi,bo,us,td,t'⟩ ⟨h1,h2,h3,h4⟩
 exact Ok.ret ⟨h1,h2,rfl,h3,h4⟩
end
end Go.Gk
namespace Go.Gk
open Go Classical
theorem B0 (bs:List bZ) (n t:Nat) (r:Nat->Nat) (hs:List Nat) (h:Nat):lA bs n t r (hs++[h])=if DQ bs n (cls t r h)=true then lA bs n t r hs++[JA bs n (cls t r h)] else lA bs n t r hs:=by
 unfold lA
 rw [BT]
 split
 ·rw [dO];rfl
 ·rfl
def I5 (bs:List bZ) (n m:Nat) (r:Nat->Nat) (h:j8):Nat:=gi bs n (n+m) r (r (lT n h))
structure Ki (G G':List cF):Prop where
 len:G'.length=G.length
 each: ∀(g:Nat) x,G[g]? =some x->∃y,G'[g]? =some y/\y.iZ=x.iZ/\y.aO=x.aO
theorem v7 (G:List cF) (lg:eM->Option Nat) (ls:List eM):Ki G (gh G lg ls):=
 ⟨xM _ _ _,fun g x hx=>⟨{x with gl:=(ls.filter (fun l=>decide (lg l=some g))).map jV},by rw [jv,hx];rfl,rfl,rfl⟩⟩
section
variable {N:Nat}
theorem A6 {bs:List bZ} {n m:Nat} {r:Nat->Nat} (hbm:bs.length=m) (hn:n<=1000000) (hm:m<=1000000) (hle: ∀i,i<n+m->r i<=i) (hrr: ∀i,i<n+m->r (r i)=r i) {G:List cF} (hG:Ki (lA bs n (n+m) r (bL (n+m) r)) G) {h:j8} (hh:JC bs n m h) (hN:4398046511104<=N):
  dT N G h=some ((I5 bs n m r h:Nat):Int)/\I5 bs n m r h<G.length:=by
 obtain⟨k,hk,hkb,hkp⟩:=hh.num
 have hx:lT n h<n+m:=by
  unfold lT
  by_cases hb:h.bZ=true
  ·rw [aC hb];have:=(hkb hb).1;omega
  ·rw [aG hb];have:=hkp (by simpa using hb);omega
 have hhead:r (lT n h)∈bL (n+m) r:=jq.2 ⟨by have:=hle _ hx;omega,hrr _ hx⟩
 have hne:DQ bs n (cls (n+m) r (r (lT n h)))=true:=by
  unfold lT at hx ⊢
  by_cases hb:h.bZ=true
  ·rw [aC hb] at hx ⊢
   rw [hk,cJ] at hx ⊢
   exact HU (hkb hb).2 hx
  ·rw [aG hb] at hx ⊢
   rw [hk,cJ] at hx ⊢
   exact HT (hkp (by simpa using hb)) hx
 obtain⟨g1,g2⟩:=JB (bs:=bs) (n:=n) hhead hne
 have hlen:G.length= (live bs n (n+m) r (bL (n+m) r)).length:=by rw [hG.len,sS]
 have hlive: (live bs n (n+m) r (bL (n+m) r)).Nodup:=List.Nodup.sublist List.filter_sublist (mO _ _)
 have hll: (live bs n (n+m) r (bL (n+m) r)).length<=n+m:=by
  have:=qd bs n (n+m) r (bL (n+m) r)
  have:=lu (n+m) r
  omega
 have hval: ∀(g:Nat) y,G[g]? =some y->Ok (bif h.bZ then ((idx G ((g:Nat):Int)).bind fun x241=>(cE N x241.aO h.Number).bind fun x250=>bif x250 then (some true) else (bif (!h.bZ) then ((idx G ((g:Nat):Int)).bind fun x253=>(cE N x253.iZ h.Number).bind fun x262=>some x262) else (some false))) else (bif (!h.bZ) then ((idx G ((g:Nat):Int)).bind fun x264=>(cE N x264.iZ h.Number).bind fun x273=>some x273) else (some false)))
   (fun b=>b=true↔(live bs n (n+m) r (bL (n+m) r))[g]? =some (r (lT n h))):=fun g y hy=>by
  have hgl:g< (live bs n (n+m) r (bL (n+m) r)).length:=by have:=(bA.1 hy).1;omega
  have hlx: (live bs n (n+m) r (bL (n+m) r))[g]? =some (live bs n (n+m) r (bL (n+m) r))[g]:=aN hgl
  have hgx: (lA bs n (n+m) r (bL (n+m) r))[g]? =some (JA bs n (cls (n+m) r (live bs n (n+m) r (bL (n+m) r))[g])):=by unfold lA;rw [gC,hlx];rfl
  obtain⟨y',hy',e1,e2⟩:=hG.each g _ hgx
  rw [hy] at hy';injection hy' with hy';subst hy'
  generalize hhd: (live bs n (n+m) r (bL (n+m) r))[g]=hd at *
  have hpl:y.iZ.length<=n+m/\y.aO.length<=n+m:=by
   have:=EY n (cls (n+m) r hd)
   have:=EZ bs n (cls (n+m) r hd)
   have:=zF (n+m) r hd
   rw [e1,e2];unfold JA;simp only [lx];omega
  rw [hlx]
  cases hb:h.bZ with
  | true=>
   rw [aP,dU hy,aB,tM (by omega) hN,aB]
   have hix:lT n h=n+k:=by unfold lT;rw [aC hb,hk,cJ]
   have hiff: (h.Number∈y.aO)↔hd=r (lT n h):=by
    rw [e2,hix]
    unfold JA
    dsimp only
    rw [pE,hk]
    constructor
    ·rintro⟨i,hi,e⟩
     have:i=k:=by omega
     subst this
     exact(yJ.1 hi).2.1.symm
    ·intro e
     exact⟨k,yJ.2 ⟨by have:=(hkb hb).1;omega,e.symm,(hkb hb).2⟩,rfl⟩
   by_cases hin:h.Number∈y.aO
   ·rw [bU hin,aP]
    exact Ok.ret ⟨fun _=>by rw [hiff.1 hin],fun _=>rfl⟩
   ·rw [bY hin,aR,mV,aR]
    refine Ok.ret ⟨fun h=>(by cases h),fun h=>?_⟩
    injection h with h
    exact absurd (hiff.2 h) hin
  | false=>
   rw [aR,o6,aP,dU hy,aB,tM (by omega) hN,aB]
   have hix:lT n h=k:=by unfold lT;rw [aG (by rw [hb];exact mU),hk,cJ]
   have hiff: (h.Number∈y.iZ)↔hd=r (lT n h):=by
    rw [e1,hix]
    unfold JA
    dsimp only
    rw [pE,hk]
    constructor
    ·rintro⟨i,hi,e⟩
     have:i=k:=by omega
     subst this
     exact(CF.1 hi).2.2.symm
    ·intro e
     exact⟨k,CF.2 ⟨hkp hb,by have:=hkp hb;omega,e.symm⟩,rfl⟩
   refine Ok.ret ?_
   rw [bO,hiff]
   exact⟨fun h=>by rw [h],fun h=>by injection h⟩
 refine⟨Ok.get ?_,by unfold I5;omega⟩
 unfold dT I5
 refine Ok.bind (Ok.pF (n:=G.length) (fun s=>s) (fun k _=>∀g,g<k->(live bs n (n+m) r (bL (n+m) r))[g]? ≠some (r (lT n h))) (Go:=fun _=>False) (Rt:=fun s=>s= ((gi bs n (n+m) r (r (lT n h)):Nat):Int)) ?_ ?_ (dJ _) rfl (fun g hg=>by omega) (by omega)) ?_
 ·rintro g s hg e hI
  subst e
  rw [kR hg,aP]
  refine Ok.bind (hval g _ (aN hg)) fun b hb=>?_
  cases b with
  | true=>
   refine Ok.rt ?_
   have:=yz hlive (hb.1 rfl) g2
   rw [this]
  | false=>
   refine Ok.nx ⟨bR (by omega),fun g' hg'=>?_⟩
   by_cases e:g'=g
   ·subst e;intro h;have:=hb.2 h;cases this
   ·exact hI g' (by omega)
 ·rintro s e hI
  exact absurd g2 (hI _ (by omega))
 intro o ho
 exact Ok.cs ho (fun _ h=>h.elim) (fun r hr=>Ok.ret hr)
theorem zf {bs:List bZ} {pcs:List aK} {r:Nat->Nat} (hb:kB bs) (hp:pcs.length<=1000000) (hpr: ∀p∈pcs,p.iJ.length<=1000000/\∀x∈p.iJ,x.X0<x.X1) (hd: ∀l:eM,∀b∈bs,∀p∈pcs,lz l b=true->kP l p=true->False)
  (hle: ∀i,i<pcs.length+bs.length->r i<=i) (hrr: ∀i,i<pcs.length+bs.length->r (r i)=r i) {G:List cF} (hG:Ki (lA bs pcs.length (pcs.length+bs.length) r (bL (pcs.length+bs.length) r)) G) (l:eM) (hN:4398046511104<=N):
  dL N bs (pcs.map aK.cT) (pcs.map aK.iJ) G l=some (FM bs pcs r l)/\∀g,zq bs pcs r l=some g->g<G.length:=by
 have hbl:=hb.len
 unfold dL FM zq
 rw [GL hb hp hpr l hN,aB,I4 (hd l)]
 cases hh:zp bs pcs l with
 | none=>exact⟨rfl,fun g h=>by cases h⟩
 | some h=>
  obtain⟨e1,e2⟩:=A6 (N:=N) rfl hp (by omega) hle hrr hG (HS hh) hN
  refine⟨?_,fun g hg=>?_⟩
  ·dsimp only [Option.getD_some,Option.isSome_some]
   rw [mV,aR,e1,aB];rfl
  ·rw [Option.map_some] at hg;injection hg with hg
   rw [<-hg];exact e2
theorem H9 {bs:List bZ} {pcs:List aK}: ∀(k:Nat) l,(j5 bs pcs)[k]? =some l->l≠[]->sR bs k=true:=fun k l hl hne=>by
 unfold j5 at hl
 rw [gC,rl] at hl
 obtain⟨b,hb,rfl⟩:=hl
 unfold sR
 rw [hb]
 cases hp:b.fS with
 | true=>simpa using hp
 | false=>
  exfalso
  refine hne ?_
  have:oj (gX b) pcs pcs.length= []:=by
   unfold oj
   rw [List.filter_eq_nil_iff]
   intro j _
   rw [iM,Option.any_eq_false]
   intro p _
   unfold gX;rw [hp];rfl
  rw [this];rfl
theorem GM {bs:List bZ} {ls:List eM} {pcs:List aK} {r:Nat->Nat} (hb:kB bs) (hp:pcs.length<=2000) (hl:ls.length<=1000000) (hpr: ∀p∈pcs,p.iJ.length<=1000000/\∀x∈p.iJ,x.X0<x.X1) (hd: ∀l:eM,∀b∈bs,∀p∈pcs,lz l b=true->kP l p=true->False)
  (hC:IY pcs.length bs.length (j5 bs pcs) r) (hN:4398046511104<=N):
  eT N bs ls (pcs.map aK.cT) (pcs.map aK.iJ) (j5 bs pcs)=some (gh (lA bs pcs.length (pcs.length+bs.length) r (bL (pcs.length+bs.length) r)) (zq bs pcs r) ls):=by
 refine Ok.get ?_
 have hbl:=hb.len
 have htl: (j5 bs pcs).length=bs.length:=by unfold j5;rw [cY]
 have hto:=DS (bs:=bs) (pcs:=pcs) (by omega)
 have hgl: ∀hs:List Nat,(lA bs pcs.length (pcs.length+bs.length) r hs).length<=hs.length:=fun hs=>by rw [sS];exact qd _ _ _ _ _
 unfold eT
 rw [cY]
 refine Ok.eq (rz false (by omega)) ?_
 refine Ok.bind (Ok.pF (n:=pcs.length) (fun st=>st.2.2) (fun i st=>st.1=lA bs pcs.length (pcs.length+bs.length) r (bL i r)/\st.2.1.length=pcs.length/\∀p,p<pcs.length->st.2.1[p]? =some (decide (r p<i)))
  (Go:=fun st=>st.1=lA bs pcs.length (pcs.length+bs.length) r (bL pcs.length r)) (Rt:=fun _=>False) ?_ ?_ (dJ _) rfl ⟨by simp [bL,lA,live],by simp,fun p hp=>by simp [hp]⟩ (by omega)) ?_
 ·rintro i ⟨G,sn,ii⟩ hi e ⟨hG,hsl,hsn⟩
  dsimp only at e hG hsl hsn ⊢
  subst e;subst hG
  rw [kR hi,aP]
  refine Ok.ix (hsn i hi) ?_
  refine Ok.bind (P:=fun st:List cF×List Bool=>st.1=lA bs pcs.length (pcs.length+bs.length) r (bL (i+1) r)/\st.2.length=pcs.length/\∀p,p<pcs.length->st.2[p]? =some (decide (r p<i+1))) (Ok.bif (fun hb=>?_) (fun hb=>Ok.ret ⟨?_,hsl,fun p hp=>?_⟩)) (fun st hst=>Ok.nx ⟨bR (by omega),hst⟩)
  ·rw [Bool.not_eq_true',decide_eq_false_iff_not] at hb
   have hri:r i=i:=by have:=hC.le i (by omega);omega
   refine Ok.bind (Ec (bs:=bs) hC htl hto (by omega) (by omega) H9 hi hri hsl hsn hN) fun x hx=>?_
   obtain⟨x1,x2,x3,x4,x5⟩:=hx
   have h1:=hgl (bL i r)
   have h2:=lu i r
   refine Ok.app (by simp only [dR,List.length_nil];omega) (Ok.ret ⟨?_,x4,x5⟩)
   dsimp only
   have hne:DQ bs pcs.length (cls (pcs.length+bs.length) r i)=true:=by
    have:=HT (bs:=bs) (r:=r) hi (show i<pcs.length+bs.length by omega)
    rwa [hri] at this
   rw [gx,aC hri,B0,aC hne,x1,x2,x3];rfl
  ·rw [Bool.not_eq_false',bO] at hb
   dsimp only
   rw [gx,aG (by omega)]
  ·rw [Bool.not_eq_false',bO] at hb
   rw [hsn p hp]
   congr 1
   rw [decide_eq_decide]
   have hne:r p≠i:=fun e=>by have:=hC.rr p (by omega);rw [e] at this;omega
   omega
 ·rintro⟨G,sn,ii⟩ e ⟨hG,_,_⟩
  dsimp only at e hG ⊢
  subst e
  rw [ng,aR]
  exact Ok.br hG
 intro o ho
 refine Ok.cs ho ?_ (fun r hr=>hr.elim)
 rintro⟨G,sn,ii⟩ hG
 dsimp only at hG ⊢
 subst hG
 rw [htl]
 have halone: ∀k,k<bs.length->(j5 bs pcs)[k]? =some []->∀x,x<pcs.length+bs.length->(r x=r (pcs.length+k)↔x=pcs.length+k):=fun k hk hemp x hx=>by
  constructor
  ·intro e
   refine hC.fi (fun y=>y=pcs.length+k) ?_ (pcs.length+k) x (by omega) hx e.symm rfl
   rintro i j ⟨k',l,hl,hil,rfl⟩
   obtain⟨i',hi',ei⟩:=(hto l (eW hl)).2 _ hil
   constructor
   ·intro;omega
   ·intro e
    have:k'=k:=by omega
    subst this
    rw [hemp] at hl;injection hl with hl
    rw [<-hl] at hil;cases hil
  ·intro e;rw [e]
 refine Ok.bind (Ok.pF (n:=bs.length) (fun st=>st.2) (fun i st=>st.1=lA bs pcs.length (pcs.length+bs.length) r (bL (pcs.length+i) r))
  (Go:=fun st=>st.1=lA bs pcs.length (pcs.length+bs.length) r (bL (pcs.length+bs.length) r)) (Rt:=fun _=>False) ?_ ?_ (dJ _) rfl rfl (by omega)) ?_
 ·rintro i ⟨G,ii⟩ hi e hG
  dsimp only at e hG ⊢
  subst e;subst hG
  rw [kR hi,aP]
  have hx:bs[i]? =some bs[i]:=aN hi
  have htx: (j5 bs pcs)[i]? =some ((j5 bs pcs)[i]'(by omega)):=aN _
  have hpi:sR bs i=bs[i].fS:=by unfold sR;rw [hx];rfl
  have hlen:=hgl (bL (pcs.length+i) r)
  have hhl:=lu (pcs.length+i) r
  have hcond: ((idx bs ((i:Nat):Int)).bind fun x210=>bif x210.fS then ((idx (j5 bs pcs) ((i:Nat):Int)).bind fun x214=>some ((x214.length:Int)==0)) else (some false))=some (sR bs i&&decide ((j5 bs pcs)[i]'(by omega)= [])):=by
   rw [dU hx,aB,dU htx,aB,hpi]
   cases bs[i].fS with
   | false=>rfl
   | true=>
    rw [aP,Bool.true_and]
    congr 1
    rw [eN,bO,beq_iff_eq]
    constructor
    ·intro h;exact List.eq_nil_of_length_eq_zero (by omega)
    ·intro h;rw [h];rfl
  refine Ok.eq hcond ?_
  have hstep:lA bs pcs.length (pcs.length+bs.length) r (bL (pcs.length+ (i+1)) r)=if (sR bs i&&decide ((j5 bs pcs)[i]'(by omega)= []))=true then lA bs pcs.length (pcs.length+bs.length) r (bL (pcs.length+i) r)++[⟨[],[((i:Nat):Int)],[]⟩] else lA bs pcs.length (pcs.length+bs.length) r (bL (pcs.length+i) r):=by
   rw [<-Nat.add_assoc,gx]
   by_cases hemp: (j5 bs pcs)[i]'(by omega)= []
   ·rw [hemp] at htx
    have hal:=halone i hi htx
    have hri:r (pcs.length+i)=pcs.length+i:=by
     have h1:=hC.le (pcs.length+i) (by omega)
     exact(hal _ (by omega)).1 (hC.rr _ (by omega))
    rw [aC hri,B0]
    have hcl: ∀x,x∈cls (pcs.length+bs.length) r (pcs.length+i)↔x=pcs.length+i:=fun x=>by
     rw [o9]
     constructor
     ·rintro⟨h1,h2⟩;exact(hal x h1).1 (by rw [h2,hri])
     ·intro h;subst h;exact⟨by omega,hri⟩
    have hgp:gP pcs.length (cls (pcs.length+bs.length) r (pcs.length+i))= []:=by
     unfold gP
     rw [List.filter_eq_nil_iff]
     intro x hx
     rw [(hcl x).1 hx];simp
    by_cases hpl:sR bs i=true
    ·have hne:DQ bs pcs.length (cls (pcs.length+bs.length) r (pcs.length+i))=true:=by
      have:=HU (bs:=bs) (n:=pcs.length) (r:=r) hpl (show pcs.length+i<pcs.length+bs.length by omega)
      rwa [hri] at this
     rw [aC hne,aC (by rw [hpl,bU hemp];rfl)]
     congr 2
     unfold JA
     rw [hgp]
     have hgb:ints (gB bs pcs.length (cls (pcs.length+bs.length) r (pcs.length+i)))= [((i:Nat):Int)]:=by
      refine zG (H8 _ _ _ _ _) (List.pairwise_singleton _ _) fun x=>?_
      rw [pE]
      simp only [rn]
      constructor
      ·rintro⟨k,h1,h2⟩
       obtain⟨g1,g2,_⟩:=yJ.1 h1
       have:=(hal _ g1).1 (by rw [g2,hri])
       omega
      ·intro h
       exact⟨i,yJ.2 ⟨by omega,hri,hpl⟩,h⟩
     rw [hgb];rfl
    ·have hne: ¬DQ bs pcs.length (cls (pcs.length+bs.length) r (pcs.length+i))=true:=by
      unfold DQ
      have hgb:gB bs pcs.length (cls (pcs.length+bs.length) r (pcs.length+i))= []:=by
       unfold gB
       rw [List.map_eq_nil_iff,List.filter_eq_nil_iff]
       intro x hx
       rw [(hcl x).1 hx,Nat.add_sub_cancel_left]
       simp [hpl]
      rw [hgp,hgb];simp
     rw [aG hne,aG (by rw [iM] at hpl ⊢;rw [hpl];rfl)]
   ·have hri: ¬r (pcs.length+i)=pcs.length+i:=fun e=>by
     obtain⟨x,hxm⟩:=List.exists_mem_of_ne_nil _ hemp
     obtain⟨p,hp1,hp2⟩:=(hto _ (cN (show i< (j5 bs pcs).length by omega))).2 x hxm
     have h1:=hC.co p (pcs.length+i) ⟨i,_,htx,by rw [<-hp2];exact hxm,rfl⟩
     have h2:=hC.le p (by omega)
     omega
    rw [aG hri,aG (by rw [bY hemp,Bool.and_false];exact mU)]
  refine Ok.bind (P:=fun st:List cF=>st=lA bs pcs.length (pcs.length+bs.length) r (bL (pcs.length+ (i+1)) r)) (Ok.bif (fun hb=>?_) (fun hb=>Ok.ret ?_)) (fun st hst=>Ok.nx ⟨bR (by omega),hst⟩)
  ·refine Ok.app (by simp only [dR,List.length_nil];omega) (Ok.ret ?_)
   rw [hstep,aC hb]
  ·rw [hstep,aG (by rw [iM];exact hb)]
 ·rintro⟨G,ii⟩ e hG
  dsimp only at e hG ⊢
  subst e
  rw [ng,aR]
  exact Ok.br hG
 intro o ho
 refine Ok.cs ho ?_ (fun r hr=>hr.elim)
 rintro⟨G,ii⟩ hG
 dsimp only at hG ⊢
 subst hG
 have hGl:=hgl (bL (pcs.length+bs.length) r)
 have hhl:=lu (pcs.length+bs.length) r
 generalize hGG:lA bs pcs.length (pcs.length+bs.length) r (bL (pcs.length+bs.length) r)=G at *
 refine Ok.bind (Ok.pF (n:=ls.length) (fun st=>st.2) (fun i st=>st.1=gh G (zq bs pcs r) (ls.take i)) (Go:=fun st=>st.1=gh G (zq bs pcs r) ls) (Rt:=fun _=>False) ?_ ?_ (dJ _) rfl ?_ (by omega)) ?_
 ·rintro i ⟨W,ii⟩ hi e hW
  dsimp only at e hW ⊢
  subst e;subst hW
  rw [kR hi,aP]
  have hx:ls[i]? =some ls[i]:=aN hi
  have hts:ls.take (i+1)=ls.take i++[ls[i]]:=eI hi
  obtain⟨e1,e2⟩:=zf (N:=N) (r:=r) hb (by omega) hpr hd hC.le hC.rr (G:=gh G (zq bs pcs r) (ls.take i)) (by rw [hGG];exact v7 _ _ _) ls[i] hN
  refine Ok.ix hx (Ok.eq e1 ?_)
  refine Ok.bind (P:=fun st:List cF=>st=gh G (zq bs pcs r) (ls.take (i+1))) ?_ (fun st hst=>Ok.nx ⟨bR (by omega),hst⟩)
  unfold FM
  cases hg:zq bs pcs r ls[i] with
  | none=>
   dsimp only
   rw [show decide ((-1:Int)>=0)=false by decide,aR]
   refine Ok.ret ?_
   rw [hts,vX hg]
  | some g=>
   have hgW:=e2 g hg
   have hWg: (gh G (zq bs pcs r) (ls.take i))[g]? =some (gh G (zq bs pcs r) (ls.take i))[g]:=aN hgW
   dsimp only
   rw [bU (by omega),aP]
   have hpl: (gh G (zq bs pcs r) (ls.take i))[g].gl.length<=ls.length:=by
    have:=hWg
    rw [jv,rl] at this
    obtain⟨y,_,hy⟩:=this
    rw [<-hy]
    dsimp only
    rw [cY]
    have:=nG (fun l=>decide (zq bs pcs r l=some g)) (ls.take i)
    rw [cL] at this;omega
   refine Ok.ix hWg (Ok.app (by simp only [dR,List.length_nil];omega) (Ok.ix hWg (Ok.ret ?_)))
   rw [cJ,hts]
   exact xN hg hWg
 ·rintro⟨W,ii⟩ e hW
  dsimp only at e hW ⊢
  subst e
  rw [ng,aR]
  exact Ok.br (by rw [eQ] at hW;exact hW)
 ·apply List.ext_getElem?
  intro g
  rw [jv]
  cases hGg:G[g]? with
  | none=>rfl
  | some x=>
   have hx0:x.gl= []:=by
    rw [<-hGG] at hGg
    unfold lA at hGg
    rw [gC,rl] at hGg
    obtain⟨hd',_,rfl⟩:=hGg
    rfl
   simp only [Option.map_some,List.take_zero,List.filter_nil,List.map_nil,Option.some.injEq]
   rw [<-hx0]
 intro o ho
 exact Ok.cs ho (fun st hst=>Ok.ret hst) (fun r hr=>hr.elim)
end
section
variable {N:Nat} {a:kT} {nu:List (List aA)} {iq:List (List (List aA))} {r:Nat->Nat} {gs:List cF} {ofP ofB vo:List Int} {vY:List j8}
theorem rV.DT (b:rV a nu iq r gs ofP ofB vo vY):sY a:=GJ b.AL.DT
theorem Ed (b:rV a nu iq r gs ofP ofB vo vY) (hN:4398046511104<=N):
  i7 N a=some (a.aJ,a.cG,a.aO,a.bM,(fD 0 iq).map aK.cT,(fD 0 iq).map aK.iJ,gs,j5 a.aO (fD 0 iq)):=by
 refine Ok.get ?_
 have hc16:=b.AL.yZ.2
 have hfew:=b.yZ.2
 have hbl:=b.AL.gb.len
 have hll:=b.DT.yZ
 unfold i7
 have hpl: ∀k,(fD 0 (iq.take k)).length<=2000:=fun k=>by
  have h1:=vr (iq.take k) 0
  have h2:=vr iq 0
  have h3: ((iq.take k).map List.length).sum<=(iq.map List.length).sum:=by
   conv=>rhs;rw [<-List.take_append_drop k iq,dO,List.sum_append]
   omega
  omega
 refine Ok.bind (Ok.pF (n:=a.aJ.length) (fun st=>st.2.2) (fun i st=>st.1= (fD 0 (iq.take i)).map aK.cT/\st.2.1= (fD 0 (iq.take i)).map aK.iJ) (Go:=fun st=>st.1= (fD 0 iq).map aK.cT/\st.2.1= (fD 0 iq).map aK.iJ) (Rt:=fun _=>False) ?_ ?_ (dJ _) rfl ⟨rfl,rfl⟩ (by omega)) ?_
 ·rintro i ⟨La,Re,ii⟩ hi e ⟨h1,h2⟩
  dsimp only at e h1 h2 ⊢
  subst e;subst h1;subst h2
  rw [kR hi,aP]
  obtain⟨s,ps,u,hd,hp,L⟩:=zb b hi
  have hcx:a.aJ[i]? =some a.aJ[i]:=aN hi
  have hcs:=b.AL.cs _ (cN hi)
  have hip:=(bA.1 hp).1
  have hts:fD 0 (iq.take (i+1))=fD 0 (iq.take i)++ps.map (fun p=>⟨((i:Nat):Int),p,aS p⟩):=by
   rw [eI hip,(bA.1 hp).2,tE,cL]
   simp only [iI,show min i iq.length=i by omega]
  have hl1:=hpl i
  have hl2:=hpl (i+1)
  rw [hts,cZ,cY] at hl2
  refine Ok.eq (u5 b.AL.gb hcx hcs.1 hcs.2 L.dr hN) (Ok.eq (L.pieces hN) ?_)
  rw [cY]
  refine Ok.bind (Ok.pF (n:=ps.length) (fun st=>st.2.2) (fun j st=>st.1= (fD 0 (iq.take i)).map aK.cT++(ps.take j).map (fun _=>((i:Nat):Int))/\st.2.1= (fD 0 (iq.take i)).map aK.iJ++(ps.take j).map aS)
   (Go:=fun st=>st.1= (fD 0 (iq.take (i+1))).map aK.cT/\st.2.1= (fD 0 (iq.take (i+1))).map aK.iJ) (Rt:=fun _=>False) ?_ ?_ (dJ _) rfl ⟨by simp,by simp⟩ (by omega)) ?_
  ·rintro j ⟨La,Re,jj⟩ hj e ⟨h1,h2⟩
   dsimp only at e h1 h2 ⊢
   subst e;subst h1;subst h2
   rw [kR hj,aP]
   have hx: (ps.map aS)[j]? =some (aS ps[j]):=by rw [gC,aN hj];rfl
   refine Ok.app ?_ (Ok.ix hx (Ok.app ?_ (Ok.nx ⟨bR (by omega),?_,?_⟩)))
   ·rw [cZ,cY,cY,cL];simp only [dR,List.length_nil];omega
   ·rw [cZ,cY,cY,cL];simp only [dR,List.length_nil];omega
   ·dsimp only;rw [eI hj,dO,kC];rfl
   ·dsimp only;rw [eI hj,dO,kC];rfl
  ·rintro⟨La,Re,jj⟩ e ⟨h1,h2⟩
   dsimp only at e h1 h2 ⊢
   subst e;subst h1;subst h2
   rw [ng,aR]
   refine Ok.br ⟨?_,?_⟩
   ·dsimp only;rw [hts,dO,List.map_map,eQ];rfl
   ·dsimp only;rw [hts,dO,List.map_map,eQ];rfl
  intro o ho
  exact Ok.cs ho (fun st hst=>Ok.nx ⟨bR (by omega),hst⟩) (fun r hr=>hr.elim)
 ·rintro⟨La,Re,ii⟩ e ⟨h1,h2⟩
  dsimp only at e h1 h2 ⊢
  subst e
  rw [ng,aR]
  rw [lE (by rw [b.dr.zo];exact bT _)] at h1 h2
  exact Ok.br ⟨h1,h2⟩
 intro o ho
 refine Ok.cs ho ?_ (fun r hr=>hr.elim)
 rintro⟨La,Re,ii⟩ ⟨h1,h2⟩
 dsimp only at h1 h2 ⊢
 subst h1;subst h2
 rw [cY]
 have hpf:=fun p hp=>xV b (p:=p) hp
 generalize hpcs:fD 0 iq=pcs at *
 refine Ok.bind (Ok.pF (n:=a.aO.length) (fun st=>st.2) (fun i st=>st.1=j5 (a.aO.take i) pcs) (Go:=fun st=>st.1=j5 a.aO pcs) (Rt:=fun _=>False) ?_ ?_ (dJ _) rfl rfl (by omega)) ?_
 ·rintro i ⟨T,ii⟩ hi e hT
  dsimp only at e hT ⊢
  subst e;subst hT
  rw [kR hi,aP]
  have hx:a.aO[i]? =some a.aO[i]:=aN hi
  have hg:=b.AL.gb.ok _ (cN hi)
  have hsq:=Jz hg.1 hg.2
  have hplain: ¬a.aO[i].fS=true->oj (gX a.aO[i]) pcs pcs.length= []:=fun hp=>by
   unfold oj
   rw [List.filter_eq_nil_iff]
   intro j _
   rw [iM,Option.any_eq_false]
   intro p _
   unfold gX;rw [iM] at hp;rw [hp];rfl
  refine Ok.bind (Ok.jw (Go:=fun st=>st.1=ints (oj (gX a.aO[i]) pcs pcs.length)) (Rt:=fun _=>False) (fun st=>∃j:Nat,st.2= ((j:Nat):Int)/\j<=pcs.length/\st.1=ints (oj (gX a.aO[i]) pcs j)) (fun st=>pcs.length - st.2.toNat) ?_ ⟨0,rfl,dJ _,rfl⟩ (by simp;omega)) ?_
  ·rintro⟨ow,jj⟩ ⟨j,e,hj,ho⟩
   dsimp only at e ho ⊢
   subst e;subst ho
   by_cases hlt:j<pcs.length
   ·rw [kR hlt,aP,dU hx,aB,aB]
    refine Ok.bif (fun hpl=>?_) (fun hpl=>Ok.br ?_)
    ·have hpx:pcs[j]? =some pcs[j]:=aN hlt
     have hlx: (pcs.map aK.cT)[j]? =some pcs[j].cT:=by rw [gC,hpx];rfl
     have hrx: (pcs.map aK.iJ)[j]? =some pcs[j].iJ:=by rw [gC,hpx];rfl
     obtain⟨f1,f2,_⟩:=hpf _ (cN hlt)
     have hil:=yy (gX a.aO[i]) pcs j
     have hcond: ((some a.aO[i]).bind fun x932=>(idx (pcs.map aK.cT) ((j:Nat):Int)).bind fun x935=>(eV N x932 x935).bind fun x936=>bif x936 then ((idx (pcs.map aK.iJ) ((j:Nat):Int)).bind fun x938=>(some a.aO[i]).bind fun x941=>(cH N x941).bind fun x944=>(jf N x938 x944).bind fun x946=>some x946) else (some false))=some (gX a.aO[i] pcs[j]):=by
      rw [aB,dU hlx,aB,tL,aB,dU hrx,aB,aB,l7 hg.1,aB,I3 (by omega) (fun q hq=>Cw (f2 q hq).1 (f2 q hq).2.1 (f2 q hq).2.2) hsq hN,aB]
      unfold gX
      rw [hpl,Bool.true_and]
      cases jW a.aO[i] pcs[j].cT <;> rfl
     refine Ok.eq hcond ?_
     refine Ok.bind (P:=fun st:List Int=>st=ints (oj (gX a.aO[i]) pcs (j+1))) (Ok.bif (fun hb=>?_) (fun hb=>Ok.ret ?_)) (fun st hst=>Ok.nx ⟨⟨j+1,bR (by omega),hlt,hst⟩,?_⟩)
     ·refine Ok.app (by rw [lx];simp only [dR,List.length_nil];omega) (Ok.ret ?_)
      rw [wJ hpx,aC hb,pD];rfl
     ·rw [wJ hpx,aG (by rw [iM];exact hb)]
     ·dsimp only;rw [bR (by omega)];simp only [cJ];omega
    ·have hn:=hplain (by rw [hpl];exact mU)
     have hj0:oj (gX a.aO[i]) pcs j= []:=by
      unfold oj
      rw [List.filter_eq_nil_iff]
      intro j' hj'
      rw [iM,Option.any_eq_false]
      intro p _
      unfold gX;rw [hpl];rfl
     dsimp only
     rw [hn,hj0]
   ·have:j=pcs.length:=by omega
    subst this
    rw [ng,aR,aB,aR]
    exact Ok.br rfl
  intro o ho
  refine Ok.cs ho ?_ (fun r hr=>hr.elim)
  rintro⟨ow,jj⟩ ho2
  dsimp only at ho2 ⊢
  subst ho2
  refine Ok.app ?_ (Ok.nx ⟨bR (by omega),?_⟩)
  ·unfold j5;rw [cY,cL];simp only [dR,List.length_nil];omega
  ·dsimp only
   unfold j5
   rw [eI hi,dO];rfl
 ·rintro⟨T,ii⟩ e hT
  dsimp only at e hT ⊢
  subst e
  rw [ng,aR]
  exact Ok.br (by rw [eQ] at hT;exact hT)
 intro o ho
 refine Ok.cs ho ?_ (fun r hr=>hr.elim)
 rintro⟨T,ii⟩ hT
 dsimp only at hT ⊢
 subst hT
 have hcon:=b.LK
 rw [hpcs] at hcon
 have hnb:=fun l=>FV b l
 rw [hpcs] at hnb
 refine Ok.eq (GM (r:=r) b.AL.gb (by omega) (by omega) (fun p hp=>⟨by have:=(hpf p hp).1;omega,fun x hx=>((hpf p hp).2.1 x hx).2.1⟩) hnb hcon.conn hN) (Ok.ret ?_)
 rw [<-hcon.gs]
end
end Go.Gk
namespace Go.Gk
open Go Classical
section
variable {N:Nat} {a:kT} {nu:List (List aA)} {iq:List (List (List aA))} {r:Nat->Nat} {gs:List cF} {ofP ofB vo:List Int} {vY:List j8}
end
section
variable {N:Nat}
end
end Go.Gk
namespace Go.Gk
open Go Classical
section
variable {bs:List bZ} {ls:List eM} {pcs:List aK} {r:Nat->Nat} {gs:List cF} {ofP ofB vo:List Int} {vY:List j8}
end
section
variable {N:Nat} {a:kT} {nu:List (List aA)} {iq:List (List (List aA))} {r:Nat->Nat} {gs:List cF} {ofP ofB vo:List Int} {vY:List j8}
end
section
variable {N:Nat}
end
end Go.Gk
namespace Go.Gk
open Go Classical
section
variable {N:Nat} {a:kT} {nu:List (List aA)} {iq:List (List (List aA))} {r:Nat->Nat} {gs:List cF} {ofP ofB vo:List Int} {vY:List j8}
theorem GN (bs:List bZ) (ly:List Int) (rs:List (List aI)) (G:List cF) (l:eM):ga N bs ly rs G l=dL N bs ly rs G l:=rfl
theorem Fa (b:rV a nu iq r gs ofP ofB vo vY) (l:eM) (hN:4398046511104<=N):
  ga N a.aO ((fD 0 iq).map aK.cT) ((fD 0 iq).map aK.iJ) gs l=some (FM a.aO (fD 0 iq) r l):=by
 have hf:=b.yZ.2
 rw [GN]
 exact(zf (N:=N) b.AL.gb (by omega) (fun p hp=>⟨by have:=(xV b hp).1;omega,fun x hx=>((xV b hp).2.1 x hx).2.1⟩) (fun l=>FV b l) b.LK.conn.le b.LK.conn.rr (G:=gs) (by rw [b.LK.gs];exact v7 _ _ _) l hN).1
theorem GO (bs:List bZ) (pcs:List aK) (r:Nat->Nat) (l:eM):FM bs pcs r l = -1\/∃g:Nat,FM bs pcs r l= ((g:Nat):Int):=by
 unfold FM
 cases zq bs pcs r l with
 | none=>exact .inl rfl
 | some g=>exact .inr ⟨g,rfl⟩
theorem FW (x:eM) (p:dV):jV x=p↔x.Part=p.Part/\x.dV=p.dV:=by
 cases p;unfold jV;rw [dV.mk.injEq]
theorem Ia {a:kT} (hl:a.bM.length<=1000000) (p:dV) (hN:4398046511104<=N):kf N a p=some (A0 a p):=by
 refine Ok.get ?_
 unfold kf
 refine Ok.bind (Ok.pF (n:=a.bM.length) (fun s=>s) (fun k _=>∀(j:Nat) x,j<k->a.bM[j]? =some x->decide (jV x=p)=false) (Go:=fun _=>A0 a p = -1) (Rt:=fun r=>r=A0 a p) ?_ ?_ (dJ _) rfl (fun j x hj=>by omega) (by omega)) ?_
 ·rintro k s hk e hI
  subst e
  rw [kR hk,aP]
  have hx:a.bM[k]? =some a.bM[k]:=aN hk
  have hc: ((idx a.bM ((k:Nat):Int)).bind fun x99=>bif (x99.Part.qw p.Part) then ((idx a.bM ((k:Nat):Int)).bind fun x104=>some (x104.dV.qw p.dV)) else (some false))=some (decide (jV a.bM[k]=p)):=by
   rw [dU hx,aB,aB,Fy,Fy]
   by_cases h1:a.bM[k].Part=p.Part
   ·rw [bU h1,aP]
    congr 1
    rw [eN,bO,bO,FW]
    exact⟨fun h=>⟨h1,h⟩,fun h=>h.2⟩
   ·rw [bY h1,aR,bY (fun h=>h1 ((FW _ _).1 h).1)]
  refine Ok.eq hc (Ok.bif (fun h=>Ok.rt ?_) (fun h=>Ok.nx ⟨bR (by omega),fun j x hj hjx=>?_⟩))
  ·exact(Dz hx h hI).symm
  ·by_cases e:j=k
   ·subst e;rw [hx] at hjx;injection hjx with hjx;rw [<-hjx];exact h
   ·exact hI j x (by omega) hjx
 ·rintro s e hI
  subst e
  rw [ng,aR]
  refine Ok.br ?_
  unfold A0
  rw [Dy]
  rw [List.any_eq_false]
  intro x hx
  obtain⟨j,hj⟩:=dN hx
  rw [hI j x (bA.1 hj).1 hj];exact mU
 intro o ho
 exact Ok.cs ho (fun s hs=>Ok.ret hs.symm) (fun r hr=>Ok.ret hr)
theorem GP (g:sY a) (p:dV) (hN:4398046511104<=N):lZ N a p=some (A0 a p):=by
 obtain⟨r,h1,h2⟩:=D7 (N:=N) (p:=p) g.up (by have:=g.yZ;omega) (by omega) (φ:=jd N) (fun x=>by unfold jd;rw [yw,aB,tS,aB])
 unfold lZ
 have e:f0 N a.bM p (jd N)=Hz N a.bM p (jd N):=rfl
 rw [e,h1,aB];exact h2
theorem Fb (b:rV a nu iq r gs ofP ofB vo vY) (h1:j3 N a=some (some (a.aJ,a.cG,a.aO,a.bM,nu,fD 0 iq,j5 a.aO (fD 0 iq),gs,ofP,ofB,vo,vY),0)) (h2:dW N a=some 0) (p:dV) (hN:4398046511104<=N):
  ∃x,ke N a p=some x/\fW N a p=some x:=by
 have hlf:=b.DT.yZ
 have hofL:=b.LK.vo
 unfold ke fW
 rw [h1,h2,aB,aB,GP b.DT p hN,Ia (by omega) p hN]
 simp only [I9,bne_self_eq_false,aR,aB]
 rcases D8 a p with ⟨e,_⟩ | ⟨k,x,e,hx,_⟩
 ·rw [e,show decide ((-1:Int)<0)=true by decide,aP,aP]
  exact⟨_,rfl,rfl⟩
 ·have ho:vo[k]? =some (FM a.aO (fD 0 iq) r x):=by rw [hofL,gC,hx];rfl
  rw [e,show decide (((k:Nat):Int)<0)=false from bY (by omega),aR,aR,dU hx,aB,Ed b hN,aB]
  simp only [Fa b x hN,dU ho,aB]
  rcases GO a.aO (fD 0 iq) r x with h | ⟨g,h⟩
  ·rw [h];exact⟨_,rfl,rfl⟩
  ·rw [h,show decide (((g:Nat):Int)<0)=false from bY (by omega),show decide (((g:Nat):Int)>=0)=true from bU (by omega),aR,aP]
   exact⟨_,rfl,rfl⟩
end
section
variable {N:Nat}
theorem rW {a:kT} {p:dV} (ha:bk a<=1048576) (_hp:bk p<=1048576) (hN:4398046511104<=N):fB N a p=some true:=by
 have hs:=DW ha
 have key: ∃x,ke N a p=some x/\fW N a p=some x:=by
  rcases checked (N:=N) hs hN with ⟨e,he,h1,h2⟩ | ⟨b,h1,h2⟩
  ·have hb: (e != 0)=true:=by simpa using he
   refine⟨(0,false,e),?_,?_⟩
   ·unfold ke;rw [h1,aB];simp only [I9,hb,aP]
   ·unfold fW;rw [h2,aB,hb,aP]
  ·exact Fb b h1 h2 p hN
 obtain⟨x,x1,x2⟩:=key
 unfold fB
 rw [x1,aB,x2,aB,BEq.rfl,aP,BEq.rfl,BEq.rfl,Bool.and_self,aP,I1 (by omega)]
 rfl
end
end Go.Gk
