/-
  Helping texts: plain functions and plain laws. No statement of the seed is proved here.
-/
import Derived.Test.YtmmiladckdcjeabGreatDoorE1
import Derived.Test.YtmmiladckdcjeabGreatDoorA2
set_option linter.unusedVariables false
set_option linter.unusedSimpArgs false
set_option linter.unusedSectionVars false
namespace Go.Gk
open Go Classical
section
variable {N:Nat}
section
variable {α:Type}
def oD (P:α->Bool) (l:List α) (n:Nat):List Nat:=(List.range n).filter (fun k=>(l[k]?).any P)
theorem xd {P:α->Bool} {l:List α} {n:Nat} {x:α} (h:l[n]? =some x):oD P l (n+1)=if P x=true then oD P l n++[n] else oD P l n:=by
 unfold oD
 rw [List.range_succ,j4]
 by_cases hp:P x=true
 ·rw [aC hp];simp [h,hp]
 ·rw [aF hp];simp [h,hp]
theorem y6 (P:α->Bool) (l:List α) (n:Nat): (oD P l n).length<=n:=by
 have:=lL (fun k=>(l[k]?).any P) (List.range n)
 rw [List.length_range] at this;exact this
theorem GX {P:α->Bool} {l:List α} {n k:Nat}:k∈oD P l n↔k<n/\(l[k]?).any P=true:=by unfold oD;simp
theorem yi {β:Type} {l:List α} (P:α->Bool) (g:Nat->β):vX l.length (fun k=>(l[k]?).bind fun x=>if P x=true then some (g k) else none)= (l.findIdx? P).map g:=by
 cases h:l.findIdx? P with
 | none=>
  rw [List.findIdx?_eq_none_iff] at h
  refine ov.2 fun k hk=>?_
  rw [aO hk]
  have:=h _ (cN hk)
  simp [this]
 | some j=>
  obtain⟨hj,hp,hn⟩:=List.findIdx?_eq_some_iff_getElem.1 h
  refine po.2 ⟨j,hj,by rw [aO hj];simp [hp],fun i hi=>?_⟩
  rw [aO (by omega)]
  have:=hn i hi
  simp [this]
end
def ints (l:List Nat):List Int:=l.map fun i=>((i:Nat):Int)
theorem pT (l m:List Nat):ints (l++m)=ints l++ints m:=dL
theorem kq (l:List Nat): (ints l).length=l.length:=cV _
theorem pU {l:List Nat} {x:Int}:x∈ints l↔∃i∈l,x= ((i:Nat):Int):=by
 unfold ints;rw [dC]
 constructor
 ·rintro⟨i,h1,h2⟩;exact⟨i,h1,h2.symm⟩
 ·rintro⟨i,h1,h2⟩;exact⟨i,h1,h2.symm⟩
def qx (p0 p1:aI):Bool:=((((decide (p0.X0<p1.X1))&&(decide (p1.X0<p0.X1)))&&((p0.Y1==p1.Y0)||(p1.Y1==p0.Y0)))||(((decide (p0.Y0<p1.Y1))&&(decide (p1.Y0<p0.Y1)))&&((p0.X1==p1.X0)||(p1.X1==p0.X0))))
def g9 (b:cA) (p:aK):Bool:=b.fY&&(jY b p.cU&&p.iQ.any (fun r=>qx r (uL b)))
def j9 (bs:List cA) (pcs:List aK):List (List Int):=bs.map fun b=>ints (oD (g9 b) pcs pcs.length)
theorem rX {l:List aI} {φ:aI->Option Bool} (p:aI->Bool) (hl:l.length<=4611686018427387904) (h: ∀x∈l,φ x=some (p x)):gX N l φ=some (l.any p):=
 sH p hl h
theorem Ic {bs:List cA} {pcs:List aK} (hb:kH bs) (hp:pcs.length<=1073741824) (hr: ∀p∈pcs,p.iQ.length<=1073741824):kh N bs pcs []=some (j9 bs pcs):=by
 refine Ok.get ?_
 have hbl:=hb.len
 unfold kh
 refine Ok.bind (Ok.nI (fun k st=>st=j9 (bs.take k) pcs) (by omega) rfl (fun k st hk e=>?_)) (fun st e=>Ok.ret (by rw [e,dZ]))
 subst e
 have hg:=hb.ok _ (cN hk)
 refine Ok.idx hk ?_
 refine Ok.bind (P:=fun t=>t=ints (oD (g9 bs[k]) pcs pcs.length)) (Ok.nI (fun j t=>t=ints (oD (g9 bs[k]) pcs j)) (by omega) rfl (fun j t hj e=>?_)) (fun t e=>?_)
 ·subst e
  have hjx:pcs[j]? =some pcs[j]:=aO hj
  have hl:=y6 (g9 bs[k]) pcs j
  refine Ok.ix hjx ?_
  refine Ok.eq (x:=g9 bs[k] pcs[j]) ?_ ?_
  ·unfold g9
   cases bs[k].fY with
   | false=>rfl
   | true=>
    rw [aQ,Bc,aB,Bool.true_and]
    cases jY bs[k] pcs[j].cU with
    | false=>rfl
    | true=>
     rw [aQ,rX (fun r=>qx r (uL bs[k])) (by have:=hr _ (cN hj);omega) (fun r _=>by
      unfold kr;rw [mX hg.1];rfl),aB,Bool.true_and]
  ·rw [xd hjx]
   cases ht:g9 bs[k] pcs[j] with
   | false=>rw [aR,aF (by simp)];exact Ok.eq rfl (Ok.ret rfl)
   | true=>
    rw [aQ,aC rfl]
    refine Ok.eq (x:=ints (oD (g9 bs[k]) pcs j)++[((j:Nat):Int)]) (by rw [kN (by rw [kq];simp;omega),aB]) (Ok.ret ?_)
    rw [pT];rfl
 ·subst e
  refine Ok.app ?_ (Ok.ret ?_)
  ·unfold j9;simp;omega
  ·unfold j9
   rw [dS hk,dL];rfl
def zA (r:List aI) (p:jw):Bool:=r.any (fun x=>decide (p.X>=x.X0)&&(decide (p.X<x.X1)&&(decide (p.Y>=x.Y0)&&decide (p.Y<x.Y1))))
theorem yj {r:List aI} {p:jw} (hl:r.length<=4611686018427387904):kE N r p=some (zA r p):=by
 unfold kE
 rw [rX (fun x=>decide (p.X>=x.X0)&&(decide (p.X<x.X1)&&(decide (p.Y>=x.Y0)&&decide (p.Y<x.Y1)))) hl (fun x _=>by
  unfold lO
  cases decide (p.X>=x.X0) <;> cases decide (p.X<x.X1) <;> cases decide (p.Y>=x.Y0) <;> rfl)];rfl
def lF (l:eQ) (b:cA):Bool:=b.fY&&(jY b l.cU&&zA [uL b] l.At)
def kR (l:eQ) (p:aK):Bool:=(p.cU==l.cU)&&zA p.iQ l.At
def z6 (bs:List cA) (pcs:List aK) (l:eQ):Option ka:=match bs.findIdx? (lF l) with
 | some k=>some ⟨true,((k:Nat):Int)⟩
 | none=>(pcs.findIdx? (kR l)).map fun k=>⟨false,((k:Nat):Int)⟩
theorem Ie {bs:List cA} {pcs:List aK} (hb:kH bs) (hp:pcs.length<=1073741824) (hr: ∀p∈pcs,p.iQ.length<=1073741824) (l:eQ):
  kj N bs pcs l=some ((z6 bs pcs l).getD ⟨false,0⟩,(z6 bs pcs l).isSome):=by
 have hbl:=hb.len
 unfold kj
 rw [sG (fun k=>(bs[k]?).bind fun x=>if lF l x=true then some ((⟨true,((k:Nat):Int)⟩:ka),true) else none) (by omega) (fun k hk _=>by
  have hkx:bs[k]? =some bs[k]:=aO hk
  have hg:=hb.ok _ (cN hk)
  rw [eM hkx,aB,hkx,mX hg.1,aB,aB,yj (by simp)]
  unfold lF
  cases bs[k].fY with
  | false=>rfl
  | true=>
   show (((bif jY bs[k] l.cU then _ else _:Option Bool)).bind _)=_
   cases jY bs[k] l.cU with
   | false=>rfl
   | true=>
    cases zA [uL bs[k]] l.At <;> rfl),aB,yi (lF l) (fun k=>((⟨true,((k:Nat):Int)⟩:ka),true))]
 unfold z6
 cases bs.findIdx? (lF l) with
 | some k=>rfl
 | none=>
  show ((ue pcs.length _ ()).bind _)=_
  rw [sG (fun k=>(pcs[k]?).bind fun x=>if kR l x=true then some ((⟨false,((k:Nat):Int)⟩:ka),true) else none) (by omega) (fun k hk _=>by
   have hkx:pcs[k]? =some pcs[k]:=aO hk
   rw [eM hkx,aB,hkx,aB,yj (by have:=hr _ (cN hk);omega)]
   unfold kR
   cases pcs[k].cU==l.cU with
   | false=>rfl
   | true=>cases zA pcs[k].iQ l.At <;> rfl),aB,yi (kR l) (fun k=>((⟨false,((k:Nat):Int)⟩:ka),true))]
  cases pcs.findIdx? (kR l) <;> rfl
def Lk (n:Nat) (tch:List (List Int)) (i j:Nat):Prop:=∃(k:Nat) (l:List Int),tch[k]? =some l/\((i:Nat):Int)∈l/\j=n+k
structure Ji (n m:Nat) (tch:List (List Int)) (r:Nat->Nat):Prop where
 le: ∀i,i<n+m->r i<=i
 rr: ∀i,i<n+m->r (r i)=r i
 co: ∀i j,Lk n tch i j->r i=r j
 fi: ∀S:Nat->Prop,(∀i j,Lk n tch i j->(S i↔S j))->∀i j,i<n+m->j<n+m->r i=r j->S i->S j
theorem GY {n m:Nat} {tch:List (List Int)} (hm:tch.length=m) (ht: ∀l∈tch,l.length<=1073741824/\∀x∈l,∃i:Nat,i<n/\x= ((i:Nat):Int)) (hn:n<=1073741824) (hm2:m<=1073741824) {up:List Int} (hu:UF (n+m) up (fun i=>i)) (hN:4398046511104<=N):
  Ok (nI tch.length (fun(k34:Nat) (s35: (List Int))=>((idx tch (k34:Int)).bind fun x89=>(nI x89.length (fun(k92:Nat) (s93: (List Int))=>((idx x89 (k92:Int)).bind fun x107=>(ir N s93 x107 (IntKind.wrap .i64 ((n:Int)+ (k34:Int)))).bind fun x109=>some x109:Option ((List Int)))) s35).bind fun s93=>some s93:Option ((List Int)))) up)
   (fun up'=>∃r,UF (n+m) up' r/\Ji n m tch r):=by
 have base:Ok (nI tch.length (fun(k34:Nat) (s35: (List Int))=>((idx tch (k34:Int)).bind fun x89=>(nI x89.length (fun(k92:Nat) (s93: (List Int))=>((idx x89 (k92:Int)).bind fun x107=>(ir N s93 x107 (IntKind.wrap .i64 ((n:Int)+ (k34:Int)))).bind fun x109=>some x109:Option ((List Int)))) s35).bind fun s93=>some s93:Option ((List Int)))) up)
   (fun up'=>∃r E,UF (n+m) up' r/\rf r E/\A1 (n+m) r E/\(∀p∈E,Lk n tch p.1 p.2)/\∀(k:Nat) l (i:Nat),k<tch.length->tch[k]? =some l->((i:Nat):Int)∈l->(i,n+k)∈E):=by
  refine Ok.nI (fun q up'=>∃r E,UF (n+m) up' r/\rf r E/\A1 (n+m) r E/\(∀p∈E,Lk n tch p.1 p.2)/\∀(k:Nat) l (i:Nat),k<q->tch[k]? =some l->((i:Nat):Int)∈l->(i,n+k)∈E) (by omega)
   ⟨_,_,hu,rf.id,A1.id _,fun p hp=>(by cases hp),fun k l i hk=>by omega⟩ (fun q up' hq hI=>?_)
  obtain⟨r,E,h1,h2,h3,h4,h5⟩:=hI
  have hqx:tch[q]? =some tch[q]:=aO hq
  obtain⟨hl1,hl2⟩:=ht _ (cN hq)
  refine Ok.ix hqx ?_
  rw [wrap_add (by omega)]
  refine Ok.bind (Ok.nI (fun t up'=>∃r E,UF (n+m) up' r/\rf r E/\A1 (n+m) r E/\(∀p∈E,Lk n tch p.1 p.2)/\(∀(k:Nat) l (i:Nat),k<q->tch[k]? =some l->((i:Nat):Int)∈l->(i,n+k)∈E)/\∀i:Nat,((i:Nat):Int)∈tch[q].take t->(i,n+q)∈E) (by omega)
   ⟨r,E,h1,h2,h3,h4,h5,fun i hi=>by simp at hi⟩ (fun t up' htl hI=>?_)) (fun up' hI=>Ok.ret ?_)
  ·obtain⟨r,E,h1,h2,h3,h4,h5,h6⟩:=hI
   refine Ok.idx htl ?_
   obtain⟨i,hi,e⟩:=hl2 _ (cN htl)
   rw [e]
   obtain⟨u2,a1,a2⟩:=Jf (N:=N) h1 (i:=i) (k:=n+q) (by omega) (by omega) (by omega)
   refine Ok.eq a1 (Ok.ret ⟨_,_,a2,h2.join i (n+q) (h1.rr i (by omega)),h3.join (by omega) (by omega),fun p hp=>?_,fun k l j hk hl hj=>List.mem_append_left _ (h5 k l j hk hl hj),fun j hj=>?_⟩)
   ·rcases dA.1 hp with hp | hp
    ·exact h4 p hp
    ·simp at hp;subst hp
     exact⟨q,tch[q],hqx,by rw [<-e];exact cN htl,rfl⟩
   ·rw [dS htl,dA] at hj
    rcases hj with hj | hj
    ·exact List.mem_append_left _ (h6 j hj)
    ·rw [rM,e] at hj
     have:j=i:=by omega
     subst this;simp
  ·obtain⟨r,E,h1,h2,h3,h4,h5,h6⟩:=hI
   refine⟨r,E,h1,h2,h3,h4,fun k l i hk hl hi=>?_⟩
   by_cases hkq:k<q
   ·exact h5 k l i hkq hl hi
   ·have:k=q:=by omega
    subst this
    rw [hqx] at hl;injection hl with hl;subst hl
    exact h6 i (by rw [dZ];exact hi)
 obtain⟨up',e,r,E,h1,h2,h3,h4,h5⟩:=base
 have hE: ∀i j,Lk n tch i j->(i,j)∈E:=fun i j ⟨k,l,hl,hi,hj⟩=>by
  rw [hj];exact h5 k l i (bD.1 hl).1 hl hi
 exact⟨up',e,r,h1,h1.le,h1.rr,fun i j h=>h2 (i,j) (hE i j h),fun S hS i j hi hj=>h3 S (fun p hp=>hS p.1 p.2 (h4 p hp)) i j hi hj⟩
def th (bs:List cA) (j:Nat):Bool:=(bs[j]?).any (fun b=>b.fY)
def gP (n:Nat) (c:List Nat):List Nat:=c.filter (fun i=>decide (i<n))
def gB (bs:List cA) (n:Nat) (c:List Nat):List Nat:=(c.filter (fun i=> !decide (i<n)&&th bs (i - n))).map (fun i=>i - n)
def Ek (bs:List cA) (n:Nat) (c:List Nat):Bool:=decide (0< (gP n c).length+ (gB bs n c).length)
def JS (bs:List cA) (n:Nat) (c:List Nat):bQ:=⟨ints (gP n c),ints (gB bs n c),[]⟩
theorem F8 (n:Nat) (c:List Nat) (i:Nat):gP n (c++[i])=if i<n then gP n c++[i] else gP n c:=by
 unfold gP;rw [j4];split <;> rename_i h <;> simp [h]
theorem F9 (bs:List cA) (n:Nat) (c:List Nat) (i:Nat):gB bs n (c++[i])=if i<n then gB bs n c else if th bs (i - n)=true then gB bs n c++[i - n] else gB bs n c:=by
 unfold gB;rw [j4,dL]
 split
 ·rename_i h;simp [h]
 ·rename_i h
  split <;> rename_i h2 <;> simp [h,h2]
theorem C0 (n:Nat) (c:List Nat): (gP n c).length<=c.length:=lL _ _
theorem C1 (bs:List cA) (n:Nat) (c:List Nat): (gB bs n c).length<=c.length:=by unfold gB;rw [cV];exact lL _ _
def live (bs:List cA) (n t:Nat) (r:Nat->Nat) (hs:List Nat):List Nat:=hs.filter (fun h=>Ek bs n (cls t r h))
def kZ (bs:List cA) (n t:Nat) (r:Nat->Nat) (hs:List Nat):List bQ:=(live bs n t r hs).map (fun h=>JS bs n (cls t r h))
theorem Cj (bs:List cA) (n t:Nat) (r:Nat->Nat) (hs:List Nat) (h:Nat):live bs n t r (hs++[h])=if Ek bs n (cls t r h)=true then live bs n t r hs++[h] else live bs n t r hs:=by
 unfold live;rw [j4];split <;> rename_i h2 <;> simp [h2]
theorem rk (bs:List cA) (n t:Nat) (r:Nat->Nat) (hs:List Nat): (kZ bs n t r hs).length= (live bs n t r hs).length:=by unfold kZ;rw [cV]
def gi (bs:List cA) (n t:Nat) (r:Nat->Nat) (h:Nat):Nat:=(live bs n t r ((bL t r).takeWhile (fun x=>decide (x≠h)))).length
theorem wz {l:List Nat} (hn:l.Nodup) {k h:Nat} (hk:l[k]? =some h):l.takeWhile (fun x=>decide (x≠h))=l.take k:=by
 induction l generalizing k with
 | nil=>simp at hk
 | cons a l ih=>
  cases k with
  | zero=>simp at hk;subst hk;simp
  | succ k=>
   have hk:l[k]? =some h:=by simpa using hk
   have hne:a≠h:=fun e=>(List.nodup_cons.1 hn).1 (by rw [e];exact eY hk)
   rw [List.takeWhile_cons,aC (by simpa using hne),List.take_succ_cons,ih (List.nodup_cons.1 hn).2 hk]
theorem oY (bs:List cA) (n t:Nat) (r:Nat->Nat) (hs:List Nat): (live bs n t r hs).length<=hs.length:=lL _ _
theorem JT {bs:List cA} {n t:Nat} {r:Nat->Nat} {h:Nat} (hh:h∈bL t r) (hne:Ek bs n (cls t r h)=true):gi bs n t r h< (live bs n t r (bL t r)).length/\(live bs n t r (bL t r))[gi bs n t r h]? =some h:=by
 obtain⟨k,hk⟩:=dU hh
 have hkl:=(bD.1 hk).1
 unfold gi
 rw [wz (mW t r) hk]
 have e:bL t r= (bL t r).take k++h::(bL t r).drop (k+1):=by
  have h1:=(List.take_append_drop k (bL t r)).symm
  rw [tv hkl,(bD.1 hk).2] at h1;exact h1
 have e2:live bs n t r (bL t r)=live bs n t r ((bL t r).take k)++h::live bs n t r ((bL t r).drop (k+1)):=by
  conv=>lhs;rw [e]
  unfold live
  rw [j4,List.filter_cons,aC hne]
 constructor
 ·rw [e2];simp
 ·rw [e2]
  simp
end
end Go.Gk
namespace Go.Gk
open Go Classical
section
variable {N:Nat}
theorem y7 {l:List Nat} (h:l.Nodup) {i j a:Nat} (hi:l[i]? =some a) (hj:l[j]? =some a):i=j:=
 (List.getElem_inj (h₀:=(bD.1 hi).1) (h₁:=(bD.1 hj).1) h).1 (by rw [(bD.1 hi).2,(bD.1 hj).2])
theorem pB {n i k:Nat} {r:Nat->Nat}:i∈cls n r k↔i<n/\r i=k:=by unfold cls;simp
theorem GZ (n:Nat) (r:Nat->Nat) (k:Nat): (cls n r k).Nodup:=List.Nodup.sublist List.filter_sublist List.nodup_range
structure Ma (bs:List cA) (n m:Nat) (r:Nat->Nat) (hs:List Nat) (ofP ofB:List Int):Prop where
 lp:ofP.length=n
 lb:ofB.length=m
 pc: ∀i,i<n->r i∈hs->ofP[i]? =some ((gi bs n (n+m) r (r i):Nat):Int)
 bo: ∀j,j<m->r (n+j)∈hs->ofB[j]? =some (if th bs j=true then ((gi bs n (n+m) r (r (n+j)):Nat):Int) else -1)
theorem El {bs:List cA} {n m:Nat} {r:Nat->Nat} (hm:bs.length=m) (hn:n<=1073741824) (hm2:m<=1073741824) {op ob:List Int} (hop:op.length=n) (hob:ob.length=m)
  {body:Nat->List bQ×List Int×List Int->Option (List bQ×List Int×List Int)}
  (hbody:body= (fun(k123:Nat) (s124: (List bQ)×(List Int)×(List Int))=>((idx (rh (n+m) r) (k123:Int)).bind fun x455=>(nI x455.length (fun(k458:Nat) (s459: (List Int)×(List Int)×(List Int)×(List Int))=>((idx x455 (k458:Int)).bind fun x556=>(bif (decide (x556< (n:Int))) then ((idx s459.1 x556).bind fun x580=>(app 8 s459.2.2.1 ([x556]: (List Int))).bind fun x582=>some ((s459.1.set (Int.toNat x556) (s124.1.length:Int)),s459.2.1,x582,s459.2.2.2)) else ((idx bs (IntKind.wrap .i64 (x556 - (n:Int)))).bind fun x584=>(bif x584.fY then ((idx s459.2.1 (IntKind.wrap .i64 (x556 - (n:Int)))).bind fun x594=>(app 8 s459.2.2.2 ([(IntKind.wrap .i64 (x556 - (n:Int)))]: (List Int))).bind fun x596=>some ((s459.2.1.set (Int.toNat (IntKind.wrap .i64 (x556 - (n:Int)))) (s124.1.length:Int)),x596)) else ((idx s459.2.1 (IntKind.wrap .i64 (x556 - (n:Int)))).bind fun x598=>some ((s459.2.1.set (Int.toNat (IntKind.wrap .i64 (x556 - (n:Int)))) (-1)),s459.2.2.2))).bind fun s592=>some (s459.1,s592.1,s459.2.2.1,s592.2))).bind fun s577=>some (s577.1,s577.2.1,s577.2.2.1,s577.2.2.2):Option ((List Int)×(List Int)×(List Int)×(List Int)))) (s124.2.1,s124.2.2,([]: (List Int)),([]: (List Int)))).bind fun s459=>(bif (decide ((IntKind.wrap .i64 ((s459.2.2.1.length:Int)+ (s459.2.2.2.length:Int)))>0)) then ((app 72 s124.1 [(⟨s459.2.2.1,s459.2.2.2,([]: (List dB))⟩:bQ)]).bind fun x610=>some x610) else (some s124.1)).bind fun s606=>some (s606,s459.1,s459.2.1):Option ((List bQ)×(List Int)×(List Int))))):
  Ok (nI (rh (n+m) r).length body ([],op,ob)) (fun st=>st.1=kZ bs n (n+m) r (bL (n+m) r)/\Ma bs n m r (bL (n+m) r) st.2.1 st.2.2):=by
 subst hbody
 have hsl: (rh (n+m) r).length= (bL (n+m) r).length:=by unfold rh;simp
 have hhl:=kG (n+m) r
 refine Ok.mono (Ok.nI (fun(k:Nat) (st:List bQ×List Int×List Int)=>st.1=kZ bs n (n+m) r ((bL (n+m) r).take k)/\Ma bs n m r ((bL (n+m) r).take k) st.2.1 st.2.2) (by omega) ⟨rfl,hop,hob,fun i hi h=>by simp at h,fun j hj h=>by simp at h⟩ (fun k st hk hI=>?_)) (fun st h=>by rw [hsl,dZ] at h;exact h)
 obtain⟨gs,ofP,ofB⟩:=st
 obtain⟨e1,I⟩:=hI
 dsimp only at e1 I ⊢
 subst e1
 rw [hsl] at hk
 have hkx: (bL (n+m) r)[k]? =some (bL (n+m) r)[k]:=aO hk
 have hts: (bL (n+m) r).take (k+1)= (bL (n+m) r).take k++[(bL (n+m) r)[k]]:=dS hk
 have hgk:gi bs n (n+m) r (bL (n+m) r)[k]= (kZ bs n (n+m) r ((bL (n+m) r).take k)).length:=by
  unfold gi;rw [wz (mW _ _) hkx,rk]
 generalize hh: (bL (n+m) r)[k]=h at *
 have hsx: (rh (n+m) r)[k]? =some (ints (cls (n+m) r h)):=by unfold rh;rw [gq,hkx];rfl
 refine Ok.ix hsx ?_
 have hcl:=yd (n+m) r h
 rw [kq]
 have hgl: (kZ bs n (n+m) r ((bL (n+m) r).take k)).length<=n+m:=by
  rw [rk]
  have:=oY bs n (n+m) r ((bL (n+m) r).take k)
  rw [cG] at this;omega
 have hold: ∀i∈cls (n+m) r h,∀i',r i'∈(bL (n+m) r).take k->i≠i':=fun i hi i' hi' e=>by
  subst e
  rw [(pB.1 hi).2] at hi'
  obtain⟨j,hj⟩:=dU hi'
  have hjk:j<k:=by have:=(bD.1 hj).1;rw [cG] at this;omega
  rw [List.getElem?_take_of_lt hjk] at hj
  have:=y7 (mW (n+m) r) hj hkx
  omega
 refine Ok.bind (P:=fun s'=>Ma bs n m r ((bL (n+m) r).take (k+1)) s'.1 s'.2.1/\s'.2.2.1=ints (gP n (cls (n+m) r h))/\s'.2.2.2=ints (gB bs n (cls (n+m) r h))) (Ok.mono (Ok.nI
  (fun(t:Nat) (s':List Int×List Int×List Int×List Int)=>Ma bs n m r ((bL (n+m) r).take k) s'.1 s'.2.1/\s'.2.2.1=ints (gP n ((cls (n+m) r h).take t))/\s'.2.2.2=ints (gB bs n ((cls (n+m) r h).take t))/\
   (∀i∈(cls (n+m) r h).take t,i<n->s'.1[i]? =some ((gi bs n (n+m) r h:Nat):Int))/\∀i∈(cls (n+m) r h).take t,¬i<n->s'.2.1[i - n]? =some (if th bs (i - n)=true then ((gi bs n (n+m) r h:Nat):Int) else -1)) (by omega)
   ⟨I,rfl,rfl,fun i hi=>by simp at hi,fun i hi=>by simp at hi⟩ (fun t s' ht hI'=>?_)) ?_) ?_
 ·obtain⟨oP,oB,pp,bb⟩:=s'
  obtain⟨J,e2,e3,J1,J2⟩:=hI'
  dsimp only at J e2 e3 J1 J2 ⊢
  subst e2;subst e3
  have htx: (ints (cls (n+m) r h))[t]? =some (((cls (n+m) r h)[t]:Nat):Int):=by unfold ints;rw [gq,aO ht];rfl
  refine Ok.ix htx ?_
  have htt: (cls (n+m) r h).take (t+1)= (cls (n+m) r h).take t++[(cls (n+m) r h)[t]]:=dS ht
  have hcm:=cN ht
  have hdist: ∀i∈(cls (n+m) r h).take t,i≠(cls (n+m) r h)[t]:=fun i hi e=>by
   obtain⟨j,hj⟩:=dU hi
   have hjt:j<t:=by have:=(bD.1 hj).1;rw [cG] at this;omega
   rw [List.getElem?_take_of_lt hjt] at hj
   have:=y7 (GZ (n+m) r h) hj (by rw [e];exact aO ht)
   omega
  generalize (cls (n+m) r h)[t]=c at *
  obtain⟨hc1,hc2⟩:=pB.1 hcm
  have hgp:=C0 n ((cls (n+m) r h).take t)
  have hgb:=C1 bs n ((cls (n+m) r h).take t)
  rw [cG] at hgp hgb
  by_cases hcn:c<n
  ·rw [bU (by omega: ((c:Nat):Int)< ((n:Nat):Int)),aQ]
   refine Ok.bind (P:=fun x=>x= (oP.set c ((gi bs n (n+m) r h:Nat):Int),oB,ints (gP n ((cls (n+m) r h).take t))++[((c:Nat):Int)],ints (gB bs n ((cls (n+m) r h).take t)))) ?_ ?_
   ·refine Ok.idx (by rw [J.lp];exact hcn) (Ok.app (by rw [kq];simp;omega) (Ok.ret ?_))
    rw [cK,hgk]
   ·rintro _ rfl
    refine Ok.ret ⟨⟨by simp [J.lp],J.lb,fun i hi hr=>?_,J.bo⟩,?_,?_,fun i hi hin=>?_,fun i hi hin=>?_⟩
    ·dsimp only
     rw [nW (by rw [J.lp];exact hcn),aF (fun e=>hold c hcm i hr e.symm)];exact J.pc i hi hr
    ·dsimp only;rw [htt,F8,aC hcn,pT];rfl
    ·dsimp only;rw [htt,F9,aC hcn]
    ·dsimp only
     rw [nW (by rw [J.lp];exact hcn)]
     split
     ·rfl
     ·rename_i hne
      rw [htt] at hi
      rcases dA.1 hi with hi | hi
      ·exact J1 i hi hin
      ·exact absurd (by simpa using hi) hne
    ·rw [htt] at hi
     rcases dA.1 hi with hi | hi
     ·exact J2 i hi hin
     ·have:i=c:=by simpa using hi
      subst this;exact absurd hcn hin
  ·rw [cF (by omega: ¬((c:Nat):Int)< ((n:Nat):Int)),aR]
   have hw:IntKind.wrap .i64 (((c:Nat):Int) - ((n:Nat):Int))= ((c - n:Nat):Int):=by rw [fE (by omega) (by omega)];omega
   have hcm2:c - n<bs.length:=by omega
   have hpl:th bs (c - n)=bs[c - n].fY:=by unfold th;rw [aO hcm2];rfl
   rw [hw]
   refine Ok.bind (P:=fun x=>x= (oP,oB.set (c - n) (if th bs (c - n)=true then ((gi bs n (n+m) r h:Nat):Int) else -1),ints (gP n ((cls (n+m) r h).take t)),ints (gB bs n ((cls (n+m) r h).take t++[c])))) ?_ ?_
   ·refine Ok.idx hcm2 ?_
    rw [F9,aF hcn,hpl]
    cases hp:bs[c - n].fY with
    | true=>
     rw [aQ,aC rfl,aC rfl]
     refine Ok.eq (x:=(oB.set (c - n) ((gi bs n (n+m) r h:Nat):Int),ints (gB bs n ((cls (n+m) r h).take t)++[c - n]))) ?_ (Ok.ret rfl)
     rw [k9 _ _ (by rw [J.lb];omega),aB,kN (by rw [kq];simp;omega),aB,cK,hgk,pT];rfl
    | false=>
     rw [aR,aF (by simp),aF (by simp)]
     refine Ok.eq (x:=(oB.set (c - n) (-1),ints (gB bs n ((cls (n+m) r h).take t)))) ?_ (Ok.ret rfl)
     rw [k9 _ _ (by rw [J.lb];omega),aB,cK]
   ·rintro _ rfl
    refine Ok.ret ⟨⟨J.lp,by simp [J.lb],J.pc,fun j hj hr=>?_⟩,?_,?_,fun i hi hin=>?_,fun i hi hin=>?_⟩
    ·dsimp only
     rw [nW (by rw [J.lb];omega),aF (fun e=>hold c hcm (n+j) hr (by omega))];exact J.bo j hj hr
    ·dsimp only;rw [htt,F8,aF hcn]
    ·dsimp only;rw [htt]
    ·rw [htt] at hi
     rcases dA.1 hi with hi | hi
     ·exact J1 i hi hin
     ·have:i=c:=by simpa using hi
      subst this;exact absurd hin hcn
    ·dsimp only
     rw [nW (by rw [J.lb];omega)]
     split
     ·rename_i e;rw [e]
     ·rename_i hne
      rw [htt] at hi
      rcases dA.1 hi with hi | hi
      ·exact J2 i hi hin
      ·exact absurd (by have:i=c:=(by simpa using hi);rw [this]) hne
 ·rintro⟨oP,oB,pp,bb⟩ ⟨J,e2,e3,J1,J2⟩
  dsimp only at J e2 e3 J1 J2 ⊢
  rw [dZ] at e2 e3 J1 J2
  refine⟨⟨J.lp,J.lb,fun i hi hr=>?_,fun j hj hr=>?_⟩,e2,e3⟩
  ·rw [hts] at hr
   rcases dA.1 hr with hr | hr
   ·exact J.pc i hi hr
   ·have hr:r i=h:=by simpa using hr
    rw [hr];exact J1 i (pB.2 ⟨by omega,hr⟩) hi
  ·rw [hts] at hr
   rcases dA.1 hr with hr | hr
   ·exact J.bo j hj hr
   ·have hr:r (n+j)=h:=by simpa using hr
    rw [hr]
    have:=J2 (n+j) (pB.2 ⟨by omega,hr⟩) (by omega)
    rwa [Nat.add_sub_cancel_left] at this
 ·rintro⟨oP,oB,pp,bb⟩ ⟨J,e2,e3⟩
  dsimp only at J e2 e3 ⊢
  subst e2;subst e3
  have hgp:=C0 n (cls (n+m) r h)
  have hgb:=C1 bs n (cls (n+m) r h)
  rw [kq,kq,wrap_add (by omega)]
  have hgs:kZ bs n (n+m) r ((bL (n+m) r).take (k+1))=if Ek bs n (cls (n+m) r h)=true then kZ bs n (n+m) r ((bL (n+m) r).take k)++[JS bs n (cls (n+m) r h)] else kZ bs n (n+m) r ((bL (n+m) r).take k):=by
   unfold kZ
   rw [hts,Cj]
   split
   ·rw [dL];rfl
   ·rfl
  refine Ok.bind (P:=fun x=>x=kZ bs n (n+m) r ((bL (n+m) r).take (k+1))) (Ok.bif (fun hb=>?_) (fun hb=>Ok.ret ?_)) (fun x e=>Ok.ret ⟨e,J⟩)
  ·have hne:Ek bs n (cls (n+m) r h)=true:=bU (by have:=of_decide_eq_true hb;omega)
   refine Ok.app (by simp;omega) (Ok.ret ?_)
   rw [hgs,aC hne];rfl
  ·have hne: ¬Ek bs n (cls (n+m) r h)=true:=fun h'=>by
    have h1:=of_decide_eq_true h'
    have h2:=of_decide_eq_false hb
    omega
   rw [hgs,aF hne]
end
end Go.Gk
namespace Go.Gk
open Go Classical
section
variable {N:Nat}
def l3 (n:Nat) (h:ka):Nat:=if h.cA=true then n+h.Number.toNat else h.Number.toNat
structure JU (bs:List cA) (n m:Nat) (h:ka):Prop where
 num: ∃k:Nat,h.Number= ((k:Nat):Int)/\(h.cA=true->k<m/\th bs k=true)/\(h.cA=false->k<n)
theorem Ig {bs:List cA} {pcs:List aK} {l:eQ} {h:ka} (hh:z6 bs pcs l=some h):JU bs pcs.length bs.length h:=by
 unfold z6 at hh
 cases hf:bs.findIdx? (lF l) with
 | some k=>
  rw [hf] at hh
  injection hh with hh;subst hh
  obtain⟨hk,hp,_⟩:=List.findIdx?_eq_some_iff_getElem.1 hf
  refine⟨k,rfl,fun _=>⟨hk,?_⟩,fun h=>by cases h⟩
  unfold lF at hp
  unfold th
  rw [aO hk]
  rw [bX] at hp
  exact hp.1
 | none=>
  rw [hf] at hh
  dsimp only at hh
  rw [py] at hh
  obtain⟨k,hk,rfl⟩:=hh
  obtain⟨hk,_⟩:=List.findIdx?_eq_some_iff_getElem.1 hk
  exact⟨k,rfl,fun h=>(by cases h),fun _=>hk⟩
def zB (bs:List cA) (pcs:List aK) (r:Nat->Nat) (l:eQ):Option Nat:=(z6 bs pcs l).map fun h=>gi bs pcs.length (pcs.length+bs.length) r (r (l3 pcs.length h))
def Bf (bs:List cA) (pcs:List aK) (r:Nat->Nat) (l:eQ):Int:=match zB bs pcs r l with | some g=>((g:Nat):Int) | none=> -1
def gj (gs:List bQ) (lg:eQ->Option Nat) (ls:List eQ):List bQ:=gs.mapIdx (fun g x=>{x with eE:=(ls.filter (fun l=>decide (lg l=some g))).map lZ})
theorem i5 {gs:List bQ} {lg:eQ->Option Nat} {ls:List eQ} {g:Nat}: (gj gs lg ls)[g]? = (gs[g]?).map fun x=>{x with eE:=(ls.filter (fun l=>decide (lg l=some g))).map lZ}:=by
 unfold gj;rw [List.getElem?_mapIdx]
theorem tZ (gs:List bQ) (lg:eQ->Option Nat) (ls:List eQ): (gj gs lg ls).length=gs.length:=by unfold gj;rw [List.length_mapIdx]
theorem wA {gs:List bQ} {lg:eQ->Option Nat} {ls:List eQ} {l:eQ} (h:lg l=none):gj gs lg (ls++[l])=gj gs lg ls:=by
 apply List.ext_getElem?
 intro g
 rw [i5,i5]
 congr 2
 funext x
 rw [j4]
 simp [h]
theorem yk {gs:List bQ} {lg:eQ->Option Nat} {ls:List eQ} {l:eQ} {k:Nat} {x:bQ} (h:lg l=some k) (hx: (gj gs lg ls)[k]? =some x):
  (gj gs lg ls).set k {x with eE:=x.eE++[lZ l]}=gj gs lg (ls++[l]):=by
 apply List.ext_getElem?
 intro g
 have hk:=(bD.1 hx).1
 rw [fD]
 by_cases e:k=g
 ·subst e
  rw [aC rfl,aC hk,i5]
  rw [i5,py] at hx
  obtain⟨y,hy,rfl⟩:=hx
  rw [hy,j4]
  simp [h]
 ·rw [aF e,i5,i5]
  congr 2
  funext x
  rw [j4]
  have: ¬(lg l=some g):=by rw [h];intro h';injection h' with h';exact e h'
  simp [this]
theorem Ih {bs:List cA} {n t:Nat} {r:Nat->Nat} {i:Nat} (hi:i<n) (ht:i<t):Ek bs n (cls t r (r i))=true:=by
 unfold Ek
 rw [bV]
 have:i∈gP n (cls t r (r i)):=jy.2 ⟨pB.2 ⟨ht,rfl⟩,by simpa using hi⟩
 have:=List.length_pos_of_mem this
 omega
theorem Ii {bs:List cA} {n t:Nat} {r:Nat->Nat} {j:Nat} (hp:th bs j=true) (ht:n+j<t):Ek bs n (cls t r (r (n+j)))=true:=by
 unfold Ek
 rw [bV]
 have:j∈gB bs n (cls t r (r (n+j))):=dC.2 ⟨n+j,jy.2 ⟨pB.2 ⟨ht,rfl⟩,by simp [hp]⟩,by omega⟩
 have:=List.length_pos_of_mem this
 omega
structure y8 (bs:List cA) (ls:List eQ) (pcs:List aK) (r:Nat->Nat) (gs:List bQ) (ofP ofB tu:List Int) (uq:List ka):Prop where
 conn:Ji pcs.length bs.length (j9 bs pcs) r
 gs:gs=gj (kZ bs pcs.length (pcs.length+bs.length) r (bL (pcs.length+bs.length) r)) (zB bs pcs r) ls
 of:Ma bs pcs.length bs.length r (bL (pcs.length+bs.length) r) ofP ofB
 tu:tu=ls.map (Bf bs pcs r)
 uq:uq=ls.map (fun l=>(z6 bs pcs l).getD ⟨false,0⟩)
theorem Em {bs:List cA} {pcs:List aK} (hp:pcs.length<=1073741824): ∀l∈j9 bs pcs,l.length<=1073741824/\∀x∈l,∃i:Nat,i<pcs.length/\x= ((i:Nat):Int):=by
 intro l hl
 unfold j9 at hl
 obtain⟨b,_,rfl⟩:=dC.1 hl
 have:=y6 (g9 b) pcs pcs.length
 refine⟨by rw [kq];omega,fun x hx=>?_⟩
 obtain⟨i,hi,rfl⟩:=pU.1 hx
 exact⟨i,(GX.1 hi).1,rfl⟩
theorem C2 {bs:List cA} {ls:List eQ} {pcs:List aK} (hb:kH bs) (hp:pcs.length<=1000000000) (hr: ∀p∈pcs,p.iQ.length<=1073741824) (hl:ls.length<=1073741824) (hN:4398046511104<=N):
  Ok (gu N bs ls pcs (j9 bs pcs) [] [] [] []) (fun x=>∃r,y8 bs ls pcs r x.1 x.2.1 x.2.2.1 x.2.2.2.1 x.2.2.2.2):=by
 have hbl:=hb.len
 unfold gu
 rw [wrap_add (by omega)]
 obtain⟨up0,u1,u2⟩:=Ea (N:=N) (n:=pcs.length+bs.length) (by omega)
 refine Ok.eq u1 ?_
 refine Ok.bind (GY (n:=pcs.length) (m:=bs.length) (by unfold j9;simp) (Em (by omega)) (by omega) (by omega) u2 hN) ?_
 rintro up1 ⟨r,v1,v2⟩
 refine Ok.eq (rR 0 (by omega)) (Ok.eq (rR 0 (by omega)) ?_)
 obtain⟨up2,w1,_⟩:=Jg (N:=N) v1 (by omega) (by omega)
 refine Ok.eq w1 ?_
 refine Ok.bind (El (bs:=bs) (n:=pcs.length) (m:=bs.length) (r:=r) rfl (by omega) (by omega) (op:=List.replicate pcs.length 0) (ob:=List.replicate bs.length 0) (by simp) (by simp) rfl) ?_
 rintro⟨gs,ofP,ofB⟩ ⟨e1,I⟩
 dsimp only at e1 I ⊢
 subst e1
 have hgl: (kZ bs pcs.length (pcs.length+bs.length) r (bL (pcs.length+bs.length) r)).length<=pcs.length+bs.length:=by
  rw [rk]
  have:=oY bs pcs.length (pcs.length+bs.length) r (bL (pcs.length+bs.length) r)
  have:=kG (pcs.length+bs.length) r
  omega
 refine Ok.bind (Ok.nI (fun(k:Nat) (st:List bQ×List Int×List Int×List Int×List ka)=>st= (gj (kZ bs pcs.length (pcs.length+bs.length) r (bL (pcs.length+bs.length) r)) (zB bs pcs r) (ls.take k),ofP,ofB,(ls.take k).map (Bf bs pcs r),(ls.take k).map (fun l=>(z6 bs pcs l).getD ⟨false,0⟩))) (by omega) ?_ (fun k st hk e=>?_)) ?_
 ·congr 1
  unfold gj
  apply List.ext_getElem?
  intro g
  rw [List.getElem?_mapIdx]
  unfold kZ
  rw [gq]
  cases (live bs pcs.length (pcs.length+bs.length) r (bL (pcs.length+bs.length) r))[g]? <;> rfl
 ·subst e
  dsimp only
  have hts:ls.take (k+1)=ls.take k++[ls[k]]:=dS hk
  refine Ok.idx hk (Ok.eq (Ie hb (by omega) hr _) ?_)
  dsimp only
  refine Ok.bind (P:=fun x=>x= (gj (kZ bs pcs.length (pcs.length+bs.length) r (bL (pcs.length+bs.length) r)) (zB bs pcs r) (ls.take k++[ls[k]]),Bf bs pcs r ls[k])) ?_ ?_
  ·cases hh:z6 bs pcs ls[k] with
   | none=>
    refine Ok.ret ?_
    have h1:zB bs pcs r ls[k]=none:=by unfold zB;rw [hh];rfl
    rw [wA h1]
    unfold Bf;rw [h1]
   | some h=>
    have h1:zB bs pcs r ls[k]=some (gi bs pcs.length (pcs.length+bs.length) r (r (l3 pcs.length h))):=by unfold zB;rw [hh];rfl
    have h2:Bf bs pcs r ls[k]= ((gi bs pcs.length (pcs.length+bs.length) r (r (l3 pcs.length h)):Nat):Int):=by unfold Bf;rw [h1]
    obtain⟨q,q1,q2,q3⟩:=(Ig hh).num
    have hix:l3 pcs.length h<pcs.length+bs.length/\Ek bs pcs.length (cls (pcs.length+bs.length) r (r (l3 pcs.length h)))=true/\iD N ofP ofB h=some ((gi bs pcs.length (pcs.length+bs.length) r (r (l3 pcs.length h)):Nat):Int):=by
     unfold iD l3
     rw [q1,cK]
     cases hbo:h.cA with
     | true=>
      obtain⟨q4,q5⟩:=q2 hbo
      rw [aQ,aC rfl]
      refine⟨by omega,Ii q5 (by omega),?_⟩
      have:=I.bo q q4 (jv.2 ⟨by have:=v2.le (pcs.length+q) (by omega);omega,v2.rr _ (by omega)⟩)
      rw [aC q5] at this
      rw [eM this,aB]
     | false=>
      have q4:=q3 hbo
      rw [aR,aF (by simp)]
      refine⟨by omega,Ih q4 (by omega),?_⟩
      have:=I.pc q q4 (jv.2 ⟨by have:=v2.le q (by omega);omega,v2.rr _ (by omega)⟩)
      rw [eM this,aB]
    obtain⟨i1,i2,i3⟩:=hix
    have hgi:=JT (r:=r) (t:=pcs.length+bs.length) (bs:=bs) (n:=pcs.length) (h:=r (l3 pcs.length h)) (jv.2 ⟨by have:=v2.le _ i1;omega,v2.rr _ i1⟩) i2
    have hgx:gi bs pcs.length (pcs.length+bs.length) r (r (l3 pcs.length h))< (gj (kZ bs pcs.length (pcs.length+bs.length) r (bL (pcs.length+bs.length) r)) (zB bs pcs r) (ls.take k)).length:=by
     rw [tZ,rk];exact hgi.1
    rw [h2]
    dsimp only [Option.getD,Option.isSome]
    rw [aQ]
    refine Ok.eq i3 ?_
    generalize gi bs pcs.length (pcs.length+bs.length) r (r (l3 pcs.length h))=g at *
    refine Ok.idx hgx (Ok.eq (y4 _) ?_)
    have hpl: ((gj (kZ bs pcs.length (pcs.length+bs.length) r (bL (pcs.length+bs.length) r)) (zB bs pcs r) (ls.take k))[g]).eE.length<=ls.length:=by
     have:=i5 (gs:=kZ bs pcs.length (pcs.length+bs.length) r (bL (pcs.length+bs.length) r)) (lg:=zB bs pcs r) (ls:=ls.take k) (g:=g)
     rw [aO hgx] at this
     have:=this.symm
     rw [py] at this
     obtain⟨y,_,hy⟩:=this
     rw [<-hy,cV]
     have:=lL (fun l=>decide (zB bs pcs r l=some g)) (ls.take k)
     rw [cG] at this;omega
    refine Ok.app (by simp;omega) (Ok.idx hgx (Ok.ret ?_))
    rw [cK]
    congr 1
    exact yk h1 (aO hgx)
  ·rintro _ rfl
   dsimp only
   refine Ok.app (by simp;omega) (Ok.app (by simp;omega) (Ok.ret ?_))
   rw [hts,dL,dL];rfl
 ·rintro st rfl
  dsimp only
  rw [dZ]
  exact Ok.ret ⟨r,v2,rfl,I,rfl,rfl⟩
end
end Go.Gk
namespace Go.Gk
open Go Classical
section
variable {N:Nat}
theorem y9 {p:aK}: ∀{gE:List (List (List aA))} {k:Nat},p∈eD k gE->∃(i:Nat) (ps:List (List aA)) (q:List aA),gE[i]? =some ps/\q∈ps/\p= ⟨((k+i:Nat):Int),q,aS q⟩
 | [],k,h=>by cases h
 | ps::gE,k,h=>by
  rcases dA.1 h with h | h
  ·obtain⟨q,hq,rfl⟩:=dC.1 h
   exact⟨0,ps,q,rfl,hq,rfl⟩
  ·obtain⟨i,ps',q,h1,h2,h3⟩:=y9 h
   refine⟨i+1,ps',q,by simpa using h1,h2,?_⟩
   rw [h3,show k+1+i=k+ (i+1) by omega]
structure pC (a:kY):Prop where
 xm:0<a.aJ.length/\a.aJ.length<=16
 NG: ∀r∈a.aJ,j6 r=0
 out:j6 a.cI=0
 many:a.cI.length+ (a.aJ.map List.length).sum<=2000
 yl:jh a=0
 Ck:mZ a=0
theorem pC.gb {a:kY} (h:pC a):kH a.aN:=⟨(mf h.yl).1,fun b hb=>⟨((mf h.yl).2 b hb).1,((mf h.yl).2 b hb).2.1⟩⟩
theorem pC.cs {a:kY} (h:pC a): ∀r∈a.aJ,r.length<=2000/\∀x∈r,BD x:=fun r hr=>Ba (vr.1 (h.NG r hr)).1
structure ym (a:kY) (m7:List (List aA)) (gE:List (List (List aA))) (p:aK) (i:Nat) (r:List aI) (s:List aA) (ps:List (List aA)) (u:Nat->Nat) (j k:Nat):Prop where
 N2:a.aJ[i]? =some r
 m7:m7[i]? =some s
 gE:gE[i]? =some ps
 dr:tX r (j8 a.aN ((i:Nat):Int)) s
 pt:rU s u ps
 at_:ps[j]? =some p.Set
 head: (bL (aS s).length u)[j]? =some k
 set:tc (nR (aS s) (aS s).length u k) p.Set
 lim:xl (s8 r++s8 (j8 a.aN ((i:Nat):Int))) (jB r++jB (j8 a.aN ((i:Nat):Int))) (p.Set.map cB)
 Mb:p.cU= ((i:Nat):Int)
 Mc:p.iQ=aS p.Set
theorem Ij {a:kY} {m7:List (List aA)} {gE:List (List (List aA))} (hg:pC a) (hD:xc a.aJ a.aN a.aJ.length m7 gE) {p:aK} (hp:p∈eD 0 gE): ∃i r s ps u j k,ym a m7 gE p i r s ps u j k:=by
 obtain⟨i,ps,q,h1,h2,rfl⟩:=y9 hp
 have hil:i<a.aJ.length:=by have:=(bD.1 h1).1;rw [hD.z5] at this;exact this
 have hc:a.aJ[i]? =some a.aJ[i]:=aO hil
 have hd:m7[i]? =some (m7[i]'(by rw [hD.len];exact hil)):=aO _
 have hdr:=hD.dr i _ _ hil hc hd
 obtain⟨u,hu⟩:=hD.pt i _ ps hil hd h1
 obtain⟨sx,sy⟩:=hdr.small (hg.cs _ (cN hil)).2 (fun x hx=>(rj hg.gb _ x hx).1)
 obtain⟨j,k,g1,g2,g3,g4⟩:=Be hu hdr.can hdr.lim sx sy h2
 exact⟨i,_,_,ps,u,j,k,hc,hd,h1,hdr,hu,g1,g2,g3,g4,by rw [iO],rfl⟩
theorem ym.Eh {a:kY} {m7:List (List aA)} {gE:List (List (List aA))} (hg:pC a) {p:aK} {i:Nat} {r:List aI} {s:List aA} {ps:List (List aA)} {u:Nat->Nat} {j k:Nat} (h:ym a m7 gE p i r s ps u j k):
  p.Set.length<=5000/\(∀b∈p.Set,b.Xs.length<=5000)/\p.iQ.length<=5000*5000:=by
 have h1:=(hg.cs r (eY h.N2)).1
 have h2:=y5 hg.gb ((i:Nat):Int)
 rw [h.Mc]
 exact vP (A:=5000) h.set.can h.lim (by rw [cW,lX,lX];omega) (by rw [cW,jJ,jJ];omega)
def yn (a0 a1 b0 b1:Int):Bool:=decide (b0<a1)&&decide (a0<b1)
def En (a b:aI):Bool:=yn a.X0 a.X1 b.X0 b.X1&&yn a.Y0 a.Y1 b.Y0 b.Y1
theorem Bg {a0 a1 b0 b1:Int} (h1: -1000000<=a0/\a0<=1000000) (h2: -1000000<=a1/\a1<=1000000) (h3: -1000000<=b0/\b0<=1000000) (h4: -1000000<=b1/\b1<=1000000): ∃n,l9 N a0 a1 b0 b1=some n/\0<=n/\(n=0↔yn a0 a1 b0 b1=true):=by
 unfold l9 yn
 have e1:IntKind.wrap .i64 (b0 - a1)=b0 - a1:=fE (by omega) (by omega)
 have e2:IntKind.wrap .i64 (a0 - b1)=a0 - b1:=fE (by omega) (by omega)
 have e3:IntKind.wrap .i64 (b0 - a1+1)=b0 - a1+1:=fE (by omega) (by omega)
 have e4:IntKind.wrap .i64 (a0 - b1+1)=a0 - b1+1:=fE (by omega) (by omega)
 rw [e1,e2,e3,e4]
 refine⟨_,rfl,?_,?_⟩
 ·repeat' split
  all_goals omega
 ·rw [bX,bV,bV]
  repeat' split
  all_goals omega
theorem Ky {a b:aI} (h1:fG a=true) (h2:fG b=true): ∃n,sC N a b=some n/\(n=0↔En a b=true):=by
 have b1:=mY h1
 have b2:=mY h2
 obtain⟨n,n1,n2,n3⟩:=Bg (N:=N) (a0:=a.X0) (a1:=a.X1) (b0:=b.X0) (b1:=b.X1) (by omega) (by omega) (by omega) (by omega)
 obtain⟨m,m1,m2,m3⟩:=Bg (N:=N) (a0:=a.Y0) (a1:=a.Y1) (b0:=b.Y0) (b1:=b.Y1) (by omega) (by omega) (by omega) (by omega)
 unfold sC En
 rw [n1,aB,m1,aB]
 refine⟨_,rfl,?_⟩
 rw [bX,<-n3,<-m3]
 split <;> omega
def rl (x y:cA):Bool:=(decide (x.cO<=y.To)&&decide (y.cO<=x.To))&&En (uL x) (uL y)
def rm (a:kY):Prop:=∃(i k:Nat) (x y:cA),k<i/\a.aN[i]? =some x/\a.aN[k]? =some y/\rl x y=true
noncomputable def wh (r:List aI):Option Int:=if j6 r≠0 then some (j6 r) else none
noncomputable def Eo (a:kY):Int:=if 2000<a.cI.length+ (a.aJ.map List.length).sum then 2 else if jh a≠0 then jh a else if mZ a≠0 then mZ a else if rm a then 12 else 0
noncomputable def Ik (a:kY):Int:=match a.aJ.findSome? wh with | some e=>e | none=>if j6 a.cI≠0 then j6 a.cI else Eo a
noncomputable def kS (a:kY):Int:=if a.aJ.length=0 then 9 else if 16<a.aJ.length then 2 else Ik a
def KG (m7:List (List aA)) (gE:List (List (List aA))):Prop:=(∀s∈m7,(aS s).length<=2000)/\(eD 0 gE).length<=2000
abbrev Bh:=(List (List aI))×(List aI)×(List cA)×(List eQ)×(List (List aA))×(List aK)×(List (List Int))×(List bQ)×(List Int)×(List Int)×(List Int)×(List ka)
def JV (a:kY) (x:Option Bh×Int):Prop:=
 (kS a≠0/\x= (none,kS a))\/(kS a=0/\pC a/\¬rm a/\∃m7 gE,xc a.aJ a.aN a.aJ.length m7 gE/\
  ((¬KG m7 gE/\x= (none,2))\/(KG m7 gE/\∃r gs ofP ofB tu uq,y8 a.aN a.bM (eD 0 gE) r gs ofP ofB tu uq/\
   x= (some (a.aJ,a.cI,a.aN,a.bM,m7,eD 0 gE,j9 a.aN (eD 0 gE),gs,ofP,ofB,tu,uq),0))))
structure vt (a:kY):Prop where
 cs:a.aJ.length<=1048576
 each: ∀r∈a.aJ,r.length<=1048576
 out:a.cI.length<=1048576
 bs:a.aN.length<=1048576
 ls:a.bM.length<=1048576
 nm:Bb a
theorem Ep {a:kY} (h:bk a<=1048576):vt a:=by
 rw [HX] at h
 have h1:=yL a.aJ
 have h2:=yL a.cI
 have h3:=yL a.aN
 have h4:=yL a.bM
 refine⟨by omega,fun r hr=>?_,by omega,by omega,by omega,fun x hx=>?_⟩
 ·have:=Fb hr
  have:=yL r;omega
 ·have:=Fb hx
  rw [FY,HU,HU] at this;omega
theorem Cl {a:kY} (hs:vt a) (hN:4398046511104<=N):Ok (jF N a) (JV a):=by
 unfold jF
 have pe: ∀e:Int,e≠0->kS a=e->Ok (some ((none:Option Bh),e)) (JV a):=fun e he h=>Ok.ret (.inl ⟨by rw [h];exact he,by rw [h]⟩)
 have c1:=hs.cs
 refine Ok.bif (fun h=>?_) (fun h=>?_)
 ·have:a.aJ.length=0:=by have:=beq_iff_eq.1 h;omega
  exact pe 9 (by omega) (by unfold kS;rw [aC this])
 have h0: ¬a.aJ.length=0:=by rw [beq_eq_false_iff_ne] at h;omega
 refine Ok.bif (fun h=>?_) (fun h=>?_)
 ·have h1:16<a.aJ.length:=by have:=of_decide_eq_true h;omega
  exact pe 2 (by omega) (by unfold kS;rw [aF h0,aC h1])
 have h1: ¬16<a.aJ.length:=by have:=of_decide_eq_false h;omega
 have pe1:kS a=Ik a:=by unfold kS;rw [aF h0,aF h1]
 have hso:=hs.out
 have sumle: ∀k,k<=a.aJ.length->((a.aJ.take k).map List.length).sum<=k*1048576:=by
  intro k
  induction k with
  | zero=>intro _;simp
  | succ k ih=>
   intro hk
   have:=ih (by omega)
   have h2:=hs.each _ (cN (show k<a.aJ.length by omega))
   rw [dS (by omega),dL,List.sum_append]
   simp only [eA,List.map_nil,List.sum_cons,List.sum_nil]
   rw [Nat.add_mul];omega
 refine Ok.bind (Ok.ue (Go:=fun s:Int=>s= ((a.cI.length+ (a.aJ.map List.length).sum:Nat):Int)/\∀r∈a.aJ,j6 r=0) (Rt:=fun x:Option Bh×Int=>∃e,e≠0/\x= (none,e)/\a.aJ.findSome? wh=some e)
  (fun(k:Nat) (s:Int)=>s= ((a.cI.length+ ((a.aJ.take k).map List.length).sum:Nat):Int)/\∀r∈a.aJ.take k,j6 r=0) (by omega) ⟨by simp,fun r hr=>by simp at hr⟩ (fun k s hk hI=>?_) (fun s hI=>by rw [dZ] at hI;exact hI)) ?_
 ·obtain⟨e,hI⟩:=hI
  subst e
  have hkx:a.aJ[k]? =some a.aJ[k]:=aO hk
  have hts:a.aJ.take (k+1)=a.aJ.take k++[a.aJ[k]]:=dS hk
  have he:=hs.each _ (cN hk)
  refine Ok.ix hkx (Ok.eq (vq (by omega) hN) ?_)
  refine Ok.bif (fun h=>Ok.rt ?_) (fun h=>Ok.nx ?_)
  ·have h:j6 a.aJ[k]≠0:=by simpa using h
   refine⟨_,h,rfl,?_⟩
   rw [List.findSome?_eq_some_iff]
   refine⟨a.aJ.take k,a.aJ[k],a.aJ.drop (k+1),?_,by unfold wh;rw [aC h],fun r hr=>by unfold wh;rw [aF (by simpa using hI r hr)]⟩
   rw [<-tv hk,List.take_append_drop]
  ·have h:j6 a.aJ[k]=0:=by simpa using h
   have:=sumle k (by omega)
   have hk16:k*1048576<=16*1048576:=Nat.mul_le_mul_right _ (by omega)
   refine⟨?_,fun r hr=>?_⟩
   ·rw [wrap_add (by omega),hts,dL,List.sum_append]
    simp only [eA,List.map_nil,List.sum_cons,List.sum_nil]
    congr 1
    omega
   ·rw [hts] at hr
    rcases dA.1 hr with hr | hr
    ·exact hI r hr
    ·simp at hr;subst hr;exact h
 intro o ho
 refine Ok.cs ho ?_ ?_
 rotate_left
 ·rintro x ⟨e,he,rfl,hf⟩
  exact pe e he (by rw [pe1];unfold Ik;rw [hf])
 rintro s ⟨rfl,hreg⟩
 have Mh:a.aJ.findSome? wh=none:=List.findSome?_eq_none_iff.2 fun r hr=>by unfold wh;rw [aF (by simpa using hreg r hr)]
 have pe2:kS a=if j6 a.cI≠0 then j6 a.cI else Eo a:=by rw [pe1];unfold Ik;rw [Mh]
 refine Ok.eq (vq (by omega) hN) ?_
 refine Ok.bif (fun h=>?_) (fun h=>?_)
 ·have h:j6 a.cI≠0:=by simpa using h
  exact pe _ h (by rw [pe2,aC h])
 have hout:j6 a.cI=0:=by simpa using h
 have pe3:kS a=Eo a:=by rw [pe2,aF (by simpa using hout)]
 refine Ok.bif (fun h=>?_) (fun h=>?_)
 ·have h:2000<a.cI.length+ (a.aJ.map List.length).sum:=by have:=of_decide_eq_true h;omega
  exact pe 2 (by omega) (by rw [pe3];unfold Eo;rw [aC h])
 have hmany: ¬2000<a.cI.length+ (a.aJ.map List.length).sum:=by have:=of_decide_eq_false h;omega
 have hbs:=hs.bs
 have hls:=hs.ls
 refine Ok.eq (BQ (by omega) (by omega) (by omega)) ?_
 refine Ok.bif (fun h=>?_) (fun h=>?_)
 ·have h:jh a≠0:=by simpa using h
  exact pe _ h (by rw [pe3];unfold Eo;rw [aF hmany,aC h])
 have hbo:jh a=0:=by simpa using h
 refine Ok.eq (BR (by omega) (by omega) hs.nm (by omega)) ?_
 refine Ok.bif (fun h=>?_) (fun h=>?_)
 ·have h:mZ a≠0:=by simpa using h
  exact pe _ h (by rw [pe3];unfold Eo;rw [aF hmany,aF (by simpa using hbo),aC h])
 have hla:mZ a=0:=by simpa using h
 have hg:pC a:=⟨by omega,hreg,hout,by omega,hbo,hla⟩
 have pe4:kS a=if rm a then 12 else 0:=by rw [pe3];unfold Eo;rw [aF hmany,aF (by simpa using hbo),aF (by simpa using hla)]
 refine Ok.bind (Ok.ue (Go:=fun _:Unit=>¬rm a) (Rt:=fun x:Option Bh×Int=>x= (none,12)/\rm a)
  (fun(k:Nat) (_:Unit)=>∀(i j:Nat) (x y:cA),i<k->j<i->a.aN[i]? =some x->a.aN[j]? =some y->¬rl x y=true) (by omega) (fun i j x y h=>by omega) (fun k s hk hI=>?_) (fun s hI=>?_)) ?_
 ·have hkx:a.aN[k]? =some a.aN[k]:=aO hk
  refine Ok.ix hkx (Ok.eq (qT _ k (by omega)) ?_)
  have hgk:=hg.gb.ok _ (cN hk)
  refine Ok.bind (Ok.ue (Go:=fun _:Unit=>∀(j:Nat) (y:cA),j<k->a.aN[j]? =some y->¬rl a.aN[k] y=true) (Rt:=fun x:Option Bh×Int=>x= (none,12)/\rm a)
   (fun(t:Nat) (_:Unit)=>∀(j:Nat) (y:cA),j<t->a.aN[j]? =some y->¬rl a.aN[k] y=true) (by rw [cG];omega) (fun j y h=>by omega) (fun t s ht hI2=>?_) (fun s hI2 j y hj hy=>hI2 j y (by rw [cG];omega) hy)) ?_
  ·have htk:t<k:=by rw [cG] at ht;omega
   have htx: (a.aN.take k)[t]? =some a.aN[t]:=by rw [List.getElem?_take_of_lt htk];exact aO (by omega)
   have hgt:=hg.gb.ok _ (cN (show t<a.aN.length by omega))
   refine Ok.ix htx ?_
   refine Ok.eq (x:=rl a.aN[k] a.aN[t]) ?_ ?_
   ·unfold rl
    cases hc: (decide (a.aN[k].cO<=a.aN[t].To)&&decide (a.aN[t].cO<=a.aN[k].To)) with
    | false=>rfl
    | true=>
     obtain⟨n,n1,n2⟩:=Ky (N:=N) hgk.2 hgt.2
     rw [aQ,mX hgk.1,aB,mX hgt.1,aB,n1,aB,Bool.true_and]
     congr 1
     rw [eX,beq_iff_eq];exact n2
   ·refine Ok.bif (fun h=>Ok.rt ⟨rfl,k,t,_,_,htk,hkx,aO (by omega),h⟩) (fun h=>Ok.nx fun j y hj hy=>?_)
    by_cases e:j<t
    ·exact hI2 j y e hy
    ·have:j=t:=by omega
     subst this
     rw [aO (by omega)] at hy;injection hy with hy
     rw [<-hy,h];simp
  ·intro o ho
   refine Ok.cs ho (fun s hI2=>Ok.nx fun i j x y hi hj hx hy=>?_) (fun x hx=>Ok.rt hx)
   by_cases e:i<k
   ·exact hI i j x y e hj hx hy
   ·have:i=k:=by omega
    subst this
    rw [hkx] at hx;injection hx with hx
    rw [<-hx];exact hI2 j y hj hy
 ·rintro⟨i,j,x,y,hj,hx,hy,hc⟩
  exact hI i j x y (bD.1 hx).1 hj hx hy hc
 intro o ho
 refine Ok.cs ho ?_ ?_
 rotate_left
 ·rintro x ⟨rfl,hc⟩
  exact pe 12 (by omega) (by rw [pe4,aC hc])
 intro _ hncl
 have pe5:kS a=0:=by rw [pe4,aF hncl]
 refine Ok.bind (Fq (N:=N) (by omega) hg.cs hg.gb hN) ?_
 rintro⟨okk,m7,pcs⟩ ⟨gE,D,e1,e2⟩
 dsimp only at D e1 e2 ⊢
 subst e1
 refine Ok.bif (fun h=>Ok.ret (.inr ⟨pe5,hg,hncl,m7,gE,D, .inl ⟨fun hf=>?_,rfl⟩⟩)) (fun h=>?_)
 ·have:=e2.2 hf
  rw [this] at h;cases h
 ·have hf:KG m7 gE:=e2.1 (by cases okk <;> simp_all)
  have hpr: ∀p∈eD 0 gE,p.iQ.length<=1073741824:=fun p hp=>by
   obtain⟨i,r,s,ps,u,j,k,hP⟩:=Ij hg D hp
   have:=(hP.Eh hg).2.2;omega
  have hf2:=hf.2
  refine Ok.eq (Ic hg.gb (by omega) hpr) ?_
  refine Ok.bind (C2 (N:=N) hg.gb (by omega) hpr (by omega) hN) ?_
  rintro⟨gs,ofP,ofB,tu,uq⟩ ⟨r,hC⟩
  exact Ok.ret (.inr ⟨pe5,hg,hncl,m7,gE,D, .inr ⟨hf,r,gs,ofP,ofB,tu,uq,hC,rfl⟩⟩)
end
end Go.Gk
namespace Go.Gk
open Go Classical
section
variable {N:Nat}
theorem Ga {w:Nat} {g:Nat->Nat} {a:Nat}: ∀{ks:List Nat},ks.Nodup->a∈ks->(ks.map (fun k=>(if a=k then w else 0)+g k)).sum=w+ (ks.map g).sum
 | [],_,h=>by cases h
 | k::ks,hn,h=>by
  have hn':=List.nodup_cons.1 hn
  simp only [eA,List.sum_cons]
  by_cases e:a=k
  ·subst e
   rw [aC rfl]
   have:ks.map (fun k=>(if a=k then w else 0)+g k)=ks.map g:=List.map_congr_left fun x hx=>by
    rw [aF (fun e=>hn'.1 (by rw [e];exact hx)),iO]
   rw [this];omega
  ·rw [aF e,Ga hn'.2 (by rcases dE.1 h with h | h;exact absurd h e;exact h)];omega
theorem Er {α:Type} {ks:List Nat} (hn:ks.Nodup) (f w:α->Nat): ∀{l:List α},(∀x∈l,f x∈ks)->(ks.map (fun k=>((l.filter (fun x=>decide (f x=k))).map w).sum)).sum= (l.map w).sum
 | [],_=>by
  have: ∀ks:List Nat,(ks.map (fun _=>0)).sum=0:=fun ks=>by
   induction ks with
   | nil=>rfl
   | cons k ks ih=>simp only [eA,List.sum_cons,ih]
  simpa using this ks
 | x::l,h=>by
  have ih:=Er hn f w (l:=l) fun y hy=>h y (ig _ hy)
  have: (ks.map (fun k=>(((x::l).filter (fun x=>decide (f x=k))).map w).sum))=ks.map (fun k=>(if f x=k then w x else 0)+ ((l.filter (fun x=>decide (f x=k))).map w).sum):=List.map_congr_left fun k _=>by
   rw [List.filter_cons]
   by_cases e:f x=k
   ·rw [aC (by simpa using e),aC e,eA,List.sum_cons]
   ·rw [aF (by simpa using e),aF e,iO]
  rw [this,Ga hn (h x (by simp)),ih,eA,List.sum_cons]
def Gb (s:List aA):jw:=match s with | b::_=>⟨b.Xs.headD 0,b.Y0⟩ | []=>⟨0,0⟩
theorem ym.ne {a:kY} {m7:List (List aA)} {gE:List (List (List aA))} {p:aK} {i:Nat} {r:List aI} {s:List aA} {ps:List (List aA)} {u:Nat->Nat} {j k:Nat} (h:ym a m7 gE p i r s ps u j k):p.Set≠[]:=by
 intro e
 have hh:=jv.1 (eY h.head)
 have hx: (aS s)[k]? =some (aS s)[k]:=aO hh.1
 have hm: (aS s)[k]∈nR (aS s) (aS s).length u k:=lY.2 ⟨k,hh.1,hh.2,hx⟩
 obtain⟨b,hb,q,hq,hr⟩:=qJ (eY hx)
 have hbm:cB b∈s.map cB:=dC.2 ⟨b,hb,rfl⟩
 have hq1:=Fg (h.dr.can.each _ hbm).2.2.1 q hq
 have hb1:=(h.dr.can.each _ hbm).1
 have hc:=h.set.cover q.1 b.Y0
 rw [e] at hc
 have:sW (nR (aS s) (aS s).length u k) q.1 b.Y0=true:=iZ.2 ⟨_,hm,by rw [hr];exact⟨⟨Int.le_refl _,hq1⟩,Int.le_refl _,hb1⟩⟩
 rw [this] at hc
 cases hc
structure rn (a:kY) (m7:List (List aA)) (gE:List (List (List aA))) (r:Nat->Nat) (gs:List bQ) (ofP ofB tu:List Int) (uq:List ka):Prop where
 yo:pC a
 N3: ¬rm a
 dr:xc a.aJ a.aN a.aJ.length m7 gE
 xm:KG m7 gE
 IC:y8 a.aN a.bM (eD 0 gE) r gs ofP ofB tu uq
inductive Kz (N:Nat) (a:kY):Prop
 | err (e:Int) (he:e≠0) (h:jF N a=some (none,e))
 | ok {m7:List (List aA)} {gE:List (List (List aA))} {r:Nat->Nat} {gs:List bQ} {ofP ofB tu:List Int} {uq:List ka} (b:rn a m7 gE r gs ofP ofB tu uq)
  (h:jF N a=some (some (a.aJ,a.cI,a.aN,a.bM,m7,eD 0 gE,j9 a.aN (eD 0 gE),gs,ofP,ofB,tu,uq),0))
theorem opened {a:kY} (hs:vt a) (hN:4398046511104<=N):Kz N a:=by
 obtain⟨x,hx,hI⟩:=Cl (N:=N) hs hN
 rcases hI with ⟨he,rfl⟩ | ⟨_,hg,hcl,m7,gE,D,⟨_,rfl⟩ | ⟨hf,r,gs,ofP,ofB,tu,uq,hC,rfl⟩⟩
 ·exact .err _ he hx
 ·exact .err 2 (by omega) hx
 ·exact .ok ⟨hg,hcl,D,hf,hC⟩ hx
end
end Go.Gk
namespace Go.Gk
open Go Classical
section
variable {S R:Type}
theorem Ok.pR {body:S->Option (Fl S R)} {N n:Nat} {s:S} (ι:S->Int) (Inv:Nat->S->Prop) {Go:S->Prop} {Rt:R->Prop}
  (h1: ∀k s,k<n->ι s= ((k:Nat):Int)->Inv k s->Ok (body s) (IB (fun s'=>ι s'= ((k+1:Nat):Int)/\Inv (k+1) s') Go Rt))
  (h2: ∀s,ι s= ((n:Nat):Int)->Inv n s->Ok (body s) (IB (fun _=>False) Go Rt))
  {k0:Nat} (hk:k0<=n) (hi:ι s= ((k0:Nat):Int)) (h0:Inv k0 s) (hn:n<N):Ok (Gk.jK body N s) (L5 Go Rt):=by
 refine Ok.jK (fun s=>∃k:Nat,k<=n/\ι s= ((k:Nat):Int)/\Inv k s) (fun s=>n - (ι s).toNat) ?_ ⟨k0,hk,hi,h0⟩ (by omega)
 rintro s ⟨k,hk,e,hI⟩
 by_cases hlt:k<n
 ·refine(h1 k s hlt e hI).mono ?_
  rintro(s' | s' | r) hp
  ·have hp1:ι s'= ((k+1:Nat):Int):=hp.1
   exact⟨⟨k+1,hlt,hp.1,hp.2⟩,by rw [e,hp1];simp only [cK];omega⟩
  ·exact hp
  ·exact hp
 ·have:k=n:=by omega
  subst this
  refine(h2 s e hI).mono ?_
  rintro(s' | s' | r) hp
  ·exact hp.elim
  ·exact hp
  ·exact hp
theorem kC {k n:Nat} (h:k<n):decide (((k:Nat):Int)< ((n:Nat):Int))=true:=bU (by omega)
theorem m0 (n:Nat):decide (((n:Nat):Int)< ((n:Nat):Int))=false:=cF (by omega)
theorem yp {k n:Nat} (h:n<=k):decide (((k:Nat):Int)< ((n:Nat):Int))=false:=cF (by omega)
end
theorem qy {α:Type} {p:α->Bool}: ∀{l:List α} {k:Nat},(∀(j:Nat) x,j<k->l[j]? =some x->p x=true)->(∀x,l[k]? =some x->p x=false)->l.takeWhile p=l.take k/\l.dropWhile p=l.drop k
 | [],k,_,_=>by simp
 | y::l,0,_,h2=>by
  have:=h2 y rfl
  rw [List.takeWhile_cons,List.dropWhile_cons,this];simp
 | y::l,k+1,h1,h2=>by
  have h:=h1 0 y (by omega) rfl
  obtain⟨e1,e2⟩:=qy (l:=l) (k:=k) (fun j x hj hx=>h1 (j+1) x (by omega) hx) (fun x hx=>h2 x hx)
  rw [List.takeWhile_cons,List.dropWhile_cons,h,aC rfl,aC rfl,e1,e2];simp
section
variable {N:Nat}
def qz (l:List Int) (c:Int):List Int:=if c∈l then l else l.takeWhile (fun x=>decide (x<c))++c::l.dropWhile (fun x=>decide (x<c))
theorem yq (l:List Int) (c:Int): (qz l c).length<=l.length+1:=by
 unfold qz
 split
 ·omega
 ·have: (l.takeWhile (fun x=>decide (x<c))).length+ (l.dropWhile (fun x=>decide (x<c))).length=l.length:=by rw [<-cW,List.takeWhile_append_dropWhile]
  rw [cW,dI];omega
theorem Bi {l:List Int} {c x:Int}:x∈qz l c↔x∈l\/x=c:=by
 unfold qz
 split
 ·rename_i h
  exact⟨.inl,fun h'=>h'.elim id fun e=>e▸h⟩
 ·have:x∈l↔x∈l.takeWhile (fun x=>decide (x<c))\/x∈l.dropWhile (fun x=>decide (x<c)):=by rw [<-dA,List.takeWhile_append_dropWhile]
  rw [dA,dE,this]
  constructor
  ·rintro(h | h | h)
   ·exact .inl (.inl h)
   ·exact .inr h
   ·exact .inl (.inr h)
  ·rintro((h | h) | h)
   ·exact .inl h
   ·exact .inr (.inr h)
   ·exact .inr (.inl h)
theorem Gc {l:List Int} (h:jI l) (c:Int): ∀x∈l.dropWhile (fun x=>decide (x<c)),c<=x:=by
 induction l with
 | nil=>intro x hx;cases hx
 | cons a l ih=>
  rw [List.dropWhile_cons]
  by_cases ha:a<c
  ·rw [aC (by simpa using ha)];exact ih h.tail
  ·rw [aF (by simpa using ha)]
   intro x hx
   rcases dE.1 hx with rfl | hx
   ·omega
   ·have:=h.head x hx;omega
theorem Jj (l:List Int) (c:Int): ∀x∈l.takeWhile (fun x=>decide (x<c)),x<c:=by
 induction l with
 | nil=>intro x hx;cases hx
 | cons a l ih=>
  rw [List.takeWhile_cons]
  by_cases ha:a<c
  ·rw [aC (by simpa using ha)]
   intro x hx
   rcases dE.1 hx with rfl | hx
   ·exact ha
   ·exact ih x hx
  ·rw [aF (by simpa using ha)]
   intro x hx;cases hx
theorem ti {l:List Int} {c:Int} (h:jI l):jI (qz l c):=by
 unfold qz
 split
 ·exact h
 ·rename_i hc
  have hs:=h
  rw [<-List.takeWhile_append_dropWhile (p:=fun x=>decide (x<c)) (l:=l)] at hs
  unfold jI at hs ⊢
  rw [m8] at hs ⊢
  refine⟨hs.1,oI.2 ⟨fun x hx=>?_,hs.2.1⟩,fun x hx y hy=>?_⟩
  ·have h1:=Gc h c x hx
   have h2:x≠c:=fun e=>hc (by rw [<-e,<-List.takeWhile_append_dropWhile (p:=fun x=>decide (x<c)) (l:=l)];exact List.mem_append_right _ hx)
   omega
  ·have h1:=Jj l c x hx
   rcases dE.1 hy with rfl | hy
   ·exact h1
   ·have:=Gc h c y hy;omega
def ky (l:List Int):List Int:=l.foldl qz []
theorem t3: ∀(cs l:List Int),jI l->jI (cs.foldl qz l)/\(∀x,x∈cs.foldl qz l↔x∈l\/x∈cs)/\(cs.foldl qz l).length<=l.length+cs.length
 | [],l,h=>⟨h,fun x=>by simp,by simp⟩
 | c::cs,l,h=>by
  obtain⟨h1,h2,h3⟩:=t3 cs (qz l c) (ti h)
  refine⟨h1,fun x=>?_,?_⟩
  ·rw [List.foldl_cons,h2,Bi,dE,or_assoc]
  ·rw [List.foldl_cons,dI]
   have:=yq l c;omega
theorem ny (l:List Int):jI (ky l):=(t3 l [] j3).1
theorem za {l:List Int} {x:Int}:x∈ky l↔x∈l:=by
 have:=(t3 l [] j3).2.1 x
 unfold ky;rw [this];simp
theorem tj (l:List Int): (ky l).length<=l.length:=by
 have:=(t3 l [] j3).2.2
 unfold ky;simpa using this
theorem vu (l:List Int) (c d:Int):ky (l++[c,d])=qz (qz (ky l) c) d:=by unfold ky;rw [List.foldl_append];rfl
theorem Ft {a b:Nat} (h:a+b<=4611686018427387904):IntKind.wrap .i64 (Int.tdiv (IntKind.wrap .i64 (((a:Nat):Int)+ ((b:Nat):Int))) 2)= (((a+b) / 2:Nat):Int):=by
 rw [wrap_add h,Int.tdiv_eq_ediv_of_nonneg (by omega),fE (by omega) (by omega)];omega
theorem vQ {l:List Int} {c:Int} (h:jI l) (hl:l.length<=1099511627776) (hN:4398046511104<=N):fF N l c=some (qz l c):=by
 refine Ok.get ?_
 unfold fF
 refine Ok.bind (Ok.jK (Go:=fun st:Int×Int=>∃a:Nat,st.1= ((a:Nat):Int)/\a<=l.length/\(∀(j:Nat) x,j<a->l[j]? =some x->x<c)/\(∀(j:Nat) x,a<=j->l[j]? =some x->c<=x)) (Rt:=fun _=>True)
  (fun st=>∃a b:Nat,st= (((a:Nat):Int),((b:Nat):Int))/\a<=b/\b<=l.length/\(∀(j:Nat) x,j<a->l[j]? =some x->x<c)/\(∀(j:Nat) x,b<=j->l[j]? =some x->c<=x))
  (fun st=>(st.2 - st.1).toNat) ?_ ⟨0,l.length,rfl,by omega,bW _,fun j x hj=>by omega,fun j x hj hx=>by have:=(bD.1 hx).1;omega⟩ (by simp only;omega)) ?_
 ·rintro st ⟨a,b,rfl,hab,hb,h1,h2⟩
  dsimp only
  by_cases hlt:a<b
  ·have hm: (a+b) / 2<l.length:=by omega
   have hx:l[(a+b) / 2]? =some l[(a+b) / 2]:=aO hm
   rw [kC hlt,aQ,Ft (by omega)]
   refine Ok.ix hx ?_
   by_cases hc:l[(a+b) / 2]<c
   ·rw [bU hc,aQ,aB]
    refine Ok.nx ⟨⟨(a+b) / 2+1,b,?_,by omega,hb,fun j x hj hx'=>?_,h2⟩,?_⟩
    ·rw [bS (by omega)]
    ·by_cases e:j= (a+b) / 2
     ·subst e;rw [hx] at hx';injection hx' with hx';omega
     ·have:=h.lt (i:=j) (j:=(a+b) / 2) (by omega) hx' hx
      omega
    ·rw [bS (by omega)];simp only;omega
   ·rw [cF hc,aR,aB]
    refine Ok.nx ⟨⟨a,(a+b) / 2,rfl,by omega,by omega,h1,fun j x hj hx'=>?_⟩,by simp only;omega⟩
    by_cases e:j= (a+b) / 2
    ·subst e;rw [hx] at hx';injection hx' with hx';omega
    ·have:=h.lt (i:=(a+b) / 2) (j:=j) (by omega) hx hx'
     omega
  ·rw [yp (by omega),aR]
   exact Ok.br ⟨a,rfl,by omega,h1,fun j x hj hx=>h2 j x (by omega) hx⟩
 intro o ho
 refine Ok.cs ho ?_ (fun r hr=>r.elim)
 rintro⟨st1,st2⟩ ⟨a,ha,hle,h1,h2⟩
 dsimp only at ha ⊢
 subst ha
 have hin:l[a]? =some c->qz l c=l:=fun hx=>by unfold qz;rw [aC (eY hx)]
 have hout:l[a]? ≠some c->qz l c=l.take a++c::l.drop a:=fun hx=>by
  have hc:c∉l:=fun hc=>by
   obtain⟨j,hj⟩:=dU hc
   by_cases h3:j<a
   ·have:=h1 j c h3 hj;omega
   ·by_cases e:j=a
    ·subst e;exact hx hj
    ·have h5:a<l.length:=by have:=(bD.1 hj).1;omega
     have h6:l[a]? =some l[a]:=aO h5
     have h7:=h.lt (i:=a) (j:=j) (by omega) h6 hj
     have h8:=h2 a _ (bW _) h6
     omega
  unfold qz
  rw [aF hc]
  obtain⟨e1,e2⟩:=qy (p:=fun x=>decide (x<c)) (l:=l) (k:=a) (fun j x hj hx'=>bU (h1 j x hj hx')) (fun x hx'=>cF (by have:=h2 a x (bW _) hx';omega))
  rw [e1,e2]
 have hrest:l[a]? ≠some c->Ok ((tt l 0 ((a:Nat):Int)).bind fun x49=>(app 8 ([]:List Int) x49).bind fun x51=>(app 8 x51 ([c]:List Int)).bind fun x54=>(tt l ((a:Nat):Int) ((l.length:Nat):Int)).bind fun x56=>(app 8 x54 x56).bind fun x58=>some x58) (fun r=>r=qz l c):=fun hx=>by
  have htk: (l.take a).length=a:=by rw [cG];omega
  refine Ok.eq (qT l a hle) (Ok.app (by simp only [List.length_nil];omega) (Ok.app (by rw [List.nil_append];simp only [dI,List.length_nil];omega) (Ok.eq (pJ l a hle) (Ok.app ?_ (Ok.ret ?_)))))
  ·rw [List.nil_append,cW,iN];simp only [dI,List.length_nil];omega
  ·rw [hout hx];simp
 by_cases hlt:a<l.length
 ·have hx:l[a]? =some l[a]:=aO hlt
  rw [kC hlt,aQ,eM hx,aB,aB]
  refine Ok.bif (fun hb=>Ok.ret ?_) (fun hb=>hrest ?_)
  ·rw [beq_iff_eq] at hb
   rw [hin (by rw [hx,hb])]
  ·rw [beq_eq_false_iff_ne] at hb
   rw [hx];intro e;injection e with e;exact hb e
 ·rw [yp (by omega),aR,aB,aR]
  exact hrest (by rw [List.getElem?_eq_none (by omega)];intro e;cases e)
theorem Es (l m:List aI):jB (l++m)=jB l++jB m:=List.flatMap_append
theorem Bj {l:List aI} (hl:l.length<=268435456) (hN:4398046511104<=N):gV N l=some (ky (jB l)):=by
 refine Ok.get ?_
 unfold gV
 refine Ok.bind (Ok.pR (n:=l.length) (fun s=>s.2) (fun k s=>s.1=ky (jB (l.take k))) (Go:=fun s=>s.1=ky (jB l)) (Rt:=fun _=>False) ?_ ?_ (dJ _) rfl rfl (by omega)) ?_
 ·rintro k ⟨out,i⟩ hk e hI
  dsimp only at e hI ⊢
  subst e;subst hI
  rw [kC hk,aQ]
  have hx:l[k]? =some l[k]:=aO hk
  have h1:=tj (jB (l.take k))
  rw [jJ,cG] at h1
  have h2:=yq (ky (jB (l.take k))) l[k].Y0
  refine Ok.ix hx (Ok.ix hx (Ok.eq (vQ (ny _) (by omega) hN) (Ok.eq (vQ (ti (ny _)) (by omega) hN) (Ok.nx ⟨bS (by omega),?_⟩))))
  rw [dS hk,Es]
  exact(vu _ _ _).symm
 ·rintro⟨out,i⟩ e hI
  dsimp only at e hI ⊢
  subst e
  rw [m0,aR]
  exact Ok.br (by rw [dZ] at hI;exact hI)
 intro o ho
 exact Ok.cs ho (fun s hs=>Ok.ret hs) (fun r hr=>hr.elim)
def sp (s:aG):Int×Int:=(s.from_,s.to)
theorem Il: ∀{l m:List aG},l.map sp=m.map sp->l=m
 | [],[],_=>rfl
 | [],_::_,h=>by cases h
 | _::_,[],h=>by cases h
 | ⟨a,b⟩::l,⟨c,d⟩::m,h=>by
  rw [eA,eA] at h
  injection h with h1 h2
  unfold sp at h1
  injection h1 with h3 h4
  simp only at h3 h4
  rw [h3,h4,Il h2]
theorem t4 (a b:Int): (if b<a then b else a)=min a b:=by split <;> omega
theorem t5 (a b:Int): (if a<b then b else a)=max a b:=by split <;> omega
theorem Cm {l:List aG} {s:aG} (hl:l.length<=268435456) (hN:4398046511104<=N):Ok (iF N l s) (fun r=>r.map sp=lR (l.map sp) (sp s)):=by
 unfold iF
 have hget: ∀(j:Nat) (x:Int×Int),(l.map sp)[j]? =some x->∃y,l[j]? =some y/\x=sp y:=fun j x h=>by
  rw [gq] at h
  cases hy:l[j]? with
  | none=>rw [hy] at h;cases h
  | some y=>rw [hy] at h;injection h with h;exact⟨y,rfl,h.symm⟩
 refine Ok.bind (Ok.jK (Go:=fun st:List aG×Int=>∃k:Nat,st= (l.take k,((k:Nat):Int))/\k<=l.length/\(∀(j:Nat) x,j<k->l[j]? =some x->x.to<s.from_)/\(∀x,l[k]? =some x->¬x.to<s.from_)) (Rt:=fun _=>False)
  (fun st=>∃k:Nat,st= (l.take k,((k:Nat):Int))/\k<=l.length/\∀(j:Nat) x,j<k->l[j]? =some x->x.to<s.from_) (fun st=>l.length - st.2.toNat) ?_ ⟨0,by simp,by omega,fun j x hj=>by omega⟩ (by simp;omega)) ?_
 ·rintro st ⟨k,rfl,hk,hI⟩
  dsimp only
  by_cases hlt:k<l.length
  ·have hx:l[k]? =some l[k]:=aO hlt
   rw [kC hlt,aQ,eM hx,aB,aB]
   refine Ok.bif (fun hb=>?_) (fun hb=>?_)
   ·have hb:=of_decide_eq_true hb
    refine Ok.eq rfl (Ok.app ?_ (Ok.nx ⟨⟨k+1,?_,hlt,?_⟩,?_⟩))
    ·rw [cG];simp only [dI,List.length_nil];omega
    ·rw [bS (by omega),dS hlt]
    ·intro j x hj hx'
     by_cases e:j=k
     ·subst e;rw [hx] at hx';injection hx' with hx';rw [<-hx'];exact hb
     ·exact hI j x (by omega) hx'
    ·rw [bS (by omega)];simp only [cK];omega
   ·have hb:=of_decide_eq_false hb
    exact Ok.br ⟨k,rfl,hk,hI,fun x hx'=>by rw [hx] at hx';injection hx' with hx';rw [<-hx'];exact hb⟩
  ·rw [yp (by omega),aR,aB,aR]
   exact Ok.br ⟨k,rfl,hk,hI,fun x hx'=>by have:=(bD.1 hx').1;omega⟩
 intro o ho
 refine Ok.cs ho ?_ (fun r hr=>hr.elim)
 rintro st ⟨k,rfl,hk,hI,hE⟩
 dsimp only
 obtain⟨e1,e2⟩:=qy (p:=fun a:Int×Int=>decide (a.2< (sp s).1)) (l:=l.map sp) (k:=k) (fun j x hj hx=>by
  obtain⟨y,hy,rfl⟩:=hget j x hx
  exact bU (hI j y hj hy)) (fun x hx=>by
  obtain⟨y,hy,rfl⟩:=hget k x hx
  exact cF (hE y hy))
 refine Ok.bind (Ok.jK (Go:=fun st:aG×Int=>∃i:Nat,st.2= ((i:Nat):Int)/\i<=l.length/\kB (sp s) ((l.drop k).map sp)= (sp st.1,(l.drop i).map sp)) (Rt:=fun _=>False)
  (fun st=>∃i:Nat,st.2= ((i:Nat):Int)/\i<=l.length/\kB (sp s) ((l.drop k).map sp)=kB (sp st.1) ((l.drop i).map sp)) (fun st=>l.length - st.2.toNat) ?_ ⟨k,rfl,hk,rfl⟩ (by simp only [cK];omega)) ?_
 ·rintro⟨s',i'⟩ ⟨i,e,hi,hm⟩
  dsimp only at e hm ⊢
  subst e
  by_cases hlt:i<l.length
  ·have hx:l[i]? =some l[i]:=aO hlt
   have hd: (l.drop i).map sp=sp l[i]::(l.drop (i+1)).map sp:=by rw [tv hlt,eA]
   rw [kC hlt,aQ,eM hx,aB,aB]
   refine Ok.bif (fun hb=>?_) (fun hb=>?_)
   ·have hb:=of_decide_eq_true hb
    refine Ok.eq rfl (Ok.eq rfl (Ok.nx ⟨⟨i+1,bS (by omega),hlt,?_⟩,?_⟩))
    ·rw [hm,hd]
     conv=>lhs;unfold kB
     rw [aC (show (sp l[i]).1<=(sp s').2 from hb),t4,t5]
     rfl
    ·dsimp only;rw [bS (by omega)];simp only [cK];omega
   ·have hb:=of_decide_eq_false hb
    refine Ok.br ⟨i,rfl,hi,?_⟩
    rw [hm,hd]
    conv=>lhs;unfold kB
    rw [aF (show ¬(sp l[i]).1<=(sp s').2 from hb)]
  ·rw [yp (by omega),aR,aB,aR]
   refine Ok.br ⟨i,rfl,hi,?_⟩
   rw [hm,List.drop_eq_nil_of_le (by omega)];rfl
 intro o ho
 refine Ok.cs ho ?_ (fun r hr=>hr.elim)
 rintro⟨s',i'⟩ ⟨i,e,hi,hm⟩
 dsimp only at e hm ⊢
 subst e
 refine Ok.app ?_ (Ok.eq (pJ l i hi) (Ok.app ?_ (Ok.ret ?_)))
 ·rw [cG];simp only [dI,List.length_nil];omega
 ·rw [cW,cG,iN];simp only [dI,List.length_nil];omega
 ·unfold lR
  rw [e1,e2,<-List.map_take,<-List.map_drop,hm]
  simp
theorem Bl: ∀(l:List (Int×Int)) (s:Int×Int),(kB s l).2.length<=l.length
 | [],s=>bW _
 | a::l,s=>by
  unfold kB
  split
  ·have:=Bl l (min s.1 a.1,max s.2 a.2)
   rw [dI];omega
  ·exact bW _
theorem zC (l:List (Int×Int)) (s:Int×Int): (lR l s).length<=l.length+1:=by
 unfold lR
 have h1:=Bl (l.dropWhile fun a=>decide (a.2<s.1)) s
 have h2: (l.takeWhile (fun x=>decide (x.2<s.1))).length+ (l.dropWhile (fun x=>decide (x.2<s.1))).length=l.length:=by rw [<-cW,List.takeWhile_append_dropWhile]
 rw [cW,dI];omega
def jS (y:Int) (out:List (Int×Int)) (r:aI):List (Int×Int):=if r.Y0<=y/\y<r.Y1 then lR out (r.X0,r.X1) else out
def kT (l:List aI) (y:Int):List (Int×Int):=l.foldl (jS y) []
theorem G0 (l:List aI) (r:aI) (y:Int):kT (l++[r]) y=jS y (kT l y) r:=by unfold kT;rw [List.foldl_append];rfl
theorem zD (y:Int): ∀(l:List aI) (out:List (Int×Int)),(l.foldl (jS y) out).length<=out.length+l.length
 | [],out=>by simp
 | r::l,out=>by
  rw [List.foldl_cons,dI]
  have h1:=zD y l (jS y out r)
  have h2: (jS y out r).length<=out.length+1:=by
   unfold jS
   split
   ·exact zC _ _
   ·omega
  omega
theorem rp (l:List aI) (y:Int): (kT l y).length<=l.length:=by
 have:=zD y l []
 unfold kT;simpa using this
theorem yr (y:Int): ∀(l:List aI) (out:List (Int×Int)),(∀r∈l,r.X0<r.X1)->jI (dF out)->jI (dF (l.foldl (jS y) out))/\∀x,jt (l.foldl (jS y) out) x= (jt out x||sW l x y)
 | [],out,_,h=>⟨h,fun x=>by simp [sW]⟩
 | r::l,out,hr,h=>by
  have h0:=hr r (by simp)
  rw [List.foldl_cons]
  have hst:jI (dF (jS y out r))/\∀x,jt (jS y out r) x= (jt out x||((decide (r.X0<=x)&&decide (x<r.X1))&&(decide (r.Y0<=y)&&decide (y<r.Y1)))):=by
   unfold jS
   by_cases hy:r.Y0<=y/\y<r.Y1
   ·rw [aC hy]
    obtain⟨j1,j2⟩:=ya (l:=out) (s:=(r.X0,r.X1)) h h0
    refine⟨j1,fun x=>?_⟩
    rw [j2,bU hy.1,bU hy.2,Bool.or_comm];simp
   ·rw [aF hy]
    refine⟨h,fun x=>?_⟩
    have: (decide (r.Y0<=y)&&decide (y<r.Y1))=false:=by rw [Bool.and_eq_false_iff,decide_eq_false_iff_not,decide_eq_false_iff_not];omega
    rw [this];simp
  obtain⟨m1,m2⟩:=yr y l (jS y out r) (fun r' hr'=>hr r' (ig _ hr')) hst.1
  refine⟨m1,fun x=>?_⟩
  rw [m2,hst.2,Bool.or_assoc];rfl
theorem tk {l:List aI} (h: ∀r∈l,r.X0<r.X1) (y:Int):jI (dF (kT l y))/\∀x,jt (kT l y) x=sW l x y:=by
 obtain⟨h1,h2⟩:=yr y l [] h j3
 exact⟨h1,fun x=>by rw [show jt (kT l y) x=_ from h2 x,show jt [] x=false from rfl,Bool.false_or]⟩
theorem wB {y y':Int}: ∀(l:List aI) (out:List (Int×Int)),(∀r∈l,(r.Y0<=y/\y<r.Y1)↔(r.Y0<=y'/\y'<r.Y1))->l.foldl (jS y) out=l.foldl (jS y') out
 | [],out,_=>rfl
 | r::l,out,h=>by
  rw [List.foldl_cons,List.foldl_cons,wB l _ (fun r' hr'=>h r' (ig _ hr'))]
  congr 1
  unfold jS
  have:=h r (by simp)
  by_cases h1:r.Y0<=y/\y<r.Y1
  ·rw [aC h1,aC (this.1 h1)]
  ·rw [aF h1,aF (fun h2=>h1 (this.2 h2))]
theorem Fu {l:List aI} {y y':Int} (h: ∀r∈l,(r.Y0<=y/\y<r.Y1)↔(r.Y0<=y'/\y'<r.Y1)):kT l y=kT l y':=wB l [] h
theorem Im {l:List aI} {y:Int} (h: ∀r∈l,¬(r.Y0<=y/\y<r.Y1)):kT l y= []:=by
 have: ∀(l:List aI) (out:List (Int×Int)),(∀r∈l,¬(r.Y0<=y/\y<r.Y1))->l.foldl (jS y) out=out:=by
  intro l
  induction l with
  | nil=>intro out _;rfl
  | cons r l ih=>
   intro out h
   rw [List.foldl_cons,ih _ (fun r' hr'=>h r' (ig _ hr'))]
   unfold jS;rw [aF (h r (by simp))]
 exact this l [] h
theorem C3 {l:List aI} {y:Int} (hl:l.length<=134217728) (hN:4398046511104<=N):Ok (gT N l y) (fun r=>r.map sp=kT l y):=by
 unfold gT
 refine Ok.bind (Ok.pR (n:=l.length) (fun s=>s.2) (fun k s=>s.1.map sp=kT (l.take k) y) (Go:=fun s=>s.1.map sp=kT l y) (Rt:=fun _=>False) ?_ ?_ (dJ _) rfl rfl (by omega)) ?_
 ·rintro k ⟨out,i⟩ hk e hI
  dsimp only at e hI ⊢
  subst e
  rw [kC hk,aQ]
  have hx:l[k]? =some l[k]:=aO hk
  have hlen:out.length<=l.length:=by
   have h1:=rp (l.take k) y
   rw [<-hI,cV,cG] at h1;omega
  rw [eM hx,aB]
  have hst:kT (l.take (k+1)) y=jS y (kT (l.take k) y) l[k]:=by rw [dS hk,G0]
  have hno: ¬(l[k].Y0<=y/\y<l[k].Y1)->Ok ((some out).bind fun s141=>some (Fl.nx (s141,IntKind.wrap .i64 (((k:Nat):Int)+1)):Fl (List aG×Int) Empty)) (IB (fun s'=>s'.2= ((k+1:Nat):Int)/\s'.1.map sp=kT (l.take (k+1)) y) (fun s=>s.1.map sp=kT l y) (fun _=>False)):=fun hy=>by
   rw [aB]
   refine Ok.nx ⟨bS (by omega),?_⟩
   rw [hst];unfold jS;rw [aF hy];exact hI
  by_cases h1:l[k].Y0<=y
  ·rw [bU h1,aQ,aB,aB]
   by_cases h2:y<l[k].Y1
   ·rw [bU h2,aQ]
    refine Ok.bind (P:=fun r:List aG=>r.map sp=kT (l.take (k+1)) y) (Ok.eq rfl (Ok.eq rfl (Ok.bind (Cm (by omega) hN) (fun r hr=>Ok.ret ?_)))) (fun r hr=>Ok.nx ⟨bS (by omega),hr⟩)
    rw [hr,hI,hst];unfold jS;rw [aC ⟨h1,h2⟩];rfl
   ·rw [cF h2,aR]
    exact hno (fun h=>h2 h.2)
  ·rw [cF h1,aR,aB,aR]
   exact hno (fun h=>h1 h.1)
 ·rintro⟨out,i⟩ e hI
  dsimp only at e hI ⊢
  subst e
  rw [m0,aR]
  exact Ok.br (by rw [dZ] at hI;exact hI)
 intro o ho
 exact Ok.cs ho (fun s hs=>Ok.ret hs) (fun r hr=>hr.elim)
theorem zb {l:List aG} {x:Int} (hl:l.length<=1099511627776) (hN:4398046511104<=N):gw N l x=some (jt (l.map sp) x):=by
 refine Ok.get ?_
 unfold gw
 have hm: ∀b:Bool,(jt (l.map sp) x=b↔(l.any fun s=>decide (s.from_<=x)&&decide (x<s.to))=b):=fun b=>by unfold jt;rw [List.any_map];rfl
 refine Ok.bind (Ok.pR (n:=l.length) (fun s=>s) (fun k s=>∀(j:Nat) y,j<k->l[j]? =some y->¬(y.from_<=x/\x<y.to)) (Go:=fun s=>jt (l.map sp) x=false) (Rt:=fun r=>r=jt (l.map sp) x) ?_ ?_ (dJ _) rfl (fun j y hj=>by omega) (by omega)) ?_
 ·rintro k i hk e hI
  subst e
  rw [kC hk,aQ]
  have hx:l[k]? =some l[k]:=aO hk
  rw [eM hx,aB]
  have hno: ¬(l[k].from_<=x/\x<l[k].to)->Ok (some (Fl.nx (IntKind.wrap .i64 (((k:Nat):Int)+1)):Fl Int Bool)) (IB (fun s'=>s'= ((k+1:Nat):Int)/\∀(j:Nat) y,j<k+1->l[j]? =some y->¬(y.from_<=x/\x<y.to)) (fun s=>jt (l.map sp) x=false) (fun r=>r=jt (l.map sp) x)):=fun hy=>Ok.nx ⟨bS (by omega),fun j y hj hjy=>by
   by_cases e:j=k
   ·subst e;rw [hx] at hjy;injection hjy with hjy;rw [<-hjy];exact hy
   ·exact hI j y (by omega) hjy⟩
  by_cases h1:l[k].from_<=x
  ·rw [bU h1,aQ,aB,aB]
   by_cases h2:x<l[k].to
   ·rw [bU h2,aQ]
    refine Ok.rt ?_
    symm;rw [hm,k7]
    exact⟨l[k],cN hk,by rw [bU h1,bU h2];rfl⟩
   ·rw [cF h2,aR];exact hno (fun h=>h2 h.2)
  ·rw [cF h1,aR,aB,aR];exact hno (fun h=>h1 h.1)
 ·rintro i e hI
  subst e
  rw [m0,aR]
  refine Ok.br ?_
  rw [hm,List.any_eq_false]
  intro y hy
  obtain⟨j,hj⟩:=dU hy
  have:=hI j y (bD.1 hj).1 hj
  rw [j5,Bool.and_eq_false_iff,decide_eq_false_iff_not,decide_eq_false_iff_not];omega
 intro o ho
 exact Ok.cs ho (fun s hs=>Ok.ret hs.symm) (fun r hr=>Ok.ret hr)
end
end Go.Gk
namespace Go.Gk
open Go Classical
section
variable {α:Type} [DecidableEq α] {N:Nat}
def JW (N:Nat) (p0 p1:List α):Option Bool:=
 bif ((p0.length:Int) != (p1.length:Int)) then (some false) else ((jK (fun(s32:Int)=>(bif (decide (s32< (p0.length:Int))) then ((idx p0 s32).bind fun x45=>(idx p1 s32).bind fun x48=>bif (!(decide (x45=x48))) then (some (.rt false)) else (some (.nx (IntKind.wrap .i64 (s32+1))))) else (some (.br s32)):Option (Fl (Int) Bool))) N 0).bind fun o51=>o51.cs (fun(s32:Int)=>some true) (fun r=>some r))
theorem Et {l m:List α} (hl:l.length<=1099511627776) (hN:4398046511104<=N):JW N l m=some (decide (l=m)):=by
 refine Ok.get ?_
 unfold JW
 by_cases he:l.length=m.length
 ·rw [show ((((l.length:Nat):Int)) != ((m.length:Nat):Int))=false by rw [he];simp,aR]
  refine Ok.bind (Ok.pR (n:=l.length) (fun s=>s) (fun k s=>∀j,j<k->l[j]? =m[j]?) (Go:=fun s=>l=m) (Rt:=fun r=>r=false/\l≠m) ?_ ?_ (dJ _) rfl (fun j hj=>by omega) (by omega)) ?_
  ·rintro k i hk e hI
   subst e
   have hx:l[k]? =some l[k]:=aO hk
   have hy:m[k]? =some (m[k]'(by omega)):=aO _
   rw [kC hk,aQ]
   refine Ok.ix hx (Ok.ix hy (Ok.bif (fun hb=>Ok.rt ⟨rfl,fun e=>?_⟩) (fun hb=>Ok.nx ⟨bS (by omega),fun j hj=>?_⟩)))
   ·have h1:some l[k]=some (m[k]'(by omega)):=hx.symm.trans ((by rw [e]:l[k]? =m[k]?).trans hy)
    injection h1 with h1
    rw [h1] at hb;simp at hb
   ·by_cases e:j=k
    ·subst e;rw [hx,hy];simpa using hb
    ·exact hI j (by omega)
  ·rintro i e hI
   subst e
   rw [m0,aR]
   refine Ok.br (List.ext_getElem? fun j=>?_)
   by_cases hj:j<l.length
   ·exact hI j hj
   ·rw [List.getElem?_eq_none (by omega),List.getElem?_eq_none (by omega)]
  intro o ho
  exact Ok.cs ho (fun s hs=>Ok.ret (bU hs).symm) (fun r hr=>Ok.ret (by rw [hr.1,cF hr.2]))
 ·rw [show ((((l.length:Nat):Int)) != ((m.length:Nat):Int))=true by rw [bne_iff_ne];omega,aQ]
  exact Ok.ret (cF fun h=>he (by rw [h])).symm
end
section
variable {N:Nat}
theorem C4 {l m:List aI} (hl:l.length<=1099511627776) (hN:4398046511104<=N):jQ N l m=some (decide (l=m)):=Et hl hN
theorem C5 {l m:List aG} (hl:l.length<=1099511627776) (hN:4398046511104<=N):jP N l m=some (decide (l=m)):=Et hl hN
def su (b:aL):Bd:=⟨b.from_,b.to,dF (b.ja.map sp)⟩
theorem G1 {l:List (Int×Int)}:dF l= []↔l= []:=by
 cases l with
 | nil=>exact⟨fun _=>rfl,fun _=>rfl⟩
 | cons s l=>exact⟨fun h=>(by cases h),fun h=>(by cases h)⟩
theorem G2 {l m:List aG}:dF (l.map sp)=dF (m.map sp)↔l=m:=⟨fun h=>Il (Cd h),fun h=>by rw [h]⟩
theorem Fv {l:List aL} {b:aL} (hlt:b.from_<b.to) (hl:l.length<=1073741824) (hs: ∀c∈l,c.ja.length<=1099511627776) (hN:4398046511104<=N):
  Ok (fZ N l b) (fun r=>r.map su=jR (l.map su) (su b)):=by
 unfold fZ jR
 by_cases h0:b.ja= []
 ·rw [show (((b.ja.length:Nat):Int)==0)=true by rw [h0];rfl,aQ,aC (.inl (by unfold su;rw [h0];rfl))]
  exact Ok.ret rfl
 ·rw [show (((b.ja.length:Nat):Int)==0)=false by rw [beq_eq_false_iff_ne];intro h;exact h0 (List.eq_nil_of_length_eq_zero (by omega)),aR]
  have hne: ¬((su b).xs= []\/(su b).y1<=(su b).y0):=by
   rintro(h | h)
   ·have h:=G1.1 h
    exact h0 (List.map_eq_nil_iff.1 h)
   ·have h:b.to<=b.from_:=h
    omega
  rw [aF hne]
  rcases List.eq_nil_or_concat l with rfl | ⟨A,c,hA⟩
  ·rw [show decide (((([]:List aL).length:Nat):Int)>0)=false by decide,aR,aB,aR]
   exact Ok.app (by simp) (Ok.ret rfl)
  ·rw [List.concat_eq_append] at hA
   subst hA
   have hlen: (A++[c]).length=A.length+1:=by simp
   have hwp:IntKind.wrap .i64 ((((A++[c]).length:Nat):Int) - 1)= ((A.length:Nat):Int):=by rw [AR (by omega) (by omega),hlen];rfl
   have hlast: (A++[c])[A.length]? =some c:=by simp
   rw [hwp,bU (by omega),aQ,eM hlast,aB,aB,C5 (by have:=hs c (by simp);omega) hN,aB,aB,cK]
   have hl2: ((A++[c]).map su).getLast? =some (su c):=by simp
   have hd2: ((A++[c]).map su).dropLast=A.map su:=by simp
   rw [hl2,hd2]
   dsimp only
   by_cases h1:c.to=b.from_/\c.ja=b.ja
   ·rw [aC (show (su c).y1= (su b).y0/\(su c).xs= (su b).xs from ⟨h1.1,by unfold su;rw [h1.2]⟩),show (c.to==b.from_)=true by rw [h1.1];simp,aQ,bU h1.2,aB,aQ]
    refine Ok.ret ?_
    rw [List.set_append_right _ _ (bW _),Nat.sub_self]
    simp [su]
   ·rw [aF (show ¬((su c).y1= (su b).y0/\(su c).xs= (su b).xs) from fun h=>h1 ⟨h.1,G2.1 h.2⟩)]
    have e2: (bif (c.to==b.from_) then (some (decide (c.ja=b.ja))) else (some false))=some false:=by
     by_cases h2:c.to=b.from_
     ·rw [show (c.to==b.from_)=true by rw [h2];simp,aQ,cF (fun h=>h1 ⟨h2,h⟩)]
     ·rw [show (c.to==b.from_)=false by simpa using h2,aR]
    rw [e2,aB,aR]
    exact Ok.app (by rw [hlen];simp;omega) (Ok.ret (by simp))
theorem Io {s:List Bd} {b c:Bd} (h:c∈jR s b):c.xs=b.xs\/∃d∈s,c.xs=d.xs:=by
 unfold jR at h
 split at h
 ·exact .inr ⟨c,h,rfl⟩
 ·split at h
  ·rename_i d hd
   split at h
   ·rcases dA.1 h with h | h
    ·exact .inr ⟨c,List.dropLast_subset _ h,rfl⟩
    ·simp at h
     exact .inr ⟨d,List.mem_of_getLast? hd,by rw [h]⟩
   ·rcases dA.1 h with h | h
    ·exact .inr ⟨c,h,rfl⟩
    ·simp at h;exact .inl (by rw [h])
  ·simp at h;exact .inl (by rw [h])
theorem qA {f:Int->List Int} {B:Nat} (hf: ∀y,(f y).length<=B): ∀(ss:List (Int×Int)) (out:List Bd),(∀c∈out,c.xs.length<=B)->(∀c∈mo f ss out,c.xs.length<=B)/\(mo f ss out).length<=out.length+ss.length
 | [],out,h=>⟨h,by simp [mo]⟩
 | s::ss,out,h=>by
  obtain⟨h1,h2⟩:=qA hf ss (jR out ⟨s.1,s.2,f s.1⟩) (fun c hc=>by
   rcases Io hc with h3 | ⟨d,hd,h3⟩
   ·rw [h3];exact hf _
   ·rw [h3];exact h d hd)
  refine⟨h1,?_⟩
  have:=GN out ⟨s.1,s.2,f s.1⟩
  show (mo f ss (jR out ⟨s.1,s.2,f s.1⟩)).length<=_
  rw [dI];omega
theorem m6: ∀(ys:List Int),(kp ys).length=ys.length - 1
 | []=>rfl
 | [_]=>rfl
 | a::b::l=>by
  show (kp (b::l)).length+1=_
  rw [m6 (b::l)];simp
theorem Bm: ∀(ys:List Int) (k:Nat) (h:k+1<ys.length),(kp ys)[k]? =some (ys[k],ys[k+1])
 | [],k,h=>by simp at h
 | [_],k,h=>by simp at h
 | a::b::l,0,h=>rfl
 | a::b::l,k+1,h=>by
  have:=Bm (b::l) k (by simp at h ⊢;omega)
  show (kp (b::l))[k]? =_
  rw [this];rfl
theorem Eu (f:Int->List Int) (ss:List (Int×Int)) (s:Int×Int) (out:List Bd):mo f (ss++[s]) out=jR (mo f ss out) ⟨s.1,s.2,f s.1⟩:=by unfold mo;rw [List.foldl_append];rfl
theorem Bn {ys:List Int} (hy:jI ys) {f:Int->List Int} {B:Nat} (hf: ∀y,(f y).length<=B) (hB:B<=1099511627776) (hys:ys.length<=1073741824) {out:List aL} {k:Nat} (h1:1<=k) (hk:k<ys.length)
  (hI:out.map su=mo f ((kp ys).take (k - 1)) []) {r:List aG} (hr:dF (r.map sp)=f (ys[k - 1]'(by omega))) (hN:4398046511104<=N):
  Ok (fZ N out ⟨ys[k - 1]'(by omega),ys[k],r⟩) (fun o=>o.map su=mo f ((kp ys).take k) []):=by
 have hlt:ys[k - 1]'(by omega)<ys[k]:=m9.1 hy (k - 1) k (by omega) hk (by omega)
 obtain⟨s1,s2⟩:=qA hf ((kp ys).take (k - 1)) [] (fun c hc=>by cases hc)
 have hol:out.length<=ys.length:=by
  have: (out.map su).length<=ys.length:=by
   rw [hI]
   have h3:=m6 ys
   rw [cG] at s2
   simp only [List.length_nil] at s2;omega
  rwa [cV] at this
 refine(Fv hlt (by omega) (fun c hc=>?_) hN).mono fun o ho=>?_
 ·have h3: (su c).xs.length<=B:=s1 _ (by rw [<-hI];exact dC.2 ⟨c,hc,rfl⟩)
  have h4: (su c).xs.length=2*c.ja.length:=by unfold su;rw [ke,cV]
  omega
 ·have hg:=Bm ys (k - 1) (by omega)
  have hts: (kp ys).take k= (kp ys).take (k - 1)++[(ys[k - 1]'(by omega),ys[k])]:=by
   have hl:k - 1< (kp ys).length:=by rw [m6];omega
   have e:=dS hl
   rw [show k - 1+1=k by omega] at e
   rw [e]
   congr 1
   rw [aO hl] at hg
   injection hg with hg
   rw [hg];simp only [show k - 1+1=k by omega]
  rw [ho,hI,hts,Eu]
  congr 1
  unfold su
  simp only [hr]
def p8 (b:aL):List aI:=b.ja.map fun s=>⟨s.from_,b.from_,s.to,b.to⟩
def lT (l:List aL):List aI:=l.flatMap p8
theorem Ev: ∀(l:List (Int×Int)),AV (dF l)=l
 | []=>rfl
 | s::l=>by rw [ju];show (s.1,s.2)::AV (dF l)=_;rw [Ev l]
theorem zc: ∀{l:List aL} {s:List aA},l.map su=s.map cB->lT l=aS s
 | [],[],_=>rfl
 | [],_::_,h=>by cases h
 | _::_,[],h=>by cases h
 | b::l,c::s,h=>by
  rw [eA,eA] at h
  injection h with h1 h2
  have e:=zc h2
  show p8 b++lT l=mU c++aS s
  rw [e]
  congr 1
  unfold su cB at h1
  injection h1 with g1 g2 g3
  unfold p8 mU
  rw [<-g3,Ev,g1,g2,List.map_map]
  rfl
theorem Ew (l:List aL) (b:aL):lT (l++[b])=lT l++p8 b:=by unfold lT;rw [List.flatMap_append];simp
theorem Gd {l:List aL} (hl:l.length<=1099511627776) (hs: ∀b∈l,b.ja.length<=1099511627776) (hr: (lT l).length<=1099511627776) (hN:4398046511104<=N):ji N l=some (lT l):=by
 refine Ok.get ?_
 unfold ji
 refine Ok.bind (Ok.pR (n:=l.length) (fun s=>s.2) (fun k s=>s.1=lT (l.take k)) (Go:=fun s=>s.1=lT l) (Rt:=fun _=>False) ?_ ?_ (dJ _) rfl rfl (by omega)) ?_
 ·rintro k ⟨out,i⟩ hk e hI
  dsimp only at e hI ⊢
  subst e;subst hI
  rw [kC hk,aQ]
  have hx:l[k]? =some l[k]:=aO hk
  have hsl:=hs _ (cN hk)
  have hts:lT (l.take (k+1))=lT (l.take k)++p8 l[k]:=by rw [dS hk,Ew]
  have hlen: (lT (l.take k)).length+l[k].ja.length<=(lT l).length:=by
   have h1: (lT l).length= (lT (l.take (k+1))).length+ (lT (l.drop (k+1))).length:=by
    rw [<-cW];unfold lT;rw [<-List.flatMap_append,List.take_append_drop]
   have h2: (p8 l[k]).length=l[k].ja.length:=by unfold p8;rw [cV]
   rw [hts,cW,h2] at h1;omega
  refine Ok.bind (Ok.pR (n:=l[k].ja.length) (fun s=>s.2) (fun j s=>s.1=lT (l.take k)++(p8 l[k]).take j) (Go:=fun s=>s.1=lT (l.take (k+1))) (Rt:=fun _=>False) ?_ ?_ (dJ _) rfl (by simp) (by omega)) ?_
  ·rintro j ⟨o2,i2⟩ hj e hI
   dsimp only at e hI ⊢
   subst e;subst hI
   have hy:l[k].ja[j]? =some l[k].ja[j]:=aO hj
   have hjr:j< (p8 l[k]).length:=by unfold p8;rw [cV];exact hj
   refine Ok.ix hx ?_
   rw [kC hj,aQ]
   refine Ok.ix hx (Ok.ix hy (Ok.ix hx (Ok.ix hx (Ok.ix hy (Ok.ix hx (Ok.app ?_ (Ok.nx ⟨bS (by omega),?_⟩)))))))
   ·rw [cW,cG];simp only [dI,List.length_nil];omega
   ·dsimp only
    rw [jZ]
    congr 1
    rw [dS hjr]
    congr 1
    simp [p8]
  ·rintro⟨o2,i2⟩ e hI
   dsimp only at e hI ⊢
   subst e;subst hI
   refine Ok.ix hx ?_
   rw [m0,aR]
   refine Ok.br ?_
   dsimp only
   rw [hts]
   congr 1
   exact lJ (by unfold p8;rw [cV];omega)
  intro o ho
  exact Ok.cs ho (fun s hs=>Ok.nx ⟨bS (by omega),hs⟩) (fun r hr=>hr.elim)
 ·rintro⟨out,i⟩ e hI
  dsimp only at e hI ⊢
  subst e
  rw [m0,aR]
  exact Ok.br (by rw [dZ] at hI;exact hI)
 intro o ho
 exact Ok.cs ho (fun s hs=>Ok.ret hs) (fun r hr=>hr.elim)
theorem zd {l:List aI} {ys:List Int} (hm: ∀r∈l,r.Y0∈ys/\r.Y1∈ys) {s:Int×Int} {y:Int} (hs:s∈kp ys) (hy:jI ys) (h1:s.1<=y) (h2:y<s.2):kT l y=kT l s.1:=Fu fun r hr=>by
 obtain⟨m1,m2⟩:=hm r hr
 obtain⟨_,_,_,h⟩:=qI hy s hs
 rcases h _ m1 with h3 | h3 <;> rcases h _ m2 with h4 | h4 <;> constructor <;> intro h5 <;> omega
theorem C6 {l:List aI} {ys:List Int} (hm: ∀r∈l,r.Y0∈ys/\r.Y1∈ys) {y:Int} (h: (∀c∈ys,y<c)\/(∀c∈ys,c<=y)):kT l y= []:=Im fun r hr hc=>by
 obtain⟨m1,m2⟩:=hm r hr
 rcases h with h | h
 ·have:=h _ m1;omega
 ·have:=h _ m2;omega
theorem C7 {l:List aI}: ∀r∈l,r.Y0∈ky (jB l)/\r.Y1∈ky (jB l):=fun r hr=>⟨za.2 (lD.2 ⟨r,hr, .inl rfl⟩),za.2 (lD.2 ⟨r,hr, .inr rfl⟩)⟩
theorem Ip (l:List aI): (ky (jB l)).length<=2*l.length:=by
 have:=tj (jB l)
 rwa [jJ] at this
theorem t6 {l:List aI} {s:List aA} (hc:eU (s.map cB)) (hcov: ∀x y,uK (s.map cB) x y=sW l x y) (hl:l.length<=10000000) (hok: ∀r∈l,r.X0<r.X1) (hr: (aS s).length<=1099511627776) (hN:4398046511104<=N):
  fz N l=some (aS s):=by
 refine Ok.get ?_
 unfold fz
 refine Ok.eq (Bj (by omega) hN) ?_
 have hyl:=Ip l
 have hyi:=ny (jB l)
 have hf: ∀y,jI (dF (kT l y))/\(dF (kT l y)).length % 2=0:=fun y=>⟨(tk hok y).1,by rw [ke];omega⟩
 have hfl: ∀y,(dF (kT l y)).length<=20000000:=fun y=>by rw [ke];have:=rp l y;omega
 obtain⟨b1,b2⟩:=zx (f:=fun y=>dF (kT l y)) hf hyi (fun t ht y h1 h2=>by (try dsimp only);rw [zd C7 ht hyi h1 h2]) (fun y h=>by (try dsimp only);rw [C6 C7 h];rfl)
 have hsame:mo (fun y=>dF (kT l y)) (kp (ky (jB l))) []=s.map cB:=tU b1 hc fun x y=>by
  rw [hcov];unfold uK;rw [b2,sY (hf y).1,(tk hok y).2]
 have hmy:= @C7 l
 generalize ky (jB l)=ys at *
 refine Ok.bind (Ok.pR (n:=max 1 ys.length) (fun s=>s.2) (fun k st=>1<=k/\st.1.map su=mo (fun y=>dF (kT l y)) ((kp ys).take (k - 1)) []) (Go:=fun st=>st.1.map su=s.map cB) (Rt:=fun _=>False) ?_ ?_ (k0:=1) (by omega) rfl ⟨bW _,rfl⟩ (by omega)) ?_
 ·rintro k ⟨out,i⟩ hk e ⟨hk1,hI⟩
  dsimp only at e hI ⊢
  subst e
  have hk2:k<ys.length:=by omega
  rw [kC hk2,aQ,jq hk1 (by omega)]
  refine Ok.idx (by omega) (Ok.idx hk2 (Ok.idx (by omega) (Ok.bind (C3 (by omega) hN) fun r hr=>Ok.bind (Bn hyi (f:=fun y=>dF (kT l y)) hfl (by omega) (by omega) hk1 hk2 hI (by (try dsimp only);rw [hr]) hN) fun o ho=>Ok.nx ⟨bS (by omega),by omega,?_⟩)))
  rw [Nat.add_sub_cancel];exact ho
 ·rintro⟨out,i⟩ e ⟨hk1,hI⟩
  dsimp only at e hI ⊢
  subst e
  rw [yp (by omega),aR]
  refine Ok.br ?_
  rw [lJ (by rw [m6];omega),hsame] at hI
  exact hI
 intro o ho
 refine Ok.cs ho (fun st hs=>?_) (fun r hr=>hr.elim)
 have e:=zc hs
 obtain⟨s1,s2⟩:=qA (f:=fun y=>dF (kT l y)) hfl (kp ys) [] (fun c hc=>by cases hc)
 refine Ok.eq (Gd (l:=st.1) ?_ ?_ (by rw [e];exact hr) hN) (Ok.ret e)
 ·have: (st.1.map su).length<=ys.length:=by rw [hs,<-hsame];have:=m6 ys;simp only [List.length_nil] at s2;omega
  rw [cV] at this;omega
 ·intro b hb
  have h3:=s1 (su b) (by rw [hsame,<-hs];exact dC.2 ⟨b,hb,rfl⟩)
  have h4: (su b).xs.length=2*b.ja.length:=by unfold su;rw [ke,cV]
  omega
def rq (w:Int) (p q:Bool):Bool:=((((w==1)&&(p||q))||(((w==2)&&p)&&q))||(((w==3)&&p)&&(!q)))
theorem Iq (w:Int):rq w false false=false:=by unfold rq;simp
theorem zF (gO:Bool->Bool->Bool) (a b ss:List (Int×Int)) (s:Int×Int) (out:List (Int×Int)):mn gO a b (ss++[s]) out=if gO (jt a s.1) (jt b s.1)=true then lR (mn gO a b ss out) s else mn gO a b ss out:=by unfold mn;rw [List.foldl_append];rfl
theorem xe (gO:Bool->Bool->Bool) (a b:List (Int×Int)): ∀(ss out:List (Int×Int)),(mn gO a b ss out).length<=out.length+ss.length
 | [],out=>by simp [mn]
 | s::ss,out=>by
  have h1:=xe gO a b ss (if gO (jt a s.1) (jt b s.1)=true then lR out s else out)
  have h2: (if gO (jt a s.1) (jt b s.1)=true then lR out s else out).length<=out.length+1:=by
   split
   ·exact zC _ _
   ·omega
  show (mn gO a b ss (if gO (jt a s.1) (jt b s.1)=true then lR out s else out)).length<=_
  rw [dI];omega
def zG (a b:List (Int×Int)):List Int:=ky (dF a++dF b)
theorem Cn (a b:List (Int×Int)): (zG a b).length<=2*a.length+2*b.length:=by
 have:=tj (dF a++dF b)
 rw [cW,ke,ke] at this
 exact this
theorem Ir {a b:List aG} {w:Int} (ha:a.length<=10000000) (hb:b.length<=10000000) (hN:4398046511104<=N):
  Ok (jW N a b w) (fun r=>r.map sp=mn (rq w) (a.map sp) (b.map sp) (kp (zG (a.map sp) (b.map sp))) []):=by
 unfold jW
 have hfl: ∀(l:List aG),(ky (dF (l.map sp))).length<=2*l.length:=fun l=>by
  have:=tj (dF (l.map sp))
  rwa [ke,cV] at this
 refine Ok.bind (Ok.pR (n:=a.length) (fun s=>s.2) (fun k s=>s.1=ky (dF ((a.take k).map sp))) (Go:=fun s=>s.1=ky (dF (a.map sp))) (Rt:=fun _=>False) ?_ ?_ (dJ _) rfl rfl (by omega)) ?_
 ·rintro k ⟨out,i⟩ hk e hI
  dsimp only at e hI ⊢
  subst e;subst hI
  rw [kC hk,aQ]
  have hx:a[k]? =some a[k]:=aO hk
  have h1:=hfl (a.take k)
  rw [cG] at h1
  have h2:=yq (ky (dF ((a.take k).map sp))) a[k].from_
  refine Ok.ix hx (Ok.ix hx (Ok.eq (vQ (ny _) (by omega) hN) (Ok.eq (vQ (ti (ny _)) (by omega) hN) (Ok.nx ⟨bS (by omega),?_⟩))))
  rw [dS hk,dL,tV]
  exact(vu _ _ _).symm
 ·rintro⟨out,i⟩ e hI
  dsimp only at e hI ⊢
  subst e
  rw [m0,aR]
  exact Ok.br (by rw [dZ] at hI;exact hI)
 intro o ho
 refine Ok.cs ho ?_ (fun r hr=>hr.elim)
 rintro⟨xa,ia⟩ hxa
 dsimp only at hxa ⊢
 subst hxa
 refine Ok.bind (Ok.pR (n:=b.length) (fun s=>s.2) (fun k s=>s.1=ky (dF (a.map sp)++dF ((b.take k).map sp))) (Go:=fun s=>s.1=zG (a.map sp) (b.map sp)) (Rt:=fun _=>False) ?_ ?_ (dJ _) rfl (by simp [dF]) (by omega)) ?_
 ·rintro k ⟨out,i⟩ hk e hI
  dsimp only at e hI ⊢
  subst e;subst hI
  rw [kC hk,aQ]
  have hx:b[k]? =some b[k]:=aO hk
  have h1:=tj (dF (a.map sp)++dF ((b.take k).map sp))
  rw [cW,ke,ke,cV,cV,cG] at h1
  have h2:=yq (ky (dF (a.map sp)++dF ((b.take k).map sp))) b[k].from_
  refine Ok.ix hx (Ok.ix hx (Ok.eq (vQ (ny _) (by omega) hN) (Ok.eq (vQ (ti (ny _)) (by omega) hN) (Ok.nx ⟨bS (by omega),?_⟩))))
  rw [dS hk,dL,tV,<-jZ]
  exact(vu _ _ _).symm
 ·rintro⟨out,i⟩ e hI
  dsimp only at e hI ⊢
  subst e
  rw [m0,aR]
  exact Ok.br (by rw [dZ] at hI;exact hI)
 intro o ho
 refine Ok.cs ho ?_ (fun r hr=>hr.elim)
 rintro⟨xs,ix⟩ hxs
 dsimp only at hxs ⊢
 have hxl:=Cn (a.map sp) (b.map sp)
 rw [<-hxs,cV,cV] at hxl
 rw [<-hxs]
 clear hxs
 refine Ok.bind (Ok.pR (n:=max 1 xs.length) (fun s=>s.2) (fun k st=>1<=k/\st.1.map sp=mn (rq w) (a.map sp) (b.map sp) ((kp xs).take (k - 1)) []) (Go:=fun st=>st.1.map sp=mn (rq w) (a.map sp) (b.map sp) (kp xs) []) (Rt:=fun _=>False) ?_ ?_ (k0:=1) (by omega) rfl ⟨bW _,rfl⟩ (by omega)) ?_
 ·rintro k ⟨out,i⟩ hk e ⟨hk1,hI⟩
  dsimp only at e hI ⊢
  subst e
  have hk2:k<xs.length:=by omega
  rw [kC hk2,aQ,jq hk1 (by omega)]
  have hx:xs[k - 1]? =some (xs[k - 1]'(by omega)):=aO _
  have hy:xs[k]? =some xs[k]:=aO hk2
  have hg:=Bm xs (k - 1) (by omega)
  have hts: (kp xs).take k= (kp xs).take (k - 1)++[(xs[k - 1]'(by omega),xs[k])]:=by
   have hl:k - 1< (kp xs).length:=by rw [m6];omega
   have e:=dS hl
   rw [show k - 1+1=k by omega] at e
   rw [e]
   congr 1
   rw [aO hl] at hg
   injection hg with hg
   rw [hg];simp only [show k - 1+1=k by omega]
  have hol:out.length<=xs.length:=by
   have h1:=xe (rq w) (a.map sp) (b.map sp) ((kp xs).take (k - 1)) []
   rw [<-hI,cV,cG,m6] at h1
   simp only [List.length_nil] at h1;omega
  refine Ok.ix hx (Ok.ix hx (Ok.eq (zb (by omega) hN) (Ok.eq (zb (by omega) hN) ?_)))
  refine Ok.bind (P:=fun r:List aG=>r.map sp=mn (rq w) (a.map sp) (b.map sp) ((kp xs).take k) []) (Ok.bif (fun hb=>?_) (fun hb=>?_)) (fun r hr=>Ok.nx ⟨bS (by omega),by omega,by rw [Nat.add_sub_cancel];exact hr⟩)
  ·refine Ok.ix hx (Ok.ix hy (Ok.bind (Cm (by omega) hN) (fun r hr=>Ok.ret ?_)))
   rw [hr,hI,hts,zF,aC (show rq w _ _=true from hb)];rfl
  ·refine Ok.ret ?_
   rw [hI,hts,zF,aF (show ¬rq w _ _=true by rw [j5];exact hb)]
 ·rintro⟨out,i⟩ e ⟨hk1,hI⟩
  dsimp only at e hI ⊢
  subst e
  rw [yp (by omega),aR]
  refine Ok.br ?_
  rw [lJ (by rw [m6];omega)] at hI
  exact hI
 intro o ho
 exact Ok.cs ho (fun s hs=>Ok.ret hs) (fun r hr=>hr.elim)
def og (w:Int) (a b:List aI) (y:Int):List (Int×Int):=mn (rq w) (kT a y) (kT b y) (kp (zG (kT a y) (kT b y))) []
theorem Ex (a b:List (Int×Int)):Ends a (zG a b)/\Ends b (zG a b):=by
 constructor <;> intro s hs <;> constructor <;> refine za.2 (dA.2 ?_)
 ·exact .inl (List.mem_flatMap.2 ⟨s,hs,by simp⟩)
 ·exact .inl (List.mem_flatMap.2 ⟨s,hs,by simp⟩)
 ·exact .inr (List.mem_flatMap.2 ⟨s,hs,by simp⟩)
 ·exact .inr (List.mem_flatMap.2 ⟨s,hs,by simp⟩)
theorem zH {a b:List aI} (ha: ∀r∈a,r.X0<r.X1) (hb: ∀r∈b,r.X0<r.X1) (w y:Int):jI (dF (og w a b y))/\∀x,jt (og w a b y) x=rq w (sW a x y) (sW b x y):=by
 obtain⟨h1,h2⟩:=D6 (gO:=rq w) (Iq w) (a:=kT a y) (b:=kT b y) (xs:=zG (kT a y) (kT b y)) (ny _) (Ex _ _).1 (Ex _ _).2
 exact⟨h1,fun x=>by rw [show jt (og w a b y) x=_ from h2 x,(tk ha y).2,(tk hb y).2]⟩
theorem Fw (w:Int) (a b:List aI) (y:Int): (og w a b y).length<=2*a.length+2*b.length:=by
 have h1:=xe (rq w) (kT a y) (kT b y) (kp (zG (kT a y) (kT b y))) []
 have h2:=Cn (kT a y) (kT b y)
 have h3:=rp a y
 have h4:=rp b y
 rw [m6] at h1
 unfold og
 simp only [List.length_nil] at h1;omega
theorem Ey {a b:List aI} {w:Int} {s:List aA} (hc:eU (s.map cB)) (hcov: ∀x y,uK (s.map cB) x y=rq w (sW a x y) (sW b x y)) (hla:a.length<=10000000) (hlb:b.length<=10000000)
  (ha: ∀r∈a,r.X0<r.X1) (hb: ∀r∈b,r.X0<r.X1) (hr: (aS s).length<=1099511627776) (hN:4398046511104<=N):gG N a b w=some (aS s):=by
 refine Ok.get ?_
 unfold gG
 refine Ok.app (by simp only [List.length_nil];omega) (Ok.app (by rw [List.nil_append];omega) ?_)
 rw [List.nil_append]
 refine Ok.eq (Bj (by rw [cW];omega) hN) ?_
 have hyl:=Ip (a++b)
 rw [cW] at hyl
 have hyi:=ny (jB (a++b))
 have hmy:= @C7 (a++b)
 have hma: ∀r∈a,r.Y0∈ky (jB (a++b))/\r.Y1∈ky (jB (a++b)):=fun r hr=>hmy r (List.mem_append_left _ hr)
 have hmb: ∀r∈b,r.Y0∈ky (jB (a++b))/\r.Y1∈ky (jB (a++b)):=fun r hr=>hmy r (List.mem_append_right _ hr)
 have hf: ∀y,jI (dF (og w a b y))/\(dF (og w a b y)).length % 2=0:=fun y=>⟨(zH ha hb w y).1,by rw [ke];omega⟩
 have hfl: ∀y,(dF (og w a b y)).length<=80000000:=fun y=>by rw [ke];have:=Fw w a b y;omega
 obtain⟨b1,b2⟩:=zx (f:=fun y=>dF (og w a b y)) hf hyi (fun t ht y h1 h2=>by (try dsimp only);unfold og;rw [zd hma ht hyi h1 h2,zd hmb ht hyi h1 h2]) (fun y h=>by
  (try dsimp only);unfold og;rw [C6 hma h,C6 hmb h];rfl)
 have hsame:mo (fun y=>dF (og w a b y)) (kp (ky (jB (a++b)))) []=s.map cB:=tU b1 hc fun x y=>by
  rw [hcov];unfold uK;rw [b2,sY (hf y).1,(zH ha hb w y).2]
 clear hmy hma hmb
 generalize ky (jB (a++b))=ys at *
 refine Ok.bind (Ok.pR (n:=max 1 ys.length) (fun s=>s.2) (fun k st=>1<=k/\st.1.map su=mo (fun y=>dF (og w a b y)) ((kp ys).take (k - 1)) []) (Go:=fun st=>st.1.map su=s.map cB) (Rt:=fun _=>False) ?_ ?_ (k0:=1) (by omega) rfl ⟨bW _,rfl⟩ (by omega)) ?_
 ·rintro k ⟨out,i⟩ hk e ⟨hk1,hI⟩
  dsimp only at e hI ⊢
  subst e
  have hk2:k<ys.length:=by omega
  rw [kC hk2,aQ,jq hk1 (by omega)]
  refine Ok.idx (by omega) (Ok.idx hk2 (Ok.idx (by omega) (Ok.idx (by omega) (Ok.bind (C3 (by omega) hN) fun r1 hr1=>Ok.bind (C3 (by omega) hN) fun r2 hr2=>?_))))
  have l1:r1.length<=10000000:=by have:=rp a (ys[k - 1]'(by omega));rw [<-hr1,cV] at this;omega
  have l2:r2.length<=10000000:=by have:=rp b (ys[k - 1]'(by omega));rw [<-hr2,cV] at this;omega
  refine Ok.bind (Ir l1 l2 hN) fun r hr=>Ok.bind (Bn hyi (f:=fun y=>dF (og w a b y)) hfl (by omega) (by omega) hk1 hk2 hI (by (try dsimp only);rw [hr,hr1,hr2];rfl) hN) fun o ho=>Ok.nx ⟨bS (by omega),by omega,?_⟩
  rw [Nat.add_sub_cancel];exact ho
 ·rintro⟨out,i⟩ e ⟨hk1,hI⟩
  dsimp only at e hI ⊢
  subst e
  rw [yp (by omega),aR]
  refine Ok.br ?_
  rw [lJ (by rw [m6];omega),hsame] at hI
  exact hI
 intro o ho
 refine Ok.cs ho (fun st hs=>?_) (fun r hr=>hr.elim)
 have e:=zc hs
 obtain⟨s1,s2⟩:=qA (f:=fun y=>dF (og w a b y)) hfl (kp ys) [] (fun c hc=>by cases hc)
 refine Ok.eq (Gd (l:=st.1) ?_ ?_ (by rw [e];exact hr) hN) (Ok.ret e)
 ·have: (st.1.map su).length<=ys.length:=by rw [hs,<-hsame];have:=m6 ys;simp only [List.length_nil] at s2;omega
  rw [cV] at this;omega
 ·intro b hb
  have h3:=s1 (su b) (by rw [hsame,<-hs];exact dC.2 ⟨b,hb,rfl⟩)
  have h4: (su b).xs.length=2*b.ja.length:=by unfold su;rw [ke,cV]
  omega
theorem C8 (n:Int):cS N n=some (lI n):=rfl
theorem Bo {l:List aI} (hl:l.length<=1099511627776) (hN:4398046511104<=N):gY N l=some (lE l):=by
 refine Ok.get ?_
 unfold gY lE
 by_cases h:2000<l.length
 ·rw [bU (by omega),aQ,aC h];exact Ok.ret rfl
 ·rw [cF (by omega),aR,aF h]
  refine Ok.bind (Ok.pR (n:=l.length) (fun s=>s) (fun k s=>∀(j:Nat) x,j<k->l[j]? =some x->kQ x=none) (Go:=fun s=>l.findSome? kQ=none) (Rt:=fun r=>l.findSome? kQ=some r) ?_ ?_ (dJ _) rfl (fun j x hj=>by omega) (by omega)) ?_
  ·rintro k i hk e hI
   subst e
   rw [kC hk,aQ]
   have hx:l[k]? =some l[k]:=aO hk
   have hrt: ∀c,kQ l[k]=some c->l.findSome? kQ=some c:=fun c hc=>by
    rw [List.findSome?_eq_some_iff]
    refine⟨l.take k,l[k],l.drop (k+1),?_,hc,fun x hx'=>?_⟩
    ·rw [List.getElem_cons_drop,List.take_append_drop]
    ·obtain⟨j,hj⟩:=dU hx'
     have hjk:j<k:=by have:=(bD.1 hj).1;rw [cG] at this;omega
     exact hI j x hjk (by rw [List.getElem?_take_of_lt hjk] at hj;exact hj)
   refine Ok.ix hx ?_
   have hb: ((cS N l[k].X0).bind fun x110=>bif (!x110) then (some true) else ((cS N l[k].Y0).bind fun x112=>bif (!x112) then (some true) else ((cS N l[k].X1).bind fun x114=>bif (!x114) then (some true) else ((cS N l[k].Y1).bind fun x116=>some (!x116)))))=some (!fG l[k]):=by
    rw [C8,C8,C8,C8]
    unfold fG
    simp only [aB]
    cases lI l[k].X0 <;> cases lI l[k].Y0 <;> cases lI l[k].X1 <;> rfl
   refine Ok.eq hb (Ok.bif (fun h1=>Ok.rt (hrt 1 ?_)) (fun h1=>Ok.bif (fun h2=>Ok.rt (hrt 13 ?_)) (fun h2=>Ok.nx ⟨bS (by omega),fun j x hj hjx=>?_⟩)))
   ·unfold kQ;rw [aF (by rw [j5];simpa using h1)]
   ·unfold kQ
    rw [aC (by simpa using h1),aC (by rw [dM,bV,bV] at h2;exact h2)]
   ·by_cases e:j=k
    ·subst e;rw [hx] at hjx;injection hjx with hjx;rw [<-hjx]
     unfold kQ
     rw [aC (by simpa using h1),aF (by rw [<-j5,dM,bV,bV] at h2;exact h2)]
    ·exact hI j x (by omega) hjx
  ·rintro i e hI
   subst e
   rw [m0,aR]
   refine Ok.br ?_
   rw [List.findSome?_eq_none_iff]
   intro x hx
   obtain⟨j,hj⟩:=dU hx
   exact hI j x (bD.1 hj).1 hj
  intro o ho
  exact Ok.cs ho (fun s hs=>Ok.ret (by rw [hs];rfl)) (fun r hr=>Ok.ret (by rw [hr];rfl))
theorem Fx {l:List aI} {s:List aA} (hs:tc l s):A9 l↔aS s=l:=⟨fun⟨t,h1,h2⟩=>by rw [hs.unique h1];exact h2,fun h=>⟨s,hs,h⟩⟩
theorem uu {l:List aI} (hl:l.length<=1073741824) (hN:4398046511104<=N):fH N l=some (j6 l):=by
 refine Ok.get ?_
 unfold fH
 refine Ok.eq (Bo (by omega) hN) ?_
 unfold j6
 refine Ok.bif (fun h=>Ok.ret ?_) (fun h=>?_)
 ·rw [aC (by simpa using h)]
 ·have h0:lE l=0:=by simpa using h
  rw [aF (by simpa using h0)]
  obtain⟨hlen,hok⟩:=Ba h0
  have hbf: ∀a b:aI,(((decide (a.Y0<b.Y0))||((a.Y0==b.Y0)&&(decide (a.X0<b.X0))))=true)↔¬(b.Y0<a.Y0\/(b.Y0=a.Y0/\b.X0<=a.X0)):=fun a b=>by
   rw [dM,bX,bV,bV,beq_iff_eq];omega
  refine Ok.bind (Ok.jK (Go:=fun _=>Kx l) (Rt:=fun r=>r=8/\¬Kx l) (fun s=>∃k:Nat,s= ((k:Nat):Int)/\1<=k/\∀(j:Nat) a b,j+1<k->l[j]? =some a->l[j+1]? =some b->¬(b.Y0<a.Y0\/(b.Y0=a.Y0/\b.X0<=a.X0))) (fun s=>l.length - s.toNat) ?_ ⟨1,rfl,bW _,fun j a b hj=>by omega⟩ (by simp;omega)) ?_
  ·rintro s ⟨k,rfl,hk,hI⟩
   refine Ok.bif (fun h=>?_) (fun h=>Ok.br fun j a b ha hb=>hI j a b ?_ ha hb)
   ·have hk2:k<l.length:=by have:=of_decide_eq_true h;omega
    rw [jq hk (by omega)]
    have hx:l[k - 1]? =some (l[k - 1]'(by omega)):=aO _
    have hy:l[k]? =some l[k]:=aO hk2
    refine Ok.ix hx (Ok.ix hy ?_)
    unfold iE
    rw [aB]
    refine Ok.bif (fun hb=>Ok.rt ⟨rfl,fun hu=>?_⟩) (fun hb=>Ok.nx ⟨⟨k+1,by rw [bS (by omega)],by omega,fun j a b hj ha hb'=>?_⟩,by rw [bS (by omega)];simp only [cK];omega⟩)
    ·have:=(hbf _ _).2 (hu (k - 1) _ _ hx (by rw [show k - 1+1=k by omega];exact hy))
     rw [this] at hb;cases hb
    ·by_cases e:j+1<k
     ·exact hI j a b e ha hb'
     ·have:j+1=k:=by omega
      have h1:l[k - 1]? =some a:=by rw [show k - 1=j by omega];exact ha
      have h2:l[k]? =some b:=by rw [<-this];exact hb'
      rw [hx] at h1;rw [hy] at h2
      injection h1 with h1;injection h2 with h2
      rw [<-h1,<-h2]
      refine(hbf _ _).1 ?_
      rw [Bool.not_eq_false'] at hb
      exact hb
   ·have:=of_decide_eq_false h
    have:=(bD.1 hb).1;omega
  ·rintro o ho
   refine Ok.cs ho (fun s hu=>?_) (fun r hr=>Ok.ret (by rw [hr.1,aF hr.2]))
   rw [aC hu]
   obtain⟨s,_,hs⟩:=pw (N:=N) (l:=l) (by omega) hok (by omega)
   obtain⟨z1,z2,z3⟩:=hs.Eh
   have z4:2*l.length* (2*l.length)<=4000*4000:=Nat.mul_le_mul (by omega) (by omega)
   refine Ok.eq (t6 hs.can hs.cover (by omega) (fun r hr=>(hok r hr).x) (by omega) hN) (Ok.eq (C4 (by omega) hN) ?_)
   have hiff:=Fx hs
   refine Ok.bif (fun h=>Ok.ret ?_) (fun h=>Ok.ret ?_)
   ·have h: ¬l=aS s:=by simpa using h
    rw [aF (fun h'=>h (hiff.1 h').symm)]
   ·have h:l=aS s:=by simpa using h
    rw [aC (hiff.2 h.symm)]
end
end Go.Gk
namespace Go.Gk
open Go Classical
theorem Bp (n:Nat) (g:Nat->Nat): ((List.range (n+1)).map g).sum= ((List.range n).map g).sum+g n:=by
 rw [List.range_succ,dL,List.sum_append];simp
def Mj (r:aI) (x y:Int):Bool:=(decide (r.X0<=x)&&decide (x<r.X1))&&(decide (r.Y0<=y)&&decide (y<r.Y1))
def Md (a b:aI):Prop:=∀x y,¬(Mj a x y=true/\Mj b x y=true)
theorem Jk {r:aI} {x y:Int}:Mj r x y=true↔(r.X0<=x/\x<r.X1)/\r.Y0<=y/\y<r.Y1:=by unfold Mj;simp
theorem yt: ∀{xs:List Int},jI xs->(AV xs).Pairwise (fun p q=>p.2<q.1)
 | [],_=>j3
 | [a],_=>j3
 | a::b::l,h=>by
  unfold AV
  rw [oI]
  exact⟨fun q hq=>h.tail.head q.1 (CU q hq).1,yt h.tail.tail⟩
def ru (a b:aI):Prop:=a.Y1<=b.Y0\/(a.Y0=b.Y0/\a.Y1=b.Y1/\a.X1<b.X0)
theorem ru.apart {a b:aI} (h:ru a b):Md a b:=fun x y ⟨h1,h2⟩=>by
 rw [Jk] at h1 h2
 rcases h with h | h <;> omega
theorem qB: ∀{s:List aA},eU (s.map cB)->(aS s).Pairwise ru
 | [],_=>j3
 | b::s,h=>by
  rw [mV,m8]
  refine⟨?_,qB h.tail,fun x hx y hy=>?_⟩
  ·unfold mU
   rw [List.pairwise_map]
   exact List.Pairwise.imp (fun hpq=> .inr ⟨rfl,rfl,hpq⟩) (yt (h.each (cB b) (by simp)).2.2.1)
  ·unfold mU at hx
   obtain⟨p,_,rfl⟩:=dC.1 hx
   obtain⟨c,hc,q,_,rfl⟩:=qJ hy
   exact .inl (h.AO (cB c) (dC.2 ⟨c,hc,rfl⟩))
theorem tm {s:List aA} (h:eU (s.map cB)): ∀r∈aS s,r.X0<r.X1/\r.Y0<r.Y1:=fun r hr=>by
 obtain⟨b,hb,p,hp,rfl⟩:=qJ hr
 have hc:=h.each (cB b) (dC.2 ⟨b,hb,rfl⟩)
 exact⟨Fg hc.2.2.1 p hp,hc.1⟩
theorem Ez {s:List aA} (h:eU (s.map cB)): (aS s).Nodup:=by
 have h1:=qB h
 have h2:=tm h
 refine List.Pairwise.imp_of_mem (fun{a b} ha hb hab e=>?_) h1
 subst e
 have:=h2 a ha
 rcases hab with h | h <;> omega
def p9 (s:List Bd):Nat:=(s.map (fun b=>b.xs.length / 2)).sum
theorem vv (s t:List Bd):p9 (s++t)=p9 s+p9 t:=by unfold p9;rw [dL,List.sum_append]
theorem G3 (s:List Bd) (b:Bd):p9 (jR s b)<=p9 s+b.xs.length / 2:=by
 unfold jR
 split
 ·omega
 ·split
  ·rename_i c hc
   have hsp:=re hc
   have e:p9 s=p9 s.dropLast+c.xs.length / 2:=by
    conv=>lhs;rw [hsp,vv]
    simp [p9]
   split
   ·rw [vv,e];simp [p9]
   ·rw [vv];simp [p9]
  ·simp [p9]
structure NL (t:List Bd):Prop where
 each: ∀b∈t,b.y0<b.y1/\jI b.xs/\b.xs.length % 2=0
 ord:t.Pairwise (fun b c=>b.y1<=c.y0)
theorem fold_push: ∀(t out:List Bd),NL t->eU out->(∀c∈out,∀b∈t,c.y1<=b.y0)->eU (t.foldl jR out)/\p9 (t.foldl jR out)<=p9 out+p9 t/\
  ∀y,rowAt (t.foldl jR out) y=if (∃b∈t,b.y0<=y/\y<b.y1) then rowAt t y else rowAt out y
 | [],out,_,hc,_=>⟨hc,by simp [p9],fun y=>by simp⟩
 | b::t,out,hl,hc,ho=>by
  have hb:=hl.each b (by simp)
  have hord:=oI.1 hl.ord
  have ho1: ∀c∈out,c.y1<=b.y0:=fun c h=>ho c h b (by simp)
  have h1:=vI hc ho1 hb.2.1 hb.2.2
  have htop:=vJ ho1 (show b.y0<=b.y1 by omega)
  obtain⟨f1,f2,f3⟩:=fold_push t (jR out b) ⟨fun c hcm=>hl.each c (ig _ hcm),hord.2⟩ h1 (fun c hcm d hd=>by have:=htop c hcm;have:=hord.1 d hd;omega)
  refine⟨f1,?_,fun y=>?_⟩
  ·have:=G3 out b
   have e:p9 (b::t)=b.xs.length / 2+p9 t:=by simp [p9]
   rw [List.foldl_cons,e];omega
  ·rw [List.foldl_cons,f3 y,vH ho1 (fun c hcm=>(hc.each c hcm).1) (fun h=>absurd h (by omega)),mS]
   by_cases hy:b.y0<=y/\y<b.y1
   ·have hn: ¬∃c∈t,c.y0<=y/\y<c.y1:=fun⟨c,hcm,h⟩=>by have:=hord.1 c hcm;omega
    rw [aF hn,aC hy,aC ⟨b,by simp,hy⟩,aC hy]
   ·rw [aF hy]
    by_cases h: ∃c∈t,c.y0<=y/\y<c.y1
    ·obtain⟨c,hcm,h⟩:=h
     rw [aC ⟨c,hcm,h⟩,aC ⟨c,ig _ hcm,h⟩,aF hy]
    ·rw [aF h,aF hy,aF (show ¬∃c∈b::t,c.y0<=y/\y<c.y1 from fun⟨c,hcm,h2⟩=>by
      rcases dE.1 hcm with rfl | hcm
      ·exact hy h2
      ·exact h ⟨c,hcm,h2⟩)]
noncomputable def qg (C:List aI) (b:aA):Bd:=⟨b.Y0,b.Y1,dF ((AV b.Xs).filter (fun p=>decide ((⟨p.1,b.Y0,p.2,b.Y1⟩:aI)∈C)))⟩
theorem G4 {l m:List (Int×Int)} (h:l.Sublist m): (dF l).Sublist (dF m):=by
 induction h with
 | slnil=>exact List.Sublist.refl _
 | cons a _ ih=>rw [ju];exact(ih.cons _).cons _
 | cons_cons a _ ih=>rw [ju,ju];exact(ih.cons_cons _).cons_cons _
theorem Bq (l:List (Int×Int)): (dF l).length % 2=0/\(dF l).length / 2=l.length:=by rw [ke];omega
theorem Co {s p:List aA} {C:List aI} (hs:eU (s.map cB)) (hp:eU (p.map cB)) (hC: ∀r∈C,r∈aS s) (hcov: ∀x y,uK (p.map cB) x y=sW C x y): (aS p).length<=C.length:=by
 have hinc: ∀b∈s,jI (qg C b).xs:=fun b hb=>by
  have h1:=F7 hs b hb
  have h2:=G4 (List.filter_sublist (l:=AV b.Xs) (p:=fun p=>decide ((⟨p.1,b.Y0,p.2,b.Y1⟩:aI)∈C)))
  rw [yc (tf hs b hb)] at h2
  exact List.Pairwise.sublist h2 h1
 have hlow:NL (s.map (qg C)):=by
  refine⟨fun b hb=>?_,?_⟩
  ·obtain⟨c,hc,rfl⟩:=dC.1 hb
   exact⟨(hs.each (cB c) (dC.2 ⟨c,hc,rfl⟩)).1,hinc c hc,(Bq _).1⟩
  ·have:=hs.ord
   rw [List.pairwise_map] at this ⊢
   exact List.Pairwise.imp (fun h=>h.1) this
 obtain⟨f1,f2,f3⟩:=fold_push (s.map (qg C)) [] hlow eU.nil (fun c hc=>by cases hc)
 have hrow: ∀{t:List aA},(∀b∈t,b∈s)->∀x y,o9 (rowAt (t.map (qg C)) y) x=true->sW C x y=true:=by
  intro t ht x y h
  induction t with
  | nil=>cases h
  | cons b t ih=>
   rw [eA,mS] at h
   split at h
   ·rename_i hy
    have hbm:=ht b (by simp)
    have h1:=hinc b hbm
    have h:o9 (dF ((AV b.Xs).filter (fun p=>decide ((⟨p.1,b.Y0,p.2,b.Y1⟩:aI)∈C)))) x=true:=h
    rw [sY h1,sX] at h
    obtain⟨q,hq,h2⟩:=h
    have hq:=jy.1 hq
    exact iZ.2 ⟨_,of_decide_eq_true hq.2,h2,hy⟩
   ·exact ih (fun c hc=>ht c (ig _ hc)) h
 have hrow2: ∀x y,sW C x y=true->o9 (rowAt (s.map (qg C)) y) x=true:=by
  intro x y h
  obtain⟨r,hr,h1,h2⟩:=iZ.1 h
  obtain⟨b,hb,q,hq,rfl⟩:=qJ (hC r hr)
  dsimp only at h1 h2
  have key: ∀{t:List aA},(∀c∈t,c∈s)->eU (t.map cB)->b∈t->rowAt (t.map (qg C)) y= (qg C b).xs:=by
   intro t ht hc hbt
   induction t with
   | nil=>cases hbt
   | cons c t ih=>
    rw [eA,mS]
    by_cases hy:c.Y0<=y/\y<c.Y1
    ·rw [aC (show (qg C c).y0<=y/\y< (qg C c).y1 from hy)]
     rcases dE.1 hbt with rfl | hbt
     ·rfl
     ·have:=hc.AO (cB b) (dC.2 ⟨b,hbt,rfl⟩)
      have e1: (cB c).y1=c.Y1:=rfl
      have e2: (cB b).y0=b.Y0:=rfl
      omega
    ·rw [aF (show ¬((qg C c).y0<=y/\y< (qg C c).y1) from hy)]
     rcases dE.1 hbt with rfl | hbt
     ·exact absurd h2 hy
     ·exact ih (fun d hd=>ht d (ig _ hd)) hc.tail hbt
  rw [key (fun c hc=>hc) hs hb]
  have h1':=hinc b hb
  show o9 (dF ((AV b.Xs).filter (fun p=>decide ((⟨p.1,b.Y0,p.2,b.Y1⟩:aI)∈C)))) x=true
  rw [sY h1',sX]
  exact⟨q,jy.2 ⟨hq,bU hr⟩,h1⟩
 have hsame:p.map cB= (s.map (qg C)).foldl jR []:=tU hp f1 fun x y=>by
  rw [hcov,eX]
  have e:rowAt ((s.map (qg C)).foldl jR []) y=rowAt (s.map (qg C)) y:=by
   rw [f3]
   by_cases h: ∃b∈s.map (qg C),b.y0<=y/\y<b.y1
   ·rw [aC h]
   ·rw [aF h]
    exact(lQ fun b hb=>by
     have: ¬(b.y0<=y/\y<b.y1):=fun h2=>h ⟨b,hb,h2⟩
     omega).symm
  unfold uK
  rw [e]
  exact⟨hrow2 x y,hrow (fun b hb=>hb) x y⟩
 have hc1: (aS p).length=p9 (p.map cB):=by
  have: ∀p:List aA,(aS p).length=p9 (p.map cB):=fun p=>by
   induction p with
   | nil=>rfl
   | cons b p ih=>rw [mV,cW,nv,ih];unfold p9;rw [eA,eA,List.sum_cons];rfl
  exact this p
 have hc2: ∀s:List aA,p9 (s.map (qg C))= ((aS s).filter (fun r=>decide (r∈C))).length:=fun s=>by
  induction s with
  | nil=>rfl
  | cons b s ih=>
   rw [mV,j4,cW,<-ih]
   unfold p9
   rw [eA,eA,List.sum_cons]
   congr 1
   show (dF _).length / 2=_
   rw [(Bq _).2]
   unfold mU
   rw [List.filter_map,cV];rfl
 have hc3: ((aS s).filter (fun r=>decide (r∈C))).length<=C.length:=fT (List.Nodup.sublist List.filter_sublist (Ez hs)) fun r hr=>of_decide_eq_true (jy.1 hr).2
 rw [hc1,hsame]
 have e0:p9 ([]:List Bd)=0:=rfl
 have:=hc2 s
 omega
end Go.Gk
namespace Go.Gk
open Go Classical
section
variable {N:Nat}
theorem Jl (hN:16<=N):i9 N=some true:=by
 have:=GS (N:=N - 16)
 rwa [show N - 16+16=N by omega] at this
theorem wC {all:List aI} (w:aI->Nat): ∀(c:List Nat),((c.filterMap (fun i=>all[i]?)).map w).sum= (c.map (fun i=>(all[i]?).elim 0 w)).sum
 | []=>rfl
 | i::c=>by
  rw [eA,List.sum_cons,<-wC w c]
  cases h:all[i]? with
  | none=>rw [List.filterMap_cons_none (f:=fun i=>all[i]?) h];simp
  | some x=>rw [List.filterMap_cons_some (f:=fun i=>all[i]?) h,eA,List.sum_cons];rfl
theorem Jm {all:List aI} {u:Nat->Nat} (h: ∀i,i<all.length->u i∈bL all.length u) (w:aI->Nat): ((bL all.length u).map (fun k=>((nR all all.length u k).map w).sum)).sum= (all.map w).sum:=by
 have e: (fun k=>((nR all all.length u k).map w).sum)=fun k=>(((List.range all.length).filter (fun x=>decide (u x=k))).map (fun i=>(all[i]?).elim 0 w)).sum:=by
  funext k;unfold nR;rw [wC];rfl
 rw [e,Er (mW _ _) u _ (fun x hx=>h x (rL.1 hx))]
 have: ∀m,m<=all.length->((List.range m).map (fun i=>(all[i]?).elim 0 w)).sum= ((all.take m).map w).sum:=by
  intro m
  induction m with
  | zero=>intro _;rfl
  | succ m ih=>
   intro hm
   rw [Bp,ih (by omega),dS (by omega),dL,List.sum_append,aO (by omega)]
   simp
 rw [this _ (bW _),dZ]
theorem Bs: ∀{l m:List Nat},l.length=m.length->(∀(j x y:Nat),l[j]? =some x->m[j]? =some y->x<=y)->l.sum<=m.sum
 | [],[],_,_=>bW _
 | [],_::_,h,_=>by simp at h
 | _::_,[],h,_=>by simp at h
 | a::l,b::m,h,hle=>by
  have h1:=hle 0 a b rfl rfl
  have h2:=Bs (l:=l) (m:=m) (by simpa using h) fun j x y hx hy=>hle (j+1) x y (by simpa using hx) (by simpa using hy)
  rw [List.sum_cons,List.sum_cons];omega
theorem Ge {r hs:List aI} {s:List aA} (h1: ∀x∈r,fG x=true) (h2: ∀x∈hs,fG x=true) (hc:eU (s.map cB)) (hl:xl (s8 r++s8 hs) (jB r++jB hs) (s.map cB)): ∀q∈aS s,fG q=true/\q.X0<q.X1/\q.Y0<q.Y1:=by
 intro q hq
 have hp:=tm hc q hq
 obtain⟨b,hb,p,hpm,rfl⟩:=qJ hq
 have hll:=hl (cB b) (dC.2 ⟨b,hb,rfl⟩)
 have hm:=CU p hpm
 have bx: ∀c∈s8 r++s8 hs,-1000000<=c/\c<=1000000:=fun c hcm=>by
  rcases dA.1 hcm with h | h
  ·obtain⟨x,hx,h⟩:=s9.1 h
   have:=mY (h1 x hx)
   rcases h with rfl | rfl <;> omega
  ·obtain⟨x,hx,h⟩:=s9.1 h
   have:=mY (h2 x hx)
   rcases h with rfl | rfl <;> omega
 have by': ∀c∈jB r++jB hs,-1000000<=c/\c<=1000000:=fun c hcm=>by
  rcases dA.1 hcm with h | h
  ·obtain⟨x,hx,h⟩:=lD.1 h
   have:=mY (h1 x hx)
   rcases h with rfl | rfl <;> omega
  ·obtain⟨x,hx,h⟩:=lD.1 h
   have:=mY (h2 x hx)
   rcases h with rfl | rfl <;> omega
 have g1:=bx _ (hll.2.2 p.1 hm.1)
 have g2:=bx _ (hll.2.2 p.2 hm.2)
 have g3:=by' _ hll.1
 have g4:=by' _ hll.2.1
 exact⟨A8 ⟨g1,g3,g2,g4⟩,hp⟩
structure qc (r hs:List aI) (s:List aA) (u:Nat->Nat) (ps:List (List aA)):Prop where
 r1: ∀x∈r,fG x=true
 r2: ∀x∈hs,fG x=true
 k1: ∀x∈r,BD x
 k2: ∀x∈hs,BD x
 dr:tX r hs s
 pt:rU s u ps
 xm: (aS s).length<=2000
theorem qc.part {r hs:List aI} {s:List aA} {u:Nat->Nat} {ps:List (List aA)} (h:qc r hs s u ps) {p:List aA} (hp:p∈ps):eU (p.map cB)/\(aS p).length<=2000/\∀q∈aS p,fG q=true/\q.X0<q.X1/\q.Y0<q.Y1:=by
 obtain⟨sx,sy⟩:=h.dr.small h.k1 h.k2
 obtain⟨j,k,g1,g2,g3,g4⟩:=Be h.pt h.dr.can h.dr.lim sx sy hp
 have:=Co h.dr.can g3.can (fun x hx=>by
  obtain⟨i,_,_,hi⟩:=lY.1 hx
  exact eY hi) g3.cover
 have h2:=A4 (aS s) (aS s).length u k
 have:=h.xm
 exact⟨g3.can,by omega,Ge h.r1 h.r2 g3.can g4⟩
theorem qc.bL {r hs:List aI} {s:List aA} {u:Nat->Nat} {ps:List (List aA)} (h:qc r hs s u ps): ∀i,i< (aS s).length->u i∈Gk.bL (aS s).length u:=fun i hi=>jv.2 ⟨by have:=h.pt.join.le i hi;omega,h.pt.join.rr i hi⟩
theorem qc.total {r hs:List aI} {s:List aA} {u:Nat->Nat} {ps:List (List aA)} (h:qc r hs s u ps): (ps.map (fun p=>(aS p).length)).sum<=(aS s).length:=by
 have h1:=Jm h.bL (fun _=>1)
 have one: ∀l:List aI,(l.map (fun _=>1)).sum=l.length:=fun l=>by
  induction l with
  | nil=>rfl
  | cons x l ih=>simp only [eA,List.sum_cons,ih,dI];omega
 simp only [one] at h1
 rw [<-h1]
 refine Bs (by simp [h.pt.len]) fun j x y hx hy=>?_
 rw [gq,py] at hx hy
 obtain⟨p,hp,rfl⟩:=hx
 obtain⟨k,hk,rfl⟩:=hy
 have hs:=h.pt.each j k p hk hp
 exact Co h.dr.can hs.can (fun x hx=>by
  obtain⟨i,_,_,hi⟩:=lY.1 hx
  exact eY hi) hs.cover
theorem zI {ps:List (List aA)} {x y:Int}:sW (ps.flatMap aS) x y=true↔∃p∈ps,sW (aS p) x y=true:=by
 rw [iZ]
 constructor
 ·rintro⟨r,hr,h⟩
  obtain⟨p,hp,hrp⟩:=List.mem_flatMap.1 hr
  exact⟨p,hp,iZ.2 ⟨r,hrp,h⟩⟩
 ·rintro⟨p,hp,h⟩
  obtain⟨r,hr,h⟩:=iZ.1 h
  exact⟨r,List.mem_flatMap.2 ⟨p,hp,hr⟩,h⟩
theorem qc.cover {r hs:List aI} {s:List aA} {u:Nat->Nat} {ps:List (List aA)} (h:qc r hs s u ps) (x y:Int):sW (ps.flatMap aS) x y=uK (s.map cB) x y:=by
 rw [<-px h.dr.can,eX,zI]
 constructor
 ·rintro⟨p,hp,hc⟩
  obtain⟨j,hj⟩:=dU hp
  have hjl:=(bD.1 hj).1
  have hk: (Gk.bL (aS s).length u)[j]? =some ((Gk.bL (aS s).length u)[j]'(by rw [<-h.pt.len];exact hjl)):=aO _
  have hs:=h.pt.each j _ _ hk hj
  rw [px hs.can,hs.cover] at hc
  obtain⟨q,hq,h2⟩:=iZ.1 hc
  obtain⟨i,_,_,hi⟩:=lY.1 hq
  exact iZ.2 ⟨q,eY hi,h2⟩
 ·intro hc
  obtain⟨q,hq,h2⟩:=iZ.1 hc
  obtain⟨i,hi⟩:=dU hq
  have hil:=(bD.1 hi).1
  obtain⟨j,hj⟩:=dU (h.bL i hil)
  have hjl:j<ps.length:=by rw [h.pt.len];exact(bD.1 hj).1
  have hs:=h.pt.each j _ _ hj (aO hjl)
  refine⟨_,cN hjl,?_⟩
  rw [px hs.can,hs.cover]
  exact iZ.2 ⟨q,lY.2 ⟨i,hil,rfl,hi⟩,h2⟩
section
variable {a:kY} {m7:List (List aA)} {gE:List (List (List aA))} {r:Nat->Nat} {gs:List bQ} {ofP ofB tu:List Int} {uq:List ka}
theorem zJ (b:rn a m7 gE r gs ofP ofB tu uq) {i:Nat} (hi:i<a.aJ.length): ∃s ps u,m7[i]? =some s/\gE[i]? =some ps/\qc a.aJ[i] (j8 a.aN ((i:Nat):Int)) s u ps:=by
 have hd:m7[i]? =some (m7[i]'(by rw [b.dr.len];exact hi)):=aO _
 have hp:gE[i]? =some (gE[i]'(by rw [b.dr.z5];exact hi)):=aO _
 have hdr:=b.dr.dr i _ _ hi (aO hi) hd
 obtain⟨u,hu⟩:=b.dr.pt i _ _ hi hd hp
 have hreg:=vr.1 (b.yo.NG _ (cN hi))
 exact⟨_,_,u,hd,hp,fun x hx=>((pA.1 hreg.1).2 x hx).1,fun x hx=>(rj b.yo.gb _ x hx).2,(Ba hreg.1).2,fun x hx=>(rj b.yo.gb _ x hx).1,hdr,hu,b.xm.1 _ (eY hd)⟩
end
end
end Go.Gk
namespace Go.Gk
open Go Classical
def Bt (a b:aI):Prop:=(0<min a.X1 b.X1 - max a.X0 b.X0/\0<=min a.Y1 b.Y1 - max a.Y0 b.Y0)\/(0<=min a.X1 b.X1 - max a.X0 b.X0/\0<min a.Y1 b.Y1 - max a.Y0 b.Y0)
theorem G5 {all:List aI} (hB:all.Pairwise ru) (hp: ∀r∈all,r.X0<r.X1/\r.Y0<r.Y1) {i j:Nat} {a c:aI} (ha:all[i]? =some a) (hc:all[j]? =some c):Bt a c↔i=j\/yy all i j\/yy all j i:=by
 have h1:yy all i j↔CY a c:=⟨fun⟨a',c',e1,e2,h⟩=>by rw [ha] at e1;rw [hc] at e2;injection e1 with e1;injection e2 with e2;rw [e1,e2];exact h,fun h=>⟨a,c,ha,hc,h⟩⟩
 have h2:yy all j i↔CY c a:=⟨fun⟨a',c',e1,e2,h⟩=>by rw [hc] at e1;rw [ha] at e2;injection e1 with e1;injection e2 with e2;rw [e1,e2];exact h,fun h=>⟨c,a,hc,ha,h⟩⟩
 have p1:=hp a (eY ha)
 have p2:=hp c (eY hc)
 rw [h1,h2]
 obtain⟨l1,e1⟩:=bD.1 ha
 obtain⟨l2,e2⟩:=bD.1 hc
 unfold Bt CY
 rcases Nat.lt_trichotomy i j with h | h | h
 ·have:=m9.1 hB i j l1 l2 h
  rw [e1,e2] at this
  unfold ru at this
  rcases this with this | this
  ·constructor
   ·rintro(h3 | h3)
    ·exact .inr (.inl ⟨by omega,by omega,by omega⟩)
    ·omega
   ·rintro(h3 | h3 | h3)
    ·omega
    ·left;omega
    ·omega
  ·constructor
   ·rintro(h3 | h3) <;> omega
   ·rintro(h3 | h3 | h3) <;> omega
 ·subst h
  rw [ha] at hc;injection hc with hc;subst hc
  exact⟨fun _=> .inl rfl,fun _=> .inl (by omega)⟩
 ·have:=m9.1 hB j i l2 l1 h
  rw [e1,e2] at this
  unfold ru at this
  rcases this with this | this
  ·constructor
   ·rintro(h3 | h3)
    ·exact .inr (.inr ⟨by omega,by omega,by omega⟩)
    ·omega
   ·rintro(h3 | h3 | h3)
    ·omega
    ·omega
    ·left;omega
  ·constructor
   ·rintro(h3 | h3) <;> omega
   ·rintro(h3 | h3 | h3) <;> omega
theorem ze {α:Type} {q q':List α} (h:q <+:q') {t:Nat} {x:α} (hx:q[t]? =some x):q'[t]? =some x:=by
 obtain⟨r,rfl⟩:=h
 rw [gF (bD.1 hx).1];exact hx
def t7 (f:Int->Int->Bool) (x y:Int):Prop:=f x y=true/\∀x' y',f x' y'=true->y<y'\/(y=y'/\x<=x')
theorem t7.unique {f:Int->Int->Bool} {x y x' y':Int} (h:t7 f x y) (h':t7 f x' y'):x=x'/\y=y':=by
 have h1:=h.2 _ _ h'.1
 have h2:=h'.2 _ _ h.1
 omega
theorem Fy {a:aI} {l:List aI} (hp: ∀r∈a::l,r.X0<r.X1/\r.Y0<r.Y1) (hB: ∀r∈l,ru a r):t7 (sW (a::l)) a.X0 a.Y0:=by
 have pa:=hp a (by simp)
 refine⟨iZ.2 ⟨a,by simp,by omega,by omega⟩,fun x' y' h=>?_⟩
 obtain⟨r,hr,hx,hy⟩:=iZ.1 h
 rcases dE.1 hr with rfl | hr
 ·omega
 ·have:=hB r hr
  unfold ru at this
  omega
theorem Fz {s:List aA} (hc:eU (s.map cB)) (hne:s≠[]): ∃r t,aS s=r::t/\t7 (fun x y=>uK (s.map cB) x y) r.X0 r.Y0/\Gb s= ⟨r.X0,r.Y0⟩:=by
 cases s with
 | nil=>exact absurd rfl hne
 | cons b s=>
  have hx:=hc.each (cB b) (by simp)
  have hxs:b.Xs≠[]:=hx.2.1
  have he:b.Xs.length % 2=0:=hx.2.2.2
  obtain⟨x0,x1,xs,e⟩: ∃x0 x1 xs,b.Xs=x0::x1::xs:=by
   match hb:b.Xs with
   | []=>exact absurd hb hxs
   | [x0]=>rw [hb] at he;simp at he
   | x0::x1::xs=>exact⟨x0,x1,xs,rfl⟩
  have hr:aS (b::s)= ⟨x0,b.Y0,x1,b.Y1⟩::((AV xs).map (fun p=>(⟨p.1,b.Y0,p.2,b.Y1⟩:aI))++aS s):=by
   rw [mV]
   unfold mU
   rw [e];rfl
  have hB:=qB hc
  have hpos:=tm hc
  rw [hr] at hB hpos
  refine⟨_,_,hr,?_,by unfold Gb;dsimp only;rw [e];rfl⟩
  have:=Fy hpos (oI.1 hB).1
  rw [<-hr] at this
  refine⟨?_,fun x' y' h=>this.2 x' y' ?_⟩
  ·show uK _ _ _=true
   rw [<-px hc];exact this.1
  ·rw [px hc];exact h
theorem Cp {all:List aI} {u:Nat->Nat} (hB:all.Pairwise ru) (hp: ∀r∈all,r.X0<r.X1/\r.Y0<r.Y1) (hJ:Joined all u) {h:Nat} {a:aI} (ha:all[h]? =some a) (hu:u h=h):t7 (sW (nR all all.length u h)) a.X0 a.Y0:=by
 obtain⟨hl,e⟩:=bD.1 ha
 have pa:=hp a (eY ha)
 refine⟨iZ.2 ⟨a,lY.2 ⟨h,hl,hu,ha⟩,by omega,by omega⟩,fun x' y' hc=>?_⟩
 obtain⟨r,hr,hx,hy⟩:=iZ.1 hc
 obtain⟨k,hk,huk,hrk⟩:=lY.1 hr
 have hle:=hJ.le k hk
 by_cases ek:k=h
 ·subst ek;rw [ha] at hrk;injection hrk with hrk;subst hrk;omega
 ·obtain⟨hl2,e2⟩:=bD.1 hrk
  have:=m9.1 hB h k hl hl2 (by omega)
  rw [e,e2] at this
  unfold ru at this
  omega
theorem t8 {u:Nat->Nat}: ∀(d i:Nat),∃t,bL (i+d) u=bL i u++t
 | 0,i=>⟨[],by simp⟩
 | d+1,i=>by
  obtain⟨t,ht⟩:=t8 (u:=u) d i
  rw [<-Nat.add_assoc,gC,ht]
  split
  ·exact⟨t++[i+d],by simp⟩
  ·exact⟨t,rfl⟩
theorem Is {u:Nat->Nat} {i n:Nat} (hi:i<n) (hu:u i=i): (bL n u)[(bL i u).length]? =some i:=by
 obtain⟨t,ht⟩:=t8 (u:=u) (n - (i+1)) (i+1)
 rw [show i+1+ (n - (i+1))=n by omega] at ht
 rw [ht,gC,aC hu]
 simp
section
variable {N:Nat}
theorem G6 {a b:aI} (ha:BD a) (hb:BD b):i7 N a b=some (decide (Bt a b)):=by
 have a1:=ha.s1;have a2:=ha.s2;have a3:=ha.s3;have a4:=ha.s4
 have b1:=hb.s1;have b2:=hb.s2;have b3:=hb.s3;have b4:=hb.s4
 unfold small at a1 a2 a3 a4 b1 b2 b3 b4
 unfold i7
 rw [t4,t4,t5,t5,fE (x:=min a.X1 b.X1 - max a.X0 b.X0) (by omega) (by omega),fE (x:=min a.Y1 b.Y1 - max a.Y0 b.Y0) (by omega) (by omega)]
 congr 1
 rw [eX]
 unfold Bt
 simp only [dM,bX,bV,gt_iff_lt,ge_iff_le]
theorem insert_eq {l:List (List aI)} {r0:aI} {t:List aI} (hl:l.length<=1000000) (hN:4398046511104<=N) (h: ∀x,l[l.length - 1]? =some x->∃x0 t',x=x0::t'/\¬(r0.Y0<x0.Y0\/(r0.Y0=x0.Y0/\r0.X0<x0.X0))):jH N l (r0::t)=some (l++[r0::t]):=by
 refine Ok.get ?_
 unfold jH
 refine Ok.bind (Ok.jK (Go:=fun s=>s= ((l.length:Nat):Int)) (Rt:=fun _=>False) (fun s=>s= ((l.length:Nat):Int)) (fun s=>0) ?_ rfl (by omega)) ?_
 ·rintro s rfl
  by_cases h0:l.length=0
  ·rw [cF (by omega),aR,aB,aR];exact Ok.br rfl
  ·rw [bU (by omega),aQ,jq (by omega) (by omega)]
   have hx:l[l.length - 1]? =some (l[l.length - 1]'(by omega)):=aO _
   obtain⟨x0,t',e,hn⟩:=h _ hx
   have i1:idx (r0::t) 0=some r0:=rfl
   have i2:idx (l[l.length - 1]'(by omega)) 0=some x0:=by rw [e];rfl
   rw [i1,aB,eM hx,aB,i2,aB]
   unfold iE
   rw [aB,aB,show ((decide (r0.Y0<x0.Y0))||((r0.Y0==x0.Y0)&&(decide (r0.X0<x0.X0))))=false by
    rw [<-j5,dM,bX,bV,bV,beq_iff_eq];exact hn,aR]
   exact Ok.br rfl
 intro o ho
 refine Ok.cs ho ?_ (fun r hr=>hr.elim)
 rintro s rfl
 refine Ok.eq (qT l l.length (bW _)) (Ok.app ?_ (Ok.app ?_ (Ok.eq (pJ l l.length (bW _)) (Ok.app ?_ (Ok.ret ?_)))))
 ·rw [dZ];simp only [List.length_nil];omega
 ·rw [dZ];simp only [List.length_nil,cW,dI];omega
 ·rw [dZ,List.drop_length];simp only [List.length_nil,cW,dI];omega
 ·simp
structure BI (all:List aI) (u:Nat->Nat) (i:Nat) (q:List Nat) (done:List Bool) (own:List aI):Prop where
 len:done.length=all.length
 nd:q.Nodup
 lt: ∀k∈q,k<all.length/\u k=i
 hd:i∈q
 dn: ∀k,k<all.length->done[k]? =some (decide (u k<i\/k∈q))
 ow:own.map some=q.map (fun k=>all[k]?)
theorem BI.Me {all:List aI} {u:Nat->Nat} {i:Nat} {q:List Nat} {done:List Bool} {own:List aI} (h:BI all u i q done own):own.length=q.length:=by
 have:=congrArg List.length h.ow
 rwa [cV,cV] at this
theorem BI.xm {all:List aI} {u:Nat->Nat} {i:Nat} {q:List Nat} {done:List Bool} {own:List aI} (h:BI all u i q done own):q.length<=all.length:=by
 have:=fT h.nd (m:=List.range all.length) (fun k hk=>by rw [rL];exact(h.lt k hk).1)
 rwa [List.length_range] at this
theorem BI.at_ {all:List aI} {u:Nat->Nat} {i:Nat} {q:List Nat} {done:List Bool} {own:List aI} (h:BI all u i q done own) {p k:Nat} (hk:q[p]? =some k):own[p]? =all[k]? :=by
 have e:=congrArg (fun l=>l[p]?) h.ow
 simp only [gq,hk,Option.map_some] at e
 cases ho:own[p]? with
 | none=>rw [ho] at e;cases e
 | some x=>rw [ho] at e;injection e
theorem BI.mem {all:List aI} {u:Nat->Nat} {i:Nat} {q:List Nat} {done:List Bool} {own:List aI} (h:BI all u i q done own) {r:aI}:r∈own↔∃k∈q,all[k]? =some r:=by
 have:r∈own↔some r∈own.map some:=by simp
 rw [this,h.ow,dC]
theorem EA {s:List aA} {u:Nat->Nat} {ps:List (List aA)} (hc:eU (s.map cB)) (hP:rU s u ps) (hn: (aS s).length<=2000) (hok: ∀r∈aS s,BD r) (hps: ∀p∈ps,(aS p).length<=2000) (hN:4398046511104<=N):
  fO N (aS s)=some (ps.map aS):=by
 refine Ok.get ?_
 have hB:=qB hc
 have hpos:=tm hc
 have hJ:=hP.join
 have hlen:=hP.len
 have heach:=hP.each
 clear hP hc
 generalize aS s=all at *
 unfold fO
 refine Ok.eq (rR false (by omega)) ?_
 have hadj: ∀a b,(yy all a b\/yy all b a)->u a=u b:=fun a b h=>h.elim (fun h=>hJ.co a b h) (fun h=>(hJ.co b a h).symm)
 refine Ok.bind (Ok.pR (n:=all.length) (fun st=>st.2.2) (fun i st=>st.1.length=all.length/\(∀k,k<all.length->st.1[k]? =some (decide (u k<i)))/\st.2.1= (ps.take (bL i u).length).map aS) (Go:=fun st=>st.2.1=ps.map aS) (Rt:=fun _=>False) ?_ ?_ (dJ _) rfl
  ⟨by simp,fun k hk=>by simp [hk],by simp [bL]⟩ (by omega)) ?_
 ·rintro i ⟨done,out,ii⟩ hi e ⟨hdl,hdn,hout⟩
  dsimp only at e hdl hdn hout ⊢
  subst e
  rw [kC hi,aQ]
  refine Ok.ix (hdn i hi) (Ok.bif (fun hb=>?_) (fun hb=>?_))
  ·have hlt:u i<i:=of_decide_eq_true hb
   refine Ok.nx ⟨bS (by omega),hdl,fun k hk=>?_,?_⟩
   ·rw [hdn k hk]
    congr 1
    rw [decide_eq_decide]
    have hne:u k≠i:=fun e=>by have:=hJ.rr k hk;rw [e] at this;omega
    omega
   ·rw [gC,aF (by omega)];exact hout
  ·have hge: ¬u i<i:=of_decide_eq_false hb
   have hui:u i=i:=by have:=hJ.le i hi;omega
   have hx:all[i]? =some all[i]:=aO hi
   refine Ok.ix (hdn i hi) (Ok.ix hx ?_)
   refine Ok.bind (Ok.jK (Go:=fun st=>st.1.length=all.length/\(∀k,k<all.length->st.1[k]? =some (decide (u k<i+1)))/\(∀r,r∈st.2.1↔r∈nR all all.length u i)/\st.2.1.length<=all.length) (Rt:=fun _=>False)
    (fun st=>∃(q:List Nat) (t:Nat),st.2.2= ((t:Nat):Int)/\t<=q.length/\BI all u i q st.1 st.2.1/\∀(p k j:Nat),p<t->q[p]? =some k->j<all.length->(yy all k j\/yy all j k)->j∈q)
    (fun st=>all.length+1 - st.2.2.toNat) ?_ ⟨[i],0,rfl,by simp,?_,fun p k j hp=>by omega⟩ (by simp;omega)) ?_
   ·rintro⟨d1,o1,t'⟩ ⟨q,t,e,ht,hI,hcl⟩
    dsimp only at e hI ⊢
    subst e
    have hql:=hI.xm
    have hol:=hI.Me
    by_cases hlt:t<q.length
    ·rw [kC (by omega:t<o1.length),aQ]
     have hqt:q[t]? =some q[t]:=aO hlt
     have hkt:=hI.lt _ (cN hlt)
     have hya:all[q[t]]? =some all[q[t]]:=aO hkt.1
     refine Ok.bind (Ok.pR (n:=all.length) (fun st=>st.2.2) (fun j st=>∃q',q <+:q'/\BI all u i q' st.1 st.2.1/\∀j',j'<j->(yy all q[t] j'\/yy all j' q[t])->j'∈q')
      (Go:=fun st=>∃q',q <+:q'/\BI all u i q' st.1 st.2.1/\∀j',j'<all.length->(yy all q[t] j'\/yy all j' q[t])->j'∈q') (Rt:=fun _=>False) ?_ ?_ (dJ _) rfl ⟨q,List.prefix_refl _,hI,fun j' hj=>by omega⟩ (by omega)) ?_
     ·rintro j ⟨d2,o2,jj⟩ hj e ⟨q',hpre,hI',hc'⟩
      dsimp only at e hI' ⊢
      subst e
      rw [kC hj,aQ]
      have hq't:q'[t]? =some q[t]:=by rw [ze hpre hqt]
      have hy2:o2[t]? =some all[q[t]]:=by rw [hI'.at_ hq't];exact hya
      have hz:all[j]? =some all[j]:=aO hj
      have htc:=G5 hB hpos hya hz
      have hcond: ((idx d2 ((j:Nat):Int)).bind fun x1054=>bif (!x1054) then ((idx o2 ((t:Nat):Int)).bind fun x1056=>(idx all ((j:Nat):Int)).bind fun x1058=>(i7 N x1056 x1058).bind fun x1061=>some x1061) else (some false))=some (!decide (u j<i\/j∈q')&&decide (Bt all[q[t]] all[j])):=by
       rw [eM (hI'.dn j hj),aB]
       cases decide (u j<i\/j∈q') with
       | true=>rfl
       | false=>rw [qh,aQ,eM hy2,aB,eM hz,aB,G6 (hok _ (cN hkt.1)) (hok _ (cN hj)),aB,Bool.true_and]
      refine Ok.eq hcond ?_
      refine Ok.bind (P:=fun st:List Bool×List aI=>∃q',q <+:q'/\BI all u i q' st.1 st.2/\∀j',j'<j+1->(yy all q[t] j'\/yy all j' q[t])->j'∈q') (Ok.bif (fun hb=>?_) (fun hb=>?_)) (fun st hst=>Ok.nx ⟨bS (by omega),hst⟩)
      ·rw [bX,Bool.not_eq_true',decide_eq_false_iff_not,bV] at hb
       have hju:u j=i:=by
        rcases htc.1 hb.2 with h | h
        ·rw [<-h];exact hkt.2
        ·rw [<-hadj _ _ h];exact hkt.2
       have hjq:j∉q':=fun h=>hb.1 (.inr h)
       have hol2:=hI'.Me
       have hql2:=hI'.xm
       refine Ok.ix (hI'.dn j hj) (Ok.ix hz (Ok.app (by simp only [dI,List.length_nil];omega) (Ok.ret ⟨q'++[j],hpre.trans (List.prefix_append _ _),⟨?_,?_,?_,?_,?_,?_⟩,?_⟩)))
       ·rw [jd];exact hI'.len
       ·rw [List.nodup_append]
        exact⟨hI'.nd,by simp,fun a ha b hb=>by simp at hb;subst hb;exact fun e=>hjq (e▸ha)⟩
       ·intro k hk
        rcases dA.1 hk with hk | hk
        ·exact hI'.lt k hk
        ·simp at hk;subst hk;exact⟨hj,hju⟩
       ·exact List.mem_append_left _ hI'.hd
       ·intro k hk
        rw [cK,fD]
        by_cases e:j=k
        ·subst e
         rw [aC rfl,aC (by rw [hI'.len];exact hj)]
         congr 1
         exact(bU (.inr (by simp))).symm
        ·rw [aF e,hI'.dn k hk]
         congr 1
         rw [decide_eq_decide,dA]
         simp only [rM]
         constructor
         ·exact fun h=>h.elim .inl (fun h=> .inr (.inl h))
         ·exact fun h=>h.elim .inl (fun h=>h.elim .inr (fun h=>absurd h.symm e))
       ·rw [dL,dL,hI'.ow];simp [hz]
       ·intro j' hj' ha
        by_cases e:j'=j
        ·subst e;simp
        ·exact List.mem_append_left _ (hc' j' (by omega) ha)
      ·refine Ok.ret ⟨q',hpre,hI',fun j' hj' ha=>?_⟩
       by_cases e:j'=j
       ·subst e
        have hj2:u j'=i:=by rw [<-hadj _ _ ha];exact hkt.2
        rw [bU (htc.2 (.inr ha)),Bool.and_true,Bool.not_eq_false',bV] at hb
        rcases hb with hb | hb
        ·omega
        ·exact hb
       ·exact hc' j' (by omega) ha
     ·rintro⟨d2,o2,jj⟩ e hI2
      dsimp only at e hI2 ⊢
      subst e
      rw [m0,aR]
      exact Ok.br hI2
     intro o ho
     refine Ok.cs ho ?_ (fun r hr=>hr.elim)
     rintro⟨d2,o2,jj⟩ ⟨q',hpre,hI',hc'⟩
     dsimp only at hI' ⊢
     refine Ok.nx ⟨⟨q',t+1,bS (by omega),?_,hI',fun p k j hp hk hj ha=>?_⟩,?_⟩
     ·have:=hpre.length_le;omega
     ·by_cases e:p=t
      ·subst e
       rw [ze hpre hqt] at hk;injection hk with hk;subst hk
       exact hc' j hj ha
      ·have hpq:q[p]? =some (q[p]'(by omega)):=aO _
       rw [ze hpre hpq] at hk;injection hk with hk;subst hk
       exact hpre.subset (hcl p _ j (by omega) hpq hj ha)
     ·rw [bS (by omega)];simp only [cK];omega
    ·rw [yp (by omega:o1.length<=t),aR]
     have htq:t=q.length:=by omega
     have hcls: ∀k,k<all.length->(k∈q↔u k=i):=fun k hk=>⟨fun h=>(hI.lt k h).2,fun h=>by
      have hstep: ∀a b,yy all a b->(a∈q↔b∈q):=fun a b hab=>by
       have hab':=hab
       obtain⟨ra,rb,e1,e2,_⟩:=hab'
       have hla:=(bD.1 e1).1
       have hlb:=(bD.1 e2).1
       constructor
       ·intro h'
        obtain⟨p,hp⟩:=dU h'
        exact hcl p a b (by rw [htq];exact(bD.1 hp).1) hp hlb (.inl hab)
       ·intro h'
        obtain⟨p,hp⟩:=dU h'
        exact hcl p b a (by rw [htq];exact(bD.1 hp).1) hp hla (.inr hab)
      exact hJ.fi (fun k=>k∈q) hstep i k hi hk (by rw [hui,h]) hI.hd⟩
     refine Ok.br ⟨hI.len,fun k hk=>?_,fun r=>?_,by rw [hol];exact hql⟩
     ·rw [hI.dn k hk]
      congr 1
      rw [decide_eq_decide,hcls k hk];omega
     ·rw [hI.mem,lY]
      constructor
      ·rintro⟨k,hk,h⟩
       exact⟨k,(hI.lt k hk).1,(hI.lt k hk).2,h⟩
      ·rintro⟨k,hk,h1,h2⟩
       exact⟨k,(hcls k hk).2 h1,h2⟩
   ·refine⟨by rw [jd];exact hdl,by simp,fun k hk=>by simp at hk;subst hk;exact⟨hi,hui⟩,by simp,fun k hk=>?_,by simp [hx]⟩
    rw [cK,fD]
    by_cases e:i=k
    ·subst e
     rw [aC rfl,aC (by rw [hdl];exact hi)]
     congr 1
     exact(bU (.inr (by simp))).symm
    ·rw [aF e,hdn k hk]
     congr 1
     rw [decide_eq_decide]
     simp only [rM]
     omega
   intro o ho
   refine Ok.cs ho ?_ (fun r hr=>hr.elim)
   rintro⟨d1,o1,t'⟩ ⟨g1,g2,g3,g4⟩
   dsimp only at g1 g2 g3 g4 ⊢
   have hh:=Is hi hui
   have hml: (bL i u).length<ps.length:=by rw [hlen];exact(bD.1 hh).1
   have hpp:ps[(bL i u).length]? =some ps[(bL i u).length]:=aO hml
   have nb:=heach _ _ _ hh hpp
   have hcov: ∀x y,uK (ps[(bL i u).length].map cB) x y=sW o1 x y:=fun x y=>by rw [nb.cover];exact(Jc g3 x y).symm
   have hpl:=hps _ (cN hml)
   refine Ok.eq (t6 nb.can hcov (by omega) (fun r hr=>?_) (by omega) hN) ?_
   ·obtain⟨k,_,_,hk⟩:=lY.1 ((g3 r).1 hr)
    exact(hpos r (eY hk)).1
   have hfirst: ∀(j h:Nat) p,(bL all.length u)[j]? =some h->ps[j]? =some p->∃r t a,aS p=r::t/\all[h]? =some a/\r.X0=a.X0/\r.Y0=a.Y0:=fun j h p hj hp=>by
    have hs:=heach j h p hj hp
    obtain⟨hhl,hhu⟩:=jv.1 (eY hj)
    have ha:all[h]? =some all[h]:=aO hhl
    have hne:p≠[]:=fun e=>by
     have hL:=(Cp hB hpos hJ ha hhu).1
     rw [<-hs.cover,e] at hL
     cases hL
    obtain⟨r,t,e1,e2,_⟩:=Fz hs.can hne
    have e2':t7 (sW (nR all all.length u h)) r.X0 r.Y0:=⟨by rw [<-hs.cover];exact e2.1,fun x' y' hxy=>e2.2 x' y' (by simp only;rw [hs.cover];exact hxy)⟩
    obtain⟨e3,e4⟩:=e2'.unique (Cp hB hpos hJ ha hhu)
    exact⟨r,t,all[h],e1,ha,e3,e4⟩
   obtain⟨r,t,a,e1,e2,e3,e4⟩:=hfirst _ _ _ hh hpp
   have hheads: (bL i u).length<=i:=kG i u
   rw [e1]
   refine Ok.eq (insert_eq (by rw [hout,cV,cG];omega) hN (fun x hxl=>?_)) (Ok.nx ⟨bS (by omega),g1,g2,?_⟩)
   ·have hol:out.length= (bL i u).length:=by rw [hout,cV,cG];omega
    have hpos2:0< (bL i u).length:=by
     have:=(bD.1 hxl).1;omega
    rw [hout,gq,cV,cG,show min (bL i u).length ps.length= (bL i u).length by omega,List.getElem?_take_of_lt (by omega)] at hxl
    have hp2:ps[(bL i u).length - 1]? =some (ps[(bL i u).length - 1]'(by omega)):=aO _
    rw [hp2] at hxl
    injection hxl with hxl
    have hh2: (bL i u)[(bL i u).length - 1]? =some ((bL i u)[(bL i u).length - 1]'(by omega)):=aO _
    have hm2:=jv.1 (eY hh2)
    obtain⟨tl,htl⟩:=t8 (u:=u) (all.length - i) i
    rw [show i+ (all.length - i)=all.length by omega] at htl
    have hh3: (bL all.length u)[(bL i u).length - 1]? =some ((bL i u)[(bL i u).length - 1]'(by omega)):=by rw [htl,gF (by omega)];exact hh2
    obtain⟨r',t',a',f1,f2,f3,f4⟩:=hfirst _ _ _ hh3 hp2
    refine⟨r',t',by rw [<-hxl];exact f1,?_⟩
    obtain⟨l1,q1⟩:=bD.1 f2
    obtain⟨l2,q2⟩:=bD.1 e2
    have hbh:=m9.1 hB _ _ l1 l2 hm2.1
    rw [q1,q2] at hbh
    have p1:=hpos a' (eY f2)
    unfold ru at hbh
    rw [e3,e4,f3,f4]
    omega
   ·dsimp only
    rw [gC,aC hui,cW,hout]
    simp only [dI,List.length_nil]
    rw [dS hml,dL,eA,List.map_nil,e1]
 ·rintro⟨done,out,ii⟩ e ⟨_,_,hout⟩
  dsimp only at e hout ⊢
  subst e
  rw [m0,aR]
  refine Ok.br ?_
  dsimp only
  rw [hout,lJ (by rw [hlen];omega)]
 intro o ho
 exact Ok.cs ho (fun s hs=>Ok.ret hs) (fun r hr=>hr.elim)
end
end Go.Gk
namespace Go.Gk
open Go Classical
section
variable {α β:Type}
end
def zK (p q:dB):Prop:=eI.lt p.Part q.Part\/(p.Part=q.Part/\eI.lt p.dB q.dB)
theorem Gf {p q:dB} (h1:p.Part=q.Part) (h2:p.dB=q.dB):p=q:=by cases p;cases q;simp at h1 h2;subst h1;subst h2;rfl
theorem zK.irrefl (p:dB): ¬zK p p:=fun h=>by
 rcases h with h | ⟨_,h⟩
 ·exact eI.lt_irrefl _ h
 ·exact eI.lt_irrefl _ h
theorem zK.trans {p q r:dB} (h1:zK p q) (h2:zK q r):zK p r:=by
 rcases h1 with h1 | ⟨e1,h1⟩ <;> rcases h2 with h2 | ⟨e2,h2⟩
 ·exact .inl (eI.lt_trans h1 h2)
 ·exact .inl (by rw [<-e2];exact h1)
 ·exact .inl (by rw [e1];exact h2)
 ·exact .inr ⟨e1.trans e2,eI.lt_trans h1 h2⟩
theorem zK.total (p q:dB):zK p q\/p=q\/zK q p:=by
 rcases eI.D4 p.Part q.Part with h | h | h
 ·exact .inl (.inl h)
 ·rcases eI.D4 p.dB q.dB with h' | h' | h'
  ·exact .inl (.inr ⟨h,h'⟩)
  ·exact .inr (.inl (Gf h h'))
  ·exact .inr (.inr (.inr ⟨h.symm,h'⟩))
 ·exact .inr (.inr (.inl h))
theorem zK.asymm {p q:dB} (h:zK p q): ¬zK q p:=fun h'=>zK.irrefl p (h.trans h')
theorem zK.ne {p q:dB} (h:zK p q):p≠q:=fun e=>by subst e;exact zK.irrefl _ h
theorem tn {a b:eI}:Lib.compareBytes a.cY b.cY=0↔a=b:=⟨fun h=>eI.ext' ((wW _ _).1 h),fun h=>(wW _ _).2 (by rw [h])⟩
theorem t9 {p q:dB}:ld p q=0↔p=q:=by
 unfold ld
 by_cases h:Lib.compareBytes p.Part.cY q.Part.cY=0
 ·rw [aF (by simpa using h),tn]
  exact⟨fun h'=>Gf (tn.1 h) h',fun h'=>by rw [h']⟩
 ·rw [aC h]
  exact⟨fun h'=>absurd h' h,fun h'=>absurd (tn.2 (by rw [h'])) h⟩
theorem xf {p q:dB}:ld p q<0↔zK p q:=by
 unfold ld zK
 by_cases h:Lib.compareBytes p.Part.cY q.Part.cY=0
 ·rw [aF (by simpa using h),wV]
  have e:=tn.1 h
  constructor
  ·exact fun h'=> .inr ⟨e,h'⟩
  ·rintro(h' | ⟨_,h'⟩)
   ·rw [e] at h';exact absurd h' (eI.lt_irrefl _)
   ·exact h'
 ·rw [aC h,wV]
  constructor
  ·exact fun h'=> .inl h'
  ·rintro(h' | ⟨e,_⟩)
   ·exact h'
   ·exact absurd (tn.2 e) h
theorem FA {p q:dB}:0<ld p q↔zK q p:=by
 constructor
 ·intro h
  rcases zK.total p q with h' | h' | h'
  ·have:=xf.2 h';omega
  ·have:=t9.2 h';omega
  ·exact h'
 ·intro h
  by_cases h1:ld p q<0
  ·exact absurd (xf.1 h1) h.asymm
  ·by_cases h2:ld p q=0
   ·exact absurd (t9.1 h2).symm h.ne
   ·omega
section
variable {N:Nat}
structure FB (a:kY) (x:eQ):Prop where
 name:nH x.Part=true/\isWord x.dB=true
 Mb:0<=x.cU/\x.cU< ((a.aJ.length:Nat):Int)
 at_:ri x.At=true
structure vR (a:kY):Prop where
 xm:a.bM.length<=1000
 each: ∀x∈a.bM,FB a x
 up:a.bM.Pairwise (fun x y=>zK (lZ x) (lZ y))
theorem C9 {a:kY} {k:Nat} {x:eQ} (hx:a.bM[k]? =some x) (h:kx a k=none):FB a x/\∀y,0<k->a.bM[k - 1]? =some y->zK (lZ y) (lZ x):=by
 unfold kx at h
 rw [hx,Option.bind_some] at h
 split at h
 ·rename_i h1
  split at h
  ·rename_i h2
   split at h
   ·cases h
   ·rename_i h3
    rw [bX] at h1 h2
    unfold fV at h2
    rw [bX,bV,bV] at h2
    refine⟨⟨h1,⟨by omega,by omega⟩,h2.2⟩,fun y hk hy=>?_⟩
    have h4: ¬ld (lZ x) (lZ y)<=0:=fun h4=>h3 ⟨hk,y,hy,h4⟩
    exact FA.1 (by omega)
  ·cases h
 ·cases h
theorem Bu {a:kY} {k:Nat} {e:Int} (h:kx a k=some e):e≠0:=by
 unfold kx at h
 cases hx:a.bM[k]? with
 | none=>rw [hx] at h;cases h
 | some x=>
  rw [hx,Option.bind_some] at h
  repeat' split at h
  all_goals first | (injection h with h;omega) | cases h
theorem G7 {a:kY} (h:mZ a=0):vR a:=by
 unfold mZ at h
 split at h
 ·omega
 rename_i hl
 have hn:vX a.bM.length (kx a)=none:=by
  cases hf:vX a.bM.length (kx a) with
  | none=>rfl
  | some e=>
   rw [hf] at h
   obtain⟨k,_,hk,_⟩:=po.1 hf
   exact absurd h (Bu hk)
 rw [ov] at hn
 have hg: ∀(k:Nat) x,a.bM[k]? =some x->FB a x/\∀y,0<k->a.bM[k - 1]? =some y->zK (lZ y) (lZ x):=fun k x hx=>C9 hx (hn k (bD.1 hx).1)
 refine⟨by omega,fun x hx=>?_,?_⟩
 ·obtain⟨k,hk⟩:=dU hx
  exact(hg k x hk).1
 ·have hstep: ∀(n i:Nat) x y,a.bM[i]? =some x->a.bM[i+n+1]? =some y->zK (lZ x) (lZ y):=by
   intro n
   induction n with
   | zero=>intro i x y hx hy;exact(hg (i+1) y hy).2 x (by omega) hx
   | succ n ih=>
    intro i x y hx hy
    have hz:i+n+1<a.bM.length:=by have:=(bD.1 hy).1;omega
    have h1:=ih i x _ hx (aO hz)
    exact h1.trans ((hg (i+ (n+1)+1) y hy).2 _ (by omega) (by rw [show i+ (n+1)+1 - 1=i+n+1 by omega];exact aO hz))
  rw [m9]
  intro i j hi hj hij
  exact hstep (j - i - 1) i _ _ (aO hi) (by rw [show i+ (j - i - 1)+1=j by omega];exact aO hj)
theorem vR.inj {a:kY} (h:vR a) {i j:Nat} {x y:eQ} (hx:a.bM[i]? =some x) (hy:a.bM[j]? =some y) (e:lZ x=lZ y):i=j:=by
 obtain⟨h1,rfl⟩:=bD.1 hx
 obtain⟨h2,rfl⟩:=bD.1 hy
 have hp:=m9.1 h.up
 rcases Nat.lt_trichotomy i j with h3 | h3 | h3
 ·exact absurd e (hp i j h1 h2 h3).ne
 ·exact h3
 ·exact absurd e.symm (hp j i h2 h1 h3).ne
end
end Go.Gk
namespace Go.Gk
open Go Classical
theorem vx {α β:Type} {l:List α} {f:α->Option β} {k:Nat} {x:α} {c:β} (hx:l[k]? =some x) (hn: ∀(j:Nat) y,j<k->l[j]? =some y->f y=none) (hc:f x=some c):l.findSome? f=some c:=by
 obtain⟨hk,rfl⟩:=bD.1 hx
 rw [List.findSome?_eq_some_iff]
 refine⟨l.take k,l[k],l.drop (k+1),?_,hc,fun y hy=>?_⟩
 ·rw [List.getElem_cons_drop,List.take_append_drop]
 ·obtain⟨j,hj⟩:=dU hy
  have hjk:j<k:=by have:=(bD.1 hj).1;rw [cG] at this;omega
  exact hn j y hjk (by rw [List.getElem?_take_of_lt hjk] at hj;exact hj)
theorem zL {α β:Type} {l:List α} {f:α->Option β} (h: ∀(j:Nat) y,j<l.length->l[j]? =some y->f y=none):l.findSome? f=none:=by
 rw [List.findSome?_eq_none_iff]
 intro x hx
 obtain⟨j,hj⟩:=dU hx
 exact h j x (bD.1 hj).1 hj
section
variable {N:Nat}
theorem Mf (c:UInt8): (bif (!((((decide (((c.toNat:Nat):Int)>=97))&&(decide (((c.toNat:Nat):Int)<=122)))||((decide (((c.toNat:Nat):Int)>=65))&&(decide (((c.toNat:Nat):Int)<=90))))||((decide (((c.toNat:Nat):Int)>=48))&&(decide (((c.toNat:Nat):Int)<=57))))) then ((gR N (⟨[95,43,45,35]⟩) ((c.toNat:Nat):Int)).bind fun x50=>some (decide (x50<0))) else (some false))=some (Ee c):=by
 rw [tW,aB]
 unfold Ee
 generalize decide (Lib.indexByte (⟨[95,43,45,35]⟩:eI).cY c<0)=p
 have e: (!((((decide (((c.toNat:Nat):Int)>=97))&&(decide (((c.toNat:Nat):Int)<=122)))||((decide (((c.toNat:Nat):Int)>=65))&&(decide (((c.toNat:Nat):Int)<=90))))||((decide (((c.toNat:Nat):Int)>=48))&&(decide (((c.toNat:Nat):Int)<=57)))))= ((((decide (((c.toNat:Nat):Int)<65))||(decide (((c.toNat:Nat):Int)>90)))&&((decide (((c.toNat:Nat):Int)<97))||(decide (((c.toNat:Nat):Int)>122))))&&((decide (((c.toNat:Nat):Int)<48))||(decide (((c.toNat:Nat):Int)>57)))):=by
  rw [eX]
  simp only [Bool.not_eq_true',Bool.or_eq_false_iff,Bool.and_eq_false_iff,decide_eq_false_iff_not,bX,dM,bV]
  omega
 rw [e]
 cases ((((decide (((c.toNat:Nat):Int)<65))||(decide (((c.toNat:Nat):Int)>90)))&&((decide (((c.toNat:Nat):Int)<97))||(decide (((c.toNat:Nat):Int)>122))))&&((decide (((c.toNat:Nat):Int)<48))||(decide (((c.toNat:Nat):Int)>57)))) with
 | true=>rw [aQ,Bool.true_and]
 | false=>rw [aR,Bool.false_and]
theorem zM {s:eI} (h:s.cY.length<=1048576) (hN:4194304<=N):gv N s=some (isWord s):=by
 refine Ok.get ?_
 unfold gv isWord
 refine Ok.bind (Ok.pR (n:=s.cY.length) (fun s=>s) (fun k _=>∀(j:Nat) x,j<k->s.cY[j]? =some x->Ee x=false) (Go:=fun _=>s.cY.any Ee=false) (Rt:=fun r=>r=false/\s.cY.any Ee=true) ?_ ?_ (dJ _) rfl (fun j x hj=>by omega) (by omega)) ?_
 ·rintro k i hk e hI
  subst e
  rw [kC hk,aQ]
  refine Ok.eq (D3 s k hk) (Ok.eq (Mf _) (Ok.bif (fun hb=>Ok.rt ⟨rfl,k7.2 ⟨_,cN hk,hb⟩⟩) (fun hb=>Ok.nx ⟨bS (by omega),fun j x hj hx=>?_⟩)))
  by_cases e:j=k
  ·subst e;rw [aO hk] at hx;injection hx with hx;rw [<-hx];exact hb
  ·exact hI j x (by omega) hx
 ·rintro i e hI
  subst e
  rw [m0,aR]
  refine Ok.br ?_
  rw [List.any_eq_false]
  intro x hx
  obtain⟨j,hj⟩:=dU hx
  rw [hI j x (bD.1 hj).1 hj];exact k6
 intro o ho
 refine Ok.cs ho (fun s' hs'=>?_) (fun r hr=>Ok.ret (by rw [hr.1,hr.2];rfl))
 rw [hs']
 show Ok ((some _).bind _) _
 refine Ok.ret ?_
 rw [qh,Bool.true_and]
 congr 1 <;> · rw [decide_eq_decide];omega
theorem EB {s:eI} (h:s.cY.length<=1048576) (hN:4194304<=N):jG N s=some (nH s):=by
 refine Ok.get ?_
 unfold jG nH
 refine Ok.eq (Eg 47 h hN) ?_
 have hsn:=Ci s 47
 refine Ok.bind (Ok.pR (n:=(oe s 47).length) (fun s=>s) (fun k _=>∀(j:Nat) x,j<k->(oe s 47)[j]? =some x->isWord x=true) (Go:=fun _=>(oe s 47).all isWord=true) (Rt:=fun r=>r=false/\(oe s 47).all isWord=false) ?_ ?_ (dJ _) rfl (fun j x hj=>by omega) (by omega)) ?_
 ·rintro k i hk e hI
  subst e
  rw [kC hk,aQ]
  have hx: (oe s 47)[k]? =some (oe s 47)[k]:=aO hk
  have hl:=Ch (cN hk)
  refine Ok.ix hx (Ok.eq (zM (by omega) hN) (Ok.bif (fun hb=>Ok.rt ⟨rfl,?_⟩) (fun hb=>Ok.nx ⟨bS (by omega),fun j x hj hx'=>?_⟩)))
  ·rw [List.all_eq_false]
   exact⟨_,cN hk,by simpa using hb⟩
  ·by_cases e:j=k
   ·subst e;rw [hx] at hx';injection hx' with hx';rw [<-hx'];simpa using hb
   ·exact hI j x (by omega) hx'
 ·rintro i e hI
  subst e
  rw [m0,aR]
  refine Ok.br ?_
  rw [k8]
  intro x hx
  obtain⟨j,hj⟩:=dU hx
  exact hI j x (bD.1 hj).1 hj
 intro o ho
 refine Ok.cs ho (fun s' hs'=>Ok.ret ?_) (fun r hr=>Ok.ret (by rw [hr.1,hr.2,Bool.and_false]))
 rw [hs',Bool.and_true,decide_eq_decide];omega
theorem rY (n lo hi:Int):dY N n lo hi=some (fV n lo hi):=rfl
theorem mg {b:cA} (h:qf b=true):cJ N b=some (uL b):=mX (N:=N) h
theorem zf {b:cA}:gL N b=some (mz b).2:=by
 have e1: (bif (!(fV b.dG 1 10000)) then (some true) else (some (!(ri b.At))))=some (!qf b):=by unfold qf;cases fV b.dG 1 10000 <;> rfl
 have e2: ∀n,cS N n=some (lI n):=fun _=>rfl
 unfold gL mz
 rw [rY,aB,zz,aB,e1,aB]
 cases hf:qf b with
 | false=>rfl
 | true=>
  rw [na,aR,mg hf,aB]
  simp only [e2,aB]
  unfold fG
  cases lI (uL b).X0 <;> cases lI (uL b).Y0 <;> cases lI (uL b).X1 <;> cases lI (uL b).Y1 <;> rfl
theorem KA {x y:eQ}: ((x.Part.tr y.Part)||((x.Part.tq y.Part)&&(x.dB.tr y.dB||x.dB.tq y.dB)))=decide (ld (lZ x) (lZ y)<=0):=by
 have hle:ld (lZ x) (lZ y)<=0↔zK (lZ x) (lZ y)\/lZ x=lZ y:=by
  rw [<-xf,<-t9];omega
 rw [eX,bV,hle,dM,bX,dM,CL,CL]
 unfold zK lZ
 simp only [dB.mk.injEq]
 constructor
 ·rintro(h | ⟨h1,h2 | h2⟩)
  ·exact .inl (.inl h)
  ·exact .inl (.inr ⟨h1,h2⟩)
  ·exact .inr ⟨h1,h2⟩
 ·rintro((h | ⟨h1,h2⟩) | ⟨h1,h2⟩)
  ·exact .inl h
  ·exact .inr ⟨h1, .inl h2⟩
  ·exact .inr ⟨h1, .inr h2⟩
theorem Bv {a:kY} (hc:a.aJ.length<=1073741824) (hl:a.bM.length<=1073741824) {k:Nat} {x:eQ} (hx:a.bM[k]? =some x) (hn:x.Part.cY.length<=1048576/\x.dB.cY.length<=1048576) (hN:4194304<=N):iG N a ((k:Nat):Int)=some ((kx a k).getD 0):=by
 have hk:=(bD.1 hx).1
 have hw:IntKind.wrap .i64 (((a.aJ.length:Nat):Int) - 1)= ((a.aJ.length:Nat):Int) - 1:=fE (by omega) (by omega)
 unfold iG kx
 rw [eM hx,aB,EB hn.1 hN,aB,hx,Option.bind_some]
 have e1: (bif (!(nH x.Part)) then (some true) else ((gv N x.dB).bind fun x44=>some (!x44)))=some (!(nH x.Part&&isWord x.dB)):=by
  rw [zM hn.2 hN,aB]
  cases nH x.Part <;> rfl
 rw [e1,aB]
 cases h1: (nH x.Part&&isWord x.dB) with
 | false=>rw [qh,aQ,aF k6];rfl
 | true=>
  rw [na,aR,aC rfl,hw,rY,aB]
  have e2: (bif (!(fV x.cU 0 (((a.aJ.length:Nat):Int) - 1))) then (some true) else ((f0 N x.At).bind fun x57=>some (!x57)))=some (!(fV x.cU 0 (((a.aJ.length:Nat):Int) - 1)&&ri x.At)):=by
   rw [zz,aB]
   cases fV x.cU 0 (((a.aJ.length:Nat):Int) - 1) <;> rfl
  rw [e2,aB]
  cases h2: (fV x.cU 0 (((a.aJ.length:Nat):Int) - 1)&&ri x.At) with
  | false=>rw [qh,aQ,aF k6];rfl
  | true=>
   rw [na,aR,aC rfl]
   by_cases h0:0<k
   ·have hy:a.bM[k - 1]? =some (a.bM[k - 1]'(by omega)):=aO _
    rw [bU (by omega),aQ,jq h0 (by omega),eM hy,aB,KA]
    by_cases h3:ld (lZ x) (lZ (a.bM[k - 1]'(by omega)))<=0
    ·rw [bU h3,aQ,aC ⟨h0,_,hy,h3⟩];rfl
    ·rw [cF h3,aR,aF (by rintro⟨_,y,hy',h4⟩;rw [hy] at hy';injection hy' with hy';subst hy';exact h3 h4)];rfl
   ·rw [cF (by omega),aR,aF (fun h=>h0 h.1)];rfl
noncomputable def l4 (a:kY):Int:=if a.aJ.length=0 then 9 else if 16<a.aJ.length then 2 else match a.aJ.findSome? wh with
 | some e=>e
 | none=>if j6 a.cI≠0 then j6 a.cI else if 2000<a.cI.length+ (a.aJ.map List.length).sum then 2 else if jh a≠0 then jh a else mZ a
theorem EC (a:kY):kS a=if l4 a≠0 then l4 a else if rm a then 12 else 0:=by
 unfold kS l4 Ik Eo
 by_cases h0:a.aJ.length=0
 ·rw [aC h0,aC h0,aC (by decide)]
 rw [aF h0,aF h0]
 by_cases h1:16<a.aJ.length
 ·rw [aC h1,aC h1,aC (by decide)]
 rw [aF h1,aF h1]
 cases hf:a.aJ.findSome? wh with
 | some e=>
  have he:e≠0:=by
   obtain⟨_,x,_,_,hx,_⟩:=List.findSome?_eq_some_iff.1 hf
   unfold wh at hx
   split at hx
   ·rename_i h;injection hx with hx;rw [<-hx];exact h
   ·cases hx
  dsimp only
  rw [aC he]
 | none=>
  dsimp only
  by_cases h2:j6 a.cI≠0
  ·rw [aC h2,aC h2,aC h2]
  rw [aF h2,aF h2]
  by_cases h3:2000<a.cI.length+ (a.aJ.map List.length).sum
  ·rw [aC h3,aC h3,aC (by decide)]
  rw [aF h3,aF h3]
  by_cases h4:jh a≠0
  ·rw [aC h4,aC h4,aC h4]
  rw [aF h4,aF h4]
theorem Bw {a:kY} (h:l4 a=0):jh a=0:=by
 unfold l4 at h
 by_cases h0:a.aJ.length=0
 ·rw [aC h0] at h;omega
 rw [aF h0] at h
 by_cases h1:16<a.aJ.length
 ·rw [aC h1] at h;omega
 rw [aF h1] at h
 cases hf:a.aJ.findSome? wh with
 | some e=>
  rw [hf] at h
  have h:e=0:=h
  obtain⟨_,x,_,_,hx,_⟩:=List.findSome?_eq_some_iff.1 hf
  unfold wh at hx
  split at hx
  ·rename_i h';injection hx with hx;rw [hx] at h';exact absurd h h'
  ·cases hx
 | none=>
  rw [hf] at h
  dsimp only at h
  by_cases h2:j6 a.cI≠0
  ·rw [aC h2] at h;exact absurd h h2
  rw [aF h2] at h
  by_cases h3:2000<a.cI.length+ (a.aJ.map List.length).sum
  ·rw [aC h3] at h;omega
  rw [aF h3] at h
  by_cases h4:jh a≠0
  ·rw [aC h4] at h;exact absurd h h4
  ·simpa using h4
theorem z7 {a:kY} (hs:vt a) (hN:4398046511104<=N):gZ N a=some (l4 a):=by
 refine Ok.get ?_
 have c1:=hs.cs
 have c2:=hs.out
 have c3:=hs.bs
 have c4:=hs.ls
 unfold gZ l4
 refine Ok.bif (fun h=>Ok.ret ?_) (fun h=>?_)
 ·rw [aC (by have:=beq_iff_eq.1 h;omega)]
 have h0: ¬a.aJ.length=0:=by rw [beq_eq_false_iff_ne] at h;omega
 rw [aF h0]
 refine Ok.bif (fun h=>Ok.ret ?_) (fun h=>?_)
 ·rw [aC (by have:=of_decide_eq_true h;omega)]
 have h1: ¬16<a.aJ.length:=by have:=of_decide_eq_false h;omega
 rw [aF h1]
 have sumle: ∀k,k<=a.aJ.length->((a.aJ.take k).map List.length).sum<=k*1048576:=by
  intro k
  induction k with
  | zero=>intro _;simp
  | succ k ih=>
   intro hk
   have:=ih (by omega)
   have h2:=hs.each _ (cN (show k<a.aJ.length by omega))
   rw [dS (by omega),dL,List.sum_append]
   simp only [eA,List.map_nil,List.sum_cons,List.sum_nil]
   rw [Nat.add_mul];omega
 refine Ok.bind (Ok.pR (n:=a.aJ.length) (fun s=>s.2) (fun k s=>s.1= ((a.cI.length+ ((a.aJ.take k).map List.length).sum:Nat):Int)/\∀(j:Nat) r,j<k->a.aJ[j]? =some r->wh r=none)
  (Go:=fun s=>s.1= ((a.cI.length+ (a.aJ.map List.length).sum:Nat):Int)/\a.aJ.findSome? wh=none) (Rt:=fun r=>a.aJ.findSome? wh=some r) ?_ ?_ (dJ _) rfl ⟨by simp,fun j r hj=>by omega⟩ (by omega)) ?_
 ·rintro k ⟨m,i⟩ hk e ⟨hm,hI⟩
  dsimp only at e hm ⊢
  subst e;subst hm
  have hx:a.aJ[k]? =some a.aJ[k]:=aO hk
  have he:=hs.each _ (cN hk)
  have hsl:=sumle k (by omega)
  rw [kC hk,aQ]
  refine Ok.ix hx (Ok.eq (uu (by omega) hN) (Ok.bif (fun hb=>Ok.rt ?_) (fun hb=>Ok.ix hx (Ok.nx ⟨bS (by omega),?_,fun j r hj hr=>?_⟩))))
  ·exact vx hx hI (by unfold wh;rw [aC (by simpa using hb)])
  ·dsimp only
   rw [wrap_add (by omega),dS hk,dL,List.sum_append]
   simp only [eA,List.map_nil,List.sum_cons,List.sum_nil]
   omega
  ·by_cases e:j=k
   ·subst e;rw [hx] at hr;injection hr with hr;rw [<-hr]
    unfold wh;rw [aF (by simpa using hb)]
   ·exact hI j r (by omega) hr
 ·rintro⟨m,i⟩ e ⟨hm,hI⟩
  dsimp only at e hm ⊢
  subst e
  rw [m0,aR]
  rw [dZ] at hm
  exact Ok.br ⟨hm,zL hI⟩
 intro o ho
 refine Ok.cs ho ?_ (fun r hr=>Ok.ret (by rw [hr]))
 rintro⟨m,i⟩ ⟨hm,hf⟩
 dsimp only at hm ⊢
 subst hm
 rw [hf]
 dsimp only
 refine Ok.eq (uu (by omega) hN) (Ok.bif (fun h=>Ok.ret ?_) (fun h=>?_))
 ·rw [aC (by simpa using h)]
 rw [aF (by simpa using h)]
 have hmr:Ok (bif (decide (((a.cI.length+ (a.aJ.map List.length).sum:Nat):Int)>2000)) then (some true) else (some (decide (((a.aN.length:Nat):Int)>500)))) (fun b=>b=decide (2000<a.cI.length+ (a.aJ.map List.length).sum\/500<a.aN.length)):=by
  by_cases h2:2000<a.cI.length+ (a.aJ.map List.length).sum
  ·rw [bU (by omega),aQ];exact Ok.ret (bU (.inl h2)).symm
  ·rw [cF (by omega),aR]
   refine Ok.ret ?_
   rw [decide_eq_decide];omega
 refine Ok.bind hmr fun b hb=>?_
 subst hb
 refine Ok.bif (fun h=>Ok.ret ?_) (fun h=>?_)
 ·have h:=of_decide_eq_true h
  by_cases h2:2000<a.cI.length+ (a.aJ.map List.length).sum
  ·rw [aC h2]
  ·rw [aF h2]
   have hb:jh a=2:=by unfold jh;rw [aC (by omega)]
   rw [hb,aC (by decide)]
 have h:=of_decide_eq_false h
 rw [aF (by omega)]
 have hbe:jh a= (a.aN.findSome? (lS a.aJ.length)).getD 0:=by unfold jh;rw [aF (by omega)]
 have hw:IntKind.wrap .i64 (((a.aJ.length:Nat):Int) - 1)= ((a.aJ.length:Nat):Int) - 1:=fE (by omega) (by omega)
 refine Ok.bind (Ok.pR (n:=a.aN.length) (fun s=>s) (fun k _=>∀(j:Nat) b,j<k->a.aN[j]? =some b->lS a.aJ.length b=none) (Go:=fun _=>a.aN.findSome? (lS a.aJ.length)=none) (Rt:=fun r=>a.aN.findSome? (lS a.aJ.length)=some r/\r≠0) ?_ ?_ (dJ _) rfl (fun j b hj=>by omega) (by omega)) ?_
 ·rintro k i hk e hI
  subst e
  rw [kC hk,aQ]
  have hx:a.aN[k]? =some a.aN[k]:=aO hk
  refine Ok.ix hx (Ok.eq zf (Ok.bif (fun hb=>Ok.rt ?_) (fun hb=>?_)))
  ·have hb: (mz a.aN[k]).2≠0:=by simpa using hb
   exact⟨vx hx hI (by unfold lS;rw [aC hb]),hb⟩
  ·have hb: ¬(mz a.aN[k]).2≠0:=by simpa using hb
   rw [hw]
   have e2: ((dY N a.aN[k].cO 0 (((a.aJ.length:Nat):Int) - 1)).bind fun x135=>bif (!x135) then (some true) else ((dY N a.aN[k].To a.aN[k].cO (((a.aJ.length:Nat):Int) - 1)).bind fun x138=>some (!x138)))=some (!(fV a.aN[k].cO 0 (((a.aJ.length:Nat):Int) - 1)&&fV a.aN[k].To a.aN[k].cO (((a.aJ.length:Nat):Int) - 1))):=by
    rw [rY,aB,rY,aB]
    cases fV a.aN[k].cO 0 (((a.aJ.length:Nat):Int) - 1) <;> rfl
   refine Ok.eq e2 (Ok.bif (fun h3=>Ok.rt ⟨vx hx hI ?_,by decide⟩) (fun h3=>Ok.nx ⟨bS (by omega),fun j b hj hb'=>?_⟩))
   ·unfold lS
    rw [aF hb,aF (by rintro⟨g1,g2⟩;rw [g1,g2] at h3;cases h3)]
   ·by_cases e:j=k
    ·subst e;rw [hx] at hb';injection hb' with hb';rw [<-hb']
     rw [Bool.not_eq_false',bX] at h3
     unfold lS;rw [aF hb,aC h3]
    ·exact hI j b (by omega) hb'
 ·rintro i e hI
  subst e
  rw [m0,aR]
  exact Ok.br (zL hI)
 intro o ho
 refine Ok.cs ho ?_ (fun r hr=>Ok.ret ?_)
 rotate_left
 ·rw [hbe,hr.1,Option.getD_some,aC hr.2]
 intro _ hbn
 rw [hbe,hbn,Option.getD_none,aF (by decide)]
 unfold mZ
 refine Ok.bif (fun h=>Ok.ret ?_) (fun h=>?_)
 ·rw [aC (by have:=of_decide_eq_true h;omega)]
 have h5: ¬1000<a.bM.length:=by have:=of_decide_eq_false h;omega
 rw [aF h5]
 refine Ok.bind (Ok.pR (n:=a.bM.length) (fun s=>s) (fun k _=>∀j,j<k->kx a j=none) (Go:=fun _=>vX a.bM.length (kx a)=none) (Rt:=fun r=>vX a.bM.length (kx a)=some r) ?_ ?_ (dJ _) rfl (fun j hj=>by omega) (by omega)) ?_
 ·rintro k i hk e hI
  subst e
  rw [kC hk,aQ]
  have hx:a.bM[k]? =some a.bM[k]:=aO hk
  refine Ok.eq (Bv (by omega) (by omega) hx (hs.nm _ (cN hk)) (by omega)) (Ok.bif (fun hb=>Ok.rt ?_) (fun hb=>Ok.nx ⟨bS (by omega),fun j hj=>?_⟩))
  ·cases hl:kx a k with
   | none=>rw [hl] at hb;cases hb
   | some e=>exact po.2 ⟨k,hk,hl,hI⟩
  ·by_cases e:j=k
   ·subst e
    cases hl:kx a j with
    | none=>rfl
    | some e=>rw [hl] at hb;exact absurd (by simpa using hb) (Bu hl)
   ·exact hI j (by omega)
 ·rintro i e hI
  subst e
  rw [m0,aR]
  exact Ok.br (ov.2 hI)
 intro o ho
 exact Ok.cs ho (fun _ h=>Ok.ret (by rw [h];rfl)) (fun r hr=>Ok.ret (by rw [hr];rfl))
theorem uc (b:cA) (k:Int):eW N b k=some (jY b k):=rfl
theorem vz {a:kY} {i:Nat} {r:List aI} {s:List aA} (hb:kH a.aN) (hr:a.aJ[i]? =some r) (hrl:r.length<=2000) (hro: ∀x∈r,BD x) (hd:tX r (j8 a.aN ((i:Nat):Int)) s) (hN:4398046511104<=N):gl N a ((i:Nat):Int)=some (aS s):=by
 refine Ok.get ?_
 have hbl:=hb.len
 have hhl:=y5 hb ((i:Nat):Int)
 have hho:=rj hb ((i:Nat):Int)
 unfold gl
 refine Ok.bind (Ok.pR (n:=a.aN.length) (fun s=>s.2) (fun k st=>st.1=j8 (a.aN.take k) ((i:Nat):Int)) (Go:=fun st=>st.1=j8 a.aN ((i:Nat):Int)) (Rt:=fun _=>False) ?_ ?_ (dJ _) rfl rfl (by omega)) ?_
 ·rintro k ⟨out,ii⟩ hk e hI
  dsimp only at e hI ⊢
  subst e;subst hI
  have hx:a.aN[k]? =some a.aN[k]:=aO hk
  have hts:j8 (a.aN.take (k+1)) ((i:Nat):Int)=if jY a.aN[k] ((i:Nat):Int)=true then j8 (a.aN.take k) ((i:Nat):Int)++[uL a.aN[k]] else j8 (a.aN.take k) ((i:Nat):Int):=by
   unfold j8
   rw [dS hk,j4,dL]
   by_cases h:jY a.aN[k] ((i:Nat):Int)=true
   ·rw [aC h];simp [h]
   ·rw [aF h];simp [h]
  have hlen: (j8 (a.aN.take k) ((i:Nat):Int)).length<=k:=by
   unfold j8
   rw [cV]
   have:=lL (fun b=>jY b ((i:Nat):Int)) (a.aN.take k)
   rw [cG] at this;omega
  rw [kC hk,aQ]
  refine Ok.ix hx (Ok.eq (uc _ _) (Ok.bind (P:=fun st:List aI=>st=j8 (a.aN.take (k+1)) ((i:Nat):Int)) (Ok.bif (fun h=>?_) (fun h=>Ok.ret ?_)) (fun st hst=>Ok.nx ⟨bS (by omega),hst⟩)))
  ·refine Ok.ix hx (Ok.eq (mg (hb.ok _ (cN hk)).1) (Ok.app (by simp only [dI,List.length_nil];omega) (Ok.ret ?_)))
   rw [hts,aC h]
  ·rw [hts,aF (by rw [j5];exact h)]
 ·rintro⟨out,ii⟩ e hI
  dsimp only at e hI ⊢
  subst e
  rw [m0,aR]
  exact Ok.br (by rw [dZ] at hI;exact hI)
 intro o ho
 refine Ok.cs ho ?_ (fun r hr=>hr.elim)
 rintro⟨hs,ii⟩ hI
 dsimp only at hI ⊢
 subst hI
 obtain⟨t,_,ht⟩:=pw (N:=N) (l:=j8 a.aN ((i:Nat):Int)) (by omega) (fun x hx=>(hho x hx).1) (by omega)
 obtain⟨z1,z2,z3⟩:=ht.Eh
 have z4:2* (j8 a.aN ((i:Nat):Int)).length* (2* (j8 a.aN ((i:Nat):Int)).length)<=1000*1000:=Nat.mul_le_mul (by omega) (by omega)
 refine Ok.ix hr (Ok.eq (t6 ht.can ht.cover (by omega) (fun x hx=>(hho x hx).1.x) (by omega) hN) ?_)
 unfold ku
 have hsz:=(vP (A:=5000) hd.can hd.lim (by rw [cW,lX,lX];omega) (by rw [cW,jJ,jJ];omega)).2.2
 have hc:gG N r (aS t) 3=some (aS s):=Ey hd.can (fun x y=>by
  rw [hd.cover,px ht.can,ht.cover];unfold rq;simp) (by omega) (by omega) (fun x hx=>(hro x hx).x) (fun x hx=>(tm ht.can x hx).1) (by omega) hN
 rw [hc,aB,aB]
 exact Ok.ret rfl
theorem vS: ∀(gE:List (List (List aA))) (k:Nat),(eD k gE).length= (gE.map List.length).sum
 | [],k=>rfl
 | ps::gE,k=>by
  show (ps.map _++eD (k+1) gE).length=_
  rw [cW,cV,vS gE (k+1),eA,List.sum_cons]
theorem G8 {a:kY} {m7:List (List aA)} {gE:List (List (List aA))} (hg:pC a) (hD:xc a.aJ a.aN a.aJ.length m7 gE) {i:Nat} {s:List aA} (hi:i<a.aJ.length) (hd:m7[i]? =some s) (hf: (aS s).length<=2000): ∃ps u,gE[i]? =some ps/\qc a.aJ[i] (j8 a.aN ((i:Nat):Int)) s u ps:=by
 have hp:gE[i]? =some (gE[i]'(by rw [hD.z5];exact hi)):=aO _
 have hdr:=hD.dr i _ _ hi (aO hi) hd
 obtain⟨u,hu⟩:=hD.pt i _ _ hi hd hp
 have hreg:=vr.1 (hg.NG _ (cN hi))
 exact⟨_,u,hp,fun x hx=>((pA.1 hreg.1).2 x hx).1,fun x hx=>(rj hg.gb _ x hx).2,(Ba hreg.1).2,fun x hx=>(rj hg.gb _ x hx).1,hdr,hu,hf⟩
theorem qc.pieces {r hs:List aI} {s:List aA} {u:Nat->Nat} {ps:List (List aA)} (h:qc r hs s u ps) (hN:4398046511104<=N):fO N (aS s)=some (ps.map aS):=by
 refine EA h.dr.can h.pt h.xm (fun q hq=>?_) (fun p hp=>(h.part hp).2.1) hN
 obtain⟨h1,h2,h3⟩:=Ge h.r1 h.r2 h.dr.can h.dr.lim q hq
 exact CZ h1 h2 h3
theorem FC {a b:aI} (ha:a.X0<a.X1/\a.Y0<a.Y1) (hb:b.X0<b.X1/\b.Y0<b.Y1):f9 N a b=some (En a b):=by
 unfold f9
 rw [t4,t4,t5,t5]
 have e1:decide (min a.X1 b.X1>max a.X0 b.X0)=yn a.X0 a.X1 b.X0 b.X1:=by
  unfold yn
  rw [eX,bX,bV,bV,bV];omega
 have e2:decide (min a.Y1 b.Y1>max a.Y0 b.Y0)=yn a.Y0 a.Y1 b.Y0 b.Y1:=by
  unfold yn
  rw [eX,bX,bV,bV,bV];omega
 rw [e1,e2]
 unfold En
 cases yn a.X0 a.X1 b.X0 b.X1 <;> rfl
theorem sq_pos {b:cA} (h:qf b=true): (uL b).X0< (uL b).X1/\(uL b).Y0< (uL b).Y1:=by
 obtain⟨h1,_,_⟩:=rV h
 simp only [uL];omega
inductive Checked (N:Nat) (a:kY):Prop
 | err (e:Int) (he:e≠0) (h1:jF N a=some (none,e)) (h2:dO N a=some e)
 | ok {m7:List (List aA)} {gE:List (List (List aA))} {r:Nat->Nat} {gs:List bQ} {ofP ofB tu:List Int} {uq:List ka} (b:rn a m7 gE r gs ofP ofB tu uq)
  (h1:jF N a=some (some (a.aJ,a.cI,a.aN,a.bM,m7,eD 0 gE,j9 a.aN (eD 0 gE),gs,ofP,ofB,tu,uq),0)) (h2:dO N a=some 0)
theorem Gg {a:kY} (hb:kH a.aN) (hN:4398046511104<=N) {f:Int->Option Int} {Q:Int->Prop} (hc:rm a->Q 12) (hn: ¬rm a->∀s,Ok (f s) Q):
  Ok ((jK (fun(s35:Int)=>(bif (decide (s35< (a.aN.length:Int))) then ((jK (fun(s622:Int)=>(bif (decide (s622<s35)) then (((idx a.aN s35).bind fun x869=>(idx a.aN s622).bind fun x873=>(iH N x869 x873).bind fun x876=>bif x876 then ((idx a.aN s35).bind fun x879=>(cJ N x879).bind fun x882=>(idx a.aN s622).bind fun x885=>(cJ N x885).bind fun x888=>(f9 N x882 x888).bind fun x890=>some x890) else (some false)).bind fun s867=>bif s867 then (some (.rt 12)) else (some (.nx (IntKind.wrap .i64 (s622+1))))) else (some (.br s622)):Option (Fl (Int) Int))) N 0).bind fun o911=>o911.cs (fun(s622:Int)=>some (.nx (IntKind.wrap .i64 (s35+1)))) (fun r=>some (.rt r))) else (some (.br s35)):Option (Fl (Int) Int))) N 0).bind fun o933=>o933.cs f (fun r=>some r)) Q:=by
 have hbl:=hb.len
 refine Ok.bind (Ok.pR (n:=a.aN.length) (fun s=>s) (fun k _=>∀(i j:Nat) (x y:cA),i<k->j<i->a.aN[i]? =some x->a.aN[j]? =some y->¬rl x y=true) (Go:=fun _=>¬rm a) (Rt:=fun r=>r=12/\rm a) ?_ ?_ (dJ _) rfl (fun i j x y hi=>by omega) (by omega)) ?_
 ·rintro k s hk e hI
  subst e
  rw [kC hk,aQ]
  have hx:a.aN[k]? =some a.aN[k]:=aO hk
  have fx:=(hb.ok _ (cN hk)).1
  refine Ok.bind (Ok.pR (n:=k) (fun s=>s) (fun t _=>∀(j:Nat) (y:cA),j<t->a.aN[j]? =some y->¬rl a.aN[k] y=true) (Go:=fun _=>∀(j:Nat) (y:cA),j<k->a.aN[j]? =some y->¬rl a.aN[k] y=true) (Rt:=fun r=>r=12/\rm a) ?_ ?_ (dJ _) rfl (fun j y hj=>by omega) (by omega)) ?_
  ·rintro t s ht e hI2
   subst e
   rw [kC ht,aQ]
   have hy:a.aN[t]? =some (a.aN[t]'(by omega)):=aO _
   have fy:=(hb.ok _ (cN (show t<a.aN.length by omega))).1
   have hcond: ((idx a.aN ((k:Nat):Int)).bind fun x869=>(idx a.aN ((t:Nat):Int)).bind fun x873=>(iH N x869 x873).bind fun x876=>bif x876 then ((idx a.aN ((k:Nat):Int)).bind fun x879=>(cJ N x879).bind fun x882=>(idx a.aN ((t:Nat):Int)).bind fun x885=>(cJ N x885).bind fun x888=>(f9 N x882 x888).bind fun x890=>some x890) else (some false))=some (rl a.aN[k] (a.aN[t]'(by omega))):=by
    rw [eM hx,aB,eM hy,aB]
    unfold iH rl
    rw [aB]
    cases (decide (a.aN[k].cO<=(a.aN[t]'(by omega)).To)&&decide ((a.aN[t]'(by omega)).cO<=a.aN[k].To)) with
    | false=>rfl
    | true=>rw [aQ,aB,mg fx,aB,aB,mg fy,aB,FC (sq_pos fx) (sq_pos fy),aB,Bool.true_and]
   refine Ok.eq hcond (Ok.bif (fun h=>Ok.rt ⟨rfl,k,t,_,_,ht,hx,hy,h⟩) (fun h=>Ok.nx ⟨bS (by omega),fun j y hj hjy=>?_⟩))
   by_cases e:j=t
   ·subst e;rw [hy] at hjy;injection hjy with hjy;rw [<-hjy,h];exact k6
   ·exact hI2 j y (by omega) hjy
  ·rintro s e hI2
   subst e
   rw [m0,aR]
   exact Ok.br hI2
  intro o ho
  refine Ok.cs ho (fun s hs=>Ok.nx ⟨bS (by omega),fun i j x y hi hj hix hjy=>?_⟩) (fun r hr=>Ok.rt hr)
  by_cases e:i=k
  ·subst e;rw [hx] at hix;injection hix with hix;rw [<-hix];exact hs j y hj hjy
  ·exact hI i j x y (by omega) hj hix hjy
 ·rintro s e hI
  subst e
  rw [m0,aR]
  refine Ok.br ?_
  rintro⟨i,j,x,y,hij,hx,hy,hc⟩
  exact hI i j x y (bD.1 hx).1 hij hx hy hc
 intro o ho
 exact Ok.cs ho (fun s hs=>hn hs s) (fun r hr=>Ok.ret (by rw [hr.1];exact hc hr.2))
theorem checked {a:kY} (hs:vt a) (hN:4398046511104<=N):Checked N a:=by
 obtain⟨x,hx,hI⟩:=Cl (N:=N) hs hN
 have hbe:=EC a
 have hcp:=z7 (N:=N) hs hN
 rcases hI with ⟨he,rfl⟩ | ⟨h0,hg,hcl,m7,gE,D,hI⟩
 ·refine .err _ he hx (Ok.get ?_)
  unfold dO
  refine Ok.eq hcp ?_
  by_cases h:l4 a≠0
  ·rw [aC h] at hbe
   rw [show (l4 a != 0)=true by simpa using h,aQ,hbe];exact Ok.ret rfl
  ·rw [aF h] at hbe
   have hp0:l4 a=0:=by simpa using h
   have hc:rm a:=by
    by_cases hc:rm a
    ·exact hc
    ·rw [aF hc] at hbe;exact absurd hbe he
   rw [aC hc] at hbe
   rw [hp0,show ((0:Int) != 0)=false by rfl,aR]
   have hbo:=Bw hp0
   refine Gg ⟨(mf hbo).1,fun b hb=>⟨((mf hbo).2 b hb).1,((mf hbo).2 b hb).2.1⟩⟩ hN (fun _=>hbe.symm) (fun h=>absurd hc h)
 ·have hp0:l4 a=0:=by
   by_cases h:l4 a≠0
   ·rw [aC h] at hbe;rw [hbe] at h0;exact h0
   ·simpa using h
  have key:dO N a=some (if KG m7 gE then 0 else 2):=by
   refine Ok.get ?_
   unfold dO
   refine Ok.eq hcp ?_
   rw [hp0,show ((0:Int) != 0)=false by rfl,aR]
   refine Gg hg.gb hN (fun h=>absurd h hcl) (fun _ _=>?_)
   have hc16:=hg.xm.2
   refine Ok.bind (Ok.pR (n:=a.aJ.length) (fun s=>s.2) (fun k st=>st.1= ((((gE.take k).map List.length).sum:Nat):Int)/\((gE.take k).map List.length).sum<=k*2000/\∀(j:Nat) s,j<k->m7[j]? =some s->(aS s).length<=2000)
    (Go:=fun st=>st.1= (((gE.map List.length).sum:Nat):Int)/\∀s∈m7,(aS s).length<=2000) (Rt:=fun r=>r=2/\¬KG m7 gE) ?_ ?_ (dJ _) rfl ⟨by simp,by simp,fun j s hj=>by omega⟩ (by omega)) ?_
   ·rintro k ⟨m,i⟩ hk e ⟨hm,hml,hI2⟩
    dsimp only at e hm ⊢
    subst e;subst hm
    rw [kC hk,aQ]
    have hcx:a.aJ[k]? =some a.aJ[k]:=aO hk
    have hd:m7[k]? =some (m7[k]'(by rw [D.len];exact hk)):=aO _
    have hcs:=hg.cs _ (cN hk)
    refine Ok.eq (vz hg.gb hcx hcs.1 hcs.2 (D.dr k _ _ hk hcx hd) hN) (Ok.bif (fun h=>Ok.rt ⟨rfl,fun hf=>?_⟩) (fun h=>?_))
    ·have:=hf.1 _ (eY hd)
     have:=of_decide_eq_true h
     omega
    ·have hf: (aS (m7[k]'(by rw [D.len];exact hk))).length<=2000:=by have:=of_decide_eq_false h;omega
     obtain⟨ps,u,hp,L⟩:=G8 hg D hk hd hf
     have hpl:=L.pt.xm
     have hkp:k<gE.length:=by rw [D.z5];exact hk
     have hpe:gE[k]=ps:=by rw [aO hkp] at hp;injection hp
     refine Ok.eq (L.pieces hN) (Ok.nx ⟨bS (by omega),?_,?_,fun j s hj hjs=>?_⟩)
     ·dsimp only
      rw [cV,wrap_add (by omega),dS hkp,dL,List.sum_append,hpe]
      simp
     ·rw [dS hkp,dL,List.sum_append,hpe]
      simp only [eA,List.map_nil,List.sum_cons,List.sum_nil]
      rw [Nat.add_mul];omega
     ·by_cases e:j=k
      ·subst e;rw [hd] at hjs;injection hjs with hjs;rw [<-hjs];exact hf
      ·exact hI2 j s (by omega) hjs
   ·rintro⟨m,i⟩ e ⟨hm,hml,hI2⟩
    dsimp only at e hm ⊢
    subst e
    rw [m0,aR]
    rw [lJ (by rw [D.z5];exact bW _)] at hm
    refine Ok.br ⟨hm,fun s hs'=>?_⟩
    obtain⟨j,hj⟩:=dU hs'
    exact hI2 j s (by have:=(bD.1 hj).1;rw [D.len] at this;exact this) hj
   intro o ho
   refine Ok.cs ho ?_ (fun r hr=>Ok.ret (by rw [hr.1,aF hr.2]))
   rintro⟨m,i⟩ ⟨hm,hf⟩
   dsimp only at hm ⊢
   subst hm
   have hpl:=vS gE 0
   refine Ok.bif (fun h=>Ok.ret ?_) (fun h=>Ok.ret ?_)
   ·rw [aF]
    rintro⟨_,h2⟩
    have:=of_decide_eq_true h
    omega
   ·rw [aC]
    exact⟨hf,by have:=of_decide_eq_false h;omega⟩
  rcases hI with ⟨hf,rfl⟩ | ⟨hf,r,gs,ofP,ofB,tu,uq,hC,rfl⟩
  ·rw [aF hf] at key
   exact .err 2 (by decide) hx key
  ·rw [aC hf] at key
   exact .ok ⟨hg,hcl,D,hf,hC⟩ hx key
end
end Go.Gk
namespace Go.Gk
open Go Classical
theorem Af: ∀{l m:List Int},jI l->jI m->(∀x,x∈l↔x∈m)->l=m
 | [],[],_,_,_=>rfl
 | [],b::m,_,_,h=>absurd ((h b).2 (by simp)) (by simp)
 | a::l,[],_,_,h=>absurd ((h a).1 (by simp)) (by simp)
 | a::l,b::m,hl,hm,h=>by
  have h1:a=b:=by
   have ha:=(h a).1 (by simp)
   have hb:=(h b).2 (by simp)
   rcases dE.1 ha with e | ha
   ·exact e
   ·rcases dE.1 hb with e | hb
    ·exact e.symm
    ·have:=hl.head b hb
     have:=hm.head a ha
     omega
  subst h1
  rw [Af hl.tail hm.tail fun x=>?_]
  have hx:=h x
  rw [dE,dE] at hx
  constructor
  ·intro hxl
   rcases hx.1 (.inr hxl) with e | h'
   ·have:=hl.head x hxl;omega
   ·exact h'
  ·intro hxm
   rcases hx.2 (.inr hxm) with e | h'
   ·have:=hm.head x hxm;omega
   ·exact h'
theorem ED {l:List Nat} (h:l.Pairwise (· < ·)):jI (ints l):=by
 unfold jI ints
 rw [List.pairwise_map]
 exact h.imp fun h=>by omega
section
variable {N:Nat}
theorem Bx {l:List Int} {c:Int} (h:jI l) (hl:l.length<=1000000000) (hN:4398046511104<=N):iI N l c=some (qz l c):=by
 refine Ok.get ?_
 unfold iI
 refine Ok.bind (Ok.jK (Go:=fun s=>∃a:Nat,s= ((a:Nat):Int)/\a<=l.length/\(∀(j:Nat) x,a<=j->l[j]? =some x->c<x)/\(∀x,0<a->l[a - 1]? =some x->¬c<x)) (Rt:=fun _=>False)
  (fun s=>∃a:Nat,s= ((a:Nat):Int)/\a<=l.length/\∀(j:Nat) x,a<=j->l[j]? =some x->c<x) (fun s=>s.toNat) ?_ ⟨l.length,rfl,bW _,fun j x hj hx=>by have:=(bD.1 hx).1;omega⟩ (by simp only [cK];omega)) ?_
 ·rintro s ⟨a,rfl,ha,hI⟩
  by_cases h0:0<a
  ·have hx:l[a - 1]? =some (l[a - 1]'(by omega)):=aO _
   rw [bU (by omega),aQ,jq h0 (by omega),eM hx,aB,aB]
   refine Ok.bif (fun hb=>?_) (fun hb=>?_)
   ·have hb:=of_decide_eq_true hb
    refine Ok.nx ⟨⟨a - 1,rfl,by omega,fun j x hj hx'=>?_⟩,by simp only [cK];omega⟩
    by_cases e:j=a - 1
    ·subst e;rw [hx] at hx';injection hx' with hx';rw [<-hx'];exact hb
    ·exact hI j x (by omega) hx'
   ·have hb:=of_decide_eq_false hb
    exact Ok.br ⟨a,rfl,ha,hI,fun x _ hx'=>by rw [hx] at hx';injection hx' with hx';rw [<-hx'];exact hb⟩
  ·rw [cF (by omega),aR,aB,aR]
   exact Ok.br ⟨a,rfl,ha,hI,fun x h=>absurd h h0⟩
 intro o ho
 refine Ok.cs ho ?_ (fun r hr=>hr.elim)
 rintro s ⟨a,rfl,ha,hI,hE⟩
 have hlow: ∀(j:Nat) x,j<a->l[j]? =some x->x<=c:=fun j x hj hx=>by
  have hy:l[a - 1]? =some (l[a - 1]'(by omega)):=aO _
  have h1:=hE _ (by omega) hy
  by_cases e:j=a - 1
  ·subst e;rw [hy] at hx;injection hx with hx;omega
  ·have:=h.lt (i:=j) (j:=a - 1) (by omega) hx hy;omega
 have hout:c∉l->qz l c=l.take a++c::l.drop a:=fun hc=>by
  unfold qz
  rw [aF hc]
  obtain⟨e1,e2⟩:=qy (p:=fun x=>decide (x<c)) (l:=l) (k:=a) (fun j x hj hx=>bU (by
   have h1:=hlow j x hj hx
   have h2:x≠c:=fun e=>hc (e▸eY hx)
   omega)) (fun x hx=>cF (by have:=hI a x (bW _) hx;omega))
  rw [e1,e2]
 have hrest:c∉l->Ok ((tt l 0 ((a:Nat):Int)).bind fun x61=>(app 8 ([]: (List Int)) x61).bind fun x63=>(app 8 x63 ([c]: (List Int))).bind fun x66=>(tt l ((a:Nat):Int) ((l.length:Nat):Int)).bind fun x68=>(app 8 x66 x68).bind fun x70=>some x70) (fun r=>r=qz l c):=fun hc=>by
  have htk: (l.take a).length=a:=by rw [cG];omega
  refine Ok.eq (qT l a ha) (Ok.app (by simp only [List.length_nil];omega) (Ok.app (by rw [List.nil_append];simp only [dI,List.length_nil];omega) (Ok.eq (pJ l a ha) (Ok.app ?_ (Ok.ret ?_)))))
  ·rw [List.nil_append,cW,iN];simp only [dI,List.length_nil];omega
  ·rw [hout hc];simp
 by_cases h0:0<a
 ·have hx:l[a - 1]? =some (l[a - 1]'(by omega)):=aO _
  rw [bU (by omega),aQ,jq h0 (by omega),eM hx,aB,aB]
  refine Ok.bif (fun hb=>Ok.ret ?_) (fun hb=>hrest ?_)
  ·rw [beq_iff_eq] at hb
   unfold qz;rw [aC (by rw [<-hb];exact eY hx)]
  ·rw [beq_eq_false_iff_ne] at hb
   intro hc
   obtain⟨j,hj⟩:=dU hc
   by_cases h1:a<=j
   ·have:=hI j c h1 hj;omega
   ·by_cases e:j=a - 1
    ·subst e;rw [hx] at hj;injection hj with hj;exact hb hj
    ·have:=h.lt (i:=j) (j:=a - 1) (by omega) hj hx
     have:=hlow (a - 1) _ (by omega) hx
     omega
 ·rw [cF (by omega),aR,aB,aR]
  refine hrest fun hc=>?_
  obtain⟨j,hj⟩:=dU hc
  have:=hI j c (by omega) hj;omega
theorem ud {l:List Int} {c:Int} (hl:l.length<=1099511627776) (hN:4398046511104<=N):cE N l c=some (decide (c∈l)):=by
 refine Ok.get ?_
 unfold cE
 refine Ok.bind (Ok.pR (n:=l.length) (fun s=>s) (fun k _=>∀(j:Nat) x,j<k->l[j]? =some x->x≠c) (Go:=fun _=>c∉l) (Rt:=fun r=>r=true/\c∈l) ?_ ?_ (dJ _) rfl (fun j x hj=>by omega) (by omega)) ?_
 ·rintro k s hk e hI
  subst e
  rw [kC hk,aQ]
  have hx:l[k]? =some l[k]:=aO hk
  refine Ok.ix hx (Ok.bif (fun hb=>Ok.rt ⟨rfl,?_⟩) (fun hb=>Ok.nx ⟨bS (by omega),fun j x hj hx'=>?_⟩))
  ·rw [beq_iff_eq] at hb
   exact hb▸cN hk
  ·by_cases e:j=k
   ·subst e;rw [hx] at hx';injection hx' with hx';rw [<-hx'];exact beq_eq_false_iff_ne.1 hb
   ·exact hI j x (by omega) hx'
 ·rintro s e hI
  subst e
  rw [m0,aR]
  refine Ok.br fun hc=>?_
  obtain⟨j,hj⟩:=dU hc
  exact hI j c (bD.1 hj).1 hj rfl
 intro o ho
 exact Ok.cs ho (fun s hs=>Ok.ret (cF hs).symm) (fun r hr=>Ok.ret (by rw [hr.1,bU hr.2]))
theorem It {p q:aI} (hp:p.X0<p.X1/\p.Y0<p.Y1) (hq:q.X0<q.X1/\q.Y0<q.Y1):qx p q=decide ((0<min p.X1 q.X1 - max p.X0 q.X0/\min p.Y1 q.Y1 - max p.Y0 q.Y0=0)\/(min p.X1 q.X1 - max p.X0 q.X0=0/\0<min p.Y1 q.Y1 - max p.Y0 q.Y0)):=by
 unfold qx
 rw [eX]
 simp only [dM,bX,bV,beq_iff_eq]
 constructor
 ·rintro(h | h)
  ·left;omega
  ·right;omega
 ·rintro(h | h)
  ·left;omega
  ·right;omega
theorem Jn {l:List aI} {q:aI} (hl:l.length<=1000000000) (ho: ∀r∈l,BD r) (hq:BD q) (hN:4398046511104<=N):jk N l q=some (l.any (fun r=>qx r q)):=by
 refine Ok.get ?_
 unfold jk
 refine Ok.bind (Ok.pR (n:=l.length) (fun s=>s) (fun k _=>∀(j:Nat) x,j<k->l[j]? =some x->qx x q=false) (Go:=fun _=>l.any (fun r=>qx r q)=false) (Rt:=fun r=>r=true/\l.any (fun r=>qx r q)=true) ?_ ?_ (dJ _) rfl (fun j x hj=>by omega) (by omega)) ?_
 ·rintro k s hk e hI
  subst e
  rw [kC hk,aQ]
  have hx:l[k]? =some l[k]:=aO hk
  have hr:=ho _ (cN hk)
  have hb:=It (p:=l[k]) (q:=q) ⟨hr.x,hr.y⟩ ⟨hq.x,hq.y⟩
  have a1:=hr.s1;have a2:=hr.s2;have a3:=hr.s3;have a4:=hr.s4
  have b1:=hq.s1;have b2:=hq.s2;have b3:=hq.s3;have b4:=hq.s4
  unfold small at a1 a2 a3 a4 b1 b2 b3 b4
  refine Ok.ix hx (Ok.ix hx (Ok.ix hx (Ok.ix hx ?_)))
  rw [t4,t4,t5,t5,fE (x:=min l[k].X1 q.X1 - max l[k].X0 q.X0) (by omega) (by omega),fE (x:=min l[k].Y1 q.Y1 - max l[k].Y0 q.Y0) (by omega) (by omega)]
  have e: ((decide (min l[k].X1 q.X1 - max l[k].X0 q.X0>0)&&(min l[k].Y1 q.Y1 - max l[k].Y0 q.Y0==0))||((min l[k].X1 q.X1 - max l[k].X0 q.X0==0)&&decide (min l[k].Y1 q.Y1 - max l[k].Y0 q.Y0>0)))=qx l[k] q:=by
   rw [hb,eX]
   simp only [dM,bX,bV,beq_iff_eq,gt_iff_lt]
  rw [e]
  refine Ok.bif (fun h=>Ok.rt ⟨rfl,k7.2 ⟨_,cN hk,h⟩⟩) (fun h=>Ok.nx ⟨bS (by omega),fun j x hj hx'=>?_⟩)
  by_cases e:j=k
  ·subst e;rw [hx] at hx';injection hx' with hx';rw [<-hx'];exact h
  ·exact hI j x (by omega) hx'
 ·rintro s e hI
  subst e
  rw [m0,aR]
  refine Ok.br ?_
  rw [List.any_eq_false]
  intro x hx
  obtain⟨j,hj⟩:=dU hx
  rw [hI j x (bD.1 hj).1 hj];exact k6
 intro o ho
 exact Ok.cs ho (fun s hs=>Ok.ret hs.symm) (fun r hr=>Ok.ret (by rw [hr.1,hr.2]))
theorem zg (r:List aI) (p:jw):zA r p=sW r p.X p.Y:=by
 unfold zA sW
 congr 1
 funext x
 rw [eX]
 simp only [bX,bV,ge_iff_le,and_assoc]
theorem zN {r:List aI} {p:jw} (hl:r.length<=134217728) (hr: ∀x∈r,x.X0<x.X1) (hN:4398046511104<=N):eP N r p=some (zA r p):=by
 refine Ok.get ?_
 unfold eP
 refine Ok.bind (C3 hl hN) fun s hs=>?_
 have hsl:s.length<=r.length:=by have:=rp r p.Y;rw [<-hs,cV] at this;exact this
 refine Ok.eq (zb (by omega) hN) (Ok.ret ?_)
 rw [hs,(tk hr p.Y).2,zg]
def Iu (bs:List cA) (pcs:List aK) (l:eQ):Option ka:=match pcs.findIdx? (kR l) with
 | some k=>some ⟨false,((k:Nat):Int)⟩
 | none=>(bs.findIdx? (lF l)).map fun k=>⟨true,((k:Nat):Int)⟩
theorem Jo {bs:List cA} {pcs:List aK} {l:eQ} (hd: ∀b∈bs,∀p∈pcs,lF l b=true->kR l p=true->False):Iu bs pcs l=z6 bs pcs l:=by
 unfold Iu z6
 cases h1:pcs.findIdx? (kR l) with
 | none=>cases bs.findIdx? (lF l) <;> rfl
 | some k=>
  cases h2:bs.findIdx? (lF l) with
  | none=>rfl
  | some j=>
   obtain⟨hk,hp,_⟩:=List.findIdx?_eq_some_iff_getElem.1 h1
   obtain⟨hj,hb,_⟩:=List.findIdx?_eq_some_iff_getElem.1 h2
   exact(hd _ (cN hj) _ (cN hk) hb hp).elim
theorem Bz {α:Type} {l:List α} {p:α->Bool} {k:Nat} {x:α} (hx:l[k]? =some x) (hp:p x=true) (hn: ∀(j:Nat) y,j<k->l[j]? =some y->p y=false):l.findIdx? p=some k:=by
 obtain⟨hk,rfl⟩:=bD.1 hx
 rw [List.findIdx?_eq_some_iff_getElem]
 exact⟨hk,hp,fun j hj=>by rw [hn j _ hj (aO _)];exact k6⟩
theorem BA {α:Type} {l:List α} {p:α->Bool} (hn: ∀(j:Nat) y,j<l.length->l[j]? =some y->p y=false):l.findIdx? p=none:=by
 rw [List.findIdx?_eq_none_iff]
 intro x hx
 obtain⟨j,hj⟩:=dU hx
 exact hn j x (bD.1 hj).1 hj
theorem G9 {bs:List cA} {pcs:List aK} (hb:kH bs) (hp:pcs.length<=1000000) (hr: ∀p∈pcs,p.iQ.length<=1000000/\∀x∈p.iQ,x.X0<x.X1) (l:eQ) (hN:4398046511104<=N):
  fI N bs (pcs.map aK.cU) (pcs.map aK.iQ) l=some ((Iu bs pcs l).getD ⟨false,0⟩,(Iu bs pcs l).isSome):=by
 refine Ok.get ?_
 have hbl:=hb.len
 unfold fI Iu
 rw [cV]
 refine Ok.bind (Ok.pR (n:=pcs.length) (fun s=>s) (fun k _=>∀(j:Nat) x,j<k->pcs[j]? =some x->kR l x=false) (Go:=fun _=>pcs.findIdx? (kR l)=none) (Rt:=fun r=>∃k:Nat,pcs.findIdx? (kR l)=some k/\r= (⟨false,((k:Nat):Int)⟩,true)) ?_ ?_ (dJ _) rfl (fun j x hj=>by omega) (by omega)) ?_
 ·rintro k s hk e hI
  subst e
  rw [kC hk,aQ]
  have hx:pcs[k]? =some pcs[k]:=aO hk
  have hlx: (pcs.map aK.cU)[k]? =some pcs[k].cU:=by rw [gq,hx];rfl
  have hrx: (pcs.map aK.iQ)[k]? =some pcs[k].iQ:=by rw [gq,hx];rfl
  have hrl:=hr _ (cN hk)
  have hcond: ((idx (pcs.map aK.cU) ((k:Nat):Int)).bind fun x88=>bif (x88==l.cU) then ((idx (pcs.map aK.iQ) ((k:Nat):Int)).bind fun x91=>(eP N x91 l.At).bind fun x95=>some x95) else (some false))=some (kR l pcs[k]):=by
   rw [eM hlx,aB,eM hrx,aB,zN (by omega) hrl.2 hN,aB]
   unfold kR
   cases pcs[k].cU==l.cU <;> rfl
  refine Ok.eq hcond (Ok.bif (fun h=>Ok.rt ⟨k,Bz hx h hI,rfl⟩) (fun h=>Ok.nx ⟨bS (by omega),fun j x hj hx'=>?_⟩))
  by_cases e:j=k
  ·subst e;rw [hx] at hx';injection hx' with hx';rw [<-hx'];exact h
  ·exact hI j x (by omega) hx'
 ·rintro s e hI
  subst e
  rw [m0,aR]
  exact Ok.br (BA hI)
 intro o ho
 refine Ok.cs ho ?_ (fun r hr=>by obtain⟨k,h1,h2⟩:=hr;rw [h1,h2];exact Ok.ret rfl)
 intro _ hno
 rw [hno]
 dsimp only
 refine Ok.bind (Ok.pR (n:=bs.length) (fun s=>s) (fun k _=>∀(j:Nat) x,j<k->bs[j]? =some x->lF l x=false) (Go:=fun _=>bs.findIdx? (lF l)=none) (Rt:=fun r=>∃k:Nat,bs.findIdx? (lF l)=some k/\r= (⟨true,((k:Nat):Int)⟩,true)) ?_ ?_ (dJ _) rfl (fun j x hj=>by omega) (by omega)) ?_
 ·rintro k s hk e hI
  subst e
  rw [kC hk,aQ]
  have hx:bs[k]? =some bs[k]:=aO hk
  have hg:=hb.ok _ (cN hk)
  have hcond: ((idx bs ((k:Nat):Int)).bind fun x301=>bif x301.fY then ((idx bs ((k:Nat):Int)).bind fun x305=>(eW N x305 l.cU).bind fun x308=>bif x308 then ((idx bs ((k:Nat):Int)).bind fun x310=>(cJ N x310).bind fun x313=>(eP N ([x313]: (List aI)) l.At).bind fun x317=>some x317) else (some false)) else (some false))=some (lF l bs[k]):=by
   rw [eM hx,aB,aB,uc,aB,aB,mg hg.1,aB,zN (by simp) (fun x hx=>by simp at hx;subst hx;exact(sq_pos hg.1).1) hN,aB]
   unfold lF
   cases bs[k].fY with
   | false=>rfl
   | true=>cases jY bs[k] l.cU <;> rfl
  refine Ok.eq hcond (Ok.bif (fun h=>Ok.rt ⟨k,Bz hx h hI,rfl⟩) (fun h=>Ok.nx ⟨bS (by omega),fun j x hj hx'=>?_⟩))
  by_cases e:j=k
  ·subst e;rw [hx] at hx';injection hx' with hx';rw [<-hx'];exact h
  ·exact hI j x (by omega) hx'
 ·rintro s e hI
  subst e
  rw [m0,aR]
  exact Ok.br (BA hI)
 intro o ho
 exact Ok.cs ho (fun _ h=>Ok.ret (by rw [h];rfl)) (fun r hr=>by obtain⟨k,h1,h2⟩:=hr;rw [h1,h2];exact Ok.ret rfl)
end
section
variable {N:Nat} {a:kY} {m7:List (List aA)} {gE:List (List (List aA))} {r:Nat->Nat} {gs:List bQ} {ofP ofB tu:List Int} {uq:List ka}
theorem yu (b:rn a m7 gE r gs ofP ofB tu uq) {p:aK} (hp:p∈eD 0 gE):p.iQ.length<=2000/\(∀q∈p.iQ,fG q=true/\q.X0<q.X1/\q.Y0<q.Y1)/\∃i:Nat,p.cU= ((i:Nat):Int)/\∀x y,sW p.iQ x y=true->sW (j8 a.aN ((i:Nat):Int)) x y=false:=by
 obtain⟨i,ps,q,h1,h2,rfl⟩:=y9 hp
 have hil:i<a.aJ.length:=by have:=(bD.1 h1).1;rw [b.dr.z5] at this;exact this
 obtain⟨s,ps',u,g1,g2,L⟩:=zJ b hil
 rw [h1] at g2;injection g2 with g2;subst g2
 obtain⟨k1,k2,k3⟩:=L.part h2
 refine⟨k2,k3,i,by simp,fun x y h=>?_⟩
 have h3:sW (ps.flatMap aS) x y=true:=zI.2 ⟨q,h2,h⟩
 rw [L.cover,L.dr.cover,bX,Bool.not_eq_true'] at h3
 exact h3.2
theorem Gh (b:rn a m7 gE r gs ofP ofB tu uq) (l:eQ): ∀x∈a.aN,∀p∈eD 0 gE,lF l x=true->kR l p=true->False:=fun x hx p hp h1 h2=>by
 obtain⟨_,_,i,e,hc⟩:=yu b hp
 unfold lF at h1
 unfold kR at h2
 rw [bX,bX,zg] at h1
 rw [bX,zg,beq_iff_eq] at h2
 have h3:=hc _ _ h2.2
 rw [<-e,h2.1] at h3
 obtain⟨q,hq,hxy⟩:=iZ.1 h1.2.2
 simp at hq
 subst hq
 have h4:sW (j8 a.aN l.cU) l.At.X l.At.Y=true:=iZ.2 ⟨uL x,dC.2 ⟨x,jy.2 ⟨hx,h1.2.1⟩,rfl⟩,hxy⟩
 rw [h3] at h4;cases h4
end
end Go.Gk
namespace Go.Gk
open Go Classical
structure PS (n:Nat) (r:Nat->Nat) (h:Nat) (q:List Nat) (seen:List Bool) (pieces todo:List Int):Prop where
 sl:seen.length=n
 sn: ∀p,p<n->seen[p]? =some (decide (r p<h\/p∈q))
 qn:q.Nodup
 qi: ∀p∈q,p<n/\r p=h
 q0:h∈q
 td:todo=ints q
 pi:jI pieces
 pm: ∀x,x∈pieces↔∃p∈q,x= ((p:Nat):Int)
structure QS (n m:Nat) (tch:List (List Int)) (r:Nat->Nat) (h:Nat) (q qb:List Nat) (yl:List Int) (used:List Bool):Prop where
 ul:used.length=m
 un: ∀k,k<m->used[k]? =some (decide (k∈qb))
 bi:jI yl
 bm: ∀x,x∈yl↔∃k∈qb,x= ((k:Nat):Int)
 bk: ∀k∈qb,k<m/\r (n+k)=h/\∀l,tch[k]? =some l->∀p:Nat,((p:Nat):Int)∈l->p∈q
theorem PS.xm {n:Nat} {r:Nat->Nat} {h:Nat} {q:List Nat} {seen:List Bool} {pieces todo:List Int} (H:PS n r h q seen pieces todo):q.length<=n/\pieces.length<=n:=by
 have h1:=fT H.qn (m:=List.range n) (fun k hk=>by rw [rL];exact(H.qi k hk).1)
 rw [List.length_range] at h1
 have h2:=fT H.pi.nodup (m:=ints q) (fun x hx=>pU.2 ((H.pm x).1 hx))
 rw [kq] at h2
 exact⟨h1,by omega⟩
theorem QS.xm {n m:Nat} {tch:List (List Int)} {r:Nat->Nat} {h:Nat} {q qb:List Nat} {yl:List Int} {used:List Bool} (H:QS n m tch r h q qb yl used):yl.length<=m:=by
 have h2:=fT H.bi.nodup (m:=ints (List.range m)) (fun x hx=>by
  obtain⟨k,hk,e⟩:=(H.bm x).1 hx
  exact pU.2 ⟨k,rL.2 (H.bk k hk).1,e⟩)
 rwa [kq,List.length_range] at h2
theorem KB (n t:Nat) (r:Nat->Nat) (h:Nat):jI (ints (gP n (cls t r h))):=ED (List.Pairwise.sublist (List.filter_sublist.trans List.filter_sublist) (List.pairwise_lt_range (n:=t)))
theorem Iv (bs:List cA) (n t:Nat) (r:Nat->Nat) (h:Nat):jI (ints (gB bs n (cls t r h))):=by
 refine ED ?_
 unfold gB
 rw [List.pairwise_map]
 have hp: (List.filter (fun i=> !decide (i<n)&&th bs (i - n)) (cls t r h)).Pairwise (· < ·):=List.Pairwise.sublist (List.filter_sublist.trans List.filter_sublist) (List.pairwise_lt_range (n:=t))
 refine hp.imp_of_mem fun{a b} ha hb hab=>?_
 have h1:=(jy.1 ha).2
 rw [bX,Bool.not_eq_true',decide_eq_false_iff_not] at h1
 omega
theorem Da {n t:Nat} {r:Nat->Nat} {h p:Nat}:p∈gP n (cls t r h)↔p<n/\p<t/\r p=h:=by
 unfold gP
 rw [jy,pB,bV]
 constructor
 ·rintro⟨⟨h1,h2⟩,h3⟩;exact⟨h3,h1,h2⟩
 ·rintro⟨h3,h1,h2⟩;exact⟨⟨h1,h2⟩,h3⟩
theorem zh {bs:List cA} {n t:Nat} {r:Nat->Nat} {h k:Nat}:k∈gB bs n (cls t r h)↔n+k<t/\r (n+k)=h/\th bs k=true:=by
 unfold gB
 rw [dC]
 constructor
 ·rintro⟨i,hi,rfl⟩
  rw [jy,pB,bX,Bool.not_eq_true',decide_eq_false_iff_not] at hi
  have e:n+ (i - n)=i:=by omega
  rw [e]
  exact⟨hi.1.1,hi.1.2,hi.2.2⟩
 ·rintro⟨h1,h2,h3⟩
  refine⟨n+k,?_,by omega⟩
  rw [jy,pB,bX,Bool.not_eq_true',decide_eq_false_iff_not,Nat.add_sub_cancel_left]
  exact⟨⟨h1,h2⟩,by omega,h3⟩
section
variable {N:Nat}
theorem EE {bs:List cA} {n m:Nat} {tch:List (List Int)} {r:Nat->Nat} (hC:Ji n m tch r) (hm:tch.length=m) (ht: ∀l∈tch,l.length<=1073741824/\∀x∈l,∃i:Nat,i<n/\x= ((i:Nat):Int)) (hn:n<=1000000) (hm2:m<=1000000)
  (hpl: ∀(k:Nat) l,tch[k]? =some l->l≠[]->th bs k=true) {h:Nat} (hh:h<n) (hr:r h=h) {seen:List Bool} (hsl:seen.length=n) (hsn: ∀p,p<n->seen[p]? =some (decide (r p<h))) (hN:4398046511104<=N):
  Ok (gz N tch ((h:Nat):Int) seen) (fun x=>x.1.1=ints (gP n (cls (n+m) r h))/\x.1.2.1=ints (gB bs n (cls (n+m) r h))/\x.1.2.2= []/\x.2.length=n/\∀p,p<n->x.2[p]? =some (decide (r p<h+1))):=by
 unfold gz
 refine Ok.ix (hsn h hh) (Ok.eq (rR false (by omega)) ?_)
 refine Ok.bind (Ok.jK (Go:=fun st=>st.2.1=ints (gP n (cls (n+m) r h))/\st.2.2.1=ints (gB bs n (cls (n+m) r h))/\st.1.length=n/\∀p,p<n->st.1[p]? =some (decide (r p<h+1))) (Rt:=fun _=>False)
  (fun st=>∃(q qb:List Nat) (t:Nat),st.2.2.2.2.2= ((t:Nat):Int)/\t<=q.length/\PS n r h q st.1 st.2.1 st.2.2.2.2.1/\QS n m tch r h q qb st.2.2.1 st.2.2.2.1/\∀(j p k:Nat) l,j<t->q[j]? =some p->tch[k]? =some l->((p:Nat):Int)∈l->k∈qb)
  (fun st=>n+1 - st.2.2.2.2.2.toNat) ?_ ⟨[h],[],0,rfl,by simp,?_,?_,fun j p k l hj=>by omega⟩ (by simp;omega)) ?_
 ·rintro⟨sn,pi,bo,us,td,t'⟩ ⟨q,qb,t,e,htq,hP,hQ,hcl⟩
  dsimp only at e hP hQ ⊢
  subst e
  have htl:td.length=q.length:=by rw [hP.td,kq]
  have hqf:=hP.xm
  by_cases hlt:t<q.length
  ·rw [kC (by omega:t<td.length),aQ]
   have hqt:q[t]? =some q[t]:=aO hlt
   have hqi:=hP.qi _ (cN hlt)
   refine Ok.bind (Ok.pR (n:=tch.length) (fun st=>st.2.2.2.2.2) (fun i st=>∃q' qb',q <+:q'/\(∀k∈qb,k∈qb')/\PS n r h q' st.1 st.2.1 st.2.2.2.2.1/\QS n m tch r h q' qb' st.2.2.1 st.2.2.2.1/\∀k l,k<i->tch[k]? =some l->((q[t]:Nat):Int)∈l->k∈qb')
    (Go:=fun st=>∃q' qb',q <+:q'/\(∀k∈qb,k∈qb')/\PS n r h q' st.1 st.2.1 st.2.2.2.2.1/\QS n m tch r h q' qb' st.2.2.1 st.2.2.2.1/\∀k l,tch[k]? =some l->((q[t]:Nat):Int)∈l->k∈qb') (Rt:=fun _=>False) ?_ ?_ (dJ _) rfl
    ⟨q,qb,List.prefix_refl _,fun k hk=>hk,hP,hQ,fun k l hk=>by omega⟩ (by omega)) ?_
   ·rintro k ⟨sn1,pi1,bo1,us1,td1,i'⟩ hk e ⟨q1,qb1,hpre,hsub,hP1,hQ1,hc1⟩
    dsimp only at e hP1 hQ1 ⊢
    subst e
    rw [kC hk,aQ]
    have hkm:k<m:=by omega
    have htk:tch[k]? =some tch[k]:=aO hk
    have htk2:=ht _ (cN hk)
    have hq1t:td1[t]? =some ((q[t]:Nat):Int):=by
     rw [hP1.td];unfold ints;rw [gq,ze hpre hqt];rfl
    have hcond: ((idx us1 ((k:Nat):Int)).bind fun x948=>bif x948 then (some true) else ((idx tch ((k:Nat):Int)).bind fun x950=>(idx td1 ((t:Nat):Int)).bind fun x953=>(cE N x950 x953).bind fun x954=>some (!x954)))=some (decide (k∈qb1)|| !decide (((q[t]:Nat):Int)∈tch[k])):=by
     rw [eM (hQ1.un k hkm),aB,eM htk,aB,eM hq1t,aB,ud (l:=tch[k]) (c:=((q[t]:Nat):Int)) (by have:=htk2.1;omega) hN,aB]
     cases decide (k∈qb1) <;> rfl
    refine Ok.eq hcond (Ok.bif (fun hb=>Ok.nx ⟨bS (by omega),q1,qb1,hpre,hsub,hP1,hQ1,fun k' l hk' hl hm'=>?_⟩) (fun hb=>?_))
    ·by_cases e:k'=k
     ·subst e
      rw [htk] at hl;injection hl with hl
      rw [hl,bU hm',na,Bool.or_false,bV] at hb
      exact hb
     ·exact hc1 k' l (by omega) hl hm'
    ·rw [Bool.or_eq_false_iff,decide_eq_false_iff_not,Bool.not_eq_false',bV] at hb
     obtain⟨hkn,hqm⟩:=hb
     have hrk:r (n+k)=h:=by rw [<-hC.co q[t] (n+k) ⟨k,_,htk,hqm,rfl⟩];exact hqi.2
     have hbf:=hQ1.xm
     refine Ok.ix (hQ1.un k hkm) (Ok.eq (Bx hQ1.bi (by omega) hN) ?_)
     refine Ok.bind (Ok.pR (n:=tch[k].length) (fun st=>st.2.2.2) (fun i st=>∃q2,q1 <+:q2/\PS n r h q2 st.1 st.2.1 st.2.2.1/\∀(j p:Nat),j<i->tch[k][j]? =some ((p:Nat):Int)->p∈q2)
      (Go:=fun st=>∃q2,q1 <+:q2/\PS n r h q2 st.1 st.2.1 st.2.2.1/\∀(p:Nat),((p:Nat):Int)∈tch[k]->p∈q2) (Rt:=fun _=>False) ?_ ?_ (dJ _) rfl ⟨q1,List.prefix_refl _,hP1,fun j p hj=>by omega⟩ (by omega)) ?_
     ·rintro j ⟨sn2,pi2,td2,jj⟩ hj e ⟨q2,hpre2,hP2,hc2⟩
      dsimp only at e hP2 ⊢
      subst e
      have hlj:tch[k][j]? =some tch[k][j]:=aO hj
      obtain⟨p,hpn,hpe⟩:=htk2.2 _ (cN hj)
      rw [hpe] at hlj
      have hpf:=hP2.xm
      have hrp:r p=h:=by rw [hC.co p (n+k) ⟨k,_,htk,eY hlj,rfl⟩];exact hrk
      refine Ok.ix htk ?_
      rw [kC hj,aQ]
      refine Ok.ix htk (Ok.ix hlj (Ok.ix (hP2.sn p hpn) ?_))
      refine Ok.bind (P:=fun st:List Bool×List Int×List Int=>∃q2,q1 <+:q2/\PS n r h q2 st.1 st.2.1 st.2.2/\∀(j' p:Nat),j'<j+1->tch[k][j']? =some ((p:Nat):Int)->p∈q2) (Ok.bif (fun hb=>?_) (fun hb=>Ok.ret ⟨q2,hpre2,hP2,fun j' p' hj' hp'=>?_⟩)) (fun st hst=>Ok.nx ⟨bS (by omega),hst⟩)
      ·have hpq:p∉q2:=by
        rw [Bool.not_eq_true',decide_eq_false_iff_not] at hb
        exact fun h=>hb (.inr h)
       refine Ok.ix (hP2.sn p hpn) (Ok.eq (Bx hP2.pi (by omega) hN) (Ok.app (by rw [hP2.td,kq];simp only [dI,List.length_nil];omega) (Ok.ret ⟨q2++[p],hpre2.trans (List.prefix_append _ _),⟨?_,?_,?_,?_,?_,?_,?_,?_⟩,?_⟩)))
       ·rw [jd];exact hP2.sl
       ·intro p' hp'
        rw [cK,fD]
        by_cases e:p=p'
        ·subst e
         rw [aC rfl,aC (by rw [hP2.sl];exact hpn)]
         congr 1
         exact(bU (.inr (by simp))).symm
        ·rw [aF e,hP2.sn p' hp']
         congr 1
         rw [decide_eq_decide,dA]
         simp only [rM]
         constructor
         ·exact fun h=>h.elim .inl (fun h=> .inr (.inl h))
         ·exact fun h=>h.elim .inl (fun h=>h.elim .inr (fun h=>absurd h.symm e))
       ·rw [List.nodup_append]
        exact⟨hP2.qn,by simp,fun a ha b hb=>by simp at hb;subst hb;exact fun e=>hpq (e▸ha)⟩
       ·intro p' hp'
        rcases dA.1 hp' with hp' | hp'
        ·exact hP2.qi p' hp'
        ·simp at hp';subst hp';exact⟨hpn,hrp⟩
       ·exact List.mem_append_left _ hP2.q0
       ·dsimp only;rw [hP2.td,pT];rfl
       ·exact ti hP2.pi
       ·intro x
        rw [Bi,hP2.pm]
        constructor
        ·rintro(⟨p',h1,h2⟩ | h1)
         ·exact⟨p',List.mem_append_left _ h1,h2⟩
         ·exact⟨p,by simp,h1⟩
        ·rintro⟨p',h1,h2⟩
         rcases dA.1 h1 with h1 | h1
         ·exact .inl ⟨p',h1,h2⟩
         ·simp at h1;subst h1;exact .inr h2
       ·intro j' p' hj' hp'
        by_cases e:j'=j
        ·subst e;rw [hlj] at hp';injection hp' with hp'
         have:p'=p:=by omega
         subst this;simp
        ·exact List.mem_append_left _ (hc2 j' p' (by omega) hp')
      ·by_cases e:j'=j
       ·subst e;rw [hlj] at hp';injection hp' with hp'
        have:p'=p:=by omega
        subst this
        rw [Bool.not_eq_false',bV] at hb
        rcases hb with hb | hb
        ·omega
        ·exact hb
       ·exact hc2 j' p' (by omega) hp'
     ·rintro⟨sn2,pi2,td2,jj⟩ e ⟨q2,hpre2,hP2,hc2⟩
      dsimp only at e hP2 ⊢
      subst e
      refine Ok.ix htk ?_
      rw [m0,aR]
      refine Ok.br ⟨q2,hpre2,hP2,fun p hp=>?_⟩
      obtain⟨j,hj⟩:=dU hp
      exact hc2 j p (bD.1 hj).1 hj
     intro o ho
     refine Ok.cs ho ?_ (fun r hr=>hr.elim)
     rintro⟨sn2,pi2,td2,jj⟩ ⟨q2,hpre2,hP2,hc2⟩
     dsimp only at hP2 ⊢
     refine Ok.nx ⟨bS (by omega),q2,qb1++[k],hpre.trans hpre2,fun k' hk'=>List.mem_append_left _ (hsub k' hk'),hP2,⟨?_,?_,?_,?_,?_⟩,fun k' l hk' hl hm'=>?_⟩
     ·rw [jd];exact hQ1.ul
     ·intro k' hk'
      rw [cK,fD]
      by_cases e:k=k'
      ·subst e
       rw [aC rfl,aC (by rw [hQ1.ul];exact hkm)]
       congr 1
       exact(bU (by simp)).symm
      ·rw [aF e,hQ1.un k' hk']
       congr 1
       rw [decide_eq_decide,dA]
       simp only [rM]
       exact⟨.inl,fun h=>h.elim id (fun h=>absurd h.symm e)⟩
     ·exact ti hQ1.bi
     ·intro x
      rw [Bi,hQ1.bm]
      constructor
      ·rintro(⟨p',h1,h2⟩ | h1)
       ·exact⟨p',List.mem_append_left _ h1,h2⟩
       ·exact⟨k,by simp,h1⟩
      ·rintro⟨p',h1,h2⟩
       rcases dA.1 h1 with h1 | h1
       ·exact .inl ⟨p',h1,h2⟩
       ·simp at h1;subst h1;exact .inr h2
     ·intro k' hk'
      rcases dA.1 hk' with hk' | hk'
      ·obtain⟨h1,h2,h3⟩:=hQ1.bk k' hk'
       exact⟨h1,h2,fun l hl p hp=>hpre2.subset (h3 l hl p hp)⟩
      ·simp at hk';subst hk'
       refine⟨hkm,hrk,fun l hl p hp=>?_⟩
       rw [htk] at hl;injection hl with hl
       exact hc2 p (by rw [hl];exact hp)
     ·by_cases e:k'=k
      ·subst e;simp
      ·exact List.mem_append_left _ (hc1 k' l (by omega) hl hm')
   ·rintro⟨sn1,pi1,bo1,us1,td1,i'⟩ e ⟨q1,qb1,hpre,hsub,hP1,hQ1,hc1⟩
    dsimp only at e hP1 hQ1 ⊢
    subst e
    rw [m0,aR]
    exact Ok.br ⟨q1,qb1,hpre,hsub,hP1,hQ1,fun k l hl=>hc1 k l (bD.1 hl).1 hl⟩
   intro o ho
   refine Ok.cs ho ?_ (fun r hr=>hr.elim)
   rintro⟨sn1,pi1,bo1,us1,td1,i'⟩ ⟨q1,qb1,hpre,hsub,hP1,hQ1,hc1⟩
   dsimp only at hP1 hQ1 ⊢
   refine Ok.nx ⟨⟨q1,qb1,t+1,bS (by omega),by have:=hpre.length_le;omega,hP1,hQ1,fun j p k l hj hjp hl hm'=>?_⟩,?_⟩
   ·by_cases e:j=t
    ·subst e
     rw [ze hpre hqt] at hjp;injection hjp with hjp;subst hjp
     exact hc1 k l hl hm'
    ·have hjq:q[j]? =some (q[j]'(by omega)):=aO _
     rw [ze hpre hjq] at hjp;injection hjp with hjp;subst hjp
     exact hsub k (hcl j _ k l (by omega) hjq hl hm')
   ·rw [bS (by omega)];simp only [cK];omega
  ·rw [yp (by omega:td.length<=t),aR]
   have htq':t=q.length:=by omega
   have hclosed: ∀i j,Lk n tch i j->(((i<n/\i∈q)\/∃k,k∈qb/\i=n+k)↔((j<n/\j∈q)\/∃k,k∈qb/\j=n+k)):=by
    rintro i j ⟨k,l,hl,hil,rfl⟩
    obtain⟨i',hi',ei⟩:=(ht l (eY hl)).2 _ hil
    have:i'=i:=by omega
    subst this
    constructor
    ·rintro(⟨_,h1⟩ | ⟨k',_,h1⟩)
     ·obtain⟨p,hp⟩:=dU h1
      exact .inr ⟨k,hcl p i' k l (by rw [htq'];exact(bD.1 hp).1) hp hl hil,rfl⟩
     ·omega
    ·rintro(⟨h1,_⟩ | ⟨k',h1,h2⟩)
     ·omega
     ·have:k'=k:=by omega
      subst this
      exact .inl ⟨hi',(hQ.bk k' h1).2.2 l hl i' hil⟩
   have hall: ∀x,x<n+m->r x=h->(x<n/\x∈q)\/∃k,k∈qb/\x=n+k:=fun x hx hrx=>hC.fi _ hclosed h x (by omega) hx (by rw [hr,hrx]) (.inl ⟨hh,hP.q0⟩)
   refine Ok.br ⟨?_,?_,hP.sl,fun p hp=>?_⟩
   ·refine Af hP.pi (KB _ _ _ _) fun x=>?_
    rw [hP.pm,pU]
    constructor
    ·rintro⟨p,h1,h2⟩
     exact⟨p,Da.2 ⟨(hP.qi p h1).1,by have:=(hP.qi p h1).1;omega,(hP.qi p h1).2⟩,h2⟩
    ·rintro⟨p,h1,h2⟩
     obtain⟨g1,g2,g3⟩:=Da.1 h1
     rcases hall p g2 g3 with ⟨_,g4⟩ | ⟨k,_,g4⟩
     ·exact⟨p,g4,h2⟩
     ·omega
   ·refine Af hQ.bi (Iv _ _ _ _ _) fun x=>?_
    rw [hQ.bm,pU]
    constructor
    ·rintro⟨k,h1,h2⟩
     obtain⟨g1,g2,g3⟩:=hQ.bk k h1
     refine⟨k,zh.2 ⟨by omega,g2,?_⟩,h2⟩
     have hk:tch[k]? =some (tch[k]'(by omega)):=aO _
     refine hpl k _ hk fun hemp=>?_
     have kU: ∀i j,Lk n tch i j->((i=n+k)↔(j=n+k)):=by
      rintro i j ⟨k',l,hl,hil,rfl⟩
      obtain⟨i',hi',ei⟩:=(ht l (eY hl)).2 _ hil
      constructor
      ·intro;omega
      ·intro e
       have:k'=k:=by omega
       subst this
       rw [hk] at hl;injection hl with hl
       rw [<-hl,hemp] at hil;cases hil
     have:=hC.fi (fun x=>x=n+k) kU (n+k) h (by omega) (by omega) (by rw [g2,hr]) rfl
     omega
    ·rintro⟨k,h1,h2⟩
     obtain⟨g1,g2,_⟩:=zh.1 h1
     rcases hall (n+k) g1 g2 with ⟨g4,_⟩ | ⟨k',g3,g4⟩
     ·omega
     ·have:k'=k:=by omega
      subst this
      exact⟨k',g3,h2⟩
   ·rw [hP.sn p hp]
    congr 1
    rw [decide_eq_decide]
    constructor
    ·rintro(h1 | h1)
     ·omega
     ·have:=(hP.qi p h1).2;omega
    ·intro h1
     by_cases e:r p=h
     ·rcases hall p (by omega) e with ⟨_,g4⟩ | ⟨k,_,g4⟩
      ·exact .inr g4
      ·omega
     ·exact .inl (by omega)
 ·refine⟨by rw [jd];exact hsl,fun p hp=>?_,by simp,fun p hp=>by simp at hp;subst hp;exact⟨hh,hr⟩,by simp,rfl,List.pairwise_singleton _ _,fun x=>by simp⟩
  rw [cK,fD]
  by_cases e:h=p
  ·subst e
   rw [aC rfl,aC (by rw [hsl];exact hh)]
   congr 1
   exact(bU (.inr (by simp))).symm
  ·rw [aF e,hsn p hp]
   congr 1
   rw [decide_eq_decide]
   simp only [rM]
   omega
 ·exact⟨by rw [vA];exact hm,fun k hk=>by simp [hm,hk],j3,fun x=>by simp,fun k hk=>by cases hk⟩
 intro o ho
 refine Ok.cs ho ?_ (fun r hr=>hr.elim)
 rintro⟨sn,pi,bo,us,td,t'⟩ ⟨h1,h2,h3,h4⟩
 exact Ok.ret ⟨h1,h2,rfl,h3,h4⟩
end
end Go.Gk
namespace Go.Gk
open Go Classical
theorem Cq (bs:List cA) (n t:Nat) (r:Nat->Nat) (hs:List Nat) (h:Nat):kZ bs n t r (hs++[h])=if Ek bs n (cls t r h)=true then kZ bs n t r hs++[JS bs n (cls t r h)] else kZ bs n t r hs:=by
 unfold kZ
 rw [Cj]
 split
 ·rw [dL];rfl
 ·rfl
def Jp (bs:List cA) (n m:Nat) (r:Nat->Nat) (h:ka):Nat:=gi bs n (n+m) r (r (l3 n h))
structure KC (G G':List bQ):Prop where
 len:G'.length=G.length
 each: ∀(g:Nat) x,G[g]? =some x->∃y,G'[g]? =some y/\y.gN=x.gN/\y.aN=x.aN
theorem wD (G:List bQ) (lg:eQ->Option Nat) (ls:List eQ):KC G (gj G lg ls):=
 ⟨tZ _ _ _,fun g x hx=>⟨{x with eE:=(ls.filter (fun l=>decide (lg l=some g))).map lZ},by rw [i5,hx];rfl,rfl,rfl⟩⟩
section
variable {N:Nat}
theorem BB {bs:List cA} {n m:Nat} {r:Nat->Nat} (hbm:bs.length=m) (hn:n<=1000000) (hm:m<=1000000) (hle: ∀i,i<n+m->r i<=i) (hrr: ∀i,i<n+m->r (r i)=r i) {G:List bQ} (hG:KC (kZ bs n (n+m) r (bL (n+m) r)) G) {h:ka} (hh:JU bs n m h) (hN:4398046511104<=N):
  dX N G h=some ((Jp bs n m r h:Nat):Int)/\Jp bs n m r h<G.length:=by
 obtain⟨k,hk,hkb,hkp⟩:=hh.num
 have hx:l3 n h<n+m:=by
  unfold l3
  by_cases hb:h.cA=true
  ·rw [aC hb];have:=(hkb hb).1;omega
  ·rw [aF hb];have:=hkp (by simpa using hb);omega
 have hhead:r (l3 n h)∈bL (n+m) r:=jv.2 ⟨by have:=hle _ hx;omega,hrr _ hx⟩
 have hne:Ek bs n (cls (n+m) r (r (l3 n h)))=true:=by
  unfold l3 at hx ⊢
  by_cases hb:h.cA=true
  ·rw [aC hb] at hx ⊢
   rw [hk,cK] at hx ⊢
   exact Ii (hkb hb).2 hx
  ·rw [aF hb] at hx ⊢
   rw [hk,cK] at hx ⊢
   exact Ih (hkp (by simpa using hb)) hx
 obtain⟨g1,g2⟩:=JT (bs:=bs) (n:=n) hhead hne
 have hlen:G.length= (live bs n (n+m) r (bL (n+m) r)).length:=by rw [hG.len,rk]
 have hlive: (live bs n (n+m) r (bL (n+m) r)).Nodup:=List.Nodup.sublist List.filter_sublist (mW _ _)
 have hll: (live bs n (n+m) r (bL (n+m) r)).length<=n+m:=by
  have:=oY bs n (n+m) r (bL (n+m) r)
  have:=kG (n+m) r
  omega
 have hval: ∀(g:Nat) y,G[g]? =some y->Ok (bif h.cA then ((idx G ((g:Nat):Int)).bind fun x241=>(cE N x241.aN h.Number).bind fun x250=>bif x250 then (some true) else (bif (!h.cA) then ((idx G ((g:Nat):Int)).bind fun x253=>(cE N x253.gN h.Number).bind fun x262=>some x262) else (some false))) else (bif (!h.cA) then ((idx G ((g:Nat):Int)).bind fun x264=>(cE N x264.gN h.Number).bind fun x273=>some x273) else (some false)))
   (fun b=>b=true↔(live bs n (n+m) r (bL (n+m) r))[g]? =some (r (l3 n h))):=fun g y hy=>by
  have hgl:g< (live bs n (n+m) r (bL (n+m) r)).length:=by have:=(bD.1 hy).1;omega
  have hlx: (live bs n (n+m) r (bL (n+m) r))[g]? =some (live bs n (n+m) r (bL (n+m) r))[g]:=aO hgl
  have hgx: (kZ bs n (n+m) r (bL (n+m) r))[g]? =some (JS bs n (cls (n+m) r (live bs n (n+m) r (bL (n+m) r))[g])):=by unfold kZ;rw [gq,hlx];rfl
  obtain⟨y',hy',e1,e2⟩:=hG.each g _ hgx
  rw [hy] at hy';injection hy' with hy';subst hy'
  generalize hhd: (live bs n (n+m) r (bL (n+m) r))[g]=hd at *
  have hpl:y.gN.length<=n+m/\y.aN.length<=n+m:=by
   have:=C0 n (cls (n+m) r hd)
   have:=C1 bs n (cls (n+m) r hd)
   have:=yd (n+m) r hd
   rw [e1,e2];unfold JS;simp only [kq];omega
  rw [hlx]
  cases hb:h.cA with
  | true=>
   rw [aQ,eM hy,aB,ud (by omega) hN,aB]
   have hix:l3 n h=n+k:=by unfold l3;rw [aC hb,hk,cK]
   have hiff: (h.Number∈y.aN)↔hd=r (l3 n h):=by
    rw [e2,hix]
    unfold JS
    dsimp only
    rw [pU,hk]
    constructor
    ·rintro⟨i,hi,e⟩
     have:i=k:=by omega
     subst this
     exact(zh.1 hi).2.1.symm
    ·intro e
     exact⟨k,zh.2 ⟨by have:=(hkb hb).1;omega,e.symm,(hkb hb).2⟩,rfl⟩
   by_cases hin:h.Number∈y.aN
   ·rw [bU hin,aQ]
    exact Ok.ret ⟨fun _=>by rw [hiff.1 hin],fun _=>rfl⟩
   ·rw [cF hin,aR,na,aR]
    refine Ok.ret ⟨fun h=>(by cases h),fun h=>?_⟩
    injection h with h
    exact absurd (hiff.2 h) hin
  | false=>
   rw [aR,qh,aQ,eM hy,aB,ud (by omega) hN,aB]
   have hix:l3 n h=k:=by unfold l3;rw [aF (by rw [hb];exact k6),hk,cK]
   have hiff: (h.Number∈y.gN)↔hd=r (l3 n h):=by
    rw [e1,hix]
    unfold JS
    dsimp only
    rw [pU,hk]
    constructor
    ·rintro⟨i,hi,e⟩
     have:i=k:=by omega
     subst this
     exact(Da.1 hi).2.2.symm
    ·intro e
     exact⟨k,Da.2 ⟨hkp hb,by have:=hkp hb;omega,e.symm⟩,rfl⟩
   refine Ok.ret ?_
   rw [bV,hiff]
   exact⟨fun h=>by rw [h],fun h=>by injection h⟩
 refine⟨Ok.get ?_,by unfold Jp;omega⟩
 unfold dX Jp
 refine Ok.bind (Ok.pR (n:=G.length) (fun s=>s) (fun k _=>∀g,g<k->(live bs n (n+m) r (bL (n+m) r))[g]? ≠some (r (l3 n h))) (Go:=fun _=>False) (Rt:=fun s=>s= ((gi bs n (n+m) r (r (l3 n h)):Nat):Int)) ?_ ?_ (dJ _) rfl (fun g hg=>by omega) (by omega)) ?_
 ·rintro g s hg e hI
  subst e
  rw [kC hg,aQ]
  refine Ok.bind (hval g _ (aO hg)) fun b hb=>?_
  cases b with
  | true=>
   refine Ok.rt ?_
   have:=y7 hlive (hb.1 rfl) g2
   rw [this]
  | false=>
   refine Ok.nx ⟨bS (by omega),fun g' hg'=>?_⟩
   by_cases e:g'=g
   ·subst e;intro h;have:=hb.2 h;cases this
   ·exact hI g' (by omega)
 ·rintro s e hI
  exact absurd g2 (hI _ (by omega))
 intro o ho
 exact Ok.cs ho (fun _ h=>h.elim) (fun r hr=>Ok.ret hr)
theorem zO {bs:List cA} {pcs:List aK} {r:Nat->Nat} (hb:kH bs) (hp:pcs.length<=1000000) (hpr: ∀p∈pcs,p.iQ.length<=1000000/\∀x∈p.iQ,x.X0<x.X1) (hd: ∀l:eQ,∀b∈bs,∀p∈pcs,lF l b=true->kR l p=true->False)
  (hle: ∀i,i<pcs.length+bs.length->r i<=i) (hrr: ∀i,i<pcs.length+bs.length->r (r i)=r i) {G:List bQ} (hG:KC (kZ bs pcs.length (pcs.length+bs.length) r (bL (pcs.length+bs.length) r)) G) (l:eQ) (hN:4398046511104<=N):
  dP N bs (pcs.map aK.cU) (pcs.map aK.iQ) G l=some (Bf bs pcs r l)/\∀g,zB bs pcs r l=some g->g<G.length:=by
 have hbl:=hb.len
 unfold dP Bf zB
 rw [G9 hb hp hpr l hN,aB,Jo (hd l)]
 cases hh:z6 bs pcs l with
 | none=>exact⟨rfl,fun g h=>by cases h⟩
 | some h=>
  obtain⟨e1,e2⟩:=BB (N:=N) rfl hp (by omega) hle hrr hG (Ig hh) hN
  refine⟨?_,fun g hg=>?_⟩
  ·dsimp only [Option.getD_some,Option.isSome_some]
   rw [na,aR,e1,aB];rfl
  ·rw [Option.map_some] at hg;injection hg with hg
   rw [<-hg];exact e2
theorem Iw {bs:List cA} {pcs:List aK}: ∀(k:Nat) l,(j9 bs pcs)[k]? =some l->l≠[]->th bs k=true:=fun k l hl hne=>by
 unfold j9 at hl
 rw [gq,py] at hl
 obtain⟨b,hb,rfl⟩:=hl
 unfold th
 rw [hb]
 cases hp:b.fY with
 | true=>simpa using hp
 | false=>
  exfalso
  refine hne ?_
  have:oD (g9 b) pcs pcs.length= []:=by
   unfold oD
   rw [List.filter_eq_nil_iff]
   intro j _
   rw [j5,Option.any_eq_false]
   intro p _
   unfold g9;rw [hp];rfl
  rw [this];rfl
theorem Ha {bs:List cA} {ls:List eQ} {pcs:List aK} {r:Nat->Nat} (hb:kH bs) (hp:pcs.length<=2000) (hl:ls.length<=1000000) (hpr: ∀p∈pcs,p.iQ.length<=1000000/\∀x∈p.iQ,x.X0<x.X1) (hd: ∀l:eQ,∀b∈bs,∀p∈pcs,lF l b=true->kR l p=true->False)
  (hC:Ji pcs.length bs.length (j9 bs pcs) r) (hN:4398046511104<=N):
  eT N bs ls (pcs.map aK.cU) (pcs.map aK.iQ) (j9 bs pcs)=some (gj (kZ bs pcs.length (pcs.length+bs.length) r (bL (pcs.length+bs.length) r)) (zB bs pcs r) ls):=by
 refine Ok.get ?_
 have hbl:=hb.len
 have htl: (j9 bs pcs).length=bs.length:=by unfold j9;rw [cV]
 have hto:=Em (bs:=bs) (pcs:=pcs) (by omega)
 have hgl: ∀hs:List Nat,(kZ bs pcs.length (pcs.length+bs.length) r hs).length<=hs.length:=fun hs=>by rw [rk];exact oY _ _ _ _ _
 unfold eT
 rw [cV]
 refine Ok.eq (rR false (by omega)) ?_
 refine Ok.bind (Ok.pR (n:=pcs.length) (fun st=>st.2.2) (fun i st=>st.1=kZ bs pcs.length (pcs.length+bs.length) r (bL i r)/\st.2.1.length=pcs.length/\∀p,p<pcs.length->st.2.1[p]? =some (decide (r p<i)))
  (Go:=fun st=>st.1=kZ bs pcs.length (pcs.length+bs.length) r (bL pcs.length r)) (Rt:=fun _=>False) ?_ ?_ (dJ _) rfl ⟨by simp [bL,kZ,live],by simp,fun p hp=>by simp [hp]⟩ (by omega)) ?_
 ·rintro i ⟨G,sn,ii⟩ hi e ⟨hG,hsl,hsn⟩
  dsimp only at e hG hsl hsn ⊢
  subst e;subst hG
  rw [kC hi,aQ]
  refine Ok.ix (hsn i hi) ?_
  refine Ok.bind (P:=fun st:List bQ×List Bool=>st.1=kZ bs pcs.length (pcs.length+bs.length) r (bL (i+1) r)/\st.2.length=pcs.length/\∀p,p<pcs.length->st.2[p]? =some (decide (r p<i+1))) (Ok.bif (fun hb=>?_) (fun hb=>Ok.ret ⟨?_,hsl,fun p hp=>?_⟩)) (fun st hst=>Ok.nx ⟨bS (by omega),hst⟩)
  ·rw [Bool.not_eq_true',decide_eq_false_iff_not] at hb
   have hri:r i=i:=by have:=hC.le i (by omega);omega
   refine Ok.bind (EE (bs:=bs) hC htl hto (by omega) (by omega) Iw hi hri hsl hsn hN) fun x hx=>?_
   obtain⟨x1,x2,x3,x4,x5⟩:=hx
   have h1:=hgl (bL i r)
   have h2:=kG i r
   refine Ok.app (by simp only [dI,List.length_nil];omega) (Ok.ret ⟨?_,x4,x5⟩)
   dsimp only
   have hne:Ek bs pcs.length (cls (pcs.length+bs.length) r i)=true:=by
    have:=Ih (bs:=bs) (r:=r) hi (show i<pcs.length+bs.length by omega)
    rwa [hri] at this
   rw [gC,aC hri,Cq,aC hne,x1,x2,x3];rfl
  ·rw [Bool.not_eq_false',bV] at hb
   dsimp only
   rw [gC,aF (by omega)]
  ·rw [Bool.not_eq_false',bV] at hb
   rw [hsn p hp]
   congr 1
   rw [decide_eq_decide]
   have hne:r p≠i:=fun e=>by have:=hC.rr p (by omega);rw [e] at this;omega
   omega
 ·rintro⟨G,sn,ii⟩ e ⟨hG,_,_⟩
  dsimp only at e hG ⊢
  subst e
  rw [m0,aR]
  exact Ok.br hG
 intro o ho
 refine Ok.cs ho ?_ (fun r hr=>hr.elim)
 rintro⟨G,sn,ii⟩ hG
 dsimp only at hG ⊢
 subst hG
 rw [htl]
 have halone: ∀k,k<bs.length->(j9 bs pcs)[k]? =some []->∀x,x<pcs.length+bs.length->(r x=r (pcs.length+k)↔x=pcs.length+k):=fun k hk hemp x hx=>by
  constructor
  ·intro e
   refine hC.fi (fun y=>y=pcs.length+k) ?_ (pcs.length+k) x (by omega) hx e.symm rfl
   rintro i j ⟨k',l,hl,hil,rfl⟩
   obtain⟨i',hi',ei⟩:=(hto l (eY hl)).2 _ hil
   constructor
   ·intro;omega
   ·intro e
    have:k'=k:=by omega
    subst this
    rw [hemp] at hl;injection hl with hl
    rw [<-hl] at hil;cases hil
  ·intro e;rw [e]
 refine Ok.bind (Ok.pR (n:=bs.length) (fun st=>st.2) (fun i st=>st.1=kZ bs pcs.length (pcs.length+bs.length) r (bL (pcs.length+i) r))
  (Go:=fun st=>st.1=kZ bs pcs.length (pcs.length+bs.length) r (bL (pcs.length+bs.length) r)) (Rt:=fun _=>False) ?_ ?_ (dJ _) rfl rfl (by omega)) ?_
 ·rintro i ⟨G,ii⟩ hi e hG
  dsimp only at e hG ⊢
  subst e;subst hG
  rw [kC hi,aQ]
  have hx:bs[i]? =some bs[i]:=aO hi
  have htx: (j9 bs pcs)[i]? =some ((j9 bs pcs)[i]'(by omega)):=aO _
  have hpi:th bs i=bs[i].fY:=by unfold th;rw [hx];rfl
  have hlen:=hgl (bL (pcs.length+i) r)
  have hhl:=kG (pcs.length+i) r
  have hcond: ((idx bs ((i:Nat):Int)).bind fun x210=>bif x210.fY then ((idx (j9 bs pcs) ((i:Nat):Int)).bind fun x214=>some ((x214.length:Int)==0)) else (some false))=some (th bs i&&decide ((j9 bs pcs)[i]'(by omega)= [])):=by
   rw [eM hx,aB,eM htx,aB,hpi]
   cases bs[i].fY with
   | false=>rfl
   | true=>
    rw [aQ,Bool.true_and]
    congr 1
    rw [eX,bV,beq_iff_eq]
    constructor
    ·intro h;exact List.eq_nil_of_length_eq_zero (by omega)
    ·intro h;rw [h];rfl
  refine Ok.eq hcond ?_
  have hstep:kZ bs pcs.length (pcs.length+bs.length) r (bL (pcs.length+ (i+1)) r)=if (th bs i&&decide ((j9 bs pcs)[i]'(by omega)= []))=true then kZ bs pcs.length (pcs.length+bs.length) r (bL (pcs.length+i) r)++[⟨[],[((i:Nat):Int)],[]⟩] else kZ bs pcs.length (pcs.length+bs.length) r (bL (pcs.length+i) r):=by
   rw [<-Nat.add_assoc,gC]
   by_cases hemp: (j9 bs pcs)[i]'(by omega)= []
   ·rw [hemp] at htx
    have kU:=halone i hi htx
    have hri:r (pcs.length+i)=pcs.length+i:=by
     have h1:=hC.le (pcs.length+i) (by omega)
     exact(kU _ (by omega)).1 (hC.rr _ (by omega))
    rw [aC hri,Cq]
    have hcl: ∀x,x∈cls (pcs.length+bs.length) r (pcs.length+i)↔x=pcs.length+i:=fun x=>by
     rw [pB]
     constructor
     ·rintro⟨h1,h2⟩;exact(kU x h1).1 (by rw [h2,hri])
     ·intro h;subst h;exact⟨by omega,hri⟩
    have hgp:gP pcs.length (cls (pcs.length+bs.length) r (pcs.length+i))= []:=by
     unfold gP
     rw [List.filter_eq_nil_iff]
     intro x hx
     rw [(hcl x).1 hx];simp
    by_cases hpl:th bs i=true
    ·have hne:Ek bs pcs.length (cls (pcs.length+bs.length) r (pcs.length+i))=true:=by
      have:=Ii (bs:=bs) (n:=pcs.length) (r:=r) hpl (show pcs.length+i<pcs.length+bs.length by omega)
      rwa [hri] at this
     rw [aC hne,aC (by rw [hpl,bU hemp];rfl)]
     congr 2
     unfold JS
     rw [hgp]
     have hgb:ints (gB bs pcs.length (cls (pcs.length+bs.length) r (pcs.length+i)))= [((i:Nat):Int)]:=by
      refine Af (Iv _ _ _ _ _) (List.pairwise_singleton _ _) fun x=>?_
      rw [pU]
      simp only [rM]
      constructor
      ·rintro⟨k,h1,h2⟩
       obtain⟨g1,g2,_⟩:=zh.1 h1
       have:=(kU _ g1).1 (by rw [g2,hri])
       omega
      ·intro h
       exact⟨i,zh.2 ⟨by omega,hri,hpl⟩,h⟩
     rw [hgb];rfl
    ·have hne: ¬Ek bs pcs.length (cls (pcs.length+bs.length) r (pcs.length+i))=true:=by
      unfold Ek
      have hgb:gB bs pcs.length (cls (pcs.length+bs.length) r (pcs.length+i))= []:=by
       unfold gB
       rw [List.map_eq_nil_iff,List.filter_eq_nil_iff]
       intro x hx
       rw [(hcl x).1 hx,Nat.add_sub_cancel_left]
       simp [hpl]
      rw [hgp,hgb];simp
     rw [aF hne,aF (by rw [j5] at hpl ⊢;rw [hpl];rfl)]
   ·have hri: ¬r (pcs.length+i)=pcs.length+i:=fun e=>by
     obtain⟨x,hxm⟩:=List.exists_mem_of_ne_nil _ hemp
     obtain⟨p,hp1,hp2⟩:=(hto _ (cN (show i< (j9 bs pcs).length by omega))).2 x hxm
     have h1:=hC.co p (pcs.length+i) ⟨i,_,htx,by rw [<-hp2];exact hxm,rfl⟩
     have h2:=hC.le p (by omega)
     omega
    rw [aF hri,aF (by rw [cF hemp,Bool.and_false];exact k6)]
  refine Ok.bind (P:=fun st:List bQ=>st=kZ bs pcs.length (pcs.length+bs.length) r (bL (pcs.length+ (i+1)) r)) (Ok.bif (fun hb=>?_) (fun hb=>Ok.ret ?_)) (fun st hst=>Ok.nx ⟨bS (by omega),hst⟩)
  ·refine Ok.app (by simp only [dI,List.length_nil];omega) (Ok.ret ?_)
   rw [hstep,aC hb]
  ·rw [hstep,aF (by rw [j5];exact hb)]
 ·rintro⟨G,ii⟩ e hG
  dsimp only at e hG ⊢
  subst e
  rw [m0,aR]
  exact Ok.br hG
 intro o ho
 refine Ok.cs ho ?_ (fun r hr=>hr.elim)
 rintro⟨G,ii⟩ hG
 dsimp only at hG ⊢
 subst hG
 have hGl:=hgl (bL (pcs.length+bs.length) r)
 have hhl:=kG (pcs.length+bs.length) r
 generalize hGG:kZ bs pcs.length (pcs.length+bs.length) r (bL (pcs.length+bs.length) r)=G at *
 refine Ok.bind (Ok.pR (n:=ls.length) (fun st=>st.2) (fun i st=>st.1=gj G (zB bs pcs r) (ls.take i)) (Go:=fun st=>st.1=gj G (zB bs pcs r) ls) (Rt:=fun _=>False) ?_ ?_ (dJ _) rfl ?_ (by omega)) ?_
 ·rintro i ⟨W,ii⟩ hi e hW
  dsimp only at e hW ⊢
  subst e;subst hW
  rw [kC hi,aQ]
  have hx:ls[i]? =some ls[i]:=aO hi
  have hts:ls.take (i+1)=ls.take i++[ls[i]]:=dS hi
  obtain⟨e1,e2⟩:=zO (N:=N) (r:=r) hb (by omega) hpr hd hC.le hC.rr (G:=gj G (zB bs pcs r) (ls.take i)) (by rw [hGG];exact wD _ _ _) ls[i] hN
  refine Ok.ix hx (Ok.eq e1 ?_)
  refine Ok.bind (P:=fun st:List bQ=>st=gj G (zB bs pcs r) (ls.take (i+1))) ?_ (fun st hst=>Ok.nx ⟨bS (by omega),hst⟩)
  unfold Bf
  cases hg:zB bs pcs r ls[i] with
  | none=>
   dsimp only
   rw [show decide ((-1:Int)>=0)=false by decide,aR]
   refine Ok.ret ?_
   rw [hts,wA hg]
  | some g=>
   have hgW:=e2 g hg
   have hWg: (gj G (zB bs pcs r) (ls.take i))[g]? =some (gj G (zB bs pcs r) (ls.take i))[g]:=aO hgW
   dsimp only
   rw [bU (by omega),aQ]
   have hpl: (gj G (zB bs pcs r) (ls.take i))[g].eE.length<=ls.length:=by
    have:=hWg
    rw [i5,py] at this
    obtain⟨y,_,hy⟩:=this
    rw [<-hy]
    dsimp only
    rw [cV]
    have:=lL (fun l=>decide (zB bs pcs r l=some g)) (ls.take i)
    rw [cG] at this;omega
   refine Ok.ix hWg (Ok.app (by simp only [dI,List.length_nil];omega) (Ok.ix hWg (Ok.ret ?_)))
   rw [cK,hts]
   exact yk hg hWg
 ·rintro⟨W,ii⟩ e hW
  dsimp only at e hW ⊢
  subst e
  rw [m0,aR]
  exact Ok.br (by rw [dZ] at hW;exact hW)
 ·apply List.ext_getElem?
  intro g
  rw [i5]
  cases hGg:G[g]? with
  | none=>rfl
  | some x=>
   have hx0:x.eE= []:=by
    rw [<-hGG] at hGg
    unfold kZ at hGg
    rw [gq,py] at hGg
    obtain⟨hd',_,rfl⟩:=hGg
    rfl
   simp only [Option.map_some,List.take_zero,List.filter_nil,List.map_nil,Option.some.injEq]
   rw [<-hx0]
 intro o ho
 exact Ok.cs ho (fun st hst=>Ok.ret hst) (fun r hr=>hr.elim)
end
section
variable {N:Nat} {a:kY} {m7:List (List aA)} {gE:List (List (List aA))} {r:Nat->Nat} {gs:List bQ} {ofP ofB tu:List Int} {uq:List ka}
theorem rn.Ck (b:rn a m7 gE r gs ofP ofB tu uq):vR a:=G7 b.yo.Ck
theorem zP (b:rn a m7 gE r gs ofP ofB tu uq) (hN:4398046511104<=N):
  gW N a=some (a.aJ,a.cI,a.aN,a.bM,(eD 0 gE).map aK.cU,(eD 0 gE).map aK.iQ,gs,j9 a.aN (eD 0 gE)):=by
 refine Ok.get ?_
 have hc16:=b.yo.xm.2
 have hfew:=b.xm.2
 have hbl:=b.yo.gb.len
 have hll:=b.Ck.xm
 unfold gW
 have hpl: ∀k,(eD 0 (gE.take k)).length<=2000:=fun k=>by
  have h1:=vS (gE.take k) 0
  have h2:=vS gE 0
  have h3: ((gE.take k).map List.length).sum<=(gE.map List.length).sum:=by
   conv=>rhs;rw [<-List.take_append_drop k gE,dL,List.sum_append]
   omega
  omega
 refine Ok.bind (Ok.pR (n:=a.aJ.length) (fun st=>st.2.2) (fun i st=>st.1= (eD 0 (gE.take i)).map aK.cU/\st.2.1= (eD 0 (gE.take i)).map aK.iQ) (Go:=fun st=>st.1= (eD 0 gE).map aK.cU/\st.2.1= (eD 0 gE).map aK.iQ) (Rt:=fun _=>False) ?_ ?_ (dJ _) rfl ⟨rfl,rfl⟩ (by omega)) ?_
 ·rintro i ⟨La,Re,ii⟩ hi e ⟨h1,h2⟩
  dsimp only at e h1 h2 ⊢
  subst e;subst h1;subst h2
  rw [kC hi,aQ]
  obtain⟨s,ps,u,hd,hp,L⟩:=zJ b hi
  have hcx:a.aJ[i]? =some a.aJ[i]:=aO hi
  have hcs:=b.yo.cs _ (cN hi)
  have hip:=(bD.1 hp).1
  have hts:eD 0 (gE.take (i+1))=eD 0 (gE.take i)++ps.map (fun p=>⟨((i:Nat):Int),p,aS p⟩):=by
   rw [dS hip,(bD.1 hp).2,tY,cG]
   simp only [iO,show min i gE.length=i by omega]
  have hl1:=hpl i
  have hl2:=hpl (i+1)
  rw [hts,cW,cV] at hl2
  refine Ok.eq (vz b.yo.gb hcx hcs.1 hcs.2 L.dr hN) (Ok.eq (L.pieces hN) ?_)
  rw [cV]
  refine Ok.bind (Ok.pR (n:=ps.length) (fun st=>st.2.2) (fun j st=>st.1= (eD 0 (gE.take i)).map aK.cU++(ps.take j).map (fun _=>((i:Nat):Int))/\st.2.1= (eD 0 (gE.take i)).map aK.iQ++(ps.take j).map aS)
   (Go:=fun st=>st.1= (eD 0 (gE.take (i+1))).map aK.cU/\st.2.1= (eD 0 (gE.take (i+1))).map aK.iQ) (Rt:=fun _=>False) ?_ ?_ (dJ _) rfl ⟨by simp,by simp⟩ (by omega)) ?_
  ·rintro j ⟨La,Re,jj⟩ hj e ⟨h1,h2⟩
   dsimp only at e h1 h2 ⊢
   subst e;subst h1;subst h2
   rw [kC hj,aQ]
   have hx: (ps.map aS)[j]? =some (aS ps[j]):=by rw [gq,aO hj];rfl
   refine Ok.app ?_ (Ok.ix hx (Ok.app ?_ (Ok.nx ⟨bS (by omega),?_,?_⟩)))
   ·rw [cW,cV,cV,cG];simp only [dI,List.length_nil];omega
   ·rw [cW,cV,cV,cG];simp only [dI,List.length_nil];omega
   ·dsimp only;rw [dS hj,dL,jZ];rfl
   ·dsimp only;rw [dS hj,dL,jZ];rfl
  ·rintro⟨La,Re,jj⟩ e ⟨h1,h2⟩
   dsimp only at e h1 h2 ⊢
   subst e;subst h1;subst h2
   rw [m0,aR]
   refine Ok.br ⟨?_,?_⟩
   ·dsimp only;rw [hts,dL,List.map_map,dZ];rfl
   ·dsimp only;rw [hts,dL,List.map_map,dZ];rfl
  intro o ho
  exact Ok.cs ho (fun st hst=>Ok.nx ⟨bS (by omega),hst⟩) (fun r hr=>hr.elim)
 ·rintro⟨La,Re,ii⟩ e ⟨h1,h2⟩
  dsimp only at e h1 h2 ⊢
  subst e
  rw [m0,aR]
  rw [lJ (by rw [b.dr.z5];exact bW _)] at h1 h2
  exact Ok.br ⟨h1,h2⟩
 intro o ho
 refine Ok.cs ho ?_ (fun r hr=>hr.elim)
 rintro⟨La,Re,ii⟩ ⟨h1,h2⟩
 dsimp only at h1 h2 ⊢
 subst h1;subst h2
 rw [cV]
 have hpf:=fun p hp=>yu b (p:=p) hp
 generalize hpcs:eD 0 gE=pcs at *
 refine Ok.bind (Ok.pR (n:=a.aN.length) (fun st=>st.2) (fun i st=>st.1=j9 (a.aN.take i) pcs) (Go:=fun st=>st.1=j9 a.aN pcs) (Rt:=fun _=>False) ?_ ?_ (dJ _) rfl rfl (by omega)) ?_
 ·rintro i ⟨T,ii⟩ hi e hT
  dsimp only at e hT ⊢
  subst e;subst hT
  rw [kC hi,aQ]
  have hx:a.aN[i]? =some a.aN[i]:=aO hi
  have hg:=b.yo.gb.ok _ (cN hi)
  have hsq:=JR hg.1 hg.2
  have hplain: ¬a.aN[i].fY=true->oD (g9 a.aN[i]) pcs pcs.length= []:=fun hp=>by
   unfold oD
   rw [List.filter_eq_nil_iff]
   intro j _
   rw [j5,Option.any_eq_false]
   intro p _
   unfold g9;rw [j5] at hp;rw [hp];rfl
  refine Ok.bind (Ok.jK (Go:=fun st=>st.1=ints (oD (g9 a.aN[i]) pcs pcs.length)) (Rt:=fun _=>False) (fun st=>∃j:Nat,st.2= ((j:Nat):Int)/\j<=pcs.length/\st.1=ints (oD (g9 a.aN[i]) pcs j)) (fun st=>pcs.length - st.2.toNat) ?_ ⟨0,rfl,dJ _,rfl⟩ (by simp;omega)) ?_
  ·rintro⟨ow,jj⟩ ⟨j,e,hj,ho⟩
   dsimp only at e ho ⊢
   subst e;subst ho
   by_cases hlt:j<pcs.length
   ·rw [kC hlt,aQ,eM hx,aB,aB]
    refine Ok.bif (fun hpl=>?_) (fun hpl=>Ok.br ?_)
    ·have hpx:pcs[j]? =some pcs[j]:=aO hlt
     have hlx: (pcs.map aK.cU)[j]? =some pcs[j].cU:=by rw [gq,hpx];rfl
     have hrx: (pcs.map aK.iQ)[j]? =some pcs[j].iQ:=by rw [gq,hpx];rfl
     obtain⟨f1,f2,_⟩:=hpf _ (cN hlt)
     have hil:=y6 (g9 a.aN[i]) pcs j
     have hcond: ((some a.aN[i]).bind fun x932=>(idx (pcs.map aK.cU) ((j:Nat):Int)).bind fun x935=>(eW N x932 x935).bind fun x936=>bif x936 then ((idx (pcs.map aK.iQ) ((j:Nat):Int)).bind fun x938=>(some a.aN[i]).bind fun x941=>(cJ N x941).bind fun x944=>(jk N x938 x944).bind fun x946=>some x946) else (some false))=some (g9 a.aN[i] pcs[j]):=by
      rw [aB,eM hlx,aB,uc,aB,eM hrx,aB,aB,mg hg.1,aB,Jn (by omega) (fun q hq=>CZ (f2 q hq).1 (f2 q hq).2.1 (f2 q hq).2.2) hsq hN,aB]
      unfold g9
      rw [hpl,Bool.true_and]
      cases jY a.aN[i] pcs[j].cU <;> rfl
     refine Ok.eq hcond ?_
     refine Ok.bind (P:=fun st:List Int=>st=ints (oD (g9 a.aN[i]) pcs (j+1))) (Ok.bif (fun hb=>?_) (fun hb=>Ok.ret ?_)) (fun st hst=>Ok.nx ⟨⟨j+1,bS (by omega),hlt,hst⟩,?_⟩)
     ·refine Ok.app (by rw [kq];simp only [dI,List.length_nil];omega) (Ok.ret ?_)
      rw [xd hpx,aC hb,pT];rfl
     ·rw [xd hpx,aF (by rw [j5];exact hb)]
     ·dsimp only;rw [bS (by omega)];simp only [cK];omega
    ·have hn:=hplain (by rw [hpl];exact k6)
     have hj0:oD (g9 a.aN[i]) pcs j= []:=by
      unfold oD
      rw [List.filter_eq_nil_iff]
      intro j' hj'
      rw [j5,Option.any_eq_false]
      intro p _
      unfold g9;rw [hpl];rfl
     dsimp only
     rw [hn,hj0]
   ·have:j=pcs.length:=by omega
    subst this
    rw [m0,aR,aB,aR]
    exact Ok.br rfl
  intro o ho
  refine Ok.cs ho ?_ (fun r hr=>hr.elim)
  rintro⟨ow,jj⟩ ho2
  dsimp only at ho2 ⊢
  subst ho2
  refine Ok.app ?_ (Ok.nx ⟨bS (by omega),?_⟩)
  ·unfold j9;rw [cV,cG];simp only [dI,List.length_nil];omega
  ·dsimp only
   unfold j9
   rw [dS hi,dL];rfl
 ·rintro⟨T,ii⟩ e hT
  dsimp only at e hT ⊢
  subst e
  rw [m0,aR]
  exact Ok.br (by rw [dZ] at hT;exact hT)
 intro o ho
 refine Ok.cs ho ?_ (fun r hr=>hr.elim)
 rintro⟨T,ii⟩ hT
 dsimp only at hT ⊢
 subst hT
 have hcon:=b.IC
 rw [hpcs] at hcon
 have hnb:=fun l=>Gh b l
 rw [hpcs] at hnb
 refine Ok.eq (Ha (r:=r) b.yo.gb (by omega) (by omega) (fun p hp=>⟨by have:=(hpf p hp).1;omega,fun x hx=>((hpf p hp).2.1 x hx).2.1⟩) hnb hcon.conn hN) (Ok.ret ?_)
 rw [<-hcon.gs]
end
end Go.Gk
namespace Go.Gk
open Go Classical
section
variable {N:Nat} {a:kY} {m7:List (List aA)} {gE:List (List (List aA))} {r:Nat->Nat} {gs:List bQ} {ofP ofB tu:List Int} {uq:List ka}
end
section
variable {N:Nat}
end
end Go.Gk
namespace Go.Gk
open Go Classical
section
variable {bs:List cA} {ls:List eQ} {pcs:List aK} {r:Nat->Nat} {gs:List bQ} {ofP ofB tu:List Int} {uq:List ka}
theorem KD (hc:y8 bs ls pcs r gs ofP ofB tu uq) {g:Nat} {x:bQ} (hg:gs[g]? =some x):
  ∃hd,(live bs pcs.length (pcs.length+bs.length) r (bL (pcs.length+bs.length) r))[g]? =some hd/\x.gN=ints (gP pcs.length (cls (pcs.length+bs.length) r hd))/\
   x.aN=ints (gB bs pcs.length (cls (pcs.length+bs.length) r hd))/\x.eE= (ls.filter (fun l=>decide (zB bs pcs r l=some g))).map lZ:=by
 rw [hc.gs,i5] at hg
 obtain⟨y,hy,rfl⟩:=py.1 hg
 unfold kZ at hy
 rw [gq] at hy
 obtain⟨hd,h1,rfl⟩:=py.1 hy
 exact⟨hd,h1,rfl,rfl,rfl⟩
theorem FD (hc:y8 bs ls pcs r gs ofP ofB tu uq):gs.length= (live bs pcs.length (pcs.length+bs.length) r (bL (pcs.length+bs.length) r)).length/\gs.length<=pcs.length+bs.length:=by
 have e:gs.length= (live bs pcs.length (pcs.length+bs.length) r (bL (pcs.length+bs.length) r)).length:=by
  rw [hc.gs,tZ,rk]
 refine⟨e,?_⟩
 rw [e]
 have:=oY bs pcs.length (pcs.length+bs.length) r (bL (pcs.length+bs.length) r)
 have:=kG (pcs.length+bs.length) r
 omega
theorem Gi (hc:y8 bs ls pcs r gs ofP ofB tu uq) {g:Nat} {x:bQ} (hg:gs[g]? =some x):x.gN.length<=pcs.length+bs.length/\x.aN.length<=pcs.length+bs.length/\x.eE.length<=ls.length:=by
 obtain⟨hd,h1,h2,h3,h4⟩:=KD hc hg
 have a1:=C0 pcs.length (cls (pcs.length+bs.length) r hd)
 have a2:=C1 bs pcs.length (cls (pcs.length+bs.length) r hd)
 have a3:=yd (pcs.length+bs.length) r hd
 rw [h2,h3,h4,kq,kq,cV]
 have:=lL (fun l=>decide (zB bs pcs r l=some g)) ls
 omega
end
section
variable {N:Nat} {a:kY} {m7:List (List aA)} {gE:List (List (List aA))} {r:Nat->Nat} {gs:List bQ} {ofP ofB tu:List Int} {uq:List ka}
end
section
variable {N:Nat}
end
end Go.Gk
namespace Go.Gk
open Go Classical
section
variable {N:Nat} {a:kY} {m7:List (List aA)} {gE:List (List (List aA))} {r:Nat->Nat} {gs:List bQ} {ofP ofB tu:List Int} {uq:List ka}
theorem Hb (bs:List cA) (ly:List Int) (rs:List (List aI)) (G:List bQ) (l:eQ):gh N bs ly rs G l=dP N bs ly rs G l:=rfl
theorem FE (b:rn a m7 gE r gs ofP ofB tu uq) (l:eQ) (hN:4398046511104<=N):
  gh N a.aN ((eD 0 gE).map aK.cU) ((eD 0 gE).map aK.iQ) gs l=some (Bf a.aN (eD 0 gE) r l):=by
 have hf:=b.xm.2
 rw [Hb]
 exact(zO (N:=N) b.yo.gb (by omega) (fun p hp=>⟨by have:=(yu b hp).1;omega,fun x hx=>((yu b hp).2.1 x hx).2.1⟩) (fun l=>Gh b l) b.IC.conn.le b.IC.conn.rr (G:=gs) (by rw [b.IC.gs];exact wD _ _ _) l hN).1
end
section
variable {N:Nat}
end
end Go.Gk
namespace Go.Gk
open Go Classical
theorem yv {α:Type} {l:List α} {φ:α->α->Option Bool} (hl:l.length<=4611686018427387904) (h: ∀x∈l,φ x x=some true):
  (bif ((l.length:Int) != (l.length:Int)) then (some false) else ((ue l.length (fun(k31:Nat) (s32:Unit)=>((idx l (k31:Int)).bind fun x44=>(idx l (k31:Int)).bind fun x48=>(φ x44 x48).bind fun x54=>bif (!x54) then (some (.rt false)) else (some (.nx ())):Option (Fl (Unit) Bool))) ()).bind fun o55=>o55.cs (fun(s32:Unit)=>some true) (fun r=>some r)))=some true:=by
 rw [bne_self_eq_false,aR]
 refine Ok.get ?_
 refine Ok.bind (Ok.ue (fun _ _=>True) (Go:=fun _=>True) (Rt:=fun _=>False) hl trivial (fun k s hk _=>?_) (fun _ _=>trivial)) (fun o ho=>Ok.cs ho (fun _ _=>Ok.ret rfl) (fun r hr=>hr.elim))
 have hx:l[k]? =some l[k]:=aO hk
 refine Ok.ix hx (Ok.ix hx (Ok.eq (h _ (cN hk)) ?_))
 rw [na,aR]
 exact Ok.nx trivial
def oE (l:List bQ):List (List dB):=(l.filter (fun x=>decide ((x.eE.length:Int)>0))).map bQ.eE
def ry (f:eQ->Int) (l:List eQ):List (List dB):=(l.filter (fun x=>decide (f x<0))).map (fun x=>[lZ x])
theorem xg (l:List bQ) (x:bQ):oE (l++[x])=if decide ((x.eE.length:Int)>0)=true then oE l++[x.eE] else oE l:=by
 unfold oE
 rw [j4,dL]
 by_cases h:decide ((x.eE.length:Int)>0)=true
 ·rw [aC h,List.filter_cons,aC h];rfl
 ·rw [aF h,List.filter_cons,aF h];exact lK _
theorem xh (f:eQ->Int) (l:List eQ) (x:eQ):ry f (l++[x])=if decide (f x<0)=true then ry f l++[[lZ x]] else ry f l:=by
 unfold ry
 rw [j4,dL]
 by_cases h:decide (f x<0)=true
 ·rw [aC h,List.filter_cons,aC h];rfl
 ·rw [aF h,List.filter_cons,aF h];exact lK _
theorem tp (l:List bQ): (oE l).length<=l.length:=by unfold oE;rw [cV];exact lL _ _
theorem zi (f:eQ->Int) (l:List eQ): (ry f l).length<=l.length:=by unfold ry;rw [cV];exact lL _ _
section
variable {N:Nat} {a:kY} {m7:List (List aA)} {gE:List (List (List aA))} {r:Nat->Nat} {gs:List bQ} {ofP ofB tu:List Int} {uq:List ka}
theorem Jq (b:rn a m7 gE r gs ofP ofB tu uq) (h1:jF N a=some (some (a.aJ,a.cI,a.aN,a.bM,m7,eD 0 gE,j9 a.aN (eD 0 gE),gs,ofP,ofB,tu,uq),0)):
  mK N a=some (oE gs++ry (Bf a.aN (eD 0 gE) r) a.bM,0):=by
 have hf:=b.xm.2
 have hbl:=b.yo.gb.len
 have hlf:=b.Ck.xm
 have hgl:=(FD b.IC).2
 have hofL:=b.IC.tu
 refine Ok.get ?_
 unfold mK
 rw [h1,aB]
 simp only [Hr,bne_self_eq_false,aR]
 refine Ok.bind (Ok.nI (fun k s=>s=oE (gs.take k)) (by omega) rfl (fun k s hk e=>?_)) (fun s e=>?_)
 ·subst e
  have gx:gs[k]? =some gs[k]:=aO hk
  have hl:=tp (gs.take k)
  rw [cG] at hl
  rw [dS hk,xg]
  refine Ok.ix gx (Ok.bind (P:=fun s=>s= (if decide ((gs[k].eE.length:Int)>0)=true then oE (gs.take k)++[gs[k].eE] else oE (gs.take k))) (Ok.bif (fun h=>?_) (fun h=>?_)) (fun s e=>Ok.ret e))
  ·rw [aC h]
   exact Ok.app (by simp only [dI,List.length_nil];omega) (Ok.ret rfl)
  ·rw [aF (by rw [h];exact k6)];exact Ok.ret rfl
 ·rw [dZ] at e
  subst e
  refine Ok.bind (Ok.nI (fun k s=>s=oE gs++ry (Bf a.aN (eD 0 gE) r) (a.bM.take k)) (by omega) (by exact(lK _).symm) (fun k s hk e=>?_)) (fun s e=>Ok.ret (by rw [e,dZ]))
  subst e
  have lx:a.bM[k]? =some a.bM[k]:=aO hk
  have ox:tu[k]? =some (Bf a.aN (eD 0 gE) r a.bM[k]):=by rw [hofL,gq,lx];rfl
  have hl1:=tp gs
  have hl:=zi (Bf a.aN (eD 0 gE) r) (a.bM.take k)
  rw [cG] at hl
  rw [dS hk,xh]
  refine Ok.ix lx (Ok.ix ox (Ok.bind (P:=fun s=>s=oE gs++(if decide (Bf a.aN (eD 0 gE) r a.bM[k]<0)=true then ry (Bf a.aN (eD 0 gE) r) (a.bM.take k)++[[lZ a.bM[k]]] else ry (Bf a.aN (eD 0 gE) r) (a.bM.take k))) (Ok.bif (fun h=>?_) (fun h=>?_)) (fun s e=>Ok.ret e)))
  ·rw [aC h,y4,aB]
   exact Ok.app (by rw [cW];simp only [dI,List.length_nil];omega) (Ok.ret (jZ _ _ _))
  ·rw [aF (by rw [h];exact k6)];exact Ok.ret rfl
theorem Ix (b:rn a m7 gE r gs ofP ofB tu uq) (h2:dO N a=some 0) (hN:4398046511104<=N):
  iu N a=some (oE gs++ry (Bf a.aN (eD 0 gE) r) a.bM,0):=by
 have hf:=b.xm.2
 have hbl:=b.yo.gb.len
 have hlf:=b.Ck.xm
 have hgl:=(FD b.IC).2
 refine Ok.get ?_
 unfold iu
 rw [h2,aB,zP b hN,aB]
 simp only [bne_self_eq_false,aR]
 refine Ok.bind (Ok.pR (n:=gs.length) (fun st=>st.2) (fun k st=>st.1=oE (gs.take k)) (Go:=fun st=>st.1=oE gs) (Rt:=fun _=>False) ?_ ?_ (dJ _) rfl rfl (by omega)) ?_
 ·rintro k ⟨s,i⟩ hk e hs
  dsimp only at e hs ⊢
  subst e;subst hs
  rw [kC hk,aQ]
  have gx:gs[k]? =some gs[k]:=aO hk
  have hl:=tp (gs.take k)
  rw [cG] at hl
  refine Ok.ix gx (Ok.bind (P:=fun s=>s=oE (gs.take (k+1))) (Ok.bif (fun h=>?_) (fun h=>?_)) (fun s e=>Ok.nx ⟨bS (by omega),e⟩))
  ·refine Ok.ix gx (Ok.app (by simp only [dI,List.length_nil];omega) (Ok.ret ?_))
   rw [dS hk,xg,aC h]
  ·refine Ok.ret ?_
   rw [dS hk,xg,aF (by rw [h];exact k6)]
 ·rintro⟨s,i⟩ e hs
  dsimp only at e hs ⊢
  subst e;subst hs
  rw [m0,aR]
  exact Ok.br (by rw [dZ])
 intro o ho
 refine Ok.cs ho ?_ (fun r hr=>hr.elim)
 rintro⟨s,i⟩ hs
 dsimp only at hs ⊢
 subst hs
 refine Ok.bind (Ok.pR (n:=a.bM.length) (fun st=>st.2.2) (fun k st=>st.1=gs/\st.2.1=oE gs++ry (Bf a.aN (eD 0 gE) r) (a.bM.take k)) (Go:=fun st=>st.2.1=oE gs++ry (Bf a.aN (eD 0 gE) r) a.bM) (Rt:=fun _=>False) ?_ ?_ (dJ _) rfl ⟨rfl,(lK _).symm⟩ (by omega)) ?_
 ·rintro k ⟨G,s,i⟩ hk e ⟨hG,hs⟩
  dsimp only at e hG hs ⊢
  subst e;subst hG;subst hs
  rw [kC hk,aQ]
  have lx:a.bM[k]? =some a.bM[k]:=aO hk
  have hl1:=tp G
  have hl:=zi (Bf a.aN (eD 0 gE) r) (a.bM.take k)
  rw [cG] at hl
  refine Ok.ix lx (Ok.eq (FE b _ hN) (Ok.bind (P:=fun s=>s=oE G++ry (Bf a.aN (eD 0 gE) r) (a.bM.take (k+1))) (Ok.bif (fun h=>?_) (fun h=>?_)) (fun s e=>Ok.nx ⟨bS (by omega),rfl,e⟩)))
  ·refine Ok.ix lx (Ok.ix lx (Ok.app (by rw [cW];simp only [dI,List.length_nil];omega) (Ok.ret ?_)))
   rw [dS hk,xh,aC h]
   exact jZ _ _ _
  ·refine Ok.ret ?_
   rw [dS hk,xh,aF (by rw [h];exact k6)]
 ·rintro⟨G,s,i⟩ e ⟨hG,hs⟩
  dsimp only at e hG hs ⊢
  subst e;subst hs
  rw [m0,aR]
  exact Ok.br (by rw [dZ])
 intro o ho
 refine Ok.cs ho ?_ (fun r hr=>hr.elim)
 rintro⟨G,s,i⟩ hs
 dsimp only at hs ⊢
 exact Ok.ret (by rw [hs])
theorem Cr {l m:List dB} (hl:l.length<=4611686018427387904):lr N l m=some (decide (l=m)):=yN hl
theorem BC {x:bQ} (h1:x.gN.length<=1073741824) (h2:x.aN.length<=1073741824) (h3:x.eE.length<=1073741824):gm N x x=some true:=by
 unfold gm
 rw [yT (by omega),aB,bU rfl,aQ,yT (by omega),aB,bU rfl,aQ,Cr (by omega),aB,bU rfl];rfl
theorem BT {x:List dB} (h:x.length<=1073741824):gH N x x=some true:=by
 unfold gH
 rw [Cr (by omega),aB,bU rfl]
end
section
variable {N:Nat}
theorem xk {a:kY} (ha:bk a<=1048576) (hN:4398046511104<=N):gU N a=some true:=by
 have hs:=Ep ha
 have key: ∃x y,ma N a=some x/\iJ N a=some x/\fP N x.1 x.1 (gm N)=some true/\
   mK N a=some y/\iu N a=some y/\ij N y.1 y.1 (gH N)=some true:=by
  rcases checked (N:=N) hs hN with ⟨e,he,h1,h2⟩ | ⟨b,h1,h2⟩
  ·have hb: (e != 0)=true:=by simpa using he
   refine⟨([],e),([],e),?_,?_,yv (by simp) (fun x hx=>by cases hx),?_,?_,yv (by simp) (fun x hx=>by cases hx)⟩
   ·unfold ma;rw [h1,aB];simp only [Hr,hb,aQ]
   ·unfold iJ;rw [h2,aB,hb,aQ]
   ·unfold mK;rw [h1,aB];simp only [Hr,hb,aQ]
   ·unfold iu;rw [h2,aB,hb,aQ]
  ·rename_i m7 gE r gs ofP ofB tu uq
   have hf:=b.xm.2
   have hbl:=b.yo.gb.len
   have hlf:=b.Ck.xm
   have hgl:=(FD b.IC).2
   refine⟨(gs,0),_,?_,?_,yv (by dsimp only;omega) (fun x hx=>?_),Jq b h1,Ix b h2 hN,yv ?_ (fun x hx=>?_)⟩
   ·unfold ma;rw [h1,aB];simp only [Hr,bne_self_eq_false,aR]
   ·unfold iJ;rw [h2,aB,zP b hN];simp only [bne_self_eq_false,aR,aB]
   ·obtain⟨g,hg⟩:=dU hx
    obtain⟨p1,p2,p3⟩:=Gi b.IC hg
    exact BC (by omega) (by omega) (by omega)
   ·dsimp only
    have:=tp gs
    have:=zi (Bf a.aN (eD 0 gE) r) a.bM
    rw [cW];omega
   ·refine BT ?_
    rcases dA.1 hx with hx | hx
    ·unfold oE at hx
     obtain⟨y,hy,rfl⟩:=dC.1 hx
     obtain⟨g,hg⟩:=dU (jy.1 hy).1
     obtain⟨p1,p2,p3⟩:=Gi b.IC hg
     omega
    ·unfold ry at hx
     obtain⟨y,hy,rfl⟩:=dC.1 hx
     simp
 obtain⟨x,y,x1,x2,x3,y1,y2,y3⟩:=key
 unfold gU
 rw [x1,aB,x2,aB,y1,aB,y2,aB,x3,aB,BEq.rfl,Bool.and_self,aQ,y3,aB,BEq.rfl,Bool.and_self,aQ,Jl (by omega)]
 rfl
end
end Go.Gk
