/-
  Helping texts: plain functions and plain laws. No statement of the seed is proved here.
-/
import Derived.Test.YtmmiladckdcjeadGreatDoorE1
import Derived.Test.YtmmiladckdcjeadGreatDoorA2
set_option linter.unusedVariables false
set_option linter.unusedSimpArgs false
set_option linter.unusedSectionVars false
namespace Go.Gk
open Go Classical
section
variable {N:Nat}
section
variable {α:Type}
def oj (P:α->Bool) (l:List α) (n:Nat):List Nat:=(List.range n).filter (fun k=>(l[k]?).any P)
theorem wR {P:α->Bool} {l:List α} {n:Nat} {x:α} (h:l[n]? =some x):oj P l (n+1)=if P x=true then oj P l n++[n] else oj P l n:=by
 unfold oj
 rw [List.range_succ,kF]
 by_cases hp:P x=true
 ·rw [aC hp];simp [h,hp]
 ·rw [aH hp];simp [h,hp]
theorem yG (P:α->Bool) (l:List α) (n:Nat): (oj P l n).length<=n:=by
 have:=nJ (fun k=>(l[k]?).any P) (List.range n)
 rw [List.length_range] at this;exact this
theorem GO {P:α->Bool} {l:List α} {n k:Nat}:k∈oj P l n↔k<n/\(l[k]?).any P=true:=by unfold oj;simp
theorem xT {β:Type} {l:List α} (P:α->Bool) (g:Nat->β):vL l.length (fun k=>(l[k]?).bind fun x=>if P x=true then some (g k) else none)= (l.findIdx? P).map g:=by
 cases h:l.findIdx? P with
 | none=>
  rw [List.findIdx?_eq_none_iff] at h
  refine n9.2 fun k hk=>?_
  rw [aN hk]
  have:=h _ (cM hk)
  simp [this]
 | some j=>
  obtain⟨hj,hp,hn⟩:=List.findIdx?_eq_some_iff_getElem.1 h
  refine o4.2 ⟨j,hj,by rw [aN hj];simp [hp],fun i hi=>?_⟩
  rw [aN (by omega)]
  have:=hn i hi
  simp [this]
end
def ints (l:List Nat):List Int:=l.map fun i=>((i:Nat):Int)
theorem pG (l m:List Nat):ints (l++m)=ints l++ints m:=dI
theorem lC (l:List Nat): (ints l).length=l.length:=cW _
theorem pH {l:List Nat} {x:Int}:x∈ints l↔∃i∈l,x= ((i:Nat):Int):=by
 unfold ints;rw [dE]
 constructor
 ·rintro⟨i,h1,h2⟩;exact⟨i,h1,h2.symm⟩
 ·rintro⟨i,h1,h2⟩;exact⟨i,h1,h2.symm⟩
def qf (p0 p1:aI):Bool:=((((decide (p0.X0<p1.X1))&&(decide (p1.X0<p0.X1)))&&((p0.Y1==p1.Y0)||(p1.Y1==p0.Y0)))||(((decide (p0.Y0<p1.Y1))&&(decide (p1.Y0<p0.Y1)))&&((p0.X1==p1.X0)||(p1.X1==p0.X0))))
def ij (b:cE) (p:aK):Bool:=b.fY&&(jV b p.cK&&p.gz.any (fun r=>qf r (uA b)))
def jW (bs:List cE) (pcs:List aK):List (List Int):=bs.map fun b=>ints (oj (ij b) pcs pcs.length)
theorem rH {l:List aI} {φ:aI->Option Bool} (p:aI->Bool) (hl:l.length<=4611686018427387904) (h: ∀x∈l,φ x=some (p x)):hU N l φ=some (l.any p):=
 sB p hl h
theorem H9 {bs:List cE} {pcs:List aK} (hb:kD bs) (hp:pcs.length<=1073741824) (hr: ∀p∈pcs,p.gz.length<=1073741824):kc N bs pcs []=some (jW bs pcs):=by
 refine Ok.get ?_
 have hbl:=hb.len
 unfold kc
 refine Ok.bind (Ok.mV (fun k st=>st=jW (bs.take k) pcs) (by omega) rfl (fun k st hk e=>?_)) (fun st e=>Ok.ret (by rw [e,dU]))
 subst e
 have hg:=hb.ok _ (cM hk)
 refine Ok.idx hk ?_
 refine Ok.bind (P:=fun t=>t=ints (oj (ij bs[k]) pcs pcs.length)) (Ok.mV (fun j t=>t=ints (oj (ij bs[k]) pcs j)) (by omega) rfl (fun j t hj e=>?_)) (fun t e=>?_)
 ·subst e
  have hjx:pcs[j]? =some pcs[j]:=aN hj
  have hl:=yG (ij bs[k]) pcs j
  refine Ok.ix hjx ?_
  refine Ok.eq (x:=ij bs[k] pcs[j]) ?_ ?_
  ·unfold ij
   cases bs[k].fY with
   | false=>rfl
   | true=>
    rw [aQ,AK,aB,Bool.true_and]
    cases jV bs[k] pcs[j].cK with
    | false=>rfl
    | true=>
     rw [aQ,rH (fun r=>qf r (uA bs[k])) (by have:=hr _ (cM hj);omega) (fun r _=>by
      unfold ko;rw [mR hg.1];rfl),aB,Bool.true_and]
  ·rw [wR hjx]
   cases ht:ij bs[k] pcs[j] with
   | false=>rw [aS,aH (by simp)];exact Ok.eq rfl (Ok.ret rfl)
   | true=>
    rw [aQ,aC rfl]
    refine Ok.eq (x:=ints (oj (ij bs[k]) pcs j)++[((j:Nat):Int)]) (by rw [kM (by rw [lC];simp;omega),aB]) (Ok.ret ?_)
    rw [pG];rfl
 ·subst e
  refine Ok.app ?_ (Ok.ret ?_)
  ·unfold jW;simp;omega
  ·unfold jW
   rw [dP hk,dI];rfl
def y7 (r:List aI) (p:eQ):Bool:=r.any (fun x=>decide (p.X>=x.X0)&&(decide (p.X<x.X1)&&(decide (p.Y>=x.Y0)&&decide (p.Y<x.Y1))))
theorem xU {r:List aI} {p:eQ} (hl:r.length<=4611686018427387904):kA N r p=some (y7 r p):=by
 unfold kA
 rw [rH (fun x=>decide (p.X>=x.X0)&&(decide (p.X<x.X1)&&(decide (p.Y>=x.Y0)&&decide (p.Y<x.Y1)))) hl (fun x _=>by
  unfold lK
  cases decide (p.X>=x.X0) <;> cases decide (p.X<x.X1) <;> cases decide (p.Y>=x.Y0) <;> rfl)];rfl
def lD (l:fP) (b:cE):Bool:=b.fY&&(jV b l.cK&&y7 [uA b] l.At)
def kR (l:fP) (p:aK):Bool:=(p.cK==l.cK)&&y7 p.gz l.At
def zx (bs:List cE) (pcs:List aK) (l:fP):Option j4:=match bs.findIdx? (lD l) with
 | some k=>some ⟨true,((k:Nat):Int)⟩
 | none=>(pcs.findIdx? (kR l)).map fun k=>⟨false,((k:Nat):Int)⟩
theorem Ia {bs:List cE} {pcs:List aK} (hb:kD bs) (hp:pcs.length<=1073741824) (hr: ∀p∈pcs,p.gz.length<=1073741824) (l:fP):
  ke N bs pcs l=some ((zx bs pcs l).getD ⟨false,0⟩,(zx bs pcs l).isSome):=by
 have hbl:=hb.len
 unfold ke
 rw [sA (fun k=>(bs[k]?).bind fun x=>if lD l x=true then some ((⟨true,((k:Nat):Int)⟩:j4),true) else none) (by omega) (fun k hk _=>by
  have hkx:bs[k]? =some bs[k]:=aN hk
  have hg:=hb.ok _ (cM hk)
  rw [eI hkx,aB,hkx,mR hg.1,aB,aB,xU (by simp)]
  unfold lD
  cases bs[k].fY with
  | false=>rfl
  | true=>
   show (((bif jV bs[k] l.cK then _ else _:Option Bool)).bind _)=_
   cases jV bs[k] l.cK with
   | false=>rfl
   | true=>
    cases y7 [uA bs[k]] l.At <;> rfl),aB,xT (lD l) (fun k=>((⟨true,((k:Nat):Int)⟩:j4),true))]
 unfold zx
 cases bs.findIdx? (lD l) with
 | some k=>rfl
 | none=>
  show ((ud pcs.length _ ()).bind _)=_
  rw [sA (fun k=>(pcs[k]?).bind fun x=>if kR l x=true then some ((⟨false,((k:Nat):Int)⟩:j4),true) else none) (by omega) (fun k hk _=>by
   have hkx:pcs[k]? =some pcs[k]:=aN hk
   rw [eI hkx,aB,hkx,aB,xU (by have:=hr _ (cM hk);omega)]
   unfold kR
   cases pcs[k].cK==l.cK with
   | false=>rfl
   | true=>cases y7 pcs[k].gz l.At <;> rfl),aB,xT (kR l) (fun k=>((⟨false,((k:Nat):Int)⟩:j4),true))]
  cases pcs.findIdx? (kR l) <;> rfl
def Lk (n:Nat) (tch:List (List Int)) (i j:Nat):Prop:=∃(k:Nat) (l:List Int),tch[k]? =some l/\((i:Nat):Int)∈l/\j=n+k
structure Jh (n m:Nat) (tch:List (List Int)) (r:Nat->Nat):Prop where
 le: ∀i,i<n+m->r i<=i
 rr: ∀i,i<n+m->r (r i)=r i
 co: ∀i j,Lk n tch i j->r i=r j
 fi: ∀S:Nat->Prop,(∀i j,Lk n tch i j->(S i↔S j))->∀i j,i<n+m->j<n+m->r i=r j->S i->S j
theorem GP {n m:Nat} {tch:List (List Int)} (hm:tch.length=m) (ht: ∀l∈tch,l.length<=1073741824/\∀x∈l,∃i:Nat,i<n/\x= ((i:Nat):Int)) (hn:n<=1073741824) (hm2:m<=1073741824) {up:List Int} (hu:UF (n+m) up (fun i=>i)) (hN:4398046511104<=N):
  Ok (mV tch.length (fun(k34:Nat) (s35: (List Int))=>((idx tch (k34:Int)).bind fun x89=>(mV x89.length (fun(k92:Nat) (s93: (List Int))=>((idx x89 (k92:Int)).bind fun x107=>(iv N s93 x107 (IntKind.wrap .i64 ((n:Int)+ (k34:Int)))).bind fun x109=>some x109:Option ((List Int)))) s35).bind fun s93=>some s93:Option ((List Int)))) up)
   (fun up'=>∃r,UF (n+m) up' r/\Jh n m tch r):=by
 have base:Ok (mV tch.length (fun(k34:Nat) (s35: (List Int))=>((idx tch (k34:Int)).bind fun x89=>(mV x89.length (fun(k92:Nat) (s93: (List Int))=>((idx x89 (k92:Int)).bind fun x107=>(iv N s93 x107 (IntKind.wrap .i64 ((n:Int)+ (k34:Int)))).bind fun x109=>some x109:Option ((List Int)))) s35).bind fun s93=>some s93:Option ((List Int)))) up)
   (fun up'=>∃r E,UF (n+m) up' r/\qR r E/\Aw (n+m) r E/\(∀p∈E,Lk n tch p.1 p.2)/\∀(k:Nat) l (i:Nat),k<tch.length->tch[k]? =some l->((i:Nat):Int)∈l->(i,n+k)∈E):=by
  refine Ok.mV (fun q up'=>∃r E,UF (n+m) up' r/\qR r E/\Aw (n+m) r E/\(∀p∈E,Lk n tch p.1 p.2)/\∀(k:Nat) l (i:Nat),k<q->tch[k]? =some l->((i:Nat):Int)∈l->(i,n+k)∈E) (by omega)
   ⟨_,_,hu,qR.id,Aw.id _,fun p hp=>(by cases hp),fun k l i hk=>by omega⟩ (fun q up' hq hI=>?_)
  obtain⟨r,E,h1,h2,h3,h4,h5⟩:=hI
  have hqx:tch[q]? =some tch[q]:=aN hq
  obtain⟨hl1,hl2⟩:=ht _ (cM hq)
  refine Ok.ix hqx ?_
  rw [wrap_add (by omega)]
  refine Ok.bind (Ok.mV (fun t up'=>∃r E,UF (n+m) up' r/\qR r E/\Aw (n+m) r E/\(∀p∈E,Lk n tch p.1 p.2)/\(∀(k:Nat) l (i:Nat),k<q->tch[k]? =some l->((i:Nat):Int)∈l->(i,n+k)∈E)/\∀i:Nat,((i:Nat):Int)∈tch[q].take t->(i,n+q)∈E) (by omega)
   ⟨r,E,h1,h2,h3,h4,h5,fun i hi=>by simp at hi⟩ (fun t up' htl hI=>?_)) (fun up' hI=>Ok.ret ?_)
  ·obtain⟨r,E,h1,h2,h3,h4,h5,h6⟩:=hI
   refine Ok.idx htl ?_
   obtain⟨i,hi,e⟩:=hl2 _ (cM htl)
   rw [e]
   obtain⟨u2,a1,a2⟩:=Je (N:=N) h1 (i:=i) (k:=n+q) (by omega) (by omega) (by omega)
   refine Ok.eq a1 (Ok.ret ⟨_,_,a2,h2.join i (n+q) (h1.rr i (by omega)),h3.join (by omega) (by omega),fun p hp=>?_,fun k l j hk hl hj=>List.mem_append_left _ (h5 k l j hk hl hj),fun j hj=>?_⟩)
   ·rcases dC.1 hp with hp | hp
    ·exact h4 p hp
    ·simp at hp;subst hp
     exact⟨q,tch[q],hqx,by rw [<-e];exact cM htl,rfl⟩
   ·rw [dP htl,dC] at hj
    rcases hj with hj | hj
    ·exact List.mem_append_left _ (h6 j hj)
    ·rw [ry,e] at hj
     have:j=i:=by omega
     subst this;simp
  ·obtain⟨r,E,h1,h2,h3,h4,h5,h6⟩:=hI
   refine⟨r,E,h1,h2,h3,h4,fun k l i hk hl hi=>?_⟩
   by_cases hkq:k<q
   ·exact h5 k l i hkq hl hi
   ·have:k=q:=by omega
    subst this
    rw [hqx] at hl;injection hl with hl;subst hl
    exact h6 i (by rw [dU];exact hi)
 obtain⟨up',e,r,E,h1,h2,h3,h4,h5⟩:=base
 have hE: ∀i j,Lk n tch i j->(i,j)∈E:=fun i j ⟨k,l,hl,hi,hj⟩=>by
  rw [hj];exact h5 k l i (bD.1 hl).1 hl hi
 exact⟨up',e,r,h1,h1.le,h1.rr,fun i j h=>h2 (i,j) (hE i j h),fun S hS i j hi hj=>h3 S (fun p hp=>hS p.1 p.2 (h4 p hp)) i j hi hj⟩
def s9 (bs:List cE) (j:Nat):Bool:=(bs[j]?).any (fun b=>b.fY)
def gP (n:Nat) (c:List Nat):List Nat:=c.filter (fun i=>decide (i<n))
def gB (bs:List cE) (n:Nat) (c:List Nat):List Nat:=(c.filter (fun i=> !decide (i<n)&&s9 bs (i - n))).map (fun i=>i - n)
def D7 (bs:List cE) (n:Nat) (c:List Nat):Bool:=decide (0< (gP n c).length+ (gB bs n c).length)
def JP (bs:List cE) (n:Nat) (c:List Nat):cN:=⟨ints (gP n c),ints (gB bs n c),[]⟩
theorem F4 (n:Nat) (c:List Nat) (i:Nat):gP n (c++[i])=if i<n then gP n c++[i] else gP n c:=by
 unfold gP;rw [kF];split <;> rename_i h <;> simp [h]
theorem F5 (bs:List cE) (n:Nat) (c:List Nat) (i:Nat):gB bs n (c++[i])=if i<n then gB bs n c else if s9 bs (i - n)=true then gB bs n c++[i - n] else gB bs n c:=by
 unfold gB;rw [kF,dI]
 split
 ·rename_i h;simp [h]
 ·rename_i h
  split <;> rename_i h2 <;> simp [h,h2]
theorem Fh (n:Nat) (c:List Nat): (gP n c).length<=c.length:=nJ _ _
theorem Fi (bs:List cE) (n:Nat) (c:List Nat): (gB bs n c).length<=c.length:=by unfold gB;rw [cW];exact nJ _ _
def live (bs:List cE) (n t:Nat) (r:Nat->Nat) (hs:List Nat):List Nat:=hs.filter (fun h=>D7 bs n (cls t r h))
def lE (bs:List cE) (n t:Nat) (r:Nat->Nat) (hs:List Nat):List cN:=(live bs n t r hs).map (fun h=>JP bs n (cls t r h))
theorem B3 (bs:List cE) (n t:Nat) (r:Nat->Nat) (hs:List Nat) (h:Nat):live bs n t r (hs++[h])=if D7 bs n (cls t r h)=true then live bs n t r hs++[h] else live bs n t r hs:=by
 unfold live;rw [kF];split <;> rename_i h2 <;> simp [h2]
theorem tc (bs:List cE) (n t:Nat) (r:Nat->Nat) (hs:List Nat): (lE bs n t r hs).length= (live bs n t r hs).length:=by unfold lE;rw [cW]
def gi (bs:List cE) (n t:Nat) (r:Nat->Nat) (h:Nat):Nat:=(live bs n t r ((bL t r).takeWhile (fun x=>decide (x≠h)))).length
theorem wc {l:List Nat} (hn:l.Nodup) {k h:Nat} (hk:l[k]? =some h):l.takeWhile (fun x=>decide (x≠h))=l.take k:=by
 induction l generalizing k with
 | nil=>simp at hk
 | cons a l ih=>
  cases k with
  | zero=>simp at hk;subst hk;simp
  | succ k=>
   have hk:l[k]? =some h:=by simpa using hk
   have hne:a≠h:=fun e=>(List.nodup_cons.1 hn).1 (by rw [e];exact eZ hk)
   rw [List.takeWhile_cons,aC (by simpa using hne),List.take_succ_cons,ih (List.nodup_cons.1 hn).2 hk]
theorem qg (bs:List cE) (n t:Nat) (r:Nat->Nat) (hs:List Nat): (live bs n t r hs).length<=hs.length:=nJ _ _
theorem JQ {bs:List cE} {n t:Nat} {r:Nat->Nat} {h:Nat} (hh:h∈bL t r) (hne:D7 bs n (cls t r h)=true):gi bs n t r h< (live bs n t r (bL t r)).length/\(live bs n t r (bL t r))[gi bs n t r h]? =some h:=by
 obtain⟨k,hk⟩:=dZ hh
 have hkl:=(bD.1 hk).1
 unfold gi
 rw [wc (mQ t r) hk]
 have e:bL t r= (bL t r).take k++h::(bL t r).drop (k+1):=by
  have h1:=(List.take_append_drop k (bL t r)).symm
  rw [tn hkl,(bD.1 hk).2] at h1;exact h1
 have e2:live bs n t r (bL t r)=live bs n t r ((bL t r).take k)++h::live bs n t r ((bL t r).drop (k+1)):=by
  conv=>lhs;rw [e]
  unfold live
  rw [kF,List.filter_cons,aC hne]
 constructor
 ·rw [e2];simp
 ·rw [e2]
  simp
end
end Go.Gk
namespace Go.Gk
open Go Classical
section
variable {N:Nat}
theorem yH {l:List Nat} (h:l.Nodup) {i j a:Nat} (hi:l[i]? =some a) (hj:l[j]? =some a):i=j:=
 (List.getElem_inj (h₀:=(bD.1 hi).1) (h₁:=(bD.1 hj).1) h).1 (by rw [(bD.1 hi).2,(bD.1 hj).2])
theorem pf {n i k:Nat} {r:Nat->Nat}:i∈cls n r k↔i<n/\r i=k:=by unfold cls;simp
theorem GQ (n:Nat) (r:Nat->Nat) (k:Nat): (cls n r k).Nodup:=List.Nodup.sublist List.filter_sublist List.nodup_range
structure L7 (bs:List cE) (n m:Nat) (r:Nat->Nat) (hs:List Nat) (ofP ofB:List Int):Prop where
 lp:ofP.length=n
 lb:ofB.length=m
 pc: ∀i,i<n->r i∈hs->ofP[i]? =some ((gi bs n (n+m) r (r i):Nat):Int)
 bo: ∀j,j<m->r (n+j)∈hs->ofB[j]? =some (if s9 bs j=true then ((gi bs n (n+m) r (r (n+j)):Nat):Int) else -1)
theorem D8 {bs:List cE} {n m:Nat} {r:Nat->Nat} (hm:bs.length=m) (hn:n<=1073741824) (hm2:m<=1073741824) {op ob:List Int} (hop:op.length=n) (hob:ob.length=m)
  {body:Nat->List cN×List Int×List Int->Option (List cN×List Int×List Int)}
  (hbody:body= (fun(k123:Nat) (s124: (List cN)×(List Int)×(List Int))=>((idx (qS (n+m) r) (k123:Int)).bind fun x455=>(mV x455.length (fun(k458:Nat) (s459: (List Int)×(List Int)×(List Int)×(List Int))=>((idx x455 (k458:Int)).bind fun x556=>(bif (decide (x556< (n:Int))) then ((idx s459.1 x556).bind fun x580=>(app 8 s459.2.2.1 ([x556]: (List Int))).bind fun x582=>some ((s459.1.set (Int.toNat x556) (s124.1.length:Int)),s459.2.1,x582,s459.2.2.2)) else ((idx bs (IntKind.wrap .i64 (x556 - (n:Int)))).bind fun x584=>(bif x584.fY then ((idx s459.2.1 (IntKind.wrap .i64 (x556 - (n:Int)))).bind fun x594=>(app 8 s459.2.2.2 ([(IntKind.wrap .i64 (x556 - (n:Int)))]: (List Int))).bind fun x596=>some ((s459.2.1.set (Int.toNat (IntKind.wrap .i64 (x556 - (n:Int)))) (s124.1.length:Int)),x596)) else ((idx s459.2.1 (IntKind.wrap .i64 (x556 - (n:Int)))).bind fun x598=>some ((s459.2.1.set (Int.toNat (IntKind.wrap .i64 (x556 - (n:Int)))) (-1)),s459.2.2.2))).bind fun s592=>some (s459.1,s592.1,s459.2.2.1,s592.2))).bind fun s577=>some (s577.1,s577.2.1,s577.2.2.1,s577.2.2.2):Option ((List Int)×(List Int)×(List Int)×(List Int)))) (s124.2.1,s124.2.2,([]: (List Int)),([]: (List Int)))).bind fun s459=>(bif (decide ((IntKind.wrap .i64 ((s459.2.2.1.length:Int)+ (s459.2.2.2.length:Int)))>0)) then ((app 72 s124.1 [(⟨s459.2.2.1,s459.2.2.2,([]: (List fG))⟩:cN)]).bind fun x610=>some x610) else (some s124.1)).bind fun s606=>some (s606,s459.1,s459.2.1):Option ((List cN)×(List Int)×(List Int))))):
  Ok (mV (qS (n+m) r).length body ([],op,ob)) (fun st=>st.1=lE bs n (n+m) r (bL (n+m) r)/\L7 bs n m r (bL (n+m) r) st.2.1 st.2.2):=by
 subst hbody
 have hsl: (qS (n+m) r).length= (bL (n+m) r).length:=by unfold qS;simp
 have hhl:=lA (n+m) r
 refine Ok.mono (Ok.mV (fun(k:Nat) (st:List cN×List Int×List Int)=>st.1=lE bs n (n+m) r ((bL (n+m) r).take k)/\L7 bs n m r ((bL (n+m) r).take k) st.2.1 st.2.2) (by omega) ⟨rfl,hop,hob,fun i hi h=>by simp at h,fun j hj h=>by simp at h⟩ (fun k st hk hI=>?_)) (fun st h=>by rw [hsl,dU] at h;exact h)
 obtain⟨gs,ofP,ofB⟩:=st
 obtain⟨e1,I⟩:=hI
 dsimp only at e1 I ⊢
 subst e1
 rw [hsl] at hk
 have hkx: (bL (n+m) r)[k]? =some (bL (n+m) r)[k]:=aN hk
 have hts: (bL (n+m) r).take (k+1)= (bL (n+m) r).take k++[(bL (n+m) r)[k]]:=dP hk
 have hgk:gi bs n (n+m) r (bL (n+m) r)[k]= (lE bs n (n+m) r ((bL (n+m) r).take k)).length:=by
  unfold gi;rw [wc (mQ _ _) hkx,tc]
 generalize hh: (bL (n+m) r)[k]=h at *
 have hsx: (qS (n+m) r)[k]? =some (ints (cls (n+m) r h)):=by unfold qS;rw [gv,hkx];rfl
 refine Ok.ix hsx ?_
 have hcl:=zK (n+m) r h
 rw [lC]
 have hgl: (lE bs n (n+m) r ((bL (n+m) r).take k)).length<=n+m:=by
  rw [tc]
  have:=qg bs n (n+m) r ((bL (n+m) r).take k)
  rw [cP] at this;omega
 have hold: ∀i∈cls (n+m) r h,∀i',r i'∈(bL (n+m) r).take k->i≠i':=fun i hi i' hi' e=>by
  subst e
  rw [(pf.1 hi).2] at hi'
  obtain⟨j,hj⟩:=dZ hi'
  have hjk:j<k:=by have:=(bD.1 hj).1;rw [cP] at this;omega
  rw [List.getElem?_take_of_lt hjk] at hj
  have:=yH (mQ (n+m) r) hj hkx
  omega
 refine Ok.bind (P:=fun s'=>L7 bs n m r ((bL (n+m) r).take (k+1)) s'.1 s'.2.1/\s'.2.2.1=ints (gP n (cls (n+m) r h))/\s'.2.2.2=ints (gB bs n (cls (n+m) r h))) (Ok.mono (Ok.mV
  (fun(t:Nat) (s':List Int×List Int×List Int×List Int)=>L7 bs n m r ((bL (n+m) r).take k) s'.1 s'.2.1/\s'.2.2.1=ints (gP n ((cls (n+m) r h).take t))/\s'.2.2.2=ints (gB bs n ((cls (n+m) r h).take t))/\
   (∀i∈(cls (n+m) r h).take t,i<n->s'.1[i]? =some ((gi bs n (n+m) r h:Nat):Int))/\∀i∈(cls (n+m) r h).take t,¬i<n->s'.2.1[i - n]? =some (if s9 bs (i - n)=true then ((gi bs n (n+m) r h:Nat):Int) else -1)) (by omega)
   ⟨I,rfl,rfl,fun i hi=>by simp at hi,fun i hi=>by simp at hi⟩ (fun t s' ht hI'=>?_)) ?_) ?_
 ·obtain⟨oP,oB,pp,bb⟩:=s'
  obtain⟨J,e2,e3,J1,J2⟩:=hI'
  dsimp only at J e2 e3 J1 J2 ⊢
  subst e2;subst e3
  have htx: (ints (cls (n+m) r h))[t]? =some (((cls (n+m) r h)[t]:Nat):Int):=by unfold ints;rw [gv,aN ht];rfl
  refine Ok.ix htx ?_
  have htt: (cls (n+m) r h).take (t+1)= (cls (n+m) r h).take t++[(cls (n+m) r h)[t]]:=dP ht
  have hcm:=cM ht
  have hdist: ∀i∈(cls (n+m) r h).take t,i≠(cls (n+m) r h)[t]:=fun i hi e=>by
   obtain⟨j,hj⟩:=dZ hi
   have hjt:j<t:=by have:=(bD.1 hj).1;rw [cP] at this;omega
   rw [List.getElem?_take_of_lt hjt] at hj
   have:=yH (GQ (n+m) r h) hj (by rw [e];exact aN ht)
   omega
  generalize (cls (n+m) r h)[t]=c at *
  obtain⟨hc1,hc2⟩:=pf.1 hcm
  have hgp:=Fh n ((cls (n+m) r h).take t)
  have hgb:=Fi bs n ((cls (n+m) r h).take t)
  rw [cP] at hgp hgb
  by_cases hcn:c<n
  ·rw [bU (by omega: ((c:Nat):Int)< ((n:Nat):Int)),aQ]
   refine Ok.bind (P:=fun x=>x= (oP.set c ((gi bs n (n+m) r h:Nat):Int),oB,ints (gP n ((cls (n+m) r h).take t))++[((c:Nat):Int)],ints (gB bs n ((cls (n+m) r h).take t)))) ?_ ?_
   ·refine Ok.idx (by rw [J.lp];exact hcn) (Ok.app (by rw [lC];simp;omega) (Ok.ret ?_))
    rw [cL,hgk]
   ·rintro _ rfl
    refine Ok.ret ⟨⟨by simp [J.lp],J.lb,fun i hi hr=>?_,J.bo⟩,?_,?_,fun i hi hin=>?_,fun i hi hin=>?_⟩
    ·dsimp only
     rw [nM (by rw [J.lp];exact hcn),aH (fun e=>hold c hcm i hr e.symm)];exact J.pc i hi hr
    ·dsimp only;rw [htt,F4,aC hcn,pG];rfl
    ·dsimp only;rw [htt,F5,aC hcn]
    ·dsimp only
     rw [nM (by rw [J.lp];exact hcn)]
     split
     ·rfl
     ·rename_i hne
      rw [htt] at hi
      rcases dC.1 hi with hi | hi
      ·exact J1 i hi hin
      ·exact absurd (by simpa using hi) hne
    ·rw [htt] at hi
     rcases dC.1 hi with hi | hi
     ·exact J2 i hi hin
     ·have:i=c:=by simpa using hi
      subst this;exact absurd hcn hin
  ·rw [cF (by omega: ¬((c:Nat):Int)< ((n:Nat):Int)),aS]
   have hw:IntKind.wrap .i64 (((c:Nat):Int) - ((n:Nat):Int))= ((c - n:Nat):Int):=by rw [fD (by omega) (by omega)];omega
   have hcm2:c - n<bs.length:=by omega
   have hpl:s9 bs (c - n)=bs[c - n].fY:=by unfold s9;rw [aN hcm2];rfl
   rw [hw]
   refine Ok.bind (P:=fun x=>x= (oP,oB.set (c - n) (if s9 bs (c - n)=true then ((gi bs n (n+m) r h:Nat):Int) else -1),ints (gP n ((cls (n+m) r h).take t)),ints (gB bs n ((cls (n+m) r h).take t++[c])))) ?_ ?_
   ·refine Ok.idx hcm2 ?_
    rw [F5,aH hcn,hpl]
    cases hp:bs[c - n].fY with
    | true=>
     rw [aQ,aC rfl,aC rfl]
     refine Ok.eq (x:=(oB.set (c - n) ((gi bs n (n+m) r h:Nat):Int),ints (gB bs n ((cls (n+m) r h).take t)++[c - n]))) ?_ (Ok.ret rfl)
     rw [k6 _ _ (by rw [J.lb];omega),aB,kM (by rw [lC];simp;omega),aB,cL,hgk,pG];rfl
    | false=>
     rw [aS,aH (by simp),aH (by simp)]
     refine Ok.eq (x:=(oB.set (c - n) (-1),ints (gB bs n ((cls (n+m) r h).take t)))) ?_ (Ok.ret rfl)
     rw [k6 _ _ (by rw [J.lb];omega),aB,cL]
   ·rintro _ rfl
    refine Ok.ret ⟨⟨J.lp,by simp [J.lb],J.pc,fun j hj hr=>?_⟩,?_,?_,fun i hi hin=>?_,fun i hi hin=>?_⟩
    ·dsimp only
     rw [nM (by rw [J.lb];omega),aH (fun e=>hold c hcm (n+j) hr (by omega))];exact J.bo j hj hr
    ·dsimp only;rw [htt,F4,aH hcn]
    ·dsimp only;rw [htt]
    ·rw [htt] at hi
     rcases dC.1 hi with hi | hi
     ·exact J1 i hi hin
     ·have:i=c:=by simpa using hi
      subst this;exact absurd hin hcn
    ·dsimp only
     rw [nM (by rw [J.lb];omega)]
     split
     ·rename_i e;rw [e]
     ·rename_i hne
      rw [htt] at hi
      rcases dC.1 hi with hi | hi
      ·exact J2 i hi hin
      ·exact absurd (by have:i=c:=(by simpa using hi);rw [this]) hne
 ·rintro⟨oP,oB,pp,bb⟩ ⟨J,e2,e3,J1,J2⟩
  dsimp only at J e2 e3 J1 J2 ⊢
  rw [dU] at e2 e3 J1 J2
  refine⟨⟨J.lp,J.lb,fun i hi hr=>?_,fun j hj hr=>?_⟩,e2,e3⟩
  ·rw [hts] at hr
   rcases dC.1 hr with hr | hr
   ·exact J.pc i hi hr
   ·have hr:r i=h:=by simpa using hr
    rw [hr];exact J1 i (pf.2 ⟨by omega,hr⟩) hi
  ·rw [hts] at hr
   rcases dC.1 hr with hr | hr
   ·exact J.bo j hj hr
   ·have hr:r (n+j)=h:=by simpa using hr
    rw [hr]
    have:=J2 (n+j) (pf.2 ⟨by omega,hr⟩) (by omega)
    rwa [Nat.add_sub_cancel_left] at this
 ·rintro⟨oP,oB,pp,bb⟩ ⟨J,e2,e3⟩
  dsimp only at J e2 e3 ⊢
  subst e2;subst e3
  have hgp:=Fh n (cls (n+m) r h)
  have hgb:=Fi bs n (cls (n+m) r h)
  rw [lC,lC,wrap_add (by omega)]
  have hgs:lE bs n (n+m) r ((bL (n+m) r).take (k+1))=if D7 bs n (cls (n+m) r h)=true then lE bs n (n+m) r ((bL (n+m) r).take k)++[JP bs n (cls (n+m) r h)] else lE bs n (n+m) r ((bL (n+m) r).take k):=by
   unfold lE
   rw [hts,B3]
   split
   ·rw [dI];rfl
   ·rfl
  refine Ok.bind (P:=fun x=>x=lE bs n (n+m) r ((bL (n+m) r).take (k+1))) (Ok.bif (fun hb=>?_) (fun hb=>Ok.ret ?_)) (fun x e=>Ok.ret ⟨e,J⟩)
  ·have hne:D7 bs n (cls (n+m) r h)=true:=bU (by have:=of_decide_eq_true hb;omega)
   refine Ok.app (by simp;omega) (Ok.ret ?_)
   rw [hgs,aC hne];rfl
  ·have hne: ¬D7 bs n (cls (n+m) r h)=true:=fun h'=>by
    have h1:=of_decide_eq_true h'
    have h2:=of_decide_eq_false hb
    omega
   rw [hgs,aH hne]
end
end Go.Gk
namespace Go.Gk
open Go Classical
section
variable {N:Nat}
def lX (n:Nat) (h:j4):Nat:=if h.cE=true then n+h.Number.toNat else h.Number.toNat
structure JR (bs:List cE) (n m:Nat) (h:j4):Prop where
 num: ∃k:Nat,h.Number= ((k:Nat):Int)/\(h.cE=true->k<m/\s9 bs k=true)/\(h.cE=false->k<n)
theorem Ib {bs:List cE} {pcs:List aK} {l:fP} {h:j4} (hh:zx bs pcs l=some h):JR bs pcs.length bs.length h:=by
 unfold zx at hh
 cases hf:bs.findIdx? (lD l) with
 | some k=>
  rw [hf] at hh
  injection hh with hh;subst hh
  obtain⟨hk,hp,_⟩:=List.findIdx?_eq_some_iff_getElem.1 hf
  refine⟨k,rfl,fun _=>⟨hk,?_⟩,fun h=>by cases h⟩
  unfold lD at hp
  unfold s9
  rw [aN hk]
  rw [bW] at hp
  exact hp.1
 | none=>
  rw [hf] at hh
  dsimp only at hh
  rw [rq] at hh
  obtain⟨k,hk,rfl⟩:=hh
  obtain⟨hk,_⟩:=List.findIdx?_eq_some_iff_getElem.1 hk
  exact⟨k,rfl,fun h=>(by cases h),fun _=>hk⟩
def zL (bs:List cE) (pcs:List aK) (r:Nat->Nat) (l:fP):Option Nat:=(zx bs pcs l).map fun h=>gi bs pcs.length (pcs.length+bs.length) r (r (lX pcs.length h))
def Ji (bs:List cE) (pcs:List aK) (r:Nat->Nat) (l:fP):Int:=match zL bs pcs r l with | some g=>((g:Nat):Int) | none=> -1
def gp (gs:List cN) (lg:fP->Option Nat) (ls:List fP):List cN:=gs.mapIdx (fun g x=>{x with gq:=(ls.filter (fun l=>decide (lg l=some g))).map nk})
theorem jz {gs:List cN} {lg:fP->Option Nat} {ls:List fP} {g:Nat}: (gp gs lg ls)[g]? = (gs[g]?).map fun x=>{x with gq:=(ls.filter (fun l=>decide (lg l=some g))).map nk}:=by
 unfold gp;rw [List.getElem?_mapIdx]
theorem xV (gs:List cN) (lg:fP->Option Nat) (ls:List fP): (gp gs lg ls).length=gs.length:=by unfold gp;rw [List.length_mapIdx]
theorem we {gs:List cN} {lg:fP->Option Nat} {ls:List fP} {l:fP} (h:lg l=none):gp gs lg (ls++[l])=gp gs lg ls:=by
 apply List.ext_getElem?
 intro g
 rw [jz,jz]
 congr 2
 funext x
 rw [kF]
 simp [h]
theorem xW {gs:List cN} {lg:fP->Option Nat} {ls:List fP} {l:fP} {k:Nat} {x:cN} (h:lg l=some k) (hx: (gp gs lg ls)[k]? =some x):
  (gp gs lg ls).set k {x with gq:=x.gq++[nk l]}=gp gs lg (ls++[l]):=by
 apply List.ext_getElem?
 intro g
 have hk:=(bD.1 hx).1
 rw [fC]
 by_cases e:k=g
 ·subst e
  rw [aC rfl,aC hk,jz]
  rw [jz,rq] at hx
  obtain⟨y,hy,rfl⟩:=hx
  rw [hy,kF]
  simp [h]
 ·rw [aH e,jz,jz]
  congr 2
  funext x
  rw [kF]
  have: ¬(lg l=some g):=by rw [h];intro h';injection h' with h';exact e h'
  simp [this]
theorem Ic {bs:List cE} {n t:Nat} {r:Nat->Nat} {i:Nat} (hi:i<n) (ht:i<t):D7 bs n (cls t r (r i))=true:=by
 unfold D7
 rw [bR]
 have:i∈gP n (cls t r (r i)):=jI.2 ⟨pf.2 ⟨ht,rfl⟩,by simpa using hi⟩
 have:=List.length_pos_of_mem this
 omega
theorem Ie {bs:List cE} {n t:Nat} {r:Nat->Nat} {j:Nat} (hp:s9 bs j=true) (ht:n+j<t):D7 bs n (cls t r (r (n+j)))=true:=by
 unfold D7
 rw [bR]
 have:j∈gB bs n (cls t r (r (n+j))):=dE.2 ⟨n+j,jI.2 ⟨pf.2 ⟨ht,rfl⟩,by simp [hp]⟩,by omega⟩
 have:=List.length_pos_of_mem this
 omega
structure Fj (bs:List cE) (ls:List fP) (pcs:List aK) (r:Nat->Nat) (gs:List cN) (ofP ofB tP:List Int) (tQ:List j4):Prop where
 conn:Jh pcs.length bs.length (jW bs pcs) r
 gs:gs=gp (lE bs pcs.length (pcs.length+bs.length) r (bL (pcs.length+bs.length) r)) (zL bs pcs r) ls
 of:L7 bs pcs.length bs.length r (bL (pcs.length+bs.length) r) ofP ofB
 tP:tP=ls.map (Ji bs pcs r)
 tQ:tQ=ls.map (fun l=>(zx bs pcs l).getD ⟨false,0⟩)
theorem D9 {bs:List cE} {pcs:List aK} (hp:pcs.length<=1073741824): ∀l∈jW bs pcs,l.length<=1073741824/\∀x∈l,∃i:Nat,i<pcs.length/\x= ((i:Nat):Int):=by
 intro l hl
 unfold jW at hl
 obtain⟨b,_,rfl⟩:=dE.1 hl
 have:=yG (ij b) pcs pcs.length
 refine⟨by rw [lC];omega,fun x hx=>?_⟩
 obtain⟨i,hi,rfl⟩:=pH.1 hx
 exact⟨i,(GO.1 hi).1,rfl⟩
theorem CK {bs:List cE} {ls:List fP} {pcs:List aK} (hb:kD bs) (hp:pcs.length<=1000000000) (hr: ∀p∈pcs,p.gz.length<=1073741824) (hl:ls.length<=1073741824) (hN:4398046511104<=N):
  Ok (gA N bs ls pcs (jW bs pcs) [] [] [] []) (fun x=>∃r,Fj bs ls pcs r x.1 x.2.1 x.2.2.1 x.2.2.2.1 x.2.2.2.2):=by
 have hbl:=hb.len
 unfold gA
 rw [wrap_add (by omega)]
 obtain⟨up0,u1,u2⟩:=DY (N:=N) (n:=pcs.length+bs.length) (by omega)
 refine Ok.eq u1 ?_
 refine Ok.bind (GP (n:=pcs.length) (m:=bs.length) (by unfold jW;simp) (D9 (by omega)) (by omega) (by omega) u2 hN) ?_
 rintro up1 ⟨r,v1,v2⟩
 refine Ok.eq (rB 0 (by omega)) (Ok.eq (rB 0 (by omega)) ?_)
 obtain⟨up2,w1,_⟩:=Jf (N:=N) v1 (by omega) (by omega)
 refine Ok.eq w1 ?_
 refine Ok.bind (D8 (bs:=bs) (n:=pcs.length) (m:=bs.length) (r:=r) rfl (by omega) (by omega) (op:=List.replicate pcs.length 0) (ob:=List.replicate bs.length 0) (by simp) (by simp) rfl) ?_
 rintro⟨gs,ofP,ofB⟩ ⟨e1,I⟩
 dsimp only at e1 I ⊢
 subst e1
 have hgl: (lE bs pcs.length (pcs.length+bs.length) r (bL (pcs.length+bs.length) r)).length<=pcs.length+bs.length:=by
  rw [tc]
  have:=qg bs pcs.length (pcs.length+bs.length) r (bL (pcs.length+bs.length) r)
  have:=lA (pcs.length+bs.length) r
  omega
 refine Ok.bind (Ok.mV (fun(k:Nat) (st:List cN×List Int×List Int×List Int×List j4)=>st= (gp (lE bs pcs.length (pcs.length+bs.length) r (bL (pcs.length+bs.length) r)) (zL bs pcs r) (ls.take k),ofP,ofB,(ls.take k).map (Ji bs pcs r),(ls.take k).map (fun l=>(zx bs pcs l).getD ⟨false,0⟩))) (by omega) ?_ (fun k st hk e=>?_)) ?_
 ·congr 1
  unfold gp
  apply List.ext_getElem?
  intro g
  rw [List.getElem?_mapIdx]
  unfold lE
  rw [gv]
  cases (live bs pcs.length (pcs.length+bs.length) r (bL (pcs.length+bs.length) r))[g]? <;> rfl
 ·subst e
  dsimp only
  have hts:ls.take (k+1)=ls.take k++[ls[k]]:=dP hk
  refine Ok.idx hk (Ok.eq (Ia hb (by omega) hr _) ?_)
  dsimp only
  refine Ok.bind (P:=fun x=>x= (gp (lE bs pcs.length (pcs.length+bs.length) r (bL (pcs.length+bs.length) r)) (zL bs pcs r) (ls.take k++[ls[k]]),Ji bs pcs r ls[k])) ?_ ?_
  ·cases hh:zx bs pcs ls[k] with
   | none=>
    refine Ok.ret ?_
    have h1:zL bs pcs r ls[k]=none:=by unfold zL;rw [hh];rfl
    rw [we h1]
    unfold Ji;rw [h1]
   | some h=>
    have h1:zL bs pcs r ls[k]=some (gi bs pcs.length (pcs.length+bs.length) r (r (lX pcs.length h))):=by unfold zL;rw [hh];rfl
    have h2:Ji bs pcs r ls[k]= ((gi bs pcs.length (pcs.length+bs.length) r (r (lX pcs.length h)):Nat):Int):=by unfold Ji;rw [h1]
    obtain⟨q,q1,q2,q3⟩:=(Ib hh).num
    have hix:lX pcs.length h<pcs.length+bs.length/\D7 bs pcs.length (cls (pcs.length+bs.length) r (r (lX pcs.length h)))=true/\iD N ofP ofB h=some ((gi bs pcs.length (pcs.length+bs.length) r (r (lX pcs.length h)):Nat):Int):=by
     unfold iD lX
     rw [q1,cL]
     cases hbo:h.cE with
     | true=>
      obtain⟨q4,q5⟩:=q2 hbo
      rw [aQ,aC rfl]
      refine⟨by omega,Ie q5 (by omega),?_⟩
      have:=I.bo q q4 (jv.2 ⟨by have:=v2.le (pcs.length+q) (by omega);omega,v2.rr _ (by omega)⟩)
      rw [aC q5] at this
      rw [eI this,aB]
     | false=>
      have q4:=q3 hbo
      rw [aS,aH (by simp)]
      refine⟨by omega,Ic q4 (by omega),?_⟩
      have:=I.pc q q4 (jv.2 ⟨by have:=v2.le q (by omega);omega,v2.rr _ (by omega)⟩)
      rw [eI this,aB]
    obtain⟨i1,i2,i3⟩:=hix
    have hgi:=JQ (r:=r) (t:=pcs.length+bs.length) (bs:=bs) (n:=pcs.length) (h:=r (lX pcs.length h)) (jv.2 ⟨by have:=v2.le _ i1;omega,v2.rr _ i1⟩) i2
    have hgx:gi bs pcs.length (pcs.length+bs.length) r (r (lX pcs.length h))< (gp (lE bs pcs.length (pcs.length+bs.length) r (bL (pcs.length+bs.length) r)) (zL bs pcs r) (ls.take k)).length:=by
     rw [xV,tc];exact hgi.1
    rw [h2]
    dsimp only [Option.getD,Option.isSome]
    rw [aQ]
    refine Ok.eq i3 ?_
    generalize gi bs pcs.length (pcs.length+bs.length) r (r (lX pcs.length h))=g at *
    refine Ok.idx hgx (Ok.eq (B2 _) ?_)
    have hpl: ((gp (lE bs pcs.length (pcs.length+bs.length) r (bL (pcs.length+bs.length) r)) (zL bs pcs r) (ls.take k))[g]).gq.length<=ls.length:=by
     have:=jz (gs:=lE bs pcs.length (pcs.length+bs.length) r (bL (pcs.length+bs.length) r)) (lg:=zL bs pcs r) (ls:=ls.take k) (g:=g)
     rw [aN hgx] at this
     have:=this.symm
     rw [rq] at this
     obtain⟨y,_,hy⟩:=this
     rw [<-hy,cW]
     have:=nJ (fun l=>decide (zL bs pcs r l=some g)) (ls.take k)
     rw [cP] at this;omega
    refine Ok.app (by simp;omega) (Ok.idx hgx (Ok.ret ?_))
    rw [cL]
    congr 1
    exact xW h1 (aN hgx)
  ·rintro _ rfl
   dsimp only
   refine Ok.app (by simp;omega) (Ok.app (by simp;omega) (Ok.ret ?_))
   rw [hts,dI,dI];rfl
 ·rintro st rfl
  dsimp only
  rw [dU]
  exact Ok.ret ⟨r,v2,rfl,I,rfl,rfl⟩
end
end Go.Gk
namespace Go.Gk
open Go Classical
section
variable {N:Nat}
theorem yI {p:aK}: ∀{gj:List (List (List aA))} {k:Nat},p∈dO k gj->∃(i:Nat) (ps:List (List aA)) (q:List aA),gj[i]? =some ps/\q∈ps/\p= ⟨((k+i:Nat):Int),q,aR q⟩
 | [],k,h=>by cases h
 | ps::gj,k,h=>by
  rcases dC.1 h with h | h
  ·obtain⟨q,hq,rfl⟩:=dE.1 h
   exact⟨0,ps,q,rfl,hq,rfl⟩
  ·obtain⟨i,ps',q,h1,h2,h3⟩:=yI h
   refine⟨i+1,ps',q,by simpa using h1,h2,?_⟩
   rw [h3,show k+1+i=k+ (i+1) by omega]
structure pg (a:kH):Prop where
 xS:0<a.aJ.length/\a.aJ.length<=16
 NN: ∀r∈a.aJ,j3 r=0
 out:j3 a.cH=0
 many:a.cH.length+ (a.aJ.map List.length).sum<=2000
 xX:jk a=0
 Ig:mT a=0
theorem pg.gb {a:kH} (h:pg a):kD a.aO:=⟨(l9 h.xX).1,fun b hb=>⟨((l9 h.xX).2 b hb).1,((l9 h.xX).2 b hb).2.1⟩⟩
theorem pg.cs {a:kH} (h:pg a): ∀r∈a.aJ,r.length<=2000/\∀x∈r,Bb x:=fun r hr=>AH (vc.1 (h.NN r hr)).1
structure xY (a:kH) (k8:List (List aA)) (gj:List (List (List aA))) (p:aK) (i:Nat) (r:List aI) (s:List aA) (ps:List (List aA)) (u:Nat->Nat) (j k:Nat):Prop where
 N8:a.aJ[i]? =some r
 k8:k8[i]? =some s
 gj:gj[i]? =some ps
 dr:tN r (j6 a.aO ((i:Nat):Int)) s
 pt:rE s u ps
 at_:ps[j]? =some p.Set
 head: (bL (aR s).length u)[j]? =some k
 set:sX (nH (aR s) (aR s).length u k) p.Set
 lim:wU (sV r++sV (j6 a.aO ((i:Nat):Int))) (jy r++jy (j6 a.aO ((i:Nat):Int))) (p.Set.map cA)
 L8:p.cK= ((i:Nat):Int)
 JS:p.gz=aR p.Set
theorem AM {a:kH} {k8:List (List aA)} {gj:List (List (List aA))} (hg:pg a) (hD:wQ a.aJ a.aO a.aJ.length k8 gj) {p:aK} (hp:p∈dO 0 gj): ∃i r s ps u j k,xY a k8 gj p i r s ps u j k:=by
 obtain⟨i,ps,q,h1,h2,rfl⟩:=yI hp
 have hil:i<a.aJ.length:=by have:=(bD.1 h1).1;rw [hD.zw] at this;exact this
 have hc:a.aJ[i]? =some a.aJ[i]:=aN hil
 have hd:k8[i]? =some (k8[i]'(by rw [hD.len];exact hil)):=aN _
 have hdr:=hD.dr i _ _ hil hc hd
 obtain⟨u,hu⟩:=hD.pt i _ ps hil hd h1
 obtain⟨sx,sy⟩:=hdr.small (hg.cs _ (cM hil)).2 (fun x hx=>(qU hg.gb _ x hx).1)
 obtain⟨j,k,g1,g2,g3,g4⟩:=AL hu hdr.can hdr.lim sx sy h2
 exact⟨i,_,_,ps,u,j,k,hc,hd,h1,hdr,hu,g1,g2,g3,g4,by rw [iO],rfl⟩
theorem xY.AE {a:kH} {k8:List (List aA)} {gj:List (List (List aA))} (hg:pg a) {p:aK} {i:Nat} {r:List aI} {s:List aA} {ps:List (List aA)} {u:Nat->Nat} {j k:Nat} (h:xY a k8 gj p i r s ps u j k):
  p.Set.length<=5000/\(∀b∈p.Set,b.Xs.length<=5000)/\p.gz.length<=5000*5000:=by
 have h1:=(hg.cs r (eZ h.N8)).1
 have h2:=vA hg.gb ((i:Nat):Int)
 rw [h.JS]
 exact s8 (A:=5000) h.set.can h.lim (by rw [cX,kO,kO];omega) (by rw [cX,i6,i6];omega)
def xZ (a0 a1 b0 b1:Int):Bool:=decide (b0<a1)&&decide (a0<b1)
def Ea (a b:aI):Bool:=xZ a.X0 a.X1 b.X0 b.X1&&xZ a.Y0 a.Y1 b.Y0 b.Y1
theorem AO {a0 a1 b0 b1:Int} (h1: -1000000<=a0/\a0<=1000000) (h2: -1000000<=a1/\a1<=1000000) (h3: -1000000<=b0/\b0<=1000000) (h4: -1000000<=b1/\b1<=1000000): ∃n,l5 N a0 a1 b0 b1=some n/\0<=n/\(n=0↔xZ a0 a1 b0 b1=true):=by
 unfold l5 xZ
 have e1:IntKind.wrap .i64 (b0 - a1)=b0 - a1:=fD (by omega) (by omega)
 have e2:IntKind.wrap .i64 (a0 - b1)=a0 - b1:=fD (by omega) (by omega)
 have e3:IntKind.wrap .i64 (b0 - a1+1)=b0 - a1+1:=fD (by omega) (by omega)
 have e4:IntKind.wrap .i64 (a0 - b1+1)=a0 - b1+1:=fD (by omega) (by omega)
 rw [e1,e2,e3,e4]
 refine⟨_,rfl,?_,?_⟩
 ·repeat' split
  all_goals omega
 ·rw [bW,bR,bR]
  repeat' split
  all_goals omega
theorem KA {a b:aI} (h1:fF a=true) (h2:fF b=true): ∃n,si N a b=some n/\(n=0↔Ea a b=true):=by
 have b1:=mS h1
 have b2:=mS h2
 obtain⟨n,n1,n2,n3⟩:=AO (N:=N) (a0:=a.X0) (a1:=a.X1) (b0:=b.X0) (b1:=b.X1) (by omega) (by omega) (by omega) (by omega)
 obtain⟨m,m1,m2,m3⟩:=AO (N:=N) (a0:=a.Y0) (a1:=a.Y1) (b0:=b.Y0) (b1:=b.Y1) (by omega) (by omega) (by omega) (by omega)
 unfold si Ea
 rw [n1,aB,m1,aB]
 refine⟨_,rfl,?_⟩
 rw [bW,<-n3,<-m3]
 split <;> omega
def qV (x y:cE):Bool:=(decide (x.cR<=y.To)&&decide (y.cR<=x.To))&&Ea (uA x) (uA y)
def qW (a:kH):Prop:=∃(i k:Nat) (x y:cE),k<i/\a.aO[i]? =some x/\a.aO[k]? =some y/\qV x y=true
noncomputable def vW (r:List aI):Option Int:=if j3 r≠0 then some (j3 r) else none
noncomputable def Eb (a:kH):Int:=if 2000<a.cH.length+ (a.aJ.map List.length).sum then 2 else if jk a≠0 then jk a else if mT a≠0 then mT a else if qW a then 12 else 0
noncomputable def Ih (a:kH):Int:=match a.aJ.findSome? vW with | some e=>e | none=>if j3 a.cH≠0 then j3 a.cH else Eb a
noncomputable def kS (a:kH):Int:=if a.aJ.length=0 then 9 else if 16<a.aJ.length then 2 else Ih a
def KH (k8:List (List aA)) (gj:List (List (List aA))):Prop:=(∀s∈k8,(aR s).length<=2000)/\(dO 0 gj).length<=2000
abbrev AP:=(List (List aI))×(List aI)×(List cE)×(List fP)×(List (List aA))×(List aK)×(List (List Int))×(List cN)×(List Int)×(List Int)×(List Int)×(List j4)
def JT (a:kH) (x:Option AP×Int):Prop:=
 (kS a≠0/\x= (none,kS a))\/(kS a=0/\pg a/\¬qW a/\∃k8 gj,wQ a.aJ a.aO a.aJ.length k8 gj/\
  ((¬KH k8 gj/\x= (none,2))\/(KH k8 gj/\∃r gs ofP ofB tP tQ,Fj a.aO a.bV (dO 0 gj) r gs ofP ofB tP tQ/\
   x= (some (a.aJ,a.cH,a.aO,a.bV,k8,dO 0 gj,jW a.aO (dO 0 gj),gs,ofP,ofB,tP,tQ),0))))
structure vd (a:kH):Prop where
 cs:a.aJ.length<=1048576
 each: ∀r∈a.aJ,r.length<=1048576
 out:a.cH.length<=1048576
 bs:a.aO.length<=1048576
 ls:a.bV.length<=1048576
 nm:AJ a
theorem Ec {a:kH} (h:bk a<=1048576):vd a:=by
 rw [HV] at h
 have h1:=yr a.aJ
 have h2:=yr a.cH
 have h3:=yr a.aO
 have h4:=yr a.bV
 refine⟨by omega,fun r hr=>?_,by omega,by omega,by omega,fun x hx=>?_⟩
 ·have:=E4 hr
  have:=yr r;omega
 ·have:=E4 hx
  rw [FU,HS,HS] at this;omega
theorem B4 {a:kH} (hs:vd a) (hN:4398046511104<=N):Ok (iE N a) (JT a):=by
 unfold iE
 have pe: ∀e:Int,e≠0->kS a=e->Ok (some ((none:Option AP),e)) (JT a):=fun e he h=>Ok.ret (.inl ⟨by rw [h];exact he,by rw [h]⟩)
 have c1:=hs.cs
 refine Ok.bif (fun h=>?_) (fun h=>?_)
 ·have:a.aJ.length=0:=by have:=beq_iff_eq.1 h;omega
  exact pe 9 (by omega) (by unfold kS;rw [aC this])
 have h0: ¬a.aJ.length=0:=by rw [beq_eq_false_iff_ne] at h;omega
 refine Ok.bif (fun h=>?_) (fun h=>?_)
 ·have h1:16<a.aJ.length:=by have:=of_decide_eq_true h;omega
  exact pe 2 (by omega) (by unfold kS;rw [aH h0,aC h1])
 have h1: ¬16<a.aJ.length:=by have:=of_decide_eq_false h;omega
 have pe1:kS a=Ih a:=by unfold kS;rw [aH h0,aH h1]
 have hso:=hs.out
 have sumle: ∀k,k<=a.aJ.length->((a.aJ.take k).map List.length).sum<=k*1048576:=by
  intro k
  induction k with
  | zero=>intro _;simp
  | succ k ih=>
   intro hk
   have:=ih (by omega)
   have h2:=hs.each _ (cM (show k<a.aJ.length by omega))
   rw [dP (by omega),dI,List.sum_append]
   simp only [eB,List.map_nil,List.sum_cons,List.sum_nil]
   rw [Nat.add_mul];omega
 refine Ok.bind (Ok.ud (Go:=fun s:Int=>s= ((a.cH.length+ (a.aJ.map List.length).sum:Nat):Int)/\∀r∈a.aJ,j3 r=0) (Rt:=fun x:Option AP×Int=>∃e,e≠0/\x= (none,e)/\a.aJ.findSome? vW=some e)
  (fun(k:Nat) (s:Int)=>s= ((a.cH.length+ ((a.aJ.take k).map List.length).sum:Nat):Int)/\∀r∈a.aJ.take k,j3 r=0) (by omega) ⟨by simp,fun r hr=>by simp at hr⟩ (fun k s hk hI=>?_) (fun s hI=>by rw [dU] at hI;exact hI)) ?_
 ·obtain⟨e,hI⟩:=hI
  subst e
  have hkx:a.aJ[k]? =some a.aJ[k]:=aN hk
  have hts:a.aJ.take (k+1)=a.aJ.take k++[a.aJ[k]]:=dP hk
  have he:=hs.each _ (cM hk)
  refine Ok.ix hkx (Ok.eq (va (by omega) hN) ?_)
  refine Ok.bif (fun h=>Ok.rt ?_) (fun h=>Ok.nx ?_)
  ·have h:j3 a.aJ[k]≠0:=by simpa using h
   refine⟨_,h,rfl,?_⟩
   rw [List.findSome?_eq_some_iff]
   refine⟨a.aJ.take k,a.aJ[k],a.aJ.drop (k+1),?_,by unfold vW;rw [aC h],fun r hr=>by unfold vW;rw [aH (by simpa using hI r hr)]⟩
   rw [<-tn hk,List.take_append_drop]
  ·have h:j3 a.aJ[k]=0:=by simpa using h
   have:=sumle k (by omega)
   have hk16:k*1048576<=16*1048576:=Nat.mul_le_mul_right _ (by omega)
   refine⟨?_,fun r hr=>?_⟩
   ·rw [wrap_add (by omega),hts,dI,List.sum_append]
    simp only [eB,List.map_nil,List.sum_cons,List.sum_nil]
    congr 1
    omega
   ·rw [hts] at hr
    rcases dC.1 hr with hr | hr
    ·exact hI r hr
    ·simp at hr;subst hr;exact h
 intro o ho
 refine Ok.cs ho ?_ ?_
 rotate_left
 ·rintro x ⟨e,he,rfl,hf⟩
  exact pe e he (by rw [pe1];unfold Ih;rw [hf])
 rintro s ⟨rfl,hreg⟩
 have Md:a.aJ.findSome? vW=none:=List.findSome?_eq_none_iff.2 fun r hr=>by unfold vW;rw [aH (by simpa using hreg r hr)]
 have pe2:kS a=if j3 a.cH≠0 then j3 a.cH else Eb a:=by rw [pe1];unfold Ih;rw [Md]
 refine Ok.eq (va (by omega) hN) ?_
 refine Ok.bif (fun h=>?_) (fun h=>?_)
 ·have h:j3 a.cH≠0:=by simpa using h
  exact pe _ h (by rw [pe2,aC h])
 have hout:j3 a.cH=0:=by simpa using h
 have pe3:kS a=Eb a:=by rw [pe2,aH (by simpa using hout)]
 refine Ok.bif (fun h=>?_) (fun h=>?_)
 ·have h:2000<a.cH.length+ (a.aJ.map List.length).sum:=by have:=of_decide_eq_true h;omega
  exact pe 2 (by omega) (by rw [pe3];unfold Eb;rw [aC h])
 have hmany: ¬2000<a.cH.length+ (a.aJ.map List.length).sum:=by have:=of_decide_eq_false h;omega
 have hbs:=hs.bs
 have hls:=hs.ls
 refine Ok.eq (Bu (by omega) (by omega) (by omega)) ?_
 refine Ok.bif (fun h=>?_) (fun h=>?_)
 ·have h:jk a≠0:=by simpa using h
  exact pe _ h (by rw [pe3];unfold Eb;rw [aH hmany,aC h])
 have hbo:jk a=0:=by simpa using h
 refine Ok.eq (Bv (by omega) (by omega) hs.nm (by omega)) ?_
 refine Ok.bif (fun h=>?_) (fun h=>?_)
 ·have h:mT a≠0:=by simpa using h
  exact pe _ h (by rw [pe3];unfold Eb;rw [aH hmany,aH (by simpa using hbo),aC h])
 have hla:mT a=0:=by simpa using h
 have hg:pg a:=⟨by omega,hreg,hout,by omega,hbo,hla⟩
 have pe4:kS a=if qW a then 12 else 0:=by rw [pe3];unfold Eb;rw [aH hmany,aH (by simpa using hbo),aH (by simpa using hla)]
 refine Ok.bind (Ok.ud (Go:=fun _:Unit=>¬qW a) (Rt:=fun x:Option AP×Int=>x= (none,12)/\qW a)
  (fun(k:Nat) (_:Unit)=>∀(i j:Nat) (x y:cE),i<k->j<i->a.aO[i]? =some x->a.aO[j]? =some y->¬qV x y=true) (by omega) (fun i j x y h=>by omega) (fun k s hk hI=>?_) (fun s hI=>?_)) ?_
 ·have hkx:a.aO[k]? =some a.aO[k]:=aN hk
  refine Ok.ix hkx (Ok.eq (qG _ k (by omega)) ?_)
  have hgk:=hg.gb.ok _ (cM hk)
  refine Ok.bind (Ok.ud (Go:=fun _:Unit=>∀(j:Nat) (y:cE),j<k->a.aO[j]? =some y->¬qV a.aO[k] y=true) (Rt:=fun x:Option AP×Int=>x= (none,12)/\qW a)
   (fun(t:Nat) (_:Unit)=>∀(j:Nat) (y:cE),j<t->a.aO[j]? =some y->¬qV a.aO[k] y=true) (by rw [cP];omega) (fun j y h=>by omega) (fun t s ht hI2=>?_) (fun s hI2 j y hj hy=>hI2 j y (by rw [cP];omega) hy)) ?_
  ·have htk:t<k:=by rw [cP] at ht;omega
   have htx: (a.aO.take k)[t]? =some a.aO[t]:=by rw [List.getElem?_take_of_lt htk];exact aN (by omega)
   have hgt:=hg.gb.ok _ (cM (show t<a.aO.length by omega))
   refine Ok.ix htx ?_
   refine Ok.eq (x:=qV a.aO[k] a.aO[t]) ?_ ?_
   ·unfold qV
    cases hc: (decide (a.aO[k].cR<=a.aO[t].To)&&decide (a.aO[t].cR<=a.aO[k].To)) with
    | false=>rfl
    | true=>
     obtain⟨n,n1,n2⟩:=KA (N:=N) hgk.2 hgt.2
     rw [aQ,mR hgk.1,aB,mR hgt.1,aB,n1,aB,Bool.true_and]
     congr 1
     rw [eX,beq_iff_eq];exact n2
   ·refine Ok.bif (fun h=>Ok.rt ⟨rfl,k,t,_,_,htk,hkx,aN (by omega),h⟩) (fun h=>Ok.nx fun j y hj hy=>?_)
    by_cases e:j<t
    ·exact hI2 j y e hy
    ·have:j=t:=by omega
     subst this
     rw [aN (by omega)] at hy;injection hy with hy
     rw [<-hy,h];simp
  ·intro o ho
   refine Ok.cs ho (fun s hI2=>Ok.nx fun i j x y hi hj hx hy=>?_) (fun x hx=>Ok.rt hx)
   by_cases e:i<k
   ·exact hI i j x y e hj hx hy
   ·have:i=k:=by omega
    subst this
    rw [hkx] at hx;injection hx with hx
    rw [<-hx];exact hI2 j y hj hy
 ·rintro⟨i,j,x,y,hj,hx,hy,hc⟩
  exact hI i j x y (bD.1 hx).1 hj hx hy hc
 intro o ho
 refine Ok.cs ho ?_ ?_
 rotate_left
 ·rintro x ⟨rfl,hc⟩
  exact pe 12 (by omega) (by rw [pe4,aC hc])
 intro _ hncl
 have pe5:kS a=0:=by rw [pe4,aH hncl]
 refine Ok.bind (Fg (N:=N) (by omega) hg.cs hg.gb hN) ?_
 rintro⟨okk,k8,pcs⟩ ⟨gj,D,e1,e2⟩
 dsimp only at D e1 e2 ⊢
 subst e1
 refine Ok.bif (fun h=>Ok.ret (.inr ⟨pe5,hg,hncl,k8,gj,D, .inl ⟨fun hf=>?_,rfl⟩⟩)) (fun h=>?_)
 ·have:=e2.2 hf
  rw [this] at h;cases h
 ·have hf:KH k8 gj:=e2.1 (by cases okk <;> simp_all)
  have hpr: ∀p∈dO 0 gj,p.gz.length<=1073741824:=fun p hp=>by
   obtain⟨i,r,s,ps,u,j,k,hP⟩:=AM hg D hp
   have:=(hP.AE hg).2.2;omega
  have hf2:=hf.2
  refine Ok.eq (H9 hg.gb (by omega) hpr) ?_
  refine Ok.bind (CK (N:=N) hg.gb (by omega) hpr (by omega) hN) ?_
  rintro⟨gs,ofP,ofB,tP,tQ⟩ ⟨r,hC⟩
  exact Ok.ret (.inr ⟨pe5,hg,hncl,k8,gj,D, .inr ⟨hf,r,gs,ofP,ofB,tP,tQ,hC,rfl⟩⟩)
end
end Go.Gk
namespace Go.Gk
open Go Classical
section
variable {N:Nat}
theorem F6 {w:Nat} {g:Nat->Nat} {a:Nat}: ∀{ks:List Nat},ks.Nodup->a∈ks->(ks.map (fun k=>(if a=k then w else 0)+g k)).sum=w+ (ks.map g).sum
 | [],_,h=>by cases h
 | k::ks,hn,h=>by
  have hn':=List.nodup_cons.1 hn
  simp only [eB,List.sum_cons]
  by_cases e:a=k
  ·subst e
   rw [aC rfl]
   have:ks.map (fun k=>(if a=k then w else 0)+g k)=ks.map g:=List.map_congr_left fun x hx=>by
    rw [aH (fun e=>hn'.1 (by rw [e];exact hx)),iO]
   rw [this];omega
  ·rw [aH e,F6 hn'.2 (by rcases dF.1 h with h | h;exact absurd h e;exact h)];omega
theorem Ed {α:Type} {ks:List Nat} (hn:ks.Nodup) (f w:α->Nat): ∀{l:List α},(∀x∈l,f x∈ks)->(ks.map (fun k=>((l.filter (fun x=>decide (f x=k))).map w).sum)).sum= (l.map w).sum
 | [],_=>by
  have: ∀ks:List Nat,(ks.map (fun _=>0)).sum=0:=fun ks=>by
   induction ks with
   | nil=>rfl
   | cons k ks ih=>simp only [eB,List.sum_cons,ih]
  simpa using this ks
 | x::l,h=>by
  have ih:=Ed hn f w (l:=l) fun y hy=>h y (il _ hy)
  have: (ks.map (fun k=>(((x::l).filter (fun x=>decide (f x=k))).map w).sum))=ks.map (fun k=>(if f x=k then w x else 0)+ ((l.filter (fun x=>decide (f x=k))).map w).sum):=List.map_congr_left fun k _=>by
   rw [List.filter_cons]
   by_cases e:f x=k
   ·rw [aC (by simpa using e),aC e,eB,List.sum_cons]
   ·rw [aH (by simpa using e),aH e,iO]
  rw [this,F6 hn (h x (by simp)),ih,eB,List.sum_cons]
def x6 (l:List aI):Int:=l.foldl (fun s x=>IntKind.wrap .i64 (s+ (IntKind.wrap .i64 ((IntKind.wrap .i64 (x.X1 - x.X0))* (IntKind.wrap .i64 (x.Y1 - x.Y0)))))) 0
theorem GR {l:List aI} (hl:l.length<=4611686018427387904):oD N l=some (x6 l):=by
 refine Ok.get ?_
 unfold oD
 refine Ok.bind (Ok.mV (fun k s=>s=x6 (l.take k)) (by omega) rfl (fun k s hk e=>?_)) (fun s e=>Ok.ret (by rw [e,dU]))
 subst e
 refine Ok.idx hk (Ok.ret ?_)
 unfold x6
 rw [dP hk,List.foldl_append];rfl
def rI (s:List aA):eQ:=match s with | b::_=>⟨b.Xs.headD 0,b.Y0⟩ | []=>⟨0,0⟩
theorem Ii {s:List aA} (hc:eP (s.map cA)) (hne:s≠[]):lU N s=some (rI s):=by
 cases s with
 | nil=>exact absurd rfl hne
 | cons b t=>
  have hb:=(hc.each (cA b) (by simp)).2.1
  unfold lU rI
  rw [CE,aB]
  have hx:b.Xs≠[]:=hb
  cases hbx:b.Xs with
  | nil=>exact absurd hbx hx
  | cons x xs=>
   rw [CE,aB,aB]
   show some _=some (⟨b.Xs.headD 0,b.Y0⟩:eQ)
   rw [hbx];rfl
theorem xY.ne {a:kH} {k8:List (List aA)} {gj:List (List (List aA))} {p:aK} {i:Nat} {r:List aI} {s:List aA} {ps:List (List aA)} {u:Nat->Nat} {j k:Nat} (h:xY a k8 gj p i r s ps u j k):p.Set≠[]:=by
 intro e
 have hh:=jv.1 (eZ h.head)
 have hx: (aR s)[k]? =some (aR s)[k]:=aN hh.1
 have hm: (aR s)[k]∈nH (aR s) (aR s).length u k:=lW.2 ⟨k,hh.1,hh.2,hx⟩
 obtain⟨b,hb,q,hq,hr⟩:=qz (eZ hx)
 have hbm:cA b∈s.map cA:=dE.2 ⟨b,hb,rfl⟩
 have hq1:=E8 (h.dr.can.each _ hbm).2.2.1 q hq
 have hb1:=(h.dr.can.each _ hbm).1
 have hc:=h.set.cover q.1 b.Y0
 rw [e] at hc
 have:sR (nH (aR s) (aR s).length u k) q.1 b.Y0=true:=i5.2 ⟨_,hm,by rw [hr];exact⟨⟨Int.le_refl _,hq1⟩,Int.le_refl _,hb1⟩⟩
 rw [this] at hc
 cases hc
def toldOf (pcs:List aK):List Piece:=pcs.map fun p=>⟨p.cK,rI p.Set,x6 p.gz⟩
structure pS (a:kH) (k8:List (List aA)) (gj:List (List (List aA))) (r:Nat->Nat) (gs:List cN) (ofP ofB tP:List Int) (tQ:List j4):Prop where
 r8:pg a
 Oa: ¬qW a
 dr:wQ a.aJ a.aO a.aJ.length k8 gj
 xS:KH k8 gj
 N9:Fj a.aO a.bV (dO 0 gj) r gs ofP ofB tP tQ
inductive KB (N:Nat) (a:kH):Prop
 | err (e:Int) (he:e≠0) (h:iE N a=some (none,e))
 | ok {k8:List (List aA)} {gj:List (List (List aA))} {r:Nat->Nat} {gs:List cN} {ofP ofB tP:List Int} {tQ:List j4} (b:pS a k8 gj r gs ofP ofB tP tQ)
  (h:iE N a=some (some (a.aJ,a.cH,a.aO,a.bV,k8,dO 0 gj,jW a.aO (dO 0 gj),gs,ofP,ofB,tP,tQ),0))
theorem opened {a:kH} (hs:vd a) (hN:4398046511104<=N):KB N a:=by
 obtain⟨x,hx,hI⟩:=B4 (N:=N) hs hN
 rcases hI with ⟨he,rfl⟩ | ⟨_,hg,hcl,k8,gj,D,⟨_,rfl⟩ | ⟨hf,r,gs,ofP,ofB,tP,tQ,hC,rfl⟩⟩
 ·exact .err _ he hx
 ·exact .err 2 (by omega) hx
 ·exact .ok ⟨hg,hcl,D,hf,hC⟩ hx
theorem GS {a:kH} {k8:List (List aA)} {gj:List (List (List aA))} {r:Nat->Nat} {gs:List cN} {ofP ofB tP:List Int} {tQ:List j4} (b:pS a k8 gj r gs ofP ofB tP tQ)
  (h:iE N a=some (some (a.aJ,a.cH,a.aO,a.bV,k8,dO 0 gj,jW a.aO (dO 0 gj),gs,ofP,ofB,tP,tQ),0)):kW N a=some (toldOf (dO 0 gj),0):=by
 refine Ok.get ?_
 unfold kW
 refine Ok.eq h ?_
 have hf:=b.xS.2
 show Ok ((mV (dO 0 gj).length _ []).bind _) _
 refine Ok.bind (Ok.mV (fun k s=>s=toldOf ((dO 0 gj).take k)) (by omega) rfl (fun k s hk e=>?_)) (fun s e=>Ok.ret (by rw [e,dU]))
 subst e
 have hkx: (dO 0 gj)[k]? =some (dO 0 gj)[k]:=aN hk
 obtain⟨i,r',s,ps,u,j,k',hP⟩:=AM b.r8 b.dr (cM hk)
 have hsz:=hP.AE b.r8
 refine Ok.ix hkx (Ok.eq (Ii hP.set.can hP.ne) (Ok.eq (GR (by omega)) (Ok.app (by unfold toldOf;simp;omega) (Ok.ret ?_))))
 unfold toldOf
 rw [dP hk,dI];rfl
end
end Go.Gk
namespace Go.Gk
open Go Classical
section
variable {S R:Type}
theorem Ok.o9 {body:S->Option (Fl S R)} {N n:Nat} {s:S} (ι:S->Int) (Inv:Nat->S->Prop) {Go:S->Prop} {Rt:R->Prop}
  (h1: ∀k s,k<n->ι s= ((k:Nat):Int)->Inv k s->Ok (body s) (IA (fun s'=>ι s'= ((k+1:Nat):Int)/\Inv (k+1) s') Go Rt))
  (h2: ∀s,ι s= ((n:Nat):Int)->Inv n s->Ok (body s) (IA (fun _=>False) Go Rt))
  {k0:Nat} (hk:k0<=n) (hi:ι s= ((k0:Nat):Int)) (h0:Inv k0 s) (hn:n<N):Ok (Gk.jH body N s) (L2 Go Rt):=by
 refine Ok.jH (fun s=>∃k:Nat,k<=n/\ι s= ((k:Nat):Int)/\Inv k s) (fun s=>n - (ι s).toNat) ?_ ⟨k0,hk,hi,h0⟩ (by omega)
 rintro s ⟨k,hk,e,hI⟩
 by_cases hlt:k<n
 ·refine(h1 k s hlt e hI).mono ?_
  rintro(s' | s' | r) hp
  ·have hp1:ι s'= ((k+1:Nat):Int):=hp.1
   exact⟨⟨k+1,hlt,hp.1,hp.2⟩,by rw [e,hp1];simp only [cL];omega⟩
  ·exact hp
  ·exact hp
 ·have:k=n:=by omega
  subst this
  refine(h2 s e hI).mono ?_
  rintro(s' | s' | r) hp
  ·exact hp.elim
  ·exact hp
  ·exact hp
theorem kr {k n:Nat} (h:k<n):decide (((k:Nat):Int)< ((n:Nat):Int))=true:=bU (by omega)
theorem my (n:Nat):decide (((n:Nat):Int)< ((n:Nat):Int))=false:=cF (by omega)
theorem x8 {k n:Nat} (h:n<=k):decide (((k:Nat):Int)< ((n:Nat):Int))=false:=cF (by omega)
end
theorem qh {α:Type} {p:α->Bool}: ∀{l:List α} {k:Nat},(∀(j:Nat) x,j<k->l[j]? =some x->p x=true)->(∀x,l[k]? =some x->p x=false)->l.takeWhile p=l.take k/\l.dropWhile p=l.drop k
 | [],k,_,_=>by simp
 | y::l,0,_,h2=>by
  have:=h2 y rfl
  rw [List.takeWhile_cons,List.dropWhile_cons,this];simp
 | y::l,k+1,h1,h2=>by
  have h:=h1 0 y (by omega) rfl
  obtain⟨e1,e2⟩:=qh (l:=l) (k:=k) (fun j x hj hx=>h1 (j+1) x (by omega) hx) (fun x hx=>h2 x hx)
  rw [List.takeWhile_cons,List.dropWhile_cons,h,aC rfl,aC rfl,e1,e2];simp
section
variable {N:Nat}
def qj (l:List Int) (c:Int):List Int:=if c∈l then l else l.takeWhile (fun x=>decide (x<c))++c::l.dropWhile (fun x=>decide (x<c))
theorem x9 (l:List Int) (c:Int): (qj l c).length<=l.length+1:=by
 unfold qj
 split
 ·omega
 ·have: (l.takeWhile (fun x=>decide (x<c))).length+ (l.dropWhile (fun x=>decide (x<c))).length=l.length:=by rw [<-cX,List.takeWhile_append_dropWhile]
  rw [cX,dT];omega
theorem AQ {l:List Int} {c x:Int}:x∈qj l c↔x∈l\/x=c:=by
 unfold qj
 split
 ·rename_i h
  exact⟨.inl,fun h'=>h'.elim id fun e=>e▸h⟩
 ·have:x∈l↔x∈l.takeWhile (fun x=>decide (x<c))\/x∈l.dropWhile (fun x=>decide (x<c)):=by rw [<-dC,List.takeWhile_append_dropWhile]
  rw [dC,dF,this]
  constructor
  ·rintro(h | h | h)
   ·exact .inl (.inl h)
   ·exact .inr h
   ·exact .inl (.inr h)
  ·rintro((h | h) | h)
   ·exact .inl h
   ·exact .inr (.inr h)
   ·exact .inr (.inl h)
theorem F7 {l:List Int} (h:jG l) (c:Int): ∀x∈l.dropWhile (fun x=>decide (x<c)),c<=x:=by
 induction l with
 | nil=>intro x hx;cases hx
 | cons a l ih=>
  rw [List.dropWhile_cons]
  by_cases ha:a<c
  ·rw [aC (by simpa using ha)];exact ih h.tail
  ·rw [aH (by simpa using ha)]
   intro x hx
   rcases dF.1 hx with rfl | hx
   ·omega
   ·have:=h.head x hx;omega
theorem Jj (l:List Int) (c:Int): ∀x∈l.takeWhile (fun x=>decide (x<c)),x<c:=by
 induction l with
 | nil=>intro x hx;cases hx
 | cons a l ih=>
  rw [List.takeWhile_cons]
  by_cases ha:a<c
  ·rw [aC (by simpa using ha)]
   intro x hx
   rcases dF.1 hx with rfl | hx
   ·exact ha
   ·exact ih x hx
  ·rw [aH (by simpa using ha)]
   intro x hx;cases hx
theorem te {l:List Int} {c:Int} (h:jG l):jG (qj l c):=by
 unfold qj
 split
 ·exact h
 ·rename_i hc
  have hs:=h
  rw [<-List.takeWhile_append_dropWhile (p:=fun x=>decide (x<c)) (l:=l)] at hs
  unfold jG at hs ⊢
  rw [mW] at hs ⊢
  refine⟨hs.1,ov.2 ⟨fun x hx=>?_,hs.2.1⟩,fun x hx y hy=>?_⟩
  ·have h1:=F7 h c x hx
   have h2:x≠c:=fun e=>hc (by rw [<-e,<-List.takeWhile_append_dropWhile (p:=fun x=>decide (x<c)) (l:=l)];exact List.mem_append_right _ hx)
   omega
  ·have h1:=Jj l c x hx
   rcases dF.1 hy with rfl | hy
   ·exact h1
   ·have:=F7 h c y hy;omega
def ku (l:List Int):List Int:=l.foldl qj []
theorem tR: ∀(cs l:List Int),jG l->jG (cs.foldl qj l)/\(∀x,x∈cs.foldl qj l↔x∈l\/x∈cs)/\(cs.foldl qj l).length<=l.length+cs.length
 | [],l,h=>⟨h,fun x=>by simp,by simp⟩
 | c::cs,l,h=>by
  obtain⟨h1,h2,h3⟩:=tR cs (qj l c) (te h)
  refine⟨h1,fun x=>?_,?_⟩
  ·rw [List.foldl_cons,h2,AQ,dF,or_assoc]
  ·rw [List.foldl_cons,dT]
   have:=x9 l c;omega
theorem nn (l:List Int):jG (ku l):=(tR l [] jX).1
theorem yJ {l:List Int} {x:Int}:x∈ku l↔x∈l:=by
 have:=(tR l [] jX).2.1 x
 unfold ku;rw [this];simp
theorem tf (l:List Int): (ku l).length<=l.length:=by
 have:=(tR l [] jX).2.2
 unfold ku;simpa using this
theorem ve (l:List Int) (c d:Int):ku (l++[c,d])=qj (qj (ku l) c) d:=by unfold ku;rw [List.foldl_append];rfl
theorem Fk {a b:Nat} (h:a+b<=4611686018427387904):IntKind.wrap .i64 (Int.tdiv (IntKind.wrap .i64 (((a:Nat):Int)+ ((b:Nat):Int))) 2)= (((a+b) / 2:Nat):Int):=by
 rw [wrap_add h,Int.tdiv_eq_ediv_of_nonneg (by omega),fD (by omega) (by omega)];omega
theorem vB {l:List Int} {c:Int} (h:jG l) (hl:l.length<=1099511627776) (hN:4398046511104<=N):fE N l c=some (qj l c):=by
 refine Ok.get ?_
 unfold fE
 refine Ok.bind (Ok.jH (Go:=fun st:Int×Int=>∃a:Nat,st.1= ((a:Nat):Int)/\a<=l.length/\(∀(j:Nat) x,j<a->l[j]? =some x->x<c)/\(∀(j:Nat) x,a<=j->l[j]? =some x->c<=x)) (Rt:=fun _=>True)
  (fun st=>∃a b:Nat,st= (((a:Nat):Int),((b:Nat):Int))/\a<=b/\b<=l.length/\(∀(j:Nat) x,j<a->l[j]? =some x->x<c)/\(∀(j:Nat) x,b<=j->l[j]? =some x->c<=x))
  (fun st=>(st.2 - st.1).toNat) ?_ ⟨0,l.length,rfl,by omega,bT _,fun j x hj=>by omega,fun j x hj hx=>by have:=(bD.1 hx).1;omega⟩ (by simp only;omega)) ?_
 ·rintro st ⟨a,b,rfl,hab,hb,h1,h2⟩
  dsimp only
  by_cases hlt:a<b
  ·have hm: (a+b) / 2<l.length:=by omega
   have hx:l[(a+b) / 2]? =some l[(a+b) / 2]:=aN hm
   rw [kr hlt,aQ,Fk (by omega)]
   refine Ok.ix hx ?_
   by_cases hc:l[(a+b) / 2]<c
   ·rw [bU hc,aQ,aB]
    refine Ok.nx ⟨⟨(a+b) / 2+1,b,?_,by omega,hb,fun j x hj hx'=>?_,h2⟩,?_⟩
    ·rw [bP (by omega)]
    ·by_cases e:j= (a+b) / 2
     ·subst e;rw [hx] at hx';injection hx' with hx';omega
     ·have:=h.lt (i:=j) (j:=(a+b) / 2) (by omega) hx' hx
      omega
    ·rw [bP (by omega)];simp only;omega
   ·rw [cF hc,aS,aB]
    refine Ok.nx ⟨⟨a,(a+b) / 2,rfl,by omega,by omega,h1,fun j x hj hx'=>?_⟩,by simp only;omega⟩
    by_cases e:j= (a+b) / 2
    ·subst e;rw [hx] at hx';injection hx' with hx';omega
    ·have:=h.lt (i:=(a+b) / 2) (j:=j) (by omega) hx hx'
     omega
  ·rw [x8 (by omega),aS]
   exact Ok.br ⟨a,rfl,by omega,h1,fun j x hj hx=>h2 j x (by omega) hx⟩
 intro o ho
 refine Ok.cs ho ?_ (fun r hr=>r.elim)
 rintro⟨st1,st2⟩ ⟨a,ha,hle,h1,h2⟩
 dsimp only at ha ⊢
 subst ha
 have hin:l[a]? =some c->qj l c=l:=fun hx=>by unfold qj;rw [aC (eZ hx)]
 have hout:l[a]? ≠some c->qj l c=l.take a++c::l.drop a:=fun hx=>by
  have hc:c∉l:=fun hc=>by
   obtain⟨j,hj⟩:=dZ hc
   by_cases h3:j<a
   ·have:=h1 j c h3 hj;omega
   ·by_cases e:j=a
    ·subst e;exact hx hj
    ·have h5:a<l.length:=by have:=(bD.1 hj).1;omega
     have h6:l[a]? =some l[a]:=aN h5
     have h7:=h.lt (i:=a) (j:=j) (by omega) h6 hj
     have h8:=h2 a _ (bT _) h6
     omega
  unfold qj
  rw [aH hc]
  obtain⟨e1,e2⟩:=qh (p:=fun x=>decide (x<c)) (l:=l) (k:=a) (fun j x hj hx'=>bU (h1 j x hj hx')) (fun x hx'=>cF (by have:=h2 a x (bT _) hx';omega))
  rw [e1,e2]
 have hrest:l[a]? ≠some c->Ok ((tm l 0 ((a:Nat):Int)).bind fun x49=>(app 8 ([]:List Int) x49).bind fun x51=>(app 8 x51 ([c]:List Int)).bind fun x54=>(tm l ((a:Nat):Int) ((l.length:Nat):Int)).bind fun x56=>(app 8 x54 x56).bind fun x58=>some x58) (fun r=>r=qj l c):=fun hx=>by
  have htk: (l.take a).length=a:=by rw [cP];omega
  refine Ok.eq (qG l a hle) (Ok.app (by simp only [List.length_nil];omega) (Ok.app (by rw [List.nil_append];simp only [dT,List.length_nil];omega) (Ok.eq (pr l a hle) (Ok.app ?_ (Ok.ret ?_)))))
  ·rw [List.nil_append,cX,iN];simp only [dT,List.length_nil];omega
  ·rw [hout hx];simp
 by_cases hlt:a<l.length
 ·have hx:l[a]? =some l[a]:=aN hlt
  rw [kr hlt,aQ,eI hx,aB,aB]
  refine Ok.bif (fun hb=>Ok.ret ?_) (fun hb=>hrest ?_)
  ·rw [beq_iff_eq] at hb
   rw [hin (by rw [hx,hb])]
  ·rw [beq_eq_false_iff_ne] at hb
   rw [hx];intro e;injection e with e;exact hb e
 ·rw [x8 (by omega),aS,aB,aS]
  exact hrest (by rw [List.getElem?_eq_none (by omega)];intro e;cases e)
theorem Ee (l m:List aI):jy (l++m)=jy l++jy m:=List.flatMap_append
theorem AR {l:List aI} (hl:l.length<=268435456) (hN:4398046511104<=N):g9 N l=some (ku (jy l)):=by
 refine Ok.get ?_
 unfold g9
 refine Ok.bind (Ok.o9 (n:=l.length) (fun s=>s.2) (fun k s=>s.1=ku (jy (l.take k))) (Go:=fun s=>s.1=ku (jy l)) (Rt:=fun _=>False) ?_ ?_ (dJ _) rfl rfl (by omega)) ?_
 ·rintro k ⟨out,i⟩ hk e hI
  dsimp only at e hI ⊢
  subst e;subst hI
  rw [kr hk,aQ]
  have hx:l[k]? =some l[k]:=aN hk
  have h1:=tf (jy (l.take k))
  rw [i6,cP] at h1
  have h2:=x9 (ku (jy (l.take k))) l[k].Y0
  refine Ok.ix hx (Ok.ix hx (Ok.eq (vB (nn _) (by omega) hN) (Ok.eq (vB (te (nn _)) (by omega) hN) (Ok.nx ⟨bP (by omega),?_⟩))))
  rw [dP hk,Ee]
  exact(ve _ _ _).symm
 ·rintro⟨out,i⟩ e hI
  dsimp only at e hI ⊢
  subst e
  rw [my,aS]
  exact Ok.br (by rw [dU] at hI;exact hI)
 intro o ho
 exact Ok.cs ho (fun s hs=>Ok.ret hs) (fun r hr=>hr.elim)
def sp (s:aF):Int×Int:=(s.from_,s.to)
theorem Ij: ∀{l m:List aF},l.map sp=m.map sp->l=m
 | [],[],_=>rfl
 | [],_::_,h=>by cases h
 | _::_,[],h=>by cases h
 | ⟨a,b⟩::l,⟨c,d⟩::m,h=>by
  rw [eB,eB] at h
  injection h with h1 h2
  unfold sp at h1
  injection h1 with h3 h4
  simp only at h3 h4
  rw [h3,h4,Ij h2]
theorem tS (a b:Int): (if b<a then b else a)=min a b:=by split <;> omega
theorem tT (a b:Int): (if a<b then b else a)=max a b:=by split <;> omega
theorem B5 {l:List aF} {s:aF} (hl:l.length<=268435456) (hN:4398046511104<=N):Ok (iG N l s) (fun r=>r.map sp=lP (l.map sp) (sp s)):=by
 unfold iG
 have hget: ∀(j:Nat) (x:Int×Int),(l.map sp)[j]? =some x->∃y,l[j]? =some y/\x=sp y:=fun j x h=>by
  rw [gv] at h
  cases hy:l[j]? with
  | none=>rw [hy] at h;cases h
  | some y=>rw [hy] at h;injection h with h;exact⟨y,rfl,h.symm⟩
 refine Ok.bind (Ok.jH (Go:=fun st:List aF×Int=>∃k:Nat,st= (l.take k,((k:Nat):Int))/\k<=l.length/\(∀(j:Nat) x,j<k->l[j]? =some x->x.to<s.from_)/\(∀x,l[k]? =some x->¬x.to<s.from_)) (Rt:=fun _=>False)
  (fun st=>∃k:Nat,st= (l.take k,((k:Nat):Int))/\k<=l.length/\∀(j:Nat) x,j<k->l[j]? =some x->x.to<s.from_) (fun st=>l.length - st.2.toNat) ?_ ⟨0,by simp,by omega,fun j x hj=>by omega⟩ (by simp;omega)) ?_
 ·rintro st ⟨k,rfl,hk,hI⟩
  dsimp only
  by_cases hlt:k<l.length
  ·have hx:l[k]? =some l[k]:=aN hlt
   rw [kr hlt,aQ,eI hx,aB,aB]
   refine Ok.bif (fun hb=>?_) (fun hb=>?_)
   ·have hb:=of_decide_eq_true hb
    refine Ok.eq rfl (Ok.app ?_ (Ok.nx ⟨⟨k+1,?_,hlt,?_⟩,?_⟩))
    ·rw [cP];simp only [dT,List.length_nil];omega
    ·rw [bP (by omega),dP hlt]
    ·intro j x hj hx'
     by_cases e:j=k
     ·subst e;rw [hx] at hx';injection hx' with hx';rw [<-hx'];exact hb
     ·exact hI j x (by omega) hx'
    ·rw [bP (by omega)];simp only [cL];omega
   ·have hb:=of_decide_eq_false hb
    exact Ok.br ⟨k,rfl,hk,hI,fun x hx'=>by rw [hx] at hx';injection hx' with hx';rw [<-hx'];exact hb⟩
  ·rw [x8 (by omega),aS,aB,aS]
   exact Ok.br ⟨k,rfl,hk,hI,fun x hx'=>by have:=(bD.1 hx').1;omega⟩
 intro o ho
 refine Ok.cs ho ?_ (fun r hr=>hr.elim)
 rintro st ⟨k,rfl,hk,hI,hE⟩
 dsimp only
 obtain⟨e1,e2⟩:=qh (p:=fun a:Int×Int=>decide (a.2< (sp s).1)) (l:=l.map sp) (k:=k) (fun j x hj hx=>by
  obtain⟨y,hy,rfl⟩:=hget j x hx
  exact bU (hI j y hj hy)) (fun x hx=>by
  obtain⟨y,hy,rfl⟩:=hget k x hx
  exact cF (hE y hy))
 refine Ok.bind (Ok.jH (Go:=fun st:aF×Int=>∃i:Nat,st.2= ((i:Nat):Int)/\i<=l.length/\ky (sp s) ((l.drop k).map sp)= (sp st.1,(l.drop i).map sp)) (Rt:=fun _=>False)
  (fun st=>∃i:Nat,st.2= ((i:Nat):Int)/\i<=l.length/\ky (sp s) ((l.drop k).map sp)=ky (sp st.1) ((l.drop i).map sp)) (fun st=>l.length - st.2.toNat) ?_ ⟨k,rfl,hk,rfl⟩ (by simp only [cL];omega)) ?_
 ·rintro⟨s',i'⟩ ⟨i,e,hi,hm⟩
  dsimp only at e hm ⊢
  subst e
  by_cases hlt:i<l.length
  ·have hx:l[i]? =some l[i]:=aN hlt
   have hd: (l.drop i).map sp=sp l[i]::(l.drop (i+1)).map sp:=by rw [tn hlt,eB]
   rw [kr hlt,aQ,eI hx,aB,aB]
   refine Ok.bif (fun hb=>?_) (fun hb=>?_)
   ·have hb:=of_decide_eq_true hb
    refine Ok.eq rfl (Ok.eq rfl (Ok.nx ⟨⟨i+1,bP (by omega),hlt,?_⟩,?_⟩))
    ·rw [hm,hd]
     conv=>lhs;unfold ky
     rw [aC (show (sp l[i]).1<=(sp s').2 from hb),tS,tT]
     rfl
    ·dsimp only;rw [bP (by omega)];simp only [cL];omega
   ·have hb:=of_decide_eq_false hb
    refine Ok.br ⟨i,rfl,hi,?_⟩
    rw [hm,hd]
    conv=>lhs;unfold ky
    rw [aH (show ¬(sp l[i]).1<=(sp s').2 from hb)]
  ·rw [x8 (by omega),aS,aB,aS]
   refine Ok.br ⟨i,rfl,hi,?_⟩
   rw [hm,List.drop_eq_nil_of_le (by omega)];rfl
 intro o ho
 refine Ok.cs ho ?_ (fun r hr=>hr.elim)
 rintro⟨s',i'⟩ ⟨i,e,hi,hm⟩
 dsimp only at e hm ⊢
 subst e
 refine Ok.app ?_ (Ok.eq (pr l i hi) (Ok.app ?_ (Ok.ret ?_)))
 ·rw [cP];simp only [dT,List.length_nil];omega
 ·rw [cX,cP,iN];simp only [dT,List.length_nil];omega
 ·unfold lP
  rw [e1,e2,<-List.map_take,<-List.map_drop,hm]
  simp
theorem AU: ∀(l:List (Int×Int)) (s:Int×Int),(ky s l).2.length<=l.length
 | [],s=>bT _
 | a::l,s=>by
  unfold ky
  split
  ·have:=AU l (min s.1 a.1,max s.2 a.2)
   rw [dT];omega
  ·exact bT _
theorem y8 (l:List (Int×Int)) (s:Int×Int): (lP l s).length<=l.length+1:=by
 unfold lP
 have h1:=AU (l.dropWhile fun a=>decide (a.2<s.1)) s
 have h2: (l.takeWhile (fun x=>decide (x.2<s.1))).length+ (l.dropWhile (fun x=>decide (x.2<s.1))).length=l.length:=by rw [<-cX,List.takeWhile_append_dropWhile]
 rw [cX,dT];omega
def jO (y:Int) (out:List (Int×Int)) (r:aI):List (Int×Int):=if r.Y0<=y/\y<r.Y1 then lP out (r.X0,r.X1) else out
def kT (l:List aI) (y:Int):List (Int×Int):=l.foldl (jO y) []
theorem GU (l:List aI) (r:aI) (y:Int):kT (l++[r]) y=jO y (kT l y) r:=by unfold kT;rw [List.foldl_append];rfl
theorem y9 (y:Int): ∀(l:List aI) (out:List (Int×Int)),(l.foldl (jO y) out).length<=out.length+l.length
 | [],out=>by simp
 | r::l,out=>by
  rw [List.foldl_cons,dT]
  have h1:=y9 y l (jO y out r)
  have h2: (jO y out r).length<=out.length+1:=by
   unfold jO
   split
   ·exact y8 _ _
   ·omega
  omega
theorem qX (l:List aI) (y:Int): (kT l y).length<=l.length:=by
 have:=y9 y l []
 unfold kT;simpa using this
theorem ya (y:Int): ∀(l:List aI) (out:List (Int×Int)),(∀r∈l,r.X0<r.X1)->jG (dG out)->jG (dG (l.foldl (jO y) out))/\∀x,jt (l.foldl (jO y) out) x= (jt out x||sR l x y)
 | [],out,_,h=>⟨h,fun x=>by simp [sR]⟩
 | r::l,out,hr,h=>by
  have h0:=hr r (by simp)
  rw [List.foldl_cons]
  have hst:jG (dG (jO y out r))/\∀x,jt (jO y out r) x= (jt out x||((decide (r.X0<=x)&&decide (x<r.X1))&&(decide (r.Y0<=y)&&decide (y<r.Y1)))):=by
   unfold jO
   by_cases hy:r.Y0<=y/\y<r.Y1
   ·rw [aC hy]
    obtain⟨j1,j2⟩:=xK (l:=out) (s:=(r.X0,r.X1)) h h0
    refine⟨j1,fun x=>?_⟩
    rw [j2,bU hy.1,bU hy.2,Bool.or_comm];simp
   ·rw [aH hy]
    refine⟨h,fun x=>?_⟩
    have: (decide (r.Y0<=y)&&decide (y<r.Y1))=false:=by rw [Bool.and_eq_false_iff,decide_eq_false_iff_not,decide_eq_false_iff_not];omega
    rw [this];simp
  obtain⟨m1,m2⟩:=ya y l (jO y out r) (fun r' hr'=>hr r' (il _ hr')) hst.1
  refine⟨m1,fun x=>?_⟩
  rw [m2,hst.2,Bool.or_assoc];rfl
theorem tg {l:List aI} (h: ∀r∈l,r.X0<r.X1) (y:Int):jG (dG (kT l y))/\∀x,jt (kT l y) x=sR l x y:=by
 obtain⟨h1,h2⟩:=ya y l [] h jX
 exact⟨h1,fun x=>by rw [show jt (kT l y) x=_ from h2 x,show jt [] x=false from rfl,Bool.false_or]⟩
theorem wg {y y':Int}: ∀(l:List aI) (out:List (Int×Int)),(∀r∈l,(r.Y0<=y/\y<r.Y1)↔(r.Y0<=y'/\y'<r.Y1))->l.foldl (jO y) out=l.foldl (jO y') out
 | [],out,_=>rfl
 | r::l,out,h=>by
  rw [List.foldl_cons,List.foldl_cons,wg l _ (fun r' hr'=>h r' (il _ hr'))]
  congr 1
  unfold jO
  have:=h r (by simp)
  by_cases h1:r.Y0<=y/\y<r.Y1
  ·rw [aC h1,aC (this.1 h1)]
  ·rw [aH h1,aH (fun h2=>h1 (this.2 h2))]
theorem Fm {l:List aI} {y y':Int} (h: ∀r∈l,(r.Y0<=y/\y<r.Y1)↔(r.Y0<=y'/\y'<r.Y1)):kT l y=kT l y':=wg l [] h
theorem Ik {l:List aI} {y:Int} (h: ∀r∈l,¬(r.Y0<=y/\y<r.Y1)):kT l y= []:=by
 have: ∀(l:List aI) (out:List (Int×Int)),(∀r∈l,¬(r.Y0<=y/\y<r.Y1))->l.foldl (jO y) out=out:=by
  intro l
  induction l with
  | nil=>intro out _;rfl
  | cons r l ih=>
   intro out h
   rw [List.foldl_cons,ih _ (fun r' hr'=>h r' (il _ hr'))]
   unfold jO;rw [aH (h r (by simp))]
 exact this l [] h
theorem CL {l:List aI} {y:Int} (hl:l.length<=134217728) (hN:4398046511104<=N):Ok (gZ N l y) (fun r=>r.map sp=kT l y):=by
 unfold gZ
 refine Ok.bind (Ok.o9 (n:=l.length) (fun s=>s.2) (fun k s=>s.1.map sp=kT (l.take k) y) (Go:=fun s=>s.1.map sp=kT l y) (Rt:=fun _=>False) ?_ ?_ (dJ _) rfl rfl (by omega)) ?_
 ·rintro k ⟨out,i⟩ hk e hI
  dsimp only at e hI ⊢
  subst e
  rw [kr hk,aQ]
  have hx:l[k]? =some l[k]:=aN hk
  have hlen:out.length<=l.length:=by
   have h1:=qX (l.take k) y
   rw [<-hI,cW,cP] at h1;omega
  rw [eI hx,aB]
  have hst:kT (l.take (k+1)) y=jO y (kT (l.take k) y) l[k]:=by rw [dP hk,GU]
  have hno: ¬(l[k].Y0<=y/\y<l[k].Y1)->Ok ((some out).bind fun s141=>some (Fl.nx (s141,IntKind.wrap .i64 (((k:Nat):Int)+1)):Fl (List aF×Int) Empty)) (IA (fun s'=>s'.2= ((k+1:Nat):Int)/\s'.1.map sp=kT (l.take (k+1)) y) (fun s=>s.1.map sp=kT l y) (fun _=>False)):=fun hy=>by
   rw [aB]
   refine Ok.nx ⟨bP (by omega),?_⟩
   rw [hst];unfold jO;rw [aH hy];exact hI
  by_cases h1:l[k].Y0<=y
  ·rw [bU h1,aQ,aB,aB]
   by_cases h2:y<l[k].Y1
   ·rw [bU h2,aQ]
    refine Ok.bind (P:=fun r:List aF=>r.map sp=kT (l.take (k+1)) y) (Ok.eq rfl (Ok.eq rfl (Ok.bind (B5 (by omega) hN) (fun r hr=>Ok.ret ?_)))) (fun r hr=>Ok.nx ⟨bP (by omega),hr⟩)
    rw [hr,hI,hst];unfold jO;rw [aC ⟨h1,h2⟩];rfl
   ·rw [cF h2,aS]
    exact hno (fun h=>h2 h.2)
  ·rw [cF h1,aS,aB,aS]
   exact hno (fun h=>h1 h.1)
 ·rintro⟨out,i⟩ e hI
  dsimp only at e hI ⊢
  subst e
  rw [my,aS]
  exact Ok.br (by rw [dU] at hI;exact hI)
 intro o ho
 exact Ok.cs ho (fun s hs=>Ok.ret hs) (fun r hr=>hr.elim)
theorem yK {l:List aF} {x:Int} (hl:l.length<=1099511627776) (hN:4398046511104<=N):gD N l x=some (jt (l.map sp) x):=by
 refine Ok.get ?_
 unfold gD
 have hm: ∀b:Bool,(jt (l.map sp) x=b↔(l.any fun s=>decide (s.from_<=x)&&decide (x<s.to))=b):=fun b=>by unfold jt;rw [List.any_map];rfl
 refine Ok.bind (Ok.o9 (n:=l.length) (fun s=>s) (fun k s=>∀(j:Nat) y,j<k->l[j]? =some y->¬(y.from_<=x/\x<y.to)) (Go:=fun s=>jt (l.map sp) x=false) (Rt:=fun r=>r=jt (l.map sp) x) ?_ ?_ (dJ _) rfl (fun j y hj=>by omega) (by omega)) ?_
 ·rintro k i hk e hI
  subst e
  rw [kr hk,aQ]
  have hx:l[k]? =some l[k]:=aN hk
  rw [eI hx,aB]
  have hno: ¬(l[k].from_<=x/\x<l[k].to)->Ok (some (Fl.nx (IntKind.wrap .i64 (((k:Nat):Int)+1)):Fl Int Bool)) (IA (fun s'=>s'= ((k+1:Nat):Int)/\∀(j:Nat) y,j<k+1->l[j]? =some y->¬(y.from_<=x/\x<y.to)) (fun s=>jt (l.map sp) x=false) (fun r=>r=jt (l.map sp) x)):=fun hy=>Ok.nx ⟨bP (by omega),fun j y hj hjy=>by
   by_cases e:j=k
   ·subst e;rw [hx] at hjy;injection hjy with hjy;rw [<-hjy];exact hy
   ·exact hI j y (by omega) hjy⟩
  by_cases h1:l[k].from_<=x
  ·rw [bU h1,aQ,aB,aB]
   by_cases h2:x<l[k].to
   ·rw [bU h2,aQ]
    refine Ok.rt ?_
    symm;rw [hm,kY]
    exact⟨l[k],cM hk,by rw [bU h1,bU h2];rfl⟩
   ·rw [cF h2,aS];exact hno (fun h=>h2 h.2)
  ·rw [cF h1,aS,aB,aS];exact hno (fun h=>h1 h.1)
 ·rintro i e hI
  subst e
  rw [my,aS]
  refine Ok.br ?_
  rw [hm,List.any_eq_false]
  intro y hy
  obtain⟨j,hj⟩:=dZ hy
  have:=hI j y (bD.1 hj).1 hj
  rw [jY,Bool.and_eq_false_iff,decide_eq_false_iff_not,decide_eq_false_iff_not];omega
 intro o ho
 exact Ok.cs ho (fun s hs=>Ok.ret hs.symm) (fun r hr=>Ok.ret hr)
end
end Go.Gk
namespace Go.Gk
open Go Classical
section
variable {α:Type} [DecidableEq α] {N:Nat}
def JU (N:Nat) (p0 p1:List α):Option Bool:=
 bif ((p0.length:Int) != (p1.length:Int)) then (some false) else ((jH (fun(s32:Int)=>(bif (decide (s32< (p0.length:Int))) then ((idx p0 s32).bind fun x45=>(idx p1 s32).bind fun x48=>bif (!(decide (x45=x48))) then (some (.rt false)) else (some (.nx (IntKind.wrap .i64 (s32+1))))) else (some (.br s32)):Option (Fl (Int) Bool))) N 0).bind fun o51=>o51.cs (fun(s32:Int)=>some true) (fun r=>some r))
theorem Ef {l m:List α} (hl:l.length<=1099511627776) (hN:4398046511104<=N):JU N l m=some (decide (l=m)):=by
 refine Ok.get ?_
 unfold JU
 by_cases he:l.length=m.length
 ·rw [show ((((l.length:Nat):Int)) != ((m.length:Nat):Int))=false by rw [he];simp,aS]
  refine Ok.bind (Ok.o9 (n:=l.length) (fun s=>s) (fun k s=>∀j,j<k->l[j]? =m[j]?) (Go:=fun s=>l=m) (Rt:=fun r=>r=false/\l≠m) ?_ ?_ (dJ _) rfl (fun j hj=>by omega) (by omega)) ?_
  ·rintro k i hk e hI
   subst e
   have hx:l[k]? =some l[k]:=aN hk
   have hy:m[k]? =some (m[k]'(by omega)):=aN _
   rw [kr hk,aQ]
   refine Ok.ix hx (Ok.ix hy (Ok.bif (fun hb=>Ok.rt ⟨rfl,fun e=>?_⟩) (fun hb=>Ok.nx ⟨bP (by omega),fun j hj=>?_⟩)))
   ·have h1:some l[k]=some (m[k]'(by omega)):=hx.symm.trans ((by rw [e]:l[k]? =m[k]?).trans hy)
    injection h1 with h1
    rw [h1] at hb;simp at hb
   ·by_cases e:j=k
    ·subst e;rw [hx,hy];simpa using hb
    ·exact hI j (by omega)
  ·rintro i e hI
   subst e
   rw [my,aS]
   refine Ok.br (List.ext_getElem? fun j=>?_)
   by_cases hj:j<l.length
   ·exact hI j hj
   ·rw [List.getElem?_eq_none (by omega),List.getElem?_eq_none (by omega)]
  intro o ho
  exact Ok.cs ho (fun s hs=>Ok.ret (bU hs).symm) (fun r hr=>Ok.ret (by rw [hr.1,cF hr.2]))
 ·rw [show ((((l.length:Nat):Int)) != ((m.length:Nat):Int))=true by rw [bne_iff_ne];omega,aQ]
  exact Ok.ret (cF fun h=>he (by rw [h])).symm
end
section
variable {N:Nat}
theorem CM {l m:List aI} (hl:l.length<=1099511627776) (hN:4398046511104<=N):eF N l m=some (decide (l=m)):=Ef hl hN
theorem CN {l m:List aF} (hl:l.length<=1099511627776) (hN:4398046511104<=N):jM N l m=some (decide (l=m)):=Ef hl hN
def r9 (b:aL):Bd:=⟨b.from_,b.to,dG (b.ja.map sp)⟩
theorem GV {l:List (Int×Int)}:dG l= []↔l= []:=by
 cases l with
 | nil=>exact⟨fun _=>rfl,fun _=>rfl⟩
 | cons s l=>exact⟨fun h=>(by cases h),fun h=>(by cases h)⟩
theorem GW {l m:List aF}:dG (l.map sp)=dG (m.map sp)↔l=m:=⟨fun h=>Ij (BV h),fun h=>by rw [h]⟩
theorem Fp {l:List aL} {b:aL} (hlt:b.from_<b.to) (hl:l.length<=1073741824) (hs: ∀c∈l,c.ja.length<=1099511627776) (hN:4398046511104<=N):
  Ok (fZ N l b) (fun r=>r.map r9=jN (l.map r9) (r9 b)):=by
 unfold fZ jN
 by_cases h0:b.ja= []
 ·rw [show (((b.ja.length:Nat):Int)==0)=true by rw [h0];rfl,aQ,aC (.inl (by unfold r9;rw [h0];rfl))]
  exact Ok.ret rfl
 ·rw [show (((b.ja.length:Nat):Int)==0)=false by rw [beq_eq_false_iff_ne];intro h;exact h0 (List.eq_nil_of_length_eq_zero (by omega)),aS]
  have hne: ¬((r9 b).xs= []\/(r9 b).y1<=(r9 b).y0):=by
   rintro(h | h)
   ·have h:=GV.1 h
    exact h0 (List.map_eq_nil_iff.1 h)
   ·have h:b.to<=b.from_:=h
    omega
  rw [aH hne]
  rcases List.eq_nil_or_concat l with rfl | ⟨A,c,hA⟩
  ·rw [show decide (((([]:List aL).length:Nat):Int)>0)=false by decide,aS,aB,aS]
   exact Ok.app (by simp) (Ok.ret rfl)
  ·rw [List.concat_eq_append] at hA
   subst hA
   have hlen: (A++[c]).length=A.length+1:=by simp
   have hwp:IntKind.wrap .i64 ((((A++[c]).length:Nat):Int) - 1)= ((A.length:Nat):Int):=by rw [Ao (by omega) (by omega),hlen];rfl
   have hlast: (A++[c])[A.length]? =some c:=by simp
   rw [hwp,bU (by omega),aQ,eI hlast,aB,aB,CN (by have:=hs c (by simp);omega) hN,aB,aB,cL]
   have hl2: ((A++[c]).map r9).getLast? =some (r9 c):=by simp
   have hd2: ((A++[c]).map r9).dropLast=A.map r9:=by simp
   rw [hl2,hd2]
   dsimp only
   by_cases h1:c.to=b.from_/\c.ja=b.ja
   ·rw [aC (show (r9 c).y1= (r9 b).y0/\(r9 c).xs= (r9 b).xs from ⟨h1.1,by unfold r9;rw [h1.2]⟩),show (c.to==b.from_)=true by rw [h1.1];simp,aQ,bU h1.2,aB,aQ]
    refine Ok.ret ?_
    rw [List.set_append_right _ _ (bT _),Nat.sub_self]
    simp [r9]
   ·rw [aH (show ¬((r9 c).y1= (r9 b).y0/\(r9 c).xs= (r9 b).xs) from fun h=>h1 ⟨h.1,GW.1 h.2⟩)]
    have e2: (bif (c.to==b.from_) then (some (decide (c.ja=b.ja))) else (some false))=some false:=by
     by_cases h2:c.to=b.from_
     ·rw [show (c.to==b.from_)=true by rw [h2];simp,aQ,cF (fun h=>h1 ⟨h2,h⟩)]
     ·rw [show (c.to==b.from_)=false by simpa using h2,aS]
    rw [e2,aB,aS]
    exact Ok.app (by rw [hlen];simp;omega) (Ok.ret (by simp))
theorem Il {s:List Bd} {b c:Bd} (h:c∈jN s b):c.xs=b.xs\/∃d∈s,c.xs=d.xs:=by
 unfold jN at h
 split at h
 ·exact .inr ⟨c,h,rfl⟩
 ·split at h
  ·rename_i d hd
   split at h
   ·rcases dC.1 h with h | h
    ·exact .inr ⟨c,List.dropLast_subset _ h,rfl⟩
    ·simp at h
     exact .inr ⟨d,List.mem_of_getLast? hd,by rw [h]⟩
   ·rcases dC.1 h with h | h
    ·exact .inr ⟨c,h,rfl⟩
    ·simp at h;exact .inl (by rw [h])
  ·simp at h;exact .inl (by rw [h])
theorem ql {f:Int->List Int} {B:Nat} (hf: ∀y,(f y).length<=B): ∀(ss:List (Int×Int)) (out:List Bd),(∀c∈out,c.xs.length<=B)->(∀c∈mi f ss out,c.xs.length<=B)/\(mi f ss out).length<=out.length+ss.length
 | [],out,h=>⟨h,by simp [mi]⟩
 | s::ss,out,h=>by
  obtain⟨h1,h2⟩:=ql hf ss (jN out ⟨s.1,s.2,f s.1⟩) (fun c hc=>by
   rcases Il hc with h3 | ⟨d,hd,h3⟩
   ·rw [h3];exact hf _
   ·rw [h3];exact h d hd)
  refine⟨h1,?_⟩
  have:=GF out ⟨s.1,s.2,f s.1⟩
  show (mi f ss (jN out ⟨s.1,s.2,f s.1⟩)).length<=_
  rw [dT];omega
theorem mU: ∀(ys:List Int),(km ys).length=ys.length - 1
 | []=>rfl
 | [_]=>rfl
 | a::b::l=>by
  show (km (b::l)).length+1=_
  rw [mU (b::l)];simp
theorem AV: ∀(ys:List Int) (k:Nat) (h:k+1<ys.length),(km ys)[k]? =some (ys[k],ys[k+1])
 | [],k,h=>by simp at h
 | [_],k,h=>by simp at h
 | a::b::l,0,h=>rfl
 | a::b::l,k+1,h=>by
  have:=AV (b::l) k (by simp at h ⊢;omega)
  show (km (b::l))[k]? =_
  rw [this];rfl
theorem Eg (f:Int->List Int) (ss:List (Int×Int)) (s:Int×Int) (out:List Bd):mi f (ss++[s]) out=jN (mi f ss out) ⟨s.1,s.2,f s.1⟩:=by unfold mi;rw [List.foldl_append];rfl
theorem AW {ys:List Int} (hy:jG ys) {f:Int->List Int} {B:Nat} (hf: ∀y,(f y).length<=B) (hB:B<=1099511627776) (hys:ys.length<=1073741824) {out:List aL} {k:Nat} (h1:1<=k) (hk:k<ys.length)
  (hI:out.map r9=mi f ((km ys).take (k - 1)) []) {r:List aF} (hr:dG (r.map sp)=f (ys[k - 1]'(by omega))) (hN:4398046511104<=N):
  Ok (fZ N out ⟨ys[k - 1]'(by omega),ys[k],r⟩) (fun o=>o.map r9=mi f ((km ys).take k) []):=by
 have hlt:ys[k - 1]'(by omega)<ys[k]:=mX.1 hy (k - 1) k (by omega) hk (by omega)
 obtain⟨s1,s2⟩:=ql hf ((km ys).take (k - 1)) [] (fun c hc=>by cases hc)
 have hol:out.length<=ys.length:=by
  have: (out.map r9).length<=ys.length:=by
   rw [hI]
   have h3:=mU ys
   rw [cP] at s2
   simp only [List.length_nil] at s2;omega
  rwa [cW] at this
 refine(Fp hlt (by omega) (fun c hc=>?_) hN).mono fun o ho=>?_
 ·have h3: (r9 c).xs.length<=B:=s1 _ (by rw [<-hI];exact dE.2 ⟨c,hc,rfl⟩)
  have h4: (r9 c).xs.length=2*c.ja.length:=by unfold r9;rw [j7,cW]
  omega
 ·have hg:=AV ys (k - 1) (by omega)
  have hts: (km ys).take k= (km ys).take (k - 1)++[(ys[k - 1]'(by omega),ys[k])]:=by
   have hl:k - 1< (km ys).length:=by rw [mU];omega
   have e:=dP hl
   rw [show k - 1+1=k by omega] at e
   rw [e]
   congr 1
   rw [aN hl] at hg
   injection hg with hg
   rw [hg];simp only [show k - 1+1=k by omega]
  rw [ho,hI,hts,Eg]
  congr 1
  unfold r9
  simp only [hr]
def pT (b:aL):List aI:=b.ja.map fun s=>⟨s.from_,b.from_,s.to,b.to⟩
def lR (l:List aL):List aI:=l.flatMap pT
theorem Eh: ∀(l:List (Int×Int)),Aq (dG l)=l
 | []=>rfl
 | s::l=>by rw [ju];show (s.1,s.2)::Aq (dG l)=_;rw [Eh l]
theorem yL: ∀{l:List aL} {s:List aA},l.map r9=s.map cA->lR l=aR s
 | [],[],_=>rfl
 | [],_::_,h=>by cases h
 | _::_,[],h=>by cases h
 | b::l,c::s,h=>by
  rw [eB,eB] at h
  injection h with h1 h2
  have e:=yL h2
  show pT b++lR l=mo c++aR s
  rw [e]
  congr 1
  unfold r9 cA at h1
  injection h1 with g1 g2 g3
  unfold pT mo
  rw [<-g3,Eh,g1,g2,List.map_map]
  rfl
theorem Ei (l:List aL) (b:aL):lR (l++[b])=lR l++pT b:=by unfold lR;rw [List.flatMap_append];simp
theorem F8 {l:List aL} (hl:l.length<=1099511627776) (hs: ∀b∈l,b.ja.length<=1099511627776) (hr: (lR l).length<=1099511627776) (hN:4398046511104<=N):jl N l=some (lR l):=by
 refine Ok.get ?_
 unfold jl
 refine Ok.bind (Ok.o9 (n:=l.length) (fun s=>s.2) (fun k s=>s.1=lR (l.take k)) (Go:=fun s=>s.1=lR l) (Rt:=fun _=>False) ?_ ?_ (dJ _) rfl rfl (by omega)) ?_
 ·rintro k ⟨out,i⟩ hk e hI
  dsimp only at e hI ⊢
  subst e;subst hI
  rw [kr hk,aQ]
  have hx:l[k]? =some l[k]:=aN hk
  have hsl:=hs _ (cM hk)
  have hts:lR (l.take (k+1))=lR (l.take k)++pT l[k]:=by rw [dP hk,Ei]
  have hlen: (lR (l.take k)).length+l[k].ja.length<=(lR l).length:=by
   have h1: (lR l).length= (lR (l.take (k+1))).length+ (lR (l.drop (k+1))).length:=by
    rw [<-cX];unfold lR;rw [<-List.flatMap_append,List.take_append_drop]
   have h2: (pT l[k]).length=l[k].ja.length:=by unfold pT;rw [cW]
   rw [hts,cX,h2] at h1;omega
  refine Ok.bind (Ok.o9 (n:=l[k].ja.length) (fun s=>s.2) (fun j s=>s.1=lR (l.take k)++(pT l[k]).take j) (Go:=fun s=>s.1=lR (l.take (k+1))) (Rt:=fun _=>False) ?_ ?_ (dJ _) rfl (by simp) (by omega)) ?_
  ·rintro j ⟨o2,i2⟩ hj e hI
   dsimp only at e hI ⊢
   subst e;subst hI
   have hy:l[k].ja[j]? =some l[k].ja[j]:=aN hj
   have hjr:j< (pT l[k]).length:=by unfold pT;rw [cW];exact hj
   refine Ok.ix hx ?_
   rw [kr hj,aQ]
   refine Ok.ix hx (Ok.ix hy (Ok.ix hx (Ok.ix hx (Ok.ix hy (Ok.ix hx (Ok.app ?_ (Ok.nx ⟨bP (by omega),?_⟩)))))))
   ·rw [cX,cP];simp only [dT,List.length_nil];omega
   ·dsimp only
    rw [kE]
    congr 1
    rw [dP hjr]
    congr 1
    simp [pT]
  ·rintro⟨o2,i2⟩ e hI
   dsimp only at e hI ⊢
   subst e;subst hI
   refine Ok.ix hx ?_
   rw [my,aS]
   refine Ok.br ?_
   dsimp only
   rw [hts]
   congr 1
   exact lI (by unfold pT;rw [cW];omega)
  intro o ho
  exact Ok.cs ho (fun s hs=>Ok.nx ⟨bP (by omega),hs⟩) (fun r hr=>hr.elim)
 ·rintro⟨out,i⟩ e hI
  dsimp only at e hI ⊢
  subst e
  rw [my,aS]
  exact Ok.br (by rw [dU] at hI;exact hI)
 intro o ho
 exact Ok.cs ho (fun s hs=>Ok.ret hs) (fun r hr=>hr.elim)
theorem yM {l:List aI} {ys:List Int} (hm: ∀r∈l,r.Y0∈ys/\r.Y1∈ys) {s:Int×Int} {y:Int} (hs:s∈km ys) (hy:jG ys) (h1:s.1<=y) (h2:y<s.2):kT l y=kT l s.1:=Fm fun r hr=>by
 obtain⟨m1,m2⟩:=hm r hr
 obtain⟨_,_,_,h⟩:=qy hy s hs
 rcases h _ m1 with h3 | h3 <;> rcases h _ m2 with h4 | h4 <;> constructor <;> intro h5 <;> omega
theorem CO {l:List aI} {ys:List Int} (hm: ∀r∈l,r.Y0∈ys/\r.Y1∈ys) {y:Int} (h: (∀c∈ys,y<c)\/(∀c∈ys,c<=y)):kT l y= []:=Ik fun r hr hc=>by
 obtain⟨m1,m2⟩:=hm r hr
 rcases h with h | h
 ·have:=h _ m1;omega
 ·have:=h _ m2;omega
theorem CP {l:List aI}: ∀r∈l,r.Y0∈ku (jy l)/\r.Y1∈ku (jy l):=fun r hr=>⟨yJ.2 (lz.2 ⟨r,hr, .inl rfl⟩),yJ.2 (lz.2 ⟨r,hr, .inr rfl⟩)⟩
theorem Im (l:List aI): (ku (jy l)).length<=2*l.length:=by
 have:=tf (jy l)
 rwa [i6] at this
theorem tU {l:List aI} {s:List aA} (hc:eP (s.map cA)) (hcov: ∀x y,uz (s.map cA) x y=sR l x y) (hl:l.length<=10000000) (hok: ∀r∈l,r.X0<r.X1) (hr: (aR s).length<=1099511627776) (hN:4398046511104<=N):
  fz N l=some (aR s):=by
 refine Ok.get ?_
 unfold fz
 refine Ok.eq (AR (by omega) hN) ?_
 have hyl:=Im l
 have hyi:=nn (jy l)
 have hf: ∀y,jG (dG (kT l y))/\(dG (kT l y)).length % 2=0:=fun y=>⟨(tg hok y).1,by rw [j7];omega⟩
 have hfl: ∀y,(dG (kT l y)).length<=20000000:=fun y=>by rw [j7];have:=qX l y;omega
 obtain⟨b1,b2⟩:=y4 (f:=fun y=>dG (kT l y)) hf hyi (fun t ht y h1 h2=>by (try dsimp only);rw [yM CP ht hyi h1 h2]) (fun y h=>by (try dsimp only);rw [CO CP h];rfl)
 have hsame:mi (fun y=>dG (kT l y)) (km (ku (jy l))) []=s.map cA:=tK b1 hc fun x y=>by
  rw [hcov];unfold uz;rw [b2,sT (hf y).1,(tg hok y).2]
 have hmy:= @CP l
 generalize ku (jy l)=ys at *
 refine Ok.bind (Ok.o9 (n:=max 1 ys.length) (fun s=>s.2) (fun k st=>1<=k/\st.1.map r9=mi (fun y=>dG (kT l y)) ((km ys).take (k - 1)) []) (Go:=fun st=>st.1.map r9=s.map cA) (Rt:=fun _=>False) ?_ ?_ (k0:=1) (by omega) rfl ⟨bT _,rfl⟩ (by omega)) ?_
 ·rintro k ⟨out,i⟩ hk e ⟨hk1,hI⟩
  dsimp only at e hI ⊢
  subst e
  have hk2:k<ys.length:=by omega
  rw [kr hk2,aQ,jq hk1 (by omega)]
  refine Ok.idx (by omega) (Ok.idx hk2 (Ok.idx (by omega) (Ok.bind (CL (by omega) hN) fun r hr=>Ok.bind (AW hyi (f:=fun y=>dG (kT l y)) hfl (by omega) (by omega) hk1 hk2 hI (by (try dsimp only);rw [hr]) hN) fun o ho=>Ok.nx ⟨bP (by omega),by omega,?_⟩)))
  rw [Nat.add_sub_cancel];exact ho
 ·rintro⟨out,i⟩ e ⟨hk1,hI⟩
  dsimp only at e hI ⊢
  subst e
  rw [x8 (by omega),aS]
  refine Ok.br ?_
  rw [lI (by rw [mU];omega),hsame] at hI
  exact hI
 intro o ho
 refine Ok.cs ho (fun st hs=>?_) (fun r hr=>hr.elim)
 have e:=yL hs
 obtain⟨s1,s2⟩:=ql (f:=fun y=>dG (kT l y)) hfl (km ys) [] (fun c hc=>by cases hc)
 refine Ok.eq (F8 (l:=st.1) ?_ ?_ (by rw [e];exact hr) hN) (Ok.ret e)
 ·have: (st.1.map r9).length<=ys.length:=by rw [hs,<-hsame];have:=mU ys;simp only [List.length_nil] at s2;omega
  rw [cW] at this;omega
 ·intro b hb
  have h3:=s1 (r9 b) (by rw [hsame,<-hs];exact dE.2 ⟨b,hb,rfl⟩)
  have h4: (r9 b).xs.length=2*b.ja.length:=by unfold r9;rw [j7,cW]
  omega
def qY (w:Int) (p q:Bool):Bool:=((((w==1)&&(p||q))||(((w==2)&&p)&&q))||(((w==3)&&p)&&(!q)))
theorem Io (w:Int):qY w false false=false:=by unfold qY;simp
theorem za (gV:Bool->Bool->Bool) (a b ss:List (Int×Int)) (s:Int×Int) (out:List (Int×Int)):mh gV a b (ss++[s]) out=if gV (jt a s.1) (jt b s.1)=true then lP (mh gV a b ss out) s else mh gV a b ss out:=by unfold mh;rw [List.foldl_append];rfl
theorem wS (gV:Bool->Bool->Bool) (a b:List (Int×Int)): ∀(ss out:List (Int×Int)),(mh gV a b ss out).length<=out.length+ss.length
 | [],out=>by simp [mh]
 | s::ss,out=>by
  have h1:=wS gV a b ss (if gV (jt a s.1) (jt b s.1)=true then lP out s else out)
  have h2: (if gV (jt a s.1) (jt b s.1)=true then lP out s else out).length<=out.length+1:=by
   split
   ·exact y8 _ _
   ·omega
  show (mh gV a b ss (if gV (jt a s.1) (jt b s.1)=true then lP out s else out)).length<=_
  rw [dT];omega
def zb (a b:List (Int×Int)):List Int:=ku (dG a++dG b)
theorem B6 (a b:List (Int×Int)): (zb a b).length<=2*a.length+2*b.length:=by
 have:=tf (dG a++dG b)
 rw [cX,j7,j7] at this
 exact this
theorem Ip {a b:List aF} {w:Int} (ha:a.length<=10000000) (hb:b.length<=10000000) (hN:4398046511104<=N):
  Ok (jT N a b w) (fun r=>r.map sp=mh (qY w) (a.map sp) (b.map sp) (km (zb (a.map sp) (b.map sp))) []):=by
 unfold jT
 have hfl: ∀(l:List aF),(ku (dG (l.map sp))).length<=2*l.length:=fun l=>by
  have:=tf (dG (l.map sp))
  rwa [j7,cW] at this
 refine Ok.bind (Ok.o9 (n:=a.length) (fun s=>s.2) (fun k s=>s.1=ku (dG ((a.take k).map sp))) (Go:=fun s=>s.1=ku (dG (a.map sp))) (Rt:=fun _=>False) ?_ ?_ (dJ _) rfl rfl (by omega)) ?_
 ·rintro k ⟨out,i⟩ hk e hI
  dsimp only at e hI ⊢
  subst e;subst hI
  rw [kr hk,aQ]
  have hx:a[k]? =some a[k]:=aN hk
  have h1:=hfl (a.take k)
  rw [cP] at h1
  have h2:=x9 (ku (dG ((a.take k).map sp))) a[k].from_
  refine Ok.ix hx (Ok.ix hx (Ok.eq (vB (nn _) (by omega) hN) (Ok.eq (vB (te (nn _)) (by omega) hN) (Ok.nx ⟨bP (by omega),?_⟩))))
  rw [dP hk,dI,tL]
  exact(ve _ _ _).symm
 ·rintro⟨out,i⟩ e hI
  dsimp only at e hI ⊢
  subst e
  rw [my,aS]
  exact Ok.br (by rw [dU] at hI;exact hI)
 intro o ho
 refine Ok.cs ho ?_ (fun r hr=>hr.elim)
 rintro⟨xa,ia⟩ hxa
 dsimp only at hxa ⊢
 subst hxa
 refine Ok.bind (Ok.o9 (n:=b.length) (fun s=>s.2) (fun k s=>s.1=ku (dG (a.map sp)++dG ((b.take k).map sp))) (Go:=fun s=>s.1=zb (a.map sp) (b.map sp)) (Rt:=fun _=>False) ?_ ?_ (dJ _) rfl (by simp [dG]) (by omega)) ?_
 ·rintro k ⟨out,i⟩ hk e hI
  dsimp only at e hI ⊢
  subst e;subst hI
  rw [kr hk,aQ]
  have hx:b[k]? =some b[k]:=aN hk
  have h1:=tf (dG (a.map sp)++dG ((b.take k).map sp))
  rw [cX,j7,j7,cW,cW,cP] at h1
  have h2:=x9 (ku (dG (a.map sp)++dG ((b.take k).map sp))) b[k].from_
  refine Ok.ix hx (Ok.ix hx (Ok.eq (vB (nn _) (by omega) hN) (Ok.eq (vB (te (nn _)) (by omega) hN) (Ok.nx ⟨bP (by omega),?_⟩))))
  rw [dP hk,dI,tL,<-kE]
  exact(ve _ _ _).symm
 ·rintro⟨out,i⟩ e hI
  dsimp only at e hI ⊢
  subst e
  rw [my,aS]
  exact Ok.br (by rw [dU] at hI;exact hI)
 intro o ho
 refine Ok.cs ho ?_ (fun r hr=>hr.elim)
 rintro⟨xs,ix⟩ hxs
 dsimp only at hxs ⊢
 have hxl:=B6 (a.map sp) (b.map sp)
 rw [<-hxs,cW,cW] at hxl
 rw [<-hxs]
 clear hxs
 refine Ok.bind (Ok.o9 (n:=max 1 xs.length) (fun s=>s.2) (fun k st=>1<=k/\st.1.map sp=mh (qY w) (a.map sp) (b.map sp) ((km xs).take (k - 1)) []) (Go:=fun st=>st.1.map sp=mh (qY w) (a.map sp) (b.map sp) (km xs) []) (Rt:=fun _=>False) ?_ ?_ (k0:=1) (by omega) rfl ⟨bT _,rfl⟩ (by omega)) ?_
 ·rintro k ⟨out,i⟩ hk e ⟨hk1,hI⟩
  dsimp only at e hI ⊢
  subst e
  have hk2:k<xs.length:=by omega
  rw [kr hk2,aQ,jq hk1 (by omega)]
  have hx:xs[k - 1]? =some (xs[k - 1]'(by omega)):=aN _
  have hy:xs[k]? =some xs[k]:=aN hk2
  have hg:=AV xs (k - 1) (by omega)
  have hts: (km xs).take k= (km xs).take (k - 1)++[(xs[k - 1]'(by omega),xs[k])]:=by
   have hl:k - 1< (km xs).length:=by rw [mU];omega
   have e:=dP hl
   rw [show k - 1+1=k by omega] at e
   rw [e]
   congr 1
   rw [aN hl] at hg
   injection hg with hg
   rw [hg];simp only [show k - 1+1=k by omega]
  have hol:out.length<=xs.length:=by
   have h1:=wS (qY w) (a.map sp) (b.map sp) ((km xs).take (k - 1)) []
   rw [<-hI,cW,cP,mU] at h1
   simp only [List.length_nil] at h1;omega
  refine Ok.ix hx (Ok.ix hx (Ok.eq (yK (by omega) hN) (Ok.eq (yK (by omega) hN) ?_)))
  refine Ok.bind (P:=fun r:List aF=>r.map sp=mh (qY w) (a.map sp) (b.map sp) ((km xs).take k) []) (Ok.bif (fun hb=>?_) (fun hb=>?_)) (fun r hr=>Ok.nx ⟨bP (by omega),by omega,by rw [Nat.add_sub_cancel];exact hr⟩)
  ·refine Ok.ix hx (Ok.ix hy (Ok.bind (B5 (by omega) hN) (fun r hr=>Ok.ret ?_)))
   rw [hr,hI,hts,za,aC (show qY w _ _=true from hb)];rfl
  ·refine Ok.ret ?_
   rw [hI,hts,za,aH (show ¬qY w _ _=true by rw [jY];exact hb)]
 ·rintro⟨out,i⟩ e ⟨hk1,hI⟩
  dsimp only at e hI ⊢
  subst e
  rw [x8 (by omega),aS]
  refine Ok.br ?_
  rw [lI (by rw [mU];omega)] at hI
  exact hI
 intro o ho
 exact Ok.cs ho (fun s hs=>Ok.ret hs) (fun r hr=>hr.elim)
def nU (w:Int) (a b:List aI) (y:Int):List (Int×Int):=mh (qY w) (kT a y) (kT b y) (km (zb (kT a y) (kT b y))) []
theorem Ej (a b:List (Int×Int)):Ends a (zb a b)/\Ends b (zb a b):=by
 constructor <;> intro s hs <;> constructor <;> refine yJ.2 (dC.2 ?_)
 ·exact .inl (List.mem_flatMap.2 ⟨s,hs,by simp⟩)
 ·exact .inl (List.mem_flatMap.2 ⟨s,hs,by simp⟩)
 ·exact .inr (List.mem_flatMap.2 ⟨s,hs,by simp⟩)
 ·exact .inr (List.mem_flatMap.2 ⟨s,hs,by simp⟩)
theorem zc {a b:List aI} (ha: ∀r∈a,r.X0<r.X1) (hb: ∀r∈b,r.X0<r.X1) (w y:Int):jG (dG (nU w a b y))/\∀x,jt (nU w a b y) x=qY w (sR a x y) (sR b x y):=by
 obtain⟨h1,h2⟩:=DU (gV:=qY w) (Io w) (a:=kT a y) (b:=kT b y) (xs:=zb (kT a y) (kT b y)) (nn _) (Ej _ _).1 (Ej _ _).2
 exact⟨h1,fun x=>by rw [show jt (nU w a b y) x=_ from h2 x,(tg ha y).2,(tg hb y).2]⟩
theorem Fq (w:Int) (a b:List aI) (y:Int): (nU w a b y).length<=2*a.length+2*b.length:=by
 have h1:=wS (qY w) (kT a y) (kT b y) (km (zb (kT a y) (kT b y))) []
 have h2:=B6 (kT a y) (kT b y)
 have h3:=qX a y
 have h4:=qX b y
 rw [mU] at h1
 unfold nU
 simp only [List.length_nil] at h1;omega
theorem Ek {a b:List aI} {w:Int} {s:List aA} (hc:eP (s.map cA)) (hcov: ∀x y,uz (s.map cA) x y=qY w (sR a x y) (sR b x y)) (hla:a.length<=10000000) (hlb:b.length<=10000000)
  (ha: ∀r∈a,r.X0<r.X1) (hb: ∀r∈b,r.X0<r.X1) (hr: (aR s).length<=1099511627776) (hN:4398046511104<=N):gM N a b w=some (aR s):=by
 refine Ok.get ?_
 unfold gM
 refine Ok.app (by simp only [List.length_nil];omega) (Ok.app (by rw [List.nil_append];omega) ?_)
 rw [List.nil_append]
 refine Ok.eq (AR (by rw [cX];omega) hN) ?_
 have hyl:=Im (a++b)
 rw [cX] at hyl
 have hyi:=nn (jy (a++b))
 have hmy:= @CP (a++b)
 have hma: ∀r∈a,r.Y0∈ku (jy (a++b))/\r.Y1∈ku (jy (a++b)):=fun r hr=>hmy r (List.mem_append_left _ hr)
 have hmb: ∀r∈b,r.Y0∈ku (jy (a++b))/\r.Y1∈ku (jy (a++b)):=fun r hr=>hmy r (List.mem_append_right _ hr)
 have hf: ∀y,jG (dG (nU w a b y))/\(dG (nU w a b y)).length % 2=0:=fun y=>⟨(zc ha hb w y).1,by rw [j7];omega⟩
 have hfl: ∀y,(dG (nU w a b y)).length<=80000000:=fun y=>by rw [j7];have:=Fq w a b y;omega
 obtain⟨b1,b2⟩:=y4 (f:=fun y=>dG (nU w a b y)) hf hyi (fun t ht y h1 h2=>by (try dsimp only);unfold nU;rw [yM hma ht hyi h1 h2,yM hmb ht hyi h1 h2]) (fun y h=>by
  (try dsimp only);unfold nU;rw [CO hma h,CO hmb h];rfl)
 have hsame:mi (fun y=>dG (nU w a b y)) (km (ku (jy (a++b)))) []=s.map cA:=tK b1 hc fun x y=>by
  rw [hcov];unfold uz;rw [b2,sT (hf y).1,(zc ha hb w y).2]
 clear hmy hma hmb
 generalize ku (jy (a++b))=ys at *
 refine Ok.bind (Ok.o9 (n:=max 1 ys.length) (fun s=>s.2) (fun k st=>1<=k/\st.1.map r9=mi (fun y=>dG (nU w a b y)) ((km ys).take (k - 1)) []) (Go:=fun st=>st.1.map r9=s.map cA) (Rt:=fun _=>False) ?_ ?_ (k0:=1) (by omega) rfl ⟨bT _,rfl⟩ (by omega)) ?_
 ·rintro k ⟨out,i⟩ hk e ⟨hk1,hI⟩
  dsimp only at e hI ⊢
  subst e
  have hk2:k<ys.length:=by omega
  rw [kr hk2,aQ,jq hk1 (by omega)]
  refine Ok.idx (by omega) (Ok.idx hk2 (Ok.idx (by omega) (Ok.idx (by omega) (Ok.bind (CL (by omega) hN) fun r1 hr1=>Ok.bind (CL (by omega) hN) fun r2 hr2=>?_))))
  have l1:r1.length<=10000000:=by have:=qX a (ys[k - 1]'(by omega));rw [<-hr1,cW] at this;omega
  have l2:r2.length<=10000000:=by have:=qX b (ys[k - 1]'(by omega));rw [<-hr2,cW] at this;omega
  refine Ok.bind (Ip l1 l2 hN) fun r hr=>Ok.bind (AW hyi (f:=fun y=>dG (nU w a b y)) hfl (by omega) (by omega) hk1 hk2 hI (by (try dsimp only);rw [hr,hr1,hr2];rfl) hN) fun o ho=>Ok.nx ⟨bP (by omega),by omega,?_⟩
  rw [Nat.add_sub_cancel];exact ho
 ·rintro⟨out,i⟩ e ⟨hk1,hI⟩
  dsimp only at e hI ⊢
  subst e
  rw [x8 (by omega),aS]
  refine Ok.br ?_
  rw [lI (by rw [mU];omega),hsame] at hI
  exact hI
 intro o ho
 refine Ok.cs ho (fun st hs=>?_) (fun r hr=>hr.elim)
 have e:=yL hs
 obtain⟨s1,s2⟩:=ql (f:=fun y=>dG (nU w a b y)) hfl (km ys) [] (fun c hc=>by cases hc)
 refine Ok.eq (F8 (l:=st.1) ?_ ?_ (by rw [e];exact hr) hN) (Ok.ret e)
 ·have: (st.1.map r9).length<=ys.length:=by rw [hs,<-hsame];have:=mU ys;simp only [List.length_nil] at s2;omega
  rw [cW] at this;omega
 ·intro b hb
  have h3:=s1 (r9 b) (by rw [hsame,<-hs];exact dE.2 ⟨b,hb,rfl⟩)
  have h4: (r9 b).xs.length=2*b.ja.length:=by unfold r9;rw [j7,cW]
  omega
theorem CQ (n:Int):cT N n=some (lH n):=rfl
theorem AX {l:List aI} (hl:l.length<=1099511627776) (hN:4398046511104<=N):hZ N l=some (lB l):=by
 refine Ok.get ?_
 unfold hZ lB
 by_cases h:2000<l.length
 ·rw [bU (by omega),aQ,aC h];exact Ok.ret rfl
 ·rw [cF (by omega),aS,aH h]
  refine Ok.bind (Ok.o9 (n:=l.length) (fun s=>s) (fun k s=>∀(j:Nat) x,j<k->l[j]? =some x->kQ x=none) (Go:=fun s=>l.findSome? kQ=none) (Rt:=fun r=>l.findSome? kQ=some r) ?_ ?_ (dJ _) rfl (fun j x hj=>by omega) (by omega)) ?_
  ·rintro k i hk e hI
   subst e
   rw [kr hk,aQ]
   have hx:l[k]? =some l[k]:=aN hk
   have hrt: ∀c,kQ l[k]=some c->l.findSome? kQ=some c:=fun c hc=>by
    rw [List.findSome?_eq_some_iff]
    refine⟨l.take k,l[k],l.drop (k+1),?_,hc,fun x hx'=>?_⟩
    ·rw [List.getElem_cons_drop,List.take_append_drop]
    ·obtain⟨j,hj⟩:=dZ hx'
     have hjk:j<k:=by have:=(bD.1 hj).1;rw [cP] at this;omega
     exact hI j x hjk (by rw [List.getElem?_take_of_lt hjk] at hj;exact hj)
   refine Ok.ix hx ?_
   have hb: ((cT N l[k].X0).bind fun x110=>bif (!x110) then (some true) else ((cT N l[k].Y0).bind fun x112=>bif (!x112) then (some true) else ((cT N l[k].X1).bind fun x114=>bif (!x114) then (some true) else ((cT N l[k].Y1).bind fun x116=>some (!x116)))))=some (!fF l[k]):=by
    rw [CQ,CQ,CQ,CQ]
    unfold fF
    simp only [aB]
    cases lH l[k].X0 <;> cases lH l[k].Y0 <;> cases lH l[k].X1 <;> rfl
   refine Ok.eq hb (Ok.bif (fun h1=>Ok.rt (hrt 1 ?_)) (fun h1=>Ok.bif (fun h2=>Ok.rt (hrt 13 ?_)) (fun h2=>Ok.nx ⟨bP (by omega),fun j x hj hjx=>?_⟩)))
   ·unfold kQ;rw [aH (by rw [jY];simpa using h1)]
   ·unfold kQ
    rw [aC (by simpa using h1),aC (by rw [dM,bR,bR] at h2;exact h2)]
   ·by_cases e:j=k
    ·subst e;rw [hx] at hjx;injection hjx with hjx;rw [<-hjx]
     unfold kQ
     rw [aC (by simpa using h1),aH (by rw [<-jY,dM,bR,bR] at h2;exact h2)]
    ·exact hI j x (by omega) hjx
  ·rintro i e hI
   subst e
   rw [my,aS]
   refine Ok.br ?_
   rw [List.findSome?_eq_none_iff]
   intro x hx
   obtain⟨j,hj⟩:=dZ hx
   exact hI j x (bD.1 hj).1 hj
  intro o ho
  exact Ok.cs ho (fun s hs=>Ok.ret (by rw [hs];rfl)) (fun r hr=>Ok.ret (by rw [hr];rfl))
theorem Ft {l:List aI} {s:List aA} (hs:sX l s):AG l↔aR s=l:=⟨fun⟨t,h1,h2⟩=>by rw [hs.unique h1];exact h2,fun h=>⟨s,hs,h⟩⟩
theorem uc {l:List aI} (hl:l.length<=1073741824) (hN:4398046511104<=N):fH N l=some (j3 l):=by
 refine Ok.get ?_
 unfold fH
 refine Ok.eq (AX (by omega) hN) ?_
 unfold j3
 refine Ok.bif (fun h=>Ok.ret ?_) (fun h=>?_)
 ·rw [aC (by simpa using h)]
 ·have h0:lB l=0:=by simpa using h
  rw [aH (by simpa using h0)]
  obtain⟨hlen,hok⟩:=AH h0
  have hbf: ∀a b:aI,(((decide (a.Y0<b.Y0))||((a.Y0==b.Y0)&&(decide (a.X0<b.X0))))=true)↔¬(b.Y0<a.Y0\/(b.Y0=a.Y0/\b.X0<=a.X0)):=fun a b=>by
   rw [dM,bW,bR,bR,beq_iff_eq];omega
  refine Ok.bind (Ok.jH (Go:=fun _=>Kz l) (Rt:=fun r=>r=8/\¬Kz l) (fun s=>∃k:Nat,s= ((k:Nat):Int)/\1<=k/\∀(j:Nat) a b,j+1<k->l[j]? =some a->l[j+1]? =some b->¬(b.Y0<a.Y0\/(b.Y0=a.Y0/\b.X0<=a.X0))) (fun s=>l.length - s.toNat) ?_ ⟨1,rfl,bT _,fun j a b hj=>by omega⟩ (by simp;omega)) ?_
  ·rintro s ⟨k,rfl,hk,hI⟩
   refine Ok.bif (fun h=>?_) (fun h=>Ok.br fun j a b ha hb=>hI j a b ?_ ha hb)
   ·have hk2:k<l.length:=by have:=of_decide_eq_true h;omega
    rw [jq hk (by omega)]
    have hx:l[k - 1]? =some (l[k - 1]'(by omega)):=aN _
    have hy:l[k]? =some l[k]:=aN hk2
    refine Ok.ix hx (Ok.ix hy ?_)
    unfold iF
    rw [aB]
    refine Ok.bif (fun hb=>Ok.rt ⟨rfl,fun hu=>?_⟩) (fun hb=>Ok.nx ⟨⟨k+1,by rw [bP (by omega)],by omega,fun j a b hj ha hb'=>?_⟩,by rw [bP (by omega)];simp only [cL];omega⟩)
    ·have:=(hbf _ _).2 (hu (k - 1) _ _ hx (by rw [show k - 1+1=k by omega];exact hy))
     rw [this] at hb;cases hb
    ·by_cases e:j+1<k
     ·exact hI j a b e ha hb'
     ·have:j+1=k:=by omega
      have h1:l[k - 1]? =some a:=by rw [show k - 1=j by omega];exact ha
      have h2:l[k]? =some b:=by rw [<-this];exact hb'
      rw [hx] at h1;rw [hy] at h2
      injection h1 with h1;injection h2 with h2
      rw [<-h1,<-h2]
      refine(hbf _ _).1 ?_
      rw [Bool.not_eq_false'] at hb
      exact hb
   ·have:=of_decide_eq_false h
    have:=(bD.1 hb).1;omega
  ·rintro o ho
   refine Ok.cs ho (fun s hu=>?_) (fun r hr=>Ok.ret (by rw [hr.1,aH hr.2]))
   rw [aC hu]
   obtain⟨s,_,hs⟩:=o6 (N:=N) (l:=l) (by omega) hok (by omega)
   obtain⟨z1,z2,z3⟩:=hs.AE
   have z4:2*l.length* (2*l.length)<=4000*4000:=Nat.mul_le_mul (by omega) (by omega)
   refine Ok.eq (tU hs.can hs.cover (by omega) (fun r hr=>(hok r hr).x) (by omega) hN) (Ok.eq (CM (by omega) hN) ?_)
   have hiff:=Ft hs
   refine Ok.bif (fun h=>Ok.ret ?_) (fun h=>Ok.ret ?_)
   ·have h: ¬l=aR s:=by simpa using h
    rw [aH (fun h'=>h (hiff.1 h').symm)]
   ·have h:l=aR s:=by simpa using h
    rw [aC (hiff.2 h.symm)]
end
end Go.Gk
namespace Go.Gk
open Go Classical
theorem AY (n:Nat) (g:Nat->Nat): ((List.range (n+1)).map g).sum= ((List.range n).map g).sum+g n:=by
 rw [List.range_succ,dI,List.sum_append];simp
def Mf (r:aI) (x y:Int):Bool:=(decide (r.X0<=x)&&decide (x<r.X1))&&(decide (r.Y0<=y)&&decide (y<r.Y1))
def L9 (a b:aI):Prop:=∀x y,¬(Mf a x y=true/\Mf b x y=true)
theorem Jk {r:aI} {x y:Int}:Mf r x y=true↔(r.X0<=x/\x<r.X1)/\r.Y0<=y/\y<r.Y1:=by unfold Mf;simp
theorem yb: ∀{xs:List Int},jG xs->(Aq xs).Pairwise (fun p q=>p.2<q.1)
 | [],_=>jX
 | [a],_=>jX
 | a::b::l,h=>by
  unfold Aq
  rw [ov]
  exact⟨fun q hq=>h.tail.head q.1 (CD q hq).1,yb h.tail.tail⟩
def qZ (a b:aI):Prop:=a.Y1<=b.Y0\/(a.Y0=b.Y0/\a.Y1=b.Y1/\a.X1<b.X0)
theorem qZ.apart {a b:aI} (h:qZ a b):L9 a b:=fun x y ⟨h1,h2⟩=>by
 rw [Jk] at h1 h2
 rcases h with h | h <;> omega
theorem qm: ∀{s:List aA},eP (s.map cA)->(aR s).Pairwise qZ
 | [],_=>jX
 | b::s,h=>by
  rw [lG,mW]
  refine⟨?_,qm h.tail,fun x hx y hy=>?_⟩
  ·unfold mo
   rw [List.pairwise_map]
   exact List.Pairwise.imp (fun hpq=> .inr ⟨rfl,rfl,hpq⟩) (yb (h.each (cA b) (by simp)).2.2.1)
  ·unfold mo at hx
   obtain⟨p,_,rfl⟩:=dE.1 hx
   obtain⟨c,hc,q,_,rfl⟩:=qz hy
   exact .inl (h.Al (cA c) (dE.2 ⟨c,hc,rfl⟩))
theorem th {s:List aA} (h:eP (s.map cA)): ∀r∈aR s,r.X0<r.X1/\r.Y0<r.Y1:=fun r hr=>by
 obtain⟨b,hb,p,hp,rfl⟩:=qz hr
 have hc:=h.each (cA b) (dE.2 ⟨b,hb,rfl⟩)
 exact⟨E8 hc.2.2.1 p hp,hc.1⟩
theorem El {s:List aA} (h:eP (s.map cA)): (aR s).Nodup:=by
 have h1:=qm h
 have h2:=th h
 refine List.Pairwise.imp_of_mem (fun{a b} ha hb hab e=>?_) h1
 subst e
 have:=h2 a ha
 rcases hab with h | h <;> omega
def pU (s:List Bd):Nat:=(s.map (fun b=>b.xs.length / 2)).sum
theorem vf (s t:List Bd):pU (s++t)=pU s+pU t:=by unfold pU;rw [dI,List.sum_append]
theorem GX (s:List Bd) (b:Bd):pU (jN s b)<=pU s+b.xs.length / 2:=by
 unfold jN
 split
 ·omega
 ·split
  ·rename_i c hc
   have hsp:=qQ hc
   have e:pU s=pU s.dropLast+c.xs.length / 2:=by
    conv=>lhs;rw [hsp,vf]
    simp [pU]
   split
   ·rw [vf,e];simp [pU]
   ·rw [vf];simp [pU]
  ·simp [pU]
structure NS (t:List Bd):Prop where
 each: ∀b∈t,b.y0<b.y1/\jG b.xs/\b.xs.length % 2=0
 ord:t.Pairwise (fun b c=>b.y1<=c.y0)
theorem fold_push: ∀(t out:List Bd),NS t->eP out->(∀c∈out,∀b∈t,c.y1<=b.y0)->eP (t.foldl jN out)/\pU (t.foldl jN out)<=pU out+pU t/\
  ∀y,rowAt (t.foldl jN out) y=if (∃b∈t,b.y0<=y/\y<b.y1) then rowAt t y else rowAt out y
 | [],out,_,hc,_=>⟨hc,by simp [pU],fun y=>by simp⟩
 | b::t,out,hl,hc,ho=>by
  have hb:=hl.each b (by simp)
  have hord:=ov.1 hl.ord
  have ho1: ∀c∈out,c.y1<=b.y0:=fun c h=>ho c h b (by simp)
  have h1:=vq hc ho1 hb.2.1 hb.2.2
  have htop:=vr ho1 (show b.y0<=b.y1 by omega)
  obtain⟨f1,f2,f3⟩:=fold_push t (jN out b) ⟨fun c hcm=>hl.each c (il _ hcm),hord.2⟩ h1 (fun c hcm d hd=>by have:=htop c hcm;have:=hord.1 d hd;omega)
  refine⟨f1,?_,fun y=>?_⟩
  ·have:=GX out b
   have e:pU (b::t)=b.xs.length / 2+pU t:=by simp [pU]
   rw [List.foldl_cons,e];omega
  ·rw [List.foldl_cons,f3 y,vo ho1 (fun c hcm=>(hc.each c hcm).1) (fun h=>absurd h (by omega)),mO]
   by_cases hy:b.y0<=y/\y<b.y1
   ·have hn: ¬∃c∈t,c.y0<=y/\y<c.y1:=fun⟨c,hcm,h⟩=>by have:=hord.1 c hcm;omega
    rw [aH hn,aC hy,aC ⟨b,by simp,hy⟩,aC hy]
   ·rw [aH hy]
    by_cases h: ∃c∈t,c.y0<=y/\y<c.y1
    ·obtain⟨c,hcm,h⟩:=h
     rw [aC ⟨c,hcm,h⟩,aC ⟨c,il _ hcm,h⟩,aH hy]
    ·rw [aH h,aH hy,aH (show ¬∃c∈b::t,c.y0<=y/\y<c.y1 from fun⟨c,hcm,h2⟩=>by
      rcases dF.1 hcm with rfl | hcm
      ·exact hy h2
      ·exact h ⟨c,hcm,h2⟩)]
noncomputable def pY (C:List aI) (b:aA):Bd:=⟨b.Y0,b.Y1,dG ((Aq b.Xs).filter (fun p=>decide ((⟨p.1,b.Y0,p.2,b.Y1⟩:aI)∈C)))⟩
theorem GY {l m:List (Int×Int)} (h:l.Sublist m): (dG l).Sublist (dG m):=by
 induction h with
 | slnil=>exact List.Sublist.refl _
 | cons a _ ih=>rw [ju];exact(ih.cons _).cons _
 | cons_cons a _ ih=>rw [ju,ju];exact(ih.cons_cons _).cons_cons _
theorem AZ (l:List (Int×Int)): (dG l).length % 2=0/\(dG l).length / 2=l.length:=by rw [j7];omega
theorem B7 {s p:List aA} {C:List aI} (hs:eP (s.map cA)) (hp:eP (p.map cA)) (hC: ∀r∈C,r∈aR s) (hcov: ∀x y,uz (p.map cA) x y=sR C x y): (aR p).length<=C.length:=by
 have hinc: ∀b∈s,jG (pY C b).xs:=fun b hb=>by
  have h1:=F3 hs b hb
  have h2:=GY (List.filter_sublist (l:=Aq b.Xs) (p:=fun p=>decide ((⟨p.1,b.Y0,p.2,b.Y1⟩:aI)∈C)))
  rw [xM (pF hs b hb)] at h2
  exact List.Pairwise.sublist h2 h1
 have hlow:NS (s.map (pY C)):=by
  refine⟨fun b hb=>?_,?_⟩
  ·obtain⟨c,hc,rfl⟩:=dE.1 hb
   exact⟨(hs.each (cA c) (dE.2 ⟨c,hc,rfl⟩)).1,hinc c hc,(AZ _).1⟩
  ·have:=hs.ord
   rw [List.pairwise_map] at this ⊢
   exact List.Pairwise.imp (fun h=>h.1) this
 obtain⟨f1,f2,f3⟩:=fold_push (s.map (pY C)) [] hlow eP.nil (fun c hc=>by cases hc)
 have hrow: ∀{t:List aA},(∀b∈t,b∈s)->∀x y,oX (rowAt (t.map (pY C)) y) x=true->sR C x y=true:=by
  intro t ht x y h
  induction t with
  | nil=>cases h
  | cons b t ih=>
   rw [eB,mO] at h
   split at h
   ·rename_i hy
    have hbm:=ht b (by simp)
    have h1:=hinc b hbm
    have h:oX (dG ((Aq b.Xs).filter (fun p=>decide ((⟨p.1,b.Y0,p.2,b.Y1⟩:aI)∈C)))) x=true:=h
    rw [sT h1,sS] at h
    obtain⟨q,hq,h2⟩:=h
    have hq:=jI.1 hq
    exact i5.2 ⟨_,of_decide_eq_true hq.2,h2,hy⟩
   ·exact ih (fun c hc=>ht c (il _ hc)) h
 have hrow2: ∀x y,sR C x y=true->oX (rowAt (s.map (pY C)) y) x=true:=by
  intro x y h
  obtain⟨r,hr,h1,h2⟩:=i5.1 h
  obtain⟨b,hb,q,hq,rfl⟩:=qz (hC r hr)
  dsimp only at h1 h2
  have key: ∀{t:List aA},(∀c∈t,c∈s)->eP (t.map cA)->b∈t->rowAt (t.map (pY C)) y= (pY C b).xs:=by
   intro t ht hc hbt
   induction t with
   | nil=>cases hbt
   | cons c t ih=>
    rw [eB,mO]
    by_cases hy:c.Y0<=y/\y<c.Y1
    ·rw [aC (show (pY C c).y0<=y/\y< (pY C c).y1 from hy)]
     rcases dF.1 hbt with rfl | hbt
     ·rfl
     ·have:=hc.Al (cA b) (dE.2 ⟨b,hbt,rfl⟩)
      have e1: (cA c).y1=c.Y1:=rfl
      have e2: (cA b).y0=b.Y0:=rfl
      omega
    ·rw [aH (show ¬((pY C c).y0<=y/\y< (pY C c).y1) from hy)]
     rcases dF.1 hbt with rfl | hbt
     ·exact absurd h2 hy
     ·exact ih (fun d hd=>ht d (il _ hd)) hc.tail hbt
  rw [key (fun c hc=>hc) hs hb]
  have h1':=hinc b hb
  show oX (dG ((Aq b.Xs).filter (fun p=>decide ((⟨p.1,b.Y0,p.2,b.Y1⟩:aI)∈C)))) x=true
  rw [sT h1',sS]
  exact⟨q,jI.2 ⟨hq,bU hr⟩,h1⟩
 have hsame:p.map cA= (s.map (pY C)).foldl jN []:=tK hp f1 fun x y=>by
  rw [hcov,eX]
  have e:rowAt ((s.map (pY C)).foldl jN []) y=rowAt (s.map (pY C)) y:=by
   rw [f3]
   by_cases h: ∃b∈s.map (pY C),b.y0<=y/\y<b.y1
   ·rw [aC h]
   ·rw [aH h]
    exact(lO fun b hb=>by
     have: ¬(b.y0<=y/\y<b.y1):=fun h2=>h ⟨b,hb,h2⟩
     omega).symm
  unfold uz
  rw [e]
  exact⟨hrow2 x y,hrow (fun b hb=>hb) x y⟩
 have hc1: (aR p).length=pU (p.map cA):=by
  have: ∀p:List aA,(aR p).length=pU (p.map cA):=fun p=>by
   induction p with
   | nil=>rfl
   | cons b p ih=>rw [lG,cX,nj,ih];unfold pU;rw [eB,eB,List.sum_cons];rfl
  exact this p
 have hc2: ∀s:List aA,pU (s.map (pY C))= ((aR s).filter (fun r=>decide (r∈C))).length:=fun s=>by
  induction s with
  | nil=>rfl
  | cons b s ih=>
   rw [lG,kF,cX,<-ih]
   unfold pU
   rw [eB,eB,List.sum_cons]
   congr 1
   show (dG _).length / 2=_
   rw [(AZ _).2]
   unfold mo
   rw [List.filter_map,cW];rfl
 have hc3: ((aR s).filter (fun r=>decide (r∈C))).length<=C.length:=fR (List.Nodup.sublist List.filter_sublist (El hs)) fun r hr=>of_decide_eq_true (jI.1 hr).2
 rw [hc1,hsame]
 have e0:pU ([]:List Bd)=0:=rfl
 have:=hc2 s
 omega
end Go.Gk
namespace Go.Gk
open Go Classical
section
variable {N:Nat}
theorem Jl (hN:16<=N):i9 N=some true:=by
 have:=GK (N:=N - 16)
 rwa [show N - 16+16=N by omega] at this
theorem wh {all:List aI} (w:aI->Nat): ∀(c:List Nat),((c.filterMap (fun i=>all[i]?)).map w).sum= (c.map (fun i=>(all[i]?).elim 0 w)).sum
 | []=>rfl
 | i::c=>by
  rw [eB,List.sum_cons,<-wh w c]
  cases h:all[i]? with
  | none=>rw [List.filterMap_cons_none (f:=fun i=>all[i]?) h];simp
  | some x=>rw [List.filterMap_cons_some (f:=fun i=>all[i]?) h,eB,List.sum_cons];rfl
theorem Jm {all:List aI} {u:Nat->Nat} (h: ∀i,i<all.length->u i∈bL all.length u) (w:aI->Nat): ((bL all.length u).map (fun k=>((nH all all.length u k).map w).sum)).sum= (all.map w).sum:=by
 have e: (fun k=>((nH all all.length u k).map w).sum)=fun k=>(((List.range all.length).filter (fun x=>decide (u x=k))).map (fun i=>(all[i]?).elim 0 w)).sum:=by
  funext k;unfold nH;rw [wh];rfl
 rw [e,Ed (mQ _ _) u _ (fun x hx=>h x (ru.1 hx))]
 have: ∀m,m<=all.length->((List.range m).map (fun i=>(all[i]?).elim 0 w)).sum= ((all.take m).map w).sum:=by
  intro m
  induction m with
  | zero=>intro _;rfl
  | succ m ih=>
   intro hm
   rw [AY,ih (by omega),dP (by omega),dI,List.sum_append,aN (by omega)]
   simp
 rw [this _ (bT _),dU]
theorem A0: ∀{l m:List Nat},l.length=m.length->(∀(j x y:Nat),l[j]? =some x->m[j]? =some y->x<=y)->l.sum<=m.sum
 | [],[],_,_=>bT _
 | [],_::_,h,_=>by simp at h
 | _::_,[],h,_=>by simp at h
 | a::l,b::m,h,hle=>by
  have h1:=hle 0 a b rfl rfl
  have h2:=A0 (l:=l) (m:=m) (by simpa using h) fun j x y hx hy=>hle (j+1) x y (by simpa using hx) (by simpa using hy)
  rw [List.sum_cons,List.sum_cons];omega
theorem F9 {r hs:List aI} {s:List aA} (h1: ∀x∈r,fF x=true) (h2: ∀x∈hs,fF x=true) (hc:eP (s.map cA)) (hl:wU (sV r++sV hs) (jy r++jy hs) (s.map cA)): ∀q∈aR s,fF q=true/\q.X0<q.X1/\q.Y0<q.Y1:=by
 intro q hq
 have hp:=th hc q hq
 obtain⟨b,hb,p,hpm,rfl⟩:=qz hq
 have hll:=hl (cA b) (dE.2 ⟨b,hb,rfl⟩)
 have hm:=CD p hpm
 have bx: ∀c∈sV r++sV hs,-1000000<=c/\c<=1000000:=fun c hcm=>by
  rcases dC.1 hcm with h | h
  ·obtain⟨x,hx,h⟩:=sW.1 h
   have:=mS (h1 x hx)
   rcases h with rfl | rfl <;> omega
  ·obtain⟨x,hx,h⟩:=sW.1 h
   have:=mS (h2 x hx)
   rcases h with rfl | rfl <;> omega
 have by': ∀c∈jy r++jy hs,-1000000<=c/\c<=1000000:=fun c hcm=>by
  rcases dC.1 hcm with h | h
  ·obtain⟨x,hx,h⟩:=lz.1 h
   have:=mS (h1 x hx)
   rcases h with rfl | rfl <;> omega
  ·obtain⟨x,hx,h⟩:=lz.1 h
   have:=mS (h2 x hx)
   rcases h with rfl | rfl <;> omega
 have g1:=bx _ (hll.2.2 p.1 hm.1)
 have g2:=bx _ (hll.2.2 p.2 hm.2)
 have g3:=by' _ hll.1
 have g4:=by' _ hll.2.1
 exact⟨AF ⟨g1,g3,g2,g4⟩,hp⟩
structure pV (r hs:List aI) (s:List aA) (u:Nat->Nat) (ps:List (List aA)):Prop where
 r1: ∀x∈r,fF x=true
 r2: ∀x∈hs,fF x=true
 k1: ∀x∈r,Bb x
 k2: ∀x∈hs,Bb x
 dr:tN r hs s
 pt:rE s u ps
 xS: (aR s).length<=2000
theorem pV.part {r hs:List aI} {s:List aA} {u:Nat->Nat} {ps:List (List aA)} (h:pV r hs s u ps) {p:List aA} (hp:p∈ps):eP (p.map cA)/\(aR p).length<=2000/\∀q∈aR p,fF q=true/\q.X0<q.X1/\q.Y0<q.Y1:=by
 obtain⟨sx,sy⟩:=h.dr.small h.k1 h.k2
 obtain⟨j,k,g1,g2,g3,g4⟩:=AL h.pt h.dr.can h.dr.lim sx sy hp
 have:=B7 h.dr.can g3.can (fun x hx=>by
  obtain⟨i,_,_,hi⟩:=lW.1 hx
  exact eZ hi) g3.cover
 have h2:=Az (aR s) (aR s).length u k
 have:=h.xS
 exact⟨g3.can,by omega,F9 h.r1 h.r2 g3.can g4⟩
theorem pV.bL {r hs:List aI} {s:List aA} {u:Nat->Nat} {ps:List (List aA)} (h:pV r hs s u ps): ∀i,i< (aR s).length->u i∈Gk.bL (aR s).length u:=fun i hi=>jv.2 ⟨by have:=h.pt.join.le i hi;omega,h.pt.join.rr i hi⟩
theorem pV.total {r hs:List aI} {s:List aA} {u:Nat->Nat} {ps:List (List aA)} (h:pV r hs s u ps): (ps.map (fun p=>(aR p).length)).sum<=(aR s).length:=by
 have h1:=Jm h.bL (fun _=>1)
 have one: ∀l:List aI,(l.map (fun _=>1)).sum=l.length:=fun l=>by
  induction l with
  | nil=>rfl
  | cons x l ih=>simp only [eB,List.sum_cons,ih,dT];omega
 simp only [one] at h1
 rw [<-h1]
 refine A0 (by simp [h.pt.len]) fun j x y hx hy=>?_
 rw [gv,rq] at hx hy
 obtain⟨p,hp,rfl⟩:=hx
 obtain⟨k,hk,rfl⟩:=hy
 have hs:=h.pt.each j k p hk hp
 exact B7 h.dr.can hs.can (fun x hx=>by
  obtain⟨i,_,_,hi⟩:=lW.1 hx
  exact eZ hi) hs.cover
theorem zd {ps:List (List aA)} {x y:Int}:sR (ps.flatMap aR) x y=true↔∃p∈ps,sR (aR p) x y=true:=by
 rw [i5]
 constructor
 ·rintro⟨r,hr,h⟩
  obtain⟨p,hp,hrp⟩:=List.mem_flatMap.1 hr
  exact⟨p,hp,i5.2 ⟨r,hrp,h⟩⟩
 ·rintro⟨p,hp,h⟩
  obtain⟨r,hr,h⟩:=i5.1 h
  exact⟨r,List.mem_flatMap.2 ⟨p,hp,hr⟩,h⟩
theorem pV.cover {r hs:List aI} {s:List aA} {u:Nat->Nat} {ps:List (List aA)} (h:pV r hs s u ps) (x y:Int):sR (ps.flatMap aR) x y=uz (s.map cA) x y:=by
 rw [<-o7 h.dr.can,eX,zd]
 constructor
 ·rintro⟨p,hp,hc⟩
  obtain⟨j,hj⟩:=dZ hp
  have hjl:=(bD.1 hj).1
  have hk: (Gk.bL (aR s).length u)[j]? =some ((Gk.bL (aR s).length u)[j]'(by rw [<-h.pt.len];exact hjl)):=aN _
  have hs:=h.pt.each j _ _ hk hj
  rw [o7 hs.can,hs.cover] at hc
  obtain⟨q,hq,h2⟩:=i5.1 hc
  obtain⟨i,_,_,hi⟩:=lW.1 hq
  exact i5.2 ⟨q,eZ hi,h2⟩
 ·intro hc
  obtain⟨q,hq,h2⟩:=i5.1 hc
  obtain⟨i,hi⟩:=dZ hq
  have hil:=(bD.1 hi).1
  obtain⟨j,hj⟩:=dZ (h.bL i hil)
  have hjl:j<ps.length:=by rw [h.pt.len];exact(bD.1 hj).1
  have hs:=h.pt.each j _ _ hj (aN hjl)
  refine⟨_,cM hjl,?_⟩
  rw [o7 hs.can,hs.cover]
  exact i5.2 ⟨q,lW.2 ⟨i,hil,rfl,hi⟩,h2⟩
theorem A1 {l:List aI} (hl:l.length<=1073741824) (hN:4398046511104<=N):eF N l l=some true:=by
 refine Ok.get ?_
 unfold eF
 rw [show (((l.length:Nat):Int) != ((l.length:Nat):Int))=false by simp,aS]
 refine Ok.bind (Ok.jH (Go:=fun _=>True) (Rt:=fun _=>False) (fun s=>∃k:Nat,s= ((k:Nat):Int)) (fun s=>l.length - s.toNat) ?_ ⟨0,rfl⟩ (by simp;omega)) (fun o ho=>Ok.cs ho (fun _ _=>Ok.ret rfl) (fun r hr=>hr.elim))
 rintro s ⟨k,rfl⟩
 refine Ok.bif (fun h=>?_) (fun _=>Ok.br trivial)
 have hk:k<l.length:=by have:=of_decide_eq_true h;omega
 refine Ok.idx hk (Ok.idx hk ?_)
 rw [show (!decide (l[k]=l[k]))=false by simp,aS,bP (by omega)]
 exact Ok.nx ⟨⟨k+1,rfl⟩,by simp only [cL];omega⟩
section
variable {a:kH} {k8:List (List aA)} {gj:List (List (List aA))} {r:Nat->Nat} {gs:List cN} {ofP ofB tP:List Int} {tQ:List j4}
theorem rJ (b:pS a k8 gj r gs ofP ofB tP tQ) {i:Nat} (hi:i<a.aJ.length): ∃s ps u,k8[i]? =some s/\gj[i]? =some ps/\pV a.aJ[i] (j6 a.aO ((i:Nat):Int)) s u ps:=by
 have hd:k8[i]? =some (k8[i]'(by rw [b.dr.len];exact hi)):=aN _
 have hp:gj[i]? =some (gj[i]'(by rw [b.dr.zw];exact hi)):=aN _
 have hdr:=b.dr.dr i _ _ hi (aN hi) hd
 obtain⟨u,hu⟩:=b.dr.pt i _ _ hi hd hp
 have hreg:=vc.1 (b.r8.NN _ (cM hi))
 exact⟨_,_,u,hd,hp,fun x hx=>((pd.1 hreg.1).2 x hx).1,fun x hx=>(qU b.r8.gb _ x hx).2,(AH hreg.1).2,fun x hx=>(qU b.r8.gb _ x hx).1,hdr,hu,b.xS.1 _ (eZ hd)⟩
theorem Fu (b:pS a k8 gj r gs ofP ofB tP tQ) (hN:4398046511104<=N)
  (h:iE N a=some (some (a.aJ,a.cH,a.aO,a.bV,k8,dO 0 gj,jW a.aO (dO 0 gj),gs,ofP,ofB,tP,tQ),0)):kf N a=some (k8.map aR,0):=by
 refine Ok.get ?_
 unfold kf
 refine Ok.eq h ?_
 show Ok ((mV k8.length _ []).bind _) _
 have hlen:=b.dr.len
 have hc16:=b.r8.xS
 refine Ok.bind (Ok.mV (fun k s=>s= (k8.take k).map aR) (by omega) rfl (fun k s hk e=>?_)) (fun s e=>Ok.ret (by rw [e,dU]))
 subst e
 have hkx:k8[k]? =some k8[k]:=aN hk
 obtain⟨s,ps,u,h1,_,L⟩:=rJ b (i:=k) (by omega)
 rw [hkx] at h1;injection h1 with h1
 refine Ok.ix hkx ?_
 have hr2:=vA b.r8.gb ((k:Nat):Int)
 have hr1:=(b.r8.cs _ (cM (show k<a.aJ.length by omega))).1
 obtain⟨z1,z2,z3⟩:=s8 (A:=5000) L.dr.can L.dr.lim (by rw [cX,kO,kO];omega) (by rw [cX,i6,i6];omega)
 rw [h1]
 refine Ok.eq (xN (pF L.dr.can) (by omega) (fun b hb=>by have:=z2 b hb;omega) (by omega)) (Ok.app (by simp;omega) (Ok.ret ?_))
 rw [dP hk,dI,h1];rfl
end
end
end Go.Gk
namespace Go.Gk
open Go Classical
def A2 (a b:aI):Prop:=(0<min a.X1 b.X1 - max a.X0 b.X0/\0<=min a.Y1 b.Y1 - max a.Y0 b.Y0)\/(0<=min a.X1 b.X1 - max a.X0 b.X0/\0<min a.Y1 b.Y1 - max a.Y0 b.Y0)
theorem GZ {all:List aI} (hB:all.Pairwise qZ) (hp: ∀r∈all,r.X0<r.X1/\r.Y0<r.Y1) {i j:Nat} {a c:aI} (ha:all[i]? =some a) (hc:all[j]? =some c):A2 a c↔i=j\/yc all i j\/yc all j i:=by
 have h1:yc all i j↔CI a c:=⟨fun⟨a',c',e1,e2,h⟩=>by rw [ha] at e1;rw [hc] at e2;injection e1 with e1;injection e2 with e2;rw [e1,e2];exact h,fun h=>⟨a,c,ha,hc,h⟩⟩
 have h2:yc all j i↔CI c a:=⟨fun⟨a',c',e1,e2,h⟩=>by rw [hc] at e1;rw [ha] at e2;injection e1 with e1;injection e2 with e2;rw [e1,e2];exact h,fun h=>⟨c,a,hc,ha,h⟩⟩
 have p1:=hp a (eZ ha)
 have p2:=hp c (eZ hc)
 rw [h1,h2]
 obtain⟨l1,e1⟩:=bD.1 ha
 obtain⟨l2,e2⟩:=bD.1 hc
 unfold A2 CI
 rcases Nat.lt_trichotomy i j with h | h | h
 ·have:=mX.1 hB i j l1 l2 h
  rw [e1,e2] at this
  unfold qZ at this
  rcases this with this | this
  ·constructor
   ·rintro(h3 | h3)
    ·exact .inr (.inl ⟨by omega,by omega,by omega⟩)
    ·omega
   ·rintro(h3 | h3 | h3)
    ·omega
    ·left;omega
    ·omega
  ·constructor
   ·rintro(h3 | h3) <;> omega
   ·rintro(h3 | h3 | h3) <;> omega
 ·subst h
  rw [ha] at hc;injection hc with hc;subst hc
  exact⟨fun _=> .inl rfl,fun _=> .inl (by omega)⟩
 ·have:=mX.1 hB j i l2 l1 h
  rw [e1,e2] at this
  unfold qZ at this
  rcases this with this | this
  ·constructor
   ·rintro(h3 | h3)
    ·exact .inr (.inr ⟨by omega,by omega,by omega⟩)
    ·omega
   ·rintro(h3 | h3 | h3)
    ·omega
    ·omega
    ·left;omega
  ·constructor
   ·rintro(h3 | h3) <;> omega
   ·rintro(h3 | h3 | h3) <;> omega
theorem yN {α:Type} {q q':List α} (h:q <+:q') {t:Nat} {x:α} (hx:q[t]? =some x):q'[t]? =some x:=by
 obtain⟨r,rfl⟩:=h
 rw [gL (bD.1 hx).1];exact hx
def tV (f:Int->Int->Bool) (x y:Int):Prop:=f x y=true/\∀x' y',f x' y'=true->y<y'\/(y=y'/\x<=x')
theorem tV.unique {f:Int->Int->Bool} {x y x' y':Int} (h:tV f x y) (h':tV f x' y'):x=x'/\y=y':=by
 have h1:=h.2 _ _ h'.1
 have h2:=h'.2 _ _ h.1
 omega
theorem Fv {a:aI} {l:List aI} (hp: ∀r∈a::l,r.X0<r.X1/\r.Y0<r.Y1) (hB: ∀r∈l,qZ a r):tV (sR (a::l)) a.X0 a.Y0:=by
 have pa:=hp a (by simp)
 refine⟨i5.2 ⟨a,by simp,by omega,by omega⟩,fun x' y' h=>?_⟩
 obtain⟨r,hr,hx,hy⟩:=i5.1 h
 rcases dF.1 hr with rfl | hr
 ·omega
 ·have:=hB r hr
  unfold qZ at this
  omega
theorem Fw {s:List aA} (hc:eP (s.map cA)) (hne:s≠[]): ∃r t,aR s=r::t/\tV (fun x y=>uz (s.map cA) x y) r.X0 r.Y0/\rI s= ⟨r.X0,r.Y0⟩:=by
 cases s with
 | nil=>exact absurd rfl hne
 | cons b s=>
  have hx:=hc.each (cA b) (by simp)
  have hxs:b.Xs≠[]:=hx.2.1
  have he:b.Xs.length % 2=0:=hx.2.2.2
  obtain⟨x0,x1,xs,e⟩: ∃x0 x1 xs,b.Xs=x0::x1::xs:=by
   match hb:b.Xs with
   | []=>exact absurd hb hxs
   | [x0]=>rw [hb] at he;simp at he
   | x0::x1::xs=>exact⟨x0,x1,xs,rfl⟩
  have hr:aR (b::s)= ⟨x0,b.Y0,x1,b.Y1⟩::((Aq xs).map (fun p=>(⟨p.1,b.Y0,p.2,b.Y1⟩:aI))++aR s):=by
   rw [lG]
   unfold mo
   rw [e];rfl
  have hB:=qm hc
  have hpos:=th hc
  rw [hr] at hB hpos
  refine⟨_,_,hr,?_,by unfold rI;dsimp only;rw [e];rfl⟩
  have:=Fv hpos (ov.1 hB).1
  rw [<-hr] at this
  refine⟨?_,fun x' y' h=>this.2 x' y' ?_⟩
  ·show uz _ _ _=true
   rw [<-o7 hc];exact this.1
  ·rw [o7 hc];exact h
theorem B8 {all:List aI} {u:Nat->Nat} (hB:all.Pairwise qZ) (hp: ∀r∈all,r.X0<r.X1/\r.Y0<r.Y1) (hJ:Joined all u) {h:Nat} {a:aI} (ha:all[h]? =some a) (hu:u h=h):tV (sR (nH all all.length u h)) a.X0 a.Y0:=by
 obtain⟨hl,e⟩:=bD.1 ha
 have pa:=hp a (eZ ha)
 refine⟨i5.2 ⟨a,lW.2 ⟨h,hl,hu,ha⟩,by omega,by omega⟩,fun x' y' hc=>?_⟩
 obtain⟨r,hr,hx,hy⟩:=i5.1 hc
 obtain⟨k,hk,huk,hrk⟩:=lW.1 hr
 have hle:=hJ.le k hk
 by_cases ek:k=h
 ·subst ek;rw [ha] at hrk;injection hrk with hrk;subst hrk;omega
 ·obtain⟨hl2,e2⟩:=bD.1 hrk
  have:=mX.1 hB h k hl hl2 (by omega)
  rw [e,e2] at this
  unfold qZ at this
  omega
theorem tW {u:Nat->Nat}: ∀(d i:Nat),∃t,bL (i+d) u=bL i u++t
 | 0,i=>⟨[],by simp⟩
 | d+1,i=>by
  obtain⟨t,ht⟩:=tW (u:=u) d i
  rw [<-Nat.add_assoc,gI,ht]
  split
  ·exact⟨t++[i+d],by simp⟩
  ·exact⟨t,rfl⟩
theorem Iq {u:Nat->Nat} {i n:Nat} (hi:i<n) (hu:u i=i): (bL n u)[(bL i u).length]? =some i:=by
 obtain⟨t,ht⟩:=tW (u:=u) (n - (i+1)) (i+1)
 rw [show i+1+ (n - (i+1))=n by omega] at ht
 rw [ht,gI,aC hu]
 simp
section
variable {N:Nat}
theorem G0 {a b:aI} (ha:Bb a) (hb:Bb b):i7 N a b=some (decide (A2 a b)):=by
 have a1:=ha.s1;have a2:=ha.s2;have a3:=ha.s3;have a4:=ha.s4
 have b1:=hb.s1;have b2:=hb.s2;have b3:=hb.s3;have b4:=hb.s4
 unfold small at a1 a2 a3 a4 b1 b2 b3 b4
 unfold i7
 rw [tS,tS,tT,tT,fD (x:=min a.X1 b.X1 - max a.X0 b.X0) (by omega) (by omega),fD (x:=min a.Y1 b.Y1 - max a.Y0 b.Y0) (by omega) (by omega)]
 congr 1
 rw [eX]
 unfold A2
 simp only [dM,bW,bR,gt_iff_lt,ge_iff_le]
theorem insert_eq {l:List (List aI)} {r0:aI} {t:List aI} (hl:l.length<=1000000) (hN:4398046511104<=N) (h: ∀x,l[l.length - 1]? =some x->∃x0 t',x=x0::t'/\¬(r0.Y0<x0.Y0\/(r0.Y0=x0.Y0/\r0.X0<x0.X0))):jE N l (r0::t)=some (l++[r0::t]):=by
 refine Ok.get ?_
 unfold jE
 refine Ok.bind (Ok.jH (Go:=fun s=>s= ((l.length:Nat):Int)) (Rt:=fun _=>False) (fun s=>s= ((l.length:Nat):Int)) (fun s=>0) ?_ rfl (by omega)) ?_
 ·rintro s rfl
  by_cases h0:l.length=0
  ·rw [cF (by omega),aS,aB,aS];exact Ok.br rfl
  ·rw [bU (by omega),aQ,jq (by omega) (by omega)]
   have hx:l[l.length - 1]? =some (l[l.length - 1]'(by omega)):=aN _
   obtain⟨x0,t',e,hn⟩:=h _ hx
   have i1:idx (r0::t) 0=some r0:=rfl
   have i2:idx (l[l.length - 1]'(by omega)) 0=some x0:=by rw [e];rfl
   rw [i1,aB,eI hx,aB,i2,aB]
   unfold iF
   rw [aB,aB,show ((decide (r0.Y0<x0.Y0))||((r0.Y0==x0.Y0)&&(decide (r0.X0<x0.X0))))=false by
    rw [<-jY,dM,bW,bR,bR,beq_iff_eq];exact hn,aS]
   exact Ok.br rfl
 intro o ho
 refine Ok.cs ho ?_ (fun r hr=>hr.elim)
 rintro s rfl
 refine Ok.eq (qG l l.length (bT _)) (Ok.app ?_ (Ok.app ?_ (Ok.eq (pr l l.length (bT _)) (Ok.app ?_ (Ok.ret ?_)))))
 ·rw [dU];simp only [List.length_nil];omega
 ·rw [dU];simp only [List.length_nil,cX,dT];omega
 ·rw [dU,List.drop_length];simp only [List.length_nil,cX,dT];omega
 ·simp
structure BI (all:List aI) (u:Nat->Nat) (i:Nat) (q:List Nat) (done:List Bool) (own:List aI):Prop where
 len:done.length=all.length
 nd:q.Nodup
 lt: ∀k∈q,k<all.length/\u k=i
 hd:i∈q
 dn: ∀k,k<all.length->done[k]? =some (decide (u k<i\/k∈q))
 ow:own.map some=q.map (fun k=>all[k]?)
theorem BI.Ma {all:List aI} {u:Nat->Nat} {i:Nat} {q:List Nat} {done:List Bool} {own:List aI} (h:BI all u i q done own):own.length=q.length:=by
 have:=congrArg List.length h.ow
 rwa [cW,cW] at this
theorem BI.xS {all:List aI} {u:Nat->Nat} {i:Nat} {q:List Nat} {done:List Bool} {own:List aI} (h:BI all u i q done own):q.length<=all.length:=by
 have:=fR h.nd (m:=List.range all.length) (fun k hk=>by rw [ru];exact(h.lt k hk).1)
 rwa [List.length_range] at this
theorem BI.at_ {all:List aI} {u:Nat->Nat} {i:Nat} {q:List Nat} {done:List Bool} {own:List aI} (h:BI all u i q done own) {p k:Nat} (hk:q[p]? =some k):own[p]? =all[k]? :=by
 have e:=congrArg (fun l=>l[p]?) h.ow
 simp only [gv,hk,Option.map_some] at e
 cases ho:own[p]? with
 | none=>rw [ho] at e;cases e
 | some x=>rw [ho] at e;injection e
theorem BI.mem {all:List aI} {u:Nat->Nat} {i:Nat} {q:List Nat} {done:List Bool} {own:List aI} (h:BI all u i q done own) {r:aI}:r∈own↔∃k∈q,all[k]? =some r:=by
 have:r∈own↔some r∈own.map some:=by simp
 rw [this,h.ow,dE]
theorem Em {s:List aA} {u:Nat->Nat} {ps:List (List aA)} (hc:eP (s.map cA)) (hP:rE s u ps) (hn: (aR s).length<=2000) (hok: ∀r∈aR s,Bb r) (hps: ∀p∈ps,(aR p).length<=2000) (hN:4398046511104<=N):
  fK N (aR s)=some (ps.map aR):=by
 refine Ok.get ?_
 have hB:=qm hc
 have hpos:=th hc
 have hJ:=hP.join
 have hlen:=hP.len
 have heach:=hP.each
 clear hP hc
 generalize aR s=all at *
 unfold fK
 refine Ok.eq (rB false (by omega)) ?_
 have hadj: ∀a b,(yc all a b\/yc all b a)->u a=u b:=fun a b h=>h.elim (fun h=>hJ.co a b h) (fun h=>(hJ.co b a h).symm)
 refine Ok.bind (Ok.o9 (n:=all.length) (fun st=>st.2.2) (fun i st=>st.1.length=all.length/\(∀k,k<all.length->st.1[k]? =some (decide (u k<i)))/\st.2.1= (ps.take (bL i u).length).map aR) (Go:=fun st=>st.2.1=ps.map aR) (Rt:=fun _=>False) ?_ ?_ (dJ _) rfl
  ⟨by simp,fun k hk=>by simp [hk],by simp [bL]⟩ (by omega)) ?_
 ·rintro i ⟨done,out,ii⟩ hi e ⟨hdl,hdn,hout⟩
  dsimp only at e hdl hdn hout ⊢
  subst e
  rw [kr hi,aQ]
  refine Ok.ix (hdn i hi) (Ok.bif (fun hb=>?_) (fun hb=>?_))
  ·have hlt:u i<i:=of_decide_eq_true hb
   refine Ok.nx ⟨bP (by omega),hdl,fun k hk=>?_,?_⟩
   ·rw [hdn k hk]
    congr 1
    rw [decide_eq_decide]
    have hne:u k≠i:=fun e=>by have:=hJ.rr k hk;rw [e] at this;omega
    omega
   ·rw [gI,aH (by omega)];exact hout
  ·have hge: ¬u i<i:=of_decide_eq_false hb
   have hui:u i=i:=by have:=hJ.le i hi;omega
   have hx:all[i]? =some all[i]:=aN hi
   refine Ok.ix (hdn i hi) (Ok.ix hx ?_)
   refine Ok.bind (Ok.jH (Go:=fun st=>st.1.length=all.length/\(∀k,k<all.length->st.1[k]? =some (decide (u k<i+1)))/\(∀r,r∈st.2.1↔r∈nH all all.length u i)/\st.2.1.length<=all.length) (Rt:=fun _=>False)
    (fun st=>∃(q:List Nat) (t:Nat),st.2.2= ((t:Nat):Int)/\t<=q.length/\BI all u i q st.1 st.2.1/\∀(p k j:Nat),p<t->q[p]? =some k->j<all.length->(yc all k j\/yc all j k)->j∈q)
    (fun st=>all.length+1 - st.2.2.toNat) ?_ ⟨[i],0,rfl,by simp,?_,fun p k j hp=>by omega⟩ (by simp;omega)) ?_
   ·rintro⟨d1,o1,t'⟩ ⟨q,t,e,ht,hI,hcl⟩
    dsimp only at e hI ⊢
    subst e
    have hql:=hI.xS
    have hol:=hI.Ma
    by_cases hlt:t<q.length
    ·rw [kr (by omega:t<o1.length),aQ]
     have hqt:q[t]? =some q[t]:=aN hlt
     have hkt:=hI.lt _ (cM hlt)
     have hya:all[q[t]]? =some all[q[t]]:=aN hkt.1
     refine Ok.bind (Ok.o9 (n:=all.length) (fun st=>st.2.2) (fun j st=>∃q',q <+:q'/\BI all u i q' st.1 st.2.1/\∀j',j'<j->(yc all q[t] j'\/yc all j' q[t])->j'∈q')
      (Go:=fun st=>∃q',q <+:q'/\BI all u i q' st.1 st.2.1/\∀j',j'<all.length->(yc all q[t] j'\/yc all j' q[t])->j'∈q') (Rt:=fun _=>False) ?_ ?_ (dJ _) rfl ⟨q,List.prefix_refl _,hI,fun j' hj=>by omega⟩ (by omega)) ?_
     ·rintro j ⟨d2,o2,jj⟩ hj e ⟨q',hpre,hI',hc'⟩
      dsimp only at e hI' ⊢
      subst e
      rw [kr hj,aQ]
      have hq't:q'[t]? =some q[t]:=by rw [yN hpre hqt]
      have hy2:o2[t]? =some all[q[t]]:=by rw [hI'.at_ hq't];exact hya
      have hz:all[j]? =some all[j]:=aN hj
      have htc:=GZ hB hpos hya hz
      have hcond: ((idx d2 ((j:Nat):Int)).bind fun x1054=>bif (!x1054) then ((idx o2 ((t:Nat):Int)).bind fun x1056=>(idx all ((j:Nat):Int)).bind fun x1058=>(i7 N x1056 x1058).bind fun x1061=>some x1061) else (some false))=some (!decide (u j<i\/j∈q')&&decide (A2 all[q[t]] all[j])):=by
       rw [eI (hI'.dn j hj),aB]
       cases decide (u j<i\/j∈q') with
       | true=>rfl
       | false=>rw [pZ,aQ,eI hy2,aB,eI hz,aB,G0 (hok _ (cM hkt.1)) (hok _ (cM hj)),aB,Bool.true_and]
      refine Ok.eq hcond ?_
      refine Ok.bind (P:=fun st:List Bool×List aI=>∃q',q <+:q'/\BI all u i q' st.1 st.2/\∀j',j'<j+1->(yc all q[t] j'\/yc all j' q[t])->j'∈q') (Ok.bif (fun hb=>?_) (fun hb=>?_)) (fun st hst=>Ok.nx ⟨bP (by omega),hst⟩)
      ·rw [bW,Bool.not_eq_true',decide_eq_false_iff_not,bR] at hb
       have hju:u j=i:=by
        rcases htc.1 hb.2 with h | h
        ·rw [<-h];exact hkt.2
        ·rw [<-hadj _ _ h];exact hkt.2
       have hjq:j∉q':=fun h=>hb.1 (.inr h)
       have hol2:=hI'.Ma
       have hql2:=hI'.xS
       refine Ok.ix (hI'.dn j hj) (Ok.ix hz (Ok.app (by simp only [dT,List.length_nil];omega) (Ok.ret ⟨q'++[j],hpre.trans (List.prefix_append _ _),⟨?_,?_,?_,?_,?_,?_⟩,?_⟩)))
       ·rw [jf];exact hI'.len
       ·rw [List.nodup_append]
        exact⟨hI'.nd,by simp,fun a ha b hb=>by simp at hb;subst hb;exact fun e=>hjq (e▸ha)⟩
       ·intro k hk
        rcases dC.1 hk with hk | hk
        ·exact hI'.lt k hk
        ·simp at hk;subst hk;exact⟨hj,hju⟩
       ·exact List.mem_append_left _ hI'.hd
       ·intro k hk
        rw [cL,fC]
        by_cases e:j=k
        ·subst e
         rw [aC rfl,aC (by rw [hI'.len];exact hj)]
         congr 1
         exact(bU (.inr (by simp))).symm
        ·rw [aH e,hI'.dn k hk]
         congr 1
         rw [decide_eq_decide,dC]
         simp only [ry]
         constructor
         ·exact fun h=>h.elim .inl (fun h=> .inr (.inl h))
         ·exact fun h=>h.elim .inl (fun h=>h.elim .inr (fun h=>absurd h.symm e))
       ·rw [dI,dI,hI'.ow];simp [hz]
       ·intro j' hj' ha
        by_cases e:j'=j
        ·subst e;simp
        ·exact List.mem_append_left _ (hc' j' (by omega) ha)
      ·refine Ok.ret ⟨q',hpre,hI',fun j' hj' ha=>?_⟩
       by_cases e:j'=j
       ·subst e
        have hj2:u j'=i:=by rw [<-hadj _ _ ha];exact hkt.2
        rw [bU (htc.2 (.inr ha)),Bool.and_true,Bool.not_eq_false',bR] at hb
        rcases hb with hb | hb
        ·omega
        ·exact hb
       ·exact hc' j' (by omega) ha
     ·rintro⟨d2,o2,jj⟩ e hI2
      dsimp only at e hI2 ⊢
      subst e
      rw [my,aS]
      exact Ok.br hI2
     intro o ho
     refine Ok.cs ho ?_ (fun r hr=>hr.elim)
     rintro⟨d2,o2,jj⟩ ⟨q',hpre,hI',hc'⟩
     dsimp only at hI' ⊢
     refine Ok.nx ⟨⟨q',t+1,bP (by omega),?_,hI',fun p k j hp hk hj ha=>?_⟩,?_⟩
     ·have:=hpre.length_le;omega
     ·by_cases e:p=t
      ·subst e
       rw [yN hpre hqt] at hk;injection hk with hk;subst hk
       exact hc' j hj ha
      ·have hpq:q[p]? =some (q[p]'(by omega)):=aN _
       rw [yN hpre hpq] at hk;injection hk with hk;subst hk
       exact hpre.subset (hcl p _ j (by omega) hpq hj ha)
     ·rw [bP (by omega)];simp only [cL];omega
    ·rw [x8 (by omega:o1.length<=t),aS]
     have htq:t=q.length:=by omega
     have hcls: ∀k,k<all.length->(k∈q↔u k=i):=fun k hk=>⟨fun h=>(hI.lt k h).2,fun h=>by
      have hstep: ∀a b,yc all a b->(a∈q↔b∈q):=fun a b hab=>by
       have hab':=hab
       obtain⟨ra,rb,e1,e2,_⟩:=hab'
       have hla:=(bD.1 e1).1
       have hlb:=(bD.1 e2).1
       constructor
       ·intro h'
        obtain⟨p,hp⟩:=dZ h'
        exact hcl p a b (by rw [htq];exact(bD.1 hp).1) hp hlb (.inl hab)
       ·intro h'
        obtain⟨p,hp⟩:=dZ h'
        exact hcl p b a (by rw [htq];exact(bD.1 hp).1) hp hla (.inr hab)
      exact hJ.fi (fun k=>k∈q) hstep i k hi hk (by rw [hui,h]) hI.hd⟩
     refine Ok.br ⟨hI.len,fun k hk=>?_,fun r=>?_,by rw [hol];exact hql⟩
     ·rw [hI.dn k hk]
      congr 1
      rw [decide_eq_decide,hcls k hk];omega
     ·rw [hI.mem,lW]
      constructor
      ·rintro⟨k,hk,h⟩
       exact⟨k,(hI.lt k hk).1,(hI.lt k hk).2,h⟩
      ·rintro⟨k,hk,h1,h2⟩
       exact⟨k,(hcls k hk).2 h1,h2⟩
   ·refine⟨by rw [jf];exact hdl,by simp,fun k hk=>by simp at hk;subst hk;exact⟨hi,hui⟩,by simp,fun k hk=>?_,by simp [hx]⟩
    rw [cL,fC]
    by_cases e:i=k
    ·subst e
     rw [aC rfl,aC (by rw [hdl];exact hi)]
     congr 1
     exact(bU (.inr (by simp))).symm
    ·rw [aH e,hdn k hk]
     congr 1
     rw [decide_eq_decide]
     simp only [ry]
     omega
   intro o ho
   refine Ok.cs ho ?_ (fun r hr=>hr.elim)
   rintro⟨d1,o1,t'⟩ ⟨g1,g2,g3,g4⟩
   dsimp only at g1 g2 g3 g4 ⊢
   have hh:=Iq hi hui
   have hml: (bL i u).length<ps.length:=by rw [hlen];exact(bD.1 hh).1
   have hpp:ps[(bL i u).length]? =some ps[(bL i u).length]:=aN hml
   have mZ:=heach _ _ _ hh hpp
   have hcov: ∀x y,uz (ps[(bL i u).length].map cA) x y=sR o1 x y:=fun x y=>by rw [mZ.cover];exact(Jb g3 x y).symm
   have hpl:=hps _ (cM hml)
   refine Ok.eq (tU mZ.can hcov (by omega) (fun r hr=>?_) (by omega) hN) ?_
   ·obtain⟨k,_,_,hk⟩:=lW.1 ((g3 r).1 hr)
    exact(hpos r (eZ hk)).1
   have hfirst: ∀(j h:Nat) p,(bL all.length u)[j]? =some h->ps[j]? =some p->∃r t a,aR p=r::t/\all[h]? =some a/\r.X0=a.X0/\r.Y0=a.Y0:=fun j h p hj hp=>by
    have hs:=heach j h p hj hp
    obtain⟨hhl,hhu⟩:=jv.1 (eZ hj)
    have ha:all[h]? =some all[h]:=aN hhl
    have hne:p≠[]:=fun e=>by
     have hL:=(B8 hB hpos hJ ha hhu).1
     rw [<-hs.cover,e] at hL
     cases hL
    obtain⟨r,t,e1,e2,_⟩:=Fw hs.can hne
    have e2':tV (sR (nH all all.length u h)) r.X0 r.Y0:=⟨by rw [<-hs.cover];exact e2.1,fun x' y' hxy=>e2.2 x' y' (by simp only;rw [hs.cover];exact hxy)⟩
    obtain⟨e3,e4⟩:=e2'.unique (B8 hB hpos hJ ha hhu)
    exact⟨r,t,all[h],e1,ha,e3,e4⟩
   obtain⟨r,t,a,e1,e2,e3,e4⟩:=hfirst _ _ _ hh hpp
   have hheads: (bL i u).length<=i:=lA i u
   rw [e1]
   refine Ok.eq (insert_eq (by rw [hout,cW,cP];omega) hN (fun x hxl=>?_)) (Ok.nx ⟨bP (by omega),g1,g2,?_⟩)
   ·have hol:out.length= (bL i u).length:=by rw [hout,cW,cP];omega
    have hpos2:0< (bL i u).length:=by
     have:=(bD.1 hxl).1;omega
    rw [hout,gv,cW,cP,show min (bL i u).length ps.length= (bL i u).length by omega,List.getElem?_take_of_lt (by omega)] at hxl
    have hp2:ps[(bL i u).length - 1]? =some (ps[(bL i u).length - 1]'(by omega)):=aN _
    rw [hp2] at hxl
    injection hxl with hxl
    have hh2: (bL i u)[(bL i u).length - 1]? =some ((bL i u)[(bL i u).length - 1]'(by omega)):=aN _
    have hm2:=jv.1 (eZ hh2)
    obtain⟨tl,htl⟩:=tW (u:=u) (all.length - i) i
    rw [show i+ (all.length - i)=all.length by omega] at htl
    have hh3: (bL all.length u)[(bL i u).length - 1]? =some ((bL i u)[(bL i u).length - 1]'(by omega)):=by rw [htl,gL (by omega)];exact hh2
    obtain⟨r',t',a',f1,f2,f3,f4⟩:=hfirst _ _ _ hh3 hp2
    refine⟨r',t',by rw [<-hxl];exact f1,?_⟩
    obtain⟨l1,q1⟩:=bD.1 f2
    obtain⟨l2,q2⟩:=bD.1 e2
    have hbh:=mX.1 hB _ _ l1 l2 hm2.1
    rw [q1,q2] at hbh
    have p1:=hpos a' (eZ f2)
    unfold qZ at hbh
    rw [e3,e4,f3,f4]
    omega
   ·dsimp only
    rw [gI,aC hui,cX,hout]
    simp only [dT,List.length_nil]
    rw [dP hml,dI,eB,List.map_nil,e1]
 ·rintro⟨done,out,ii⟩ e ⟨_,_,hout⟩
  dsimp only at e hout ⊢
  subst e
  rw [my,aS]
  refine Ok.br ?_
  dsimp only
  rw [hout,lI (by rw [hlen];omega)]
 intro o ho
 exact Ok.cs ho (fun s hs=>Ok.ret hs) (fun r hr=>hr.elim)
end
end Go.Gk
namespace Go.Gk
open Go Classical
section
variable {α β:Type}
end
def ze (p q:fG):Prop:=eJ.lt p.Part q.Part\/(p.Part=q.Part/\eJ.lt p.fG q.fG)
theorem Ga {p q:fG} (h1:p.Part=q.Part) (h2:p.fG=q.fG):p=q:=by cases p;cases q;simp at h1 h2;subst h1;subst h2;rfl
theorem ze.irrefl (p:fG): ¬ze p p:=fun h=>by
 rcases h with h | ⟨_,h⟩
 ·exact eJ.lt_irrefl _ h
 ·exact eJ.lt_irrefl _ h
theorem ze.trans {p q r:fG} (h1:ze p q) (h2:ze q r):ze p r:=by
 rcases h1 with h1 | ⟨e1,h1⟩ <;> rcases h2 with h2 | ⟨e2,h2⟩
 ·exact .inl (eJ.lt_trans h1 h2)
 ·exact .inl (by rw [<-e2];exact h1)
 ·exact .inl (by rw [e1];exact h2)
 ·exact .inr ⟨e1.trans e2,eJ.lt_trans h1 h2⟩
theorem ze.total (p q:fG):ze p q\/p=q\/ze q p:=by
 rcases eJ.DS p.Part q.Part with h | h | h
 ·exact .inl (.inl h)
 ·rcases eJ.DS p.fG q.fG with h' | h' | h'
  ·exact .inl (.inr ⟨h,h'⟩)
  ·exact .inr (.inl (Ga h h'))
  ·exact .inr (.inr (.inr ⟨h.symm,h'⟩))
 ·exact .inr (.inr (.inl h))
theorem ze.asymm {p q:fG} (h:ze p q): ¬ze q p:=fun h'=>ze.irrefl p (h.trans h')
theorem ze.ne {p q:fG} (h:ze p q):p≠q:=fun e=>by subst e;exact ze.irrefl _ h
theorem ti {a b:eJ}:Lib.compareBytes a.dA b.dA=0↔a=b:=⟨fun h=>eJ.ext' ((wE _ _).1 h),fun h=>(wE _ _).2 (by rw [h])⟩
theorem tX {p q:fG}:k7 p q=0↔p=q:=by
 unfold k7
 by_cases h:Lib.compareBytes p.Part.dA q.Part.dA=0
 ·rw [aH (by simpa using h),ti]
  exact⟨fun h'=>Ga (ti.1 h) h',fun h'=>by rw [h']⟩
 ·rw [aC h]
  exact⟨fun h'=>absurd h' h,fun h'=>absurd (ti.2 (by rw [h'])) h⟩
theorem wT {p q:fG}:k7 p q<0↔ze p q:=by
 unfold k7 ze
 by_cases h:Lib.compareBytes p.Part.dA q.Part.dA=0
 ·rw [aH (by simpa using h),wD]
  have e:=ti.1 h
  constructor
  ·exact fun h'=> .inr ⟨e,h'⟩
  ·rintro(h' | ⟨_,h'⟩)
   ·rw [e] at h';exact absurd h' (eJ.lt_irrefl _)
   ·exact h'
 ·rw [aC h,wD]
  constructor
  ·exact fun h'=> .inl h'
  ·rintro(h' | ⟨e,_⟩)
   ·exact h'
   ·exact absurd (ti.2 e) h
theorem Fx {p q:fG}:0<k7 p q↔ze q p:=by
 constructor
 ·intro h
  rcases ze.total p q with h' | h' | h'
  ·have:=wT.2 h';omega
  ·have:=tX.2 h';omega
  ·exact h'
 ·intro h
  by_cases h1:k7 p q<0
  ·exact absurd (wT.1 h1) h.asymm
  ·by_cases h2:k7 p q=0
   ·exact absurd (tX.1 h2).symm h.ne
   ·omega
section
variable {N:Nat}
structure Fy (a:kH) (x:fP):Prop where
 name:ny x.Part=true/\isWord x.fG=true
 L8:0<=x.cK/\x.cK< ((a.aJ.length:Nat):Int)
 at_:qT x.At=true
structure vC (a:kH):Prop where
 xS:a.bV.length<=1000
 each: ∀x∈a.bV,Fy a x
 up:a.bV.Pairwise (fun x y=>ze (nk x) (nk y))
theorem CR {a:kH} {k:Nat} {x:fP} (hx:a.bV[k]? =some x) (h:kq a k=none):Fy a x/\∀y,0<k->a.bV[k - 1]? =some y->ze (nk y) (nk x):=by
 unfold kq at h
 rw [hx,Option.bind_some] at h
 split at h
 ·rename_i h1
  split at h
  ·rename_i h2
   split at h
   ·cases h
   ·rename_i h3
    rw [bW] at h1 h2
    unfold fV at h2
    rw [bW,bR,bR] at h2
    refine⟨⟨h1,⟨by omega,by omega⟩,h2.2⟩,fun y hk hy=>?_⟩
    have h4: ¬k7 (nk x) (nk y)<=0:=fun h4=>h3 ⟨hk,y,hy,h4⟩
    exact Fx.1 (by omega)
  ·cases h
 ·cases h
theorem A3 {a:kH} {k:Nat} {e:Int} (h:kq a k=some e):e≠0:=by
 unfold kq at h
 cases hx:a.bV[k]? with
 | none=>rw [hx] at h;cases h
 | some x=>
  rw [hx,Option.bind_some] at h
  repeat' split at h
  all_goals first | (injection h with h;omega) | cases h
theorem G1 {a:kH} (h:mT a=0):vC a:=by
 unfold mT at h
 split at h
 ·omega
 rename_i hl
 have hn:vL a.bV.length (kq a)=none:=by
  cases hf:vL a.bV.length (kq a) with
  | none=>rfl
  | some e=>
   rw [hf] at h
   obtain⟨k,_,hk,_⟩:=o4.1 hf
   exact absurd h (A3 hk)
 rw [n9] at hn
 have hg: ∀(k:Nat) x,a.bV[k]? =some x->Fy a x/\∀y,0<k->a.bV[k - 1]? =some y->ze (nk y) (nk x):=fun k x hx=>CR hx (hn k (bD.1 hx).1)
 refine⟨by omega,fun x hx=>?_,?_⟩
 ·obtain⟨k,hk⟩:=dZ hx
  exact(hg k x hk).1
 ·have hstep: ∀(n i:Nat) x y,a.bV[i]? =some x->a.bV[i+n+1]? =some y->ze (nk x) (nk y):=by
   intro n
   induction n with
   | zero=>intro i x y hx hy;exact(hg (i+1) y hy).2 x (by omega) hx
   | succ n ih=>
    intro i x y hx hy
    have hz:i+n+1<a.bV.length:=by have:=(bD.1 hy).1;omega
    have h1:=ih i x _ hx (aN hz)
    exact h1.trans ((hg (i+ (n+1)+1) y hy).2 _ (by omega) (by rw [show i+ (n+1)+1 - 1=i+n+1 by omega];exact aN hz))
  rw [mX]
  intro i j hi hj hij
  exact hstep (j - i - 1) i _ _ (aN hi) (by rw [show i+ (j - i - 1)+1=j by omega];exact aN hj)
theorem vC.inj {a:kH} (h:vC a) {i j:Nat} {x y:fP} (hx:a.bV[i]? =some x) (hy:a.bV[j]? =some y) (e:nk x=nk y):i=j:=by
 obtain⟨h1,rfl⟩:=bD.1 hx
 obtain⟨h2,rfl⟩:=bD.1 hy
 have hp:=mX.1 h.up
 rcases Nat.lt_trichotomy i j with h3 | h3 | h3
 ·exact absurd e (hp i j h1 h2 h3).ne
 ·exact h3
 ·exact absurd e.symm (hp j i h2 h1 h3).ne
end
end Go.Gk
namespace Go.Gk
open Go Classical
theorem vg {α β:Type} {l:List α} {f:α->Option β} {k:Nat} {x:α} {c:β} (hx:l[k]? =some x) (hn: ∀(j:Nat) y,j<k->l[j]? =some y->f y=none) (hc:f x=some c):l.findSome? f=some c:=by
 obtain⟨hk,rfl⟩:=bD.1 hx
 rw [List.findSome?_eq_some_iff]
 refine⟨l.take k,l[k],l.drop (k+1),?_,hc,fun y hy=>?_⟩
 ·rw [List.getElem_cons_drop,List.take_append_drop]
 ·obtain⟨j,hj⟩:=dZ hy
  have hjk:j<k:=by have:=(bD.1 hj).1;rw [cP] at this;omega
  exact hn j y hjk (by rw [List.getElem?_take_of_lt hjk] at hj;exact hj)
theorem zf {α β:Type} {l:List α} {f:α->Option β} (h: ∀(j:Nat) y,j<l.length->l[j]? =some y->f y=none):l.findSome? f=none:=by
 rw [List.findSome?_eq_none_iff]
 intro x hx
 obtain⟨j,hj⟩:=dZ hx
 exact h j x (bD.1 hj).1 hj
section
variable {N:Nat}
theorem Mb (c:UInt8): (bif (!((((decide (((c.toNat:Nat):Int)>=97))&&(decide (((c.toNat:Nat):Int)<=122)))||((decide (((c.toNat:Nat):Int)>=65))&&(decide (((c.toNat:Nat):Int)<=90))))||((decide (((c.toNat:Nat):Int)>=48))&&(decide (((c.toNat:Nat):Int)<=57))))) then ((gX N (⟨[95,43,45,35]⟩) ((c.toNat:Nat):Int)).bind fun x50=>some (decide (x50<0))) else (some false))=some (D2 c):=by
 rw [tM,aB]
 unfold D2
 generalize decide (Lib.indexByte (⟨[95,43,45,35]⟩:eJ).dA c<0)=p
 have e: (!((((decide (((c.toNat:Nat):Int)>=97))&&(decide (((c.toNat:Nat):Int)<=122)))||((decide (((c.toNat:Nat):Int)>=65))&&(decide (((c.toNat:Nat):Int)<=90))))||((decide (((c.toNat:Nat):Int)>=48))&&(decide (((c.toNat:Nat):Int)<=57)))))= ((((decide (((c.toNat:Nat):Int)<65))||(decide (((c.toNat:Nat):Int)>90)))&&((decide (((c.toNat:Nat):Int)<97))||(decide (((c.toNat:Nat):Int)>122))))&&((decide (((c.toNat:Nat):Int)<48))||(decide (((c.toNat:Nat):Int)>57)))):=by
  rw [eX]
  simp only [Bool.not_eq_true',Bool.or_eq_false_iff,Bool.and_eq_false_iff,decide_eq_false_iff_not,bW,dM,bR]
  omega
 rw [e]
 cases ((((decide (((c.toNat:Nat):Int)<65))||(decide (((c.toNat:Nat):Int)>90)))&&((decide (((c.toNat:Nat):Int)<97))||(decide (((c.toNat:Nat):Int)>122))))&&((decide (((c.toNat:Nat):Int)<48))||(decide (((c.toNat:Nat):Int)>57)))) with
 | true=>rw [aQ,Bool.true_and]
 | false=>rw [aS,Bool.false_and]
theorem zg {s:eJ} (h:s.dA.length<=1048576) (hN:4194304<=N):gC N s=some (isWord s):=by
 refine Ok.get ?_
 unfold gC isWord
 refine Ok.bind (Ok.o9 (n:=s.dA.length) (fun s=>s) (fun k _=>∀(j:Nat) x,j<k->s.dA[j]? =some x->D2 x=false) (Go:=fun _=>s.dA.any D2=false) (Rt:=fun r=>r=false/\s.dA.any D2=true) ?_ ?_ (dJ _) rfl (fun j x hj=>by omega) (by omega)) ?_
 ·rintro k i hk e hI
  subst e
  rw [kr hk,aQ]
  refine Ok.eq (DR s k hk) (Ok.eq (Mb _) (Ok.bif (fun hb=>Ok.rt ⟨rfl,kY.2 ⟨_,cM hk,hb⟩⟩) (fun hb=>Ok.nx ⟨bP (by omega),fun j x hj hx=>?_⟩)))
  by_cases e:j=k
  ·subst e;rw [aN hk] at hx;injection hx with hx;rw [<-hx];exact hb
  ·exact hI j x (by omega) hx
 ·rintro i e hI
  subst e
  rw [my,aS]
  refine Ok.br ?_
  rw [List.any_eq_false]
  intro x hx
  obtain⟨j,hj⟩:=dZ hx
  rw [hI j x (bD.1 hj).1 hj];exact nI
 intro o ho
 refine Ok.cs ho (fun s' hs'=>?_) (fun r hr=>Ok.ret (by rw [hr.1,hr.2];rfl))
 rw [hs']
 show Ok ((some _).bind _) _
 refine Ok.ret ?_
 rw [pZ,Bool.true_and]
 congr 1 <;> · rw [decide_eq_decide];omega
theorem En {s:eJ} (h:s.dA.length<=1048576) (hN:4194304<=N):jD N s=some (ny s):=by
 refine Ok.get ?_
 unfold jD ny
 refine Ok.eq (D4 47 h hN) ?_
 have hsn:=B1 s 47
 refine Ok.bind (Ok.o9 (n:=(nT s 47).length) (fun s=>s) (fun k _=>∀(j:Nat) x,j<k->(nT s 47)[j]? =some x->isWord x=true) (Go:=fun _=>(nT s 47).all isWord=true) (Rt:=fun r=>r=false/\(nT s 47).all isWord=false) ?_ ?_ (dJ _) rfl (fun j x hj=>by omega) (by omega)) ?_
 ·rintro k i hk e hI
  subst e
  rw [kr hk,aQ]
  have hx: (nT s 47)[k]? =some (nT s 47)[k]:=aN hk
  have hl:=B0 (cM hk)
  refine Ok.ix hx (Ok.eq (zg (by omega) hN) (Ok.bif (fun hb=>Ok.rt ⟨rfl,?_⟩) (fun hb=>Ok.nx ⟨bP (by omega),fun j x hj hx'=>?_⟩)))
  ·rw [List.all_eq_false]
   exact⟨_,cM hk,by simpa using hb⟩
  ·by_cases e:j=k
   ·subst e;rw [hx] at hx';injection hx' with hx';rw [<-hx'];simpa using hb
   ·exact hI j x (by omega) hx'
 ·rintro i e hI
  subst e
  rw [my,aS]
  refine Ok.br ?_
  rw [kZ]
  intro x hx
  obtain⟨j,hj⟩:=dZ hx
  exact hI j x (bD.1 hj).1 hj
 intro o ho
 refine Ok.cs ho (fun s' hs'=>Ok.ret ?_) (fun r hr=>Ok.ret (by rw [hr.1,hr.2,Bool.and_false]))
 rw [hs',Bool.and_true,decide_eq_decide];omega
theorem rK (n lo hi:Int):eA N n lo hi=some (fV n lo hi):=rfl
theorem ma {b:cE} (h:pX b=true):cJ N b=some (uA b):=mR (N:=N) h
theorem yO {b:cE}:gS N b=some (mq b).2:=by
 have e1: (bif (!(fV b.dH 1 10000)) then (some true) else (some (!(qT b.At))))=some (!pX b):=by unfold pX;cases fV b.dH 1 10000 <;> rfl
 have e2: ∀n,cT N n=some (lH n):=fun _=>rfl
 unfold gS mq
 rw [rK,aB,y6,aB,e1,aB]
 cases hf:pX b with
 | false=>rfl
 | true=>
  rw [mY,aS,ma hf,aB]
  simp only [e2,aB]
  unfold fF
  cases lH (uA b).X0 <;> cases lH (uA b).Y0 <;> cases lH (uA b).X1 <;> cases lH (uA b).Y1 <;> rfl
theorem KC {x y:fP}: ((x.Part.tk y.Part)||((x.Part.tj y.Part)&&(x.fG.tk y.fG||x.fG.tj y.fG)))=decide (k7 (nk x) (nk y)<=0):=by
 have hle:k7 (nk x) (nk y)<=0↔ze (nk x) (nk y)\/nk x=nk y:=by
  rw [<-wT,<-tX];omega
 rw [eX,bR,hle,dM,bW,dM,Cu,Cu]
 unfold ze nk
 simp only [fG.mk.injEq]
 constructor
 ·rintro(h | ⟨h1,h2 | h2⟩)
  ·exact .inl (.inl h)
  ·exact .inl (.inr ⟨h1,h2⟩)
  ·exact .inr ⟨h1,h2⟩
 ·rintro((h | ⟨h1,h2⟩) | ⟨h1,h2⟩)
  ·exact .inl h
  ·exact .inr ⟨h1, .inl h2⟩
  ·exact .inr ⟨h1, .inr h2⟩
theorem A4 {a:kH} (hc:a.aJ.length<=1073741824) (hl:a.bV.length<=1073741824) {k:Nat} {x:fP} (hx:a.bV[k]? =some x) (hn:x.Part.dA.length<=1048576/\x.fG.dA.length<=1048576) (hN:4194304<=N):iH N a ((k:Nat):Int)=some ((kq a k).getD 0):=by
 have hk:=(bD.1 hx).1
 have hw:IntKind.wrap .i64 (((a.aJ.length:Nat):Int) - 1)= ((a.aJ.length:Nat):Int) - 1:=fD (by omega) (by omega)
 unfold iH kq
 rw [eI hx,aB,En hn.1 hN,aB,hx,Option.bind_some]
 have e1: (bif (!(ny x.Part)) then (some true) else ((gC N x.fG).bind fun x44=>some (!x44)))=some (!(ny x.Part&&isWord x.fG)):=by
  rw [zg hn.2 hN,aB]
  cases ny x.Part <;> rfl
 rw [e1,aB]
 cases h1: (ny x.Part&&isWord x.fG) with
 | false=>rw [pZ,aQ,aH nI];rfl
 | true=>
  rw [mY,aS,aC rfl,hw,rK,aB]
  have e2: (bif (!(fV x.cK 0 (((a.aJ.length:Nat):Int) - 1))) then (some true) else ((f0 N x.At).bind fun x57=>some (!x57)))=some (!(fV x.cK 0 (((a.aJ.length:Nat):Int) - 1)&&qT x.At)):=by
   rw [y6,aB]
   cases fV x.cK 0 (((a.aJ.length:Nat):Int) - 1) <;> rfl
  rw [e2,aB]
  cases h2: (fV x.cK 0 (((a.aJ.length:Nat):Int) - 1)&&qT x.At) with
  | false=>rw [pZ,aQ,aH nI];rfl
  | true=>
   rw [mY,aS,aC rfl]
   by_cases h0:0<k
   ·have hy:a.bV[k - 1]? =some (a.bV[k - 1]'(by omega)):=aN _
    rw [bU (by omega),aQ,jq h0 (by omega),eI hy,aB,KC]
    by_cases h3:k7 (nk x) (nk (a.bV[k - 1]'(by omega)))<=0
    ·rw [bU h3,aQ,aC ⟨h0,_,hy,h3⟩];rfl
    ·rw [cF h3,aS,aH (by rintro⟨_,y,hy',h4⟩;rw [hy] at hy';injection hy' with hy';subst hy';exact h3 h4)];rfl
   ·rw [cF (by omega),aS,aH (fun h=>h0 h.1)];rfl
noncomputable def lY (a:kH):Int:=if a.aJ.length=0 then 9 else if 16<a.aJ.length then 2 else match a.aJ.findSome? vW with
 | some e=>e
 | none=>if j3 a.cH≠0 then j3 a.cH else if 2000<a.cH.length+ (a.aJ.map List.length).sum then 2 else if jk a≠0 then jk a else mT a
theorem Eo (a:kH):kS a=if lY a≠0 then lY a else if qW a then 12 else 0:=by
 unfold kS lY Ih Eb
 by_cases h0:a.aJ.length=0
 ·rw [aC h0,aC h0,aC (by decide)]
 rw [aH h0,aH h0]
 by_cases h1:16<a.aJ.length
 ·rw [aC h1,aC h1,aC (by decide)]
 rw [aH h1,aH h1]
 cases hf:a.aJ.findSome? vW with
 | some e=>
  have he:e≠0:=by
   obtain⟨_,x,_,_,hx,_⟩:=List.findSome?_eq_some_iff.1 hf
   unfold vW at hx
   split at hx
   ·rename_i h;injection hx with hx;rw [<-hx];exact h
   ·cases hx
  dsimp only
  rw [aC he]
 | none=>
  dsimp only
  by_cases h2:j3 a.cH≠0
  ·rw [aC h2,aC h2,aC h2]
  rw [aH h2,aH h2]
  by_cases h3:2000<a.cH.length+ (a.aJ.map List.length).sum
  ·rw [aC h3,aC h3,aC (by decide)]
  rw [aH h3,aH h3]
  by_cases h4:jk a≠0
  ·rw [aC h4,aC h4,aC h4]
  rw [aH h4,aH h4]
theorem A5 {a:kH} (h:lY a=0):jk a=0:=by
 unfold lY at h
 by_cases h0:a.aJ.length=0
 ·rw [aC h0] at h;omega
 rw [aH h0] at h
 by_cases h1:16<a.aJ.length
 ·rw [aC h1] at h;omega
 rw [aH h1] at h
 cases hf:a.aJ.findSome? vW with
 | some e=>
  rw [hf] at h
  have h:e=0:=h
  obtain⟨_,x,_,_,hx,_⟩:=List.findSome?_eq_some_iff.1 hf
  unfold vW at hx
  split at hx
  ·rename_i h';injection hx with hx;rw [hx] at h';exact absurd h h'
  ·cases hx
 | none=>
  rw [hf] at h
  dsimp only at h
  by_cases h2:j3 a.cH≠0
  ·rw [aC h2] at h;exact absurd h h2
  rw [aH h2] at h
  by_cases h3:2000<a.cH.length+ (a.aJ.map List.length).sum
  ·rw [aC h3] at h;omega
  rw [aH h3] at h
  by_cases h4:jk a≠0
  ·rw [aC h4] at h;exact absurd h h4
  ·simpa using h4
theorem zy {a:kH} (hs:vd a) (hN:4398046511104<=N):ig N a=some (lY a):=by
 refine Ok.get ?_
 have c1:=hs.cs
 have c2:=hs.out
 have c3:=hs.bs
 have c4:=hs.ls
 unfold ig lY
 refine Ok.bif (fun h=>Ok.ret ?_) (fun h=>?_)
 ·rw [aC (by have:=beq_iff_eq.1 h;omega)]
 have h0: ¬a.aJ.length=0:=by rw [beq_eq_false_iff_ne] at h;omega
 rw [aH h0]
 refine Ok.bif (fun h=>Ok.ret ?_) (fun h=>?_)
 ·rw [aC (by have:=of_decide_eq_true h;omega)]
 have h1: ¬16<a.aJ.length:=by have:=of_decide_eq_false h;omega
 rw [aH h1]
 have sumle: ∀k,k<=a.aJ.length->((a.aJ.take k).map List.length).sum<=k*1048576:=by
  intro k
  induction k with
  | zero=>intro _;simp
  | succ k ih=>
   intro hk
   have:=ih (by omega)
   have h2:=hs.each _ (cM (show k<a.aJ.length by omega))
   rw [dP (by omega),dI,List.sum_append]
   simp only [eB,List.map_nil,List.sum_cons,List.sum_nil]
   rw [Nat.add_mul];omega
 refine Ok.bind (Ok.o9 (n:=a.aJ.length) (fun s=>s.2) (fun k s=>s.1= ((a.cH.length+ ((a.aJ.take k).map List.length).sum:Nat):Int)/\∀(j:Nat) r,j<k->a.aJ[j]? =some r->vW r=none)
  (Go:=fun s=>s.1= ((a.cH.length+ (a.aJ.map List.length).sum:Nat):Int)/\a.aJ.findSome? vW=none) (Rt:=fun r=>a.aJ.findSome? vW=some r) ?_ ?_ (dJ _) rfl ⟨by simp,fun j r hj=>by omega⟩ (by omega)) ?_
 ·rintro k ⟨m,i⟩ hk e ⟨hm,hI⟩
  dsimp only at e hm ⊢
  subst e;subst hm
  have hx:a.aJ[k]? =some a.aJ[k]:=aN hk
  have he:=hs.each _ (cM hk)
  have hsl:=sumle k (by omega)
  rw [kr hk,aQ]
  refine Ok.ix hx (Ok.eq (uc (by omega) hN) (Ok.bif (fun hb=>Ok.rt ?_) (fun hb=>Ok.ix hx (Ok.nx ⟨bP (by omega),?_,fun j r hj hr=>?_⟩))))
  ·exact vg hx hI (by unfold vW;rw [aC (by simpa using hb)])
  ·dsimp only
   rw [wrap_add (by omega),dP hk,dI,List.sum_append]
   simp only [eB,List.map_nil,List.sum_cons,List.sum_nil]
   omega
  ·by_cases e:j=k
   ·subst e;rw [hx] at hr;injection hr with hr;rw [<-hr]
    unfold vW;rw [aH (by simpa using hb)]
   ·exact hI j r (by omega) hr
 ·rintro⟨m,i⟩ e ⟨hm,hI⟩
  dsimp only at e hm ⊢
  subst e
  rw [my,aS]
  rw [dU] at hm
  exact Ok.br ⟨hm,zf hI⟩
 intro o ho
 refine Ok.cs ho ?_ (fun r hr=>Ok.ret (by rw [hr]))
 rintro⟨m,i⟩ ⟨hm,hf⟩
 dsimp only at hm ⊢
 subst hm
 rw [hf]
 dsimp only
 refine Ok.eq (uc (by omega) hN) (Ok.bif (fun h=>Ok.ret ?_) (fun h=>?_))
 ·rw [aC (by simpa using h)]
 rw [aH (by simpa using h)]
 have hmr:Ok (bif (decide (((a.cH.length+ (a.aJ.map List.length).sum:Nat):Int)>2000)) then (some true) else (some (decide (((a.aO.length:Nat):Int)>500)))) (fun b=>b=decide (2000<a.cH.length+ (a.aJ.map List.length).sum\/500<a.aO.length)):=by
  by_cases h2:2000<a.cH.length+ (a.aJ.map List.length).sum
  ·rw [bU (by omega),aQ];exact Ok.ret (bU (.inl h2)).symm
  ·rw [cF (by omega),aS]
   refine Ok.ret ?_
   rw [decide_eq_decide];omega
 refine Ok.bind hmr fun b hb=>?_
 subst hb
 refine Ok.bif (fun h=>Ok.ret ?_) (fun h=>?_)
 ·have h:=of_decide_eq_true h
  by_cases h2:2000<a.cH.length+ (a.aJ.map List.length).sum
  ·rw [aC h2]
  ·rw [aH h2]
   have hb:jk a=2:=by unfold jk;rw [aC (by omega)]
   rw [hb,aC (by decide)]
 have h:=of_decide_eq_false h
 rw [aH (by omega)]
 have hbe:jk a= (a.aO.findSome? (lQ a.aJ.length)).getD 0:=by unfold jk;rw [aH (by omega)]
 have hw:IntKind.wrap .i64 (((a.aJ.length:Nat):Int) - 1)= ((a.aJ.length:Nat):Int) - 1:=fD (by omega) (by omega)
 refine Ok.bind (Ok.o9 (n:=a.aO.length) (fun s=>s) (fun k _=>∀(j:Nat) b,j<k->a.aO[j]? =some b->lQ a.aJ.length b=none) (Go:=fun _=>a.aO.findSome? (lQ a.aJ.length)=none) (Rt:=fun r=>a.aO.findSome? (lQ a.aJ.length)=some r/\r≠0) ?_ ?_ (dJ _) rfl (fun j b hj=>by omega) (by omega)) ?_
 ·rintro k i hk e hI
  subst e
  rw [kr hk,aQ]
  have hx:a.aO[k]? =some a.aO[k]:=aN hk
  refine Ok.ix hx (Ok.eq yO (Ok.bif (fun hb=>Ok.rt ?_) (fun hb=>?_)))
  ·have hb: (mq a.aO[k]).2≠0:=by simpa using hb
   exact⟨vg hx hI (by unfold lQ;rw [aC hb]),hb⟩
  ·have hb: ¬(mq a.aO[k]).2≠0:=by simpa using hb
   rw [hw]
   have e2: ((eA N a.aO[k].cR 0 (((a.aJ.length:Nat):Int) - 1)).bind fun x135=>bif (!x135) then (some true) else ((eA N a.aO[k].To a.aO[k].cR (((a.aJ.length:Nat):Int) - 1)).bind fun x138=>some (!x138)))=some (!(fV a.aO[k].cR 0 (((a.aJ.length:Nat):Int) - 1)&&fV a.aO[k].To a.aO[k].cR (((a.aJ.length:Nat):Int) - 1))):=by
    rw [rK,aB,rK,aB]
    cases fV a.aO[k].cR 0 (((a.aJ.length:Nat):Int) - 1) <;> rfl
   refine Ok.eq e2 (Ok.bif (fun h3=>Ok.rt ⟨vg hx hI ?_,by decide⟩) (fun h3=>Ok.nx ⟨bP (by omega),fun j b hj hb'=>?_⟩))
   ·unfold lQ
    rw [aH hb,aH (by rintro⟨g1,g2⟩;rw [g1,g2] at h3;cases h3)]
   ·by_cases e:j=k
    ·subst e;rw [hx] at hb';injection hb' with hb';rw [<-hb']
     rw [Bool.not_eq_false',bW] at h3
     unfold lQ;rw [aH hb,aC h3]
    ·exact hI j b (by omega) hb'
 ·rintro i e hI
  subst e
  rw [my,aS]
  exact Ok.br (zf hI)
 intro o ho
 refine Ok.cs ho ?_ (fun r hr=>Ok.ret ?_)
 rotate_left
 ·rw [hbe,hr.1,Option.getD_some,aC hr.2]
 intro _ hbn
 rw [hbe,hbn,Option.getD_none,aH (by decide)]
 unfold mT
 refine Ok.bif (fun h=>Ok.ret ?_) (fun h=>?_)
 ·rw [aC (by have:=of_decide_eq_true h;omega)]
 have h5: ¬1000<a.bV.length:=by have:=of_decide_eq_false h;omega
 rw [aH h5]
 refine Ok.bind (Ok.o9 (n:=a.bV.length) (fun s=>s) (fun k _=>∀j,j<k->kq a j=none) (Go:=fun _=>vL a.bV.length (kq a)=none) (Rt:=fun r=>vL a.bV.length (kq a)=some r) ?_ ?_ (dJ _) rfl (fun j hj=>by omega) (by omega)) ?_
 ·rintro k i hk e hI
  subst e
  rw [kr hk,aQ]
  have hx:a.bV[k]? =some a.bV[k]:=aN hk
  refine Ok.eq (A4 (by omega) (by omega) hx (hs.nm _ (cM hk)) (by omega)) (Ok.bif (fun hb=>Ok.rt ?_) (fun hb=>Ok.nx ⟨bP (by omega),fun j hj=>?_⟩))
  ·cases hl:kq a k with
   | none=>rw [hl] at hb;cases hb
   | some e=>exact o4.2 ⟨k,hk,hl,hI⟩
  ·by_cases e:j=k
   ·subst e
    cases hl:kq a j with
    | none=>rfl
    | some e=>rw [hl] at hb;exact absurd (by simpa using hb) (A3 hl)
   ·exact hI j (by omega)
 ·rintro i e hI
  subst e
  rw [my,aS]
  exact Ok.br (n9.2 hI)
 intro o ho
 exact Ok.cs ho (fun _ h=>Ok.ret (by rw [h];rfl)) (fun r hr=>Ok.ret (by rw [hr];rfl))
theorem tY (b:cE) (k:Int):eW N b k=some (jV b k):=rfl
theorem q6 {a:kH} {i:Nat} {r:List aI} {s:List aA} (hb:kD a.aO) (hr:a.aJ[i]? =some r) (hrl:r.length<=2000) (hro: ∀x∈r,Bb x) (hd:tN r (j6 a.aO ((i:Nat):Int)) s) (hN:4398046511104<=N):fA N a ((i:Nat):Int)=some (aR s):=by
 refine Ok.get ?_
 have hbl:=hb.len
 have hhl:=vA hb ((i:Nat):Int)
 have hho:=qU hb ((i:Nat):Int)
 unfold fA
 refine Ok.bind (Ok.o9 (n:=a.aO.length) (fun s=>s.2) (fun k st=>st.1=j6 (a.aO.take k) ((i:Nat):Int)) (Go:=fun st=>st.1=j6 a.aO ((i:Nat):Int)) (Rt:=fun _=>False) ?_ ?_ (dJ _) rfl rfl (by omega)) ?_
 ·rintro k ⟨out,ii⟩ hk e hI
  dsimp only at e hI ⊢
  subst e;subst hI
  have hx:a.aO[k]? =some a.aO[k]:=aN hk
  have hts:j6 (a.aO.take (k+1)) ((i:Nat):Int)=if jV a.aO[k] ((i:Nat):Int)=true then j6 (a.aO.take k) ((i:Nat):Int)++[uA a.aO[k]] else j6 (a.aO.take k) ((i:Nat):Int):=by
   unfold j6
   rw [dP hk,kF,dI]
   by_cases h:jV a.aO[k] ((i:Nat):Int)=true
   ·rw [aC h];simp [h]
   ·rw [aH h];simp [h]
  have hlen: (j6 (a.aO.take k) ((i:Nat):Int)).length<=k:=by
   unfold j6
   rw [cW]
   have:=nJ (fun b=>jV b ((i:Nat):Int)) (a.aO.take k)
   rw [cP] at this;omega
  rw [kr hk,aQ]
  refine Ok.ix hx (Ok.eq (tY _ _) (Ok.bind (P:=fun st:List aI=>st=j6 (a.aO.take (k+1)) ((i:Nat):Int)) (Ok.bif (fun h=>?_) (fun h=>Ok.ret ?_)) (fun st hst=>Ok.nx ⟨bP (by omega),hst⟩)))
  ·refine Ok.ix hx (Ok.eq (ma (hb.ok _ (cM hk)).1) (Ok.app (by simp only [dT,List.length_nil];omega) (Ok.ret ?_)))
   rw [hts,aC h]
  ·rw [hts,aH (by rw [jY];exact h)]
 ·rintro⟨out,ii⟩ e hI
  dsimp only at e hI ⊢
  subst e
  rw [my,aS]
  exact Ok.br (by rw [dU] at hI;exact hI)
 intro o ho
 refine Ok.cs ho ?_ (fun r hr=>hr.elim)
 rintro⟨hs,ii⟩ hI
 dsimp only at hI ⊢
 subst hI
 obtain⟨t,_,ht⟩:=o6 (N:=N) (l:=j6 a.aO ((i:Nat):Int)) (by omega) (fun x hx=>(hho x hx).1) (by omega)
 obtain⟨z1,z2,z3⟩:=ht.AE
 have z4:2* (j6 a.aO ((i:Nat):Int)).length* (2* (j6 a.aO ((i:Nat):Int)).length)<=1000*1000:=Nat.mul_le_mul (by omega) (by omega)
 refine Ok.ix hr (Ok.eq (tU ht.can ht.cover (by omega) (fun x hx=>(hho x hx).1.x) (by omega) hN) ?_)
 unfold kp
 have hsz:=(s8 (A:=5000) hd.can hd.lim (by rw [cX,kO,kO];omega) (by rw [cX,i6,i6];omega)).2.2
 have hc:gM N r (aR t) 3=some (aR s):=Ek hd.can (fun x y=>by
  rw [hd.cover,o7 ht.can,ht.cover];unfold qY;simp) (by omega) (by omega) (fun x hx=>(hro x hx).x) (fun x hx=>(th ht.can x hx).1) (by omega) hN
 rw [hc,aB,aB]
 exact Ok.ret rfl
theorem vD: ∀(gj:List (List (List aA))) (k:Nat),(dO k gj).length= (gj.map List.length).sum
 | [],k=>rfl
 | ps::gj,k=>by
  show (ps.map _++dO (k+1) gj).length=_
  rw [cX,cW,vD gj (k+1),eB,List.sum_cons]
theorem G2 {a:kH} {k8:List (List aA)} {gj:List (List (List aA))} (hg:pg a) (hD:wQ a.aJ a.aO a.aJ.length k8 gj) {i:Nat} {s:List aA} (hi:i<a.aJ.length) (hd:k8[i]? =some s) (hf: (aR s).length<=2000): ∃ps u,gj[i]? =some ps/\pV a.aJ[i] (j6 a.aO ((i:Nat):Int)) s u ps:=by
 have hp:gj[i]? =some (gj[i]'(by rw [hD.zw];exact hi)):=aN _
 have hdr:=hD.dr i _ _ hi (aN hi) hd
 obtain⟨u,hu⟩:=hD.pt i _ _ hi hd hp
 have hreg:=vc.1 (hg.NN _ (cM hi))
 exact⟨_,u,hp,fun x hx=>((pd.1 hreg.1).2 x hx).1,fun x hx=>(qU hg.gb _ x hx).2,(AH hreg.1).2,fun x hx=>(qU hg.gb _ x hx).1,hdr,hu,hf⟩
theorem pV.pieces {r hs:List aI} {s:List aA} {u:Nat->Nat} {ps:List (List aA)} (h:pV r hs s u ps) (hN:4398046511104<=N):fK N (aR s)=some (ps.map aR):=by
 refine Em h.dr.can h.pt h.xS (fun q hq=>?_) (fun p hp=>(h.part hp).2.1) hN
 obtain⟨h1,h2,h3⟩:=F9 h.r1 h.r2 h.dr.can h.dr.lim q hq
 exact CJ h1 h2 h3
theorem Fz {a b:aI} (ha:a.X0<a.X1/\a.Y0<a.Y1) (hb:b.X0<b.X1/\b.Y0<b.Y1):ga N a b=some (Ea a b):=by
 unfold ga
 rw [tS,tS,tT,tT]
 have e1:decide (min a.X1 b.X1>max a.X0 b.X0)=xZ a.X0 a.X1 b.X0 b.X1:=by
  unfold xZ
  rw [eX,bW,bR,bR,bR];omega
 have e2:decide (min a.Y1 b.Y1>max a.Y0 b.Y0)=xZ a.Y0 a.Y1 b.Y0 b.Y1:=by
  unfold xZ
  rw [eX,bW,bR,bR,bR];omega
 rw [e1,e2]
 unfold Ea
 cases xZ a.X0 a.X1 b.X0 b.X1 <;> rfl
theorem sq_pos {b:cE} (h:pX b=true): (uA b).X0< (uA b).X1/\(uA b).Y0< (uA b).Y1:=by
 obtain⟨h1,_,_⟩:=rF h
 simp only [uA];omega
inductive Checked (N:Nat) (a:kH):Prop
 | err (e:Int) (he:e≠0) (h1:iE N a=some (none,e)) (h2:cU N a=some e)
 | ok {k8:List (List aA)} {gj:List (List (List aA))} {r:Nat->Nat} {gs:List cN} {ofP ofB tP:List Int} {tQ:List j4} (b:pS a k8 gj r gs ofP ofB tP tQ)
  (h1:iE N a=some (some (a.aJ,a.cH,a.aO,a.bV,k8,dO 0 gj,jW a.aO (dO 0 gj),gs,ofP,ofB,tP,tQ),0)) (h2:cU N a=some 0)
theorem Gb {a:kH} (hb:kD a.aO) (hN:4398046511104<=N) {f:Int->Option Int} {Q:Int->Prop} (hc:qW a->Q 12) (hn: ¬qW a->∀s,Ok (f s) Q):
  Ok ((jH (fun(s35:Int)=>(bif (decide (s35< (a.aO.length:Int))) then ((jH (fun(s622:Int)=>(bif (decide (s622<s35)) then (((idx a.aO s35).bind fun x869=>(idx a.aO s622).bind fun x873=>(iI N x869 x873).bind fun x876=>bif x876 then ((idx a.aO s35).bind fun x879=>(cJ N x879).bind fun x882=>(idx a.aO s622).bind fun x885=>(cJ N x885).bind fun x888=>(ga N x882 x888).bind fun x890=>some x890) else (some false)).bind fun s867=>bif s867 then (some (.rt 12)) else (some (.nx (IntKind.wrap .i64 (s622+1))))) else (some (.br s622)):Option (Fl (Int) Int))) N 0).bind fun o911=>o911.cs (fun(s622:Int)=>some (.nx (IntKind.wrap .i64 (s35+1)))) (fun r=>some (.rt r))) else (some (.br s35)):Option (Fl (Int) Int))) N 0).bind fun o933=>o933.cs f (fun r=>some r)) Q:=by
 have hbl:=hb.len
 refine Ok.bind (Ok.o9 (n:=a.aO.length) (fun s=>s) (fun k _=>∀(i j:Nat) (x y:cE),i<k->j<i->a.aO[i]? =some x->a.aO[j]? =some y->¬qV x y=true) (Go:=fun _=>¬qW a) (Rt:=fun r=>r=12/\qW a) ?_ ?_ (dJ _) rfl (fun i j x y hi=>by omega) (by omega)) ?_
 ·rintro k s hk e hI
  subst e
  rw [kr hk,aQ]
  have hx:a.aO[k]? =some a.aO[k]:=aN hk
  have fx:=(hb.ok _ (cM hk)).1
  refine Ok.bind (Ok.o9 (n:=k) (fun s=>s) (fun t _=>∀(j:Nat) (y:cE),j<t->a.aO[j]? =some y->¬qV a.aO[k] y=true) (Go:=fun _=>∀(j:Nat) (y:cE),j<k->a.aO[j]? =some y->¬qV a.aO[k] y=true) (Rt:=fun r=>r=12/\qW a) ?_ ?_ (dJ _) rfl (fun j y hj=>by omega) (by omega)) ?_
  ·rintro t s ht e hI2
   subst e
   rw [kr ht,aQ]
   have hy:a.aO[t]? =some (a.aO[t]'(by omega)):=aN _
   have fy:=(hb.ok _ (cM (show t<a.aO.length by omega))).1
   have hcond: ((idx a.aO ((k:Nat):Int)).bind fun x869=>(idx a.aO ((t:Nat):Int)).bind fun x873=>(iI N x869 x873).bind fun x876=>bif x876 then ((idx a.aO ((k:Nat):Int)).bind fun x879=>(cJ N x879).bind fun x882=>(idx a.aO ((t:Nat):Int)).bind fun x885=>(cJ N x885).bind fun x888=>(ga N x882 x888).bind fun x890=>some x890) else (some false))=some (qV a.aO[k] (a.aO[t]'(by omega))):=by
    rw [eI hx,aB,eI hy,aB]
    unfold iI qV
    rw [aB]
    cases (decide (a.aO[k].cR<=(a.aO[t]'(by omega)).To)&&decide ((a.aO[t]'(by omega)).cR<=a.aO[k].To)) with
    | false=>rfl
    | true=>rw [aQ,aB,ma fx,aB,aB,ma fy,aB,Fz (sq_pos fx) (sq_pos fy),aB,Bool.true_and]
   refine Ok.eq hcond (Ok.bif (fun h=>Ok.rt ⟨rfl,k,t,_,_,ht,hx,hy,h⟩) (fun h=>Ok.nx ⟨bP (by omega),fun j y hj hjy=>?_⟩))
   by_cases e:j=t
   ·subst e;rw [hy] at hjy;injection hjy with hjy;rw [<-hjy,h];exact nI
   ·exact hI2 j y (by omega) hjy
  ·rintro s e hI2
   subst e
   rw [my,aS]
   exact Ok.br hI2
  intro o ho
  refine Ok.cs ho (fun s hs=>Ok.nx ⟨bP (by omega),fun i j x y hi hj hix hjy=>?_⟩) (fun r hr=>Ok.rt hr)
  by_cases e:i=k
  ·subst e;rw [hx] at hix;injection hix with hix;rw [<-hix];exact hs j y hj hjy
  ·exact hI i j x y (by omega) hj hix hjy
 ·rintro s e hI
  subst e
  rw [my,aS]
  refine Ok.br ?_
  rintro⟨i,j,x,y,hij,hx,hy,hc⟩
  exact hI i j x y (bD.1 hx).1 hij hx hy hc
 intro o ho
 exact Ok.cs ho (fun s hs=>hn hs s) (fun r hr=>Ok.ret (by rw [hr.1];exact hc hr.2))
theorem checked {a:kH} (hs:vd a) (hN:4398046511104<=N):Checked N a:=by
 obtain⟨x,hx,hI⟩:=B4 (N:=N) hs hN
 have hbe:=Eo a
 have hcp:=zy (N:=N) hs hN
 rcases hI with ⟨he,rfl⟩ | ⟨h0,hg,hcl,k8,gj,D,hI⟩
 ·refine .err _ he hx (Ok.get ?_)
  unfold cU
  refine Ok.eq hcp ?_
  by_cases h:lY a≠0
  ·rw [aC h] at hbe
   rw [show (lY a != 0)=true by simpa using h,aQ,hbe];exact Ok.ret rfl
  ·rw [aH h] at hbe
   have hp0:lY a=0:=by simpa using h
   have hc:qW a:=by
    by_cases hc:qW a
    ·exact hc
    ·rw [aH hc] at hbe;exact absurd hbe he
   rw [aC hc] at hbe
   rw [hp0,show ((0:Int) != 0)=false by rfl,aS]
   have hbo:=A5 hp0
   refine Gb ⟨(l9 hbo).1,fun b hb=>⟨((l9 hbo).2 b hb).1,((l9 hbo).2 b hb).2.1⟩⟩ hN (fun _=>hbe.symm) (fun h=>absurd hc h)
 ·have hp0:lY a=0:=by
   by_cases h:lY a≠0
   ·rw [aC h] at hbe;rw [hbe] at h0;exact h0
   ·simpa using h
  have key:cU N a=some (if KH k8 gj then 0 else 2):=by
   refine Ok.get ?_
   unfold cU
   refine Ok.eq hcp ?_
   rw [hp0,show ((0:Int) != 0)=false by rfl,aS]
   refine Gb hg.gb hN (fun h=>absurd h hcl) (fun _ _=>?_)
   have hc16:=hg.xS.2
   refine Ok.bind (Ok.o9 (n:=a.aJ.length) (fun s=>s.2) (fun k st=>st.1= ((((gj.take k).map List.length).sum:Nat):Int)/\((gj.take k).map List.length).sum<=k*2000/\∀(j:Nat) s,j<k->k8[j]? =some s->(aR s).length<=2000)
    (Go:=fun st=>st.1= (((gj.map List.length).sum:Nat):Int)/\∀s∈k8,(aR s).length<=2000) (Rt:=fun r=>r=2/\¬KH k8 gj) ?_ ?_ (dJ _) rfl ⟨by simp,by simp,fun j s hj=>by omega⟩ (by omega)) ?_
   ·rintro k ⟨m,i⟩ hk e ⟨hm,hml,hI2⟩
    dsimp only at e hm ⊢
    subst e;subst hm
    rw [kr hk,aQ]
    have hcx:a.aJ[k]? =some a.aJ[k]:=aN hk
    have hd:k8[k]? =some (k8[k]'(by rw [D.len];exact hk)):=aN _
    have hcs:=hg.cs _ (cM hk)
    refine Ok.eq (q6 hg.gb hcx hcs.1 hcs.2 (D.dr k _ _ hk hcx hd) hN) (Ok.bif (fun h=>Ok.rt ⟨rfl,fun hf=>?_⟩) (fun h=>?_))
    ·have:=hf.1 _ (eZ hd)
     have:=of_decide_eq_true h
     omega
    ·have hf: (aR (k8[k]'(by rw [D.len];exact hk))).length<=2000:=by have:=of_decide_eq_false h;omega
     obtain⟨ps,u,hp,L⟩:=G2 hg D hk hd hf
     have hpl:=L.pt.xS
     have hkp:k<gj.length:=by rw [D.zw];exact hk
     have hpe:gj[k]=ps:=by rw [aN hkp] at hp;injection hp
     refine Ok.eq (L.pieces hN) (Ok.nx ⟨bP (by omega),?_,?_,fun j s hj hjs=>?_⟩)
     ·dsimp only
      rw [cW,wrap_add (by omega),dP hkp,dI,List.sum_append,hpe]
      simp
     ·rw [dP hkp,dI,List.sum_append,hpe]
      simp only [eB,List.map_nil,List.sum_cons,List.sum_nil]
      rw [Nat.add_mul];omega
     ·by_cases e:j=k
      ·subst e;rw [hd] at hjs;injection hjs with hjs;rw [<-hjs];exact hf
      ·exact hI2 j s (by omega) hjs
   ·rintro⟨m,i⟩ e ⟨hm,hml,hI2⟩
    dsimp only at e hm ⊢
    subst e
    rw [my,aS]
    rw [lI (by rw [D.zw];exact bT _)] at hm
    refine Ok.br ⟨hm,fun s hs'=>?_⟩
    obtain⟨j,hj⟩:=dZ hs'
    exact hI2 j s (by have:=(bD.1 hj).1;rw [D.len] at this;exact this) hj
   intro o ho
   refine Ok.cs ho ?_ (fun r hr=>Ok.ret (by rw [hr.1,aH hr.2]))
   rintro⟨m,i⟩ ⟨hm,hf⟩
   dsimp only at hm ⊢
   subst hm
   have hpl:=vD gj 0
   refine Ok.bif (fun h=>Ok.ret ?_) (fun h=>Ok.ret ?_)
   ·rw [aH]
    rintro⟨_,h2⟩
    have:=of_decide_eq_true h
    omega
   ·rw [aC]
    exact⟨hf,by have:=of_decide_eq_false h;omega⟩
  rcases hI with ⟨hf,rfl⟩ | ⟨hf,r,gs,ofP,ofB,tP,tQ,hC,rfl⟩
  ·rw [aH hf] at key
   exact .err 2 (by decide) hx key
  ·rw [aC hf] at key
   exact .ok ⟨hg,hcl,D,hf,hC⟩ hx key
end
end Go.Gk
namespace Go.Gk
open Go Classical
theorem zM: ∀{l m:List Int},jG l->jG m->(∀x,x∈l↔x∈m)->l=m
 | [],[],_,_,_=>rfl
 | [],b::m,_,_,h=>absurd ((h b).2 (by simp)) (by simp)
 | a::l,[],_,_,h=>absurd ((h a).1 (by simp)) (by simp)
 | a::l,b::m,hl,hm,h=>by
  have h1:a=b:=by
   have ha:=(h a).1 (by simp)
   have hb:=(h b).2 (by simp)
   rcases dF.1 ha with e | ha
   ·exact e
   ·rcases dF.1 hb with e | hb
    ·exact e.symm
    ·have:=hl.head b hb
     have:=hm.head a ha
     omega
  subst h1
  rw [zM hl.tail hm.tail fun x=>?_]
  have hx:=h x
  rw [dF,dF] at hx
  constructor
  ·intro hxl
   rcases hx.1 (.inr hxl) with e | h'
   ·have:=hl.head x hxl;omega
   ·exact h'
  ·intro hxm
   rcases hx.2 (.inr hxm) with e | h'
   ·have:=hm.head x hxm;omega
   ·exact h'
theorem Ep {l:List Nat} (h:l.Pairwise (· < ·)):jG (ints l):=by
 unfold jG ints
 rw [List.pairwise_map]
 exact h.imp fun h=>by omega
section
variable {N:Nat}
theorem A6 {l:List Int} {c:Int} (h:jG l) (hl:l.length<=1000000000) (hN:4398046511104<=N):iJ N l c=some (qj l c):=by
 refine Ok.get ?_
 unfold iJ
 refine Ok.bind (Ok.jH (Go:=fun s=>∃a:Nat,s= ((a:Nat):Int)/\a<=l.length/\(∀(j:Nat) x,a<=j->l[j]? =some x->c<x)/\(∀x,0<a->l[a - 1]? =some x->¬c<x)) (Rt:=fun _=>False)
  (fun s=>∃a:Nat,s= ((a:Nat):Int)/\a<=l.length/\∀(j:Nat) x,a<=j->l[j]? =some x->c<x) (fun s=>s.toNat) ?_ ⟨l.length,rfl,bT _,fun j x hj hx=>by have:=(bD.1 hx).1;omega⟩ (by simp only [cL];omega)) ?_
 ·rintro s ⟨a,rfl,ha,hI⟩
  by_cases h0:0<a
  ·have hx:l[a - 1]? =some (l[a - 1]'(by omega)):=aN _
   rw [bU (by omega),aQ,jq h0 (by omega),eI hx,aB,aB]
   refine Ok.bif (fun hb=>?_) (fun hb=>?_)
   ·have hb:=of_decide_eq_true hb
    refine Ok.nx ⟨⟨a - 1,rfl,by omega,fun j x hj hx'=>?_⟩,by simp only [cL];omega⟩
    by_cases e:j=a - 1
    ·subst e;rw [hx] at hx';injection hx' with hx';rw [<-hx'];exact hb
    ·exact hI j x (by omega) hx'
   ·have hb:=of_decide_eq_false hb
    exact Ok.br ⟨a,rfl,ha,hI,fun x _ hx'=>by rw [hx] at hx';injection hx' with hx';rw [<-hx'];exact hb⟩
  ·rw [cF (by omega),aS,aB,aS]
   exact Ok.br ⟨a,rfl,ha,hI,fun x h=>absurd h h0⟩
 intro o ho
 refine Ok.cs ho ?_ (fun r hr=>hr.elim)
 rintro s ⟨a,rfl,ha,hI,hE⟩
 have hlow: ∀(j:Nat) x,j<a->l[j]? =some x->x<=c:=fun j x hj hx=>by
  have hy:l[a - 1]? =some (l[a - 1]'(by omega)):=aN _
  have h1:=hE _ (by omega) hy
  by_cases e:j=a - 1
  ·subst e;rw [hy] at hx;injection hx with hx;omega
  ·have:=h.lt (i:=j) (j:=a - 1) (by omega) hx hy;omega
 have hout:c∉l->qj l c=l.take a++c::l.drop a:=fun hc=>by
  unfold qj
  rw [aH hc]
  obtain⟨e1,e2⟩:=qh (p:=fun x=>decide (x<c)) (l:=l) (k:=a) (fun j x hj hx=>bU (by
   have h1:=hlow j x hj hx
   have h2:x≠c:=fun e=>hc (e▸eZ hx)
   omega)) (fun x hx=>cF (by have:=hI a x (bT _) hx;omega))
  rw [e1,e2]
 have hrest:c∉l->Ok ((tm l 0 ((a:Nat):Int)).bind fun x61=>(app 8 ([]: (List Int)) x61).bind fun x63=>(app 8 x63 ([c]: (List Int))).bind fun x66=>(tm l ((a:Nat):Int) ((l.length:Nat):Int)).bind fun x68=>(app 8 x66 x68).bind fun x70=>some x70) (fun r=>r=qj l c):=fun hc=>by
  have htk: (l.take a).length=a:=by rw [cP];omega
  refine Ok.eq (qG l a ha) (Ok.app (by simp only [List.length_nil];omega) (Ok.app (by rw [List.nil_append];simp only [dT,List.length_nil];omega) (Ok.eq (pr l a ha) (Ok.app ?_ (Ok.ret ?_)))))
  ·rw [List.nil_append,cX,iN];simp only [dT,List.length_nil];omega
  ·rw [hout hc];simp
 by_cases h0:0<a
 ·have hx:l[a - 1]? =some (l[a - 1]'(by omega)):=aN _
  rw [bU (by omega),aQ,jq h0 (by omega),eI hx,aB,aB]
  refine Ok.bif (fun hb=>Ok.ret ?_) (fun hb=>hrest ?_)
  ·rw [beq_iff_eq] at hb
   unfold qj;rw [aC (by rw [<-hb];exact eZ hx)]
  ·rw [beq_eq_false_iff_ne] at hb
   intro hc
   obtain⟨j,hj⟩:=dZ hc
   by_cases h1:a<=j
   ·have:=hI j c h1 hj;omega
   ·by_cases e:j=a - 1
    ·subst e;rw [hx] at hj;injection hj with hj;exact hb hj
    ·have:=h.lt (i:=j) (j:=a - 1) (by omega) hj hx
     have:=hlow (a - 1) _ (by omega) hx
     omega
 ·rw [cF (by omega),aS,aB,aS]
  refine hrest fun hc=>?_
  obtain⟨j,hj⟩:=dZ hc
  have:=hI j c (by omega) hj;omega
theorem tZ {l:List Int} {c:Int} (hl:l.length<=1099511627776) (hN:4398046511104<=N):cV N l c=some (decide (c∈l)):=by
 refine Ok.get ?_
 unfold cV
 refine Ok.bind (Ok.o9 (n:=l.length) (fun s=>s) (fun k _=>∀(j:Nat) x,j<k->l[j]? =some x->x≠c) (Go:=fun _=>c∉l) (Rt:=fun r=>r=true/\c∈l) ?_ ?_ (dJ _) rfl (fun j x hj=>by omega) (by omega)) ?_
 ·rintro k s hk e hI
  subst e
  rw [kr hk,aQ]
  have hx:l[k]? =some l[k]:=aN hk
  refine Ok.ix hx (Ok.bif (fun hb=>Ok.rt ⟨rfl,?_⟩) (fun hb=>Ok.nx ⟨bP (by omega),fun j x hj hx'=>?_⟩))
  ·rw [beq_iff_eq] at hb
   exact hb▸cM hk
  ·by_cases e:j=k
   ·subst e;rw [hx] at hx';injection hx' with hx';rw [<-hx'];exact beq_eq_false_iff_ne.1 hb
   ·exact hI j x (by omega) hx'
 ·rintro s e hI
  subst e
  rw [my,aS]
  refine Ok.br fun hc=>?_
  obtain⟨j,hj⟩:=dZ hc
  exact hI j c (bD.1 hj).1 hj rfl
 intro o ho
 exact Ok.cs ho (fun s hs=>Ok.ret (cF hs).symm) (fun r hr=>Ok.ret (by rw [hr.1,bU hr.2]))
theorem Ir {p q:aI} (hp:p.X0<p.X1/\p.Y0<p.Y1) (hq:q.X0<q.X1/\q.Y0<q.Y1):qf p q=decide ((0<min p.X1 q.X1 - max p.X0 q.X0/\min p.Y1 q.Y1 - max p.Y0 q.Y0=0)\/(min p.X1 q.X1 - max p.X0 q.X0=0/\0<min p.Y1 q.Y1 - max p.Y0 q.Y0)):=by
 unfold qf
 rw [eX]
 simp only [dM,bW,bR,beq_iff_eq]
 constructor
 ·rintro(h | h)
  ·left;omega
  ·right;omega
 ·rintro(h | h)
  ·left;omega
  ·right;omega
theorem Jn {l:List aI} {q:aI} (hl:l.length<=1000000000) (ho: ∀r∈l,Bb r) (hq:Bb q) (hN:4398046511104<=N):jm N l q=some (l.any (fun r=>qf r q)):=by
 refine Ok.get ?_
 unfold jm
 refine Ok.bind (Ok.o9 (n:=l.length) (fun s=>s) (fun k _=>∀(j:Nat) x,j<k->l[j]? =some x->qf x q=false) (Go:=fun _=>l.any (fun r=>qf r q)=false) (Rt:=fun r=>r=true/\l.any (fun r=>qf r q)=true) ?_ ?_ (dJ _) rfl (fun j x hj=>by omega) (by omega)) ?_
 ·rintro k s hk e hI
  subst e
  rw [kr hk,aQ]
  have hx:l[k]? =some l[k]:=aN hk
  have hr:=ho _ (cM hk)
  have hb:=Ir (p:=l[k]) (q:=q) ⟨hr.x,hr.y⟩ ⟨hq.x,hq.y⟩
  have a1:=hr.s1;have a2:=hr.s2;have a3:=hr.s3;have a4:=hr.s4
  have b1:=hq.s1;have b2:=hq.s2;have b3:=hq.s3;have b4:=hq.s4
  unfold small at a1 a2 a3 a4 b1 b2 b3 b4
  refine Ok.ix hx (Ok.ix hx (Ok.ix hx (Ok.ix hx ?_)))
  rw [tS,tS,tT,tT,fD (x:=min l[k].X1 q.X1 - max l[k].X0 q.X0) (by omega) (by omega),fD (x:=min l[k].Y1 q.Y1 - max l[k].Y0 q.Y0) (by omega) (by omega)]
  have e: ((decide (min l[k].X1 q.X1 - max l[k].X0 q.X0>0)&&(min l[k].Y1 q.Y1 - max l[k].Y0 q.Y0==0))||((min l[k].X1 q.X1 - max l[k].X0 q.X0==0)&&decide (min l[k].Y1 q.Y1 - max l[k].Y0 q.Y0>0)))=qf l[k] q:=by
   rw [hb,eX]
   simp only [dM,bW,bR,beq_iff_eq,gt_iff_lt]
  rw [e]
  refine Ok.bif (fun h=>Ok.rt ⟨rfl,kY.2 ⟨_,cM hk,h⟩⟩) (fun h=>Ok.nx ⟨bP (by omega),fun j x hj hx'=>?_⟩)
  by_cases e:j=k
  ·subst e;rw [hx] at hx';injection hx' with hx';rw [<-hx'];exact h
  ·exact hI j x (by omega) hx'
 ·rintro s e hI
  subst e
  rw [my,aS]
  refine Ok.br ?_
  rw [List.any_eq_false]
  intro x hx
  obtain⟨j,hj⟩:=dZ hx
  rw [hI j x (bD.1 hj).1 hj];exact nI
 intro o ho
 exact Ok.cs ho (fun s hs=>Ok.ret hs.symm) (fun r hr=>Ok.ret (by rw [hr.1,hr.2]))
theorem yP (r:List aI) (p:eQ):y7 r p=sR r p.X p.Y:=by
 unfold y7 sR
 congr 1
 funext x
 rw [eX]
 simp only [bW,bR,ge_iff_le,and_assoc]
theorem zh {r:List aI} {p:eQ} (hl:r.length<=134217728) (hr: ∀x∈r,x.X0<x.X1) (hN:4398046511104<=N):eO N r p=some (y7 r p):=by
 refine Ok.get ?_
 unfold eO
 refine Ok.bind (CL hl hN) fun s hs=>?_
 have hsl:s.length<=r.length:=by have:=qX r p.Y;rw [<-hs,cW] at this;exact this
 refine Ok.eq (yK (by omega) hN) (Ok.ret ?_)
 rw [hs,(tg hr p.Y).2,yP]
def Is (bs:List cE) (pcs:List aK) (l:fP):Option j4:=match pcs.findIdx? (kR l) with
 | some k=>some ⟨false,((k:Nat):Int)⟩
 | none=>(bs.findIdx? (lD l)).map fun k=>⟨true,((k:Nat):Int)⟩
theorem Jo {bs:List cE} {pcs:List aK} {l:fP} (hd: ∀b∈bs,∀p∈pcs,lD l b=true->kR l p=true->False):Is bs pcs l=zx bs pcs l:=by
 unfold Is zx
 cases h1:pcs.findIdx? (kR l) with
 | none=>cases bs.findIdx? (lD l) <;> rfl
 | some k=>
  cases h2:bs.findIdx? (lD l) with
  | none=>rfl
  | some j=>
   obtain⟨hk,hp,_⟩:=List.findIdx?_eq_some_iff_getElem.1 h1
   obtain⟨hj,hb,_⟩:=List.findIdx?_eq_some_iff_getElem.1 h2
   exact(hd _ (cM hj) _ (cM hk) hb hp).elim
theorem A7 {α:Type} {l:List α} {p:α->Bool} {k:Nat} {x:α} (hx:l[k]? =some x) (hp:p x=true) (hn: ∀(j:Nat) y,j<k->l[j]? =some y->p y=false):l.findIdx? p=some k:=by
 obtain⟨hk,rfl⟩:=bD.1 hx
 rw [List.findIdx?_eq_some_iff_getElem]
 exact⟨hk,hp,fun j hj=>by rw [hn j _ hj (aN _)];exact nI⟩
theorem A8 {α:Type} {l:List α} {p:α->Bool} (hn: ∀(j:Nat) y,j<l.length->l[j]? =some y->p y=false):l.findIdx? p=none:=by
 rw [List.findIdx?_eq_none_iff]
 intro x hx
 obtain⟨j,hj⟩:=dZ hx
 exact hn j x (bD.1 hj).1 hj
theorem G3 {bs:List cE} {pcs:List aK} (hb:kD bs) (hp:pcs.length<=1000000) (hr: ∀p∈pcs,p.gz.length<=1000000/\∀x∈p.gz,x.X0<x.X1) (l:fP) (hN:4398046511104<=N):
  gT N bs (pcs.map aK.cK) (pcs.map aK.gz) l=some ((Is bs pcs l).getD ⟨false,0⟩,(Is bs pcs l).isSome):=by
 refine Ok.get ?_
 have hbl:=hb.len
 unfold gT Is
 rw [cW]
 refine Ok.bind (Ok.o9 (n:=pcs.length) (fun s=>s) (fun k _=>∀(j:Nat) x,j<k->pcs[j]? =some x->kR l x=false) (Go:=fun _=>pcs.findIdx? (kR l)=none) (Rt:=fun r=>∃k:Nat,pcs.findIdx? (kR l)=some k/\r= (⟨false,((k:Nat):Int)⟩,true)) ?_ ?_ (dJ _) rfl (fun j x hj=>by omega) (by omega)) ?_
 ·rintro k s hk e hI
  subst e
  rw [kr hk,aQ]
  have hx:pcs[k]? =some pcs[k]:=aN hk
  have hlx: (pcs.map aK.cK)[k]? =some pcs[k].cK:=by rw [gv,hx];rfl
  have hrx: (pcs.map aK.gz)[k]? =some pcs[k].gz:=by rw [gv,hx];rfl
  have hrl:=hr _ (cM hk)
  have hcond: ((idx (pcs.map aK.cK) ((k:Nat):Int)).bind fun x88=>bif (x88==l.cK) then ((idx (pcs.map aK.gz) ((k:Nat):Int)).bind fun x91=>(eO N x91 l.At).bind fun x95=>some x95) else (some false))=some (kR l pcs[k]):=by
   rw [eI hlx,aB,eI hrx,aB,zh (by omega) hrl.2 hN,aB]
   unfold kR
   cases pcs[k].cK==l.cK <;> rfl
  refine Ok.eq hcond (Ok.bif (fun h=>Ok.rt ⟨k,A7 hx h hI,rfl⟩) (fun h=>Ok.nx ⟨bP (by omega),fun j x hj hx'=>?_⟩))
  by_cases e:j=k
  ·subst e;rw [hx] at hx';injection hx' with hx';rw [<-hx'];exact h
  ·exact hI j x (by omega) hx'
 ·rintro s e hI
  subst e
  rw [my,aS]
  exact Ok.br (A8 hI)
 intro o ho
 refine Ok.cs ho ?_ (fun r hr=>by obtain⟨k,h1,h2⟩:=hr;rw [h1,h2];exact Ok.ret rfl)
 intro _ hno
 rw [hno]
 dsimp only
 refine Ok.bind (Ok.o9 (n:=bs.length) (fun s=>s) (fun k _=>∀(j:Nat) x,j<k->bs[j]? =some x->lD l x=false) (Go:=fun _=>bs.findIdx? (lD l)=none) (Rt:=fun r=>∃k:Nat,bs.findIdx? (lD l)=some k/\r= (⟨true,((k:Nat):Int)⟩,true)) ?_ ?_ (dJ _) rfl (fun j x hj=>by omega) (by omega)) ?_
 ·rintro k s hk e hI
  subst e
  rw [kr hk,aQ]
  have hx:bs[k]? =some bs[k]:=aN hk
  have hg:=hb.ok _ (cM hk)
  have hcond: ((idx bs ((k:Nat):Int)).bind fun x301=>bif x301.fY then ((idx bs ((k:Nat):Int)).bind fun x305=>(eW N x305 l.cK).bind fun x308=>bif x308 then ((idx bs ((k:Nat):Int)).bind fun x310=>(cJ N x310).bind fun x313=>(eO N ([x313]: (List aI)) l.At).bind fun x317=>some x317) else (some false)) else (some false))=some (lD l bs[k]):=by
   rw [eI hx,aB,aB,tY,aB,aB,ma hg.1,aB,zh (by simp) (fun x hx=>by simp at hx;subst hx;exact(sq_pos hg.1).1) hN,aB]
   unfold lD
   cases bs[k].fY with
   | false=>rfl
   | true=>cases jV bs[k] l.cK <;> rfl
  refine Ok.eq hcond (Ok.bif (fun h=>Ok.rt ⟨k,A7 hx h hI,rfl⟩) (fun h=>Ok.nx ⟨bP (by omega),fun j x hj hx'=>?_⟩))
  by_cases e:j=k
  ·subst e;rw [hx] at hx';injection hx' with hx';rw [<-hx'];exact h
  ·exact hI j x (by omega) hx'
 ·rintro s e hI
  subst e
  rw [my,aS]
  exact Ok.br (A8 hI)
 intro o ho
 exact Ok.cs ho (fun _ h=>Ok.ret (by rw [h];rfl)) (fun r hr=>by obtain⟨k,h1,h2⟩:=hr;rw [h1,h2];exact Ok.ret rfl)
end
section
variable {N:Nat} {a:kH} {k8:List (List aA)} {gj:List (List (List aA))} {r:Nat->Nat} {gs:List cN} {ofP ofB tP:List Int} {tQ:List j4}
theorem Er (b:pS a k8 gj r gs ofP ofB tP tQ) {p:aK} (hp:p∈dO 0 gj):p.gz.length<=2000/\(∀q∈p.gz,fF q=true/\q.X0<q.X1/\q.Y0<q.Y1)/\∃i:Nat,p.cK= ((i:Nat):Int)/\∀x y,sR p.gz x y=true->sR (j6 a.aO ((i:Nat):Int)) x y=false:=by
 obtain⟨i,ps,q,h1,h2,rfl⟩:=yI hp
 have hil:i<a.aJ.length:=by have:=(bD.1 h1).1;rw [b.dr.zw] at this;exact this
 obtain⟨s,ps',u,g1,g2,L⟩:=rJ b hil
 rw [h1] at g2;injection g2 with g2;subst g2
 obtain⟨k1,k2,k3⟩:=L.part h2
 refine⟨k2,k3,i,by simp,fun x y h=>?_⟩
 have h3:sR (ps.flatMap aR) x y=true:=zd.2 ⟨q,h2,h⟩
 rw [L.cover,L.dr.cover,bW,Bool.not_eq_true'] at h3
 exact h3.2
theorem Jp (b:pS a k8 gj r gs ofP ofB tP tQ) (l:fP): ∀x∈a.aO,∀p∈dO 0 gj,lD l x=true->kR l p=true->False:=fun x hx p hp h1 h2=>by
 obtain⟨_,_,i,e,hc⟩:=Er b hp
 unfold lD at h1
 unfold kR at h2
 rw [bW,bW,yP] at h1
 rw [bW,yP,beq_iff_eq] at h2
 have h3:=hc _ _ h2.2
 rw [<-e,h2.1] at h3
 obtain⟨q,hq,hxy⟩:=i5.1 h1.2.2
 simp at hq
 subst hq
 have h4:sR (j6 a.aO l.cK) l.At.X l.At.Y=true:=i5.2 ⟨uA x,dE.2 ⟨x,jI.2 ⟨hx,h1.2.1⟩,rfl⟩,hxy⟩
 rw [h3] at h4;cases h4
end
end Go.Gk
namespace Go.Gk
open Go Classical
structure PS (n:Nat) (r:Nat->Nat) (h:Nat) (q:List Nat) (seen:List Bool) (pieces todo:List Int):Prop where
 sl:seen.length=n
 sn: ∀p,p<n->seen[p]? =some (decide (r p<h\/p∈q))
 qn:q.Nodup
 qi: ∀p∈q,p<n/\r p=h
 q0:h∈q
 td:todo=ints q
 pi:jG pieces
 pm: ∀x,x∈pieces↔∃p∈q,x= ((p:Nat):Int)
structure QS (n m:Nat) (tch:List (List Int)) (r:Nat->Nat) (h:Nat) (q qb:List Nat) (xX:List Int) (used:List Bool):Prop where
 ul:used.length=m
 un: ∀k,k<m->used[k]? =some (decide (k∈qb))
 bi:jG xX
 bm: ∀x,x∈xX↔∃k∈qb,x= ((k:Nat):Int)
 bk: ∀k∈qb,k<m/\r (n+k)=h/\∀l,tch[k]? =some l->∀p:Nat,((p:Nat):Int)∈l->p∈q
theorem PS.xS {n:Nat} {r:Nat->Nat} {h:Nat} {q:List Nat} {seen:List Bool} {pieces todo:List Int} (H:PS n r h q seen pieces todo):q.length<=n/\pieces.length<=n:=by
 have h1:=fR H.qn (m:=List.range n) (fun k hk=>by rw [ru];exact(H.qi k hk).1)
 rw [List.length_range] at h1
 have h2:=fR H.pi.nodup (m:=ints q) (fun x hx=>pH.2 ((H.pm x).1 hx))
 rw [lC] at h2
 exact⟨h1,by omega⟩
theorem QS.xS {n m:Nat} {tch:List (List Int)} {r:Nat->Nat} {h:Nat} {q qb:List Nat} {xX:List Int} {used:List Bool} (H:QS n m tch r h q qb xX used):xX.length<=m:=by
 have h2:=fR H.bi.nodup (m:=ints (List.range m)) (fun x hx=>by
  obtain⟨k,hk,e⟩:=(H.bm x).1 hx
  exact pH.2 ⟨k,ru.2 (H.bk k hk).1,e⟩)
 rwa [lC,List.length_range] at h2
theorem KD (n t:Nat) (r:Nat->Nat) (h:Nat):jG (ints (gP n (cls t r h))):=Ep (List.Pairwise.sublist (List.filter_sublist.trans List.filter_sublist) (List.pairwise_lt_range (n:=t)))
theorem It (bs:List cE) (n t:Nat) (r:Nat->Nat) (h:Nat):jG (ints (gB bs n (cls t r h))):=by
 refine Ep ?_
 unfold gB
 rw [List.pairwise_map]
 have hp: (List.filter (fun i=> !decide (i<n)&&s9 bs (i - n)) (cls t r h)).Pairwise (· < ·):=List.Pairwise.sublist (List.filter_sublist.trans List.filter_sublist) (List.pairwise_lt_range (n:=t))
 refine hp.imp_of_mem fun{a b} ha hb hab=>?_
 have h1:=(jI.1 ha).2
 rw [bW,Bool.not_eq_true',decide_eq_false_iff_not] at h1
 omega
theorem CS {n t:Nat} {r:Nat->Nat} {h p:Nat}:p∈gP n (cls t r h)↔p<n/\p<t/\r p=h:=by
 unfold gP
 rw [jI,pf,bR]
 constructor
 ·rintro⟨⟨h1,h2⟩,h3⟩;exact⟨h3,h1,h2⟩
 ·rintro⟨h3,h1,h2⟩;exact⟨⟨h1,h2⟩,h3⟩
theorem yQ {bs:List cE} {n t:Nat} {r:Nat->Nat} {h k:Nat}:k∈gB bs n (cls t r h)↔n+k<t/\r (n+k)=h/\s9 bs k=true:=by
 unfold gB
 rw [dE]
 constructor
 ·rintro⟨i,hi,rfl⟩
  rw [jI,pf,bW,Bool.not_eq_true',decide_eq_false_iff_not] at hi
  have e:n+ (i - n)=i:=by omega
  rw [e]
  exact⟨hi.1.1,hi.1.2,hi.2.2⟩
 ·rintro⟨h1,h2,h3⟩
  refine⟨n+k,?_,by omega⟩
  rw [jI,pf,bW,Bool.not_eq_true',decide_eq_false_iff_not,Nat.add_sub_cancel_left]
  exact⟨⟨h1,h2⟩,by omega,h3⟩
section
variable {N:Nat}
theorem Es {bs:List cE} {n m:Nat} {tch:List (List Int)} {r:Nat->Nat} (hC:Jh n m tch r) (hm:tch.length=m) (ht: ∀l∈tch,l.length<=1073741824/\∀x∈l,∃i:Nat,i<n/\x= ((i:Nat):Int)) (hn:n<=1000000) (hm2:m<=1000000)
  (hpl: ∀(k:Nat) l,tch[k]? =some l->l≠[]->s9 bs k=true) {h:Nat} (hh:h<n) (hr:r h=h) {seen:List Bool} (hsl:seen.length=n) (hsn: ∀p,p<n->seen[p]? =some (decide (r p<h))) (hN:4398046511104<=N):
  Ok (gE N tch ((h:Nat):Int) seen) (fun x=>x.1.1=ints (gP n (cls (n+m) r h))/\x.1.2.1=ints (gB bs n (cls (n+m) r h))/\x.1.2.2= []/\x.2.length=n/\∀p,p<n->x.2[p]? =some (decide (r p<h+1))):=by
 unfold gE
 refine Ok.ix (hsn h hh) (Ok.eq (rB false (by omega)) ?_)
 refine Ok.bind (Ok.jH (Go:=fun st=>st.2.1=ints (gP n (cls (n+m) r h))/\st.2.2.1=ints (gB bs n (cls (n+m) r h))/\st.1.length=n/\∀p,p<n->st.1[p]? =some (decide (r p<h+1))) (Rt:=fun _=>False)
  (fun st=>∃(q qb:List Nat) (t:Nat),st.2.2.2.2.2= ((t:Nat):Int)/\t<=q.length/\PS n r h q st.1 st.2.1 st.2.2.2.2.1/\QS n m tch r h q qb st.2.2.1 st.2.2.2.1/\∀(j p k:Nat) l,j<t->q[j]? =some p->tch[k]? =some l->((p:Nat):Int)∈l->k∈qb)
  (fun st=>n+1 - st.2.2.2.2.2.toNat) ?_ ⟨[h],[],0,rfl,by simp,?_,?_,fun j p k l hj=>by omega⟩ (by simp;omega)) ?_
 ·rintro⟨sn,pi,bo,us,td,t'⟩ ⟨q,qb,t,e,htq,hP,hQ,hcl⟩
  dsimp only at e hP hQ ⊢
  subst e
  have htl:td.length=q.length:=by rw [hP.td,lC]
  have hqf:=hP.xS
  by_cases hlt:t<q.length
  ·rw [kr (by omega:t<td.length),aQ]
   have hqt:q[t]? =some q[t]:=aN hlt
   have hqi:=hP.qi _ (cM hlt)
   refine Ok.bind (Ok.o9 (n:=tch.length) (fun st=>st.2.2.2.2.2) (fun i st=>∃q' qb',q <+:q'/\(∀k∈qb,k∈qb')/\PS n r h q' st.1 st.2.1 st.2.2.2.2.1/\QS n m tch r h q' qb' st.2.2.1 st.2.2.2.1/\∀k l,k<i->tch[k]? =some l->((q[t]:Nat):Int)∈l->k∈qb')
    (Go:=fun st=>∃q' qb',q <+:q'/\(∀k∈qb,k∈qb')/\PS n r h q' st.1 st.2.1 st.2.2.2.2.1/\QS n m tch r h q' qb' st.2.2.1 st.2.2.2.1/\∀k l,tch[k]? =some l->((q[t]:Nat):Int)∈l->k∈qb') (Rt:=fun _=>False) ?_ ?_ (dJ _) rfl
    ⟨q,qb,List.prefix_refl _,fun k hk=>hk,hP,hQ,fun k l hk=>by omega⟩ (by omega)) ?_
   ·rintro k ⟨sn1,pi1,bo1,us1,td1,i'⟩ hk e ⟨q1,qb1,hpre,hsub,hP1,hQ1,hc1⟩
    dsimp only at e hP1 hQ1 ⊢
    subst e
    rw [kr hk,aQ]
    have hkm:k<m:=by omega
    have htk:tch[k]? =some tch[k]:=aN hk
    have htk2:=ht _ (cM hk)
    have hq1t:td1[t]? =some ((q[t]:Nat):Int):=by
     rw [hP1.td];unfold ints;rw [gv,yN hpre hqt];rfl
    have hcond: ((idx us1 ((k:Nat):Int)).bind fun x948=>bif x948 then (some true) else ((idx tch ((k:Nat):Int)).bind fun x950=>(idx td1 ((t:Nat):Int)).bind fun x953=>(cV N x950 x953).bind fun x954=>some (!x954)))=some (decide (k∈qb1)|| !decide (((q[t]:Nat):Int)∈tch[k])):=by
     rw [eI (hQ1.un k hkm),aB,eI htk,aB,eI hq1t,aB,tZ (l:=tch[k]) (c:=((q[t]:Nat):Int)) (by have:=htk2.1;omega) hN,aB]
     cases decide (k∈qb1) <;> rfl
    refine Ok.eq hcond (Ok.bif (fun hb=>Ok.nx ⟨bP (by omega),q1,qb1,hpre,hsub,hP1,hQ1,fun k' l hk' hl hm'=>?_⟩) (fun hb=>?_))
    ·by_cases e:k'=k
     ·subst e
      rw [htk] at hl;injection hl with hl
      rw [hl,bU hm',mY,Bool.or_false,bR] at hb
      exact hb
     ·exact hc1 k' l (by omega) hl hm'
    ·rw [Bool.or_eq_false_iff,decide_eq_false_iff_not,Bool.not_eq_false',bR] at hb
     obtain⟨hkn,hqm⟩:=hb
     have hrk:r (n+k)=h:=by rw [<-hC.co q[t] (n+k) ⟨k,_,htk,hqm,rfl⟩];exact hqi.2
     have hbf:=hQ1.xS
     refine Ok.ix (hQ1.un k hkm) (Ok.eq (A6 hQ1.bi (by omega) hN) ?_)
     refine Ok.bind (Ok.o9 (n:=tch[k].length) (fun st=>st.2.2.2) (fun i st=>∃q2,q1 <+:q2/\PS n r h q2 st.1 st.2.1 st.2.2.1/\∀(j p:Nat),j<i->tch[k][j]? =some ((p:Nat):Int)->p∈q2)
      (Go:=fun st=>∃q2,q1 <+:q2/\PS n r h q2 st.1 st.2.1 st.2.2.1/\∀(p:Nat),((p:Nat):Int)∈tch[k]->p∈q2) (Rt:=fun _=>False) ?_ ?_ (dJ _) rfl ⟨q1,List.prefix_refl _,hP1,fun j p hj=>by omega⟩ (by omega)) ?_
     ·rintro j ⟨sn2,pi2,td2,jj⟩ hj e ⟨q2,hpre2,hP2,hc2⟩
      dsimp only at e hP2 ⊢
      subst e
      have hlj:tch[k][j]? =some tch[k][j]:=aN hj
      obtain⟨p,hpn,hpe⟩:=htk2.2 _ (cM hj)
      rw [hpe] at hlj
      have hpf:=hP2.xS
      have hrp:r p=h:=by rw [hC.co p (n+k) ⟨k,_,htk,eZ hlj,rfl⟩];exact hrk
      refine Ok.ix htk ?_
      rw [kr hj,aQ]
      refine Ok.ix htk (Ok.ix hlj (Ok.ix (hP2.sn p hpn) ?_))
      refine Ok.bind (P:=fun st:List Bool×List Int×List Int=>∃q2,q1 <+:q2/\PS n r h q2 st.1 st.2.1 st.2.2/\∀(j' p:Nat),j'<j+1->tch[k][j']? =some ((p:Nat):Int)->p∈q2) (Ok.bif (fun hb=>?_) (fun hb=>Ok.ret ⟨q2,hpre2,hP2,fun j' p' hj' hp'=>?_⟩)) (fun st hst=>Ok.nx ⟨bP (by omega),hst⟩)
      ·have hpq:p∉q2:=by
        rw [Bool.not_eq_true',decide_eq_false_iff_not] at hb
        exact fun h=>hb (.inr h)
       refine Ok.ix (hP2.sn p hpn) (Ok.eq (A6 hP2.pi (by omega) hN) (Ok.app (by rw [hP2.td,lC];simp only [dT,List.length_nil];omega) (Ok.ret ⟨q2++[p],hpre2.trans (List.prefix_append _ _),⟨?_,?_,?_,?_,?_,?_,?_,?_⟩,?_⟩)))
       ·rw [jf];exact hP2.sl
       ·intro p' hp'
        rw [cL,fC]
        by_cases e:p=p'
        ·subst e
         rw [aC rfl,aC (by rw [hP2.sl];exact hpn)]
         congr 1
         exact(bU (.inr (by simp))).symm
        ·rw [aH e,hP2.sn p' hp']
         congr 1
         rw [decide_eq_decide,dC]
         simp only [ry]
         constructor
         ·exact fun h=>h.elim .inl (fun h=> .inr (.inl h))
         ·exact fun h=>h.elim .inl (fun h=>h.elim .inr (fun h=>absurd h.symm e))
       ·rw [List.nodup_append]
        exact⟨hP2.qn,by simp,fun a ha b hb=>by simp at hb;subst hb;exact fun e=>hpq (e▸ha)⟩
       ·intro p' hp'
        rcases dC.1 hp' with hp' | hp'
        ·exact hP2.qi p' hp'
        ·simp at hp';subst hp';exact⟨hpn,hrp⟩
       ·exact List.mem_append_left _ hP2.q0
       ·dsimp only;rw [hP2.td,pG];rfl
       ·exact te hP2.pi
       ·intro x
        rw [AQ,hP2.pm]
        constructor
        ·rintro(⟨p',h1,h2⟩ | h1)
         ·exact⟨p',List.mem_append_left _ h1,h2⟩
         ·exact⟨p,by simp,h1⟩
        ·rintro⟨p',h1,h2⟩
         rcases dC.1 h1 with h1 | h1
         ·exact .inl ⟨p',h1,h2⟩
         ·simp at h1;subst h1;exact .inr h2
       ·intro j' p' hj' hp'
        by_cases e:j'=j
        ·subst e;rw [hlj] at hp';injection hp' with hp'
         have:p'=p:=by omega
         subst this;simp
        ·exact List.mem_append_left _ (hc2 j' p' (by omega) hp')
      ·by_cases e:j'=j
       ·subst e;rw [hlj] at hp';injection hp' with hp'
        have:p'=p:=by omega
        subst this
        rw [Bool.not_eq_false',bR] at hb
        rcases hb with hb | hb
        ·omega
        ·exact hb
       ·exact hc2 j' p' (by omega) hp'
     ·rintro⟨sn2,pi2,td2,jj⟩ e ⟨q2,hpre2,hP2,hc2⟩
      dsimp only at e hP2 ⊢
      subst e
      refine Ok.ix htk ?_
      rw [my,aS]
      refine Ok.br ⟨q2,hpre2,hP2,fun p hp=>?_⟩
      obtain⟨j,hj⟩:=dZ hp
      exact hc2 j p (bD.1 hj).1 hj
     intro o ho
     refine Ok.cs ho ?_ (fun r hr=>hr.elim)
     rintro⟨sn2,pi2,td2,jj⟩ ⟨q2,hpre2,hP2,hc2⟩
     dsimp only at hP2 ⊢
     refine Ok.nx ⟨bP (by omega),q2,qb1++[k],hpre.trans hpre2,fun k' hk'=>List.mem_append_left _ (hsub k' hk'),hP2,⟨?_,?_,?_,?_,?_⟩,fun k' l hk' hl hm'=>?_⟩
     ·rw [jf];exact hQ1.ul
     ·intro k' hk'
      rw [cL,fC]
      by_cases e:k=k'
      ·subst e
       rw [aC rfl,aC (by rw [hQ1.ul];exact hkm)]
       congr 1
       exact(bU (by simp)).symm
      ·rw [aH e,hQ1.un k' hk']
       congr 1
       rw [decide_eq_decide,dC]
       simp only [ry]
       exact⟨.inl,fun h=>h.elim id (fun h=>absurd h.symm e)⟩
     ·exact te hQ1.bi
     ·intro x
      rw [AQ,hQ1.bm]
      constructor
      ·rintro(⟨p',h1,h2⟩ | h1)
       ·exact⟨p',List.mem_append_left _ h1,h2⟩
       ·exact⟨k,by simp,h1⟩
      ·rintro⟨p',h1,h2⟩
       rcases dC.1 h1 with h1 | h1
       ·exact .inl ⟨p',h1,h2⟩
       ·simp at h1;subst h1;exact .inr h2
     ·intro k' hk'
      rcases dC.1 hk' with hk' | hk'
      ·obtain⟨h1,h2,h3⟩:=hQ1.bk k' hk'
       exact⟨h1,h2,fun l hl p hp=>hpre2.subset (h3 l hl p hp)⟩
      ·simp at hk';subst hk'
       refine⟨hkm,hrk,fun l hl p hp=>?_⟩
       rw [htk] at hl;injection hl with hl
       exact hc2 p (by rw [hl];exact hp)
     ·by_cases e:k'=k
      ·subst e;simp
      ·exact List.mem_append_left _ (hc1 k' l (by omega) hl hm')
   ·rintro⟨sn1,pi1,bo1,us1,td1,i'⟩ e ⟨q1,qb1,hpre,hsub,hP1,hQ1,hc1⟩
    dsimp only at e hP1 hQ1 ⊢
    subst e
    rw [my,aS]
    exact Ok.br ⟨q1,qb1,hpre,hsub,hP1,hQ1,fun k l hl=>hc1 k l (bD.1 hl).1 hl⟩
   intro o ho
   refine Ok.cs ho ?_ (fun r hr=>hr.elim)
   rintro⟨sn1,pi1,bo1,us1,td1,i'⟩ ⟨q1,qb1,hpre,hsub,hP1,hQ1,hc1⟩
   dsimp only at hP1 hQ1 ⊢
   refine Ok.nx ⟨⟨q1,qb1,t+1,bP (by omega),by have:=hpre.length_le;omega,hP1,hQ1,fun j p k l hj hjp hl hm'=>?_⟩,?_⟩
   ·by_cases e:j=t
    ·subst e
     rw [yN hpre hqt] at hjp;injection hjp with hjp;subst hjp
     exact hc1 k l hl hm'
    ·have hjq:q[j]? =some (q[j]'(by omega)):=aN _
     rw [yN hpre hjq] at hjp;injection hjp with hjp;subst hjp
     exact hsub k (hcl j _ k l (by omega) hjq hl hm')
   ·rw [bP (by omega)];simp only [cL];omega
  ·rw [x8 (by omega:td.length<=t),aS]
   have htq':t=q.length:=by omega
   have hclosed: ∀i j,Lk n tch i j->(((i<n/\i∈q)\/∃k,k∈qb/\i=n+k)↔((j<n/\j∈q)\/∃k,k∈qb/\j=n+k)):=by
    rintro i j ⟨k,l,hl,hil,rfl⟩
    obtain⟨i',hi',ei⟩:=(ht l (eZ hl)).2 _ hil
    have:i'=i:=by omega
    subst this
    constructor
    ·rintro(⟨_,h1⟩ | ⟨k',_,h1⟩)
     ·obtain⟨p,hp⟩:=dZ h1
      exact .inr ⟨k,hcl p i' k l (by rw [htq'];exact(bD.1 hp).1) hp hl hil,rfl⟩
     ·omega
    ·rintro(⟨h1,_⟩ | ⟨k',h1,h2⟩)
     ·omega
     ·have:k'=k:=by omega
      subst this
      exact .inl ⟨hi',(hQ.bk k' h1).2.2 l hl i' hil⟩
   have hall: ∀x,x<n+m->r x=h->(x<n/\x∈q)\/∃k,k∈qb/\x=n+k:=fun x hx hrx=>hC.fi _ hclosed h x (by omega) hx (by rw [hr,hrx]) (.inl ⟨hh,hP.q0⟩)
   refine Ok.br ⟨?_,?_,hP.sl,fun p hp=>?_⟩
   ·refine zM hP.pi (KD _ _ _ _) fun x=>?_
    rw [hP.pm,pH]
    constructor
    ·rintro⟨p,h1,h2⟩
     exact⟨p,CS.2 ⟨(hP.qi p h1).1,by have:=(hP.qi p h1).1;omega,(hP.qi p h1).2⟩,h2⟩
    ·rintro⟨p,h1,h2⟩
     obtain⟨g1,g2,g3⟩:=CS.1 h1
     rcases hall p g2 g3 with ⟨_,g4⟩ | ⟨k,_,g4⟩
     ·exact⟨p,g4,h2⟩
     ·omega
   ·refine zM hQ.bi (It _ _ _ _ _) fun x=>?_
    rw [hQ.bm,pH]
    constructor
    ·rintro⟨k,h1,h2⟩
     obtain⟨g1,g2,g3⟩:=hQ.bk k h1
     refine⟨k,yQ.2 ⟨by omega,g2,?_⟩,h2⟩
     have hk:tch[k]? =some (tch[k]'(by omega)):=aN _
     refine hpl k _ hk fun hemp=>?_
     have jQ: ∀i j,Lk n tch i j->((i=n+k)↔(j=n+k)):=by
      rintro i j ⟨k',l,hl,hil,rfl⟩
      obtain⟨i',hi',ei⟩:=(ht l (eZ hl)).2 _ hil
      constructor
      ·intro;omega
      ·intro e
       have:k'=k:=by omega
       subst this
       rw [hk] at hl;injection hl with hl
       rw [<-hl,hemp] at hil;cases hil
     have:=hC.fi (fun x=>x=n+k) jQ (n+k) h (by omega) (by omega) (by rw [g2,hr]) rfl
     omega
    ·rintro⟨k,h1,h2⟩
     obtain⟨g1,g2,_⟩:=yQ.1 h1
     rcases hall (n+k) g1 g2 with ⟨g4,_⟩ | ⟨k',g3,g4⟩
     ·omega
     ·have:k'=k:=by omega
      subst this
      exact⟨k',g3,h2⟩
   ·rw [hP.sn p hp]
    congr 1
    rw [decide_eq_decide]
    constructor
    ·rintro(h1 | h1)
     ·omega
     ·have:=(hP.qi p h1).2;omega
    ·intro h1
     by_cases e:r p=h
     ·rcases hall p (by omega) e with ⟨_,g4⟩ | ⟨k,_,g4⟩
      ·exact .inr g4
      ·omega
     ·exact .inl (by omega)
 ·refine⟨by rw [jf];exact hsl,fun p hp=>?_,by simp,fun p hp=>by simp at hp;subst hp;exact⟨hh,hr⟩,by simp,rfl,List.pairwise_singleton _ _,fun x=>by simp⟩
  rw [cL,fC]
  by_cases e:h=p
  ·subst e
   rw [aC rfl,aC (by rw [hsl];exact hh)]
   congr 1
   exact(bU (.inr (by simp))).symm
  ·rw [aH e,hsn p hp]
   congr 1
   rw [decide_eq_decide]
   simp only [ry]
   omega
 ·exact⟨by rw [vh];exact hm,fun k hk=>by simp [hm,hk],jX,fun x=>by simp,fun k hk=>by cases hk⟩
 intro o ho
 refine Ok.cs ho ?_ (fun r hr=>hr.elim)
 rintro⟨sn,pi,bo,us,td,t'⟩ ⟨h1,h2,h3,h4⟩
 exact Ok.ret ⟨h1,h2,rfl,h3,h4⟩
end
end Go.Gk
namespace Go.Gk
open Go Classical
theorem B9 (bs:List cE) (n t:Nat) (r:Nat->Nat) (hs:List Nat) (h:Nat):lE bs n t r (hs++[h])=if D7 bs n (cls t r h)=true then lE bs n t r hs++[JP bs n (cls t r h)] else lE bs n t r hs:=by
 unfold lE
 rw [B3]
 split
 ·rw [dI];rfl
 ·rfl
def Jq (bs:List cE) (n m:Nat) (r:Nat->Nat) (h:j4):Nat:=gi bs n (n+m) r (r (lX n h))
structure KE (G G':List cN):Prop where
 len:G'.length=G.length
 each: ∀(g:Nat) x,G[g]? =some x->∃y,G'[g]? =some y/\y.j9=x.j9/\y.aO=x.aO
theorem Bx (G:List cN) (lg:fP->Option Nat) (ls:List fP):KE G (gp G lg ls):=
 ⟨xV _ _ _,fun g x hx=>⟨{x with gq:=(ls.filter (fun l=>decide (lg l=some g))).map nk},by rw [jz,hx];rfl,rfl,rfl⟩⟩
section
variable {N:Nat}
theorem A9 {bs:List cE} {n m:Nat} {r:Nat->Nat} (hbm:bs.length=m) (hn:n<=1000000) (hm:m<=1000000) (hle: ∀i,i<n+m->r i<=i) (hrr: ∀i,i<n+m->r (r i)=r i) {G:List cN} (hG:KE (lE bs n (n+m) r (bL (n+m) r)) G) {h:j4} (hh:JR bs n m h) (hN:4398046511104<=N):
  dW N G h=some ((Jq bs n m r h:Nat):Int)/\Jq bs n m r h<G.length:=by
 obtain⟨k,hk,hkb,hkp⟩:=hh.num
 have hx:lX n h<n+m:=by
  unfold lX
  by_cases hb:h.cE=true
  ·rw [aC hb];have:=(hkb hb).1;omega
  ·rw [aH hb];have:=hkp (by simpa using hb);omega
 have hhead:r (lX n h)∈bL (n+m) r:=jv.2 ⟨by have:=hle _ hx;omega,hrr _ hx⟩
 have hne:D7 bs n (cls (n+m) r (r (lX n h)))=true:=by
  unfold lX at hx ⊢
  by_cases hb:h.cE=true
  ·rw [aC hb] at hx ⊢
   rw [hk,cL] at hx ⊢
   exact Ie (hkb hb).2 hx
  ·rw [aH hb] at hx ⊢
   rw [hk,cL] at hx ⊢
   exact Ic (hkp (by simpa using hb)) hx
 obtain⟨g1,g2⟩:=JQ (bs:=bs) (n:=n) hhead hne
 have hlen:G.length= (live bs n (n+m) r (bL (n+m) r)).length:=by rw [hG.len,tc]
 have hlive: (live bs n (n+m) r (bL (n+m) r)).Nodup:=List.Nodup.sublist List.filter_sublist (mQ _ _)
 have hll: (live bs n (n+m) r (bL (n+m) r)).length<=n+m:=by
  have:=qg bs n (n+m) r (bL (n+m) r)
  have:=lA (n+m) r
  omega
 have hval: ∀(g:Nat) y,G[g]? =some y->Ok (bif h.cE then ((idx G ((g:Nat):Int)).bind fun x241=>(cV N x241.aO h.Number).bind fun x250=>bif x250 then (some true) else (bif (!h.cE) then ((idx G ((g:Nat):Int)).bind fun x253=>(cV N x253.j9 h.Number).bind fun x262=>some x262) else (some false))) else (bif (!h.cE) then ((idx G ((g:Nat):Int)).bind fun x264=>(cV N x264.j9 h.Number).bind fun x273=>some x273) else (some false)))
   (fun b=>b=true↔(live bs n (n+m) r (bL (n+m) r))[g]? =some (r (lX n h))):=fun g y hy=>by
  have hgl:g< (live bs n (n+m) r (bL (n+m) r)).length:=by have:=(bD.1 hy).1;omega
  have hlx: (live bs n (n+m) r (bL (n+m) r))[g]? =some (live bs n (n+m) r (bL (n+m) r))[g]:=aN hgl
  have hgx: (lE bs n (n+m) r (bL (n+m) r))[g]? =some (JP bs n (cls (n+m) r (live bs n (n+m) r (bL (n+m) r))[g])):=by unfold lE;rw [gv,hlx];rfl
  obtain⟨y',hy',e1,e2⟩:=hG.each g _ hgx
  rw [hy] at hy';injection hy' with hy';subst hy'
  generalize hhd: (live bs n (n+m) r (bL (n+m) r))[g]=hd at *
  have hpl:y.j9.length<=n+m/\y.aO.length<=n+m:=by
   have:=Fh n (cls (n+m) r hd)
   have:=Fi bs n (cls (n+m) r hd)
   have:=zK (n+m) r hd
   rw [e1,e2];unfold JP;simp only [lC];omega
  rw [hlx]
  cases hb:h.cE with
  | true=>
   rw [aQ,eI hy,aB,tZ (by omega) hN,aB]
   have hix:lX n h=n+k:=by unfold lX;rw [aC hb,hk,cL]
   have hiff: (h.Number∈y.aO)↔hd=r (lX n h):=by
    rw [e2,hix]
    unfold JP
    dsimp only
    rw [pH,hk]
    constructor
    ·rintro⟨i,hi,e⟩
     have:i=k:=by omega
     subst this
     exact(yQ.1 hi).2.1.symm
    ·intro e
     exact⟨k,yQ.2 ⟨by have:=(hkb hb).1;omega,e.symm,(hkb hb).2⟩,rfl⟩
   by_cases hin:h.Number∈y.aO
   ·rw [bU hin,aQ]
    exact Ok.ret ⟨fun _=>by rw [hiff.1 hin],fun _=>rfl⟩
   ·rw [cF hin,aS,mY,aS]
    refine Ok.ret ⟨fun h=>(by cases h),fun h=>?_⟩
    injection h with h
    exact absurd (hiff.2 h) hin
  | false=>
   rw [aS,pZ,aQ,eI hy,aB,tZ (by omega) hN,aB]
   have hix:lX n h=k:=by unfold lX;rw [aH (by rw [hb];exact nI),hk,cL]
   have hiff: (h.Number∈y.j9)↔hd=r (lX n h):=by
    rw [e1,hix]
    unfold JP
    dsimp only
    rw [pH,hk]
    constructor
    ·rintro⟨i,hi,e⟩
     have:i=k:=by omega
     subst this
     exact(CS.1 hi).2.2.symm
    ·intro e
     exact⟨k,CS.2 ⟨hkp hb,by have:=hkp hb;omega,e.symm⟩,rfl⟩
   refine Ok.ret ?_
   rw [bR,hiff]
   exact⟨fun h=>by rw [h],fun h=>by injection h⟩
 refine⟨Ok.get ?_,by unfold Jq;omega⟩
 unfold dW Jq
 refine Ok.bind (Ok.o9 (n:=G.length) (fun s=>s) (fun k _=>∀g,g<k->(live bs n (n+m) r (bL (n+m) r))[g]? ≠some (r (lX n h))) (Go:=fun _=>False) (Rt:=fun s=>s= ((gi bs n (n+m) r (r (lX n h)):Nat):Int)) ?_ ?_ (dJ _) rfl (fun g hg=>by omega) (by omega)) ?_
 ·rintro g s hg e hI
  subst e
  rw [kr hg,aQ]
  refine Ok.bind (hval g _ (aN hg)) fun b hb=>?_
  cases b with
  | true=>
   refine Ok.rt ?_
   have:=yH hlive (hb.1 rfl) g2
   rw [this]
  | false=>
   refine Ok.nx ⟨bP (by omega),fun g' hg'=>?_⟩
   by_cases e:g'=g
   ·subst e;intro h;have:=hb.2 h;cases this
   ·exact hI g' (by omega)
 ·rintro s e hI
  exact absurd g2 (hI _ (by omega))
 intro o ho
 exact Ok.cs ho (fun _ h=>h.elim) (fun r hr=>Ok.ret hr)
theorem Et {bs:List cE} {pcs:List aK} {r:Nat->Nat} (hb:kD bs) (hp:pcs.length<=1000000) (hpr: ∀p∈pcs,p.gz.length<=1000000/\∀x∈p.gz,x.X0<x.X1) (hd: ∀l:fP,∀b∈bs,∀p∈pcs,lD l b=true->kR l p=true->False)
  (hle: ∀i,i<pcs.length+bs.length->r i<=i) (hrr: ∀i,i<pcs.length+bs.length->r (r i)=r i) {G:List cN} (hG:KE (lE bs pcs.length (pcs.length+bs.length) r (bL (pcs.length+bs.length) r)) G) (l:fP) (hN:4398046511104<=N):
  eM N bs (pcs.map aK.cK) (pcs.map aK.gz) G l=some (Ji bs pcs r l)/\∀g,zL bs pcs r l=some g->g<G.length:=by
 have hbl:=hb.len
 unfold eM Ji zL
 rw [G3 hb hp hpr l hN,aB,Jo (hd l)]
 cases hh:zx bs pcs l with
 | none=>exact⟨rfl,fun g h=>by cases h⟩
 | some h=>
  obtain⟨e1,e2⟩:=A9 (N:=N) rfl hp (by omega) hle hrr hG (Ib hh) hN
  refine⟨?_,fun g hg=>?_⟩
  ·dsimp only [Option.getD_some,Option.isSome_some]
   rw [mY,aS,e1,aB];rfl
  ·rw [Option.map_some] at hg;injection hg with hg
   rw [<-hg];exact e2
theorem Iu {bs:List cE} {pcs:List aK}: ∀(k:Nat) l,(jW bs pcs)[k]? =some l->l≠[]->s9 bs k=true:=fun k l hl hne=>by
 unfold jW at hl
 rw [gv,rq] at hl
 obtain⟨b,hb,rfl⟩:=hl
 unfold s9
 rw [hb]
 cases hp:b.fY with
 | true=>simpa using hp
 | false=>
  exfalso
  refine hne ?_
  have:oj (ij b) pcs pcs.length= []:=by
   unfold oj
   rw [List.filter_eq_nil_iff]
   intro j _
   rw [jY,Option.any_eq_false]
   intro p _
   unfold ij;rw [hp];rfl
  rw [this];rfl
theorem G4 {bs:List cE} {ls:List fP} {pcs:List aK} {r:Nat->Nat} (hb:kD bs) (hp:pcs.length<=2000) (hl:ls.length<=1000000) (hpr: ∀p∈pcs,p.gz.length<=1000000/\∀x∈p.gz,x.X0<x.X1) (hd: ∀l:fP,∀b∈bs,∀p∈pcs,lD l b=true->kR l p=true->False)
  (hC:Jh pcs.length bs.length (jW bs pcs) r) (hN:4398046511104<=N):
  eV N bs ls (pcs.map aK.cK) (pcs.map aK.gz) (jW bs pcs)=some (gp (lE bs pcs.length (pcs.length+bs.length) r (bL (pcs.length+bs.length) r)) (zL bs pcs r) ls):=by
 refine Ok.get ?_
 have hbl:=hb.len
 have htl: (jW bs pcs).length=bs.length:=by unfold jW;rw [cW]
 have hto:=D9 (bs:=bs) (pcs:=pcs) (by omega)
 have hgl: ∀hs:List Nat,(lE bs pcs.length (pcs.length+bs.length) r hs).length<=hs.length:=fun hs=>by rw [tc];exact qg _ _ _ _ _
 unfold eV
 rw [cW]
 refine Ok.eq (rB false (by omega)) ?_
 refine Ok.bind (Ok.o9 (n:=pcs.length) (fun st=>st.2.2) (fun i st=>st.1=lE bs pcs.length (pcs.length+bs.length) r (bL i r)/\st.2.1.length=pcs.length/\∀p,p<pcs.length->st.2.1[p]? =some (decide (r p<i)))
  (Go:=fun st=>st.1=lE bs pcs.length (pcs.length+bs.length) r (bL pcs.length r)) (Rt:=fun _=>False) ?_ ?_ (dJ _) rfl ⟨by simp [bL,lE,live],by simp,fun p hp=>by simp [hp]⟩ (by omega)) ?_
 ·rintro i ⟨G,sn,ii⟩ hi e ⟨hG,hsl,hsn⟩
  dsimp only at e hG hsl hsn ⊢
  subst e;subst hG
  rw [kr hi,aQ]
  refine Ok.ix (hsn i hi) ?_
  refine Ok.bind (P:=fun st:List cN×List Bool=>st.1=lE bs pcs.length (pcs.length+bs.length) r (bL (i+1) r)/\st.2.length=pcs.length/\∀p,p<pcs.length->st.2[p]? =some (decide (r p<i+1))) (Ok.bif (fun hb=>?_) (fun hb=>Ok.ret ⟨?_,hsl,fun p hp=>?_⟩)) (fun st hst=>Ok.nx ⟨bP (by omega),hst⟩)
  ·rw [Bool.not_eq_true',decide_eq_false_iff_not] at hb
   have hri:r i=i:=by have:=hC.le i (by omega);omega
   refine Ok.bind (Es (bs:=bs) hC htl hto (by omega) (by omega) Iu hi hri hsl hsn hN) fun x hx=>?_
   obtain⟨x1,x2,x3,x4,x5⟩:=hx
   have h1:=hgl (bL i r)
   have h2:=lA i r
   refine Ok.app (by simp only [dT,List.length_nil];omega) (Ok.ret ⟨?_,x4,x5⟩)
   dsimp only
   have hne:D7 bs pcs.length (cls (pcs.length+bs.length) r i)=true:=by
    have:=Ic (bs:=bs) (r:=r) hi (show i<pcs.length+bs.length by omega)
    rwa [hri] at this
   rw [gI,aC hri,B9,aC hne,x1,x2,x3];rfl
  ·rw [Bool.not_eq_false',bR] at hb
   dsimp only
   rw [gI,aH (by omega)]
  ·rw [Bool.not_eq_false',bR] at hb
   rw [hsn p hp]
   congr 1
   rw [decide_eq_decide]
   have hne:r p≠i:=fun e=>by have:=hC.rr p (by omega);rw [e] at this;omega
   omega
 ·rintro⟨G,sn,ii⟩ e ⟨hG,_,_⟩
  dsimp only at e hG ⊢
  subst e
  rw [my,aS]
  exact Ok.br hG
 intro o ho
 refine Ok.cs ho ?_ (fun r hr=>hr.elim)
 rintro⟨G,sn,ii⟩ hG
 dsimp only at hG ⊢
 subst hG
 rw [htl]
 have halone: ∀k,k<bs.length->(jW bs pcs)[k]? =some []->∀x,x<pcs.length+bs.length->(r x=r (pcs.length+k)↔x=pcs.length+k):=fun k hk hemp x hx=>by
  constructor
  ·intro e
   refine hC.fi (fun y=>y=pcs.length+k) ?_ (pcs.length+k) x (by omega) hx e.symm rfl
   rintro i j ⟨k',l,hl,hil,rfl⟩
   obtain⟨i',hi',ei⟩:=(hto l (eZ hl)).2 _ hil
   constructor
   ·intro;omega
   ·intro e
    have:k'=k:=by omega
    subst this
    rw [hemp] at hl;injection hl with hl
    rw [<-hl] at hil;cases hil
  ·intro e;rw [e]
 refine Ok.bind (Ok.o9 (n:=bs.length) (fun st=>st.2) (fun i st=>st.1=lE bs pcs.length (pcs.length+bs.length) r (bL (pcs.length+i) r))
  (Go:=fun st=>st.1=lE bs pcs.length (pcs.length+bs.length) r (bL (pcs.length+bs.length) r)) (Rt:=fun _=>False) ?_ ?_ (dJ _) rfl rfl (by omega)) ?_
 ·rintro i ⟨G,ii⟩ hi e hG
  dsimp only at e hG ⊢
  subst e;subst hG
  rw [kr hi,aQ]
  have hx:bs[i]? =some bs[i]:=aN hi
  have htx: (jW bs pcs)[i]? =some ((jW bs pcs)[i]'(by omega)):=aN _
  have hpi:s9 bs i=bs[i].fY:=by unfold s9;rw [hx];rfl
  have hlen:=hgl (bL (pcs.length+i) r)
  have hhl:=lA (pcs.length+i) r
  have hcond: ((idx bs ((i:Nat):Int)).bind fun x210=>bif x210.fY then ((idx (jW bs pcs) ((i:Nat):Int)).bind fun x214=>some ((x214.length:Int)==0)) else (some false))=some (s9 bs i&&decide ((jW bs pcs)[i]'(by omega)= [])):=by
   rw [eI hx,aB,eI htx,aB,hpi]
   cases bs[i].fY with
   | false=>rfl
   | true=>
    rw [aQ,Bool.true_and]
    congr 1
    rw [eX,bR,beq_iff_eq]
    constructor
    ·intro h;exact List.eq_nil_of_length_eq_zero (by omega)
    ·intro h;rw [h];rfl
  refine Ok.eq hcond ?_
  have hstep:lE bs pcs.length (pcs.length+bs.length) r (bL (pcs.length+ (i+1)) r)=if (s9 bs i&&decide ((jW bs pcs)[i]'(by omega)= []))=true then lE bs pcs.length (pcs.length+bs.length) r (bL (pcs.length+i) r)++[⟨[],[((i:Nat):Int)],[]⟩] else lE bs pcs.length (pcs.length+bs.length) r (bL (pcs.length+i) r):=by
   rw [<-Nat.add_assoc,gI]
   by_cases hemp: (jW bs pcs)[i]'(by omega)= []
   ·rw [hemp] at htx
    have jQ:=halone i hi htx
    have hri:r (pcs.length+i)=pcs.length+i:=by
     have h1:=hC.le (pcs.length+i) (by omega)
     exact(jQ _ (by omega)).1 (hC.rr _ (by omega))
    rw [aC hri,B9]
    have hcl: ∀x,x∈cls (pcs.length+bs.length) r (pcs.length+i)↔x=pcs.length+i:=fun x=>by
     rw [pf]
     constructor
     ·rintro⟨h1,h2⟩;exact(jQ x h1).1 (by rw [h2,hri])
     ·intro h;subst h;exact⟨by omega,hri⟩
    have hgp:gP pcs.length (cls (pcs.length+bs.length) r (pcs.length+i))= []:=by
     unfold gP
     rw [List.filter_eq_nil_iff]
     intro x hx
     rw [(hcl x).1 hx];simp
    by_cases hpl:s9 bs i=true
    ·have hne:D7 bs pcs.length (cls (pcs.length+bs.length) r (pcs.length+i))=true:=by
      have:=Ie (bs:=bs) (n:=pcs.length) (r:=r) hpl (show pcs.length+i<pcs.length+bs.length by omega)
      rwa [hri] at this
     rw [aC hne,aC (by rw [hpl,bU hemp];rfl)]
     congr 2
     unfold JP
     rw [hgp]
     have hgb:ints (gB bs pcs.length (cls (pcs.length+bs.length) r (pcs.length+i)))= [((i:Nat):Int)]:=by
      refine zM (It _ _ _ _ _) (List.pairwise_singleton _ _) fun x=>?_
      rw [pH]
      simp only [ry]
      constructor
      ·rintro⟨k,h1,h2⟩
       obtain⟨g1,g2,_⟩:=yQ.1 h1
       have:=(jQ _ g1).1 (by rw [g2,hri])
       omega
      ·intro h
       exact⟨i,yQ.2 ⟨by omega,hri,hpl⟩,h⟩
     rw [hgb];rfl
    ·have hne: ¬D7 bs pcs.length (cls (pcs.length+bs.length) r (pcs.length+i))=true:=by
      unfold D7
      have hgb:gB bs pcs.length (cls (pcs.length+bs.length) r (pcs.length+i))= []:=by
       unfold gB
       rw [List.map_eq_nil_iff,List.filter_eq_nil_iff]
       intro x hx
       rw [(hcl x).1 hx,Nat.add_sub_cancel_left]
       simp [hpl]
      rw [hgp,hgb];simp
     rw [aH hne,aH (by rw [jY] at hpl ⊢;rw [hpl];rfl)]
   ·have hri: ¬r (pcs.length+i)=pcs.length+i:=fun e=>by
     obtain⟨x,hxm⟩:=List.exists_mem_of_ne_nil _ hemp
     obtain⟨p,hp1,hp2⟩:=(hto _ (cM (show i< (jW bs pcs).length by omega))).2 x hxm
     have h1:=hC.co p (pcs.length+i) ⟨i,_,htx,by rw [<-hp2];exact hxm,rfl⟩
     have h2:=hC.le p (by omega)
     omega
    rw [aH hri,aH (by rw [cF hemp,Bool.and_false];exact nI)]
  refine Ok.bind (P:=fun st:List cN=>st=lE bs pcs.length (pcs.length+bs.length) r (bL (pcs.length+ (i+1)) r)) (Ok.bif (fun hb=>?_) (fun hb=>Ok.ret ?_)) (fun st hst=>Ok.nx ⟨bP (by omega),hst⟩)
  ·refine Ok.app (by simp only [dT,List.length_nil];omega) (Ok.ret ?_)
   rw [hstep,aC hb]
  ·rw [hstep,aH (by rw [jY];exact hb)]
 ·rintro⟨G,ii⟩ e hG
  dsimp only at e hG ⊢
  subst e
  rw [my,aS]
  exact Ok.br hG
 intro o ho
 refine Ok.cs ho ?_ (fun r hr=>hr.elim)
 rintro⟨G,ii⟩ hG
 dsimp only at hG ⊢
 subst hG
 have hGl:=hgl (bL (pcs.length+bs.length) r)
 have hhl:=lA (pcs.length+bs.length) r
 generalize hGG:lE bs pcs.length (pcs.length+bs.length) r (bL (pcs.length+bs.length) r)=G at *
 refine Ok.bind (Ok.o9 (n:=ls.length) (fun st=>st.2) (fun i st=>st.1=gp G (zL bs pcs r) (ls.take i)) (Go:=fun st=>st.1=gp G (zL bs pcs r) ls) (Rt:=fun _=>False) ?_ ?_ (dJ _) rfl ?_ (by omega)) ?_
 ·rintro i ⟨W,ii⟩ hi e hW
  dsimp only at e hW ⊢
  subst e;subst hW
  rw [kr hi,aQ]
  have hx:ls[i]? =some ls[i]:=aN hi
  have hts:ls.take (i+1)=ls.take i++[ls[i]]:=dP hi
  obtain⟨e1,e2⟩:=Et (N:=N) (r:=r) hb (by omega) hpr hd hC.le hC.rr (G:=gp G (zL bs pcs r) (ls.take i)) (by rw [hGG];exact Bx _ _ _) ls[i] hN
  refine Ok.ix hx (Ok.eq e1 ?_)
  refine Ok.bind (P:=fun st:List cN=>st=gp G (zL bs pcs r) (ls.take (i+1))) ?_ (fun st hst=>Ok.nx ⟨bP (by omega),hst⟩)
  unfold Ji
  cases hg:zL bs pcs r ls[i] with
  | none=>
   dsimp only
   rw [show decide ((-1:Int)>=0)=false by decide,aS]
   refine Ok.ret ?_
   rw [hts,we hg]
  | some g=>
   have hgW:=e2 g hg
   have hWg: (gp G (zL bs pcs r) (ls.take i))[g]? =some (gp G (zL bs pcs r) (ls.take i))[g]:=aN hgW
   dsimp only
   rw [bU (by omega),aQ]
   have hpl: (gp G (zL bs pcs r) (ls.take i))[g].gq.length<=ls.length:=by
    have:=hWg
    rw [jz,rq] at this
    obtain⟨y,_,hy⟩:=this
    rw [<-hy]
    dsimp only
    rw [cW]
    have:=nJ (fun l=>decide (zL bs pcs r l=some g)) (ls.take i)
    rw [cP] at this;omega
   refine Ok.ix hWg (Ok.app (by simp only [dT,List.length_nil];omega) (Ok.ix hWg (Ok.ret ?_)))
   rw [cL,hts]
   exact xW hg hWg
 ·rintro⟨W,ii⟩ e hW
  dsimp only at e hW ⊢
  subst e
  rw [my,aS]
  exact Ok.br (by rw [dU] at hW;exact hW)
 ·apply List.ext_getElem?
  intro g
  rw [jz]
  cases hGg:G[g]? with
  | none=>rfl
  | some x=>
   have hx0:x.gq= []:=by
    rw [<-hGG] at hGg
    unfold lE at hGg
    rw [gv,rq] at hGg
    obtain⟨hd',_,rfl⟩:=hGg
    rfl
   simp only [Option.map_some,List.take_zero,List.filter_nil,List.map_nil,Option.some.injEq]
   rw [<-hx0]
 intro o ho
 exact Ok.cs ho (fun st hst=>Ok.ret hst) (fun r hr=>hr.elim)
end
section
variable {N:Nat} {a:kH} {k8:List (List aA)} {gj:List (List (List aA))} {r:Nat->Nat} {gs:List cN} {ofP ofB tP:List Int} {tQ:List j4}
theorem pS.Ig (b:pS a k8 gj r gs ofP ofB tP tQ):vC a:=G1 b.r8.Ig
theorem Eu (b:pS a k8 gj r gs ofP ofB tP tQ) (hN:4398046511104<=N):
  jh N a=some (a.aJ,a.cH,a.aO,a.bV,(dO 0 gj).map aK.cK,(dO 0 gj).map aK.gz,gs,jW a.aO (dO 0 gj)):=by
 refine Ok.get ?_
 have hc16:=b.r8.xS.2
 have hfew:=b.xS.2
 have hbl:=b.r8.gb.len
 have hll:=b.Ig.xS
 unfold jh
 have hpl: ∀k,(dO 0 (gj.take k)).length<=2000:=fun k=>by
  have h1:=vD (gj.take k) 0
  have h2:=vD gj 0
  have h3: ((gj.take k).map List.length).sum<=(gj.map List.length).sum:=by
   conv=>rhs;rw [<-List.take_append_drop k gj,dI,List.sum_append]
   omega
  omega
 refine Ok.bind (Ok.o9 (n:=a.aJ.length) (fun st=>st.2.2) (fun i st=>st.1= (dO 0 (gj.take i)).map aK.cK/\st.2.1= (dO 0 (gj.take i)).map aK.gz) (Go:=fun st=>st.1= (dO 0 gj).map aK.cK/\st.2.1= (dO 0 gj).map aK.gz) (Rt:=fun _=>False) ?_ ?_ (dJ _) rfl ⟨rfl,rfl⟩ (by omega)) ?_
 ·rintro i ⟨La,Re,ii⟩ hi e ⟨h1,h2⟩
  dsimp only at e h1 h2 ⊢
  subst e;subst h1;subst h2
  rw [kr hi,aQ]
  obtain⟨s,ps,u,hd,hp,L⟩:=rJ b hi
  have hcx:a.aJ[i]? =some a.aJ[i]:=aN hi
  have hcs:=b.r8.cs _ (cM hi)
  have hip:=(bD.1 hp).1
  have hts:dO 0 (gj.take (i+1))=dO 0 (gj.take i)++ps.map (fun p=>⟨((i:Nat):Int),p,aR p⟩):=by
   rw [dP hip,(bD.1 hp).2,tO,cP]
   simp only [iO,show min i gj.length=i by omega]
  have hl1:=hpl i
  have hl2:=hpl (i+1)
  rw [hts,cX,cW] at hl2
  refine Ok.eq (q6 b.r8.gb hcx hcs.1 hcs.2 L.dr hN) (Ok.eq (L.pieces hN) ?_)
  rw [cW]
  refine Ok.bind (Ok.o9 (n:=ps.length) (fun st=>st.2.2) (fun j st=>st.1= (dO 0 (gj.take i)).map aK.cK++(ps.take j).map (fun _=>((i:Nat):Int))/\st.2.1= (dO 0 (gj.take i)).map aK.gz++(ps.take j).map aR)
   (Go:=fun st=>st.1= (dO 0 (gj.take (i+1))).map aK.cK/\st.2.1= (dO 0 (gj.take (i+1))).map aK.gz) (Rt:=fun _=>False) ?_ ?_ (dJ _) rfl ⟨by simp,by simp⟩ (by omega)) ?_
  ·rintro j ⟨La,Re,jj⟩ hj e ⟨h1,h2⟩
   dsimp only at e h1 h2 ⊢
   subst e;subst h1;subst h2
   rw [kr hj,aQ]
   have hx: (ps.map aR)[j]? =some (aR ps[j]):=by rw [gv,aN hj];rfl
   refine Ok.app ?_ (Ok.ix hx (Ok.app ?_ (Ok.nx ⟨bP (by omega),?_,?_⟩)))
   ·rw [cX,cW,cW,cP];simp only [dT,List.length_nil];omega
   ·rw [cX,cW,cW,cP];simp only [dT,List.length_nil];omega
   ·dsimp only;rw [dP hj,dI,kE];rfl
   ·dsimp only;rw [dP hj,dI,kE];rfl
  ·rintro⟨La,Re,jj⟩ e ⟨h1,h2⟩
   dsimp only at e h1 h2 ⊢
   subst e;subst h1;subst h2
   rw [my,aS]
   refine Ok.br ⟨?_,?_⟩
   ·dsimp only;rw [hts,dI,List.map_map,dU];rfl
   ·dsimp only;rw [hts,dI,List.map_map,dU];rfl
  intro o ho
  exact Ok.cs ho (fun st hst=>Ok.nx ⟨bP (by omega),hst⟩) (fun r hr=>hr.elim)
 ·rintro⟨La,Re,ii⟩ e ⟨h1,h2⟩
  dsimp only at e h1 h2 ⊢
  subst e
  rw [my,aS]
  rw [lI (by rw [b.dr.zw];exact bT _)] at h1 h2
  exact Ok.br ⟨h1,h2⟩
 intro o ho
 refine Ok.cs ho ?_ (fun r hr=>hr.elim)
 rintro⟨La,Re,ii⟩ ⟨h1,h2⟩
 dsimp only at h1 h2 ⊢
 subst h1;subst h2
 rw [cW]
 have hpf:=fun p hp=>Er b (p:=p) hp
 generalize hpcs:dO 0 gj=pcs at *
 refine Ok.bind (Ok.o9 (n:=a.aO.length) (fun st=>st.2) (fun i st=>st.1=jW (a.aO.take i) pcs) (Go:=fun st=>st.1=jW a.aO pcs) (Rt:=fun _=>False) ?_ ?_ (dJ _) rfl rfl (by omega)) ?_
 ·rintro i ⟨T,ii⟩ hi e hT
  dsimp only at e hT ⊢
  subst e;subst hT
  rw [kr hi,aQ]
  have hx:a.aO[i]? =some a.aO[i]:=aN hi
  have hg:=b.r8.gb.ok _ (cM hi)
  have hsq:=JO hg.1 hg.2
  have hplain: ¬a.aO[i].fY=true->oj (ij a.aO[i]) pcs pcs.length= []:=fun hp=>by
   unfold oj
   rw [List.filter_eq_nil_iff]
   intro j _
   rw [jY,Option.any_eq_false]
   intro p _
   unfold ij;rw [jY] at hp;rw [hp];rfl
  refine Ok.bind (Ok.jH (Go:=fun st=>st.1=ints (oj (ij a.aO[i]) pcs pcs.length)) (Rt:=fun _=>False) (fun st=>∃j:Nat,st.2= ((j:Nat):Int)/\j<=pcs.length/\st.1=ints (oj (ij a.aO[i]) pcs j)) (fun st=>pcs.length - st.2.toNat) ?_ ⟨0,rfl,dJ _,rfl⟩ (by simp;omega)) ?_
  ·rintro⟨ow,jj⟩ ⟨j,e,hj,ho⟩
   dsimp only at e ho ⊢
   subst e;subst ho
   by_cases hlt:j<pcs.length
   ·rw [kr hlt,aQ,eI hx,aB,aB]
    refine Ok.bif (fun hpl=>?_) (fun hpl=>Ok.br ?_)
    ·have hpx:pcs[j]? =some pcs[j]:=aN hlt
     have hlx: (pcs.map aK.cK)[j]? =some pcs[j].cK:=by rw [gv,hpx];rfl
     have hrx: (pcs.map aK.gz)[j]? =some pcs[j].gz:=by rw [gv,hpx];rfl
     obtain⟨f1,f2,_⟩:=hpf _ (cM hlt)
     have hil:=yG (ij a.aO[i]) pcs j
     have hcond: ((some a.aO[i]).bind fun x932=>(idx (pcs.map aK.cK) ((j:Nat):Int)).bind fun x935=>(eW N x932 x935).bind fun x936=>bif x936 then ((idx (pcs.map aK.gz) ((j:Nat):Int)).bind fun x938=>(some a.aO[i]).bind fun x941=>(cJ N x941).bind fun x944=>(jm N x938 x944).bind fun x946=>some x946) else (some false))=some (ij a.aO[i] pcs[j]):=by
      rw [aB,eI hlx,aB,tY,aB,eI hrx,aB,aB,ma hg.1,aB,Jn (by omega) (fun q hq=>CJ (f2 q hq).1 (f2 q hq).2.1 (f2 q hq).2.2) hsq hN,aB]
      unfold ij
      rw [hpl,Bool.true_and]
      cases jV a.aO[i] pcs[j].cK <;> rfl
     refine Ok.eq hcond ?_
     refine Ok.bind (P:=fun st:List Int=>st=ints (oj (ij a.aO[i]) pcs (j+1))) (Ok.bif (fun hb=>?_) (fun hb=>Ok.ret ?_)) (fun st hst=>Ok.nx ⟨⟨j+1,bP (by omega),hlt,hst⟩,?_⟩)
     ·refine Ok.app (by rw [lC];simp only [dT,List.length_nil];omega) (Ok.ret ?_)
      rw [wR hpx,aC hb,pG];rfl
     ·rw [wR hpx,aH (by rw [jY];exact hb)]
     ·dsimp only;rw [bP (by omega)];simp only [cL];omega
    ·have hn:=hplain (by rw [hpl];exact nI)
     have hj0:oj (ij a.aO[i]) pcs j= []:=by
      unfold oj
      rw [List.filter_eq_nil_iff]
      intro j' hj'
      rw [jY,Option.any_eq_false]
      intro p _
      unfold ij;rw [hpl];rfl
     dsimp only
     rw [hn,hj0]
   ·have:j=pcs.length:=by omega
    subst this
    rw [my,aS,aB,aS]
    exact Ok.br rfl
  intro o ho
  refine Ok.cs ho ?_ (fun r hr=>hr.elim)
  rintro⟨ow,jj⟩ ho2
  dsimp only at ho2 ⊢
  subst ho2
  refine Ok.app ?_ (Ok.nx ⟨bP (by omega),?_⟩)
  ·unfold jW;rw [cW,cP];simp only [dT,List.length_nil];omega
  ·dsimp only
   unfold jW
   rw [dP hi,dI];rfl
 ·rintro⟨T,ii⟩ e hT
  dsimp only at e hT ⊢
  subst e
  rw [my,aS]
  exact Ok.br (by rw [dU] at hT;exact hT)
 intro o ho
 refine Ok.cs ho ?_ (fun r hr=>hr.elim)
 rintro⟨T,ii⟩ hT
 dsimp only at hT ⊢
 subst hT
 have hcon:=b.N9
 rw [hpcs] at hcon
 have hnb:=fun l=>Jp b l
 rw [hpcs] at hnb
 refine Ok.eq (G4 (r:=r) b.r8.gb (by omega) (by omega) (fun p hp=>⟨by have:=(hpf p hp).1;omega,fun x hx=>((hpf p hp).2.1 x hx).2.1⟩) hnb hcon.conn hN) (Ok.ret ?_)
 rw [<-hcon.gs]
end
end Go.Gk
namespace Go.Gk
open Go Classical
section
variable {N:Nat} {a:kH} {k8:List (List aA)} {gj:List (List (List aA))} {r:Nat->Nat} {gs:List cN} {ofP ofB tP:List Int} {tQ:List j4}
end
section
variable {N:Nat}
end
end Go.Gk
namespace Go.Gk
open Go Classical
section
variable {bs:List cE} {ls:List fP} {pcs:List aK} {r:Nat->Nat} {gs:List cN} {ofP ofB tP:List Int} {tQ:List j4}
end
section
variable {N:Nat} {a:kH} {k8:List (List aA)} {gj:List (List (List aA))} {r:Nat->Nat} {gs:List cN} {ofP ofB tP:List Int} {tQ:List j4}
end
section
variable {N:Nat}
end
end Go.Gk
namespace Go.Gk
open Go Classical
section
variable {N:Nat} {a:kH} {k8:List (List aA)} {gj:List (List (List aA))} {r:Nat->Nat} {gs:List cN} {ofP ofB tP:List Int} {tQ:List j4}
end
section
variable {N:Nat}
end
end Go.Gk
namespace Go.Gk
open Go Classical
theorem Iv {α:Type} {l:List α} {φ:α->α->Option Bool} (hl:l.length<=4611686018427387904) (h: ∀x∈l,φ x x=some true):
  (bif ((l.length:Int) != (l.length:Int)) then (some false) else ((ud l.length (fun(k31:Nat) (s32:Unit)=>((idx l (k31:Int)).bind fun x44=>(idx l (k31:Int)).bind fun x48=>(φ x44 x48).bind fun x54=>bif (!x54) then (some (.rt false)) else (some (.nx ())):Option (Fl (Unit) Bool))) ()).bind fun o55=>o55.cs (fun(s32:Unit)=>some true) (fun r=>some r)))=some true:=by
 rw [bne_self_eq_false,aS]
 refine Ok.get ?_
 refine Ok.bind (Ok.ud (fun _ _=>True) (Go:=fun _=>True) (Rt:=fun _=>False) hl trivial (fun k s hk _=>?_) (fun _ _=>trivial)) (fun o ho=>Ok.cs ho (fun _ _=>Ok.ret rfl) (fun r hr=>hr.elim))
 have hx:l[k]? =some l[k]:=aN hk
 refine Ok.ix hx (Ok.ix hx (Ok.eq (h _ (cM hk)) ?_))
 rw [mY,aS]
 exact Ok.nx trivial
section
variable {N:Nat} {a:kH} {k8:List (List aA)} {gj:List (List (List aA))} {r:Nat->Nat} {gs:List cN} {ofP ofB tP:List Int} {tQ:List j4}
end
section
variable {N:Nat}
end
end Go.Gk
namespace Go.Gk
open Go Classical
theorem Ev {s:List aA} (hc:eP (s.map cA)) (hne:s≠[]): ∃t l,aR s=t::l/\(⟨t.X0,t.Y0⟩:eQ)=rI s:=by
 cases s with
 | nil=>exact absurd rfl hne
 | cons b t=>
  have hb:=(hc.each (cA b) (by simp)).2.1
  have he:=pF hc b (by simp)
  have hx:b.Xs≠[]:=hb
  rw [lG]
  unfold mo rI
  cases h1:b.Xs with
  | nil=>exact absurd h1 hx
  | cons x xs=>
   cases xs with
   | nil=>rw [h1] at he;cases he
   | cons y ys=>exact⟨_,_,rfl,by simp [h1]⟩
section
variable {N:Nat} {a:kH} {k8:List (List aA)} {gj:List (List (List aA))} {r:Nat->Nat} {gs:List cN} {ofP ofB tP:List Int} {tQ:List j4}
theorem Ew (b:pS a k8 gj r gs ofP ofB tP tQ) (h2:cU N a=some 0) (hN:4398046511104<=N):gh N a=some (k8.map aR,0):=by
 refine Ok.get ?_
 have hlen:=b.dr.len
 have hc16:=b.r8.xS
 unfold gh
 refine Ok.eq h2 ?_
 simp only [bne_self_eq_false,aS]
 refine Ok.bind (Ok.o9 (n:=a.aJ.length) (fun st=>st.2) (fun k st=>st.1= (k8.take k).map aR) (Go:=fun st=>st.1=k8.map aR) (Rt:=fun _=>False) ?_ ?_ (dJ _) rfl rfl (by omega)) ?_
 ·rintro k ⟨s,i⟩ hk e hs
  dsimp only at e hs ⊢
  subst e;subst hs
  rw [kr hk,aQ]
  obtain⟨s,ps,u,h1,_,L⟩:=rJ b (i:=k) hk
  have hcx:a.aJ[k]? =some a.aJ[k]:=aN hk
  have hr1:=(b.r8.cs _ (cM hk)).1
  refine Ok.eq (q6 b.r8.gb hcx hr1 L.k1 L.dr hN) (Ok.app (by simp;omega) (Ok.nx ⟨bP (by omega),?_⟩))
  have hkd:k<k8.length:=by omega
  rw [dP hkd,dI]
  have hd:k8[k]=s:=by have:=aN hkd;rw [h1] at this;injection this with this;exact this.symm
  rw [hd];rfl
 ·rintro⟨s,i⟩ e hs
  dsimp only at e hs ⊢
  subst e;subst hs
  rw [my,aS]
  exact Ok.br (by rw [<-hlen,dU])
 intro o ho
 refine Ok.cs ho ?_ (fun r hr=>hr.elim)
 rintro⟨s,i⟩ hs
 dsimp only at hs ⊢
 exact Ok.ret (by rw [hs])
theorem Ex {l:List aI} (hl:l.length<=1073741824) (hN:4398046511104<=N):jF N l=some (x6 l):=by
 refine Ok.get ?_
 unfold jF
 refine Ok.bind (Ok.o9 (n:=l.length) (fun st=>st.2) (fun k st=>st.1=x6 (l.take k)) (Go:=fun st=>st.1=x6 l) (Rt:=fun _=>False) ?_ ?_ (dJ _) rfl rfl (by omega)) ?_
 ·rintro k ⟨s,i⟩ hk e hs
  dsimp only at e hs ⊢
  subst e;subst hs
  rw [kr hk,aQ]
  have hx:l[k]? =some l[k]:=aN hk
  refine Ok.ix hx (Ok.ix hx (Ok.ix hx (Ok.ix hx (Ok.nx ⟨bP (by omega),?_⟩))))
  unfold x6
  rw [dP hk,List.foldl_append];rfl
 ·rintro⟨s,i⟩ e hs
  dsimp only at e hs ⊢
  subst e;subst hs
  rw [my,aS]
  exact Ok.br (by rw [dU])
 intro o ho
 refine Ok.cs ho ?_ (fun r hr=>hr.elim)
 rintro⟨s,i⟩ hs
 dsimp only at hs ⊢
 exact Ok.ret hs
theorem FA (b:pS a k8 gj r gs ofP ofB tP tQ) (h2:cU N a=some 0) (hN:4398046511104<=N):gF N a=some (toldOf (dO 0 gj),0):=by
 refine Ok.get ?_
 have hf:=b.xS.2
 unfold gF
 refine Ok.eq h2 ?_
 simp only [bne_self_eq_false,aS]
 refine Ok.eq (Eu b hN) ?_
 dsimp only
 have hlen: ((dO 0 gj).map aK.gz).length= (dO 0 gj).length:=cW _
 refine Ok.bind (Ok.o9 (n:=(dO 0 gj).length) (fun st=>st.2) (fun k st=>st.1=toldOf ((dO 0 gj).take k)) (Go:=fun st=>st.1=toldOf (dO 0 gj)) (Rt:=fun _=>False) ?_ ?_ (dJ _) rfl rfl (by omega)) ?_
 ·rintro k ⟨s,i⟩ hk e hs
  dsimp only at e hs ⊢
  subst e;subst hs
  rw [hlen,kr hk,aQ]
  have hkx: (dO 0 gj)[k]? =some (dO 0 gj)[k]:=aN hk
  have hr: ((dO 0 gj).map aK.gz)[k]? =some (dO 0 gj)[k].gz:=by rw [gv,hkx];rfl
  have hl: ((dO 0 gj).map aK.cK)[k]? =some (dO 0 gj)[k].cK:=by rw [gv,hkx];rfl
  obtain⟨i,r',s,ps,u,j,k',hP⟩:=AM b.r8 b.dr (cM hk)
  have hsz:=hP.AE b.r8
  obtain⟨q,l,e1,e2⟩:=Ev hP.set.can hP.ne
  have hq:idx (dO 0 gj)[k].gz 0=some q:=by rw [hP.JS,e1];rfl
  refine Ok.eq (x:=⟨(dO 0 gj)[k].cK,rI (dO 0 gj)[k].Set,x6 (dO 0 gj)[k].gz⟩) ?_ (Ok.app (by unfold toldOf;simp;omega) (Ok.nx ⟨bP (by omega),?_⟩))
  ·unfold iP
   refine Ok.get ?_
   refine Ok.ix hr (Ok.ix hl (Ok.eq hq (Ok.eq hq (Ok.eq (Ex (by omega) hN) (Ok.ret ?_)))))
   rw [<-e2]
  ·unfold toldOf
   rw [dP hk,dI];rfl
 ·rintro⟨s,i⟩ e hs
  dsimp only at e hs ⊢
  subst e;subst hs
  rw [hlen,my,aS]
  exact Ok.br (by rw [dU])
 intro o ho
 refine Ok.cs ho ?_ (fun r hr=>hr.elim)
 rintro⟨s,i⟩ hs
 dsimp only at hs ⊢
 exact Ok.ret (by rw [hs])
end
section
variable {N:Nat}
theorem Ey {l m:List Piece} (hl:l.length<=4611686018427387904):lL N l m=some (decide (l=m)):=yu hl
theorem uy {a:kH} (ha:bk a<=1048576) (hN:4398046511104<=N):gl N a=some true:=by
 have hs:=Ec ha
 have key: ∃x p f,kf N a=some (x,f)/\gh N a=some (x,f)/\kW N a=some (p,f)/\gF N a=some (p,f)/\kB N a=some f/\cU N a=some f/\
   x.length<=1073741824/\(∀l∈x,l.length<=1073741824)/\p.length<=1073741824:=by
  rcases checked (N:=N) hs hN with ⟨e,he,h1,h2⟩ | ⟨b,h1,h2⟩
  ·have hb: (e != 0)=true:=by simpa using he
   refine⟨[],[],e,?_,?_,?_,?_,?_,h2,by simp,(fun l hl=>by cases hl),by simp⟩
   ·unfold kf;rw [h1,aB];simp only [Iy,hb,aQ]
   ·unfold gh;rw [h2,aB,hb,aQ]
   ·unfold kW;rw [h1,aB];simp only [Iy,hb,aQ]
   ·unfold gF;rw [h2,aB,hb,aQ]
   ·unfold kB;rw [h1];rfl
  ·rename_i k8 gj r gs ofP ofB tP tQ
   have hf:=b.xS
   have hlen:=b.dr.len
   have hc16:=b.r8.xS
   refine⟨_,_,0,Fu b hN h1,Ew b h2 hN,GS b h1,FA b h2 hN,?_,h2,?_,fun l hl=>?_,?_⟩
   ·unfold kB;rw [h1];rfl
   ·rw [cW];omega
   ·obtain⟨s,hs,rfl⟩:=dE.1 hl
    have:=hf.1 s hs;omega
   ·unfold toldOf;rw [cW];have:=hf.2;omega
 obtain⟨x,p,f,x1,x2,p1,p2,c1,c2,hx,hxl,hp⟩:=key
 unfold gl
 rw [x1,aB,x2,aB,p1,aB,p2,aB,c1,aB,c2,aB,BEq.rfl,aQ]
 have e:gw N x x (eF N)=some true:=Iv (by omega) (fun l hl=>A1 (hxl l hl) hN)
 rw [e,aB,Bool.and_self,aQ,Ey (show p.length<=4611686018427387904 by omega),aB,bU rfl,Bool.and_self,aQ,Jl (by omega)]
 rfl
end
end Go.Gk
