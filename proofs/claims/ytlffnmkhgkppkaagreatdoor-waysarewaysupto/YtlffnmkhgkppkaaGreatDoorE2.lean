/-
  Helping texts: plain functions and plain laws. No statement of the seed is proved here.
-/
import Derived.Test.YtlffnmkhgkppkaaGreatDoorE1
import Derived.Test.YtlffnmkhgkppkaaGreatDoorA2
set_option linter.unusedVariables false
set_option linter.unusedSimpArgs false
set_option linter.unusedSectionVars false
namespace Go.Gk
open Go Classical
section
variable {N:Nat}
section
variable {α:Type}
def s8 (P:α->Bool) (l:List α) (n:Nat):List Nat:=(List.range n).filter (fun k=>(l[k]?).any P)
theorem Dw {P:α->Bool} {l:List α} {n:Nat} {x:α} (h:l[n]? =some x):s8 P l (n+1)=if P x=true then s8 P l n++[n] else s8 P l n:=by
 unfold s8
 rw [List.range_succ,iO]
 by_cases hp:P x=true
 ·rw [aC hp];simp [h,hp]
 ·rw [aD hp];simp [h,hp]
theorem wP (P:α->Bool) (l:List α) (n:Nat): (s8 P l n).length<=n:=by
 have:=kB (fun k=>(l[k]?).any P) (List.range n)
 rw [List.length_range] at this;exact this
theorem Fj {P:α->Bool} {l:List α} {n k:Nat}:k∈s8 P l n↔k<n/\(l[k]?).any P=true:=by unfold s8;simp
theorem vM {β:Type} {l:List α} (P:α->Bool) (g:Nat->β):tN l.length (fun k=>(l[k]?).bind fun x=>if P x=true then some (g k) else none)= (l.findIdx? P).map g:=by
 cases h:l.findIdx? P with
 | none=>
  rw [List.findIdx?_eq_none_iff] at h
  refine mL.2 fun k hk=>?_
  rw [aL hk]
  have:=h _ (cJ hk)
  simp [this]
 | some j=>
  obtain⟨hj,hp,hn⟩:=List.findIdx?_eq_some_iff_getElem.1 h
  refine nF.2 ⟨j,hj,by rw [aL hj];simp [hp],fun i hi=>?_⟩
  rw [aL (by omega)]
  have:=hn i hi
  simp [this]
end
def ints (l:List Nat):List Int:=l.map fun i=>((i:Nat):Int)
theorem s9 (l m:List Nat):ints (l++m)=ints l++ints m:=dD
theorem mw (l:List Nat): (ints l).length=l.length:=cE _
theorem yH {l:List Nat} {x:Int}:x∈ints l↔∃i∈l,x= ((i:Nat):Int):=by
 unfold ints;rw [cP]
 constructor
 ·rintro⟨i,h1,h2⟩;exact⟨i,h1,h2.symm⟩
 ·rintro⟨i,h1,h2⟩;exact⟨i,h1,h2.symm⟩
def Eu (p0 p1:aH):Bool:=((((decide (p0.X0<p1.X1))&&(decide (p1.X0<p0.X1)))&&((p0.Y1==p1.Y0)||(p1.Y1==p0.Y0)))||(((decide (p0.Y0<p1.Y1))&&(decide (p1.Y0<p0.Y1)))&&((p0.X1==p1.X0)||(p1.X1==p0.X0))))
def mx (b:cH) (p:aN):Bool:=b.jV&&(jR b p.eT&&p.oq.any (fun r=>Eu r (sW b)))
def eU (bs:List cH) (pcs:List aN):List (List Int):=bs.map fun b=>ints (s8 (mx b) pcs pcs.length)
theorem pP {l:List aH} {φ:aH->Option Bool} (p:aH->Bool) (hl:l.length<=4611686018427387904) (h: ∀x∈l,φ x=some (p x)):fY N l φ=some (l.any p):=
 qs p hl h
theorem GN {bs:List cH} {pcs:List aN} (hb:mc bs) (hp:pcs.length<=1073741824) (hr: ∀p∈pcs,p.oq.length<=1073741824):i6 N bs pcs []=some (eU bs pcs):=by
 refine Ok.get ?_
 have hbl:=hb.len
 unfold i6
 refine Ok.bind (Ok.lV (fun k st=>st=eU (bs.take k) pcs) (by omega) rfl (fun k st hk e=>?_)) (fun st e=>Ok.ret (by rw [e,eE]))
 subst e
 have hg:=hb.ok _ (cJ hk)
 refine Ok.idx hk ?_
 refine Ok.bind (P:=fun t=>t=ints (s8 (mx bs[k]) pcs pcs.length)) (Ok.lV (fun j t=>t=ints (s8 (mx bs[k]) pcs j)) (by omega) rfl (fun j t hj e=>?_)) (fun t e=>?_)
 ·subst e
  have hjx:pcs[j]? =some pcs[j]:=aL hj
  have hl:=wP (mx bs[k]) pcs j
  refine Ok.ix hjx ?_
  refine Ok.eq (x:=mx bs[k] pcs[j]) ?_ ?_
  ·unfold mx
   cases bs[k].jV with
   | false=>rfl
   | true=>
    rw [aO,yF,aB,Bool.true_and]
    cases jR bs[k] pcs[j].eT with
    | false=>rfl
    | true=>
     rw [aO,pP (fun r=>Eu r (sW bs[k])) (by have:=hr _ (cJ hj);omega) (fun r _=>by
      unfold ji;rw [lP hg.1];rfl),aB,Bool.true_and]
  ·rw [Dw hjx]
   cases ht:mx bs[k] pcs[j] with
   | false=>rw [aM,aD (by simp)];exact Ok.eq rfl (Ok.ret rfl)
   | true=>
    rw [aO,aC rfl]
    refine Ok.eq (x:=ints (s8 (mx bs[k]) pcs j)++[((j:Nat):Int)]) (by rw [iK (by rw [mw];simp;omega),aB]) (Ok.ret ?_)
    rw [s9];rfl
 ·subst e
  refine Ok.app ?_ (Ok.ret ?_)
  ·unfold eU;simp;omega
  ·unfold eU
   rw [dT hk,dD];rfl
def Cw (r:List aH) (p:jE):Bool:=r.any (fun x=>decide (p.X>=x.X0)&&(decide (p.X<x.X1)&&(decide (p.Y>=x.Y0)&&decide (p.Y<x.Y1))))
theorem vN {r:List aH} {p:jE} (hl:r.length<=4611686018427387904):jz N r p=some (Cw r p):=by
 unfold jz
 rw [pP (fun x=>decide (p.X>=x.X0)&&(decide (p.X<x.X1)&&(decide (p.Y>=x.Y0)&&decide (p.Y<x.Y1)))) hl (fun x _=>by
  unfold kG
  cases decide (p.X>=x.X0) <;> cases decide (p.X<x.X1) <;> cases decide (p.Y>=x.Y0) <;> rfl)];rfl
def uL (l:eW) (b:cH):Bool:=b.jV&&(jR b l.eT&&Cw [sW b] l.At)
def vO (l:eW) (p:aN):Bool:=(p.eT==l.eT)&&Cw p.oq l.At
def mG (bs:List cH) (pcs:List aN) (l:eW):Option bX:=match bs.findIdx? (uL l) with
 | some k=>some ⟨true,((k:Nat):Int)⟩
 | none=>(pcs.findIdx? (vO l)).map fun k=>⟨false,((k:Nat):Int)⟩
theorem GO {bs:List cH} {pcs:List aN} (hb:mc bs) (hp:pcs.length<=1073741824) (hr: ∀p∈pcs,p.oq.length<=1073741824) (l:eW):
  i9 N bs pcs l=some ((mG bs pcs l).getD ⟨false,0⟩,(mG bs pcs l).isSome):=by
 have hbl:=hb.len
 unfold i9
 rw [qq (fun k=>(bs[k]?).bind fun x=>if uL l x=true then some ((⟨true,((k:Nat):Int)⟩:bX),true) else none) (by omega) (fun k hk _=>by
  have hkx:bs[k]? =some bs[k]:=aL hk
  have hg:=hb.ok _ (cJ hk)
  rw [dG hkx,aB,hkx,lP hg.1,aB,aB,vN (by simp)]
  unfold uL
  cases bs[k].jV with
  | false=>rfl
  | true=>
   show (((bif jR bs[k] l.eT then _ else _:Option Bool)).bind _)=_
   cases jR bs[k] l.eT with
   | false=>rfl
   | true=>
    cases Cw [sW bs[k]] l.At <;> rfl),aB,vM (uL l) (fun k=>((⟨true,((k:Nat):Int)⟩:bX),true))]
 unfold mG
 cases bs.findIdx? (uL l) with
 | some k=>rfl
 | none=>
  show ((rH pcs.length _ ()).bind _)=_
  rw [qq (fun k=>(pcs[k]?).bind fun x=>if vO l x=true then some ((⟨false,((k:Nat):Int)⟩:bX),true) else none) (by omega) (fun k hk _=>by
   have hkx:pcs[k]? =some pcs[k]:=aL hk
   rw [dG hkx,aB,hkx,aB,vN (by have:=hr _ (cJ hk);omega)]
   unfold vO
   cases pcs[k].eT==l.eT with
   | false=>rfl
   | true=>cases Cw pcs[k].oq l.At <;> rfl),aB,vM (vO l) (fun k=>((⟨false,((k:Nat):Int)⟩:bX),true))]
  cases pcs.findIdx? (vO l) <;> rfl
def Lk (n:Nat) (tch:List (List Int)) (i j:Nat):Prop:=∃(k:Nat) (l:List Int),tch[k]? =some l/\((i:Nat):Int)∈l/\j=n+k
structure Dx (n m:Nat) (tch:List (List Int)) (r:Nat->Nat):Prop where
 le: ∀i,i<n+m->r i<=i
 rr: ∀i,i<n+m->r (r i)=r i
 co: ∀i j,Lk n tch i j->r i=r j
 fi: ∀S:Nat->Prop,(∀i j,Lk n tch i j->(S i↔S j))->∀i j,i<n+m->j<n+m->r i=r j->S i->S j
theorem Fk {n m:Nat} {tch:List (List Int)} (hm:tch.length=m) (ht: ∀l∈tch,l.length<=1073741824/\∀x∈l,∃i:Nat,i<n/\x= ((i:Nat):Int)) (hn:n<=1073741824) (hm2:m<=1073741824) {up:List Int} (hu:UF (n+m) up (fun i=>i)) (hN:4398046511104<=N):
  Ok (lV tch.length (fun(k34:Nat) (s35: (List Int))=>((idx tch (k34:Int)).bind fun x89=>(lV x89.length (fun(k92:Nat) (s93: (List Int))=>((idx x89 (k92:Int)).bind fun x107=>(gk N s93 x107 (IntKind.wrap .i64 ((n:Int)+ (k34:Int)))).bind fun x109=>some x109:Option ((List Int)))) s35).bind fun s93=>some s93:Option ((List Int)))) up)
   (fun up'=>∃r,UF (n+m) up' r/\Dx n m tch r):=by
 have base:Ok (lV tch.length (fun(k34:Nat) (s35: (List Int))=>((idx tch (k34:Int)).bind fun x89=>(lV x89.length (fun(k92:Nat) (s93: (List Int))=>((idx x89 (k92:Int)).bind fun x107=>(gk N s93 x107 (IntKind.wrap .i64 ((n:Int)+ (k34:Int)))).bind fun x109=>some x109:Option ((List Int)))) s35).bind fun s93=>some s93:Option ((List Int)))) up)
   (fun up'=>∃r E,UF (n+m) up' r/\o7 r E/\yv (n+m) r E/\(∀p∈E,Lk n tch p.1 p.2)/\∀(k:Nat) l (i:Nat),k<tch.length->tch[k]? =some l->((i:Nat):Int)∈l->(i,n+k)∈E):=by
  refine Ok.lV (fun q up'=>∃r E,UF (n+m) up' r/\o7 r E/\yv (n+m) r E/\(∀p∈E,Lk n tch p.1 p.2)/\∀(k:Nat) l (i:Nat),k<q->tch[k]? =some l->((i:Nat):Int)∈l->(i,n+k)∈E) (by omega)
   ⟨_,_,hu,o7.id,yv.id _,fun p hp=>(by cases hp),fun k l i hk=>by omega⟩ (fun q up' hq hI=>?_)
  obtain⟨r,E,h1,h2,h3,h4,h5⟩:=hI
  have hqx:tch[q]? =some tch[q]:=aL hq
  obtain⟨hl1,hl2⟩:=ht _ (cJ hq)
  refine Ok.ix hqx ?_
  rw [wrap_add (by omega)]
  refine Ok.bind (Ok.lV (fun t up'=>∃r E,UF (n+m) up' r/\o7 r E/\yv (n+m) r E/\(∀p∈E,Lk n tch p.1 p.2)/\(∀(k:Nat) l (i:Nat),k<q->tch[k]? =some l->((i:Nat):Int)∈l->(i,n+k)∈E)/\∀i:Nat,((i:Nat):Int)∈tch[q].take t->(i,n+q)∈E) (by omega)
   ⟨r,E,h1,h2,h3,h4,h5,fun i hi=>by simp at hi⟩ (fun t up' htl hI=>?_)) (fun up' hI=>Ok.ret ?_)
  ·obtain⟨r,E,h1,h2,h3,h4,h5,h6⟩:=hI
   refine Ok.idx htl ?_
   obtain⟨i,hi,e⟩:=hl2 _ (cJ htl)
   rw [e]
   obtain⟨u2,a1,a2⟩:=HQ (N:=N) h1 (i:=i) (k:=n+q) (by omega) (by omega) (by omega)
   refine Ok.eq a1 (Ok.ret ⟨_,_,a2,h2.join i (n+q) (h1.rr i (by omega)),h3.join (by omega) (by omega),fun p hp=>?_,fun k l j hk hl hj=>List.mem_append_left _ (h5 k l j hk hl hj),fun j hj=>?_⟩)
   ·rcases cV.1 hp with hp | hp
    ·exact h4 p hp
    ·simp at hp;subst hp
     exact⟨q,tch[q],hqx,by rw [<-e];exact cJ htl,rfl⟩
   ·rw [dT htl,cV] at hj
    rcases hj with hj | hj
    ·exact List.mem_append_left _ (h6 j hj)
    ·rw [pA,e] at hj
     have:j=i:=by omega
     subst this;simp
  ·obtain⟨r,E,h1,h2,h3,h4,h5,h6⟩:=hI
   refine⟨r,E,h1,h2,h3,h4,fun k l i hk hl hi=>?_⟩
   by_cases hkq:k<q
   ·exact h5 k l i hkq hl hi
   ·have:k=q:=by omega
    subst this
    rw [hqx] at hl;injection hl with hl;subst hl
    exact h6 i (by rw [eE];exact hi)
 obtain⟨up',e,r,E,h1,h2,h3,h4,h5⟩:=base
 have hE: ∀i j,Lk n tch i j->(i,j)∈E:=fun i j ⟨k,l,hl,hi,hj⟩=>by
  rw [hj];exact h5 k l i (aU.1 hl).1 hl hi
 exact⟨up',e,r,h1,h1.le,h1.rr,fun i j h=>h2 (i,j) (hE i j h),fun S hS i j hi hj=>h3 S (fun p hp=>hS p.1 p.2 (h4 p hp)) i j hi hj⟩
def zo (bs:List cH) (j:Nat):Bool:=(bs[j]?).any (fun b=>b.jV)
def gP (n:Nat) (c:List Nat):List Nat:=c.filter (fun i=>decide (i<n))
def gB (bs:List cH) (n:Nat) (c:List Nat):List Nat:=(c.filter (fun i=> !decide (i<n)&&zo bs (i - n))).map (fun i=>i - n)
def GP (bs:List cH) (n:Nat) (c:List Nat):Bool:=decide (0< (gP n c).length+ (gB bs n c).length)
def L2 (bs:List cH) (n:Nat) (c:List Nat):dI:=⟨ints (gP n c),ints (gB bs n c),[]⟩
theorem Ev (n:Nat) (c:List Nat) (i:Nat):gP n (c++[i])=if i<n then gP n c++[i] else gP n c:=by
 unfold gP;rw [iO];split <;> rename_i h <;> simp [h]
theorem Ew (bs:List cH) (n:Nat) (c:List Nat) (i:Nat):gB bs n (c++[i])=if i<n then gB bs n c else if zo bs (i - n)=true then gB bs n c++[i - n] else gB bs n c:=by
 unfold gB;rw [iO,dD]
 split
 ·rename_i h;simp [h]
 ·rename_i h
  split <;> rename_i h2 <;> simp [h,h2]
theorem GQ (n:Nat) (c:List Nat): (gP n c).length<=c.length:=kB _ _
theorem GR (bs:List cH) (n:Nat) (c:List Nat): (gB bs n c).length<=c.length:=by unfold gB;rw [cE];exact kB _ _
def live (bs:List cH) (n t:Nat) (r:Nat->Nat) (hs:List Nat):List Nat:=hs.filter (fun h=>GP bs n (cls t r h))
def ry (bs:List cH) (n t:Nat) (r:Nat->Nat) (hs:List Nat):List dI:=(live bs n t r hs).map (fun h=>L2 bs n (cls t r h))
theorem Fm (bs:List cH) (n t:Nat) (r:Nat->Nat) (hs:List Nat) (h:Nat):live bs n t r (hs++[h])=if GP bs n (cls t r h)=true then live bs n t r hs++[h] else live bs n t r hs:=by
 unfold live;rw [iO];split <;> rename_i h2 <;> simp [h2]
theorem vP (bs:List cH) (n t:Nat) (r:Nat->Nat) (hs:List Nat): (ry bs n t r hs).length= (live bs n t r hs).length:=by unfold ry;rw [cE]
def gi (bs:List cH) (n t:Nat) (r:Nat->Nat) (h:Nat):Nat:=(live bs n t r ((bI t r).takeWhile (fun x=>decide (x≠h)))).length
theorem ug {l:List Nat} (hn:l.Nodup) {k h:Nat} (hk:l[k]? =some h):l.takeWhile (fun x=>decide (x≠h))=l.take k:=by
 induction l generalizing k with
 | nil=>simp at hk
 | cons a l ih=>
  cases k with
  | zero=>simp at hk;subst hk;simp
  | succ k=>
   have hk:l[k]? =some h:=by simpa using hk
   have hne:a≠h:=fun e=>(List.nodup_cons.1 hn).1 (by rw [e];exact dU hk)
   rw [List.takeWhile_cons,aC (by simpa using hne),List.take_succ_cons,ih (List.nodup_cons.1 hn).2 hk]
theorem vQ (bs:List cH) (n t:Nat) (r:Nat->Nat) (hs:List Nat): (live bs n t r hs).length<=hs.length:=kB _ _
theorem GS {bs:List cH} {n t:Nat} {r:Nat->Nat} {h:Nat} (hh:h∈bI t r) (hne:GP bs n (cls t r h)=true):gi bs n t r h< (live bs n t r (bI t r)).length/\(live bs n t r (bI t r))[gi bs n t r h]? =some h:=by
 obtain⟨k,hk⟩:=dF hh
 have hkl:=(aU.1 hk).1
 unfold gi
 rw [ug (mM t r) hk]
 have e:bI t r= (bI t r).take k++h::(bI t r).drop (k+1):=by
  have h1:=(List.take_append_drop k (bI t r)).symm
  rw [pB hkl,(aU.1 hk).2] at h1;exact h1
 have e2:live bs n t r (bI t r)=live bs n t r ((bI t r).take k)++h::live bs n t r ((bI t r).drop (k+1)):=by
  conv=>lhs;rw [e]
  unfold live
  rw [iO,List.filter_cons,aC hne]
 constructor
 ·rw [e2];simp
 ·rw [e2]
  simp
end
end Go.Gk
namespace Go.Gk
open Go Classical
section
variable {N:Nat}
theorem zY {l:List Nat} (h:l.Nodup) {i j a:Nat} (hi:l[i]? =some a) (hj:l[j]? =some a):i=j:=
 (List.getElem_inj (h₀:=(aU.1 hi).1) (h₁:=(aU.1 hj).1) h).1 (by rw [(aU.1 hi).2,(aU.1 hj).2])
theorem tI {n i k:Nat} {r:Nat->Nat}:i∈cls n r k↔i<n/\r i=k:=by unfold cls;simp
theorem Fp (n:Nat) (r:Nat->Nat) (k:Nat): (cls n r k).Nodup:=List.Nodup.sublist List.filter_sublist List.nodup_range
structure KR (bs:List cH) (n m:Nat) (r:Nat->Nat) (hs:List Nat) (ofP ofB:List Int):Prop where
 lp:ofP.length=n
 lb:ofB.length=m
 pc: ∀i,i<n->r i∈hs->ofP[i]? =some ((gi bs n (n+m) r (r i):Nat):Int)
 bo: ∀j,j<m->r (n+j)∈hs->ofB[j]? =some (if zo bs j=true then ((gi bs n (n+m) r (r (n+j)):Nat):Int) else -1)
theorem Cx {bs:List cH} {n m:Nat} {r:Nat->Nat} (hm:bs.length=m) (hn:n<=1073741824) (hm2:m<=1073741824) {op ob:List Int} (hop:op.length=n) (hob:ob.length=m)
  {body:Nat->List dI×List Int×List Int->Option (List dI×List Int×List Int)}
  (hbody:body= (fun(k123:Nat) (s124: (List dI)×(List Int)×(List Int))=>((idx (o8 (n+m) r) (k123:Int)).bind fun x455=>(lV x455.length (fun(k458:Nat) (s459: (List Int)×(List Int)×(List Int)×(List Int))=>((idx x455 (k458:Int)).bind fun x556=>(bif (decide (x556< (n:Int))) then ((idx s459.1 x556).bind fun x580=>(app 8 s459.2.2.1 ([x556]: (List Int))).bind fun x582=>some ((s459.1.set (Int.toNat x556) (s124.1.length:Int)),s459.2.1,x582,s459.2.2.2)) else ((idx bs (IntKind.wrap .i64 (x556 - (n:Int)))).bind fun x584=>(bif x584.jV then ((idx s459.2.1 (IntKind.wrap .i64 (x556 - (n:Int)))).bind fun x594=>(app 8 s459.2.2.2 ([(IntKind.wrap .i64 (x556 - (n:Int)))]: (List Int))).bind fun x596=>some ((s459.2.1.set (Int.toNat (IntKind.wrap .i64 (x556 - (n:Int)))) (s124.1.length:Int)),x596)) else ((idx s459.2.1 (IntKind.wrap .i64 (x556 - (n:Int)))).bind fun x598=>some ((s459.2.1.set (Int.toNat (IntKind.wrap .i64 (x556 - (n:Int)))) (-1)),s459.2.2.2))).bind fun s592=>some (s459.1,s592.1,s459.2.2.1,s592.2))).bind fun s577=>some (s577.1,s577.2.1,s577.2.2.1,s577.2.2.2):Option ((List Int)×(List Int)×(List Int)×(List Int)))) (s124.2.1,s124.2.2,([]: (List Int)),([]: (List Int)))).bind fun s459=>(bif (decide ((IntKind.wrap .i64 ((s459.2.2.1.length:Int)+ (s459.2.2.2.length:Int)))>0)) then ((app 72 s124.1 [(⟨s459.2.2.1,s459.2.2.2,([]: (List fL))⟩:dI)]).bind fun x610=>some x610) else (some s124.1)).bind fun s606=>some (s606,s459.1,s459.2.1):Option ((List dI)×(List Int)×(List Int))))):
  Ok (lV (o8 (n+m) r).length body ([],op,ob)) (fun st=>st.1=ry bs n (n+m) r (bI (n+m) r)/\KR bs n m r (bI (n+m) r) st.2.1 st.2.2):=by
 subst hbody
 have hsl: (o8 (n+m) r).length= (bI (n+m) r).length:=by unfold o8;simp
 have hhl:=nI (n+m) r
 refine Ok.mono (Ok.lV (fun(k:Nat) (st:List dI×List Int×List Int)=>st.1=ry bs n (n+m) r ((bI (n+m) r).take k)/\KR bs n m r ((bI (n+m) r).take k) st.2.1 st.2.2) (by omega) ⟨rfl,hop,hob,fun i hi h=>by simp at h,fun j hj h=>by simp at h⟩ (fun k st hk hI=>?_)) (fun st h=>by rw [hsl,eE] at h;exact h)
 obtain⟨gs,ofP,ofB⟩:=st
 obtain⟨e1,I⟩:=hI
 dsimp only at e1 I ⊢
 subst e1
 rw [hsl] at hk
 have hkx: (bI (n+m) r)[k]? =some (bI (n+m) r)[k]:=aL hk
 have hts: (bI (n+m) r).take (k+1)= (bI (n+m) r).take k++[(bI (n+m) r)[k]]:=dT hk
 have hgk:gi bs n (n+m) r (bI (n+m) r)[k]= (ry bs n (n+m) r ((bI (n+m) r).take k)).length:=by
  unfold gi;rw [ug (mM _ _) hkx,vP]
 generalize hh: (bI (n+m) r)[k]=h at *
 have hsx: (o8 (n+m) r)[k]? =some (ints (cls (n+m) r h)):=by unfold o8;rw [dV,hkx];rfl
 refine Ok.ix hsx ?_
 have hcl:=AX (n+m) r h
 rw [mw]
 have hgl: (ry bs n (n+m) r ((bI (n+m) r).take k)).length<=n+m:=by
  rw [vP]
  have:=vQ bs n (n+m) r ((bI (n+m) r).take k)
  rw [cF] at this;omega
 have hold: ∀i∈cls (n+m) r h,∀i',r i'∈(bI (n+m) r).take k->i≠i':=fun i hi i' hi' e=>by
  subst e
  rw [(tI.1 hi).2] at hi'
  obtain⟨j,hj⟩:=dF hi'
  have hjk:j<k:=by have:=(aU.1 hj).1;rw [cF] at this;omega
  rw [List.getElem?_take_of_lt hjk] at hj
  have:=zY (mM (n+m) r) hj hkx
  omega
 refine Ok.bind (P:=fun s'=>KR bs n m r ((bI (n+m) r).take (k+1)) s'.1 s'.2.1/\s'.2.2.1=ints (gP n (cls (n+m) r h))/\s'.2.2.2=ints (gB bs n (cls (n+m) r h))) (Ok.mono (Ok.lV
  (fun(t:Nat) (s':List Int×List Int×List Int×List Int)=>KR bs n m r ((bI (n+m) r).take k) s'.1 s'.2.1/\s'.2.2.1=ints (gP n ((cls (n+m) r h).take t))/\s'.2.2.2=ints (gB bs n ((cls (n+m) r h).take t))/\
   (∀i∈(cls (n+m) r h).take t,i<n->s'.1[i]? =some ((gi bs n (n+m) r h:Nat):Int))/\∀i∈(cls (n+m) r h).take t,¬i<n->s'.2.1[i - n]? =some (if zo bs (i - n)=true then ((gi bs n (n+m) r h:Nat):Int) else -1)) (by omega)
   ⟨I,rfl,rfl,fun i hi=>by simp at hi,fun i hi=>by simp at hi⟩ (fun t s' ht hI'=>?_)) ?_) ?_
 ·obtain⟨oP,oB,pp,bb⟩:=s'
  obtain⟨J,e2,e3,J1,J2⟩:=hI'
  dsimp only at J e2 e3 J1 J2 ⊢
  subst e2;subst e3
  have htx: (ints (cls (n+m) r h))[t]? =some (((cls (n+m) r h)[t]:Nat):Int):=by unfold ints;rw [dV,aL ht];rfl
  refine Ok.ix htx ?_
  have htt: (cls (n+m) r h).take (t+1)= (cls (n+m) r h).take t++[(cls (n+m) r h)[t]]:=dT ht
  have hcm:=cJ ht
  have hdist: ∀i∈(cls (n+m) r h).take t,i≠(cls (n+m) r h)[t]:=fun i hi e=>by
   obtain⟨j,hj⟩:=dF hi
   have hjt:j<t:=by have:=(aU.1 hj).1;rw [cF] at this;omega
   rw [List.getElem?_take_of_lt hjt] at hj
   have:=zY (Fp (n+m) r h) hj (by rw [e];exact aL ht)
   omega
  generalize (cls (n+m) r h)[t]=c at *
  obtain⟨hc1,hc2⟩:=tI.1 hcm
  have hgp:=GQ n ((cls (n+m) r h).take t)
  have hgb:=GR bs n ((cls (n+m) r h).take t)
  rw [cF] at hgp hgb
  by_cases hcn:c<n
  ·rw [bB (by omega: ((c:Nat):Int)< ((n:Nat):Int)),aO]
   refine Ok.bind (P:=fun x=>x= (oP.set c ((gi bs n (n+m) r h:Nat):Int),oB,ints (gP n ((cls (n+m) r h).take t))++[((c:Nat):Int)],ints (gB bs n ((cls (n+m) r h).take t)))) ?_ ?_
   ·refine Ok.idx (by rw [J.lp];exact hcn) (Ok.app (by rw [mw];simp;omega) (Ok.ret ?_))
    rw [cA,hgk]
   ·rintro _ rfl
    refine Ok.ret ⟨⟨by simp [J.lp],J.lb,fun i hi hr=>?_,J.bo⟩,?_,?_,fun i hi hin=>?_,fun i hi hin=>?_⟩
    ·dsimp only
     rw [mD (by rw [J.lp];exact hcn),aD (fun e=>hold c hcm i hr e.symm)];exact J.pc i hi hr
    ·dsimp only;rw [htt,Ev,aC hcn,s9];rfl
    ·dsimp only;rw [htt,Ew,aC hcn]
    ·dsimp only
     rw [mD (by rw [J.lp];exact hcn)]
     split
     ·rfl
     ·rename_i hne
      rw [htt] at hi
      rcases cV.1 hi with hi | hi
      ·exact J1 i hi hin
      ·exact absurd (by simpa using hi) hne
    ·rw [htt] at hi
     rcases cV.1 hi with hi | hi
     ·exact J2 i hi hin
     ·have:i=c:=by simpa using hi
      subst this;exact absurd hcn hin
  ·rw [bF (by omega: ¬((c:Nat):Int)< ((n:Nat):Int)),aM]
   have hw:IntKind.wrap .i64 (((c:Nat):Int) - ((n:Nat):Int))= ((c - n:Nat):Int):=by rw [eG (by omega) (by omega)];omega
   have hcm2:c - n<bs.length:=by omega
   have hpl:zo bs (c - n)=bs[c - n].jV:=by unfold zo;rw [aL hcm2];rfl
   rw [hw]
   refine Ok.bind (P:=fun x=>x= (oP,oB.set (c - n) (if zo bs (c - n)=true then ((gi bs n (n+m) r h:Nat):Int) else -1),ints (gP n ((cls (n+m) r h).take t)),ints (gB bs n ((cls (n+m) r h).take t++[c])))) ?_ ?_
   ·refine Ok.idx hcm2 ?_
    rw [Ew,aD hcn,hpl]
    cases hp:bs[c - n].jV with
    | true=>
     rw [aO,aC rfl,aC rfl]
     refine Ok.eq (x:=(oB.set (c - n) ((gi bs n (n+m) r h:Nat):Int),ints (gB bs n ((cls (n+m) r h).take t)++[c - n]))) ?_ (Ok.ret rfl)
     rw [j7 _ _ (by rw [J.lb];omega),aB,iK (by rw [mw];simp;omega),aB,cA,hgk,s9];rfl
    | false=>
     rw [aM,aD (by simp),aD (by simp)]
     refine Ok.eq (x:=(oB.set (c - n) (-1),ints (gB bs n ((cls (n+m) r h).take t)))) ?_ (Ok.ret rfl)
     rw [j7 _ _ (by rw [J.lb];omega),aB,cA]
   ·rintro _ rfl
    refine Ok.ret ⟨⟨J.lp,by simp [J.lb],J.pc,fun j hj hr=>?_⟩,?_,?_,fun i hi hin=>?_,fun i hi hin=>?_⟩
    ·dsimp only
     rw [mD (by rw [J.lb];omega),aD (fun e=>hold c hcm (n+j) hr (by omega))];exact J.bo j hj hr
    ·dsimp only;rw [htt,Ev,aD hcn]
    ·dsimp only;rw [htt]
    ·rw [htt] at hi
     rcases cV.1 hi with hi | hi
     ·exact J1 i hi hin
     ·have:i=c:=by simpa using hi
      subst this;exact absurd hin hcn
    ·dsimp only
     rw [mD (by rw [J.lb];omega)]
     split
     ·rename_i e;rw [e]
     ·rename_i hne
      rw [htt] at hi
      rcases cV.1 hi with hi | hi
      ·exact J2 i hi hin
      ·exact absurd (by have:i=c:=(by simpa using hi);rw [this]) hne
 ·rintro⟨oP,oB,pp,bb⟩ ⟨J,e2,e3,J1,J2⟩
  dsimp only at J e2 e3 J1 J2 ⊢
  rw [eE] at e2 e3 J1 J2
  refine⟨⟨J.lp,J.lb,fun i hi hr=>?_,fun j hj hr=>?_⟩,e2,e3⟩
  ·rw [hts] at hr
   rcases cV.1 hr with hr | hr
   ·exact J.pc i hi hr
   ·have hr:r i=h:=by simpa using hr
    rw [hr];exact J1 i (tI.2 ⟨by omega,hr⟩) hi
  ·rw [hts] at hr
   rcases cV.1 hr with hr | hr
   ·exact J.bo j hj hr
   ·have hr:r (n+j)=h:=by simpa using hr
    rw [hr]
    have:=J2 (n+j) (tI.2 ⟨by omega,hr⟩) (by omega)
    rwa [Nat.add_sub_cancel_left] at this
 ·rintro⟨oP,oB,pp,bb⟩ ⟨J,e2,e3⟩
  dsimp only at J e2 e3 ⊢
  subst e2;subst e3
  have hgp:=GQ n (cls (n+m) r h)
  have hgb:=GR bs n (cls (n+m) r h)
  rw [mw,mw,wrap_add (by omega)]
  have hgs:ry bs n (n+m) r ((bI (n+m) r).take (k+1))=if GP bs n (cls (n+m) r h)=true then ry bs n (n+m) r ((bI (n+m) r).take k)++[L2 bs n (cls (n+m) r h)] else ry bs n (n+m) r ((bI (n+m) r).take k):=by
   unfold ry
   rw [hts,Fm]
   split
   ·rw [dD];rfl
   ·rfl
  refine Ok.bind (P:=fun x=>x=ry bs n (n+m) r ((bI (n+m) r).take (k+1))) (Ok.bif (fun hb=>?_) (fun hb=>Ok.ret ?_)) (fun x e=>Ok.ret ⟨e,J⟩)
  ·have hne:GP bs n (cls (n+m) r h)=true:=bB (by have:=of_decide_eq_true hb;omega)
   refine Ok.app (by simp;omega) (Ok.ret ?_)
   rw [hgs,aC hne];rfl
  ·have hne: ¬GP bs n (cls (n+m) r h)=true:=fun h'=>by
    have h1:=of_decide_eq_true h'
    have h2:=of_decide_eq_false hb
    omega
   rw [hgs,aD hne]
end
end Go.Gk
namespace Go.Gk
open Go Classical
section
variable {N:Nat}
def fB (n:Nat) (h:bX):Nat:=if h.cH=true then n+h.Number.toNat else h.Number.toNat
structure Iy (bs:List cH) (n m:Nat) (h:bX):Prop where
 num: ∃k:Nat,h.Number= ((k:Nat):Int)/\(h.cH=true->k<m/\zo bs k=true)/\(h.cH=false->k<n)
theorem A2 {bs:List cH} {pcs:List aN} {l:eW} {h:bX} (hh:mG bs pcs l=some h):Iy bs pcs.length bs.length h:=by
 unfold mG at hh
 cases hf:bs.findIdx? (uL l) with
 | some k=>
  rw [hf] at hh
  injection hh with hh;subst hh
  obtain⟨hk,hp,_⟩:=List.findIdx?_eq_some_iff_getElem.1 hf
  refine⟨k,rfl,fun _=>⟨hk,?_⟩,fun h=>by cases h⟩
  unfold uL at hp
  unfold zo
  rw [aL hk]
  rw [bL] at hp
  exact hp.1
 | none=>
  rw [hf] at hh
  dsimp only at hh
  rw [Option.map_eq_some_iff] at hh
  obtain⟨k,hk,rfl⟩:=hh
  obtain⟨hk,_⟩:=List.findIdx?_eq_some_iff_getElem.1 hk
  exact⟨k,rfl,fun h=>(by cases h),fun _=>hk⟩
def vR (bs:List cH) (pcs:List aN) (r:Nat->Nat) (l:eW):Option Nat:=(mG bs pcs l).map fun h=>gi bs pcs.length (pcs.length+bs.length) r (r (fB pcs.length h))
def FF (bs:List cH) (pcs:List aN) (r:Nat->Nat) (l:eW):Int:=match vR bs pcs r l with | some g=>((g:Nat):Int) | none=> -1
def jg (gs:List dI) (lg:eW->Option Nat) (ls:List eW):List dI:=gs.mapIdx (fun g x=>{x with jq:=(ls.filter (fun l=>decide (lg l=some g))).map jv})
theorem kO {gs:List dI} {lg:eW->Option Nat} {ls:List eW} {g:Nat}: (jg gs lg ls)[g]? = (gs[g]?).map fun x=>{x with jq:=(ls.filter (fun l=>decide (lg l=some g))).map jv}:=by
 unfold jg;rw [List.getElem?_mapIdx]
theorem A3 (gs:List dI) (lg:eW->Option Nat) (ls:List eW): (jg gs lg ls).length=gs.length:=by unfold jg;rw [List.length_mapIdx]
theorem zp {gs:List dI} {lg:eW->Option Nat} {ls:List eW} {l:eW} (h:lg l=none):jg gs lg (ls++[l])=jg gs lg ls:=by
 apply List.ext_getElem?
 intro g
 rw [kO,kO]
 congr 2
 funext x
 rw [iO]
 simp [h]
theorem A4 {gs:List dI} {lg:eW->Option Nat} {ls:List eW} {l:eW} {k:Nat} {x:dI} (h:lg l=some k) (hx: (jg gs lg ls)[k]? =some x):
  (jg gs lg ls).set k {x with jq:=x.jq++[jv l]}=jg gs lg (ls++[l]):=by
 apply List.ext_getElem?
 intro g
 have hk:=(aU.1 hx).1
 rw [eF]
 by_cases e:k=g
 ·subst e
  rw [aC rfl,aC hk,kO]
  rw [kO,Option.map_eq_some_iff] at hx
  obtain⟨y,hy,rfl⟩:=hx
  rw [hy,iO]
  simp [h]
 ·rw [aD e,kO,kO]
  congr 2
  funext x
  rw [iO]
  have: ¬(lg l=some g):=by rw [h];intro h';injection h' with h';exact e h'
  simp [this]
theorem Iz {bs:List cH} {n t:Nat} {r:Nat->Nat} {i:Nat} (hi:i<n) (ht:i<t):GP bs n (cls t r (r i))=true:=by
 unfold GP
 rw [bE]
 have:i∈gP n (cls t r (r i)):=iN.2 ⟨tI.2 ⟨ht,rfl⟩,by simpa using hi⟩
 have:=List.length_pos_of_mem this
 omega
theorem IA {bs:List cH} {n t:Nat} {r:Nat->Nat} {j:Nat} (hp:zo bs j=true) (ht:n+j<t):GP bs n (cls t r (r (n+j)))=true:=by
 unfold GP
 rw [bE]
 have:j∈gB bs n (cls t r (r (n+j))):=cP.2 ⟨n+j,iN.2 ⟨tI.2 ⟨ht,rfl⟩,by simp [hp]⟩,by omega⟩
 have:=List.length_pos_of_mem this
 omega
structure Dy (bs:List cH) (ls:List eW) (pcs:List aN) (r:Nat->Nat) (gs:List dI) (ofP ofB nr:List Int) (nJ:List bX):Prop where
 conn:Dx pcs.length bs.length (eU bs pcs) r
 gs:gs=jg (ry bs pcs.length (pcs.length+bs.length) r (bI (pcs.length+bs.length) r)) (vR bs pcs r) ls
 of:KR bs pcs.length bs.length r (bI (pcs.length+bs.length) r) ofP ofB
 nr:nr=ls.map (FF bs pcs r)
 nJ:nJ=ls.map (fun l=>(mG bs pcs l).getD ⟨false,0⟩)
theorem Cy {bs:List cH} {pcs:List aN} (hp:pcs.length<=1073741824): ∀l∈eU bs pcs,l.length<=1073741824/\∀x∈l,∃i:Nat,i<pcs.length/\x= ((i:Nat):Int):=by
 intro l hl
 unfold eU at hl
 obtain⟨b,_,rfl⟩:=cP.1 hl
 have:=wP (mx b) pcs pcs.length
 refine⟨by rw [mw];omega,fun x hx=>?_⟩
 obtain⟨i,hi,rfl⟩:=yH.1 hx
 exact⟨i,(Fj.1 hi).1,rfl⟩
theorem A5 {bs:List cH} {ls:List eW} {pcs:List aN} (hb:mc bs) (hp:pcs.length<=1000000000) (hr: ∀p∈pcs,p.oq.length<=1073741824) (hl:ls.length<=1073741824) (hN:4398046511104<=N):
  Ok (fE N bs ls pcs (eU bs pcs) [] [] [] []) (fun x=>∃r,Dy bs ls pcs r x.1 x.2.1 x.2.2.1 x.2.2.2.1 x.2.2.2.2):=by
 have hbl:=hb.len
 unfold fE
 rw [wrap_add (by omega)]
 obtain⟨up0,u1,u2⟩:=Cm (N:=N) (n:=pcs.length+bs.length) (by omega)
 refine Ok.eq u1 ?_
 refine Ok.bind (Fk (n:=pcs.length) (m:=bs.length) (by unfold eU;simp) (Cy (by omega)) (by omega) (by omega) u2 hN) ?_
 rintro up1 ⟨r,v1,v2⟩
 refine Ok.eq (tv 0 (by omega)) (Ok.eq (tv 0 (by omega)) ?_)
 obtain⟨up2,w1,_⟩:=HR (N:=N) v1 (by omega) (by omega)
 refine Ok.eq w1 ?_
 refine Ok.bind (Cx (bs:=bs) (n:=pcs.length) (m:=bs.length) (r:=r) rfl (by omega) (by omega) (op:=List.replicate pcs.length 0) (ob:=List.replicate bs.length 0) (by simp) (by simp) rfl) ?_
 rintro⟨gs,ofP,ofB⟩ ⟨e1,I⟩
 dsimp only at e1 I ⊢
 subst e1
 have hgl: (ry bs pcs.length (pcs.length+bs.length) r (bI (pcs.length+bs.length) r)).length<=pcs.length+bs.length:=by
  rw [vP]
  have:=vQ bs pcs.length (pcs.length+bs.length) r (bI (pcs.length+bs.length) r)
  have:=nI (pcs.length+bs.length) r
  omega
 refine Ok.bind (Ok.lV (fun(k:Nat) (st:List dI×List Int×List Int×List Int×List bX)=>st= (jg (ry bs pcs.length (pcs.length+bs.length) r (bI (pcs.length+bs.length) r)) (vR bs pcs r) (ls.take k),ofP,ofB,(ls.take k).map (FF bs pcs r),(ls.take k).map (fun l=>(mG bs pcs l).getD ⟨false,0⟩))) (by omega) ?_ (fun k st hk e=>?_)) ?_
 ·congr 1
  unfold jg
  apply List.ext_getElem?
  intro g
  rw [List.getElem?_mapIdx]
  unfold ry
  rw [dV]
  cases (live bs pcs.length (pcs.length+bs.length) r (bI (pcs.length+bs.length) r))[g]? <;> rfl
 ·subst e
  dsimp only
  have hts:ls.take (k+1)=ls.take k++[ls[k]]:=dT hk
  refine Ok.idx hk (Ok.eq (GO hb (by omega) hr _) ?_)
  dsimp only
  refine Ok.bind (P:=fun x=>x= (jg (ry bs pcs.length (pcs.length+bs.length) r (bI (pcs.length+bs.length) r)) (vR bs pcs r) (ls.take k++[ls[k]]),FF bs pcs r ls[k])) ?_ ?_
  ·cases hh:mG bs pcs ls[k] with
   | none=>
    refine Ok.ret ?_
    have h1:vR bs pcs r ls[k]=none:=by unfold vR;rw [hh];rfl
    rw [zp h1]
    unfold FF;rw [h1]
   | some h=>
    have h1:vR bs pcs r ls[k]=some (gi bs pcs.length (pcs.length+bs.length) r (r (fB pcs.length h))):=by unfold vR;rw [hh];rfl
    have h2:FF bs pcs r ls[k]= ((gi bs pcs.length (pcs.length+bs.length) r (r (fB pcs.length h)):Nat):Int):=by unfold FF;rw [h1]
    obtain⟨q,q1,q2,q3⟩:=(A2 hh).num
    have hix:fB pcs.length h<pcs.length+bs.length/\GP bs pcs.length (cls (pcs.length+bs.length) r (r (fB pcs.length h)))=true/\gq N ofP ofB h=some ((gi bs pcs.length (pcs.length+bs.length) r (r (fB pcs.length h)):Nat):Int):=by
     unfold gq fB
     rw [q1,cA]
     cases hbo:h.cH with
     | true=>
      obtain⟨q4,q5⟩:=q2 hbo
      rw [aO,aC rfl]
      refine⟨by omega,IA q5 (by omega),?_⟩
      have:=I.bo q q4 (iE.2 ⟨by have:=v2.le (pcs.length+q) (by omega);omega,v2.rr _ (by omega)⟩)
      rw [aC q5] at this
      rw [dG this,aB]
     | false=>
      have q4:=q3 hbo
      rw [aM,aD (by simp)]
      refine⟨by omega,Iz q4 (by omega),?_⟩
      have:=I.pc q q4 (iE.2 ⟨by have:=v2.le q (by omega);omega,v2.rr _ (by omega)⟩)
      rw [dG this,aB]
    obtain⟨i1,i2,i3⟩:=hix
    have hgi:=GS (r:=r) (t:=pcs.length+bs.length) (bs:=bs) (n:=pcs.length) (h:=r (fB pcs.length h)) (iE.2 ⟨by have:=v2.le _ i1;omega,v2.rr _ i1⟩) i2
    have hgx:gi bs pcs.length (pcs.length+bs.length) r (r (fB pcs.length h))< (jg (ry bs pcs.length (pcs.length+bs.length) r (bI (pcs.length+bs.length) r)) (vR bs pcs r) (ls.take k)).length:=by
     rw [A3,vP];exact hgi.1
    rw [h2]
    dsimp only [Option.getD,Option.isSome]
    rw [aO]
    refine Ok.eq i3 ?_
    generalize gi bs pcs.length (pcs.length+bs.length) r (r (fB pcs.length h))=g at *
    refine Ok.idx hgx (Ok.eq (wN _) ?_)
    have hpl: ((jg (ry bs pcs.length (pcs.length+bs.length) r (bI (pcs.length+bs.length) r)) (vR bs pcs r) (ls.take k))[g]).jq.length<=ls.length:=by
     have:=kO (gs:=ry bs pcs.length (pcs.length+bs.length) r (bI (pcs.length+bs.length) r)) (lg:=vR bs pcs r) (ls:=ls.take k) (g:=g)
     rw [aL hgx] at this
     have:=this.symm
     rw [Option.map_eq_some_iff] at this
     obtain⟨y,_,hy⟩:=this
     rw [<-hy,cE]
     have:=kB (fun l=>decide (vR bs pcs r l=some g)) (ls.take k)
     rw [cF] at this;omega
    refine Ok.app (by simp;omega) (Ok.idx hgx (Ok.ret ?_))
    rw [cA]
    congr 1
    exact A4 h1 (aL hgx)
  ·rintro _ rfl
   dsimp only
   refine Ok.app (by simp;omega) (Ok.app (by simp;omega) (Ok.ret ?_))
   rw [hts,dD,dD];rfl
 ·rintro st rfl
  dsimp only
  rw [eE]
  exact Ok.ret ⟨r,v2,rfl,I,rfl,rfl⟩
end
end Go.Gk
namespace Go.Gk
open Go Classical
section
variable {N:Nat}
theorem zZ {p:aN}: ∀{bV:List (List (List aA))} {k:Nat},p∈aP k bV->∃(i:Nat) (ps:List (List aA)) (q:List aA),bV[i]? =some ps/\q∈ps/\p= ⟨((k+i:Nat):Int),q,aQ q⟩
 | [],k,h=>by cases h
 | ps::bV,k,h=>by
  rcases cV.1 h with h | h
  ·obtain⟨q,hq,rfl⟩:=cP.1 h
   exact⟨0,ps,q,rfl,hq,rfl⟩
  ·obtain⟨i,ps',q,h1,h2,h3⟩:=zZ h
   refine⟨i+1,ps',q,by simpa using h1,h2,?_⟩
   rw [h3,show k+1+i=k+ (i+1) by omega]
structure nM (a:iM):Prop where
 xB:0<a.aI.length/\a.aI.length<=16
 L3: ∀r∈a.aI,iS r=0
 out:iS a.cL=0
 many:a.cL.length+ (a.aI.map List.length).sum<=2000
 vS:gX a=0
 Ex:lR a=0
theorem nM.gb {a:iM} (h:nM a):mc a.aJ:=⟨(k6 h.vS).1,fun b hb=>⟨((k6 h.vS).2 b hb).1,((k6 h.vS).2 b hb).2.1⟩⟩
theorem nM.cs {a:iM} (h:nM a): ∀r∈a.aI,r.length<=2000/\∀x∈r,zQ x:=fun r hr=>A0 (xe.1 (h.L3 r hr)).1
structure vT (a:iM) (ky:List (List aA)) (bV:List (List (List aA))) (p:aN) (i:Nat) (r:List aH) (s:List aA) (ps:List (List aA)) (u:Nat->Nat) (j k:Nat):Prop where
 Me:a.aI[i]? =some r
 ky:ky[i]? =some s
 bV:bV[i]? =some ps
 dr:ru r (jS a.aJ ((i:Nat):Int)) s
 pt:pM s u ps
 at_:ps[j]? =some p.Set
 head: (bI (aQ s).length u)[j]? =some k
 set:qI (mu (aQ s) (aQ s).length u k) p.Set
 lim:uQ (qG r++qG (jS a.aJ ((i:Nat):Int))) (ik r++ik (jS a.aJ ((i:Nat):Int))) (p.Set.map bJ)
 KS:p.eT= ((i:Nat):Int)
 KT:p.oq=aQ p.Set
theorem GU {a:iM} {ky:List (List aA)} {bV:List (List (List aA))} (hg:nM a) (hD:uK a.aI a.aJ a.aI.length ky bV) {p:aN} (hp:p∈aP 0 bV): ∃i r s ps u j k,vT a ky bV p i r s ps u j k:=by
 obtain⟨i,ps,q,h1,h2,rfl⟩:=zZ hp
 have hil:i<a.aI.length:=by have:=(aU.1 h1).1;rw [hD.A1] at this;exact this
 have hc:a.aI[i]? =some a.aI[i]:=aL hil
 have hd:ky[i]? =some (ky[i]'(by rw [hD.len];exact hil)):=aL _
 have hdr:=hD.dr i _ _ hil hc hd
 obtain⟨u,hu⟩:=hD.pt i _ ps hil hd h1
 obtain⟨sx,sy⟩:=hdr.small (hg.cs _ (cJ hil)).2 (fun x hx=>(sZ hg.gb _ x hx).1)
 obtain⟨j,k,g1,g2,g3,g4⟩:=yG hu hdr.can hdr.lim sx sy h2
 exact⟨i,_,_,ps,u,j,k,hc,hd,h1,hdr,hu,g1,g2,g3,g4,by rw [gx],rfl⟩
theorem vT.Ct {a:iM} {ky:List (List aA)} {bV:List (List (List aA))} (hg:nM a) {p:aN} {i:Nat} {r:List aH} {s:List aA} {ps:List (List aA)} {u:Nat->Nat} {j k:Nat} (h:vT a ky bV p i r s ps u j k):
  p.Set.length<=5000/\(∀b∈p.Set,b.Xs.length<=5000)/\p.oq.length<=5000*5000:=by
 have h1:=(hg.cs r (dU h.Me)).1
 have h2:=wO hg.gb ((i:Nat):Int)
 rw [h.KT]
 exact tH (A:=5000) h.set.can h.lim (by rw [cQ,kS,kS];omega) (by rw [cQ,iu,iu];omega)
def vU (a0 a1 b0 b1:Int):Bool:=decide (b0<a1)&&decide (a0<b1)
def Cz (a b:aH):Bool:=vU a.X0 a.X1 b.X0 b.X1&&vU a.Y0 a.Y1 b.Y0 b.Y1
theorem yI {a0 a1 b0 b1:Int} (h1: -1000000<=a0/\a0<=1000000) (h2: -1000000<=a1/\a1<=1000000) (h3: -1000000<=b0/\b0<=1000000) (h4: -1000000<=b1/\b1<=1000000): ∃n,kY N a0 a1 b0 b1=some n/\0<=n/\(n=0↔vU a0 a1 b0 b1=true):=by
 unfold kY vU
 have e1:IntKind.wrap .i64 (b0 - a1)=b0 - a1:=eG (by omega) (by omega)
 have e2:IntKind.wrap .i64 (a0 - b1)=a0 - b1:=eG (by omega) (by omega)
 have e3:IntKind.wrap .i64 (b0 - a1+1)=b0 - a1+1:=eG (by omega) (by omega)
 have e4:IntKind.wrap .i64 (a0 - b1+1)=a0 - b1+1:=eG (by omega) (by omega)
 rw [e1,e2,e3,e4]
 refine⟨_,rfl,?_,?_⟩
 ·repeat' split
  all_goals omega
 ·rw [bL,bE,bE]
  repeat' split
  all_goals omega
theorem I9 {a b:aH} (h1:eP a=true) (h2:eP b=true): ∃n,qd N a b=some n/\(n=0↔Cz a b=true):=by
 have b1:=lQ h1
 have b2:=lQ h2
 obtain⟨n,n1,n2,n3⟩:=yI (N:=N) (a0:=a.X0) (a1:=a.X1) (b0:=b.X0) (b1:=b.X1) (by omega) (by omega) (by omega) (by omega)
 obtain⟨m,m1,m2,m3⟩:=yI (N:=N) (a0:=a.Y0) (a1:=a.Y1) (b0:=b.Y0) (b1:=b.Y1) (by omega) (by omega) (by omega) (by omega)
 unfold qd Cz
 rw [n1,aB,m1,aB]
 refine⟨_,rfl,?_⟩
 rw [bL,<-n3,<-m3]
 split <;> omega
def pd (x y:cH):Bool:=(decide (x.cY<=y.To)&&decide (y.cY<=x.To))&&Cz (sW x) (sW y)
def pf (a:iM):Prop:=∃(i k:Nat) (x y:cH),k<i/\a.aJ[i]? =some x/\a.aJ[k]? =some y/\pd x y=true
noncomputable def t7 (r:List aH):Option Int:=if iS r≠0 then some (iS r) else none
noncomputable def CA (a:iM):Int:=if 2000<a.cL.length+ (a.aI.map List.length).sum then 2 else if gX a≠0 then gX a else if lR a≠0 then lR a else if pf a then 12 else 0
noncomputable def GV (a:iM):Int:=match a.aI.findSome? t7 with | some e=>e | none=>if iS a.cL≠0 then iS a.cL else CA a
noncomputable def jT (a:iM):Int:=if a.aI.length=0 then 9 else if 16<a.aI.length then 2 else GV a
def Jk (ky:List (List aA)) (bV:List (List (List aA))):Prop:=(∀s∈ky,(aQ s).length<=2000)/\(aP 0 bV).length<=2000
abbrev yJ:=(List (List aH))×(List aH)×(List cH)×(List eW)×(List (List aA))×(List aN)×(List (List Int))×(List dI)×(List Int)×(List Int)×(List Int)×(List bX)
def IB (a:iM) (x:Option yJ×Int):Prop:=
 (jT a≠0/\x= (none,jT a))\/(jT a=0/\nM a/\¬pf a/\∃ky bV,uK a.aI a.aJ a.aI.length ky bV/\
  ((¬Jk ky bV/\x= (none,2))\/(Jk ky bV/\∃r gs ofP ofB nr nJ,Dy a.aJ a.bG (aP 0 bV) r gs ofP ofB nr nJ/\
   x= (some (a.aI,a.cL,a.aJ,a.bG,ky,aP 0 bV,eU a.aJ (aP 0 bV),gs,ofP,ofB,nr,nJ),0))))
structure qM (a:iM):Prop where
 cs:a.aI.length<=1048576
 each: ∀r∈a.aI,r.length<=1048576
 out:a.cL.length<=1048576
 bs:a.aJ.length<=1048576
 ls:a.bG.length<=1048576
 nm:yE a
theorem CB {a:iM} (h:bk a<=1048576):qM a:=by
 rw [Gw] at h
 have h1:=wA a.aI
 have h2:=wA a.cL
 have h3:=wA a.aJ
 have h4:=wA a.bG
 refine⟨by omega,fun r hr=>?_,by omega,by omega,by omega,fun x hx=>?_⟩
 ·have:=Df hr
  have:=wA r;omega
 ·have:=Df hx
  rw [Ei,Gn,Gn] at this;omega
theorem z5 {a:iM} (hs:qM a) (hN:4398046511104<=N):Ok (eK N a) (IB a):=by
 unfold eK
 have pe: ∀e:Int,e≠0->jT a=e->Ok (some ((none:Option yJ),e)) (IB a):=fun e he h=>Ok.ret (.inl ⟨by rw [h];exact he,by rw [h]⟩)
 have c1:=hs.cs
 refine Ok.bif (fun h=>?_) (fun h=>?_)
 ·have:a.aI.length=0:=by have:=beq_iff_eq.1 h;omega
  exact pe 9 (by omega) (by unfold jT;rw [aC this])
 have h0: ¬a.aI.length=0:=by rw [beq_eq_false_iff_ne] at h;omega
 refine Ok.bif (fun h=>?_) (fun h=>?_)
 ·have h1:16<a.aI.length:=by have:=of_decide_eq_true h;omega
  exact pe 2 (by omega) (by unfold jT;rw [aD h0,aC h1])
 have h1: ¬16<a.aI.length:=by have:=of_decide_eq_false h;omega
 have pe1:jT a=GV a:=by unfold jT;rw [aD h0,aD h1]
 have hso:=hs.out
 have sumle: ∀k,k<=a.aI.length->((a.aI.take k).map List.length).sum<=k*1048576:=by
  intro k
  induction k with
  | zero=>intro _;simp
  | succ k ih=>
   intro hk
   have:=ih (by omega)
   have h2:=hs.each _ (cJ (show k<a.aI.length by omega))
   rw [dT (by omega),dD,List.sum_append]
   simp only [dA,List.map_nil,List.sum_cons,List.sum_nil]
   rw [Nat.add_mul];omega
 refine Ok.bind (Ok.rH (Go:=fun s:Int=>s= ((a.cL.length+ (a.aI.map List.length).sum:Nat):Int)/\∀r∈a.aI,iS r=0) (Rt:=fun x:Option yJ×Int=>∃e,e≠0/\x= (none,e)/\a.aI.findSome? t7=some e)
  (fun(k:Nat) (s:Int)=>s= ((a.cL.length+ ((a.aI.take k).map List.length).sum:Nat):Int)/\∀r∈a.aI.take k,iS r=0) (by omega) ⟨by simp,fun r hr=>by simp at hr⟩ (fun k s hk hI=>?_) (fun s hI=>by rw [eE] at hI;exact hI)) ?_
 ·obtain⟨e,hI⟩:=hI
  subst e
  have hkx:a.aI[k]? =some a.aI[k]:=aL hk
  have hts:a.aI.take (k+1)=a.aI.take k++[a.aI[k]]:=dT hk
  have he:=hs.each _ (cJ hk)
  refine Ok.ix hkx (Ok.eq (sY (by omega) hN) ?_)
  refine Ok.bif (fun h=>Ok.rt ?_) (fun h=>Ok.nx ?_)
  ·have h:iS a.aI[k]≠0:=by simpa using h
   refine⟨_,h,rfl,?_⟩
   rw [List.findSome?_eq_some_iff]
   refine⟨a.aI.take k,a.aI[k],a.aI.drop (k+1),?_,by unfold t7;rw [aC h],fun r hr=>by unfold t7;rw [aD (by simpa using hI r hr)]⟩
   rw [<-pB hk,List.take_append_drop]
  ·have h:iS a.aI[k]=0:=by simpa using h
   have:=sumle k (by omega)
   have hk16:k*1048576<=16*1048576:=Nat.mul_le_mul_right _ (by omega)
   refine⟨?_,fun r hr=>?_⟩
   ·rw [wrap_add (by omega),hts,dD,List.sum_append]
    simp only [dA,List.map_nil,List.sum_cons,List.sum_nil]
    congr 1
    omega
   ·rw [hts] at hr
    rcases cV.1 hr with hr | hr
    ·exact hI r hr
    ·simp at hr;subst hr;exact h
 intro o ho
 refine Ok.cs ho ?_ ?_
 rotate_left
 ·rintro x ⟨e,he,rfl,hf⟩
  exact pe e he (by rw [pe1];unfold GV;rw [hf])
 rintro s ⟨rfl,hreg⟩
 have K0:a.aI.findSome? t7=none:=List.findSome?_eq_none_iff.2 fun r hr=>by unfold t7;rw [aD (by simpa using hreg r hr)]
 have pe2:jT a=if iS a.cL≠0 then iS a.cL else CA a:=by rw [pe1];unfold GV;rw [K0]
 refine Ok.eq (sY (by omega) hN) ?_
 refine Ok.bif (fun h=>?_) (fun h=>?_)
 ·have h:iS a.cL≠0:=by simpa using h
  exact pe _ h (by rw [pe2,aC h])
 have hout:iS a.cL=0:=by simpa using h
 have pe3:jT a=CA a:=by rw [pe2,aD (by simpa using hout)]
 refine Ok.bif (fun h=>?_) (fun h=>?_)
 ·have h:2000<a.cL.length+ (a.aI.map List.length).sum:=by have:=of_decide_eq_true h;omega
  exact pe 2 (by omega) (by rw [pe3];unfold CA;rw [aC h])
 have hmany: ¬2000<a.cL.length+ (a.aI.map List.length).sum:=by have:=of_decide_eq_false h;omega
 have hbs:=hs.bs
 have hls:=hs.ls
 refine Ok.eq (zk (by omega) (by omega) (by omega)) ?_
 refine Ok.bif (fun h=>?_) (fun h=>?_)
 ·have h:gX a≠0:=by simpa using h
  exact pe _ h (by rw [pe3];unfold CA;rw [aD hmany,aC h])
 have hbo:gX a=0:=by simpa using h
 refine Ok.eq (zm (by omega) (by omega) hs.nm (by omega)) ?_
 refine Ok.bif (fun h=>?_) (fun h=>?_)
 ·have h:lR a≠0:=by simpa using h
  exact pe _ h (by rw [pe3];unfold CA;rw [aD hmany,aD (by simpa using hbo),aC h])
 have hla:lR a=0:=by simpa using h
 have hg:nM a:=⟨by omega,hreg,hout,by omega,hbo,hla⟩
 have pe4:jT a=if pf a then 12 else 0:=by rw [pe3];unfold CA;rw [aD hmany,aD (by simpa using hbo),aD (by simpa using hla)]
 refine Ok.bind (Ok.rH (Go:=fun _:Unit=>¬pf a) (Rt:=fun x:Option yJ×Int=>x= (none,12)/\pf a)
  (fun(k:Nat) (_:Unit)=>∀(i j:Nat) (x y:cH),i<k->j<i->a.aJ[i]? =some x->a.aJ[j]? =some y->¬pd x y=true) (by omega) (fun i j x y h=>by omega) (fun k s hk hI=>?_) (fun s hI=>?_)) ?_
 ·have hkx:a.aJ[k]? =some a.aJ[k]:=aL hk
  refine Ok.ix hkx (Ok.eq (oW _ k (by omega)) ?_)
  have hgk:=hg.gb.ok _ (cJ hk)
  refine Ok.bind (Ok.rH (Go:=fun _:Unit=>∀(j:Nat) (y:cH),j<k->a.aJ[j]? =some y->¬pd a.aJ[k] y=true) (Rt:=fun x:Option yJ×Int=>x= (none,12)/\pf a)
   (fun(t:Nat) (_:Unit)=>∀(j:Nat) (y:cH),j<t->a.aJ[j]? =some y->¬pd a.aJ[k] y=true) (by rw [cF];omega) (fun j y h=>by omega) (fun t s ht hI2=>?_) (fun s hI2 j y hj hy=>hI2 j y (by rw [cF];omega) hy)) ?_
  ·have htk:t<k:=by rw [cF] at ht;omega
   have htx: (a.aJ.take k)[t]? =some a.aJ[t]:=by rw [List.getElem?_take_of_lt htk];exact aL (by omega)
   have hgt:=hg.gb.ok _ (cJ (show t<a.aJ.length by omega))
   refine Ok.ix htx ?_
   refine Ok.eq (x:=pd a.aJ[k] a.aJ[t]) ?_ ?_
   ·unfold pd
    cases hc: (decide (a.aJ[k].cY<=a.aJ[t].To)&&decide (a.aJ[t].cY<=a.aJ[k].To)) with
    | false=>rfl
    | true=>
     obtain⟨n,n1,n2⟩:=I9 (N:=N) hgk.2 hgt.2
     rw [aO,lP hgk.1,aB,lP hgt.1,aB,n1,aB,Bool.true_and]
     congr 1
     rw [dZ,beq_iff_eq];exact n2
   ·refine Ok.bif (fun h=>Ok.rt ⟨rfl,k,t,_,_,htk,hkx,aL (by omega),h⟩) (fun h=>Ok.nx fun j y hj hy=>?_)
    by_cases e:j<t
    ·exact hI2 j y e hy
    ·have:j=t:=by omega
     subst this
     rw [aL (by omega)] at hy;injection hy with hy
     rw [<-hy,h];simp
  ·intro o ho
   refine Ok.cs ho (fun s hI2=>Ok.nx fun i j x y hi hj hx hy=>?_) (fun x hx=>Ok.rt hx)
   by_cases e:i<k
   ·exact hI i j x y e hj hx hy
   ·have:i=k:=by omega
    subst this
    rw [hkx] at hx;injection hx with hx
    rw [<-hx];exact hI2 j y hj hy
 ·rintro⟨i,j,x,y,hj,hx,hy,hc⟩
  exact hI i j x y (aU.1 hx).1 hj hx hy hc
 intro o ho
 refine Ok.cs ho ?_ ?_
 rotate_left
 ·rintro x ⟨rfl,hc⟩
  exact pe 12 (by omega) (by rw [pe4,aC hc])
 intro _ hncl
 have pe5:jT a=0:=by rw [pe4,aD hncl]
 refine Ok.bind (Dv (N:=N) (by omega) hg.cs hg.gb hN) ?_
 rintro⟨okk,ky,pcs⟩ ⟨bV,D,e1,e2⟩
 dsimp only at D e1 e2 ⊢
 subst e1
 refine Ok.bif (fun h=>Ok.ret (.inr ⟨pe5,hg,hncl,ky,bV,D, .inl ⟨fun hf=>?_,rfl⟩⟩)) (fun h=>?_)
 ·have:=e2.2 hf
  rw [this] at h;cases h
 ·have hf:Jk ky bV:=e2.1 (by cases okk <;> simp_all)
  have hpr: ∀p∈aP 0 bV,p.oq.length<=1073741824:=fun p hp=>by
   obtain⟨i,r,s,ps,u,j,k,hP⟩:=GU hg D hp
   have:=(hP.Ct hg).2.2;omega
  have hf2:=hf.2
  refine Ok.eq (GN hg.gb (by omega) hpr) ?_
  refine Ok.bind (A5 (N:=N) hg.gb (by omega) hpr (by omega) hN) ?_
  rintro⟨gs,ofP,ofB,nr,nJ⟩ ⟨r,hC⟩
  exact Ok.ret (.inr ⟨pe5,hg,hncl,ky,bV,D, .inr ⟨hf,r,gs,ofP,ofB,nr,nJ,hC,rfl⟩⟩)
end
end Go.Gk
namespace Go.Gk
open Go Classical
section
variable {N:Nat}
theorem Ey {w:Nat} {g:Nat->Nat} {a:Nat}: ∀{ks:List Nat},ks.Nodup->a∈ks->(ks.map (fun k=>(if a=k then w else 0)+g k)).sum=w+ (ks.map g).sum
 | [],_,h=>by cases h
 | k::ks,hn,h=>by
  have hn':=List.nodup_cons.1 hn
  simp only [dA,List.sum_cons]
  by_cases e:a=k
  ·subst e
   rw [aC rfl]
   have:ks.map (fun k=>(if a=k then w else 0)+g k)=ks.map g:=List.map_congr_left fun x hx=>by
    rw [aD (fun e=>hn'.1 (by rw [e];exact hx)),gx]
   rw [this];omega
  ·rw [aD e,Ey hn'.2 (by rcases cW.1 h with h | h;exact absurd h e;exact h)];omega
theorem CC {α:Type} {ks:List Nat} (hn:ks.Nodup) (f w:α->Nat): ∀{l:List α},(∀x∈l,f x∈ks)->(ks.map (fun k=>((l.filter (fun x=>decide (f x=k))).map w).sum)).sum= (l.map w).sum
 | [],_=>by
  have: ∀ks:List Nat,(ks.map (fun _=>0)).sum=0:=fun ks=>by
   induction ks with
   | nil=>rfl
   | cons k ks ih=>simp only [dA,List.sum_cons,ih]
  simpa using this ks
 | x::l,h=>by
  have ih:=CC hn f w (l:=l) fun y hy=>h y (f0 _ hy)
  have: (ks.map (fun k=>(((x::l).filter (fun x=>decide (f x=k))).map w).sum))=ks.map (fun k=>(if f x=k then w x else 0)+ ((l.filter (fun x=>decide (f x=k))).map w).sum):=List.map_congr_left fun k _=>by
   rw [List.filter_cons]
   by_cases e:f x=k
   ·rw [aC (by simpa using e),aC e,dA,List.sum_cons]
   ·rw [aD (by simpa using e),aD e,gx]
  rw [this,Ey hn (h x (by simp)),ih,dA,List.sum_cons]
def Ez (s:List aA):jE:=match s with | b::_=>⟨b.Xs.headD 0,b.Y0⟩ | []=>⟨0,0⟩
theorem vT.ne {a:iM} {ky:List (List aA)} {bV:List (List (List aA))} {p:aN} {i:Nat} {r:List aH} {s:List aA} {ps:List (List aA)} {u:Nat->Nat} {j k:Nat} (h:vT a ky bV p i r s ps u j k):p.Set≠[]:=by
 intro e
 have hh:=iE.1 (dU h.head)
 have hx: (aQ s)[k]? =some (aQ s)[k]:=aL hh.1
 have hm: (aQ s)[k]∈mu (aQ s) (aQ s).length u k:=kT.2 ⟨k,hh.1,hh.2,hx⟩
 obtain⟨b,hb,q,hq,hr⟩:=oN (dU hx)
 have hbm:bJ b∈s.map bJ:=cP.2 ⟨b,hb,rfl⟩
 have hq1:=Dm (h.dr.can.each _ hbm).2.2.1 q hq
 have hb1:=(h.dr.can.each _ hbm).1
 have hc:=h.set.cover q.1 b.Y0
 rw [e] at hc
 have:sR (mu (aQ s) (aQ s).length u k) q.1 b.Y0=true:=ij.2 ⟨_,hm,by rw [hr];exact⟨⟨Int.le_refl _,hq1⟩,Int.le_refl _,hb1⟩⟩
 rw [this] at hc
 cases hc
structure ng (a:iM) (ky:List (List aA)) (bV:List (List (List aA))) (r:Nat->Nat) (gs:List dI) (ofP ofB nr:List Int) (nJ:List bX):Prop where
 Ja:nM a
 Mh: ¬pf a
 dr:uK a.aI a.aJ a.aI.length ky bV
 xB:Jk ky bV
 Hg:Dy a.aJ a.bG (aP 0 bV) r gs ofP ofB nr nJ
inductive Jb (N:Nat) (a:iM):Prop
 | err (e:Int) (he:e≠0) (h:eK N a=some (none,e))
 | ok {ky:List (List aA)} {bV:List (List (List aA))} {r:Nat->Nat} {gs:List dI} {ofP ofB nr:List Int} {nJ:List bX} (b:ng a ky bV r gs ofP ofB nr nJ)
  (h:eK N a=some (some (a.aI,a.cL,a.aJ,a.bG,ky,aP 0 bV,eU a.aJ (aP 0 bV),gs,ofP,ofB,nr,nJ),0))
theorem opened {a:iM} (hs:qM a) (hN:4398046511104<=N):Jb N a:=by
 obtain⟨x,hx,hI⟩:=z5 (N:=N) hs hN
 rcases hI with ⟨he,rfl⟩ | ⟨_,hg,hcl,ky,bV,D,⟨_,rfl⟩ | ⟨hf,r,gs,ofP,ofB,nr,nJ,hC,rfl⟩⟩
 ·exact .err _ he hx
 ·exact .err 2 (by omega) hx
 ·exact .ok ⟨hg,hcl,D,hf,hC⟩ hx
end
end Go.Gk
namespace Go.Gk
open Go Classical
section
variable {S R:Type}
theorem Ok.qU {body:S->Option (Fl S R)} {N n:Nat} {s:S} (ι:S->Int) (Inv:Nat->S->Prop) {Go:S->Prop} {Rt:R->Prop}
  (h1: ∀k s,k<n->ι s= ((k:Nat):Int)->Inv k s->Ok (body s) (Hf (fun s'=>ι s'= ((k+1:Nat):Int)/\Inv (k+1) s') Go Rt))
  (h2: ∀s,ι s= ((n:Nat):Int)->Inv n s->Ok (body s) (Hf (fun _=>False) Go Rt))
  {k0:Nat} (hk:k0<=n) (hi:ι s= ((k0:Nat):Int)) (h0:Inv k0 s) (hn:n<N):Ok (Gk.iY body N s) (KL Go Rt):=by
 refine Ok.iY (fun s=>∃k:Nat,k<=n/\ι s= ((k:Nat):Int)/\Inv k s) (fun s=>n - (ι s).toNat) ?_ ⟨k0,hk,hi,h0⟩ (by omega)
 rintro s ⟨k,hk,e,hI⟩
 by_cases hlt:k<n
 ·refine(h1 k s hlt e hI).mono ?_
  rintro(s' | s' | r) hp
  ·have hp1:ι s'= ((k+1:Nat):Int):=hp.1
   exact⟨⟨k+1,hlt,hp.1,hp.2⟩,by rw [e,hp1];simp only [cA];omega⟩
  ·exact hp
  ·exact hp
 ·have:k=n:=by omega
  subst this
  refine(h2 s e hI).mono ?_
  rintro(s' | s' | r) hp
  ·exact hp.elim
  ·exact hp
  ·exact hp
theorem mN {k n:Nat} (h:k<n):decide (((k:Nat):Int)< ((n:Nat):Int))=true:=bB (by omega)
theorem pz (n:Nat):decide (((n:Nat):Int)< ((n:Nat):Int))=false:=bF (by omega)
theorem xf {k n:Nat} (h:n<=k):decide (((k:Nat):Int)< ((n:Nat):Int))=false:=bF (by omega)
end
theorem rz {α:Type} {p:α->Bool}: ∀{l:List α} {k:Nat},(∀(j:Nat) x,j<k->l[j]? =some x->p x=true)->(∀x,l[k]? =some x->p x=false)->l.takeWhile p=l.take k/\l.dropWhile p=l.drop k
 | [],k,_,_=>by simp
 | y::l,0,_,h2=>by
  have:=h2 y rfl
  rw [List.takeWhile_cons,List.dropWhile_cons,this];simp
 | y::l,k+1,h1,h2=>by
  have h:=h1 0 y (by omega) rfl
  obtain⟨e1,e2⟩:=rz (l:=l) (k:=k) (fun j x hj hx=>h1 (j+1) x (by omega) hx) (fun x hx=>h2 x hx)
  rw [List.takeWhile_cons,List.dropWhile_cons,h,aC rfl,aC rfl,e1,e2];simp
section
variable {N:Nat}
def rA (l:List Int) (c:Int):List Int:=if c∈l then l else l.takeWhile (fun x=>decide (x<c))++c::l.dropWhile (fun x=>decide (x<c))
theorem vV (l:List Int) (c:Int): (rA l c).length<=l.length+1:=by
 unfold rA
 split
 ·omega
 ·have: (l.takeWhile (fun x=>decide (x<c))).length+ (l.dropWhile (fun x=>decide (x<c))).length=l.length:=by rw [<-cQ,List.takeWhile_append_dropWhile]
  rw [cQ,dE];omega
theorem GW {l:List Int} {c x:Int}:x∈rA l c↔x∈l\/x=c:=by
 unfold rA
 split
 ·rename_i h
  exact⟨.inl,fun h'=>h'.elim id fun e=>e▸h⟩
 ·have:x∈l↔x∈l.takeWhile (fun x=>decide (x<c))\/x∈l.dropWhile (fun x=>decide (x<c)):=by rw [<-cV,List.takeWhile_append_dropWhile]
  rw [cV,cW,this]
  constructor
  ·rintro(h | h | h)
   ·exact .inl (.inl h)
   ·exact .inr h
   ·exact .inl (.inr h)
  ·rintro((h | h) | h)
   ·exact .inl h
   ·exact .inr (.inr h)
   ·exact .inr (.inl h)
theorem EA {l:List Int} (h:iC l) (c:Int): ∀x∈l.dropWhile (fun x=>decide (x<c)),c<=x:=by
 induction l with
 | nil=>intro x hx;cases hx
 | cons a l ih=>
  rw [List.dropWhile_cons]
  by_cases ha:a<c
  ·rw [aC (by simpa using ha)];exact ih h.tail
  ·rw [aD (by simpa using ha)]
   intro x hx
   rcases cW.1 hx with rfl | hx
   ·omega
   ·have:=h.head x hx;omega
theorem HT (l:List Int) (c:Int): ∀x∈l.takeWhile (fun x=>decide (x<c)),x<c:=by
 induction l with
 | nil=>intro x hx;cases hx
 | cons a l ih=>
  rw [List.takeWhile_cons]
  by_cases ha:a<c
  ·rw [aC (by simpa using ha)]
   intro x hx
   rcases cW.1 hx with rfl | hx
   ·exact ha
   ·exact ih x hx
  ·rw [aD (by simpa using ha)]
   intro x hx;cases hx
theorem vW {l:List Int} {c:Int} (h:iC l):iC (rA l c):=by
 unfold rA
 split
 ·exact h
 ·rename_i hc
  have hs:=h
  rw [<-List.takeWhile_append_dropWhile (p:=fun x=>decide (x<c)) (l:=l)] at hs
  unfold iC at hs ⊢
  rw [lT] at hs ⊢
  refine⟨hs.1,mO.2 ⟨fun x hx=>?_,hs.2.1⟩,fun x hx y hy=>?_⟩
  ·have h1:=EA h c x hx
   have h2:x≠c:=fun e=>hc (by rw [<-e,<-List.takeWhile_append_dropWhile (p:=fun x=>decide (x<c)) (l:=l)];exact List.mem_append_right _ hx)
   omega
  ·have h1:=HT l c x hx
   rcases cW.1 hy with rfl | hy
   ·exact h1
   ·have:=EA h c y hy;omega
def jo (l:List Int):List Int:=l.foldl rA []
theorem rB: ∀(cs l:List Int),iC l->iC (cs.foldl rA l)/\(∀x,x∈cs.foldl rA l↔x∈l\/x∈cs)/\(cs.foldl rA l).length<=l.length+cs.length
 | [],l,h=>⟨h,fun x=>by simp,by simp⟩
 | c::cs,l,h=>by
  obtain⟨h1,h2,h3⟩:=rB cs (rA l c) (vW h)
  refine⟨h1,fun x=>?_,?_⟩
  ·rw [List.foldl_cons,h2,GW,cW,or_assoc]
  ·rw [List.foldl_cons,dE]
   have:=vV l c;omega
theorem me (l:List Int):iC (jo l):=(rB l [] jh).1
theorem wQ {l:List Int} {x:Int}:x∈jo l↔x∈l:=by
 have:=(rB l [] jh).2.1 x
 unfold jo;rw [this];simp
theorem qN (l:List Int): (jo l).length<=l.length:=by
 have:=(rB l [] jh).2.2
 unfold jo;simpa using this
theorem tc (l:List Int) (c d:Int):jo (l++[c,d])=rA (rA (jo l) c) d:=by unfold jo;rw [List.foldl_append];rfl
theorem Dz {a b:Nat} (h:a+b<=4611686018427387904):IntKind.wrap .i64 (Int.tdiv (IntKind.wrap .i64 (((a:Nat):Int)+ ((b:Nat):Int))) 2)= (((a+b) / 2:Nat):Int):=by
 rw [wrap_add h,Int.tdiv_eq_ediv_of_nonneg (by omega),eG (by omega) (by omega)];omega
theorem tJ {l:List Int} {c:Int} (h:iC l) (hl:l.length<=1099511627776) (hN:4398046511104<=N):fS N l c=some (rA l c):=by
 refine Ok.get ?_
 unfold fS
 refine Ok.bind (Ok.iY (Go:=fun st:Int×Int=>∃a:Nat,st.1= ((a:Nat):Int)/\a<=l.length/\(∀(j:Nat) x,j<a->l[j]? =some x->x<c)/\(∀(j:Nat) x,a<=j->l[j]? =some x->c<=x)) (Rt:=fun _=>True)
  (fun st=>∃a b:Nat,st= (((a:Nat):Int),((b:Nat):Int))/\a<=b/\b<=l.length/\(∀(j:Nat) x,j<a->l[j]? =some x->x<c)/\(∀(j:Nat) x,b<=j->l[j]? =some x->c<=x))
  (fun st=>(st.2 - st.1).toNat) ?_ ⟨0,l.length,rfl,by omega,bD _,fun j x hj=>by omega,fun j x hj hx=>by have:=(aU.1 hx).1;omega⟩ (by simp only;omega)) ?_
 ·rintro st ⟨a,b,rfl,hab,hb,h1,h2⟩
  dsimp only
  by_cases hlt:a<b
  ·have hm: (a+b) / 2<l.length:=by omega
   have hx:l[(a+b) / 2]? =some l[(a+b) / 2]:=aL hm
   rw [mN hlt,aO,Dz (by omega)]
   refine Ok.ix hx ?_
   by_cases hc:l[(a+b) / 2]<c
   ·rw [bB hc,aO,aB]
    refine Ok.nx ⟨⟨(a+b) / 2+1,b,?_,by omega,hb,fun j x hj hx'=>?_,h2⟩,?_⟩
    ·rw [bQ (by omega)]
    ·by_cases e:j= (a+b) / 2
     ·subst e;rw [hx] at hx';injection hx' with hx';omega
     ·have:=h.lt (i:=j) (j:=(a+b) / 2) (by omega) hx' hx
      omega
    ·rw [bQ (by omega)];simp only;omega
   ·rw [bF hc,aM,aB]
    refine Ok.nx ⟨⟨a,(a+b) / 2,rfl,by omega,by omega,h1,fun j x hj hx'=>?_⟩,by simp only;omega⟩
    by_cases e:j= (a+b) / 2
    ·subst e;rw [hx] at hx';injection hx' with hx';omega
    ·have:=h.lt (i:=(a+b) / 2) (j:=j) (by omega) hx hx'
     omega
  ·rw [xf (by omega),aM]
   exact Ok.br ⟨a,rfl,by omega,h1,fun j x hj hx=>h2 j x (by omega) hx⟩
 intro o ho
 refine Ok.cs ho ?_ (fun r hr=>r.elim)
 rintro⟨st1,st2⟩ ⟨a,ha,hle,h1,h2⟩
 dsimp only at ha ⊢
 subst ha
 have hin:l[a]? =some c->rA l c=l:=fun hx=>by unfold rA;rw [aC (dU hx)]
 have hout:l[a]? ≠some c->rA l c=l.take a++c::l.drop a:=fun hx=>by
  have hc:c∉l:=fun hc=>by
   obtain⟨j,hj⟩:=dF hc
   by_cases h3:j<a
   ·have:=h1 j c h3 hj;omega
   ·by_cases e:j=a
    ·subst e;exact hx hj
    ·have h5:a<l.length:=by have:=(aU.1 hj).1;omega
     have h6:l[a]? =some l[a]:=aL h5
     have h7:=h.lt (i:=a) (j:=j) (by omega) h6 hj
     have h8:=h2 a _ (bD _) h6
     omega
  unfold rA
  rw [aD hc]
  obtain⟨e1,e2⟩:=rz (p:=fun x=>decide (x<c)) (l:=l) (k:=a) (fun j x hj hx'=>bB (h1 j x hj hx')) (fun x hx'=>bF (by have:=h2 a x (bD _) hx';omega))
  rw [e1,e2]
 have hrest:l[a]? ≠some c->Ok ((p9 l 0 ((a:Nat):Int)).bind fun x49=>(app 8 ([]:List Int) x49).bind fun x51=>(app 8 x51 ([c]:List Int)).bind fun x54=>(p9 l ((a:Nat):Int) ((l.length:Nat):Int)).bind fun x56=>(app 8 x54 x56).bind fun x58=>some x58) (fun r=>r=rA l c):=fun hx=>by
  have htk: (l.take a).length=a:=by rw [cF];omega
  refine Ok.eq (oW l a hle) (Ok.app (by simp only [List.length_nil];omega) (Ok.app (by rw [List.nil_append];simp only [dE,List.length_nil];omega) (Ok.eq (nR l a hle) (Ok.app ?_ (Ok.ret ?_)))))
  ·rw [List.nil_append,cQ,fC];simp only [dE,List.length_nil];omega
  ·rw [hout hx];simp
 by_cases hlt:a<l.length
 ·have hx:l[a]? =some l[a]:=aL hlt
  rw [mN hlt,aO,dG hx,aB,aB]
  refine Ok.bif (fun hb=>Ok.ret ?_) (fun hb=>hrest ?_)
  ·rw [beq_iff_eq] at hb
   rw [hin (by rw [hx,hb])]
  ·rw [beq_eq_false_iff_ne] at hb
   rw [hx];intro e;injection e with e;exact hb e
 ·rw [xf (by omega),aM,aB,aM]
  exact hrest (by rw [List.getElem?_eq_none (by omega)];intro e;cases e)
theorem CD (l m:List aH):ik (l++m)=ik l++ik m:=List.flatMap_append
theorem yK {l:List aH} (hl:l.length<=268435456) (hN:4398046511104<=N):jk N l=some (jo (ik l)):=by
 refine Ok.get ?_
 unfold jk
 refine Ok.bind (Ok.qU (n:=l.length) (fun s=>s.2) (fun k s=>s.1=jo (ik (l.take k))) (Go:=fun s=>s.1=jo (ik l)) (Rt:=fun _=>False) ?_ ?_ (eN _) rfl rfl (by omega)) ?_
 ·rintro k ⟨out,i⟩ hk e hI
  dsimp only at e hI ⊢
  subst e;subst hI
  rw [mN hk,aO]
  have hx:l[k]? =some l[k]:=aL hk
  have h1:=qN (ik (l.take k))
  rw [iu,cF] at h1
  have h2:=vV (jo (ik (l.take k))) l[k].Y0
  refine Ok.ix hx (Ok.ix hx (Ok.eq (tJ (me _) (by omega) hN) (Ok.eq (tJ (vW (me _)) (by omega) hN) (Ok.nx ⟨bQ (by omega),?_⟩))))
  rw [dT hk,CD]
  exact(tc _ _ _).symm
 ·rintro⟨out,i⟩ e hI
  dsimp only at e hI ⊢
  subst e
  rw [pz,aM]
  exact Ok.br (by rw [eE] at hI;exact hI)
 intro o ho
 exact Ok.cs ho (fun s hs=>Ok.ret hs) (fun r hr=>hr.elim)
def sp (s:aK):Int×Int:=(s.from_,s.to)
theorem GX: ∀{l m:List aK},l.map sp=m.map sp->l=m
 | [],[],_=>rfl
 | [],_::_,h=>by cases h
 | _::_,[],h=>by cases h
 | ⟨a,b⟩::l,⟨c,d⟩::m,h=>by
  rw [dA,dA] at h
  injection h with h1 h2
  unfold sp at h1
  injection h1 with h3 h4
  simp only at h3 h4
  rw [h3,h4,GX h2]
theorem vX (a b:Int): (if b<a then b else a)=min a b:=by split <;> omega
theorem vY (a b:Int): (if a<b then b else a)=max a b:=by split <;> omega
theorem z6 {l:List aK} {s:aK} (hl:l.length<=268435456) (hN:4398046511104<=N):Ok (jL N l s) (fun r=>r.map sp=kM (l.map sp) (sp s)):=by
 unfold jL
 have hget: ∀(j:Nat) (x:Int×Int),(l.map sp)[j]? =some x->∃y,l[j]? =some y/\x=sp y:=fun j x h=>by
  rw [dV] at h
  cases hy:l[j]? with
  | none=>rw [hy] at h;cases h
  | some y=>rw [hy] at h;injection h with h;exact⟨y,rfl,h.symm⟩
 refine Ok.bind (Ok.iY (Go:=fun st:List aK×Int=>∃k:Nat,st= (l.take k,((k:Nat):Int))/\k<=l.length/\(∀(j:Nat) x,j<k->l[j]? =some x->x.to<s.from_)/\(∀x,l[k]? =some x->¬x.to<s.from_)) (Rt:=fun _=>False)
  (fun st=>∃k:Nat,st= (l.take k,((k:Nat):Int))/\k<=l.length/\∀(j:Nat) x,j<k->l[j]? =some x->x.to<s.from_) (fun st=>l.length - st.2.toNat) ?_ ⟨0,by simp,by omega,fun j x hj=>by omega⟩ (by simp;omega)) ?_
 ·rintro st ⟨k,rfl,hk,hI⟩
  dsimp only
  by_cases hlt:k<l.length
  ·have hx:l[k]? =some l[k]:=aL hlt
   rw [mN hlt,aO,dG hx,aB,aB]
   refine Ok.bif (fun hb=>?_) (fun hb=>?_)
   ·have hb:=of_decide_eq_true hb
    refine Ok.eq rfl (Ok.app ?_ (Ok.nx ⟨⟨k+1,?_,hlt,?_⟩,?_⟩))
    ·rw [cF];simp only [dE,List.length_nil];omega
    ·rw [bQ (by omega),dT hlt]
    ·intro j x hj hx'
     by_cases e:j=k
     ·subst e;rw [hx] at hx';injection hx' with hx';rw [<-hx'];exact hb
     ·exact hI j x (by omega) hx'
    ·rw [bQ (by omega)];simp only [cA];omega
   ·have hb:=of_decide_eq_false hb
    exact Ok.br ⟨k,rfl,hk,hI,fun x hx'=>by rw [hx] at hx';injection hx' with hx';rw [<-hx'];exact hb⟩
  ·rw [xf (by omega),aM,aB,aM]
   exact Ok.br ⟨k,rfl,hk,hI,fun x hx'=>by have:=(aU.1 hx').1;omega⟩
 intro o ho
 refine Ok.cs ho ?_ (fun r hr=>hr.elim)
 rintro st ⟨k,rfl,hk,hI,hE⟩
 dsimp only
 obtain⟨e1,e2⟩:=rz (p:=fun a:Int×Int=>decide (a.2< (sp s).1)) (l:=l.map sp) (k:=k) (fun j x hj hx=>by
  obtain⟨y,hy,rfl⟩:=hget j x hx
  exact bB (hI j y hj hy)) (fun x hx=>by
  obtain⟨y,hy,rfl⟩:=hget k x hx
  exact bF (hE y hy))
 refine Ok.bind (Ok.iY (Go:=fun st:aK×Int=>∃i:Nat,st.2= ((i:Nat):Int)/\i<=l.length/\ju (sp s) ((l.drop k).map sp)= (sp st.1,(l.drop i).map sp)) (Rt:=fun _=>False)
  (fun st=>∃i:Nat,st.2= ((i:Nat):Int)/\i<=l.length/\ju (sp s) ((l.drop k).map sp)=ju (sp st.1) ((l.drop i).map sp)) (fun st=>l.length - st.2.toNat) ?_ ⟨k,rfl,hk,rfl⟩ (by simp only [cA];omega)) ?_
 ·rintro⟨s',i'⟩ ⟨i,e,hi,hm⟩
  dsimp only at e hm ⊢
  subst e
  by_cases hlt:i<l.length
  ·have hx:l[i]? =some l[i]:=aL hlt
   have hd: (l.drop i).map sp=sp l[i]::(l.drop (i+1)).map sp:=by rw [pB hlt,dA]
   rw [mN hlt,aO,dG hx,aB,aB]
   refine Ok.bif (fun hb=>?_) (fun hb=>?_)
   ·have hb:=of_decide_eq_true hb
    refine Ok.eq rfl (Ok.eq rfl (Ok.nx ⟨⟨i+1,bQ (by omega),hlt,?_⟩,?_⟩))
    ·rw [hm,hd]
     conv=>lhs;unfold ju
     rw [aC (show (sp l[i]).1<=(sp s').2 from hb),vX,vY]
     rfl
    ·dsimp only;rw [bQ (by omega)];simp only [cA];omega
   ·have hb:=of_decide_eq_false hb
    refine Ok.br ⟨i,rfl,hi,?_⟩
    rw [hm,hd]
    conv=>lhs;unfold ju
    rw [aD (show ¬(sp l[i]).1<=(sp s').2 from hb)]
  ·rw [xf (by omega),aM,aB,aM]
   refine Ok.br ⟨i,rfl,hi,?_⟩
   rw [hm,List.drop_eq_nil_of_le (by omega)];rfl
 intro o ho
 refine Ok.cs ho ?_ (fun r hr=>hr.elim)
 rintro⟨s',i'⟩ ⟨i,e,hi,hm⟩
 dsimp only at e hm ⊢
 subst e
 refine Ok.app ?_ (Ok.eq (nR l i hi) (Ok.app ?_ (Ok.ret ?_)))
 ·rw [cF];simp only [dE,List.length_nil];omega
 ·rw [cQ,cF,fC];simp only [dE,List.length_nil];omega
 ·unfold kM
  rw [e1,e2,<-List.map_take,<-List.map_drop,hm]
  simp
theorem yL: ∀(l:List (Int×Int)) (s:Int×Int),(ju s l).2.length<=l.length
 | [],s=>bD _
 | a::l,s=>by
  unfold ju
  split
  ·have:=yL l (min s.1 a.1,max s.2 a.2)
   rw [dE];omega
  ·exact bD _
theorem xg (l:List (Int×Int)) (s:Int×Int): (kM l s).length<=l.length+1:=by
 unfold kM
 have h1:=yL (l.dropWhile fun a=>decide (a.2<s.1)) s
 have h2: (l.takeWhile (fun x=>decide (x.2<s.1))).length+ (l.dropWhile (fun x=>decide (x.2<s.1))).length=l.length:=by rw [<-cQ,List.takeWhile_append_dropWhile]
 rw [cQ,dE];omega
def iG (y:Int) (out:List (Int×Int)) (r:aH):List (Int×Int):=if r.Y0<=y/\y<r.Y1 then kM out (r.X0,r.X1) else out
def jU (l:List aH) (y:Int):List (Int×Int):=l.foldl (iG y) []
theorem Fq (l:List aH) (r:aH) (y:Int):jU (l++[r]) y=iG y (jU l y) r:=by unfold jU;rw [List.foldl_append];rfl
theorem xh (y:Int): ∀(l:List aH) (out:List (Int×Int)),(l.foldl (iG y) out).length<=out.length+l.length
 | [],out=>by simp
 | r::l,out=>by
  rw [List.foldl_cons,dE]
  have h1:=xh y l (iG y out r)
  have h2: (iG y out r).length<=out.length+1:=by
   unfold iG
   split
   ·exact xg _ _
   ·omega
  omega
theorem qO (l:List aH) (y:Int): (jU l y).length<=l.length:=by
 have:=xh y l []
 unfold jU;simpa using this
theorem vZ (y:Int): ∀(l:List aH) (out:List (Int×Int)),(∀r∈l,r.X0<r.X1)->iC (cU out)->iC (cU (l.foldl (iG y) out))/\∀x,hQ (l.foldl (iG y) out) x= (hQ out x||sR l x y)
 | [],out,_,h=>⟨h,fun x=>by simp [sR]⟩
 | r::l,out,hr,h=>by
  have h0:=hr r (by simp)
  rw [List.foldl_cons]
  have hst:iC (cU (iG y out r))/\∀x,hQ (iG y out r) x= (hQ out x||((decide (r.X0<=x)&&decide (x<r.X1))&&(decide (r.Y0<=y)&&decide (y<r.Y1)))):=by
   unfold iG
   by_cases hy:r.Y0<=y/\y<r.Y1
   ·rw [aC hy]
    obtain⟨j1,j2⟩:=vF (l:=out) (s:=(r.X0,r.X1)) h h0
    refine⟨j1,fun x=>?_⟩
    rw [j2,bB hy.1,bB hy.2,Bool.or_comm];simp
   ·rw [aD hy]
    refine⟨h,fun x=>?_⟩
    have: (decide (r.Y0<=y)&&decide (y<r.Y1))=false:=by rw [Bool.and_eq_false_iff,decide_eq_false_iff_not,decide_eq_false_iff_not];omega
    rw [this];simp
  obtain⟨m1,m2⟩:=vZ y l (iG y out r) (fun r' hr'=>hr r' (f0 _ hr')) hst.1
  refine⟨m1,fun x=>?_⟩
  rw [m2,hst.2,Bool.or_assoc];rfl
theorem tK {l:List aH} (h: ∀r∈l,r.X0<r.X1) (y:Int):iC (cU (jU l y))/\∀x,hQ (jU l y) x=sR l x y:=by
 obtain⟨h1,h2⟩:=vZ y l [] h jh
 exact⟨h1,fun x=>by rw [show hQ (jU l y) x=_ from h2 x,show hQ [] x=false from rfl,Bool.false_or]⟩
theorem uh {y y':Int}: ∀(l:List aH) (out:List (Int×Int)),(∀r∈l,(r.Y0<=y/\y<r.Y1)↔(r.Y0<=y'/\y'<r.Y1))->l.foldl (iG y) out=l.foldl (iG y') out
 | [],out,_=>rfl
 | r::l,out,h=>by
  rw [List.foldl_cons,List.foldl_cons,uh l _ (fun r' hr'=>h r' (f0 _ hr'))]
  congr 1
  unfold iG
  have:=h r (by simp)
  by_cases h1:r.Y0<=y/\y<r.Y1
  ·rw [aC h1,aC (this.1 h1)]
  ·rw [aD h1,aD (fun h2=>h1 (this.2 h2))]
theorem DA {l:List aH} {y y':Int} (h: ∀r∈l,(r.Y0<=y/\y<r.Y1)↔(r.Y0<=y'/\y'<r.Y1)):jU l y=jU l y':=uh l [] h
theorem GY {l:List aH} {y:Int} (h: ∀r∈l,¬(r.Y0<=y/\y<r.Y1)):jU l y= []:=by
 have: ∀(l:List aH) (out:List (Int×Int)),(∀r∈l,¬(r.Y0<=y/\y<r.Y1))->l.foldl (iG y) out=out:=by
  intro l
  induction l with
  | nil=>intro out _;rfl
  | cons r l ih=>
   intro out h
   rw [List.foldl_cons,ih _ (fun r' hr'=>h r' (f0 _ hr'))]
   unfold iG;rw [aD (h r (by simp))]
 exact this l [] h
theorem DB {l:List aH} {y:Int} (hl:l.length<=134217728) (hN:4398046511104<=N):Ok (jM N l y) (fun r=>r.map sp=jU l y):=by
 unfold jM
 refine Ok.bind (Ok.qU (n:=l.length) (fun s=>s.2) (fun k s=>s.1.map sp=jU (l.take k) y) (Go:=fun s=>s.1.map sp=jU l y) (Rt:=fun _=>False) ?_ ?_ (eN _) rfl rfl (by omega)) ?_
 ·rintro k ⟨out,i⟩ hk e hI
  dsimp only at e hI ⊢
  subst e
  rw [mN hk,aO]
  have hx:l[k]? =some l[k]:=aL hk
  have hlen:out.length<=l.length:=by
   have h1:=qO (l.take k) y
   rw [<-hI,cE,cF] at h1;omega
  rw [dG hx,aB]
  have hst:jU (l.take (k+1)) y=iG y (jU (l.take k) y) l[k]:=by rw [dT hk,Fq]
  have hno: ¬(l[k].Y0<=y/\y<l[k].Y1)->Ok ((some out).bind fun s141=>some (Fl.nx (s141,IntKind.wrap .i64 (((k:Nat):Int)+1)):Fl (List aK×Int) Empty)) (Hf (fun s'=>s'.2= ((k+1:Nat):Int)/\s'.1.map sp=jU (l.take (k+1)) y) (fun s=>s.1.map sp=jU l y) (fun _=>False)):=fun hy=>by
   rw [aB]
   refine Ok.nx ⟨bQ (by omega),?_⟩
   rw [hst];unfold iG;rw [aD hy];exact hI
  by_cases h1:l[k].Y0<=y
  ·rw [bB h1,aO,aB,aB]
   by_cases h2:y<l[k].Y1
   ·rw [bB h2,aO]
    refine Ok.bind (P:=fun r:List aK=>r.map sp=jU (l.take (k+1)) y) (Ok.eq rfl (Ok.eq rfl (Ok.bind (z6 (by omega) hN) (fun r hr=>Ok.ret ?_)))) (fun r hr=>Ok.nx ⟨bQ (by omega),hr⟩)
    rw [hr,hI,hst];unfold iG;rw [aC ⟨h1,h2⟩];rfl
   ·rw [bF h2,aM]
    exact hno (fun h=>h2 h.2)
  ·rw [bF h1,aM,aB,aM]
   exact hno (fun h=>h1 h.1)
 ·rintro⟨out,i⟩ e hI
  dsimp only at e hI ⊢
  subst e
  rw [pz,aM]
  exact Ok.br (by rw [eE] at hI;exact hI)
 intro o ho
 exact Ok.cs ho (fun s hs=>Ok.ret hs) (fun r hr=>hr.elim)
theorem z7 {l:List aK} {x:Int} (hl:l.length<=1099511627776) (hN:4398046511104<=N):jO N l x=some (hQ (l.map sp) x):=by
 refine Ok.get ?_
 unfold jO
 have hm: ∀b:Bool,(hQ (l.map sp) x=b↔(l.any fun s=>decide (s.from_<=x)&&decide (x<s.to))=b):=fun b=>by unfold hQ;rw [List.any_map];rfl
 refine Ok.bind (Ok.qU (n:=l.length) (fun s=>s) (fun k s=>∀(j:Nat) y,j<k->l[j]? =some y->¬(y.from_<=x/\x<y.to)) (Go:=fun s=>hQ (l.map sp) x=false) (Rt:=fun r=>r=hQ (l.map sp) x) ?_ ?_ (eN _) rfl (fun j y hj=>by omega) (by omega)) ?_
 ·rintro k i hk e hI
  subst e
  rw [mN hk,aO]
  have hx:l[k]? =some l[k]:=aL hk
  rw [dG hx,aB]
  have hno: ¬(l[k].from_<=x/\x<l[k].to)->Ok (some (Fl.nx (IntKind.wrap .i64 (((k:Nat):Int)+1)):Fl Int Bool)) (Hf (fun s'=>s'= ((k+1:Nat):Int)/\∀(j:Nat) y,j<k+1->l[j]? =some y->¬(y.from_<=x/\x<y.to)) (fun s=>hQ (l.map sp) x=false) (fun r=>r=hQ (l.map sp) x)):=fun hy=>Ok.nx ⟨bQ (by omega),fun j y hj hjy=>by
   by_cases e:j=k
   ·subst e;rw [hx] at hjy;injection hjy with hjy;rw [<-hjy];exact hy
   ·exact hI j y (by omega) hjy⟩
  by_cases h1:l[k].from_<=x
  ·rw [bB h1,aO,aB,aB]
   by_cases h2:x<l[k].to
   ·rw [bB h2,aO]
    refine Ok.rt ?_
    symm;rw [hm,jC]
    exact⟨l[k],cJ hk,by rw [bB h1,bB h2];rfl⟩
   ·rw [bF h2,aM];exact hno (fun h=>h2 h.2)
  ·rw [bF h1,aM,aB,aM];exact hno (fun h=>h1 h.1)
 ·rintro i e hI
  subst e
  rw [pz,aM]
  refine Ok.br ?_
  rw [hm,List.any_eq_false]
  intro y hy
  obtain⟨j,hj⟩:=dF hy
  have:=hI j y (aU.1 hj).1 hj
  rw [j4,Bool.and_eq_false_iff,decide_eq_false_iff_not,decide_eq_false_iff_not];omega
 intro o ho
 exact Ok.cs ho (fun s hs=>Ok.ret hs.symm) (fun r hr=>Ok.ret hr)
end
end Go.Gk
namespace Go.Gk
open Go Classical
section
variable {α:Type} [DecidableEq α] {N:Nat}
def IC (N:Nat) (p0 p1:List α):Option Bool:=
 bif ((p0.length:Int) != (p1.length:Int)) then (some false) else ((iY (fun(s32:Int)=>(bif (decide (s32< (p0.length:Int))) then ((idx p0 s32).bind fun x45=>(idx p1 s32).bind fun x48=>bif (!(decide (x45=x48))) then (some (.rt false)) else (some (.nx (IntKind.wrap .i64 (s32+1))))) else (some (.br s32)):Option (Fl (Int) Bool))) N 0).bind fun o51=>o51.cs (fun(s32:Int)=>some true) (fun r=>some r))
theorem CE {l m:List α} (hl:l.length<=1099511627776) (hN:4398046511104<=N):IC N l m=some (decide (l=m)):=by
 refine Ok.get ?_
 unfold IC
 by_cases he:l.length=m.length
 ·rw [show ((((l.length:Nat):Int)) != ((m.length:Nat):Int))=false by rw [he];simp,aM]
  refine Ok.bind (Ok.qU (n:=l.length) (fun s=>s) (fun k s=>∀j,j<k->l[j]? =m[j]?) (Go:=fun s=>l=m) (Rt:=fun r=>r=false/\l≠m) ?_ ?_ (eN _) rfl (fun j hj=>by omega) (by omega)) ?_
  ·rintro k i hk e hI
   subst e
   have hx:l[k]? =some l[k]:=aL hk
   have hy:m[k]? =some (m[k]'(by omega)):=aL _
   rw [mN hk,aO]
   refine Ok.ix hx (Ok.ix hy (Ok.bif (fun hb=>Ok.rt ⟨rfl,fun e=>?_⟩) (fun hb=>Ok.nx ⟨bQ (by omega),fun j hj=>?_⟩)))
   ·have h1:some l[k]=some (m[k]'(by omega)):=hx.symm.trans ((by rw [e]:l[k]? =m[k]?).trans hy)
    injection h1 with h1
    rw [h1] at hb;simp at hb
   ·by_cases e:j=k
    ·subst e;rw [hx,hy];simpa using hb
    ·exact hI j (by omega)
  ·rintro i e hI
   subst e
   rw [pz,aM]
   refine Ok.br (List.ext_getElem? fun j=>?_)
   by_cases hj:j<l.length
   ·exact hI j hj
   ·rw [List.getElem?_eq_none (by omega),List.getElem?_eq_none (by omega)]
  intro o ho
  exact Ok.cs ho (fun s hs=>Ok.ret (bB hs).symm) (fun r hr=>Ok.ret (by rw [hr.1,bF hr.2]))
 ·rw [show ((((l.length:Nat):Int)) != ((m.length:Nat):Int))=true by rw [bne_iff_ne];omega,aO]
  exact Ok.ret (bF fun h=>he (by rw [h])).symm
end
section
variable {N:Nat}
theorem A6 {l m:List aH} (hl:l.length<=1099511627776) (hN:4398046511104<=N):mJ N l m=some (decide (l=m)):=CE hl hN
theorem A7 {l m:List aK} (hl:l.length<=1099511627776) (hN:4398046511104<=N):mI N l m=some (decide (l=m)):=CE hl hN
def p6 (b:bA):Bd:=⟨b.from_,b.to,cU (b.kb.map sp)⟩
theorem Ft {l:List (Int×Int)}:cU l= []↔l= []:=by
 cases l with
 | nil=>exact⟨fun _=>rfl,fun _=>rfl⟩
 | cons s l=>exact⟨fun h=>(by cases h),fun h=>(by cases h)⟩
theorem Fu {l m:List aK}:cU (l.map sp)=cU (m.map sp)↔l=m:=⟨fun h=>GX (zS h),fun h=>by rw [h]⟩
theorem DC {l:List bA} {b:bA} (hlt:b.from_<b.to) (hl:l.length<=1073741824) (hs: ∀c∈l,c.kb.length<=1099511627776) (hN:4398046511104<=N):
  Ok (gR N l b) (fun r=>r.map p6=iD (l.map p6) (p6 b)):=by
 unfold gR iD
 by_cases h0:b.kb= []
 ·rw [show (((b.kb.length:Nat):Int)==0)=true by rw [h0];rfl,aO,aC (.inl (by unfold p6;rw [h0];rfl))]
  exact Ok.ret rfl
 ·rw [show (((b.kb.length:Nat):Int)==0)=false by rw [beq_eq_false_iff_ne];intro h;exact h0 (List.eq_nil_of_length_eq_zero (by omega)),aM]
  have hne: ¬((p6 b).xs= []\/(p6 b).y1<=(p6 b).y0):=by
   rintro(h | h)
   ·have h:=Ft.1 h
    exact h0 (List.map_eq_nil_iff.1 h)
   ·have h:b.to<=b.from_:=h
    omega
  rw [aD hne]
  rcases List.eq_nil_or_concat l with rfl | ⟨A,c,hA⟩
  ·rw [show decide (((([]:List bA).length:Nat):Int)>0)=false by decide,aM,aB,aM]
   exact Ok.app (by simp) (Ok.ret rfl)
  ·rw [List.concat_eq_append] at hA
   subst hA
   have hlen: (A++[c]).length=A.length+1:=by simp
   have hwp:IntKind.wrap .i64 ((((A++[c]).length:Nat):Int) - 1)= ((A.length:Nat):Int):=by rw [ym (by omega) (by omega),hlen];rfl
   have hlast: (A++[c])[A.length]? =some c:=by simp
   rw [hwp,bB (by omega),aO,dG hlast,aB,aB,A7 (by have:=hs c (by simp);omega) hN,aB,aB,cA]
   have hl2: ((A++[c]).map p6).getLast? =some (p6 c):=by simp
   have hd2: ((A++[c]).map p6).dropLast=A.map p6:=by simp
   rw [hl2,hd2]
   dsimp only
   by_cases h1:c.to=b.from_/\c.kb=b.kb
   ·rw [aC (show (p6 c).y1= (p6 b).y0/\(p6 c).xs= (p6 b).xs from ⟨h1.1,by unfold p6;rw [h1.2]⟩),show (c.to==b.from_)=true by rw [h1.1];simp,aO,bB h1.2,aB,aO]
    refine Ok.ret ?_
    rw [List.set_append_right _ _ (bD _),Nat.sub_self]
    simp [p6]
   ·rw [aD (show ¬((p6 c).y1= (p6 b).y0/\(p6 c).xs= (p6 b).xs) from fun h=>h1 ⟨h.1,Fu.1 h.2⟩)]
    have e2: (bif (c.to==b.from_) then (some (decide (c.kb=b.kb))) else (some false))=some false:=by
     by_cases h2:c.to=b.from_
     ·rw [show (c.to==b.from_)=true by rw [h2];simp,aO,bF (fun h=>h1 ⟨h2,h⟩)]
     ·rw [show (c.to==b.from_)=false by simpa using h2,aM]
    rw [e2,aB,aM]
    exact Ok.app (by rw [hlen];simp;omega) (Ok.ret (by simp))
theorem GZ {s:List Bd} {b c:Bd} (h:c∈iD s b):c.xs=b.xs\/∃d∈s,c.xs=d.xs:=by
 unfold iD at h
 split at h
 ·exact .inr ⟨c,h,rfl⟩
 ·split at h
  ·rename_i d hd
   split at h
   ·rcases cV.1 h with h | h
    ·exact .inr ⟨c,List.dropLast_subset _ h,rfl⟩
    ·simp at h
     exact .inr ⟨d,List.mem_of_getLast? hd,by rw [h]⟩
   ·rcases cV.1 h with h | h
    ·exact .inr ⟨c,h,rfl⟩
    ·simp at h;exact .inl (by rw [h])
  ·simp at h;exact .inl (by rw [h])
theorem oH {f:Int->List Int} {B:Nat} (hf: ∀y,(f y).length<=B): ∀(ss:List (Int×Int)) (out:List Bd),(∀c∈out,c.xs.length<=B)->(∀c∈lh f ss out,c.xs.length<=B)/\(lh f ss out).length<=out.length+ss.length
 | [],out,h=>⟨h,by simp [lh]⟩
 | s::ss,out,h=>by
  obtain⟨h1,h2⟩:=oH hf ss (iD out ⟨s.1,s.2,f s.1⟩) (fun c hc=>by
   rcases GZ hc with h3 | ⟨d,hd,h3⟩
   ·rw [h3];exact hf _
   ·rw [h3];exact h d hd)
  refine⟨h1,?_⟩
  have:=E9 out ⟨s.1,s.2,f s.1⟩
  show (lh f ss (iD out ⟨s.1,s.2,f s.1⟩)).length<=_
  rw [dE];omega
theorem lS: ∀(ys:List Int),(jf ys).length=ys.length - 1
 | []=>rfl
 | [_]=>rfl
 | a::b::l=>by
  show (jf (b::l)).length+1=_
  rw [lS (b::l)];simp
theorem yM: ∀(ys:List Int) (k:Nat) (h:k+1<ys.length),(jf ys)[k]? =some (ys[k],ys[k+1])
 | [],k,h=>by simp at h
 | [_],k,h=>by simp at h
 | a::b::l,0,h=>rfl
 | a::b::l,k+1,h=>by
  have:=yM (b::l) k (by simp at h ⊢;omega)
  show (jf (b::l))[k]? =_
  rw [this];rfl
theorem CF (f:Int->List Int) (ss:List (Int×Int)) (s:Int×Int) (out:List Bd):lh f (ss++[s]) out=iD (lh f ss out) ⟨s.1,s.2,f s.1⟩:=by unfold lh;rw [List.foldl_append];rfl
theorem yN {ys:List Int} (hy:iC ys) {f:Int->List Int} {B:Nat} (hf: ∀y,(f y).length<=B) (hB:B<=1099511627776) (hys:ys.length<=1073741824) {out:List bA} {k:Nat} (h1:1<=k) (hk:k<ys.length)
  (hI:out.map p6=lh f ((jf ys).take (k - 1)) []) {r:List aK} (hr:cU (r.map sp)=f (ys[k - 1]'(by omega))) (hN:4398046511104<=N):
  Ok (gR N out ⟨ys[k - 1]'(by omega),ys[k],r⟩) (fun o=>o.map p6=lh f ((jf ys).take k) []):=by
 have hlt:ys[k - 1]'(by omega)<ys[k]:=kA.1 hy (k - 1) k (by omega) hk (by omega)
 obtain⟨s1,s2⟩:=oH hf ((jf ys).take (k - 1)) [] (fun c hc=>by cases hc)
 have hol:out.length<=ys.length:=by
  have: (out.map p6).length<=ys.length:=by
   rw [hI]
   have h3:=lS ys
   rw [cF] at s2
   simp only [List.length_nil] at s2;omega
  rwa [cE] at this
 refine(DC hlt (by omega) (fun c hc=>?_) hN).mono fun o ho=>?_
 ·have h3: (p6 c).xs.length<=B:=s1 _ (by rw [<-hI];exact cP.2 ⟨c,hc,rfl⟩)
  have h4: (p6 c).xs.length=2*c.kb.length:=by unfold p6;rw [iX,cE]
  omega
 ·have hg:=yM ys (k - 1) (by omega)
  have hts: (jf ys).take k= (jf ys).take (k - 1)++[(ys[k - 1]'(by omega),ys[k])]:=by
   have hl:k - 1< (jf ys).length:=by rw [lS];omega
   have e:=dT hl
   rw [show k - 1+1=k by omega] at e
   rw [e]
   congr 1
   rw [aL hl] at hg
   injection hg with hg
   rw [hg];simp only [show k - 1+1=k by omega]
  rw [ho,hI,hts,CF]
  congr 1
  unfold p6
  simp only [hr]
def og (b:bA):List aH:=b.kb.map fun s=>⟨s.from_,b.from_,s.to,b.to⟩
def kP (l:List bA):List aH:=l.flatMap og
theorem CG: ∀(l:List (Int×Int)),yo (cU l)=l
 | []=>rfl
 | s::l=>by rw [hU];show (s.1,s.2)::yo (cU l)=_;rw [CG l]
theorem wR: ∀{l:List bA} {s:List aA},l.map p6=s.map bJ->kP l=aQ s
 | [],[],_=>rfl
 | [],_::_,h=>by cases h
 | _::_,[],h=>by cases h
 | b::l,c::s,h=>by
  rw [dA,dA] at h
  injection h with h1 h2
  have e:=wR h2
  show og b++kP l=lN c++aQ s
  rw [e]
  congr 1
  unfold p6 bJ at h1
  injection h1 with g1 g2 g3
  unfold og lN
  rw [<-g3,CG,g1,g2,List.map_map]
  rfl
theorem CH (l:List bA) (b:bA):kP (l++[b])=kP l++og b:=by unfold kP;rw [List.flatMap_append];simp
theorem EB {l:List bA} (hl:l.length<=1099511627776) (hs: ∀b∈l,b.kb.length<=1099511627776) (hr: (kP l).length<=1099511627776) (hN:4398046511104<=N):kI N l=some (kP l):=by
 refine Ok.get ?_
 unfold kI
 refine Ok.bind (Ok.qU (n:=l.length) (fun s=>s.2) (fun k s=>s.1=kP (l.take k)) (Go:=fun s=>s.1=kP l) (Rt:=fun _=>False) ?_ ?_ (eN _) rfl rfl (by omega)) ?_
 ·rintro k ⟨out,i⟩ hk e hI
  dsimp only at e hI ⊢
  subst e;subst hI
  rw [mN hk,aO]
  have hx:l[k]? =some l[k]:=aL hk
  have hsl:=hs _ (cJ hk)
  have hts:kP (l.take (k+1))=kP (l.take k)++og l[k]:=by rw [dT hk,CH]
  have hlen: (kP (l.take k)).length+l[k].kb.length<=(kP l).length:=by
   have h1: (kP l).length= (kP (l.take (k+1))).length+ (kP (l.drop (k+1))).length:=by
    rw [<-cQ];unfold kP;rw [<-List.flatMap_append,List.take_append_drop]
   have h2: (og l[k]).length=l[k].kb.length:=by unfold og;rw [cE]
   rw [hts,cQ,h2] at h1;omega
  refine Ok.bind (Ok.qU (n:=l[k].kb.length) (fun s=>s.2) (fun j s=>s.1=kP (l.take k)++(og l[k]).take j) (Go:=fun s=>s.1=kP (l.take (k+1))) (Rt:=fun _=>False) ?_ ?_ (eN _) rfl (by simp) (by omega)) ?_
  ·rintro j ⟨o2,i2⟩ hj e hI
   dsimp only at e hI ⊢
   subst e;subst hI
   have hy:l[k].kb[j]? =some l[k].kb[j]:=aL hj
   have hjr:j< (og l[k]).length:=by unfold og;rw [cE];exact hj
   refine Ok.ix hx ?_
   rw [mN hj,aO]
   refine Ok.ix hx (Ok.ix hy (Ok.ix hx (Ok.ix hx (Ok.ix hy (Ok.ix hx (Ok.app ?_ (Ok.nx ⟨bQ (by omega),?_⟩)))))))
   ·rw [cQ,cF];simp only [dE,List.length_nil];omega
   ·dsimp only
    rw [j3]
    congr 1
    rw [dT hjr]
    congr 1
    simp [og]
  ·rintro⟨o2,i2⟩ e hI
   dsimp only at e hI ⊢
   subst e;subst hI
   refine Ok.ix hx ?_
   rw [pz,aM]
   refine Ok.br ?_
   dsimp only
   rw [hts]
   congr 1
   exact lj (by unfold og;rw [cE];omega)
  intro o ho
  exact Ok.cs ho (fun s hs=>Ok.nx ⟨bQ (by omega),hs⟩) (fun r hr=>hr.elim)
 ·rintro⟨out,i⟩ e hI
  dsimp only at e hI ⊢
  subst e
  rw [pz,aM]
  exact Ok.br (by rw [eE] at hI;exact hI)
 intro o ho
 exact Ok.cs ho (fun s hs=>Ok.ret hs) (fun r hr=>hr.elim)
theorem wS {l:List aH} {ys:List Int} (hm: ∀r∈l,r.Y0∈ys/\r.Y1∈ys) {s:Int×Int} {y:Int} (hs:s∈jf ys) (hy:iC ys) (h1:s.1<=y) (h2:y<s.2):jU l y=jU l s.1:=DA fun r hr=>by
 obtain⟨m1,m2⟩:=hm r hr
 obtain⟨_,_,_,h⟩:=oM hy s hs
 rcases h _ m1 with h3 | h3 <;> rcases h _ m2 with h4 | h4 <;> constructor <;> intro h5 <;> omega
theorem A8 {l:List aH} {ys:List Int} (hm: ∀r∈l,r.Y0∈ys/\r.Y1∈ys) {y:Int} (h: (∀c∈ys,y<c)\/(∀c∈ys,c<=y)):jU l y= []:=GY fun r hr hc=>by
 obtain⟨m1,m2⟩:=hm r hr
 rcases h with h | h
 ·have:=h _ m1;omega
 ·have:=h _ m2;omega
theorem A9 {l:List aH}: ∀r∈l,r.Y0∈jo (ik l)/\r.Y1∈jo (ik l):=fun r hr=>⟨wQ.2 (kp.2 ⟨r,hr, .inl rfl⟩),wQ.2 (kp.2 ⟨r,hr, .inr rfl⟩)⟩
theorem G0 (l:List aH): (jo (ik l)).length<=2*l.length:=by
 have:=qN (ik l)
 rwa [iu] at this
theorem rC {l:List aH} {s:List aA} (hc:dX (s.map bJ)) (hcov: ∀x y,rY (s.map bJ) x y=sR l x y) (hl:l.length<=10000000) (hok: ∀r∈l,r.X0<r.X1) (hr: (aQ s).length<=1099511627776) (hN:4398046511104<=N):
  gu N l=some (aQ s):=by
 refine Ok.get ?_
 unfold gu
 refine Ok.eq (yK (by omega) hN) ?_
 have hyl:=G0 l
 have hyi:=me (ik l)
 have hf: ∀y,iC (cU (jU l y))/\(cU (jU l y)).length % 2=0:=fun y=>⟨(tK hok y).1,by rw [iX];omega⟩
 have hfl: ∀y,(cU (jU l y)).length<=20000000:=fun y=>by rw [iX];have:=qO l y;omega
 obtain⟨b1,b2⟩:=w9 (f:=fun y=>cU (jU l y)) hf hyi (fun t ht y h1 h2=>by (try dsimp only);rw [wS A9 ht hyi h1 h2]) (fun y h=>by (try dsimp only);rw [A8 A9 h];rfl)
 have hsame:lh (fun y=>cU (jU l y)) (jf (jo (ik l))) []=s.map bJ:=rn b1 hc fun x y=>by
  rw [hcov];unfold rY;rw [b2,qD (hf y).1,(tK hok y).2]
 have hmy:= @A9 l
 generalize jo (ik l)=ys at *
 refine Ok.bind (Ok.qU (n:=max 1 ys.length) (fun s=>s.2) (fun k st=>1<=k/\st.1.map p6=lh (fun y=>cU (jU l y)) ((jf ys).take (k - 1)) []) (Go:=fun st=>st.1.map p6=s.map bJ) (Rt:=fun _=>False) ?_ ?_ (k0:=1) (by omega) rfl ⟨bD _,rfl⟩ (by omega)) ?_
 ·rintro k ⟨out,i⟩ hk e ⟨hk1,hI⟩
  dsimp only at e hI ⊢
  subst e
  have hk2:k<ys.length:=by omega
  rw [mN hk2,aO,fW hk1 (by omega)]
  refine Ok.idx (by omega) (Ok.idx hk2 (Ok.idx (by omega) (Ok.bind (DB (by omega) hN) fun r hr=>Ok.bind (yN hyi (f:=fun y=>cU (jU l y)) hfl (by omega) (by omega) hk1 hk2 hI (by (try dsimp only);rw [hr]) hN) fun o ho=>Ok.nx ⟨bQ (by omega),by omega,?_⟩)))
  rw [xD];exact ho
 ·rintro⟨out,i⟩ e ⟨hk1,hI⟩
  dsimp only at e hI ⊢
  subst e
  rw [xf (by omega),aM]
  refine Ok.br ?_
  rw [lj (by rw [lS];omega),hsame] at hI
  exact hI
 intro o ho
 refine Ok.cs ho (fun st hs=>?_) (fun r hr=>hr.elim)
 have e:=wR hs
 obtain⟨s1,s2⟩:=oH (f:=fun y=>cU (jU l y)) hfl (jf ys) [] (fun c hc=>by cases hc)
 refine Ok.eq (EB (l:=st.1) ?_ ?_ (by rw [e];exact hr) hN) (Ok.ret e)
 ·have: (st.1.map p6).length<=ys.length:=by rw [hs,<-hsame];have:=lS ys;simp only [List.length_nil] at s2;omega
  rw [cE] at this;omega
 ·intro b hb
  have h3:=s1 (p6 b) (by rw [hsame,<-hs];exact cP.2 ⟨b,hb,rfl⟩)
  have h4: (p6 b).xs.length=2*b.kb.length:=by unfold p6;rw [iX,cE]
  omega
def pg (w:Int) (p q:Bool):Bool:=((((w==1)&&(p||q))||(((w==2)&&p)&&q))||(((w==3)&&p)&&(!q)))
theorem G1 (w:Int):pg w false false=false:=by unfold pg;simp
theorem xk (fM:Bool->Bool->Bool) (a b ss:List (Int×Int)) (s:Int×Int) (out:List (Int×Int)):lf fM a b (ss++[s]) out=if fM (hQ a s.1) (hQ b s.1)=true then kM (lf fM a b ss out) s else lf fM a b ss out:=by unfold lf;rw [List.foldl_append];rfl
theorem uM (fM:Bool->Bool->Bool) (a b:List (Int×Int)): ∀(ss out:List (Int×Int)),(lf fM a b ss out).length<=out.length+ss.length
 | [],out=>by simp [lf]
 | s::ss,out=>by
  have h1:=uM fM a b ss (if fM (hQ a s.1) (hQ b s.1)=true then kM out s else out)
  have h2: (if fM (hQ a s.1) (hQ b s.1)=true then kM out s else out).length<=out.length+1:=by
   split
   ·exact xg _ _
   ·omega
  show (lf fM a b ss (if fM (hQ a s.1) (hQ b s.1)=true then kM out s else out)).length<=_
  rw [dE];omega
def xl (a b:List (Int×Int)):List Int:=jo (cU a++cU b)
theorem z8 (a b:List (Int×Int)): (xl a b).length<=2*a.length+2*b.length:=by
 have:=qN (cU a++cU b)
 rw [cQ,iX,iX] at this
 exact this
theorem G2 {a b:List aK} {w:Int} (ha:a.length<=10000000) (hb:b.length<=10000000) (hN:4398046511104<=N):
  Ok (mg N a b w) (fun r=>r.map sp=lf (pg w) (a.map sp) (b.map sp) (jf (xl (a.map sp) (b.map sp))) []):=by
 unfold mg
 have hfl: ∀(l:List aK),(jo (cU (l.map sp))).length<=2*l.length:=fun l=>by
  have:=qN (cU (l.map sp))
  rwa [iX,cE] at this
 refine Ok.bind (Ok.qU (n:=a.length) (fun s=>s.2) (fun k s=>s.1=jo (cU ((a.take k).map sp))) (Go:=fun s=>s.1=jo (cU (a.map sp))) (Rt:=fun _=>False) ?_ ?_ (eN _) rfl rfl (by omega)) ?_
 ·rintro k ⟨out,i⟩ hk e hI
  dsimp only at e hI ⊢
  subst e;subst hI
  rw [mN hk,aO]
  have hx:a[k]? =some a[k]:=aL hk
  have h1:=hfl (a.take k)
  rw [cF] at h1
  have h2:=vV (jo (cU ((a.take k).map sp))) a[k].from_
  refine Ok.ix hx (Ok.ix hx (Ok.eq (tJ (me _) (by omega) hN) (Ok.eq (tJ (vW (me _)) (by omega) hN) (Ok.nx ⟨bQ (by omega),?_⟩))))
  rw [dT hk,dD,rp]
  exact(tc _ _ _).symm
 ·rintro⟨out,i⟩ e hI
  dsimp only at e hI ⊢
  subst e
  rw [pz,aM]
  exact Ok.br (by rw [eE] at hI;exact hI)
 intro o ho
 refine Ok.cs ho ?_ (fun r hr=>hr.elim)
 rintro⟨xa,ia⟩ hxa
 dsimp only at hxa ⊢
 subst hxa
 refine Ok.bind (Ok.qU (n:=b.length) (fun s=>s.2) (fun k s=>s.1=jo (cU (a.map sp)++cU ((b.take k).map sp))) (Go:=fun s=>s.1=xl (a.map sp) (b.map sp)) (Rt:=fun _=>False) ?_ ?_ (eN _) rfl (by simp [cU]) (by omega)) ?_
 ·rintro k ⟨out,i⟩ hk e hI
  dsimp only at e hI ⊢
  subst e;subst hI
  rw [mN hk,aO]
  have hx:b[k]? =some b[k]:=aL hk
  have h1:=qN (cU (a.map sp)++cU ((b.take k).map sp))
  rw [cQ,iX,iX,cE,cE,cF] at h1
  have h2:=vV (jo (cU (a.map sp)++cU ((b.take k).map sp))) b[k].from_
  refine Ok.ix hx (Ok.ix hx (Ok.eq (tJ (me _) (by omega) hN) (Ok.eq (tJ (vW (me _)) (by omega) hN) (Ok.nx ⟨bQ (by omega),?_⟩))))
  rw [dT hk,dD,rp,<-j3]
  exact(tc _ _ _).symm
 ·rintro⟨out,i⟩ e hI
  dsimp only at e hI ⊢
  subst e
  rw [pz,aM]
  exact Ok.br (by rw [eE] at hI;exact hI)
 intro o ho
 refine Ok.cs ho ?_ (fun r hr=>hr.elim)
 rintro⟨xs,ix⟩ hxs
 dsimp only at hxs ⊢
 have hxl:=z8 (a.map sp) (b.map sp)
 rw [<-hxs,cE,cE] at hxl
 rw [<-hxs]
 clear hxs
 refine Ok.bind (Ok.qU (n:=max 1 xs.length) (fun s=>s.2) (fun k st=>1<=k/\st.1.map sp=lf (pg w) (a.map sp) (b.map sp) ((jf xs).take (k - 1)) []) (Go:=fun st=>st.1.map sp=lf (pg w) (a.map sp) (b.map sp) (jf xs) []) (Rt:=fun _=>False) ?_ ?_ (k0:=1) (by omega) rfl ⟨bD _,rfl⟩ (by omega)) ?_
 ·rintro k ⟨out,i⟩ hk e ⟨hk1,hI⟩
  dsimp only at e hI ⊢
  subst e
  have hk2:k<xs.length:=by omega
  rw [mN hk2,aO,fW hk1 (by omega)]
  have hx:xs[k - 1]? =some (xs[k - 1]'(by omega)):=aL _
  have hy:xs[k]? =some xs[k]:=aL hk2
  have hg:=yM xs (k - 1) (by omega)
  have hts: (jf xs).take k= (jf xs).take (k - 1)++[(xs[k - 1]'(by omega),xs[k])]:=by
   have hl:k - 1< (jf xs).length:=by rw [lS];omega
   have e:=dT hl
   rw [show k - 1+1=k by omega] at e
   rw [e]
   congr 1
   rw [aL hl] at hg
   injection hg with hg
   rw [hg];simp only [show k - 1+1=k by omega]
  have hol:out.length<=xs.length:=by
   have h1:=uM (pg w) (a.map sp) (b.map sp) ((jf xs).take (k - 1)) []
   rw [<-hI,cE,cF,lS] at h1
   simp only [List.length_nil] at h1;omega
  refine Ok.ix hx (Ok.ix hx (Ok.eq (z7 (by omega) hN) (Ok.eq (z7 (by omega) hN) ?_)))
  refine Ok.bind (P:=fun r:List aK=>r.map sp=lf (pg w) (a.map sp) (b.map sp) ((jf xs).take k) []) (Ok.bif (fun hb=>?_) (fun hb=>?_)) (fun r hr=>Ok.nx ⟨bQ (by omega),by omega,by rw [xD];exact hr⟩)
  ·refine Ok.ix hx (Ok.ix hy (Ok.bind (z6 (by omega) hN) (fun r hr=>Ok.ret ?_)))
   rw [hr,hI,hts,xk,aC (show pg w _ _=true from hb)];rfl
  ·refine Ok.ret ?_
   rw [hI,hts,xk,aD (show ¬pg w _ _=true by rw [j4];exact hb)]
 ·rintro⟨out,i⟩ e ⟨hk1,hI⟩
  dsimp only at e hI ⊢
  subst e
  rw [xf (by omega),aM]
  refine Ok.br ?_
  rw [lj (by rw [lS];omega)] at hI
  exact hI
 intro o ho
 exact Ok.cs ho (fun s hs=>Ok.ret hs) (fun r hr=>hr.elim)
def mH (w:Int) (a b:List aH) (y:Int):List (Int×Int):=lf (pg w) (jU a y) (jU b y) (jf (xl (jU a y) (jU b y))) []
theorem CI (a b:List (Int×Int)):Ends a (xl a b)/\Ends b (xl a b):=by
 constructor <;> intro s hs <;> constructor <;> refine wQ.2 (cV.2 ?_)
 ·exact .inl (List.mem_flatMap.2 ⟨s,hs,by simp⟩)
 ·exact .inl (List.mem_flatMap.2 ⟨s,hs,by simp⟩)
 ·exact .inr (List.mem_flatMap.2 ⟨s,hs,by simp⟩)
 ·exact .inr (List.mem_flatMap.2 ⟨s,hs,by simp⟩)
theorem xm {a b:List aH} (ha: ∀r∈a,r.X0<r.X1) (hb: ∀r∈b,r.X0<r.X1) (w y:Int):iC (cU (mH w a b y))/\∀x,hQ (mH w a b y) x=pg w (sR a x y) (sR b x y):=by
 obtain⟨h1,h2⟩:=Ci (fM:=pg w) (G1 w) (a:=jU a y) (b:=jU b y) (xs:=xl (jU a y) (jU b y)) (me _) (CI _ _).1 (CI _ _).2
 exact⟨h1,fun x=>by rw [show hQ (mH w a b y) x=_ from h2 x,(tK ha y).2,(tK hb y).2]⟩
theorem DD (w:Int) (a b:List aH) (y:Int): (mH w a b y).length<=2*a.length+2*b.length:=by
 have h1:=uM (pg w) (jU a y) (jU b y) (jf (xl (jU a y) (jU b y))) []
 have h2:=z8 (jU a y) (jU b y)
 have h3:=qO a y
 have h4:=qO b y
 rw [lS] at h1
 unfold mH
 simp only [List.length_nil] at h1;omega
theorem CJ {a b:List aH} {w:Int} {s:List aA} (hc:dX (s.map bJ)) (hcov: ∀x y,rY (s.map bJ) x y=pg w (sR a x y) (sR b x y)) (hla:a.length<=10000000) (hlb:b.length<=10000000)
  (ha: ∀r∈a,r.X0<r.X1) (hb: ∀r∈b,r.X0<r.X1) (hr: (aQ s).length<=1099511627776) (hN:4398046511104<=N):iQ N a b w=some (aQ s):=by
 refine Ok.get ?_
 unfold iQ
 refine Ok.app (by simp only [List.length_nil];omega) (Ok.app (by rw [List.nil_append];omega) ?_)
 rw [List.nil_append]
 refine Ok.eq (yK (by rw [cQ];omega) hN) ?_
 have hyl:=G0 (a++b)
 rw [cQ] at hyl
 have hyi:=me (ik (a++b))
 have hmy:= @A9 (a++b)
 have hma: ∀r∈a,r.Y0∈jo (ik (a++b))/\r.Y1∈jo (ik (a++b)):=fun r hr=>hmy r (List.mem_append_left _ hr)
 have hmb: ∀r∈b,r.Y0∈jo (ik (a++b))/\r.Y1∈jo (ik (a++b)):=fun r hr=>hmy r (List.mem_append_right _ hr)
 have hf: ∀y,iC (cU (mH w a b y))/\(cU (mH w a b y)).length % 2=0:=fun y=>⟨(xm ha hb w y).1,by rw [iX];omega⟩
 have hfl: ∀y,(cU (mH w a b y)).length<=80000000:=fun y=>by rw [iX];have:=DD w a b y;omega
 obtain⟨b1,b2⟩:=w9 (f:=fun y=>cU (mH w a b y)) hf hyi (fun t ht y h1 h2=>by (try dsimp only);unfold mH;rw [wS hma ht hyi h1 h2,wS hmb ht hyi h1 h2]) (fun y h=>by
  (try dsimp only);unfold mH;rw [A8 hma h,A8 hmb h];rfl)
 have hsame:lh (fun y=>cU (mH w a b y)) (jf (jo (ik (a++b)))) []=s.map bJ:=rn b1 hc fun x y=>by
  rw [hcov];unfold rY;rw [b2,qD (hf y).1,(xm ha hb w y).2]
 clear hmy hma hmb
 generalize jo (ik (a++b))=ys at *
 refine Ok.bind (Ok.qU (n:=max 1 ys.length) (fun s=>s.2) (fun k st=>1<=k/\st.1.map p6=lh (fun y=>cU (mH w a b y)) ((jf ys).take (k - 1)) []) (Go:=fun st=>st.1.map p6=s.map bJ) (Rt:=fun _=>False) ?_ ?_ (k0:=1) (by omega) rfl ⟨bD _,rfl⟩ (by omega)) ?_
 ·rintro k ⟨out,i⟩ hk e ⟨hk1,hI⟩
  dsimp only at e hI ⊢
  subst e
  have hk2:k<ys.length:=by omega
  rw [mN hk2,aO,fW hk1 (by omega)]
  refine Ok.idx (by omega) (Ok.idx hk2 (Ok.idx (by omega) (Ok.idx (by omega) (Ok.bind (DB (by omega) hN) fun r1 hr1=>Ok.bind (DB (by omega) hN) fun r2 hr2=>?_))))
  have l1:r1.length<=10000000:=by have:=qO a (ys[k - 1]'(by omega));rw [<-hr1,cE] at this;omega
  have l2:r2.length<=10000000:=by have:=qO b (ys[k - 1]'(by omega));rw [<-hr2,cE] at this;omega
  refine Ok.bind (G2 l1 l2 hN) fun r hr=>Ok.bind (yN hyi (f:=fun y=>cU (mH w a b y)) hfl (by omega) (by omega) hk1 hk2 hI (by (try dsimp only);rw [hr,hr1,hr2];rfl) hN) fun o ho=>Ok.nx ⟨bQ (by omega),by omega,?_⟩
  rw [xD];exact ho
 ·rintro⟨out,i⟩ e ⟨hk1,hI⟩
  dsimp only at e hI ⊢
  subst e
  rw [xf (by omega),aM]
  refine Ok.br ?_
  rw [lj (by rw [lS];omega),hsame] at hI
  exact hI
 intro o ho
 refine Ok.cs ho (fun st hs=>?_) (fun r hr=>hr.elim)
 have e:=wR hs
 obtain⟨s1,s2⟩:=oH (f:=fun y=>cU (mH w a b y)) hfl (jf ys) [] (fun c hc=>by cases hc)
 refine Ok.eq (EB (l:=st.1) ?_ ?_ (by rw [e];exact hr) hN) (Ok.ret e)
 ·have: (st.1.map p6).length<=ys.length:=by rw [hs,<-hsame];have:=lS ys;simp only [List.length_nil] at s2;omega
  rw [cE] at this;omega
 ·intro b hb
  have h3:=s1 (p6 b) (by rw [hsame,<-hs];exact cP.2 ⟨b,hb,rfl⟩)
  have h4: (p6 b).xs.length=2*b.kb.length:=by unfold p6;rw [iX,cE]
  omega
theorem Ba (n:Int):cN N n=some (kx n):=rfl
theorem yO {l:List aH} (hl:l.length<=1099511627776) (hN:4398046511104<=N):jY N l=some (kq l):=by
 refine Ok.get ?_
 unfold jY kq
 by_cases h:2000<l.length
 ·rw [bB (by omega),aO,aC h];exact Ok.ret rfl
 ·rw [bF (by omega),aM,aD h]
  refine Ok.bind (Ok.qU (n:=l.length) (fun s=>s) (fun k s=>∀(j:Nat) x,j<k->l[j]? =some x->jQ x=none) (Go:=fun s=>l.findSome? jQ=none) (Rt:=fun r=>l.findSome? jQ=some r) ?_ ?_ (eN _) rfl (fun j x hj=>by omega) (by omega)) ?_
  ·rintro k i hk e hI
   subst e
   rw [mN hk,aO]
   have hx:l[k]? =some l[k]:=aL hk
   have hrt: ∀c,jQ l[k]=some c->l.findSome? jQ=some c:=fun c hc=>by
    rw [List.findSome?_eq_some_iff]
    refine⟨l.take k,l[k],l.drop (k+1),?_,hc,fun x hx'=>?_⟩
    ·rw [List.getElem_cons_drop,List.take_append_drop]
    ·obtain⟨j,hj⟩:=dF hx'
     have hjk:j<k:=by have:=(aU.1 hj).1;rw [cF] at this;omega
     exact hI j x hjk (by rw [List.getElem?_take_of_lt hjk] at hj;exact hj)
   refine Ok.ix hx ?_
   have hb: ((cN N l[k].X0).bind fun x110=>bif (!x110) then (some true) else ((cN N l[k].Y0).bind fun x112=>bif (!x112) then (some true) else ((cN N l[k].X1).bind fun x114=>bif (!x114) then (some true) else ((cN N l[k].Y1).bind fun x116=>some (!x116)))))=some (!eP l[k]):=by
    rw [Ba,Ba,Ba,Ba]
    unfold eP
    simp only [aB]
    cases kx l[k].X0 <;> cases kx l[k].Y0 <;> cases kx l[k].X1 <;> rfl
   refine Ok.eq hb (Ok.bif (fun h1=>Ok.rt (hrt 1 ?_)) (fun h1=>Ok.bif (fun h2=>Ok.rt (hrt 13 ?_)) (fun h2=>Ok.nx ⟨bQ (by omega),fun j x hj hjx=>?_⟩)))
   ·unfold jQ;rw [aD (by rw [j4];simpa using h1)]
   ·unfold jQ
    rw [aC (by simpa using h1),aC (by rw [dB,bE,bE] at h2;exact h2)]
   ·by_cases e:j=k
    ·subst e;rw [hx] at hjx;injection hjx with hjx;rw [<-hjx]
     unfold jQ
     rw [aC (by simpa using h1),aD (by rw [<-j4,dB,bE,bE] at h2;exact h2)]
    ·exact hI j x (by omega) hjx
  ·rintro i e hI
   subst e
   rw [pz,aM]
   refine Ok.br ?_
   rw [List.findSome?_eq_none_iff]
   intro x hx
   obtain⟨j,hj⟩:=dF hx
   exact hI j x (aU.1 hj).1 hj
  intro o ho
  exact Ok.cs ho (fun s hs=>Ok.ret (by rw [hs];rfl)) (fun r hr=>Ok.ret (by rw [hr];rfl))
theorem DE {l:List aH} {s:List aA} (hs:qI l s):yD l↔aQ s=l:=⟨fun⟨t,h1,h2⟩=>by rw [hs.unique h1];exact h2,fun h=>⟨s,hs,h⟩⟩
theorem rO {l:List aH} (hl:l.length<=1073741824) (hN:4398046511104<=N):gN N l=some (iS l):=by
 refine Ok.get ?_
 unfold gN
 refine Ok.eq (yO (by omega) hN) ?_
 unfold iS
 refine Ok.bif (fun h=>Ok.ret ?_) (fun h=>?_)
 ·rw [aC (by simpa using h)]
 ·have h0:kq l=0:=by simpa using h
  rw [aD (by simpa using h0)]
  obtain⟨hlen,hok⟩:=A0 h0
  have hbf: ∀a b:aH,(((decide (a.Y0<b.Y0))||((a.Y0==b.Y0)&&(decide (a.X0<b.X0))))=true)↔¬(b.Y0<a.Y0\/(b.Y0=a.Y0/\b.X0<=a.X0)):=fun a b=>by
   rw [dB,bL,bE,bE,beq_iff_eq];omega
  refine Ok.bind (Ok.iY (Go:=fun _=>I8 l) (Rt:=fun r=>r=8/\¬I8 l) (fun s=>∃k:Nat,s= ((k:Nat):Int)/\1<=k/\∀(j:Nat) a b,j+1<k->l[j]? =some a->l[j+1]? =some b->¬(b.Y0<a.Y0\/(b.Y0=a.Y0/\b.X0<=a.X0))) (fun s=>l.length - s.toNat) ?_ ⟨1,rfl,bD _,fun j a b hj=>by omega⟩ (by simp;omega)) ?_
  ·rintro s ⟨k,rfl,hk,hI⟩
   refine Ok.bif (fun h=>?_) (fun h=>Ok.br fun j a b ha hb=>hI j a b ?_ ha hb)
   ·have hk2:k<l.length:=by have:=of_decide_eq_true h;omega
    rw [fW hk (by omega)]
    have hx:l[k - 1]? =some (l[k - 1]'(by omega)):=aL _
    have hy:l[k]? =some l[k]:=aL hk2
    refine Ok.ix hx (Ok.ix hy ?_)
    unfold jK
    rw [aB]
    refine Ok.bif (fun hb=>Ok.rt ⟨rfl,fun hu=>?_⟩) (fun hb=>Ok.nx ⟨⟨k+1,by rw [bQ (by omega)],by omega,fun j a b hj ha hb'=>?_⟩,by rw [bQ (by omega)];simp only [cA];omega⟩)
    ·have:=(hbf _ _).2 (hu (k - 1) _ _ hx (by rw [show k - 1+1=k by omega];exact hy))
     rw [this] at hb;cases hb
    ·by_cases e:j+1<k
     ·exact hI j a b e ha hb'
     ·have:j+1=k:=by omega
      have h1:l[k - 1]? =some a:=by rw [show k - 1=j by omega];exact ha
      have h2:l[k]? =some b:=by rw [<-this];exact hb'
      rw [hx] at h1;rw [hy] at h2
      injection h1 with h1;injection h2 with h2
      rw [<-h1,<-h2]
      refine(hbf _ _).1 ?_
      rw [Bool.not_eq_false'] at hb
      exact hb
   ·have:=of_decide_eq_false h
    have:=(aU.1 hb).1;omega
  ·rintro o ho
   refine Ok.cs ho (fun s hu=>?_) (fun r hr=>Ok.ret (by rw [hr.1,aD hr.2]))
   rw [aC hu]
   obtain⟨s,_,hs⟩:=nG (N:=N) (l:=l) (by omega) hok (by omega)
   obtain⟨z1,z2,z3⟩:=hs.Ct
   have z4:2*l.length* (2*l.length)<=4000*4000:=Nat.mul_le_mul (by omega) (by omega)
   refine Ok.eq (rC hs.can hs.cover (by omega) (fun r hr=>(hok r hr).x) (by omega) hN) (Ok.eq (A6 (by omega) hN) ?_)
   have hiff:=DE hs
   refine Ok.bif (fun h=>Ok.ret ?_) (fun h=>Ok.ret ?_)
   ·have h: ¬l=aQ s:=by simpa using h
    rw [aD (fun h'=>h (hiff.1 h').symm)]
   ·have h:l=aQ s:=by simpa using h
    rw [aC (hiff.2 h.symm)]
end
end Go.Gk
namespace Go.Gk
open Go Classical
theorem yP (n:Nat) (g:Nat->Nat): ((List.range (n+1)).map g).sum= ((List.range n).map g).sum+g n:=by
 rw [List.range_succ,dD,List.sum_append];simp
def K3 (r:aH) (x y:Int):Bool:=(decide (r.X0<=x)&&decide (x<r.X1))&&(decide (r.Y0<=y)&&decide (y<r.Y1))
def KU (a b:aH):Prop:=∀x y,¬(K3 a x y=true/\K3 b x y=true)
theorem HU {r:aH} {x y:Int}:K3 r x y=true↔(r.X0<=x/\x<r.X1)/\r.Y0<=y/\y<r.Y1:=by unfold K3;simp
theorem v5: ∀{xs:List Int},iC xs->(yo xs).Pairwise (fun p q=>p.2<q.1)
 | [],_=>jh
 | [a],_=>jh
 | a::b::l,h=>by
  unfold yo
  rw [mO]
  exact⟨fun q hq=>h.tail.head q.1 (AU q hq).1,v5 h.tail.tail⟩
def ph (a b:aH):Prop:=a.Y1<=b.Y0\/(a.Y0=b.Y0/\a.Y1=b.Y1/\a.X1<b.X0)
theorem ph.apart {a b:aH} (h:ph a b):KU a b:=fun x y ⟨h1,h2⟩=>by
 rw [HU] at h1 h2
 rcases h with h | h <;> omega
theorem oI: ∀{s:List aA},dX (s.map bJ)->(aQ s).Pairwise ph
 | [],_=>jh
 | b::s,h=>by
  rw [lO,lT]
  refine⟨?_,oI h.tail,fun x hx y hy=>?_⟩
  ·unfold lN
   rw [List.pairwise_map]
   exact List.Pairwise.imp (fun hpq=> .inr ⟨rfl,rfl,hpq⟩) (v5 (h.each (bJ b) (by simp)).2.2.1)
  ·unfold lN at hx
   obtain⟨p,_,rfl⟩:=cP.1 hx
   obtain⟨c,hc,q,_,rfl⟩:=oN hy
   exact .inl (h.yj (bJ c) (cP.2 ⟨c,hc,rfl⟩))
theorem qP {s:List aA} (h:dX (s.map bJ)): ∀r∈aQ s,r.X0<r.X1/\r.Y0<r.Y1:=fun r hr=>by
 obtain⟨b,hb,p,hp,rfl⟩:=oN hr
 have hc:=h.each (bJ b) (cP.2 ⟨b,hb,rfl⟩)
 exact⟨Dm hc.2.2.1 p hp,hc.1⟩
theorem CK {s:List aA} (h:dX (s.map bJ)): (aQ s).Nodup:=by
 have h1:=oI h
 have h2:=qP h
 refine List.Pairwise.imp_of_mem (fun{a b} ha hb hab e=>?_) h1
 subst e
 have:=h2 a ha
 rcases hab with h | h <;> omega
def oh (s:List Bd):Nat:=(s.map (fun b=>b.xs.length / 2)).sum
theorem te (s t:List Bd):oh (s++t)=oh s+oh t:=by unfold oh;rw [dD,List.sum_append]
theorem Fv (s:List Bd) (b:Bd):oh (iD s b)<=oh s+b.xs.length / 2:=by
 unfold iD
 split
 ·omega
 ·split
  ·rename_i c hc
   have hsp:=o6 hc
   have e:oh s=oh s.dropLast+c.xs.length / 2:=by
    conv=>lhs;rw [hsp,te]
    simp [oh]
   split
   ·rw [te,e];simp [oh]
   ·rw [te];simp [oh]
  ·simp [oh]
structure L4 (t:List Bd):Prop where
 each: ∀b∈t,b.y0<b.y1/\iC b.xs/\b.xs.length % 2=0
 ord:t.Pairwise (fun b c=>b.y1<=c.y0)
theorem fold_push: ∀(t out:List Bd),L4 t->dX out->(∀c∈out,∀b∈t,c.y1<=b.y0)->dX (t.foldl iD out)/\oh (t.foldl iD out)<=oh out+oh t/\
  ∀y,rowAt (t.foldl iD out) y=if (∃b∈t,b.y0<=y/\y<b.y1) then rowAt t y else rowAt out y
 | [],out,_,hc,_=>⟨hc,by simp [oh],fun y=>by simp⟩
 | b::t,out,hl,hc,ho=>by
  have hb:=hl.each b (by simp)
  have hord:=mO.1 hl.ord
  have ho1: ∀c∈out,c.y1<=b.y0:=fun c h=>ho c h b (by simp)
  have h1:=tA hc ho1 hb.2.1 hb.2.2
  have htop:=tB ho1 (show b.y0<=b.y1 by omega)
  obtain⟨f1,f2,f3⟩:=fold_push t (iD out b) ⟨fun c hcm=>hl.each c (f0 _ hcm),hord.2⟩ h1 (fun c hcm d hd=>by have:=htop c hcm;have:=hord.1 d hd;omega)
  refine⟨f1,?_,fun y=>?_⟩
  ·have:=Fv out b
   have e:oh (b::t)=b.xs.length / 2+oh t:=by simp [oh]
   rw [List.foldl_cons,e];omega
  ·rw [List.foldl_cons,f3 y,tz ho1 (fun c hcm=>(hc.each c hcm).1) (fun h=>absurd h (by omega)),lL]
   by_cases hy:b.y0<=y/\y<b.y1
   ·have hn: ¬∃c∈t,c.y0<=y/\y<c.y1:=fun⟨c,hcm,h⟩=>by have:=hord.1 c hcm;omega
    rw [aD hn,aC hy,aC ⟨b,by simp,hy⟩,aC hy]
   ·rw [aD hy]
    by_cases h: ∃c∈t,c.y0<=y/\y<c.y1
    ·obtain⟨c,hcm,h⟩:=h
     rw [aC ⟨c,hcm,h⟩,aC ⟨c,f0 _ hcm,h⟩,aD hy]
    ·rw [aD h,aD hy,aD (show ¬∃c∈b::t,c.y0<=y/\y<c.y1 from fun⟨c,hcm,h2⟩=>by
      rcases cW.1 hcm with rfl | hcm
      ·exact hy h2
      ·exact h ⟨c,hcm,h2⟩)]
noncomputable def oy (C:List aH) (b:aA):Bd:=⟨b.Y0,b.Y1,cU ((yo b.Xs).filter (fun p=>decide ((⟨p.1,b.Y0,p.2,b.Y1⟩:aH)∈C)))⟩
theorem Fw {l m:List (Int×Int)} (h:l.Sublist m): (cU l).Sublist (cU m):=by
 induction h with
 | slnil=>exact List.Sublist.refl _
 | cons a _ ih=>rw [hU];exact(ih.cons _).cons _
 | cons_cons a _ ih=>rw [hU,hU];exact(ih.cons_cons _).cons_cons _
theorem yQ (l:List (Int×Int)): (cU l).length % 2=0/\(cU l).length / 2=l.length:=by rw [iX];omega
theorem z9 {s p:List aA} {C:List aH} (hs:dX (s.map bJ)) (hp:dX (p.map bJ)) (hC: ∀r∈C,r∈aQ s) (hcov: ∀x y,rY (p.map bJ) x y=sR C x y): (aQ p).length<=C.length:=by
 have hinc: ∀b∈s,iC (oy C b).xs:=fun b hb=>by
  have h1:=Et hs b hb
  have h2:=Fw (List.filter_sublist (l:=yo b.Xs) (p:=fun p=>decide ((⟨p.1,b.Y0,p.2,b.Y1⟩:aH)∈C)))
  rw [vH (qK hs b hb)] at h2
  exact List.Pairwise.sublist h2 h1
 have hlow:L4 (s.map (oy C)):=by
  refine⟨fun b hb=>?_,?_⟩
  ·obtain⟨c,hc,rfl⟩:=cP.1 hb
   exact⟨(hs.each (bJ c) (cP.2 ⟨c,hc,rfl⟩)).1,hinc c hc,(yQ _).1⟩
  ·have:=hs.ord
   rw [List.pairwise_map] at this ⊢
   exact List.Pairwise.imp (fun h=>h.1) this
 obtain⟨f1,f2,f3⟩:=fold_push (s.map (oy C)) [] hlow dX.nil (fun c hc=>by cases hc)
 have hrow: ∀{t:List aA},(∀b∈t,b∈s)->∀x y,nA (rowAt (t.map (oy C)) y) x=true->sR C x y=true:=by
  intro t ht x y h
  induction t with
  | nil=>cases h
  | cons b t ih=>
   rw [dA,lL] at h
   split at h
   ·rename_i hy
    have hbm:=ht b (by simp)
    have h1:=hinc b hbm
    have h:nA (cU ((yo b.Xs).filter (fun p=>decide ((⟨p.1,b.Y0,p.2,b.Y1⟩:aH)∈C)))) x=true:=h
    rw [qD h1,qC] at h
    obtain⟨q,hq,h2⟩:=h
    have hq:=iN.1 hq
    exact ij.2 ⟨_,of_decide_eq_true hq.2,h2,hy⟩
   ·exact ih (fun c hc=>ht c (f0 _ hc)) h
 have hrow2: ∀x y,sR C x y=true->nA (rowAt (s.map (oy C)) y) x=true:=by
  intro x y h
  obtain⟨r,hr,h1,h2⟩:=ij.1 h
  obtain⟨b,hb,q,hq,rfl⟩:=oN (hC r hr)
  dsimp only at h1 h2
  have key: ∀{t:List aA},(∀c∈t,c∈s)->dX (t.map bJ)->b∈t->rowAt (t.map (oy C)) y= (oy C b).xs:=by
   intro t ht hc hbt
   induction t with
   | nil=>cases hbt
   | cons c t ih=>
    rw [dA,lL]
    by_cases hy:c.Y0<=y/\y<c.Y1
    ·rw [aC (show (oy C c).y0<=y/\y< (oy C c).y1 from hy)]
     rcases cW.1 hbt with rfl | hbt
     ·rfl
     ·have:=hc.yj (bJ b) (cP.2 ⟨b,hbt,rfl⟩)
      have e1: (bJ c).y1=c.Y1:=rfl
      have e2: (bJ b).y0=b.Y0:=rfl
      omega
    ·rw [aD (show ¬((oy C c).y0<=y/\y< (oy C c).y1) from hy)]
     rcases cW.1 hbt with rfl | hbt
     ·exact absurd h2 hy
     ·exact ih (fun d hd=>ht d (f0 _ hd)) hc.tail hbt
  rw [key (fun c hc=>hc) hs hb]
  have h1':=hinc b hb
  show nA (cU ((yo b.Xs).filter (fun p=>decide ((⟨p.1,b.Y0,p.2,b.Y1⟩:aH)∈C)))) x=true
  rw [qD h1',qC]
  exact⟨q,iN.2 ⟨hq,bB hr⟩,h1⟩
 have hsame:p.map bJ= (s.map (oy C)).foldl iD []:=rn hp f1 fun x y=>by
  rw [hcov,dZ]
  have e:rowAt ((s.map (oy C)).foldl iD []) y=rowAt (s.map (oy C)) y:=by
   rw [f3]
   by_cases h: ∃b∈s.map (oy C),b.y0<=y/\y<b.y1
   ·rw [aC h]
   ·rw [aD h]
    exact(kL fun b hb=>by
     have: ¬(b.y0<=y/\y<b.y1):=fun h2=>h ⟨b,hb,h2⟩
     omega).symm
  unfold rY
  rw [e]
  exact⟨hrow2 x y,hrow (fun b hb=>hb) x y⟩
 have hc1: (aQ p).length=oh (p.map bJ):=by
  have: ∀p:List aA,(aQ p).length=oh (p.map bJ):=fun p=>by
   induction p with
   | nil=>rfl
   | cons b p ih=>rw [lO,cQ,ma,ih];unfold oh;rw [dA,dA,List.sum_cons];rfl
  exact this p
 have hc2: ∀s:List aA,oh (s.map (oy C))= ((aQ s).filter (fun r=>decide (r∈C))).length:=fun s=>by
  induction s with
  | nil=>rfl
  | cons b s ih=>
   rw [lO,iO,cQ,<-ih]
   unfold oh
   rw [dA,dA,List.sum_cons]
   congr 1
   show (cU _).length / 2=_
   rw [(yQ _).2]
   unfold lN
   rw [List.filter_map,cE];rfl
 have hc3: ((aQ s).filter (fun r=>decide (r∈C))).length<=C.length:=eC (List.Nodup.sublist List.filter_sublist (CK hs)) fun r hr=>of_decide_eq_true (iN.1 hr).2
 rw [hc1,hsame]
 have e0:oh ([]:List Bd)=0:=rfl
 have:=hc2 s
 omega
end Go.Gk
namespace Go.Gk
open Go Classical
section
variable {N:Nat}
theorem HV (hN:16<=N):eB N=some true:=by
 have:=Ff (N:=N - 16)
 rwa [show N - 16+16=N by omega] at this
theorem ui {all:List aH} (w:aH->Nat): ∀(c:List Nat),((c.filterMap (fun i=>all[i]?)).map w).sum= (c.map (fun i=>(all[i]?).elim 0 w)).sum
 | []=>rfl
 | i::c=>by
  rw [dA,List.sum_cons,<-ui w c]
  cases h:all[i]? with
  | none=>rw [List.filterMap_cons_none (f:=fun i=>all[i]?) h];simp
  | some x=>rw [List.filterMap_cons_some (f:=fun i=>all[i]?) h,dA,List.sum_cons];rfl
theorem HW {all:List aH} {u:Nat->Nat} (h: ∀i,i<all.length->u i∈bI all.length u) (w:aH->Nat): ((bI all.length u).map (fun k=>((mu all all.length u k).map w).sum)).sum= (all.map w).sum:=by
 have e: (fun k=>((mu all all.length u k).map w).sum)=fun k=>(((List.range all.length).filter (fun x=>decide (u x=k))).map (fun i=>(all[i]?).elim 0 w)).sum:=by
  funext k;unfold mu;rw [ui];rfl
 rw [e,CC (mM _ _) u _ (fun x hx=>h x (my.1 hx))]
 have: ∀m,m<=all.length->((List.range m).map (fun i=>(all[i]?).elim 0 w)).sum= ((all.take m).map w).sum:=by
  intro m
  induction m with
  | zero=>intro _;rfl
  | succ m ih=>
   intro hm
   rw [yP,ih (by omega),dT (by omega),dD,List.sum_append,aL (by omega)]
   simp
 rw [this _ (bD _),eE]
theorem yR: ∀{l m:List Nat},l.length=m.length->(∀(j x y:Nat),l[j]? =some x->m[j]? =some y->x<=y)->l.sum<=m.sum
 | [],[],_,_=>bD _
 | [],_::_,h,_=>by simp at h
 | _::_,[],h,_=>by simp at h
 | a::l,b::m,h,hle=>by
  have h1:=hle 0 a b rfl rfl
  have h2:=yR (l:=l) (m:=m) (by simpa using h) fun j x y hx hy=>hle (j+1) x y (by simpa using hx) (by simpa using hy)
  rw [List.sum_cons,List.sum_cons];omega
theorem EC {r hs:List aH} {s:List aA} (h1: ∀x∈r,eP x=true) (h2: ∀x∈hs,eP x=true) (hc:dX (s.map bJ)) (hl:uQ (qG r++qG hs) (ik r++ik hs) (s.map bJ)): ∀q∈aQ s,eP q=true/\q.X0<q.X1/\q.Y0<q.Y1:=by
 intro q hq
 have hp:=qP hc q hq
 obtain⟨b,hb,p,hpm,rfl⟩:=oN hq
 have hll:=hl (bJ b) (cP.2 ⟨b,hb,rfl⟩)
 have hm:=AU p hpm
 have bx: ∀c∈qG r++qG hs,-1000000<=c/\c<=1000000:=fun c hcm=>by
  rcases cV.1 hcm with h | h
  ·obtain⟨x,hx,h⟩:=qH.1 h
   have:=lQ (h1 x hx)
   rcases h with rfl | rfl <;> omega
  ·obtain⟨x,hx,h⟩:=qH.1 h
   have:=lQ (h2 x hx)
   rcases h with rfl | rfl <;> omega
 have by': ∀c∈ik r++ik hs,-1000000<=c/\c<=1000000:=fun c hcm=>by
  rcases cV.1 hcm with h | h
  ·obtain⟨x,hx,h⟩:=kp.1 h
   have:=lQ (h1 x hx)
   rcases h with rfl | rfl <;> omega
  ·obtain⟨x,hx,h⟩:=kp.1 h
   have:=lQ (h2 x hx)
   rcases h with rfl | rfl <;> omega
 have g1:=bx _ (hll.2.2 p.1 hm.1)
 have g2:=bx _ (hll.2.2 p.2 hm.2)
 have g3:=by' _ hll.1
 have g4:=by' _ hll.2.1
 exact⟨yC ⟨g1,g3,g2,g4⟩,hp⟩
structure pj (r hs:List aH) (s:List aA) (u:Nat->Nat) (ps:List (List aA)):Prop where
 r1: ∀x∈r,eP x=true
 r2: ∀x∈hs,eP x=true
 k1: ∀x∈r,zQ x
 k2: ∀x∈hs,zQ x
 dr:ru r hs s
 pt:pM s u ps
 xB: (aQ s).length<=2000
theorem pj.part {r hs:List aH} {s:List aA} {u:Nat->Nat} {ps:List (List aA)} (h:pj r hs s u ps) {p:List aA} (hp:p∈ps):dX (p.map bJ)/\(aQ p).length<=2000/\∀q∈aQ p,eP q=true/\q.X0<q.X1/\q.Y0<q.Y1:=by
 obtain⟨sx,sy⟩:=h.dr.small h.k1 h.k2
 obtain⟨j,k,g1,g2,g3,g4⟩:=yG h.pt h.dr.can h.dr.lim sx sy hp
 have:=z9 h.dr.can g3.can (fun x hx=>by
  obtain⟨i,_,_,hi⟩:=kT.1 hx
  exact dU hi) g3.cover
 have h2:=yy (aQ s) (aQ s).length u k
 have:=h.xB
 exact⟨g3.can,by omega,EC h.r1 h.r2 g3.can g4⟩
theorem pj.bI {r hs:List aH} {s:List aA} {u:Nat->Nat} {ps:List (List aA)} (h:pj r hs s u ps): ∀i,i< (aQ s).length->u i∈Gk.bI (aQ s).length u:=fun i hi=>iE.2 ⟨by have:=h.pt.join.le i hi;omega,h.pt.join.rr i hi⟩
theorem pj.total {r hs:List aH} {s:List aA} {u:Nat->Nat} {ps:List (List aA)} (h:pj r hs s u ps): (ps.map (fun p=>(aQ p).length)).sum<=(aQ s).length:=by
 have h1:=HW h.bI (fun _=>1)
 have one: ∀l:List aH,(l.map (fun _=>1)).sum=l.length:=fun l=>by
  induction l with
  | nil=>rfl
  | cons x l ih=>simp only [dA,List.sum_cons,ih,dE];omega
 simp only [one] at h1
 rw [<-h1]
 refine yR (by simp [h.pt.len]) fun j x y hx hy=>?_
 rw [dV,Option.map_eq_some_iff] at hx hy
 obtain⟨p,hp,rfl⟩:=hx
 obtain⟨k,hk,rfl⟩:=hy
 have hs:=h.pt.each j k p hk hp
 exact z9 h.dr.can hs.can (fun x hx=>by
  obtain⟨i,_,_,hi⟩:=kT.1 hx
  exact dU hi) hs.cover
theorem CL {ps:List (List aA)} {x y:Int}:sR (ps.flatMap aQ) x y=true↔∃p∈ps,sR (aQ p) x y=true:=by
 rw [ij]
 constructor
 ·rintro⟨r,hr,h⟩
  obtain⟨p,hp,hrp⟩:=List.mem_flatMap.1 hr
  exact⟨p,hp,ij.2 ⟨r,hrp,h⟩⟩
 ·rintro⟨p,hp,h⟩
  obtain⟨r,hr,h⟩:=ij.1 h
  exact⟨r,List.mem_flatMap.2 ⟨p,hp,hr⟩,h⟩
theorem pj.cover {r hs:List aH} {s:List aA} {u:Nat->Nat} {ps:List (List aA)} (h:pj r hs s u ps) (x y:Int):sR (ps.flatMap aQ) x y=rY (s.map bJ) x y:=by
 rw [<-nH h.dr.can,dZ,CL]
 constructor
 ·rintro⟨p,hp,hc⟩
  obtain⟨j,hj⟩:=dF hp
  have hjl:=(aU.1 hj).1
  have hk: (Gk.bI (aQ s).length u)[j]? =some ((Gk.bI (aQ s).length u)[j]'(by rw [<-h.pt.len];exact hjl)):=aL _
  have hs:=h.pt.each j _ _ hk hj
  rw [nH hs.can,hs.cover] at hc
  obtain⟨q,hq,h2⟩:=ij.1 hc
  obtain⟨i,_,_,hi⟩:=kT.1 hq
  exact ij.2 ⟨q,dU hi,h2⟩
 ·intro hc
  obtain⟨q,hq,h2⟩:=ij.1 hc
  obtain⟨i,hi⟩:=dF hq
  have hil:=(aU.1 hi).1
  obtain⟨j,hj⟩:=dF (h.bI i hil)
  have hjl:j<ps.length:=by rw [h.pt.len];exact(aU.1 hj).1
  have hs:=h.pt.each j _ _ hj (aL hjl)
  refine⟨_,cJ hjl,?_⟩
  rw [nH hs.can,hs.cover]
  exact ij.2 ⟨q,kT.2 ⟨i,hil,rfl,hi⟩,h2⟩
section
variable {a:iM} {ky:List (List aA)} {bV:List (List (List aA))} {r:Nat->Nat} {gs:List dI} {ofP ofB nr:List Int} {nJ:List bX}
end
end
end Go.Gk
namespace Go.Gk
open Go Classical
def yS (a b:aH):Prop:=(0<min a.X1 b.X1 - max a.X0 b.X0/\0<=min a.Y1 b.Y1 - max a.Y0 b.Y0)\/(0<=min a.X1 b.X1 - max a.X0 b.X0/\0<min a.Y1 b.Y1 - max a.Y0 b.Y0)
theorem Fx {all:List aH} (hB:all.Pairwise ph) (hp: ∀r∈all,r.X0<r.X1/\r.Y0<r.Y1) {i j:Nat} {a c:aH} (ha:all[i]? =some a) (hc:all[j]? =some c):yS a c↔i=j\/wh all i j\/wh all j i:=by
 have h1:wh all i j↔AZ a c:=⟨fun⟨a',c',e1,e2,h⟩=>by rw [ha] at e1;rw [hc] at e2;injection e1 with e1;injection e2 with e2;rw [e1,e2];exact h,fun h=>⟨a,c,ha,hc,h⟩⟩
 have h2:wh all j i↔AZ c a:=⟨fun⟨a',c',e1,e2,h⟩=>by rw [hc] at e1;rw [ha] at e2;injection e1 with e1;injection e2 with e2;rw [e1,e2];exact h,fun h=>⟨c,a,hc,ha,h⟩⟩
 have p1:=hp a (dU ha)
 have p2:=hp c (dU hc)
 rw [h1,h2]
 obtain⟨l1,e1⟩:=aU.1 ha
 obtain⟨l2,e2⟩:=aU.1 hc
 unfold yS AZ
 rcases Nat.lt_trichotomy i j with h | h | h
 ·have:=kA.1 hB i j l1 l2 h
  rw [e1,e2] at this
  unfold ph at this
  rcases this with this | this
  ·constructor
   ·rintro(h3 | h3)
    ·exact .inr (.inl ⟨by omega,by omega,by omega⟩)
    ·omega
   ·rintro(h3 | h3 | h3)
    ·omega
    ·left;omega
    ·omega
  ·constructor
   ·rintro(h3 | h3) <;> omega
   ·rintro(h3 | h3 | h3) <;> omega
 ·subst h
  rw [ha] at hc;injection hc with hc;subst hc
  exact⟨fun _=> .inl rfl,fun _=> .inl (by omega)⟩
 ·have:=kA.1 hB j i l2 l1 h
  rw [e1,e2] at this
  unfold ph at this
  rcases this with this | this
  ·constructor
   ·rintro(h3 | h3)
    ·exact .inr (.inr ⟨by omega,by omega,by omega⟩)
    ·omega
   ·rintro(h3 | h3 | h3)
    ·omega
    ·omega
    ·left;omega
  ·constructor
   ·rintro(h3 | h3) <;> omega
   ·rintro(h3 | h3 | h3) <;> omega
theorem DF {α:Type} {q q':List α} (h:q <+:q') {t:Nat} {x:α} (hx:q[t]? =some x):q'[t]? =some x:=by
 obtain⟨r,rfl⟩:=h
 rw [fz (aU.1 hx).1];exact hx
def rD (f:Int->Int->Bool) (x y:Int):Prop:=f x y=true/\∀x' y',f x' y'=true->y<y'\/(y=y'/\x<=x')
theorem rD.unique {f:Int->Int->Bool} {x y x' y':Int} (h:rD f x y) (h':rD f x' y'):x=x'/\y=y':=by
 have h1:=h.2 _ _ h'.1
 have h2:=h'.2 _ _ h.1
 omega
theorem DG {a:aH} {l:List aH} (hp: ∀r∈a::l,r.X0<r.X1/\r.Y0<r.Y1) (hB: ∀r∈l,ph a r):rD (sR (a::l)) a.X0 a.Y0:=by
 have pa:=hp a (by simp)
 refine⟨ij.2 ⟨a,by simp,by omega,by omega⟩,fun x' y' h=>?_⟩
 obtain⟨r,hr,hx,hy⟩:=ij.1 h
 rcases cW.1 hr with rfl | hr
 ·omega
 ·have:=hB r hr
  unfold ph at this
  omega
theorem DH {s:List aA} (hc:dX (s.map bJ)) (hne:s≠[]): ∃r t,aQ s=r::t/\rD (fun x y=>rY (s.map bJ) x y) r.X0 r.Y0/\Ez s= ⟨r.X0,r.Y0⟩:=by
 cases s with
 | nil=>exact absurd rfl hne
 | cons b s=>
  have hx:=hc.each (bJ b) (by simp)
  have hxs:b.Xs≠[]:=hx.2.1
  have he:b.Xs.length % 2=0:=hx.2.2.2
  obtain⟨x0,x1,xs,e⟩: ∃x0 x1 xs,b.Xs=x0::x1::xs:=by
   match hb:b.Xs with
   | []=>exact absurd hb hxs
   | [x0]=>rw [hb] at he;simp at he
   | x0::x1::xs=>exact⟨x0,x1,xs,rfl⟩
  have hr:aQ (b::s)= ⟨x0,b.Y0,x1,b.Y1⟩::((yo xs).map (fun p=>(⟨p.1,b.Y0,p.2,b.Y1⟩:aH))++aQ s):=by
   rw [lO]
   unfold lN
   rw [e];rfl
  have hB:=oI hc
  have hpos:=qP hc
  rw [hr] at hB hpos
  refine⟨_,_,hr,?_,by unfold Ez;dsimp only;rw [e];rfl⟩
  have:=DG hpos (mO.1 hB).1
  rw [<-hr] at this
  refine⟨?_,fun x' y' h=>this.2 x' y' ?_⟩
  ·show rY _ _ _=true
   rw [<-nH hc];exact this.1
  ·rw [nH hc];exact h
theorem Aa {all:List aH} {u:Nat->Nat} (hB:all.Pairwise ph) (hp: ∀r∈all,r.X0<r.X1/\r.Y0<r.Y1) (hJ:Joined all u) {h:Nat} {a:aH} (ha:all[h]? =some a) (hu:u h=h):rD (sR (mu all all.length u h)) a.X0 a.Y0:=by
 obtain⟨hl,e⟩:=aU.1 ha
 have pa:=hp a (dU ha)
 refine⟨ij.2 ⟨a,kT.2 ⟨h,hl,hu,ha⟩,by omega,by omega⟩,fun x' y' hc=>?_⟩
 obtain⟨r,hr,hx,hy⟩:=ij.1 hc
 obtain⟨k,hk,huk,hrk⟩:=kT.1 hr
 have hle:=hJ.le k hk
 by_cases ek:k=h
 ·subst ek;rw [ha] at hrk;injection hrk with hrk;subst hrk;omega
 ·obtain⟨hl2,e2⟩:=aU.1 hrk
  have:=kA.1 hB h k hl hl2 (by omega)
  rw [e,e2] at this
  unfold ph at this
  omega
theorem rE {u:Nat->Nat}: ∀(d i:Nat),∃t,bI (i+d) u=bI i u++t
 | 0,i=>⟨[],by simp⟩
 | d+1,i=>by
  obtain⟨t,ht⟩:=rE (u:=u) d i
  rw [<-Nat.add_assoc,gI,ht]
  split
  ·exact⟨t++[i+d],by simp⟩
  ·exact⟨t,rfl⟩
theorem G3 {u:Nat->Nat} {i n:Nat} (hi:i<n) (hu:u i=i): (bI n u)[(bI i u).length]? =some i:=by
 obtain⟨t,ht⟩:=rE (u:=u) (n - (i+1)) (i+1)
 rw [show i+1+ (n - (i+1))=n by omega] at ht
 rw [ht,gI,aC hu]
 simp
section
variable {N:Nat}
theorem Fy {a b:aH} (ha:zQ a) (hb:zQ b):j6 N a b=some (decide (yS a b)):=by
 have a1:=ha.s1;have a2:=ha.s2;have a3:=ha.s3;have a4:=ha.s4
 have b1:=hb.s1;have b2:=hb.s2;have b3:=hb.s3;have b4:=hb.s4
 unfold small at a1 a2 a3 a4 b1 b2 b3 b4
 unfold j6
 rw [vX,vX,vY,vY,eG (x:=min a.X1 b.X1 - max a.X0 b.X0) (by omega) (by omega),eG (x:=min a.Y1 b.Y1 - max a.Y0 b.Y0) (by omega) (by omega)]
 congr 1
 rw [dZ]
 unfold yS
 simp only [dB,bL,bE,gt_iff_lt,ge_iff_le]
theorem insert_eq {l:List (List aH)} {r0:aH} {t:List aH} (hl:l.length<=1000000) (hN:4398046511104<=N) (h: ∀x,l[l.length - 1]? =some x->∃x0 t',x=x0::t'/\¬(r0.Y0<x0.Y0\/(r0.Y0=x0.Y0/\r0.X0<x0.X0))):lD N l (r0::t)=some (l++[r0::t]):=by
 refine Ok.get ?_
 unfold lD
 refine Ok.bind (Ok.iY (Go:=fun s=>s= ((l.length:Nat):Int)) (Rt:=fun _=>False) (fun s=>s= ((l.length:Nat):Int)) (fun s=>0) ?_ rfl (by omega)) ?_
 ·rintro s rfl
  by_cases h0:l.length=0
  ·rw [bF (by omega),aM,aB,aM];exact Ok.br rfl
  ·rw [bB (by omega),aO,fW (by omega) (by omega)]
   have hx:l[l.length - 1]? =some (l[l.length - 1]'(by omega)):=aL _
   obtain⟨x0,t',e,hn⟩:=h _ hx
   have i1:idx (r0::t) 0=some r0:=rfl
   have i2:idx (l[l.length - 1]'(by omega)) 0=some x0:=by rw [e];rfl
   rw [i1,aB,dG hx,aB,i2,aB]
   unfold jK
   rw [aB,aB,show ((decide (r0.Y0<x0.Y0))||((r0.Y0==x0.Y0)&&(decide (r0.X0<x0.X0))))=false by
    rw [<-j4,dB,bL,bE,bE,beq_iff_eq];exact hn,aM]
   exact Ok.br rfl
 intro o ho
 refine Ok.cs ho ?_ (fun r hr=>hr.elim)
 rintro s rfl
 refine Ok.eq (oW l l.length (bD _)) (Ok.app ?_ (Ok.app ?_ (Ok.eq (nR l l.length (bD _)) (Ok.app ?_ (Ok.ret ?_)))))
 ·rw [eE];simp only [List.length_nil];omega
 ·rw [eE];simp only [List.length_nil,cQ,dE];omega
 ·rw [eE,List.drop_length];simp only [List.length_nil,cQ,dE];omega
 ·simp
structure BI (all:List aH) (u:Nat->Nat) (i:Nat) (q:List Nat) (done:List Bool) (own:List aH):Prop where
 len:done.length=all.length
 nd:q.Nodup
 lt: ∀k∈q,k<all.length/\u k=i
 hd:i∈q
 dn: ∀k,k<all.length->done[k]? =some (decide (u k<i\/k∈q))
 ow:own.map some=q.map (fun k=>all[k]?)
theorem BI.KW {all:List aH} {u:Nat->Nat} {i:Nat} {q:List Nat} {done:List Bool} {own:List aH} (h:BI all u i q done own):own.length=q.length:=by
 have:=congrArg List.length h.ow
 rwa [cE,cE] at this
theorem BI.xB {all:List aH} {u:Nat->Nat} {i:Nat} {q:List Nat} {done:List Bool} {own:List aH} (h:BI all u i q done own):q.length<=all.length:=by
 have:=eC h.nd (m:=List.range all.length) (fun k hk=>by rw [my];exact(h.lt k hk).1)
 rwa [List.length_range] at this
theorem BI.at_ {all:List aH} {u:Nat->Nat} {i:Nat} {q:List Nat} {done:List Bool} {own:List aH} (h:BI all u i q done own) {p k:Nat} (hk:q[p]? =some k):own[p]? =all[k]? :=by
 have e:=congrArg (fun l=>l[p]?) h.ow
 simp only [dV,hk,Option.map_some] at e
 cases ho:own[p]? with
 | none=>rw [ho] at e;cases e
 | some x=>rw [ho] at e;injection e
theorem BI.mem {all:List aH} {u:Nat->Nat} {i:Nat} {q:List Nat} {done:List Bool} {own:List aH} (h:BI all u i q done own) {r:aH}:r∈own↔∃k∈q,all[k]? =some r:=by
 have:r∈own↔some r∈own.map some:=by simp
 rw [this,h.ow,cP]
theorem CM {s:List aA} {u:Nat->Nat} {ps:List (List aA)} (hc:dX (s.map bJ)) (hP:pM s u ps) (hn: (aQ s).length<=2000) (hok: ∀r∈aQ s,zQ r) (hps: ∀p∈ps,(aQ p).length<=2000) (hN:4398046511104<=N):
  iR N (aQ s)=some (ps.map aQ):=by
 refine Ok.get ?_
 have hB:=oI hc
 have hpos:=qP hc
 have hJ:=hP.join
 have hlen:=hP.len
 have heach:=hP.each
 clear hP hc
 generalize aQ s=all at *
 unfold iR
 refine Ok.eq (tv false (by omega)) ?_
 have hadj: ∀a b,(wh all a b\/wh all b a)->u a=u b:=fun a b h=>h.elim (fun h=>hJ.co a b h) (fun h=>(hJ.co b a h).symm)
 refine Ok.bind (Ok.qU (n:=all.length) (fun st=>st.2.2) (fun i st=>st.1.length=all.length/\(∀k,k<all.length->st.1[k]? =some (decide (u k<i)))/\st.2.1= (ps.take (bI i u).length).map aQ) (Go:=fun st=>st.2.1=ps.map aQ) (Rt:=fun _=>False) ?_ ?_ (eN _) rfl
  ⟨by simp,fun k hk=>by simp [hk],by simp [bI]⟩ (by omega)) ?_
 ·rintro i ⟨done,out,ii⟩ hi e ⟨hdl,hdn,hout⟩
  dsimp only at e hdl hdn hout ⊢
  subst e
  rw [mN hi,aO]
  refine Ok.ix (hdn i hi) (Ok.bif (fun hb=>?_) (fun hb=>?_))
  ·have hlt:u i<i:=of_decide_eq_true hb
   refine Ok.nx ⟨bQ (by omega),hdl,fun k hk=>?_,?_⟩
   ·rw [hdn k hk]
    congr 1
    rw [decide_eq_decide]
    have hne:u k≠i:=fun e=>by have:=hJ.rr k hk;rw [e] at this;omega
    omega
   ·rw [gI,aD (by omega)];exact hout
  ·have hge: ¬u i<i:=of_decide_eq_false hb
   have hui:u i=i:=by have:=hJ.le i hi;omega
   have hx:all[i]? =some all[i]:=aL hi
   refine Ok.ix (hdn i hi) (Ok.ix hx ?_)
   refine Ok.bind (Ok.iY (Go:=fun st=>st.1.length=all.length/\(∀k,k<all.length->st.1[k]? =some (decide (u k<i+1)))/\(∀r,r∈st.2.1↔r∈mu all all.length u i)/\st.2.1.length<=all.length) (Rt:=fun _=>False)
    (fun st=>∃(q:List Nat) (t:Nat),st.2.2= ((t:Nat):Int)/\t<=q.length/\BI all u i q st.1 st.2.1/\∀(p k j:Nat),p<t->q[p]? =some k->j<all.length->(wh all k j\/wh all j k)->j∈q)
    (fun st=>all.length+1 - st.2.2.toNat) ?_ ⟨[i],0,rfl,by simp,?_,fun p k j hp=>by omega⟩ (by simp;omega)) ?_
   ·rintro⟨d1,o1,t'⟩ ⟨q,t,e,ht,hI,hcl⟩
    dsimp only at e hI ⊢
    subst e
    have hql:=hI.xB
    have hol:=hI.KW
    by_cases hlt:t<q.length
    ·rw [mN (by omega:t<o1.length),aO]
     have hqt:q[t]? =some q[t]:=aL hlt
     have hkt:=hI.lt _ (cJ hlt)
     have hya:all[q[t]]? =some all[q[t]]:=aL hkt.1
     refine Ok.bind (Ok.qU (n:=all.length) (fun st=>st.2.2) (fun j st=>∃q',q <+:q'/\BI all u i q' st.1 st.2.1/\∀j',j'<j->(wh all q[t] j'\/wh all j' q[t])->j'∈q')
      (Go:=fun st=>∃q',q <+:q'/\BI all u i q' st.1 st.2.1/\∀j',j'<all.length->(wh all q[t] j'\/wh all j' q[t])->j'∈q') (Rt:=fun _=>False) ?_ ?_ (eN _) rfl ⟨q,List.prefix_refl _,hI,fun j' hj=>by omega⟩ (by omega)) ?_
     ·rintro j ⟨d2,o2,jj⟩ hj e ⟨q',hpre,hI',hc'⟩
      dsimp only at e hI' ⊢
      subst e
      rw [mN hj,aO]
      have hq't:q'[t]? =some q[t]:=by rw [DF hpre hqt]
      have hy2:o2[t]? =some all[q[t]]:=by rw [hI'.at_ hq't];exact hya
      have hz:all[j]? =some all[j]:=aL hj
      have htc:=Fx hB hpos hya hz
      have hcond: ((idx d2 ((j:Nat):Int)).bind fun x1054=>bif (!x1054) then ((idx o2 ((t:Nat):Int)).bind fun x1056=>(idx all ((j:Nat):Int)).bind fun x1058=>(j6 N x1056 x1058).bind fun x1061=>some x1061) else (some false))=some (!decide (u j<i\/j∈q')&&decide (yS all[q[t]] all[j])):=by
       rw [dG (hI'.dn j hj),aB]
       cases decide (u j<i\/j∈q') with
       | true=>rfl
       | false=>rw [mQ,aO,dG hy2,aB,dG hz,aB,Fy (hok _ (cJ hkt.1)) (hok _ (cJ hj)),aB,Bool.true_and]
      refine Ok.eq hcond ?_
      refine Ok.bind (P:=fun st:List Bool×List aH=>∃q',q <+:q'/\BI all u i q' st.1 st.2/\∀j',j'<j+1->(wh all q[t] j'\/wh all j' q[t])->j'∈q') (Ok.bif (fun hb=>?_) (fun hb=>?_)) (fun st hst=>Ok.nx ⟨bQ (by omega),hst⟩)
      ·rw [bL,Bool.not_eq_true',decide_eq_false_iff_not,bE] at hb
       have hju:u j=i:=by
        rcases htc.1 hb.2 with h | h
        ·rw [<-h];exact hkt.2
        ·rw [<-hadj _ _ h];exact hkt.2
       have hjq:j∉q':=fun h=>hb.1 (.inr h)
       have hol2:=hI'.KW
       have hql2:=hI'.xB
       refine Ok.ix (hI'.dn j hj) (Ok.ix hz (Ok.app (by simp only [dE,List.length_nil];omega) (Ok.ret ⟨q'++[j],hpre.trans (List.prefix_append _ _),⟨?_,?_,?_,?_,?_,?_⟩,?_⟩)))
       ·rw [iP];exact hI'.len
       ·rw [List.nodup_append]
        exact⟨hI'.nd,by simp,fun a ha b hb=>by simp at hb;subst hb;exact fun e=>hjq (e▸ha)⟩
       ·intro k hk
        rcases cV.1 hk with hk | hk
        ·exact hI'.lt k hk
        ·simp at hk;subst hk;exact⟨hj,hju⟩
       ·exact List.mem_append_left _ hI'.hd
       ·intro k hk
        rw [cA,eF]
        by_cases e:j=k
        ·subst e
         rw [aC rfl,aC (by rw [hI'.len];exact hj)]
         congr 1
         exact(bB (.inr (by simp))).symm
        ·rw [aD e,hI'.dn k hk]
         congr 1
         rw [decide_eq_decide,cV]
         simp only [pA]
         constructor
         ·exact fun h=>h.elim .inl (fun h=> .inr (.inl h))
         ·exact fun h=>h.elim .inl (fun h=>h.elim .inr (fun h=>absurd h.symm e))
       ·rw [dD,dD,hI'.ow];simp [hz]
       ·intro j' hj' ha
        by_cases e:j'=j
        ·subst e;simp
        ·exact List.mem_append_left _ (hc' j' (by omega) ha)
      ·refine Ok.ret ⟨q',hpre,hI',fun j' hj' ha=>?_⟩
       by_cases e:j'=j
       ·subst e
        have hj2:u j'=i:=by rw [<-hadj _ _ ha];exact hkt.2
        rw [bB (htc.2 (.inr ha)),Bool.and_true,Bool.not_eq_false',bE] at hb
        rcases hb with hb | hb
        ·omega
        ·exact hb
       ·exact hc' j' (by omega) ha
     ·rintro⟨d2,o2,jj⟩ e hI2
      dsimp only at e hI2 ⊢
      subst e
      rw [pz,aM]
      exact Ok.br hI2
     intro o ho
     refine Ok.cs ho ?_ (fun r hr=>hr.elim)
     rintro⟨d2,o2,jj⟩ ⟨q',hpre,hI',hc'⟩
     dsimp only at hI' ⊢
     refine Ok.nx ⟨⟨q',t+1,bQ (by omega),?_,hI',fun p k j hp hk hj ha=>?_⟩,?_⟩
     ·have:=hpre.length_le;omega
     ·by_cases e:p=t
      ·subst e
       rw [DF hpre hqt] at hk;injection hk with hk;subst hk
       exact hc' j hj ha
      ·have hpq:q[p]? =some (q[p]'(by omega)):=aL _
       rw [DF hpre hpq] at hk;injection hk with hk;subst hk
       exact hpre.subset (hcl p _ j (by omega) hpq hj ha)
     ·rw [bQ (by omega)];simp only [cA];omega
    ·rw [xf (by omega:o1.length<=t),aM]
     have htq:t=q.length:=by omega
     have hcls: ∀k,k<all.length->(k∈q↔u k=i):=fun k hk=>⟨fun h=>(hI.lt k h).2,fun h=>by
      have hstep: ∀a b,wh all a b->(a∈q↔b∈q):=fun a b hab=>by
       have hab':=hab
       obtain⟨ra,rb,e1,e2,_⟩:=hab'
       have hla:=(aU.1 e1).1
       have hlb:=(aU.1 e2).1
       constructor
       ·intro h'
        obtain⟨p,hp⟩:=dF h'
        exact hcl p a b (by rw [htq];exact(aU.1 hp).1) hp hlb (.inl hab)
       ·intro h'
        obtain⟨p,hp⟩:=dF h'
        exact hcl p b a (by rw [htq];exact(aU.1 hp).1) hp hla (.inr hab)
      exact hJ.fi (fun k=>k∈q) hstep i k hi hk (by rw [hui,h]) hI.hd⟩
     refine Ok.br ⟨hI.len,fun k hk=>?_,fun r=>?_,by rw [hol];exact hql⟩
     ·rw [hI.dn k hk]
      congr 1
      rw [decide_eq_decide,hcls k hk];omega
     ·rw [hI.mem,kT]
      constructor
      ·rintro⟨k,hk,h⟩
       exact⟨k,(hI.lt k hk).1,(hI.lt k hk).2,h⟩
      ·rintro⟨k,hk,h1,h2⟩
       exact⟨k,(hcls k hk).2 h1,h2⟩
   ·refine⟨by rw [iP];exact hdl,by simp,fun k hk=>by simp at hk;subst hk;exact⟨hi,hui⟩,by simp,fun k hk=>?_,by simp [hx]⟩
    rw [cA,eF]
    by_cases e:i=k
    ·subst e
     rw [aC rfl,aC (by rw [hdl];exact hi)]
     congr 1
     exact(bB (.inr (by simp))).symm
    ·rw [aD e,hdn k hk]
     congr 1
     rw [decide_eq_decide]
     simp only [pA]
     omega
   intro o ho
   refine Ok.cs ho ?_ (fun r hr=>hr.elim)
   rintro⟨d1,o1,t'⟩ ⟨g1,g2,g3,g4⟩
   dsimp only at g1 g2 g3 g4 ⊢
   have hh:=G3 hi hui
   have hml: (bI i u).length<ps.length:=by rw [hlen];exact(aU.1 hh).1
   have hpp:ps[(bI i u).length]? =some ps[(bI i u).length]:=aL hml
   have lU:=heach _ _ _ hh hpp
   have hcov: ∀x y,rY (ps[(bI i u).length].map bJ) x y=sR o1 x y:=fun x y=>by rw [lU.cover];exact(HM g3 x y).symm
   have hpl:=hps _ (cJ hml)
   refine Ok.eq (rC lU.can hcov (by omega) (fun r hr=>?_) (by omega) hN) ?_
   ·obtain⟨k,_,_,hk⟩:=kT.1 ((g3 r).1 hr)
    exact(hpos r (dU hk)).1
   have hfirst: ∀(j h:Nat) p,(bI all.length u)[j]? =some h->ps[j]? =some p->∃r t a,aQ p=r::t/\all[h]? =some a/\r.X0=a.X0/\r.Y0=a.Y0:=fun j h p hj hp=>by
    have hs:=heach j h p hj hp
    obtain⟨hhl,hhu⟩:=iE.1 (dU hj)
    have ha:all[h]? =some all[h]:=aL hhl
    have hne:p≠[]:=fun e=>by
     have hL:=(Aa hB hpos hJ ha hhu).1
     rw [<-hs.cover,e] at hL
     cases hL
    obtain⟨r,t,e1,e2,_⟩:=DH hs.can hne
    have e2':rD (sR (mu all all.length u h)) r.X0 r.Y0:=⟨by rw [<-hs.cover];exact e2.1,fun x' y' hxy=>e2.2 x' y' (by simp only;rw [hs.cover];exact hxy)⟩
    obtain⟨e3,e4⟩:=e2'.unique (Aa hB hpos hJ ha hhu)
    exact⟨r,t,all[h],e1,ha,e3,e4⟩
   obtain⟨r,t,a,e1,e2,e3,e4⟩:=hfirst _ _ _ hh hpp
   have hheads: (bI i u).length<=i:=nI i u
   rw [e1]
   refine Ok.eq (insert_eq (by rw [hout,cE,cF];omega) hN (fun x hxl=>?_)) (Ok.nx ⟨bQ (by omega),g1,g2,?_⟩)
   ·have hol:out.length= (bI i u).length:=by rw [hout,cE,cF];omega
    have hpos2:0< (bI i u).length:=by
     have:=(aU.1 hxl).1;omega
    rw [hout,dV,cE,cF,show min (bI i u).length ps.length= (bI i u).length by omega,List.getElem?_take_of_lt (by omega)] at hxl
    have hp2:ps[(bI i u).length - 1]? =some (ps[(bI i u).length - 1]'(by omega)):=aL _
    rw [hp2] at hxl
    injection hxl with hxl
    have hh2: (bI i u)[(bI i u).length - 1]? =some ((bI i u)[(bI i u).length - 1]'(by omega)):=aL _
    have hm2:=iE.1 (dU hh2)
    obtain⟨tl,htl⟩:=rE (u:=u) (all.length - i) i
    rw [show i+ (all.length - i)=all.length by omega] at htl
    have hh3: (bI all.length u)[(bI i u).length - 1]? =some ((bI i u)[(bI i u).length - 1]'(by omega)):=by rw [htl,fz (by omega)];exact hh2
    obtain⟨r',t',a',f1,f2,f3,f4⟩:=hfirst _ _ _ hh3 hp2
    refine⟨r',t',by rw [<-hxl];exact f1,?_⟩
    obtain⟨l1,q1⟩:=aU.1 f2
    obtain⟨l2,q2⟩:=aU.1 e2
    have hbh:=kA.1 hB _ _ l1 l2 hm2.1
    rw [q1,q2] at hbh
    have p1:=hpos a' (dU f2)
    unfold ph at hbh
    rw [e3,e4,f3,f4]
    omega
   ·dsimp only
    rw [gI,aC hui,cQ,hout]
    simp only [dE,List.length_nil]
    rw [dT hml,dD,dA,List.map_nil,e1]
 ·rintro⟨done,out,ii⟩ e ⟨_,_,hout⟩
  dsimp only at e hout ⊢
  subst e
  rw [pz,aM]
  refine Ok.br ?_
  dsimp only
  rw [hout,lj (by rw [hlen];omega)]
 intro o ho
 exact Ok.cs ho (fun s hs=>Ok.ret hs) (fun r hr=>hr.elim)
end
end Go.Gk
namespace Go.Gk
open Go Classical
section
variable {α β:Type}
theorem G4 {N:Nat} {l:List α} {s:β} {φ:α->β->Option Int} (c:α->Int) (hφ: ∀x,φ x s=some (c x)) (hs: ∀(i j:Nat) (x y:α),i<j->l[i]? =some x->l[j]? =some y->0<=c x->0<c y)
  (hl:l.length<=1048576) (hN:4194304<=N): ∃r,Gt N l s φ=some r/\r.2=l.any (fun x=>c x==0)/\(r.2=true->r.1=Eg l (fun x=>c x==0)):=by
 show Ok (Gt N l s φ) (fun r=>r.2=l.any (fun x=>c x==0)/\(r.2=true->r.1=Eg l (fun x=>c x==0)))
 unfold Gt
 refine Ok.bind (Ok.iY (Go:=fun st:Int×Int=>∃a:Nat,st.1= ((a:Nat):Int)/\a<=l.length/\(∀j x,j<a->l[j]? =some x->c x<0)/\(∀j x,a<=j->l[j]? =some x->0<=c x)) (Rt:=fun _=>True)
  (fun st=>∃a b:Nat,st= (((a:Nat):Int),((b:Nat):Int))/\a<=b/\b<=l.length/\(∀j x,j<a->l[j]? =some x->c x<0)/\(∀j x,b<=j->l[j]? =some x->0<=c x))
  (fun st=>(st.2 - st.1).toNat) ?_ ⟨0,l.length,rfl,by omega,bD _,fun j x hj=>by omega,fun j x hj hx=>by have:=(aU.1 hx).1;omega⟩ (by simp only;omega)) ?_
 ·rintro st ⟨a,b,rfl,hab,hb,h1,h2⟩
  dsimp only
  by_cases hlt:a<b
  ·have hm: (a+b) / 2<l.length:=by omega
   have hx:l[(a+b) / 2]? =some l[(a+b) / 2]:=aL hm
   rw [show decide (((a:Nat):Int)< ((b:Nat):Int))=true by rw [bE];omega,aO,zM hlt (by omega:b<=4611686018427387904)]
   refine Ok.ix hx (Ok.eq (hφ _) ?_)
   by_cases hc:c l[(a+b) / 2]<0
   ·rw [bB hc,aO,aB]
    refine Ok.nx ⟨⟨(a+b) / 2+1,b,?_,by omega,hb,fun j x hj hx'=>?_,h2⟩,?_⟩
    ·rw [bQ (by omega)]
    ·by_cases e:j= (a+b) / 2
     ·subst e;rw [hx] at hx';injection hx' with hx';rw [<-hx'];exact hc
     ·by_cases h0:c x<0
      ·exact h0
      ·have:=hs j _ x _ (by omega) hx' hx (by omega)
       omega
    ·rw [bQ (by omega)];simp only;omega
   ·rw [bF hc,aM,aB]
    refine Ok.nx ⟨⟨a,(a+b) / 2,rfl,by omega,by omega,h1,fun j x hj hx'=>?_⟩,by simp only;omega⟩
    by_cases e:j= (a+b) / 2
    ·subst e;rw [hx] at hx';injection hx' with hx';rw [<-hx'];omega
    ·have:=hs _ j _ x (by omega) hx hx' (by omega)
     omega
  ·rw [show decide (((a:Nat):Int)< ((b:Nat):Int))=false by rw [decide_eq_false_iff_not];omega,aM]
   exact Ok.br ⟨a,rfl,by omega,h1,fun j x hj hx=>h2 j x (by omega) hx⟩
 intro o ho
 refine Ok.cs ho ?_ (fun r hr=>r.elim)
 rintro⟨st1,st2⟩ ⟨a,ha,hle,h1,h2⟩
 dsimp only at ha ⊢
 subst ha
 by_cases hlt:a<l.length
 ·have hx:l[a]? =some l[a]:=aL hlt
  rw [show decide (((a:Nat):Int)< ((l.length:Nat):Int))=true by rw [bE];omega,aO,dG hx,aB,hφ,aB,aB]
  refine Ok.ret ?_
  by_cases he:c l[a]=0
  ·have hb: (c l[a]==0)=true:=by rw [beq_iff_eq];exact he
   rw [hb]
   refine⟨(jC.2 ⟨_,cJ hlt,hb⟩).symm,fun _=>?_⟩
   rw [Gq hx hb (fun j y hj hy=>by have:=h1 j y hj hy;rw [beq_eq_false_iff_ne];omega)]
  ·have hb: (c l[a]==0)=false:=by rw [beq_eq_false_iff_ne];exact he
   rw [hb]
   refine⟨?_,fun h=>by cases h⟩
   symm
   rw [List.any_eq_false]
   intro x hx'
   obtain⟨j,hj⟩:=dF hx'
   rw [j4,beq_eq_false_iff_ne]
   by_cases hja:j<a
   ·have:=h1 j x hja hj;omega
   ·by_cases e:j=a
    ·subst e;rw [hx] at hj;injection hj with hj;rw [<-hj];exact he
    ·have h3:=h2 a _ (bD _) hx
     have:=hs a j _ x (by omega) hx hj h3
     omega
 ·rw [show decide (((a:Nat):Int)< ((l.length:Nat):Int))=false by rw [decide_eq_false_iff_not];omega,aM,aB]
  refine Ok.ret ⟨?_,fun h=>by cases h⟩
  symm
  rw [List.any_eq_false]
  intro x hx'
  obtain⟨j,hj⟩:=dF hx'
  have:=(aU.1 hj).1
  have:=h1 j x (by omega) hj
  rw [j4,beq_eq_false_iff_ne];omega
end
def wT (p q:fL):Prop:=dO.lt p.Part q.Part\/(p.Part=q.Part/\dO.lt p.fL q.fL)
theorem ED {p q:fL} (h1:p.Part=q.Part) (h2:p.fL=q.fL):p=q:=by cases p;cases q;simp at h1 h2;subst h1;subst h2;rfl
theorem wT.irrefl (p:fL): ¬wT p p:=fun h=>by
 rcases h with h | ⟨_,h⟩
 ·exact dO.lt_irrefl _ h
 ·exact dO.lt_irrefl _ h
theorem wT.trans {p q r:fL} (h1:wT p q) (h2:wT q r):wT p r:=by
 rcases h1 with h1 | ⟨e1,h1⟩ <;> rcases h2 with h2 | ⟨e2,h2⟩
 ·exact .inl (dO.lt_trans h1 h2)
 ·exact .inl (by rw [<-e2];exact h1)
 ·exact .inl (by rw [e1];exact h2)
 ·exact .inr ⟨e1.trans e2,dO.lt_trans h1 h2⟩
theorem wT.total (p q:fL):wT p q\/p=q\/wT q p:=by
 rcases dO.Cf p.Part q.Part with h | h | h
 ·exact .inl (.inl h)
 ·rcases dO.Cf p.fL q.fL with h' | h' | h'
  ·exact .inl (.inr ⟨h,h'⟩)
  ·exact .inr (.inl (ED h h'))
  ·exact .inr (.inr (.inr ⟨h.symm,h'⟩))
 ·exact .inr (.inr (.inl h))
theorem wT.asymm {p q:fL} (h:wT p q): ¬wT q p:=fun h'=>wT.irrefl p (h.trans h')
theorem wT.ne {p q:fL} (h:wT p q):p≠q:=fun e=>by subst e;exact wT.irrefl _ h
theorem qQ {a b:dO}:Lib.compareBytes a.cR b.cR=0↔a=b:=⟨fun h=>dO.ext' ((uw _ _).1 h),fun h=>(uw _ _).2 (by rw [h])⟩
theorem ni {p q:fL}:iF p q=0↔p=q:=by
 unfold iF
 by_cases h:Lib.compareBytes p.Part.cR q.Part.cR=0
 ·rw [aD (by simpa using h),qQ]
  exact⟨fun h'=>ED (qQ.1 h) h',fun h'=>by rw [h']⟩
 ·rw [aC h]
  exact⟨fun h'=>absurd h' h,fun h'=>absurd (qQ.2 (by rw [h'])) h⟩
theorem uN {p q:fL}:iF p q<0↔wT p q:=by
 unfold iF wT
 by_cases h:Lib.compareBytes p.Part.cR q.Part.cR=0
 ·rw [aD (by simpa using h),uv]
  have e:=qQ.1 h
  constructor
  ·exact fun h'=> .inr ⟨e,h'⟩
  ·rintro(h' | ⟨_,h'⟩)
   ·rw [e] at h';exact absurd h' (dO.lt_irrefl _)
   ·exact h'
 ·rw [aC h,uv]
  constructor
  ·exact fun h'=> .inl h'
  ·rintro(h' | ⟨e,_⟩)
   ·exact h'
   ·exact absurd (qQ.2 e) h
theorem uO {p q:fL}:0<iF p q↔wT q p:=by
 constructor
 ·intro h
  rcases wT.total p q with h' | h' | h'
  ·have:=uN.2 h';omega
  ·have:=ni.2 h';omega
  ·exact h'
 ·intro h
  by_cases h1:iF p q<0
  ·exact absurd (uN.1 h1) h.asymm
  ·by_cases h2:iF p q=0
   ·exact absurd (ni.1 h2).symm h.ne
   ·omega
section
variable {N:Nat}
structure DI (a:iM) (x:eW):Prop where
 name:mi x.Part=true/\isWord x.fL=true
 KS:0<=x.eT/\x.eT< ((a.aI.length:Nat):Int)
 at_:o9 x.At=true
structure qR (a:iM):Prop where
 xB:a.bG.length<=1000
 each: ∀x∈a.bG,DI a x
 up:a.bG.Pairwise (fun x y=>wT (jv x) (jv y))
theorem Bb {a:iM} {k:Nat} {x:eW} (hx:a.bG[k]? =some x) (h:jl a k=none):DI a x/\∀y,0<k->a.bG[k - 1]? =some y->wT (jv y) (jv x):=by
 unfold jl at h
 rw [hx,Option.bind_some] at h
 split at h
 ·rename_i h1
  split at h
  ·rename_i h2
   split at h
   ·cases h
   ·rename_i h3
    rw [bL] at h1 h2
    unfold eZ at h2
    rw [bL,bE,bE] at h2
    refine⟨⟨h1,⟨by omega,by omega⟩,h2.2⟩,fun y hk hy=>?_⟩
    have h4: ¬iF (jv x) (jv y)<=0:=fun h4=>h3 ⟨hk,y,hy,h4⟩
    exact uO.1 (by omega)
  ·cases h
 ·cases h
theorem yT {a:iM} {k:Nat} {e:Int} (h:jl a k=some e):e≠0:=by
 unfold jl at h
 cases hx:a.bG[k]? with
 | none=>rw [hx] at h;cases h
 | some x=>
  rw [hx,Option.bind_some] at h
  repeat' split at h
  all_goals first | (injection h with h;omega) | cases h
theorem Fz {a:iM} (h:lR a=0):qR a:=by
 unfold lR at h
 split at h
 ·omega
 rename_i hl
 have hn:tN a.bG.length (jl a)=none:=by
  cases hf:tN a.bG.length (jl a) with
  | none=>rfl
  | some e=>
   rw [hf] at h
   obtain⟨k,_,hk,_⟩:=nF.1 hf
   exact absurd h (yT hk)
 rw [mL] at hn
 have hg: ∀(k:Nat) x,a.bG[k]? =some x->DI a x/\∀y,0<k->a.bG[k - 1]? =some y->wT (jv y) (jv x):=fun k x hx=>Bb hx (hn k (aU.1 hx).1)
 refine⟨by omega,fun x hx=>?_,?_⟩
 ·obtain⟨k,hk⟩:=dF hx
  exact(hg k x hk).1
 ·have hstep: ∀(n i:Nat) x y,a.bG[i]? =some x->a.bG[i+n+1]? =some y->wT (jv x) (jv y):=by
   intro n
   induction n with
   | zero=>intro i x y hx hy;exact(hg (i+1) y hy).2 x (by omega) hx
   | succ n ih=>
    intro i x y hx hy
    have hz:i+n+1<a.bG.length:=by have:=(aU.1 hy).1;omega
    have h1:=ih i x _ hx (aL hz)
    exact h1.trans ((hg (i+ (n+1)+1) y hy).2 _ (by omega) (by rw [show i+ (n+1)+1 - 1=i+n+1 by omega];exact aL hz))
  rw [kA]
  intro i j hi hj hij
  exact hstep (j - i - 1) i _ _ (aL hi) (by rw [show i+ (j - i - 1)+1=j by omega];exact aL hj)
theorem qR.inj {a:iM} (h:qR a) {i j:Nat} {x y:eW} (hx:a.bG[i]? =some x) (hy:a.bG[j]? =some y) (e:jv x=jv y):i=j:=by
 obtain⟨h1,rfl⟩:=aU.1 hx
 obtain⟨h2,rfl⟩:=aU.1 hy
 have hp:=kA.1 h.up
 rcases Nat.lt_trichotomy i j with h3 | h3 | h3
 ·exact absurd e (hp i j h1 h2 h3).ne
 ·exact h3
 ·exact absurd e.symm (hp j i h2 h1 h3).ne
theorem CN {l:List eW} {p:fL} (hu:l.Pairwise (fun x y=>wT (jv x) (jv y))) (hl:l.length<=1048576) (hN:4194304<=N) {φ:eW->fL->Option Int} (hφ: ∀x,φ x p=some (iF (jv x) p)):
  ∃r,Gt N l p φ=some r/\(bif (!r.2) then (some (-1)) else (some r.1))=some (Eg l (fun x=>decide (jv x=p))):=by
 obtain⟨r,h1,h2,h3⟩:=G4 (N:=N) (l:=l) (s:=p) (φ:=φ) (fun x=>iF (jv x) p) hφ (fun i j x y hij hx hy hc=>by
  obtain⟨g1,rfl⟩:=aU.1 hx
  obtain⟨g2,rfl⟩:=aU.1 hy
  have hlt:=kA.1 hu i j g1 g2 hij
  refine uO.2 ?_
  by_cases h0:iF (jv l[i]) p=0
  ·rw [<-ni.1 h0];exact hlt
  ·exact(uO.1 (by omega)).trans hlt) hl hN
 have e: (fun x=>iF (jv x) p==0)= (fun x=>decide (jv x=p)):=by
  funext x
  rw [dZ,beq_iff_eq,bE,ni]
 rw [e] at h2 h3
 refine⟨r,h1,?_⟩
 cases hr:r.2 with
 | true=>simp only [jB,aM];rw [h3 hr]
 | false=>
  simp only [mQ,aO]
  rw [hr] at h2
  rw [Gp h2.symm]
def po (a:iM) (p:fL):Int:=Eg a.bG (fun x=>decide (jv x=p))
theorem pQ (a:iM) (p:fL): (po a p = -1/\∀x∈a.bG,jv x≠p)\/∃(k:Nat) (x:eW),po a p= ((k:Nat):Int)/\a.bG[k]? =some x/\jv x=p:=by
 rcases tw a.bG (fun x=>decide (jv x=p)) with ⟨h1,h2⟩ | ⟨k,x,h1,h2,h3,_⟩
 ·exact .inl ⟨h1,fun x hx=>of_decide_eq_false (h2 x hx)⟩
 ·exact .inr ⟨k,x,h1,h2,of_decide_eq_true h3⟩
end
end Go.Gk
namespace Go.Gk
open Go Classical
theorem tf {α β:Type} {l:List α} {f:α->Option β} {k:Nat} {x:α} {c:β} (hx:l[k]? =some x) (hn: ∀(j:Nat) y,j<k->l[j]? =some y->f y=none) (hc:f x=some c):l.findSome? f=some c:=by
 obtain⟨hk,rfl⟩:=aU.1 hx
 rw [List.findSome?_eq_some_iff]
 refine⟨l.take k,l[k],l.drop (k+1),?_,hc,fun y hy=>?_⟩
 ·rw [List.getElem_cons_drop,List.take_append_drop]
 ·obtain⟨j,hj⟩:=dF hy
  have hjk:j<k:=by have:=(aU.1 hj).1;rw [cF] at this;omega
  exact hn j y hjk (by rw [List.getElem?_take_of_lt hjk] at hj;exact hj)
theorem xn {α β:Type} {l:List α} {f:α->Option β} (h: ∀(j:Nat) y,j<l.length->l[j]? =some y->f y=none):l.findSome? f=none:=by
 rw [List.findSome?_eq_none_iff]
 intro x hx
 obtain⟨j,hj⟩:=dF hx
 exact h j x (aU.1 hj).1 hj
section
variable {N:Nat}
theorem KX (c:UInt8): (bif (!((((decide (((c.toNat:Nat):Int)>=97))&&(decide (((c.toNat:Nat):Int)<=122)))||((decide (((c.toNat:Nat):Int)>=65))&&(decide (((c.toNat:Nat):Int)<=90))))||((decide (((c.toNat:Nat):Int)>=48))&&(decide (((c.toNat:Nat):Int)<=57))))) then ((fO N (⟨[95,43,45,35]⟩) ((c.toNat:Nat):Int)).bind fun x50=>some (decide (x50<0))) else (some false))=some (Cq c):=by
 rw [rq,aB]
 unfold Cq
 generalize decide (Lib.indexByte (⟨[95,43,45,35]⟩:dO).cR c<0)=p
 have e: (!((((decide (((c.toNat:Nat):Int)>=97))&&(decide (((c.toNat:Nat):Int)<=122)))||((decide (((c.toNat:Nat):Int)>=65))&&(decide (((c.toNat:Nat):Int)<=90))))||((decide (((c.toNat:Nat):Int)>=48))&&(decide (((c.toNat:Nat):Int)<=57)))))= ((((decide (((c.toNat:Nat):Int)<65))||(decide (((c.toNat:Nat):Int)>90)))&&((decide (((c.toNat:Nat):Int)<97))||(decide (((c.toNat:Nat):Int)>122))))&&((decide (((c.toNat:Nat):Int)<48))||(decide (((c.toNat:Nat):Int)>57)))):=by
  rw [dZ]
  simp only [Bool.not_eq_true',Bool.or_eq_false_iff,Bool.and_eq_false_iff,decide_eq_false_iff_not,bL,dB,bE]
  omega
 rw [e]
 cases ((((decide (((c.toNat:Nat):Int)<65))||(decide (((c.toNat:Nat):Int)>90)))&&((decide (((c.toNat:Nat):Int)<97))||(decide (((c.toNat:Nat):Int)>122))))&&((decide (((c.toNat:Nat):Int)<48))||(decide (((c.toNat:Nat):Int)>57)))) with
 | true=>rw [aO,Bool.true_and]
 | false=>rw [aM,Bool.false_and]
theorem xo {s:dO} (h:s.cR.length<=1048576) (hN:4194304<=N):ir N s=some (isWord s):=by
 refine Ok.get ?_
 unfold ir isWord
 refine Ok.bind (Ok.qU (n:=s.cR.length) (fun s=>s) (fun k _=>∀(j:Nat) x,j<k->s.cR[j]? =some x->Cq x=false) (Go:=fun _=>s.cR.any Cq=false) (Rt:=fun r=>r=false/\s.cR.any Cq=true) ?_ ?_ (eN _) rfl (fun j x hj=>by omega) (by omega)) ?_
 ·rintro k i hk e hI
  subst e
  rw [mN hk,aO]
  refine Ok.eq (Ce s k hk) (Ok.eq (KX _) (Ok.bif (fun hb=>Ok.rt ⟨rfl,jC.2 ⟨_,cJ hk,hb⟩⟩) (fun hb=>Ok.nx ⟨bQ (by omega),fun j x hj hx=>?_⟩)))
  by_cases e:j=k
  ·subst e;rw [aL hk] at hx;injection hx with hx;rw [<-hx];exact hb
  ·exact hI j x (by omega) hx
 ·rintro i e hI
  subst e
  rw [pz,aM]
  refine Ok.br ?_
  rw [List.any_eq_false]
  intro x hx
  obtain⟨j,hj⟩:=dF hx
  rw [hI j x (aU.1 hj).1 hj];exact mP
 intro o ho
 refine Ok.cs ho (fun s' hs'=>?_) (fun r hr=>Ok.ret (by rw [hr.1,hr.2];rfl))
 rw [hs']
 show Ok ((some _).bind _) _
 refine Ok.ret ?_
 rw [mQ,Bool.true_and]
 congr 1 <;> · rw [decide_eq_decide];omega
theorem CO {s:dO} (h:s.cR.length<=1048576) (hN:4194304<=N):lC N s=some (mi s):=by
 refine Ok.get ?_
 unfold lC mi
 refine Ok.eq (Cs 47 h hN) ?_
 have hsn:=zX s 47
 refine Ok.bind (Ok.qU (n:=(mF s 47).length) (fun s=>s) (fun k _=>∀(j:Nat) x,j<k->(mF s 47)[j]? =some x->isWord x=true) (Go:=fun _=>(mF s 47).all isWord=true) (Rt:=fun r=>r=false/\(mF s 47).all isWord=false) ?_ ?_ (eN _) rfl (fun j x hj=>by omega) (by omega)) ?_
 ·rintro k i hk e hI
  subst e
  rw [mN hk,aO]
  have hx: (mF s 47)[k]? =some (mF s 47)[k]:=aL hk
  have hl:=zW (cJ hk)
  refine Ok.ix hx (Ok.eq (xo (by omega) hN) (Ok.bif (fun hb=>Ok.rt ⟨rfl,?_⟩) (fun hb=>Ok.nx ⟨bQ (by omega),fun j x hj hx'=>?_⟩)))
  ·rw [List.all_eq_false]
   exact⟨_,cJ hk,by simpa using hb⟩
  ·by_cases e:j=k
   ·subst e;rw [hx] at hx';injection hx' with hx';rw [<-hx'];simpa using hb
   ·exact hI j x (by omega) hx'
 ·rintro i e hI
  subst e
  rw [pz,aM]
  refine Ok.br ?_
  rw [j5]
  intro x hx
  obtain⟨j,hj⟩:=dF hx
  exact hI j x (aU.1 hj).1 hj
 intro o ho
 refine Ok.cs ho (fun s' hs'=>Ok.ret ?_) (fun r hr=>Ok.ret (by rw [hr.1,hr.2,Bool.and_false]))
 rw [hs',Bool.and_true,decide_eq_decide];omega
theorem pR (n lo hi:Int):eL N n lo hi=some (eZ n lo hi):=rfl
theorem nN {b:cH} (h:ox b=true):dJ N b=some (sW b):=lP (N:=N) h
theorem wU {b:cH}:jr N b=some (lq b).2:=by
 have e1: (bif (!(eZ b.eI 1 10000)) then (some true) else (some (!(o9 b.At))))=some (!ox b):=by unfold ox;cases eZ b.eI 1 10000 <;> rfl
 have e2: ∀n,cN N n=some (kx n):=fun _=>rfl
 unfold jr lq
 rw [pR,aB,xd,aB,e1,aB]
 cases hf:ox b with
 | false=>rfl
 | true=>
  rw [jB,aM,nN hf,aB]
  simp only [e2,aB]
  unfold eP
  cases kx (sW b).X0 <;> cases kx (sW b).Y0 <;> cases kx (sW b).X1 <;> cases kx (sW b).Y1 <;> rfl
theorem Jc {x y:eW}: ((x.Part.FJ y.Part)||((x.Part.Af y.Part)&&(x.fL.FJ y.fL||x.fL.Af y.fL)))=decide (iF (jv x) (jv y)<=0):=by
 have hle:iF (jv x) (jv y)<=0↔wT (jv x) (jv y)\/jv x=jv y:=by
  rw [<-uN,<-ni];omega
 rw [dZ,bE,hle,dB,bL,dB,AK,AK]
 unfold wT jv
 simp only [fL.mk.injEq]
 constructor
 ·rintro(h | ⟨h1,h2 | h2⟩)
  ·exact .inl (.inl h)
  ·exact .inl (.inr ⟨h1,h2⟩)
  ·exact .inr ⟨h1,h2⟩
 ·rintro((h | ⟨h1,h2⟩) | ⟨h1,h2⟩)
  ·exact .inl h
  ·exact .inr ⟨h1, .inl h2⟩
  ·exact .inr ⟨h1, .inr h2⟩
theorem yU {a:iM} (hc:a.aI.length<=1073741824) (hl:a.bG.length<=1073741824) {k:Nat} {x:eW} (hx:a.bG[k]? =some x) (hn:x.Part.cR.length<=1048576/\x.fL.cR.length<=1048576) (hN:4194304<=N):ki N a ((k:Nat):Int)=some ((jl a k).getD 0):=by
 have hk:=(aU.1 hx).1
 have hw:IntKind.wrap .i64 (((a.aI.length:Nat):Int) - 1)= ((a.aI.length:Nat):Int) - 1:=eG (by omega) (by omega)
 unfold ki jl
 rw [dG hx,aB,CO hn.1 hN,aB,hx,Option.bind_some]
 have e1: (bif (!(mi x.Part)) then (some true) else ((ir N x.fL).bind fun x44=>some (!x44)))=some (!(mi x.Part&&isWord x.fL)):=by
  rw [xo hn.2 hN,aB]
  cases mi x.Part <;> rfl
 rw [e1,aB]
 cases h1: (mi x.Part&&isWord x.fL) with
 | false=>rw [mQ,aO,aD mP];rfl
 | true=>
  rw [jB,aM,aC rfl,hw,pR,aB]
  have e2: (bif (!(eZ x.eT 0 (((a.aI.length:Nat):Int) - 1))) then (some true) else ((gS N x.At).bind fun x57=>some (!x57)))=some (!(eZ x.eT 0 (((a.aI.length:Nat):Int) - 1)&&o9 x.At)):=by
   rw [xd,aB]
   cases eZ x.eT 0 (((a.aI.length:Nat):Int) - 1) <;> rfl
  rw [e2,aB]
  cases h2: (eZ x.eT 0 (((a.aI.length:Nat):Int) - 1)&&o9 x.At) with
  | false=>rw [mQ,aO,aD mP];rfl
  | true=>
   rw [jB,aM,aC rfl]
   by_cases h0:0<k
   ·have hy:a.bG[k - 1]? =some (a.bG[k - 1]'(by omega)):=aL _
    rw [bB (by omega),aO,fW h0 (by omega),dG hy,aB,Jc]
    by_cases h3:iF (jv x) (jv (a.bG[k - 1]'(by omega)))<=0
    ·rw [bB h3,aO,aC ⟨h0,_,hy,h3⟩];rfl
    ·rw [bF h3,aM,aD (by rintro⟨_,y,hy',h4⟩;rw [hy] at hy';injection hy' with hy';subst hy';exact h3 h4)];rfl
   ·rw [bF (by omega),aM,aD (fun h=>h0 h.1)];rfl
noncomputable def kU (a:iM):Int:=if a.aI.length=0 then 9 else if 16<a.aI.length then 2 else match a.aI.findSome? t7 with
 | some e=>e
 | none=>if iS a.cL≠0 then iS a.cL else if 2000<a.cL.length+ (a.aI.map List.length).sum then 2 else if gX a≠0 then gX a else lR a
theorem CP (a:iM):jT a=if kU a≠0 then kU a else if pf a then 12 else 0:=by
 unfold jT kU GV CA
 by_cases h0:a.aI.length=0
 ·rw [aC h0,aC h0,aC (by decide)]
 rw [aD h0,aD h0]
 by_cases h1:16<a.aI.length
 ·rw [aC h1,aC h1,aC (by decide)]
 rw [aD h1,aD h1]
 cases hf:a.aI.findSome? t7 with
 | some e=>
  have he:e≠0:=by
   obtain⟨_,x,_,_,hx,_⟩:=List.findSome?_eq_some_iff.1 hf
   unfold t7 at hx
   split at hx
   ·rename_i h;injection hx with hx;rw [<-hx];exact h
   ·cases hx
  dsimp only
  rw [aC he]
 | none=>
  dsimp only
  by_cases h2:iS a.cL≠0
  ·rw [aC h2,aC h2,aC h2]
  rw [aD h2,aD h2]
  by_cases h3:2000<a.cL.length+ (a.aI.map List.length).sum
  ·rw [aC h3,aC h3,aC (by decide)]
  rw [aD h3,aD h3]
  by_cases h4:gX a≠0
  ·rw [aC h4,aC h4,aC h4]
  rw [aD h4,aD h4]
theorem yV {a:iM} (h:kU a=0):gX a=0:=by
 unfold kU at h
 by_cases h0:a.aI.length=0
 ·rw [aC h0] at h;omega
 rw [aD h0] at h
 by_cases h1:16<a.aI.length
 ·rw [aC h1] at h;omega
 rw [aD h1] at h
 cases hf:a.aI.findSome? t7 with
 | some e=>
  rw [hf] at h
  have h:e=0:=h
  obtain⟨_,x,_,_,hx,_⟩:=List.findSome?_eq_some_iff.1 hf
  unfold t7 at hx
  split at hx
  ·rename_i h';injection hx with hx;rw [hx] at h';exact absurd h h'
  ·cases hx
 | none=>
  rw [hf] at h
  dsimp only at h
  by_cases h2:iS a.cL≠0
  ·rw [aC h2] at h;exact absurd h h2
  rw [aD h2] at h
  by_cases h3:2000<a.cL.length+ (a.aI.map List.length).sum
  ·rw [aC h3] at h;omega
  rw [aD h3] at h
  by_cases h4:gX a≠0
  ·rw [aC h4] at h;exact absurd h h4
  ·simpa using h4
theorem xC {a:iM} (hs:qM a) (hN:4398046511104<=N):jZ N a=some (kU a):=by
 refine Ok.get ?_
 have c1:=hs.cs
 have c2:=hs.out
 have c3:=hs.bs
 have c4:=hs.ls
 unfold jZ kU
 refine Ok.bif (fun h=>Ok.ret ?_) (fun h=>?_)
 ·rw [aC (by have:=beq_iff_eq.1 h;omega)]
 have h0: ¬a.aI.length=0:=by rw [beq_eq_false_iff_ne] at h;omega
 rw [aD h0]
 refine Ok.bif (fun h=>Ok.ret ?_) (fun h=>?_)
 ·rw [aC (by have:=of_decide_eq_true h;omega)]
 have h1: ¬16<a.aI.length:=by have:=of_decide_eq_false h;omega
 rw [aD h1]
 have sumle: ∀k,k<=a.aI.length->((a.aI.take k).map List.length).sum<=k*1048576:=by
  intro k
  induction k with
  | zero=>intro _;simp
  | succ k ih=>
   intro hk
   have:=ih (by omega)
   have h2:=hs.each _ (cJ (show k<a.aI.length by omega))
   rw [dT (by omega),dD,List.sum_append]
   simp only [dA,List.map_nil,List.sum_cons,List.sum_nil]
   rw [Nat.add_mul];omega
 refine Ok.bind (Ok.qU (n:=a.aI.length) (fun s=>s.2) (fun k s=>s.1= ((a.cL.length+ ((a.aI.take k).map List.length).sum:Nat):Int)/\∀(j:Nat) r,j<k->a.aI[j]? =some r->t7 r=none)
  (Go:=fun s=>s.1= ((a.cL.length+ (a.aI.map List.length).sum:Nat):Int)/\a.aI.findSome? t7=none) (Rt:=fun r=>a.aI.findSome? t7=some r) ?_ ?_ (eN _) rfl ⟨by simp,fun j r hj=>by omega⟩ (by omega)) ?_
 ·rintro k ⟨m,i⟩ hk e ⟨hm,hI⟩
  dsimp only at e hm ⊢
  subst e;subst hm
  have hx:a.aI[k]? =some a.aI[k]:=aL hk
  have he:=hs.each _ (cJ hk)
  have hsl:=sumle k (by omega)
  rw [mN hk,aO]
  refine Ok.ix hx (Ok.eq (rO (by omega) hN) (Ok.bif (fun hb=>Ok.rt ?_) (fun hb=>Ok.ix hx (Ok.nx ⟨bQ (by omega),?_,fun j r hj hr=>?_⟩))))
  ·exact tf hx hI (by unfold t7;rw [aC (by simpa using hb)])
  ·dsimp only
   rw [wrap_add (by omega),dT hk,dD,List.sum_append]
   simp only [dA,List.map_nil,List.sum_cons,List.sum_nil]
   omega
  ·by_cases e:j=k
   ·subst e;rw [hx] at hr;injection hr with hr;rw [<-hr]
    unfold t7;rw [aD (by simpa using hb)]
   ·exact hI j r (by omega) hr
 ·rintro⟨m,i⟩ e ⟨hm,hI⟩
  dsimp only at e hm ⊢
  subst e
  rw [pz,aM]
  rw [eE] at hm
  exact Ok.br ⟨hm,xn hI⟩
 intro o ho
 refine Ok.cs ho ?_ (fun r hr=>Ok.ret (by rw [hr]))
 rintro⟨m,i⟩ ⟨hm,hf⟩
 dsimp only at hm ⊢
 subst hm
 rw [hf]
 dsimp only
 refine Ok.eq (rO (by omega) hN) (Ok.bif (fun h=>Ok.ret ?_) (fun h=>?_))
 ·rw [aC (by simpa using h)]
 rw [aD (by simpa using h)]
 have hmr:Ok (bif (decide (((a.cL.length+ (a.aI.map List.length).sum:Nat):Int)>2000)) then (some true) else (some (decide (((a.aJ.length:Nat):Int)>500)))) (fun b=>b=decide (2000<a.cL.length+ (a.aI.map List.length).sum\/500<a.aJ.length)):=by
  by_cases h2:2000<a.cL.length+ (a.aI.map List.length).sum
  ·rw [bB (by omega),aO];exact Ok.ret (bB (.inl h2)).symm
  ·rw [bF (by omega),aM]
   refine Ok.ret ?_
   rw [decide_eq_decide];omega
 refine Ok.bind hmr fun b hb=>?_
 subst hb
 refine Ok.bif (fun h=>Ok.ret ?_) (fun h=>?_)
 ·have h:=of_decide_eq_true h
  by_cases h2:2000<a.cL.length+ (a.aI.map List.length).sum
  ·rw [aC h2]
  ·rw [aD h2]
   have hb:gX a=2:=by unfold gX;rw [aC (by omega)]
   rw [hb,aC (by decide)]
 have h:=of_decide_eq_false h
 rw [aD (by omega)]
 have hbe:gX a= (a.aJ.findSome? (kN a.aI.length)).getD 0:=by unfold gX;rw [aD (by omega)]
 have hw:IntKind.wrap .i64 (((a.aI.length:Nat):Int) - 1)= ((a.aI.length:Nat):Int) - 1:=eG (by omega) (by omega)
 refine Ok.bind (Ok.qU (n:=a.aJ.length) (fun s=>s) (fun k _=>∀(j:Nat) b,j<k->a.aJ[j]? =some b->kN a.aI.length b=none) (Go:=fun _=>a.aJ.findSome? (kN a.aI.length)=none) (Rt:=fun r=>a.aJ.findSome? (kN a.aI.length)=some r/\r≠0) ?_ ?_ (eN _) rfl (fun j b hj=>by omega) (by omega)) ?_
 ·rintro k i hk e hI
  subst e
  rw [mN hk,aO]
  have hx:a.aJ[k]? =some a.aJ[k]:=aL hk
  refine Ok.ix hx (Ok.eq wU (Ok.bif (fun hb=>Ok.rt ?_) (fun hb=>?_)))
  ·have hb: (lq a.aJ[k]).2≠0:=by simpa using hb
   exact⟨tf hx hI (by unfold kN;rw [aC hb]),hb⟩
  ·have hb: ¬(lq a.aJ[k]).2≠0:=by simpa using hb
   rw [hw]
   have e2: ((eL N a.aJ[k].cY 0 (((a.aI.length:Nat):Int) - 1)).bind fun x135=>bif (!x135) then (some true) else ((eL N a.aJ[k].To a.aJ[k].cY (((a.aI.length:Nat):Int) - 1)).bind fun x138=>some (!x138)))=some (!(eZ a.aJ[k].cY 0 (((a.aI.length:Nat):Int) - 1)&&eZ a.aJ[k].To a.aJ[k].cY (((a.aI.length:Nat):Int) - 1))):=by
    rw [pR,aB,pR,aB]
    cases eZ a.aJ[k].cY 0 (((a.aI.length:Nat):Int) - 1) <;> rfl
   refine Ok.eq e2 (Ok.bif (fun h3=>Ok.rt ⟨tf hx hI ?_,by decide⟩) (fun h3=>Ok.nx ⟨bQ (by omega),fun j b hj hb'=>?_⟩))
   ·unfold kN
    rw [aD hb,aD (by rintro⟨g1,g2⟩;rw [g1,g2] at h3;cases h3)]
   ·by_cases e:j=k
    ·subst e;rw [hx] at hb';injection hb' with hb';rw [<-hb']
     rw [Bool.not_eq_false',bL] at h3
     unfold kN;rw [aD hb,aC h3]
    ·exact hI j b (by omega) hb'
 ·rintro i e hI
  subst e
  rw [pz,aM]
  exact Ok.br (xn hI)
 intro o ho
 refine Ok.cs ho ?_ (fun r hr=>Ok.ret ?_)
 rotate_left
 ·rw [hbe,hr.1,Option.getD_some,aC hr.2]
 intro _ hbn
 rw [hbe,hbn,Option.getD_none,aD (by decide)]
 unfold lR
 refine Ok.bif (fun h=>Ok.ret ?_) (fun h=>?_)
 ·rw [aC (by have:=of_decide_eq_true h;omega)]
 have h5: ¬1000<a.bG.length:=by have:=of_decide_eq_false h;omega
 rw [aD h5]
 refine Ok.bind (Ok.qU (n:=a.bG.length) (fun s=>s) (fun k _=>∀j,j<k->jl a j=none) (Go:=fun _=>tN a.bG.length (jl a)=none) (Rt:=fun r=>tN a.bG.length (jl a)=some r) ?_ ?_ (eN _) rfl (fun j hj=>by omega) (by omega)) ?_
 ·rintro k i hk e hI
  subst e
  rw [mN hk,aO]
  have hx:a.bG[k]? =some a.bG[k]:=aL hk
  refine Ok.eq (yU (by omega) (by omega) hx (hs.nm _ (cJ hk)) (by omega)) (Ok.bif (fun hb=>Ok.rt ?_) (fun hb=>Ok.nx ⟨bQ (by omega),fun j hj=>?_⟩))
  ·cases hl:jl a k with
   | none=>rw [hl] at hb;cases hb
   | some e=>exact nF.2 ⟨k,hk,hl,hI⟩
  ·by_cases e:j=k
   ·subst e
    cases hl:jl a j with
    | none=>rfl
    | some e=>rw [hl] at hb;exact absurd (by simpa using hb) (yT hl)
   ·exact hI j (by omega)
 ·rintro i e hI
  subst e
  rw [pz,aM]
  exact Ok.br (mL.2 hI)
 intro o ho
 exact Ok.cs ho (fun _ h=>Ok.ret (by rw [h];rfl)) (fun r hr=>Ok.ret (by rw [hr];rfl))
theorem Bc (b:cH) (k:Int):ny N b k=some (jR b k):=rfl
theorem yW {a:iM} {i:Nat} {r:List aH} {s:List aA} (hb:mc a.aJ) (hr:a.aI[i]? =some r) (hrl:r.length<=2000) (hro: ∀x∈r,zQ x) (hd:ru r (jS a.aJ ((i:Nat):Int)) s) (hN:4398046511104<=N):kj N a ((i:Nat):Int)=some (aQ s):=by
 refine Ok.get ?_
 have hbl:=hb.len
 have hhl:=wO hb ((i:Nat):Int)
 have hho:=sZ hb ((i:Nat):Int)
 unfold kj
 refine Ok.bind (Ok.qU (n:=a.aJ.length) (fun s=>s.2) (fun k st=>st.1=jS (a.aJ.take k) ((i:Nat):Int)) (Go:=fun st=>st.1=jS a.aJ ((i:Nat):Int)) (Rt:=fun _=>False) ?_ ?_ (eN _) rfl rfl (by omega)) ?_
 ·rintro k ⟨out,ii⟩ hk e hI
  dsimp only at e hI ⊢
  subst e;subst hI
  have hx:a.aJ[k]? =some a.aJ[k]:=aL hk
  have hts:jS (a.aJ.take (k+1)) ((i:Nat):Int)=if jR a.aJ[k] ((i:Nat):Int)=true then jS (a.aJ.take k) ((i:Nat):Int)++[sW a.aJ[k]] else jS (a.aJ.take k) ((i:Nat):Int):=by
   unfold jS
   rw [dT hk,iO,dD]
   by_cases h:jR a.aJ[k] ((i:Nat):Int)=true
   ·rw [aC h];simp [h]
   ·rw [aD h];simp [h]
  have hlen: (jS (a.aJ.take k) ((i:Nat):Int)).length<=k:=by
   unfold jS
   rw [cE]
   have:=kB (fun b=>jR b ((i:Nat):Int)) (a.aJ.take k)
   rw [cF] at this;omega
  rw [mN hk,aO]
  refine Ok.ix hx (Ok.eq (Bc _ _) (Ok.bind (P:=fun st:List aH=>st=jS (a.aJ.take (k+1)) ((i:Nat):Int)) (Ok.bif (fun h=>?_) (fun h=>Ok.ret ?_)) (fun st hst=>Ok.nx ⟨bQ (by omega),hst⟩)))
  ·refine Ok.ix hx (Ok.eq (nN (hb.ok _ (cJ hk)).1) (Ok.app (by simp only [dE,List.length_nil];omega) (Ok.ret ?_)))
   rw [hts,aC h]
  ·rw [hts,aD (by rw [j4];exact h)]
 ·rintro⟨out,ii⟩ e hI
  dsimp only at e hI ⊢
  subst e
  rw [pz,aM]
  exact Ok.br (by rw [eE] at hI;exact hI)
 intro o ho
 refine Ok.cs ho ?_ (fun r hr=>hr.elim)
 rintro⟨hs,ii⟩ hI
 dsimp only at hI ⊢
 subst hI
 obtain⟨t,_,ht⟩:=nG (N:=N) (l:=jS a.aJ ((i:Nat):Int)) (by omega) (fun x hx=>(hho x hx).1) (by omega)
 obtain⟨z1,z2,z3⟩:=ht.Ct
 have z4:2* (jS a.aJ ((i:Nat):Int)).length* (2* (jS a.aJ ((i:Nat):Int)).length)<=1000*1000:=Nat.mul_le_mul (by omega) (by omega)
 refine Ok.ix hr (Ok.eq (rC ht.can ht.cover (by omega) (fun x hx=>(hho x hx).1.x) (by omega) hN) ?_)
 unfold nz
 have hsz:=(tH (A:=5000) hd.can hd.lim (by rw [cQ,kS,kS];omega) (by rw [cQ,iu,iu];omega)).2.2
 have hc:iQ N r (aQ t) 3=some (aQ s):=CJ hd.can (fun x y=>by
  rw [hd.cover,nH ht.can,ht.cover];unfold pg;simp) (by omega) (by omega) (fun x hx=>(hro x hx).x) (fun x hx=>(qP ht.can x hx).1) (by omega) hN
 rw [hc,aB,aB]
 exact Ok.ret rfl
theorem Ab: ∀(bV:List (List (List aA))) (k:Nat),(aP k bV).length= (bV.map List.length).sum
 | [],k=>rfl
 | ps::bV,k=>by
  show (ps.map _++aP (k+1) bV).length=_
  rw [cQ,cE,Ab bV (k+1),dA,List.sum_cons]
theorem FA {a:iM} {ky:List (List aA)} {bV:List (List (List aA))} (hg:nM a) (hD:uK a.aI a.aJ a.aI.length ky bV) {i:Nat} {s:List aA} (hi:i<a.aI.length) (hd:ky[i]? =some s) (hf: (aQ s).length<=2000): ∃ps u,bV[i]? =some ps/\pj a.aI[i] (jS a.aJ ((i:Nat):Int)) s u ps:=by
 have hp:bV[i]? =some (bV[i]'(by rw [hD.A1];exact hi)):=aL _
 have hdr:=hD.dr i _ _ hi (aL hi) hd
 obtain⟨u,hu⟩:=hD.pt i _ _ hi hd hp
 have hreg:=xe.1 (hg.L3 _ (cJ hi))
 exact⟨_,u,hp,fun x hx=>((p5.1 hreg.1).2 x hx).1,fun x hx=>(sZ hg.gb _ x hx).2,(A0 hreg.1).2,fun x hx=>(sZ hg.gb _ x hx).1,hdr,hu,hf⟩
theorem pj.pieces {r hs:List aH} {s:List aA} {u:Nat->Nat} {ps:List (List aA)} (h:pj r hs s u ps) (hN:4398046511104<=N):iR N (aQ s)=some (ps.map aQ):=by
 refine CM h.dr.can h.pt h.xB (fun q hq=>?_) (fun p hp=>(h.part hp).2.1) hN
 obtain⟨h1,h2,h3⟩:=EC h.r1 h.r2 h.dr.can h.dr.lim q hq
 exact Dt h1 h2 h3
theorem DJ {a b:aH} (ha:a.X0<a.X1/\a.Y0<a.Y1) (hb:b.X0<b.X1/\b.Y0<b.Y1):gT N a b=some (Cz a b):=by
 unfold gT
 rw [vX,vX,vY,vY]
 have e1:decide (min a.X1 b.X1>max a.X0 b.X0)=vU a.X0 a.X1 b.X0 b.X1:=by
  unfold vU
  rw [dZ,bL,bE,bE,bE];omega
 have e2:decide (min a.Y1 b.Y1>max a.Y0 b.Y0)=vU a.Y0 a.Y1 b.Y0 b.Y1:=by
  unfold vU
  rw [dZ,bL,bE,bE,bE];omega
 rw [e1,e2]
 unfold Cz
 cases vU a.X0 a.X1 b.X0 b.X1 <;> rfl
theorem sq_pos {b:cH} (h:ox b=true): (sW b).X0< (sW b).X1/\(sW b).Y0< (sW b).Y1:=by
 obtain⟨h1,_,_⟩:=pN h
 simp only [sW];omega
inductive Checked (N:Nat) (a:iM):Prop
 | err (e:Int) (he:e≠0) (h1:eK N a=some (none,e)) (h2:gF N a=some e)
 | ok {ky:List (List aA)} {bV:List (List (List aA))} {r:Nat->Nat} {gs:List dI} {ofP ofB nr:List Int} {nJ:List bX} (b:ng a ky bV r gs ofP ofB nr nJ)
  (h1:eK N a=some (some (a.aI,a.cL,a.aJ,a.bG,ky,aP 0 bV,eU a.aJ (aP 0 bV),gs,ofP,ofB,nr,nJ),0)) (h2:gF N a=some 0)
theorem EE {a:iM} (hb:mc a.aJ) (hN:4398046511104<=N) {f:Int->Option Int} {Q:Int->Prop} (hc:pf a->Q 12) (hn: ¬pf a->∀s,Ok (f s) Q):
  Ok ((iY (fun(s35:Int)=>(bif (decide (s35< (a.aJ.length:Int))) then ((iY (fun(s622:Int)=>(bif (decide (s622<s35)) then (((idx a.aJ s35).bind fun x869=>(idx a.aJ s622).bind fun x873=>(jN N x869 x873).bind fun x876=>bif x876 then ((idx a.aJ s35).bind fun x879=>(dJ N x879).bind fun x882=>(idx a.aJ s622).bind fun x885=>(dJ N x885).bind fun x888=>(gT N x882 x888).bind fun x890=>some x890) else (some false)).bind fun s867=>bif s867 then (some (.rt 12)) else (some (.nx (IntKind.wrap .i64 (s622+1))))) else (some (.br s622)):Option (Fl (Int) Int))) N 0).bind fun o911=>o911.cs (fun(s622:Int)=>some (.nx (IntKind.wrap .i64 (s35+1)))) (fun r=>some (.rt r))) else (some (.br s35)):Option (Fl (Int) Int))) N 0).bind fun o933=>o933.cs f (fun r=>some r)) Q:=by
 have hbl:=hb.len
 refine Ok.bind (Ok.qU (n:=a.aJ.length) (fun s=>s) (fun k _=>∀(i j:Nat) (x y:cH),i<k->j<i->a.aJ[i]? =some x->a.aJ[j]? =some y->¬pd x y=true) (Go:=fun _=>¬pf a) (Rt:=fun r=>r=12/\pf a) ?_ ?_ (eN _) rfl (fun i j x y hi=>by omega) (by omega)) ?_
 ·rintro k s hk e hI
  subst e
  rw [mN hk,aO]
  have hx:a.aJ[k]? =some a.aJ[k]:=aL hk
  have fx:=(hb.ok _ (cJ hk)).1
  refine Ok.bind (Ok.qU (n:=k) (fun s=>s) (fun t _=>∀(j:Nat) (y:cH),j<t->a.aJ[j]? =some y->¬pd a.aJ[k] y=true) (Go:=fun _=>∀(j:Nat) (y:cH),j<k->a.aJ[j]? =some y->¬pd a.aJ[k] y=true) (Rt:=fun r=>r=12/\pf a) ?_ ?_ (eN _) rfl (fun j y hj=>by omega) (by omega)) ?_
  ·rintro t s ht e hI2
   subst e
   rw [mN ht,aO]
   have hy:a.aJ[t]? =some (a.aJ[t]'(by omega)):=aL _
   have fy:=(hb.ok _ (cJ (show t<a.aJ.length by omega))).1
   have hcond: ((idx a.aJ ((k:Nat):Int)).bind fun x869=>(idx a.aJ ((t:Nat):Int)).bind fun x873=>(jN N x869 x873).bind fun x876=>bif x876 then ((idx a.aJ ((k:Nat):Int)).bind fun x879=>(dJ N x879).bind fun x882=>(idx a.aJ ((t:Nat):Int)).bind fun x885=>(dJ N x885).bind fun x888=>(gT N x882 x888).bind fun x890=>some x890) else (some false))=some (pd a.aJ[k] (a.aJ[t]'(by omega))):=by
    rw [dG hx,aB,dG hy,aB]
    unfold jN pd
    rw [aB]
    cases (decide (a.aJ[k].cY<=(a.aJ[t]'(by omega)).To)&&decide ((a.aJ[t]'(by omega)).cY<=a.aJ[k].To)) with
    | false=>rfl
    | true=>rw [aO,aB,nN fx,aB,aB,nN fy,aB,DJ (sq_pos fx) (sq_pos fy),aB,Bool.true_and]
   refine Ok.eq hcond (Ok.bif (fun h=>Ok.rt ⟨rfl,k,t,_,_,ht,hx,hy,h⟩) (fun h=>Ok.nx ⟨bQ (by omega),fun j y hj hjy=>?_⟩))
   by_cases e:j=t
   ·subst e;rw [hy] at hjy;injection hjy with hjy;rw [<-hjy,h];exact mP
   ·exact hI2 j y (by omega) hjy
  ·rintro s e hI2
   subst e
   rw [pz,aM]
   exact Ok.br hI2
  intro o ho
  refine Ok.cs ho (fun s hs=>Ok.nx ⟨bQ (by omega),fun i j x y hi hj hix hjy=>?_⟩) (fun r hr=>Ok.rt hr)
  by_cases e:i=k
  ·subst e;rw [hx] at hix;injection hix with hix;rw [<-hix];exact hs j y hj hjy
  ·exact hI i j x y (by omega) hj hix hjy
 ·rintro s e hI
  subst e
  rw [pz,aM]
  refine Ok.br ?_
  rintro⟨i,j,x,y,hij,hx,hy,hc⟩
  exact hI i j x y (aU.1 hx).1 hij hx hy hc
 intro o ho
 exact Ok.cs ho (fun s hs=>hn hs s) (fun r hr=>Ok.ret (by rw [hr.1];exact hc hr.2))
theorem checked {a:iM} (hs:qM a) (hN:4398046511104<=N):Checked N a:=by
 obtain⟨x,hx,hI⟩:=z5 (N:=N) hs hN
 have hbe:=CP a
 have hcp:=xC (N:=N) hs hN
 rcases hI with ⟨he,rfl⟩ | ⟨h0,hg,hcl,ky,bV,D,hI⟩
 ·refine .err _ he hx (Ok.get ?_)
  unfold gF
  refine Ok.eq hcp ?_
  by_cases h:kU a≠0
  ·rw [aC h] at hbe
   rw [show (kU a != 0)=true by simpa using h,aO,hbe];exact Ok.ret rfl
  ·rw [aD h] at hbe
   have hp0:kU a=0:=by simpa using h
   have hc:pf a:=by
    by_cases hc:pf a
    ·exact hc
    ·rw [aD hc] at hbe;exact absurd hbe he
   rw [aC hc] at hbe
   rw [hp0,show ((0:Int) != 0)=false by rfl,aM]
   have hbo:=yV hp0
   refine EE ⟨(k6 hbo).1,fun b hb=>⟨((k6 hbo).2 b hb).1,((k6 hbo).2 b hb).2.1⟩⟩ hN (fun _=>hbe.symm) (fun h=>absurd hc h)
 ·have hp0:kU a=0:=by
   by_cases h:kU a≠0
   ·rw [aC h] at hbe;rw [hbe] at h0;exact h0
   ·simpa using h
  have key:gF N a=some (if Jk ky bV then 0 else 2):=by
   refine Ok.get ?_
   unfold gF
   refine Ok.eq hcp ?_
   rw [hp0,show ((0:Int) != 0)=false by rfl,aM]
   refine EE hg.gb hN (fun h=>absurd h hcl) (fun _ _=>?_)
   have hc16:=hg.xB.2
   refine Ok.bind (Ok.qU (n:=a.aI.length) (fun s=>s.2) (fun k st=>st.1= ((((bV.take k).map List.length).sum:Nat):Int)/\((bV.take k).map List.length).sum<=k*2000/\∀(j:Nat) s,j<k->ky[j]? =some s->(aQ s).length<=2000)
    (Go:=fun st=>st.1= (((bV.map List.length).sum:Nat):Int)/\∀s∈ky,(aQ s).length<=2000) (Rt:=fun r=>r=2/\¬Jk ky bV) ?_ ?_ (eN _) rfl ⟨by simp,by simp,fun j s hj=>by omega⟩ (by omega)) ?_
   ·rintro k ⟨m,i⟩ hk e ⟨hm,hml,hI2⟩
    dsimp only at e hm ⊢
    subst e;subst hm
    rw [mN hk,aO]
    have hcx:a.aI[k]? =some a.aI[k]:=aL hk
    have hd:ky[k]? =some (ky[k]'(by rw [D.len];exact hk)):=aL _
    have hcs:=hg.cs _ (cJ hk)
    refine Ok.eq (yW hg.gb hcx hcs.1 hcs.2 (D.dr k _ _ hk hcx hd) hN) (Ok.bif (fun h=>Ok.rt ⟨rfl,fun hf=>?_⟩) (fun h=>?_))
    ·have:=hf.1 _ (dU hd)
     have:=of_decide_eq_true h
     omega
    ·have hf: (aQ (ky[k]'(by rw [D.len];exact hk))).length<=2000:=by have:=of_decide_eq_false h;omega
     obtain⟨ps,u,hp,L⟩:=FA hg D hk hd hf
     have hpl:=L.pt.xB
     have hkp:k<bV.length:=by rw [D.A1];exact hk
     have hpe:bV[k]=ps:=by rw [aL hkp] at hp;injection hp
     refine Ok.eq (L.pieces hN) (Ok.nx ⟨bQ (by omega),?_,?_,fun j s hj hjs=>?_⟩)
     ·dsimp only
      rw [cE,wrap_add (by omega),dT hkp,dD,List.sum_append,hpe]
      simp
     ·rw [dT hkp,dD,List.sum_append,hpe]
      simp only [dA,List.map_nil,List.sum_cons,List.sum_nil]
      rw [Nat.add_mul];omega
     ·by_cases e:j=k
      ·subst e;rw [hd] at hjs;injection hjs with hjs;rw [<-hjs];exact hf
      ·exact hI2 j s (by omega) hjs
   ·rintro⟨m,i⟩ e ⟨hm,hml,hI2⟩
    dsimp only at e hm ⊢
    subst e
    rw [pz,aM]
    rw [lj (by rw [D.A1];exact bD _)] at hm
    refine Ok.br ⟨hm,fun s hs'=>?_⟩
    obtain⟨j,hj⟩:=dF hs'
    exact hI2 j s (by have:=(aU.1 hj).1;rw [D.len] at this;exact this) hj
   intro o ho
   refine Ok.cs ho ?_ (fun r hr=>Ok.ret (by rw [hr.1,aD hr.2]))
   rintro⟨m,i⟩ ⟨hm,hf⟩
   dsimp only at hm ⊢
   subst hm
   have hpl:=Ab bV 0
   refine Ok.bif (fun h=>Ok.ret ?_) (fun h=>Ok.ret ?_)
   ·rw [aD]
    rintro⟨_,h2⟩
    have:=of_decide_eq_true h
    omega
   ·rw [aC]
    exact⟨hf,by have:=of_decide_eq_false h;omega⟩
  rcases hI with ⟨hf,rfl⟩ | ⟨hf,r,gs,ofP,ofB,nr,nJ,hC,rfl⟩
  ·rw [aD hf] at key
   exact .err 2 (by decide) hx key
  ·rw [aC hf] at key
   exact .ok ⟨hg,hcl,D,hf,hC⟩ hx key
end
end Go.Gk
namespace Go.Gk
open Go Classical
theorem G5 {l:List Nat} (h:l.Pairwise (· < ·)):iC (ints l):=by
 unfold iC ints
 rw [List.pairwise_map]
 exact h.imp fun h=>by omega
section
variable {N:Nat}
end
section
variable {N:Nat} {a:iM} {ky:List (List aA)} {bV:List (List (List aA))} {r:Nat->Nat} {gs:List dI} {ofP ofB nr:List Int} {nJ:List bX}
end
end Go.Gk
namespace Go.Gk
open Go Classical
structure PS (n:Nat) (r:Nat->Nat) (h:Nat) (q:List Nat) (seen:List Bool) (pieces todo:List Int):Prop where
 sl:seen.length=n
 sn: ∀p,p<n->seen[p]? =some (decide (r p<h\/p∈q))
 qn:q.Nodup
 qi: ∀p∈q,p<n/\r p=h
 q0:h∈q
 td:todo=ints q
 pi:iC pieces
 pm: ∀x,x∈pieces↔∃p∈q,x= ((p:Nat):Int)
structure QS (n m:Nat) (tch:List (List Int)) (r:Nat->Nat) (h:Nat) (q qb:List Nat) (vS:List Int) (used:List Bool):Prop where
 ul:used.length=m
 un: ∀k,k<m->used[k]? =some (decide (k∈qb))
 bi:iC vS
 bm: ∀x,x∈vS↔∃k∈qb,x= ((k:Nat):Int)
 bk: ∀k∈qb,k<m/\r (n+k)=h/\∀l,tch[k]? =some l->∀p:Nat,((p:Nat):Int)∈l->p∈q
theorem PS.xB {n:Nat} {r:Nat->Nat} {h:Nat} {q:List Nat} {seen:List Bool} {pieces todo:List Int} (H:PS n r h q seen pieces todo):q.length<=n/\pieces.length<=n:=by
 have h1:=eC H.qn (m:=List.range n) (fun k hk=>by rw [my];exact(H.qi k hk).1)
 rw [List.length_range] at h1
 have h2:=eC H.pi.nodup (m:=ints q) (fun x hx=>yH.2 ((H.pm x).1 hx))
 rw [mw] at h2
 exact⟨h1,by omega⟩
theorem QS.xB {n m:Nat} {tch:List (List Int)} {r:Nat->Nat} {h:Nat} {q qb:List Nat} {vS:List Int} {used:List Bool} (H:QS n m tch r h q qb vS used):vS.length<=m:=by
 have h2:=eC H.bi.nodup (m:=ints (List.range m)) (fun x hx=>by
  obtain⟨k,hk,e⟩:=(H.bm x).1 hx
  exact yH.2 ⟨k,my.2 (H.bk k hk).1,e⟩)
 rwa [mw,List.length_range] at h2
section
variable {N:Nat}
end
end Go.Gk
namespace Go.Gk
open Go Classical
structure Mf (G G':List dI):Prop where
 len:G'.length=G.length
 each: ∀(g:Nat) x,G[g]? =some x->∃y,G'[g]? =some y/\y.n7=x.n7/\y.aJ=x.aJ
section
variable {N:Nat}
end
section
variable {N:Nat} {a:iM} {ky:List (List aA)} {bV:List (List (List aA))} {r:Nat->Nat} {gs:List dI} {ofP ofB nr:List Int} {nJ:List bX}
theorem ng.Ex (b:ng a ky bV r gs ofP ofB nr nJ):qR a:=Fz b.Ja.Ex
end
end Go.Gk
namespace Go.Gk
open Go Classical
section
variable {N:Nat} {a:iM} {ky:List (List aA)} {bV:List (List (List aA))} {r:Nat->Nat} {gs:List dI} {ofP ofB nr:List Int} {nJ:List bX}
end
section
variable {N:Nat}
end
end Go.Gk
namespace Go.Gk
open Go Classical
section
variable {bs:List cH} {ls:List eW} {pcs:List aN} {r:Nat->Nat} {gs:List dI} {ofP ofB nr:List Int} {nJ:List bX}
end
section
variable {N:Nat} {a:iM} {ky:List (List aA)} {bV:List (List (List aA))} {r:Nat->Nat} {gs:List dI} {ofP ofB nr:List Int} {nJ:List bX}
end
section
variable {N:Nat}
end
end Go.Gk
namespace Go.Gk
open Go Classical
section
variable {N:Nat} {a:iM} {ky:List (List aA)} {bV:List (List (List aA))} {r:Nat->Nat} {gs:List dI} {ofP ofB nr:List Int} {nJ:List bX}
theorem Ac (g:qR a) (p:fL) (hN:4398046511104<=N):ig N a p=some (po a p):=by
 obtain⟨r,h1,h2⟩:=CN (N:=N) (p:=p) g.up (by have:=g.xB;omega) (by omega) (φ:=gY N) (fun x=>by unfold gY;rw [wN,aB,rN,aB])
 unfold ig
 have e:fA N a.bG p (gY N)=Gt N a.bG p (gY N):=rfl
 rw [e,h1,aB];exact h2
end
section
variable {N:Nat}
end
end Go.Gk
namespace Go.Gk
open Go Classical
structure oJ (A:Nat->Nat->Prop) (s:Nat) (F:Nat->Option Nat):Prop where
 zero:F s=some 0
 FG: ∀v,F v=some 0->v=s
 back: ∀v d,F v=some (d+1)->∃u,A u v/\F u=some d
 step: ∀u v d,A u v->F u=some d->∃e,F v=some e/\e<=d+1
section
variable {A:Nat->Nat->Prop} {s:Nat} {F G:Nat->Option Nat}
theorem oJ.le (hF:oJ A s F) (hG:oJ A s G): ∀(d v:Nat),F v=some d->∃e,G v=some e/\e<=d
 | 0,v,h=>⟨0,by rw [hF.FG v h];exact hG.zero,bD _⟩
 | d+1,v,h=>by
  obtain⟨u,h1,h2⟩:=hF.back v d h
  obtain⟨e,h3,h4⟩:=oJ.le hF hG d u h2
  obtain⟨e',h5,h6⟩:=hG.step u v e h1 h3
  exact⟨e',h5,by omega⟩
theorem oJ.uniq (hF:oJ A s F) (hG:oJ A s G):F=G:=funext fun v=>by
 cases hf:F v with
 | none=>
  cases hg:G v with
  | none=>rfl
  | some e=>
   obtain⟨e',h1,_⟩:=hG.le hF e v hg
   rw [hf] at h1;cases h1
 | some d=>
  obtain⟨e,h1,h2⟩:=hF.le hG d v hf
  obtain⟨e',h3,h4⟩:=hG.le hF e v h1
  rw [hf] at h3;injection h3 with h3
  rw [h1];congr 1;omega
theorem oJ.reach (hF:oJ A s F) (v:Nat):F v≠none↔∀S:Nat->Prop,S s->(∀a b,A a b->S a->S b)->S v:=by
 constructor
 ·intro h S h0 hS
  have key: ∀(d v:Nat),F v=some d->S v:=by
   intro d
   induction d with
   | zero=>intro v hv;rw [hF.FG v hv];exact h0
   | succ d ih=>
    intro v hv
    obtain⟨u,h1,h2⟩:=hF.back v d hv
    exact hS u v h1 (ih u h2)
  cases hv:F v with
  | none=>exact absurd hv h
  | some d=>exact key d v hv
 ·intro h
  refine h (fun x=>F x≠none) (by rw [hF.zero];exact fun h=>by cases h) (fun a b hab ha=>?_)
  cases hv:F a with
  | none=>exact absurd hv ha
  | some d=>
   obtain⟨e,h1,_⟩:=hF.step a b d hab hv
   rw [h1];exact fun h=>by cases h
end
def xp (adj:Nat->List Nat) (F:Nat->Option Nat) (d h:Nat):Nat:=((adj h).find? (fun n=>decide (F n=some d))).getD 0
def oj (adj:Nat->List Nat) (F:Nat->Option Nat):Nat->Nat->List Nat
 | 0,h=>[h]
 | d+1,h=>h::oj adj F d (xp adj F d h)
section
variable {A:Nat->Nat->Prop} {adj:Nat->List Nat} {s:Nat} {F:Nat->Option Nat}
theorem v7 (hF:oJ A s F) (hA: ∀u v,A u v->u∈adj v) {d h:Nat} (e:F h=some (d+1)):xp adj F d h∈adj h/\F (xp adj F d h)=some d/\(adj h).find? (fun n=>decide (F n=some d))=some (xp adj F d h):=by
 obtain⟨u,h1,h2⟩:=hF.back h d e
 unfold xp
 cases hf: (adj h).find? (fun n=>decide (F n=some d)) with
 | none=>
  have:=List.find?_eq_none.1 hf u (hA u h h1)
  simp [h2] at this
 | some n=>
  rw [Option.getD_some]
  exact⟨List.mem_of_find?_eq_some hf,by simpa using List.find?_some hf,rfl⟩
theorem qS: ∀(d h:Nat),(oj adj F d h).length=d+1
 | 0,h=>rfl
 | d+1,h=>by unfold oj;rw [dE,qS d]
theorem v8 (hF:oJ A s F) (hA: ∀u v,A u v->u∈adj v): ∀(d h:Nat),F h=some d->∀(i x:Nat),(oj adj F d h)[i]? =some x->i<=d/\F x=some (d - i)
 | 0,h,e,i,x,hx=>by
  have hi:i=0:=by have:=(aU.1 hx).1;rw [qS] at this;omega
  subst hi
  have:x=h:=by simpa [oj] using hx.symm
  subst this;exact⟨bD _,e⟩
 | d+1,h,e,i,x,hx=>by
  unfold oj at hx
  cases i with
  | zero=>
   have:x=h:=by simpa using hx.symm
   subst this;exact⟨by omega,e⟩
  | succ i=>
   rw [List.getElem?_cons_succ] at hx
   obtain⟨h1,h2⟩:=v8 hF hA d _ (v7 hF hA e).2.1 i x hx
   exact⟨by omega,by rw [h2];congr 1;omega⟩
theorem Ad (d h:Nat): (oj adj F d h)[0]? =some h:=by cases d <;> rfl
theorem FB (hF:oJ A s F) (hA: ∀u v,A u v->u∈adj v) {d h:Nat} (e:F h=some d): (oj adj F d h)[d]? =some s:=by
 have hlt:d< (oj adj F d h).length:=by rw [qS];omega
 have hx:=aL hlt
 obtain⟨_,h2⟩:=v8 hF hA d h e d _ hx
 rw [Nat.sub_self] at h2
 rw [hx,hF.FG _ h2]
theorem CQ (hF:oJ A s F) (hA: ∀u v,A u v->u∈adj v): ∀(d h:Nat),F h=some d->∀(i x y:Nat),(oj adj F d h)[i]? =some x->(oj adj F d h)[i+1]? =some y->y∈adj x
 | 0,h,e,i,x,y,hx,hy=>by
  have:=(aU.1 hy).1
  rw [qS] at this;omega
 | d+1,h,e,i,x,y,hx,hy=>by
  unfold oj at hx hy
  rw [List.getElem?_cons_succ] at hy
  cases i with
  | zero=>
   have:x=h:=by simpa using hx.symm
   subst this
   rw [Ad] at hy;injection hy with hy
   subst hy;exact(v7 hF hA e).1
  | succ i=>
   rw [List.getElem?_cons_succ] at hx
   exact CQ hF hA d _ (v7 hF hA e).2.1 i x y hx hy
theorem DK (hF:oJ A s F) (hA: ∀u v,A u v->u∈adj v) {d h:Nat} (e:F h=some d) {i j x:Nat} (hi: (oj adj F d h)[i]? =some x) (hj: (oj adj F d h)[j]? =some x):i=j:=by
 obtain⟨h1,h2⟩:=v8 hF hA d h e i x hi
 obtain⟨h3,h4⟩:=v8 hF hA d h e j x hj
 rw [h2] at h4;injection h4 with h4;omega
end
structure BQ (A:Nat->Nat->Prop) (s t:Nat) (F:Nat->Option Nat) (ord:List Nat) (p:Nat):Prop where
 mem: ∀v,F v≠none↔v∈ord
 nd:ord.Nodup
 lt: ∀v∈ord,v<t
 zero:F s=some 0
 FG: ∀v,F v=some 0->v=s
 back: ∀v d,F v=some (d+1)->∃u,A u v/\F u=some d
 fin: ∀(j u:Nat),j<p->ord[j]? =some u->∀v d,A u v->F u=some d->∃e,F v=some e/\e<=d+1
 up: ∀(i j u v:Nat),i<=j->ord[i]? =some u->ord[j]? =some v->∀d e,F u=some d->F v=some e->d<=e
 HX: ∀u d,ord[p]? =some u->F u=some d->∀v e,F v=some e->e<=d+1
section
variable {A:Nat->Nat->Prop} {s t p:Nat} {F:Nat->Option Nat} {ord:List Nat}
theorem CR {l:List Nat} (h:l.Nodup) {t:Nat} (hl: ∀v∈l,v<t):l.length<=t:=by
 have:=eC h (m:=List.range t) (fun v hv=>my.2 (hl v hv))
 rwa [List.length_range] at this
theorem BQ.len (h:BQ A s t F ord p):ord.length<=t:=CR h.nd h.lt
theorem BQ.start (A:Nat->Nat->Prop) {s t:Nat} (hs:s<t):BQ A s t (fun x=>if x=s then some 0 else none) [s] 0 where
 mem:=fun v=>by
  by_cases e:v=s
  ·simp [e]
  ·simp [e]
 nd:=by simp
 lt:=fun v hv=>by simp at hv;omega
 zero:=aC rfl
 FG:=fun v hv=>by
  by_cases e:v=s
  ·exact e
  ·simp [e] at hv
 back:=fun v d hv=>by
  by_cases e:v=s
  ·simp [e] at hv
  ·simp [e] at hv
 fin:=fun j u hj=>by omega
 up:=fun i j u v hij hu hv d e hd he=>by
  by_cases e1:u=s
  ·simp [e1] at hd;omega
  ·simp [e1] at hd
 HX:=fun u d hu hd v e he=>by
  by_cases e1:v=s
  ·simp [e1] at he;omega
  ·simp [e1] at he
theorem BQ.push (h:BQ A s t F ord p) {u v d:Nat} (hu:ord[p]? =some u) (hd:F u=some d) (hv:A u v) (hvt:v<t) (hn:F v=none):BQ A s t (fun x=>if x=v then some (d+1) else F x) (ord++[v]) p:=by
 have hvo:v∉ord:=fun hm=>absurd hn ((h.mem v).2 hm)
 have ne: ∀{x e:Nat},F x=some e->x≠v:=fun{x e} hx hxv=>by rw [hxv,hn] at hx;cases hx
 have hold: ∀{i x:Nat},i<ord.length->(ord++[v])[i]? =some x->ord[i]? =some x:=fun{i x} hi hx=>by rwa [fz hi] at hx
 have hpl:=(aU.1 hu).1
 have hmax: ∀{x e:Nat},F x=some e->e<=d+1:=fun{x e} hx=>h.HX u d hu hd x e hx
 refine⟨fun x=>?_,?_,fun x hx=>?_,?_,fun x hx=>?_,fun x e hx=>?_,fun j x hj hx y e hxy he=>?_,fun i j x y hij hx hy a b ha hb=>?_,fun x e hx he y a ha=>?_⟩
 ·rw [cV,pA,<-h.mem]
  by_cases e:x=v
  ·simp [e]
  ·simp [e]
 ·rw [List.nodup_append]
  exact⟨h.nd,by simp,fun a ha b hb=>by rw [pA] at hb;subst hb;exact fun e=>hvo (e▸ha)⟩
 ·rcases cV.1 hx with hx | hx
  ·exact h.lt x hx
  ·rw [pA] at hx;omega
 ·rw [aD (ne h.zero)];exact h.zero
 ·by_cases e:x=v
  ·rw [aC e] at hx;injection hx with hx;omega
  ·rw [aD e] at hx;exact h.FG x hx
 ·by_cases e1:x=v
  ·rw [aC e1] at hx;injection hx with hx
   have:e=d:=by omega
   subst this
   exact⟨u,e1▸hv,by rw [aD (ne hd)];exact hd⟩
  ·rw [aD e1] at hx
   obtain⟨y,h1,h2⟩:=h.back x e hx
   exact⟨y,h1,by rw [aD (ne h2)];exact h2⟩
 ·have hx:=hold (by omega) hx
  have hxv:x≠v:=fun e1=>hvo (e1▸dU hx)
  rw [aD hxv] at he
  obtain⟨b,h1,h2⟩:=h.fin j x hj hx y e hxy he
  exact⟨b,by rw [aD (ne h1)];exact h1,h2⟩
 ·by_cases hj:j<ord.length
  ·have hx:=hold (by omega) hx
   have hy:=hold hj hy
   have hxv:x≠v:=fun e1=>hvo (e1▸dU hx)
   have hyv:y≠v:=fun e1=>hvo (e1▸dU hy)
   rw [aD hxv] at ha
   rw [aD hyv] at hb
   exact h.up i j x y hij hx hy a b ha hb
  ·have hyv:y=v:=by
    rw [fI (by omega)] at hy
    have:j - ord.length=0:=by
     have:=(aU.1 hy).1
     simp at this;omega
    rw [this] at hy;simpa using hy.symm
   rw [aC hyv] at hb;injection hb with hb
   by_cases e1:x=v
   ·rw [aC e1] at ha;injection ha with ha;omega
   ·rw [aD e1] at ha
    have:=hmax ha;omega
 ·have hx:=hold hpl hx
  rw [hu] at hx;injection hx with hx;subst hx
  rw [aD (ne hd),hd] at he;injection he with he;subst he
  by_cases e1:y=v
  ·rw [aC e1] at ha;injection ha with ha;omega
  ·rw [aD e1] at ha;exact hmax ha
theorem BQ.next (h:BQ A s t F ord p) {u d:Nat} (hu:ord[p]? =some u) (hd:F u=some d) (hall: ∀v,A u v->F v≠none):BQ A s t F ord (p+1):=by
 refine⟨h.mem,h.nd,h.lt,h.zero,h.FG,h.back,fun j x hj hx v e hxv he=>?_,h.up,fun x e hx he v b hb=>?_⟩
 ·by_cases e1:j<p
  ·exact h.fin j x e1 hx v e hxv he
  ·have:j=p:=by omega
   subst this
   rw [hu] at hx;injection hx with hx;subst hx
   rw [hd] at he;injection he with he;subst he
   cases hv:F v with
   | none=>exact absurd hv (hall v hxv)
   | some b=>exact⟨b,rfl,h.HX u d hu hd v b hv⟩
 ·have h1:=h.up p (p+1) u x (by omega) hu hx d e hd he
  have h2:=h.HX u d hu hd v b hb
  omega
theorem BQ.done (h:BQ A s t F ord p) (hp:ord.length<=p):oJ A s F where
 zero:=h.zero
 FG:=h.FG
 back:=h.back
 step:=fun u v d huv hu=>by
  have hm:u∈ord:=(h.mem u).1 (by rw [hu];exact fun e=>by cases e)
  obtain⟨j,hj⟩:=dF hm
  have:=(aU.1 hj).1
  exact h.fin j u (by omega) hj v d huv hu
end
end Go.Gk
namespace Go.Gk
open Go Classical
def bK (n v:Nat):bX:=if v<n then ⟨false,((v:Nat):Int)⟩ else ⟨true,((v - n:Nat):Int)⟩
theorem nK {n u v:Nat} (h:bK n u=bK n v):u=v:=by
 unfold bK at h
 by_cases h1:u<n
 ·by_cases h2:v<n
  ·rw [aC h1,aC h2] at h;injection h with _ h;omega
  ·rw [aC h1,aD h2] at h;injection h with h _;cases h
 ·by_cases h2:v<n
  ·rw [aD h1,aC h2] at h;injection h with h _;cases h
  ·rw [aD h1,aD h2] at h;injection h with _ h;omega
theorem CS {bs:List cH} {n m:Nat} {h:bX} (hh:Iy bs n m h):bK n (fB n h)=h/\fB n h<n+m:=by
 obtain⟨k,e,h1,h2⟩:=hh.num
 obtain⟨B,q⟩:=h
 dsimp only at e h1 h2
 subst e
 unfold bK fB
 cases B with
 | true=>
  have:=(h1 rfl).1
  rw [aC rfl,cA,aD (by omega)]
  exact⟨by congr 1;omega,by omega⟩
 | false=>
  have:=h2 rfl
  rw [aD mP,cA,aC this]
  exact⟨rfl,by omega⟩
def fK (n:Nat) (tch:List (List Int)) (v:Nat):List Nat:=if v<n then ((List.range tch.length).filter (fun k=>decide (((v:Nat):Int)∈tch.getD k []))).map (fun k=>n+k) else (tch.getD (v - n) []).map Int.toNat
structure v9 (n m:Nat) (tch:List (List Int)):Prop where
 len:tch.length=m
 nb:n<=1000000
 mb:m<=1000000
 inc: ∀l∈tch,iC l
 nat: ∀l∈tch,∀x∈l,∃i:Nat,i<n/\x= ((i:Nat):Int)
 xB: ∀l∈tch,l.length<=1000000
section
variable {n m:Nat} {tch:List (List Int)}
theorem rF (h:v9 n m tch) {u v:Nat}:v∈fK n tch u↔Lk n tch u v\/Lk n tch v u:=by
 unfold fK
 by_cases hu:u<n
 ·rw [aC hu,cP]
  constructor
  ·rintro⟨k,hk,rfl⟩
   obtain⟨h1,h2⟩:=iN.1 hk
   have h1:=my.1 h1
   rw [bE,List.getD_eq_getElem?_getD,aL h1] at h2
   exact .inl ⟨k,_,aL h1,h2,rfl⟩
  ·rintro(⟨k,l,h1,h2,h3⟩ | ⟨k,l,h1,h2,h3⟩)
   ·refine⟨k,iN.2 ⟨my.2 (aU.1 h1).1,?_⟩,h3.symm⟩
    rw [bE,List.getD_eq_getElem?_getD,h1];exact h2
   ·omega
 ·rw [aD hu,cP]
  constructor
  ·rintro⟨x,hx,rfl⟩
   rw [List.getD_eq_getElem?_getD] at hx
   cases hl:tch[u - n]? with
   | none=>rw [hl] at hx;cases hx
   | some l=>
    rw [hl] at hx
    obtain⟨i,hi,rfl⟩:=h.nat l (dU hl) x hx
    exact .inr ⟨u - n,l,hl,hx,by omega⟩
  ·rintro(⟨k,l,h1,h2,h3⟩ | ⟨k,l,h1,h2,h3⟩)
   ·obtain⟨i,hi,e⟩:=h.nat l (dU h1) _ h2
    omega
   ·refine⟨((v:Nat):Int),?_,by omega⟩
    rw [List.getD_eq_getElem?_getD,show u - n=k by omega,h1];exact h2
theorem yX (h:v9 n m tch) {u v:Nat} (hv:v∈fK n tch u):u∈fK n tch v:=(rF h).2 ((rF h).1 hv).symm
theorem EF (h:v9 n m tch) {u v:Nat} (hv:Lk n tch u v):u<n/\n<=v/\v<n+m:=by
 obtain⟨k,l,h1,h2,h3⟩:=hv
 obtain⟨i,hi,e⟩:=h.nat l (dU h1) _ h2
 have:=(aU.1 h1).1
 rw [h.len] at this
 exact⟨by omega,by omega,by omega⟩
theorem Jd (h:v9 n m tch) {u v:Nat} (hv:v∈fK n tch u):v<n+m:=by
 rcases (rF h).1 hv with h1 | h1
 ·exact(EF h h1).2.2
 ·have:=(EF h h1).1;omega
theorem EG (h:v9 n m tch) (u:Nat): (fK n tch u).length<=1000000:=by
 unfold fK
 split
 ·rw [cE]
  have:=kB (fun k=>decide (((u:Nat):Int)∈tch.getD k [])) (List.range tch.length)
  rw [List.length_range] at this
  have:=h.len;have:=h.mb;omega
 ·rw [cE,List.getD_eq_getElem?_getD]
  cases hl:tch[u - n]? with
  | none=>simp
  | some l=>exact h.xB l (dU hl)
end
section
variable {N:Nat}
theorem t8 {l:List Int} {c:Int} (hi:iC l) (hl:l.length<=1000000) (hN:4398046511104<=N):Ok (gr N l c) (fun r=>r.2=decide (c∈l)):=by
 unfold gr
 have hlt: ∀(i j:Nat) (x y:Int),i<j->l[i]? =some x->l[j]? =some y->x<y:=fun i j x y hij hx hy=>by
  obtain⟨h1,rfl⟩:=aU.1 hx
  obtain⟨h2,rfl⟩:=aU.1 hy
  exact kA.1 hi i j h1 h2 hij
 refine Ok.bind (Ok.iY (fun st=>∃a b:Nat,st= (((a:Nat):Int),((b:Nat):Int))/\a<=b/\b<=l.length/\(∀(k:Nat) x,k<a->l[k]? =some x->x<c)/\(∀(k:Nat) x,b<=k->l[k]? =some x->c<=x)) (fun st=>(st.2 - st.1).toNat)
  (Go:=fun st=>∃a:Nat,st.1= ((a:Nat):Int)/\a<=l.length/\(∀(k:Nat) x,k<a->l[k]? =some x->x<c)/\(∀(k:Nat) x,a<=k->l[k]? =some x->c<=x)) (Rt:=fun _=>False) ?_ ⟨0,l.length,rfl,eN _,bD _,fun k x hk=>by omega,fun k x hk hx=>by have:=(aU.1 hx).1;omega⟩ (by dsimp only;omega)) ?_
 ·rintro st ⟨a,b,rfl,hab,hb,h1,h2⟩
  dsimp only
  by_cases h:a<b
  ·rw [bB (show ((a:Nat):Int)< ((b:Nat):Int) by omega),aO,zM h (by omega)]
   have hml: (a+b) / 2<l.length:=by omega
   have hx:l[(a+b) / 2]? =some l[(a+b) / 2]:=aL hml
   have hc:mW N l[(a+b) / 2] c=some (decide (l[(a+b) / 2]<c)):=by
    unfold mW ml
    simp
   refine Ok.ix hx (Ok.eq hc ?_)
   by_cases hlc:l[(a+b) / 2]<c
   ·rw [bB hlc,aO,bQ (by omega),aB]
    refine Ok.nx ⟨⟨(a+b) / 2+1,b,rfl,by omega,hb,fun k x hk hxk=>?_,h2⟩,by dsimp only;omega⟩
    by_cases e:k= (a+b) / 2
    ·subst e;rw [hx] at hxk;injection hxk with hxk;omega
    ·have:=hlt k _ x _ (by omega) hxk hx;omega
   ·rw [bF hlc,aM,aB]
    refine Ok.nx ⟨⟨a,(a+b) / 2,rfl,by omega,by omega,h1,fun k x hk hxk=>?_⟩,by dsimp only;omega⟩
    by_cases e:k= (a+b) / 2
    ·subst e;rw [hx] at hxk;injection hxk with hxk;omega
    ·have:=hlt _ k _ x (by omega) hx hxk;omega
  ·rw [bF (show ¬((a:Nat):Int)< ((b:Nat):Int) by omega),aM]
   have:a=b:=by omega
   subst this
   exact Ok.br ⟨a,rfl,hb,h1,h2⟩
 ·intro o ho
  refine Ok.cs ho ?_ (fun r hr=>hr.elim)
  rintro⟨i,j⟩ ⟨a,h0,ha,h1,h2⟩
  dsimp only at h0 ⊢
  subst h0
  by_cases iT:a<l.length
  ·have hx:l[a]? =some l[a]:=aL iT
   rw [bB (show ((a:Nat):Int)< ((l.length:Nat):Int) by omega),aO]
   by_cases e:l[a]=c
   ·refine Ok.eq (x:=true) (by rw [dG hx,aB,e,BEq.rfl,aO]) (Ok.ret ?_)
    rw [bB (e▸cJ iT)]
   ·refine Ok.eq (x:=false) (by
     rw [dG hx,aB,show (l[a]==c)=false by rw [beq_eq_false_iff_ne];exact e,aM,aB]
     unfold kh
     simp) (Ok.ret ?_)
    have hn:c∉l:=fun hm=>by
     obtain⟨k,hk⟩:=dF hm
     by_cases hka:k<a
     ·have:=h1 k c hka hk;omega
     ·by_cases hke:k=a
      ·subst hke;rw [hx] at hk;injection hk with hk;exact e hk
      ·have h3:=hlt a k _ _ (by omega) hx hk
       have h4:=h2 a _ (bD _) hx
       omega
    rw [bF hn]
  ·rw [bF (show ¬((a:Nat):Int)< ((l.length:Nat):Int) by omega),aM]
   refine Ok.eq (x:=false) rfl (Ok.ret ?_)
   have hn:c∉l:=fun hm=>by
    obtain⟨k,hk⟩:=dF hm
    have:=(aU.1 hk).1
    have:=h1 k c (by omega) hk;omega
   rw [bF hn]
variable {n m:Nat} {tch:List (List Int)}
theorem EH (h:v9 n m tch) {v:Nat} (hv:v<n+m) (hN:4398046511104<=N):fR N tch (bK n v)=some ((fK n tch v).map (bK n)):=by
 have hn:=h.nb
 have hm:=h.mb
 have hl:=h.len
 unfold fR bK
 by_cases hvn:v<n
 ·rw [aC hvn]
  simp only [aM]
  refine Ok.get ?_
  refine Ok.bind (Ok.lV (fun k s=>s= (((List.range k).filter (fun k=>decide (((v:Nat):Int)∈tch.getD k []))).map (fun k=>n+k)).map (bK n)) (by omega) rfl (fun k s hk e=>?_)) (fun s e=>Ok.ret ?_)
  ·subst e
   have hx:tch[k]? =some tch[k]:=aL hk
   obtain⟨r,r1,r2⟩:=t8 (N:=N) (c:=((v:Nat):Int)) (h.inc _ (cJ hk)) (h.xB _ (cJ hk)) hN
   have hlen: ((((List.range k).filter (fun k=>decide (((v:Nat):Int)∈tch.getD k []))).map (fun k=>n+k)).map (bK n)).length<=k:=by
    rw [cE,cE]
    have:=kB (fun k=>decide (((v:Nat):Int)∈tch.getD k [])) (List.range k)
    rwa [List.length_range] at this
   have hg:tch.getD k []=tch[k]:=by rw [List.getD_eq_getElem?_getD,hx];rfl
   have ho:bK n (n+k)= ⟨true,((k:Nat):Int)⟩:=by unfold bK;rw [aD (by omega)];congr 1;omega
   refine Ok.ix hx (Ok.eq r1 ?_)
   rw [r2,List.range_succ,iO,dD,dD]
   by_cases hm': ((v:Nat):Int)∈tch[k]
   ·rw [bB hm',aO,List.filter_cons_of_pos (p:=fun k=>decide (((v:Nat):Int)∈tch.getD k [])) (by rw [hg,bB hm']),List.filter_nil,dA,List.map_nil,dA,List.map_nil,ho]
    refine Ok.bind (P:=fun s=>s=_) (Ok.app (by simp only [dE,List.length_nil];omega) (Ok.ret rfl)) (fun s hs=>Ok.ret hs)
   ·rw [bF hm',aM,List.filter_cons_of_neg (p:=fun k=>decide (((v:Nat):Int)∈tch.getD k [])) (by rw [hg,bF hm'];exact mP),List.filter_nil,List.map_nil,List.map_nil,mz,aB]
    exact Ok.ret rfl
  ·rw [e]
   unfold fK
   rw [aC hvn];rfl
 ·rw [aD hvn]
  simp only [aO]
  have hk:v - n<tch.length:=by omega
  have hx:tch[v - n]? =some tch[v - n]:=aL hk
  have hf:=h.xB _ (cJ hk)
  have hnat:=h.nat _ (cJ hk)
  rw [dG hx,aB]
  refine Ok.get ?_
  refine Ok.bind (Ok.lV (fun k s=>s= ((tch[v - n].take k).map Int.toNat).map (bK n)) (by omega) rfl (fun k s hk2 e=>?_)) (fun s e=>Ok.ret ?_)
  ·subst e
   have hy:tch[v - n][k]? =some tch[v - n][k]:=aL hk2
   obtain⟨i,hi,e⟩:=hnat _ (cJ hk2)
   have hlen: (((tch[v - n].take k).map Int.toNat).map (bK n)).length<=k:=by
    rw [cE,cE];exact List.length_take_le _ _
   refine Ok.ix hy (Ok.app (by simp only [dE,List.length_nil];omega) (Ok.ret ?_))
   rw [dT hk2,dD,dD,dA,List.map_nil,dA,List.map_nil]
   congr 2
   rw [e,cA]
   unfold bK
   rw [aC hi]
  ·rw [e,eE]
   unfold fK
   rw [aD hvn,List.getD_eq_getElem?_getD,hx];rfl
end
end Go.Gk
namespace Go.Gk
open Go Classical
theorem yY {κ ν:Type} [DecidableEq κ]: ∀{m:List (κ×ν)} {k:κ} {x:ν},fH m k=false->(nP m k x).length=m.length+1
 | [],k,x,_=>rfl
 | (k',y)::m,k,x,h=>by
  unfold nP
  by_cases e:k=k'
  ·subst e;simp [fH] at h
  ·have h':fH m k=false:=by
    unfold fH at h ⊢
    simp [e] at h
    simpa using h
   rw [aD e,dE,dE,yY h']
theorem BQ.bound {A:Nat->Nat->Prop} {s t p:Nat} {F:Nat->Option Nat} {ord:List Nat} (h:BQ A s t F ord p) {v d:Nat} (hv:F v=some d):d<t:=by
 have ex: ∀d v,F v=some d->∃l:List Nat,l.length=d+1/\l.Nodup/\∀x∈l,∃e,F x=some e/\e<=d:=by
  intro d
  induction d with
  | zero=>intro v hv;exact⟨[v],rfl,by simp,fun x hx=>by rw [pA] at hx;subst hx;exact⟨0,hv,bD _⟩⟩
  | succ d ih=>
   intro v hv
   obtain⟨u,_,hu⟩:=h.back v d hv
   obtain⟨l,h1,h2,h3⟩:=ih u hu
   refine⟨v::l,by simp [h1],List.nodup_cons.2 ⟨fun hm=>?_,h2⟩,fun x hx=>?_⟩
   ·obtain⟨e,h4,h5⟩:=h3 v hm
    rw [hv] at h4;injection h4 with h4;omega
   ·rcases cW.1 hx with rfl | hx
    ·exact⟨d+1,hv,bD _⟩
    ·obtain⟨e,h4,h5⟩:=h3 x hx;exact⟨e,h4,by omega⟩
 obtain⟨l,h1,h2,h3⟩:=ex d v hv
 have:=CR h2 (t:=t) (fun x hx=>by
  obtain⟨e,h4,_⟩:=h3 x hx
  exact h.lt x ((h.mem x).1 (by rw [h4];exact fun h=>by cases h)))
 omega
def G6 (n:Nat) (M:List (bX×Int)) (F:Nat->Option Nat):Prop:=∀v,fH M (bK n v)= (F v).isSome/\dL M (bK n v) 0= (((F v).getD 0:Nat):Int)
def G7 (N:Nat) (p0_6:List (List Int)) (p1:bX) (al:bX->Bool):Option (List (bX×Int)):=
 (iY (fun(s37: (List (bX×Int))×(List bX))=>(bif (decide ((s37.2.length:Int)>0)) then ((idx s37.2 0).bind fun x234=>(fR N p0_6 x234).bind fun x236=>(lV x236.length (fun(k238:Nat) (s239: (List (bX×Int))×(List bX))=>((idx x236 (k238:Int)).bind fun x299=>(bif (!(fH s239.1 x299)) then (some (al x299)) else (some false)).bind fun s306=>(bif s306 then ((idx s239.2 0).bind fun x320=>(app 16 s239.2 ([x299]: (List bX))).bind fun x324=>some ((nP s239.1 x299 (IntKind.wrap .i64 ((dL s239.1 x320 (0:Int))+1))),x324)) else (some (s239.1,s239.2))).bind fun s317=>some (s317.1,s317.2):Option ((List (bX×Int))×(List bX)))) (s37.1,s37.2)).bind fun s239=>(p9 s239.2 1 (s239.2.length:Int)).bind fun x327=>some (.nx (s239.1,x327))) else (some (.br (s37.1,s37.2))):Option (Fl ((List (bX×Int))×(List bX)) Empty))) N ((nP ([]: (List (bX×Int))) p1 0),([p1]: (List bX)))).bind fun o330=>o330.cs (fun(s37: (List (bX×Int))×(List bX))=>some s37.1) (fun r=>r.elim)
section
variable {N:Nat}
theorem Je (tch:List (List Int)) (h:bX):jJ N tch h=G7 N tch h (fun _=>true):=rfl
theorem HY (tch:List (List Int)) (h w:bX):l4 N tch h w=G7 N tch h (fun x=> !(decide (x=w))):=rfl
variable {n m:Nat} {tch:List (List Int)}
theorem Be (h:v9 n m tch) {s:Nat} (hs:s<n+m) {al:bX->Bool} (hN:4398046511104<=N):
  ∃M F,G7 N tch (bK n s) al=some M/\G6 n M F/\oJ (fun u v=>v∈fK n tch u/\al (bK n v)=true) s F/\(∀v d,F v=some d->v<n+m/\d<n+m):=by
 have hn:=h.nb
 have hm:=h.mb
 suffices hh:Ok (G7 N tch (bK n s) al) (fun M=>∃F,G6 n M F/\oJ (fun u v=>v∈fK n tch u/\al (bK n v)=true) s F/\(∀v d,F v=some d->v<n+m/\d<n+m)) by
  obtain⟨M,h1,F,h2,h3,h4⟩:=hh
  exact⟨M,F,h1,h2,h3,h4⟩
 generalize hA: (fun u v=>v∈fK n tch u/\al (bK n v)=true)=A
 unfold G7
 refine Ok.bind (Ok.iY (fun st=>∃F ord p,BQ A s (n+m) F ord p/\p<=ord.length/\G6 n st.1 F/\st.2= (ord.drop p).map (bK n)/\st.1.length=ord.length) (fun st=>(n+m - st.1.length)+st.2.length)
  (Go:=fun st=>∃F ord p,BQ A s (n+m) F ord p/\ord.length<=p/\G6 n st.1 F) (Rt:=fun _=>False) ?_ ?_ ?_) ?_
 ·rintro⟨M,q⟩ ⟨F,ord,p,hB,hp,hMF,hq,hMl⟩
  dsimp only at hMF hq hMl ⊢
  have hol:=hB.len
  subst hq
  by_cases hpl:p<ord.length
  ·have hd0:ord.drop p=ord[p]::ord.drop (p+1):=pB hpl
   have hu:ord[p]? =some ord[p]:=aL hpl
   have hul:=hB.lt _ (cJ hpl)
   obtain⟨d,hd⟩: ∃d,F ord[p]=some d:=by
    have:=(hB.mem ord[p]).2 (cJ hpl)
    cases hf:F ord[p] with
    | none=>exact absurd hf this
    | some d=>exact⟨d,rfl⟩
   rw [bB (show ((((ord.drop p).map (bK n)).length:Nat):Int)>0 by rw [cE,fC];omega),aO]
   have hq0: ((ord.drop p).map (bK n))[0]? =some (bK n ord[p]):=by rw [hd0];rfl
   have hi0:=dG hq0
   refine Ok.eq hi0 (Ok.eq (EH h hul hN) ?_)
   have iT:=EG h ord[p]
   generalize hu0:ord[p]=u at *
   refine Ok.bind (Ok.lV (fun j st=>∃F' ord',BQ A s (n+m) F' ord' p/\p<ord'.length/\G6 n st.1 F'/\st.2= (ord'.drop p).map (bK n)/\st.1.length=ord'.length/\ord'[p]? =some u/\F' u=some d/\(∀(i v:Nat),i<j->(fK n tch u)[i]? =some v->A u v->F' v≠none)/\(n+m - st.1.length)+st.2.length= (n+m - M.length)+ ((ord.drop p).map (bK n)).length)
    (by rw [cE];omega) ⟨F,ord,hB,hpl,hMF,rfl,hMl,hu,hd,fun i v hi=>by omega,rfl⟩ (fun j st hj I=>?_)) ?_
   ·obtain⟨M',q'⟩:=st
    obtain⟨F',ord',b1,b2,b3,b4,b5,b6,b7,b8,b9⟩:=I
    dsimp only at b3 b4 b5 b9 ⊢
    subst b4
    rw [cE] at hj
    have hx: ((fK n tch u).map (bK n))[j]? =some (bK n (fK n tch u)[j]):=by rw [dV,aL hj];rfl
    have hxa: (fK n tch u)[j]? =some (fK n tch u)[j]:=aL hj
    have hxm: (fK n tch u)[j]∈fK n tch u:=cJ hj
    have hxl:=Jd h hxm
    refine Ok.ix hx ?_
    generalize (fK n tch u)[j]=v at *
    obtain⟨f1,f2⟩:=b3 v
    have ob:=b1.len
    have keep8: ∀{F2:Nat->Option Nat},(∀x,F' x≠none->F2 x≠none)->(A u v->F2 v≠none)->∀(i x:Nat),i<j+1->(fK n tch u)[i]? =some x->A u x->F2 x≠none:=fun{F2} g1 g2 i x hi hix hax=>by
     by_cases e:i<j
     ·exact g1 x (b8 i x e hix hax)
     ·have:i=j:=by omega
      subst this
      rw [hxa] at hix;injection hix with hix
      subst hix;exact g2 hax
    cases hfv:F' v with
    | some e=>
     rw [hfv] at f1
     have f1:fH M' (bK n v)=true:=f1
     rw [f1]
     exact Ok.ret ⟨F',ord',b1,b2,b3,rfl,b5,b6,b7,keep8 (fun x hx=>hx) (fun _=>by rw [hfv];exact fun h=>by cases h),b9⟩
    | none=>
     rw [hfv] at f1
     have f1:fH M' (bK n v)=false:=f1
     rw [f1,mQ,aO,aB]
     cases hav:al (bK n v) with
     | false=>
      rw [aM,aB]
      exact Ok.ret ⟨F',ord',b1,b2,b3,rfl,b5,b6,b7,keep8 (fun x hx=>hx) (fun ha=>by rw [<-hA] at ha;rw [hav] at ha;exact absurd ha.2 (by decide)),b9⟩
     | true=>
      have hAuv:A u v:=by rw [<-hA];exact⟨hxm,hav⟩
      have hpush:=b1.push b6 b7 hAuv hxl hfv
      have hpb:=b1.bound b7
      have hpl2:=hpush.len
      rw [cQ,dE,List.length_nil] at hpl2
      have hq0': ((ord'.drop p).map (bK n))[0]? =some (bK n u):=by
       rw [dV,eM]
       simp only [Nat.add_zero]
       rw [b6];rfl
      have hgu:dL M' (bK n u) 0= ((d:Nat):Int):=by rw [(b3 u).2,b7];rfl
      have hvu:v≠u:=fun e=>by rw [e,b7] at hfv;cases hfv
      rw [aO]
      have hdl: (ord'++[v]).drop p=ord'.drop p++[v]:=List.drop_append_of_le_length (by omega)
      refine Ok.eq (x:=(nP M' (bK n v) ((d+1:Nat):Int),((ord'++[v]).drop p).map (bK n))) ?_ (Ok.ret ⟨_,_,hpush,?_,?_,rfl,?_,?_,?_,keep8 (fun x hx=>?_) (fun _=>?_),?_⟩)
      ·have hi0':idx ((ord'.drop p).map (bK n)) 0=some (bK n u):=dG hq0'
       rw [hi0',aB,iK (by simp only [cE,fC,dE,List.length_nil];omega),aB,hgu,bQ (by omega),hdl,dD];rfl
      ·rw [cQ];omega
      ·intro x
       dsimp only
       rw [wI,qF]
       by_cases e:x=v
       ·subst e;rw [aC rfl,aC rfl,bB rfl];exact⟨rfl,rfl⟩
       ·have e':bK n x≠bK n v:=fun h=>e (nK h)
        rw [aD e,aD e',bF e',Bool.false_or]
        exact b3 x
      ·dsimp only
       rw [yY f1,b5];simp
      ·rw [fz b2];exact b6
      ·rw [aD (Ne.symm hvu)];exact b7
      ·by_cases e:x=v
       ·rw [aC e];exact fun h=>by cases h
       ·rw [aD e];exact hx
      ·rw [aC rfl];exact fun h=>by cases h
      ·dsimp only
       rw [yY f1,hdl,dD,cQ,dA,List.map_nil,dE,List.length_nil]
       omega
   ·rintro⟨M',q'⟩ ⟨F',ord',b1,b2,b3,b4,b5,b6,b7,b8,b9⟩
    dsimp only at b3 b4 b5 b9 ⊢
    subst b4
    have hnx:=b1.next b6 b7 (fun v hv=>by
     have hv':=hv
     rw [<-hA] at hv'
     obtain⟨i,hi⟩:=dF hv'.1
     exact b8 i v (by rw [cE];exact(aU.1 hi).1) hi hv)
    have hsl:p9 ((ord'.drop p).map (bK n)) 1 ((((ord'.drop p).map (bK n)).length:Nat):Int)=some ((ord'.drop (p+1)).map (bK n)):=by
     have:=nR ((ord'.drop p).map (bK n)) 1 (by rw [cE,fC];omega)
     rw [<-List.map_drop,List.drop_drop] at this
     exact this
    have ob:=b1.len
    refine Ok.eq hsl (Ok.nx ⟨⟨F',ord',p+1,hnx,by omega,b3,rfl,b5⟩,?_⟩)
    dsimp only
    simp only [cE,fC] at b9 ⊢
    omega
  ·rw [bF (show ¬((((ord.drop p).map (bK n)).length:Nat):Int)>0 by rw [cE,fC];omega),aM]
   exact Ok.br ⟨F,ord,p,hB,by omega,hMF⟩
 ·refine⟨_,[s],0,BQ.start A hs,by simp,fun v=>?_,rfl,rfl⟩
  dsimp only
  rw [wI,qF]
  by_cases e:v=s
  ·subst e;rw [aC rfl,aC rfl,bB rfl];exact⟨rfl,rfl⟩
  ·have e':bK n v≠bK n s:=fun h=>e (nK h)
   rw [aD e,aD e',bF e'];exact⟨rfl,rfl⟩
 ·show (n+m - 1)+1<N
  omega
 ·intro o ho
  refine Ok.cs ho ?_ (fun r hr=>hr.elim)
  rintro⟨M,q⟩ ⟨F,ord,p,hB,hp,hMF⟩
  exact Ok.ret ⟨F,hMF,hB.done hp,fun v d hv=>⟨hB.lt v ((hB.mem v).1 (by rw [hv];exact fun h=>by cases h)),hB.bound hv⟩⟩
theorem Jf (h:v9 n m tch) {x y:Nat} (hx:x<n+m) (hy:y<n+m) {F:Nat->Option Nat} (hF:oJ (fun u v=>v∈fK n tch u) y F) (hN:4398046511104<=N):
  gZ N tch (bK n x) (bK n y)=some (match F x with | none=>([],false) | some d=>((oj (fK n tch) F d x).map (bK n),true)):=by
 have hn:=h.nb
 have hm:=h.mb
 obtain⟨M,F',f1,f2,f3,f4⟩:=Be (N:=N) h hy (al:=fun _=>true) hN
 have hFF:F'=F:=by
  refine oJ.uniq (A:=fun u v=>v∈fK n tch u) ⟨f3.zero,f3.FG,fun v d hv=>?_,fun u v d huv hu=>f3.step u v d ⟨huv,rfl⟩ hu⟩ hF
  obtain⟨u,h1,h2⟩:=f3.back v d hv
  exact⟨u,h1.1,h2⟩
 subst hFF
 have hAs: ∀u v,(fun u v=>v∈fK n tch u) u v->u∈fK n tch v:=fun u v huv=>yX h huv
 unfold gZ
 rw [Je,f1,aB,(f2 x).1]
 cases hfx:F' x with
 | none=>rfl
 | some d=>
  rw [Option.isSome_some,jB,aM]
  refine Ok.get ?_
  refine Ok.bind (Ok.iY (fun st=>∃u e,F' u=some e/\e<=d/\st.2=bK n u/\st.1.length+e=d+1/\st.1++((oj (fK n tch) F' e u).tail).map (bK n)= (oj (fK n tch) F' d x).map (bK n)) (fun st=>(dL M st.2 0).toNat)
   (Go:=fun st=>st.1= (oj (fK n tch) F' d x).map (bK n)) (Rt:=fun _=>False) ?_ ?_ ?_) ?_
  ·rintro⟨out,q⟩ ⟨u,e,h1,h2,h3,h4,h5⟩
   dsimp only at h3 h4 h5 ⊢
   subst h3
   obtain⟨hul,_⟩:=f4 u e h1
   obtain⟨_,hdl⟩:=f4 x d hfx
   have hgu:dL M (bK n u) 0= ((e:Nat):Int):=by rw [(f2 u).2,h1];rfl
   cases e with
   | zero=>
    have:u=y:=hF.FG u h1
    subst this
    rw [bB rfl,jB,aM]
    exact Ok.br (by dsimp only;rw [<-h5];simp [oj])
   | succ e=>
    have huy:u≠y:=fun e2=>by subst e2;rw [hF.zero] at h1;injection h1 with h1;omega
    rw [bF (fun h=>huy (nK h)),mQ,aO]
    obtain⟨w1,w2,w3⟩:=v7 (adj:=fK n tch) hF hAs h1
    refine Ok.eq (EH h hul hN) ?_
    have iT:=EG h u
    refine Ok.bind (Ok.rH (fun k s=>s=bK n u/\∀(i v:Nat),i<k->(fK n tch u)[i]? =some v->F' v≠some e) (Go:=fun s=>s=bK n (xp (fK n tch) F' e u)) (Rt:=fun _=>False) (by rw [cE];omega) ⟨rfl,fun i v hi=>by omega⟩ (fun k s hk I=>?_) (fun s I=>?_)) ?_
    ·obtain⟨rfl,I⟩:=I
     rw [cE] at hk
     have hxv: ((fK n tch u).map (bK n))[k]? =some (bK n (fK n tch u)[k]):=by rw [dV,aL hk];rfl
     have hxa: (fK n tch u)[k]? =some (fK n tch u)[k]:=aL hk
     refine Ok.ix hxv ?_
     obtain⟨g1,g2⟩:=f2 (fK n tch u)[k]
     have ec: (bif (fH M (bK n (fK n tch u)[k])) then (some ((dL M (bK n (fK n tch u)[k]) (0:Int))==(IntKind.wrap .i64 ((dL M (bK n u) (0:Int)) - 1)))) else (some false))=some (decide (F' (fK n tch u)[k]=some e)):=by
      rw [g1,g2,hgu,fW (by omega) (by omega)]
      cases hfk:F' (fK n tch u)[k] with
      | none=>rfl
      | some e'=>
       rw [Option.isSome_some,aO,Option.getD_some]
       congr 1
       rw [dZ,beq_iff_eq,bE]
       constructor
       ·intro h;congr 1;omega
       ·intro h;injection h with h;omega
     refine Ok.eq ec ?_
     by_cases hfk:F' (fK n tch u)[k]=some e
     ·rw [bB hfk,aO]
      refine Ok.br ?_
      have hfind: (fK n tch u).find? (fun n=>decide (F' n=some e))=some (fK n tch u)[k]:=by
       rw [List.find?_eq_some_iff_getElem]
       refine⟨by rw [bE];exact hfk,k,hk,rfl,fun j hj=>?_⟩
       have:=I j _ hj (aL (by omega))
       simpa using this
      rw [w3] at hfind;injection hfind with hfind
      rw [hfind]
     ·rw [bF hfk,aM]
      refine Ok.nx ⟨rfl,fun i v hi hiv=>?_⟩
      by_cases e2:i<k
      ·exact I i v e2 hiv
      ·have:i=k:=by omega
       subst this
       rw [hxa] at hiv;injection hiv with hiv
       subst hiv;exact hfk
    ·obtain⟨i,hi⟩:=dF w1
     exact absurd w2 (I.2 i _ (by rw [cE];exact(aU.1 hi).1) hi)
    ·intro o ho
     refine Ok.cs ho ?_ (fun r hr=>hr.elim)
     rintro _ rfl
     refine Ok.app (by simp only [dE,List.length_nil];omega) (Ok.nx ⟨⟨_,e,w2,by omega,rfl,by simp only [cQ,dE,List.length_nil];omega,?_⟩,?_⟩)
     ·rw [<-h5]
      show (out++[bK n (xp (fK n tch) F' e u)])++_=out++((oj (fK n tch) F' e (xp (fK n tch) F' e u))).map (bK n)
      rw [j3]
      congr 1
      cases e with
      | zero=>rfl
      | succ e=>rfl
     ·dsimp only
      rw [(f2 _).2,w2,hgu,Option.getD_some];omega
  ·refine⟨x,d,hfx,bD _,rfl,by simp;omega,?_⟩
   cases d <;> rfl
  ·dsimp only
   rw [(f2 x).2,hfx,Option.getD_some]
   have:=(f4 x d hfx).2;omega
  ·intro o ho
   refine Ok.cs ho ?_ (fun r hr=>hr.elim)
   rintro⟨out,q⟩ hst
   dsimp only at hst
   subst hst
   exact Ok.ret rfl
end
end Go.Gk
namespace Go.Gk
open Go Classical
theorem Dx.uniq {n m:Nat} {tch:List (List Int)} {r1 r2:Nat->Nat} (h1:Dx n m tch r1) (h2:Dx n m tch r2) {i j:Nat} (hi:i<n+m) (hj:j<n+m):r1 i=r1 j↔r2 i=r2 j:=by
 have key: ∀{r1 r2:Nat->Nat},Dx n m tch r1->Dx n m tch r2->r1 i=r1 j->r2 i=r2 j:=fun{r1 r2} h1 h2 e=>
  (h1.fi (fun x=>r2 i=r2 x) (fun a b hab=>by rw [h2.co a b hab]) i j hi hj e) rfl
 exact⟨key h1 h2,key h2 h1⟩
section
variable {N:Nat} {a:iM} {ky:List (List aA)} {bV:List (List (List aA))} {r:Nat->Nat} {gs:List dI} {ofP ofB nr:List Int} {nJ:List bX}
structure Mg (bs:List cH) (pcs:List aN) (ls:List eW) (r2:Nat->Nat) (j:Nat) (up:List Int) (fm:List (Int×Int)) (out:List Int):Prop where
 uf:UF (pcs.length+bs.length) up r2
 len:out.length=ls.length
 no: ∀i l,i<j->ls[i]? =some l->mG bs pcs l=none->out[i]? =some (-1)
 yes: ∀i l h,i<j->ls[i]? =some l->mG bs pcs l=some h->fH fm ((r2 (fB pcs.length h):Nat):Int)=true/\out[i]? =some (dL fm ((r2 (fB pcs.length h):Nat):Int) 0)
 low: ∀x,fH fm x=true->∃v:Nat,dL fm x 0= ((v:Nat):Int)/\v<j
 inj: ∀x y,fH fm x=true->fH fm y=true->dL fm x 0=dL fm y 0->x=y
theorem rG (b:ng a ky bV r gs ofP ofB nr nJ) (h1:eK N a=some (some (a.aI,a.cL,a.aJ,a.bG,ky,aP 0 bV,eU a.aJ (aP 0 bV),gs,ofP,ofB,nr,nJ),0)) {p:fL} {k:Nat} {x:eW} (e:po a p= ((k:Nat):Int)) (hx:a.bG[k]? =some x) (hN:4398046511104<=N):
  kl N a p=some (match vR a.aJ (aP 0 bV) r x with | some g=>(((g:Nat):Int),true,0) | none=>(0,false,0)):=by
 have ho:nr[k]? =some (FF a.aJ (aP 0 bV) r x):=by rw [b.Hg.nr,dV,hx];rfl
 unfold kl
 rw [h1,aB,Ac b.Ex p hN]
 simp only [CU,bne_self_eq_false,aM,aB]
 rw [e,show decide (((k:Nat):Int)<0)=false from bF (by omega),aM,dG ho,aB]
 unfold FF
 cases vR a.aJ (aP 0 bV) r x with
 | none=>rfl
 | some g=>
  dsimp only
  rw [show decide (((g:Nat):Int)<0)=false from bF (by omega),aM,aB]
theorem EI (b:ng a ky bV r gs ofP ofB nr nJ) {x y:eW} {h h':bX} (hx:mG a.aJ (aP 0 bV) x=some h) (hy:mG a.aJ (aP 0 bV) y=some h'): (vR a.aJ (aP 0 bV) r x=vR a.aJ (aP 0 bV) r y)↔r (fB (aP 0 bV).length h)=r (fB (aP 0 bV).length h'):=by
 have gp: ∀{z:eW} {h:bX},mG a.aJ (aP 0 bV) z=some h->(live a.aJ (aP 0 bV).length ((aP 0 bV).length+a.aJ.length) r (bI ((aP 0 bV).length+a.aJ.length) r))[gi a.aJ (aP 0 bV).length ((aP 0 bV).length+a.aJ.length) r (r (fB (aP 0 bV).length h))]? =some (r (fB (aP 0 bV).length h)):=by
  intro z h hz
  obtain⟨k,e,g1,g2⟩:=(A2 hz).num
  have hle:=b.Hg.conn.le
  have hrr:=b.Hg.conn.rr
  have hd: ∀i,i< (aP 0 bV).length+a.aJ.length->r i∈bI ((aP 0 bV).length+a.aJ.length) r:=fun i hi=>iN.2 ⟨my.2 (by have:=hle i hi;omega),by rw [bE];exact hrr i hi⟩
  unfold fB
  cases hB:h.cH with
  | true=>
   obtain⟨k1,k2⟩:=g1 hB
   rw [aC rfl,e,cA]
   exact(GS (hd _ (by omega)) (IA k2 (by omega))).2
  | false=>
   have k1:=g2 hB
   rw [aD mP,e,cA]
   exact(GS (hd _ (by omega)) (Iz k1 (by omega))).2
 unfold vR
 rw [hx,hy]
 constructor
 ·intro e
  simp only [Option.map_some,Option.some.injEq] at e
  have h1:=gp hx
  have h2:=gp hy
  rw [e,h2] at h1
  injection h1 with h1;exact h1.symm
 ·intro e
  simp only [Option.map_some,Option.some.injEq]
  rw [e]
end
section
variable {N:Nat}
end
end Go.Gk
namespace Go.Gk
open Go Classical
noncomputable def FH (n:Nat) (tch:List (List Int)) (u v w:Nat):Bool:=decide (w=u\/w=v\/∀F,oJ (fun a b=>b∈fK n tch a/\b≠w) v F->F u=none)
section
variable {N:Nat} {a:iM} {ky:List (List aA)} {bV:List (List (List aA))} {r:Nat->Nat} {gs:List dI} {ofP ofB nr:List Int} {nJ:List bX}
theorem qT (b:ng a ky bV r gs ofP ofB nr nJ):v9 (aP 0 bV).length a.aJ.length (eU a.aJ (aP 0 bV)):=by
 have hf:=b.xB.2
 have hbl:=b.Ja.gb.len
 refine⟨by unfold eU;simp,by omega,by omega,fun l hl=>?_,fun l hl=>(Cy (by omega) l hl).2,fun l hl=>?_⟩
 ·unfold eU at hl
  obtain⟨x,_,rfl⟩:=cP.1 hl
  exact G5 (List.Pairwise.filter _ List.pairwise_lt_range)
 ·unfold eU at hl
  obtain⟨x,_,rfl⟩:=cP.1 hl
  have:=wP (mx x) (aP 0 bV) (aP 0 bV).length
  rw [mw];omega
theorem DL (b:ng a ky bV r gs ofP ofB nr nJ) {F:Nat->Option Nat} {u v:Nat} (hu:u< (aP 0 bV).length+a.aJ.length) (hv:v< (aP 0 bV).length+a.aJ.length) (hF:oJ (fun x y=>y∈fK (aP 0 bV).length (eU a.aJ (aP 0 bV)) x) v F):F u≠none↔r u=r v:=by
 have hT:=qT b
 constructor
 ·intro h
  refine(hF.reach u).1 h (fun x=>r x=r v) rfl (fun x y hxy hx=>?_)
  rcases (rF hT).1 hxy with h1 | h1
  ·rw [<-b.Hg.conn.co _ _ h1];exact hx
  ·rw [b.Hg.conn.co _ _ h1];exact hx
 ·intro h
  refine b.Hg.conn.fi (fun x=>F x≠none) (fun i j hij=>?_) v u hv hu h.symm (by rw [hF.zero];exact fun h=>by cases h)
  have key: ∀{i j},j∈fK (aP 0 bV).length (eU a.aJ (aP 0 bV)) i->F i≠none->F j≠none:=fun{i j} hij hi=>by
   cases hfi:F i with
   | none=>exact absurd hfi hi
   | some d=>
    obtain⟨e,h1,_⟩:=hF.step i j d hij hfi
    rw [h1];exact fun h=>by cases h
  exact⟨key ((rF hT).2 (.inl hij)),key ((rF hT).2 (.inr hij))⟩
theorem Jg (b:ng a ky bV r gs ofP ofB nr nJ) {v:Nat} (hv:v< (aP 0 bV).length+a.aJ.length) (hN:4398046511104<=N): ∃F,oJ (fun x y=>y∈fK (aP 0 bV).length (eU a.aJ (aP 0 bV)) x) v F/\∀x d,F x=some d->x< (aP 0 bV).length+a.aJ.length/\d< (aP 0 bV).length+a.aJ.length:=by
 obtain⟨M,F,_,_,f3,f4⟩:=Be (N:=N) (qT b) hv (al:=fun _=>true) hN
 refine⟨F,⟨f3.zero,f3.FG,fun v d hv=>?_,fun u v d huv hu=>f3.step u v d ⟨huv,rfl⟩ hu⟩,f4⟩
 obtain⟨u,h1,h2⟩:=f3.back v d hv
 exact⟨u,h1.1,h2⟩
theorem HZ (b:ng a ky bV r gs ofP ofB nr nJ) (p q:fL) (hN:4398046511104<=N):
  fQ N a.aI a.cL a.aJ a.bG nr nJ p q=some (bif decide (po a p<0)||decide (po a q<0) then (⟨false,0⟩,⟨false,0⟩,false,9) else
   (((a.bG[(po a p).toNat]?).bind (mG a.aJ (aP 0 bV))).getD ⟨false,0⟩,((a.bG[(po a q).toNat]?).bind (mG a.aJ (aP 0 bV))).getD ⟨false,0⟩,((a.bG[(po a p).toNat]?).bind (mG a.aJ (aP 0 bV))).isSome&&((a.bG[(po a q).toNat]?).bind (mG a.aJ (aP 0 bV))).isSome,0)):=by
 have hA: ∀p,ig N (⟨a.aI,a.cL,a.aJ,a.bG⟩:iM) p=some (po a p):=fun p=>Ac b.Ex p hN
 unfold fQ
 rw [hA,aB,hA,aB]
 rcases pQ a p with ⟨e1,_⟩ | ⟨i,x,e1,hx,_⟩
 ·rw [e1];rfl
 rcases pQ a q with ⟨e2,_⟩ | ⟨k,y,e2,hy,_⟩
 ·rw [e2,bB (show (-1:Int)<0 by decide),Bool.or_true,aO,aO]
 have o1:nr[i]? =some (FF a.aJ (aP 0 bV) r x):=by rw [b.Hg.nr,dV,hx];rfl
 have o2:nr[k]? =some (FF a.aJ (aP 0 bV) r y):=by rw [b.Hg.nr,dV,hy];rfl
 have a1:nJ[i]? =some ((mG a.aJ (aP 0 bV) x).getD ⟨false,0⟩):=by rw [b.Hg.nJ,dV,hx];rfl
 have a2:nJ[k]? =some ((mG a.aJ (aP 0 bV) y).getD ⟨false,0⟩):=by rw [b.Hg.nJ,dV,hy];rfl
 have hs: ∀z:eW,decide (FF a.aJ (aP 0 bV) r z>=0)= (mG a.aJ (aP 0 bV) z).isSome:=fun z=>by
  unfold FF vR
  cases mG a.aJ (aP 0 bV) z with
  | none=>rfl
  | some h=>rw [Option.map_some,Option.isSome_some,bE];dsimp only;omega
 rw [e1,e2,bF (show ¬((i:Nat):Int)<0 by omega),bF (show ¬((k:Nat):Int)<0 by omega),Bool.or_false,aM,aM,dG a1,aB,dG a2,aB,dG o1,aB,dG o2,aB,hs,hs,cA,cA,hx,hy,Option.bind_some,Option.bind_some]
 cases (mG a.aJ (aP 0 bV) x).isSome <;> rfl
inductive KY (N:Nat) (a:iM) (p q:fL):Prop
 | err (e:Int) (he:e≠0) (h:kH N a p q=some ([],false,e)) (h2:eX N a p q=some ([],e))
 | none {ky:List (List aA)} {bV:List (List (List aA))} {r:Nat->Nat} {gs:List dI} {ofP ofB nr:List Int} {nJ:List bX} (b:ng a ky bV r gs ofP ofB nr nJ)
  (ho:eK N a=some (some (a.aI,a.cL,a.aJ,a.bG,ky,aP 0 bV,eU a.aJ (aP 0 bV),gs,ofP,ofB,nr,nJ),0)) {i k:Nat} {x y:eW} (ep:po a p= ((i:Nat):Int)) (hx:a.bG[i]? =some x) (eq:po a q= ((k:Nat):Int)) (hy:a.bG[k]? =some y)
  (hn: ∀h h',mG a.aJ (aP 0 bV) x=some h->mG a.aJ (aP 0 bV) y=some h'->r (fB (aP 0 bV).length h)≠r (fB (aP 0 bV).length h')) (h:kH N a p q=some ([],false,0)) (h2:eX N a p q=some ([],9))
 | way {ky:List (List aA)} {bV:List (List (List aA))} {r:Nat->Nat} {gs:List dI} {ofP ofB nr:List Int} {nJ:List bX} (b:ng a ky bV r gs ofP ofB nr nJ)
  (ho:eK N a=some (some (a.aI,a.cL,a.aJ,a.bG,ky,aP 0 bV,eU a.aJ (aP 0 bV),gs,ofP,ofB,nr,nJ),0)) {i k:Nat} {x y:eW} (ep:po a p= ((i:Nat):Int)) (hx:a.bG[i]? =some x) (eq:po a q= ((k:Nat):Int)) (hy:a.bG[k]? =some y)
  {h h':bX} (hh:mG a.aJ (aP 0 bV) x=some h) (hh':mG a.aJ (aP 0 bV) y=some h') (hr:r (fB (aP 0 bV).length h)=r (fB (aP 0 bV).length h')) {F:Nat->Option Nat} {d:Nat}
  (hF:oJ (fun x y=>y∈fK (aP 0 bV).length (eU a.aJ (aP 0 bV)) x) (fB (aP 0 bV).length h') F) (hd:F (fB (aP 0 bV).length h)=some d) (hdl:d< (aP 0 bV).length+a.aJ.length)
  (h1:kH N a p q=some ((oj (fK (aP 0 bV).length (eU a.aJ (aP 0 bV))) F d (fB (aP 0 bV).length h)).map (bK (aP 0 bV).length),true,0))
  (h2:eX N a p q=some (((oj (fK (aP 0 bV).length (eU a.aJ (aP 0 bV))) F d (fB (aP 0 bV).length h)).filter (FH (aP 0 bV).length (eU a.aJ (aP 0 bV)) (fB (aP 0 bV).length h) (fB (aP 0 bV).length h'))).map (bK (aP 0 bV).length),0)):KY N a p q
theorem FC {a:iM} (ha:qM a) (p q:fL) (hN:4398046511104<=N):KY N a p q:=by
 rcases opened (N:=N) ha hN with ⟨e,he,h⟩ | ⟨b,h⟩
 ·have hb: (e != 0)=true:=by simpa using he
  refine .err e he ?_ ?_
  ·unfold kH;rw [h,aB];simp only [CU,hb,aO]
  ·unfold eX;rw [h,aB];simp only [CU,hb,aO]
 rename_i ky bV r gs ofP ofB nr nJ
 have hT:=qT b
 have hE:=HZ b p q hN
 have hf:=b.xB.2
 have hbl:=b.Ja.gb.len
 have gW: ∀(x:bX×bX×Bool×Int),fQ N a.aI a.cL a.aJ a.bG nr nJ p q=some x->kH N a p q=bif ((x.2.2.2 != 0)||(!x.2.2.1)) then (some ([],false,x.2.2.2)) else ((gZ N (eU a.aJ (aP 0 bV)) x.1 x.2.1).bind fun x63=>some (x63.1,x63.2,0)):=fun x hx=>by
  unfold kH
  rw [h,aB]
  simp only [CU,bne_self_eq_false,aM]
  rw [hx,aB]
 have gB: ∀(x:bX×bX×Bool×Int),fQ N a.aI a.cL a.aJ a.bG nr nJ p q=some x->(x.2.2.2=0->x.2.2.1=false->eX N a p q=some ([],9))/\(x.2.2.2≠0->eX N a p q=some ([],x.2.2.2)):=fun x hx=>by
  unfold eX
  rw [h,aB]
  simp only [CU,bne_self_eq_false,aM]
  rw [hx,aB]
  refine⟨fun h0 h1=>?_,fun h0=>?_⟩
  ·rw [h0,h1];rfl
  ·rw [show (x.2.2.2 != 0)=true by simpa using h0];rfl
 rcases pQ a p with ⟨e1,_⟩ | ⟨i,x,e1,hx,_⟩
 ·rw [e1] at hE
  exact .err 9 (by decide) ((gW _ hE).trans rfl) ((gB _ hE).2 (fun h=>absurd (show (9:Int)=0 from h) (by decide)))
 rcases pQ a q with ⟨e2,_⟩ | ⟨k,y,e2,hy,_⟩
 ·rw [e2,bB (show (-1:Int)<0 by decide),Bool.or_true] at hE
  exact .err 9 (by decide) ((gW _ hE).trans rfl) ((gB _ hE).2 (fun h=>absurd (show (9:Int)=0 from h) (by decide)))
 rw [e1,e2,bF (show ¬((i:Nat):Int)<0 by omega),bF (show ¬((k:Nat):Int)<0 by omega),Bool.or_false,aM,cA,cA,hx,hy,Option.bind_some,Option.bind_some] at hE
 cases hh:mG a.aJ (aP 0 bV) x with
 | none=>
  rw [hh] at hE
  exact .none b h e1 hx e2 hy (fun h h' hz=>by rw [hh] at hz;cases hz) ((gW _ hE).trans rfl) ((gB _ hE).1 rfl rfl)
 | some h1=>
  cases hh':mG a.aJ (aP 0 bV) y with
  | none=>
   rw [hh,hh'] at hE
   exact .none b h e1 hx e2 hy (fun h h' _ hz=>by rw [hh'] at hz;cases hz) ((gW _ hE).trans rfl) ((gB _ hE).1 rfl rfl)
  | some h2=>
   rw [hh,hh'] at hE
   obtain⟨u1,u2⟩:=CS (A2 hh)
   obtain⟨v1,v2⟩:=CS (A2 hh')
   obtain⟨F,hF,hFb⟩:=Jg b v2 hN
   have hW:=Jf (N:=N) hT u2 v2 hF hN
   rw [u1,v1] at hW
   have hroot:=DL b u2 v2 hF
   have hWay:=gW _ hE
   simp only [Option.isSome_some,Bool.and_self,bne_self_eq_false,jB,Bool.or_self,aM,Option.getD_some] at hWay
   rw [hW,aB] at hWay
   have hBr:eX N a p q= (match F (fB (aP 0 bV).length h1) with | none=>some ([],9) | some d=>some (((oj (fK (aP 0 bV).length (eU a.aJ (aP 0 bV))) F d (fB (aP 0 bV).length h1)).filter (FH (aP 0 bV).length (eU a.aJ (aP 0 bV)) (fB (aP 0 bV).length h1) (fB (aP 0 bV).length h2))).map (bK (aP 0 bV).length),0)):=by
    unfold eX
    rw [h,aB]
    simp only [CU,bne_self_eq_false,aM]
    rw [hE,aB]
    simp only [Option.isSome_some,Bool.and_self,bne_self_eq_false,aM,aO,Option.getD_some]
    rw [hW,aB,aB]
    cases hd:F (fB (aP 0 bV).length h1) with
    | none=>rfl
    | some d=>
     simp only [jB,aM]
     obtain⟨_,hdl⟩:=hFb _ _ hd
     have hlen:=qS (adj:=fK (aP 0 bV).length (eU a.aJ (aP 0 bV))) (F:=F) d (fB (aP 0 bV).length h1)
     have hAs: ∀u v,(fun u v=>v∈fK (aP 0 bV).length (eU a.aJ (aP 0 bV)) u) u v->u∈fK (aP 0 bV).length (eU a.aJ (aP 0 bV)) v:=fun u v huv=>yX hT huv
     have hat:=fun j w hw=>v8 hF hAs d _ hd j w hw
     generalize hu:fB (aP 0 bV).length h1=u at *
     generalize hv:fB (aP 0 bV).length h2=v at *
     generalize oj (fK (aP 0 bV).length (eU a.aJ (aP 0 bV))) F d u=L at *
     rw [HE (s:=([]:List bX)) (fun j=>((L.take j).filter (FH (aP 0 bV).length (eU a.aJ (aP 0 bV)) u v)).map (bK (aP 0 bV).length)) (by rw [cE];omega) rfl (fun j hj=>by
      rw [cE] at hj
      have hw:L[j]? =some L[j]:=aL hj
      have hxw: (L.map (bK (aP 0 bV).length))[j]? =some (bK (aP 0 bV).length L[j]):=by rw [dV,hw];rfl
      obtain⟨_,hFw⟩:=hat j L[j] hw
      obtain⟨hwl,_⟩:=hFb _ _ hFw
      obtain⟨M,G,g1,g2,g3,g4⟩:=Be (N:=N) hT v2 (al:=fun x=> !(decide (x=bK (aP 0 bV).length L[j]))) hN
      rw [v1] at g1
      have eA: (fun u v=>v∈fK (aP 0 bV).length (eU a.aJ (aP 0 bV)) u/\(!(decide (bK (aP 0 bV).length v=bK (aP 0 bV).length L[j])))=true)= (fun a' b'=>b'∈fK (aP 0 bV).length (eU a.aJ (aP 0 bV)) a'/\b'≠L[j]):=by
       funext s t
       refine propext (and_congr_right fun _=>?_)
       rw [Bool.not_eq_true',decide_eq_false_iff_not]
       exact⟨fun h e=>h (by rw [e]),fun h e=>h (nK e)⟩
      rw [eA] at g3
      have hlj: (((L.take j).filter (FH (aP 0 bV).length (eU a.aJ (aP 0 bV)) u v)).map (bK (aP 0 bV).length)).length<=j:=by
       rw [cE]
       exact Nat.le_trans (kB _ _) (List.length_take_le _ _)
      have ec: (bif (decide (bK (aP 0 bV).length L[j]=h1)) then (some true) else (some ((decide (bK (aP 0 bV).length L[j]=h2))||(!(fH M h1)))))=some (FH (aP 0 bV).length (eU a.aJ (aP 0 bV)) u v L[j]):=by
       have d1: (bK (aP 0 bV).length L[j]=h1)↔L[j]=u:=by rw [<-u1];exact⟨nK,fun h=>by rw [h]⟩
       have d2: (bK (aP 0 bV).length L[j]=h2)↔L[j]=v:=by rw [<-v1];exact⟨nK,fun h=>by rw [h]⟩
       have d3:fH M h1= (G u).isSome:=by rw [<-u1];exact(g2 u).1
       have d4: (∀F,oJ (fun a' b'=>b'∈fK (aP 0 bV).length (eU a.aJ (aP 0 bV)) a'/\b'≠L[j]) v F->F u=none)↔G u=none:=⟨fun h=>h G g3,fun h F hF2=>by rw [hF2.uniq g3];exact h⟩
       unfold FH
       rw [d3]
       by_cases k1:L[j]=u
       ·rw [bB (d1.2 k1),aO,bB (.inl k1)]
       ·rw [bF (fun h=>k1 (d1.1 h)),aM]
        congr 1
        rw [dZ,dB,bE,bE,d2,d4,Bool.not_eq_true',Option.isSome_eq_false_iff,Option.isNone_iff_eq_none]
        exact⟨fun h=> .inr h,fun h=>h.resolve_left k1⟩
      rw [dG hxw,aB,HY,g1,aB,ec,aB,dT hj,iO,dD]
      cases hbr:FH (aP 0 bV).length (eU a.aJ (aP 0 bV)) u v L[j] with
      | true=>rw [aO,iK (by simp only [dE,List.length_nil];omega),aB,aB,List.filter_cons_of_pos hbr,List.filter_nil];rfl
      | false=>rw [aM,aB,List.filter_cons_of_neg (by rw [hbr];exact mP),List.filter_nil,List.map_nil,mz]),aB,cE,eE]
   cases hd:F (fB (aP 0 bV).length h1) with
   | none=>
    rw [hd] at hWay hBr
    refine .none b h e1 hx e2 hy (fun a1 a2 z1 z2 hr=>?_) hWay hBr
    rw [hh] at z1;injection z1 with z1;subst z1
    rw [hh'] at z2;injection z2 with z2;subst z2
    exact(hroot.2 hr) hd
   | some d=>
    rw [hd] at hWay hBr
    exact .way b h e1 hx e2 hy hh hh' (hroot.1 (by rw [hd];exact fun h=>by cases h)) hF hd (hFb _ _ hd).2 hWay hBr
end
end Go.Gk
namespace Go.Gk
open Go Classical
theorem wc {α:Type} {p:α->Bool} {l:List α} {x:α} (h:l[0]? =some x) (hp:p x=true): (l.filter p)[0]? =some x:=by
 cases l with
 | nil=>cases h
 | cons y l=>
  have:y=x:=by simpa using h
  subst this
  rw [List.filter_cons_of_pos hp];rfl
theorem CT {α:Type} {p:α->Bool} {l:List α} {x:α} (h:l[l.length - 1]? =some x) (hp:p x=true): (l.filter p)[(l.filter p).length - 1]? =some x:=by
 have h1:l.reverse[0]? =some x:=by
  have hl:=(aU.1 h).1
  rw [List.getElem?_reverse (by omega)];exact h
 have h2:=wc h1 hp
 rw [List.filter_reverse] at h2
 have hl:=(aU.1 h2).1
 rw [List.length_reverse] at hl
 rw [List.getElem?_reverse hl] at h2
 exact h2
section
variable {N:Nat}
theorem we {l:List bX} {x:bX} (hl:l.length<=1048576000):gK N l x=some (decide (x∈l)):=by
 have e:gK N l x=qt l x:=rfl
 rw [e,vm (by omega)]
theorem wg {l:List Int} {x:Int} (hl:l.length<=1048576000):fw N l x=some (decide (x∈l)):=by
 have e:fw N l x=qt l x:=by
  unfold fw l5 qt Dg
  have: ∀y:Int,(x==y)=decide (x=y):=fun y=>by rw [dZ,beq_iff_eq,bE]
  simp only [this]
 rw [e,vm (by omega)]
variable {a:iM} {ky:List (List aA)} {bV:List (List (List aA))} {r:Nat->Nat} {gs:List dI} {ofP ofB nr:List Int} {nJ:List bX}
theorem yZ (b:ng a ky bV r gs ofP ofB nr nJ) (h1:eK N a=some (some (a.aI,a.cL,a.aJ,a.bG,ky,aP 0 bV,eU a.aJ (aP 0 bV),gs,ofP,ofB,nr,nJ),0)) {k:Nat} {l:List Int} (hk: (eU a.aJ (aP 0 bV))[k]? =some l):ja N a ((k:Nat):Int)=some (l,0):=by
 have hT:=qT b
 have hlt:=(aU.1 hk).1
 rw [hT.len] at hlt
 have hm:=hT.mb
 have w:fu N ((k:Nat):Int) 0 (IntKind.wrap .i64 (((a.aJ.length:Nat):Int) - 1))=some true:=by
  have e:fu N ((k:Nat):Int) 0 (IntKind.wrap .i64 (((a.aJ.length:Nat):Int) - 1))=some (decide (((k:Nat):Int)>=0)&&decide (((k:Nat):Int)<=IntKind.wrap .i64 (((a.aJ.length:Nat):Int) - 1))):=rfl
  rw [e,fW (by omega) (by omega),bB (show ((k:Nat):Int)>=0 by omega),bB (show ((k:Nat):Int)<=((a.aJ.length - 1:Nat):Int) by omega)];rfl
 unfold ja
 rw [h1,aB]
 simp only [CU,bne_self_eq_false,aM]
 rw [w,aB,jB,aM,dG hk,aB]
theorem DM (b:ng a ky bV r gs ofP ofB nr nJ) (h1:eK N a=some (some (a.aI,a.cL,a.aJ,a.bG,ky,aP 0 bV,eU a.aJ (aP 0 bV),gs,ofP,ofB,nr,nJ),0)) {u v:Nat} (huv:v∈fK (aP 0 bV).length (eU a.aJ (aP 0 bV)) u):
  gU N a (bK (aP 0 bV).length u) (bK (aP 0 bV).length v)=some true:=by
 have hT:=qT b
 unfold gU
 rcases (rF hT).1 huv with hl | hl
 ·obtain⟨g1,g2,g3⟩:=EF hT hl
  obtain⟨k,l,q1,q2,q3⟩:=hl
  have e1:bK (aP 0 bV).length u= ⟨false,((u:Nat):Int)⟩:=by unfold bK;rw [aC g1]
  have e2:bK (aP 0 bV).length v= ⟨true,((k:Nat):Int)⟩:=by unfold bK;rw [aD (by omega)];congr 1;omega
  have hf:=hT.xB l (dU q1)
  rw [e1,e2]
  show (ja N a ((k:Nat):Int)).bind _=_
  rw [yZ b h1 q1,aB]
  show ((fw N l ((u:Nat):Int)).bind fun x=>some x).bind _=_
  rw [wg (by omega),bB q2];rfl
 ·obtain⟨g1,g2,g3⟩:=EF hT hl
  obtain⟨k,l,q1,q2,q3⟩:=hl
  have e1:bK (aP 0 bV).length v= ⟨false,((v:Nat):Int)⟩:=by unfold bK;rw [aC g1]
  have e2:bK (aP 0 bV).length u= ⟨true,((k:Nat):Int)⟩:=by unfold bK;rw [aD (by omega)];congr 1;omega
  have hf:=hT.xB l (dU q1)
  rw [e1,e2]
  show (ja N a ((k:Nat):Int)).bind _=_
  rw [yZ b h1 q1,aB]
  show ((fw N l ((v:Nat):Int)).bind fun x=>some x).bind _=_
  rw [wg (by omega),bB q2];rfl
theorem y4 {a:iM} {p q:fL} (ha:bk a<=1048576) (_hp:bk p<=1048576) (_hq:bk q<=1048576) (hN:4398046511104<=N):gO N a p q=some true:=by
 have hs:=CB ha
 have aw:eB N=some true:=HV (by omega)
 unfold gO
 rcases FC hs p q hN with ⟨e,he,h,h2⟩ | ⟨b,ho,ep,hx,eq,hy,hn,h,h2⟩ | ⟨b,ho,ep,hx,eq,hy,hh,hh',hr,hF,hd,hdl,h1,h2⟩
 ·rw [h,aB,aw]
  simp only [show (e != 0)=true by simpa using he,aO]
  rfl
 ·rename_i ky bV r gs ofP ofB nr nJ i k x y
  rw [h,aB,h2,aw]
  simp only [bne_self_eq_false,aM]
  rw [rG b ho ep hx hN,rG b ho eq hy hN,aB,aB]
  have hne: ∀g g',vR a.aJ (aP 0 bV) r x=some g->vR a.aJ (aP 0 bV) r y=some g'->g≠g':=fun g g' z1 z2 e=>by
   subst e
   cases q1:mG a.aJ (aP 0 bV) x with
   | none=>unfold vR at z1;rw [q1] at z1;cases z1
   | some h1=>
    cases q2:mG a.aJ (aP 0 bV) y with
    | none=>unfold vR at z2;rw [q2] at z2;cases z2
    | some h2=>exact hn h1 h2 q1 q2 ((EI b q1 q2).1 (by rw [z1,z2]))
  have hit: ∀{s0:List bX×Int} {R:Type},True:=fun{_ _}=>trivial
  cases hgx:vR a.aJ (aP 0 bV) r x with
  | none=>
   cases hgy:vR a.aJ (aP 0 bV) r y <;> (obtain⟨M,rfl⟩: ∃M,N=M+1:=⟨N - 1,by omega⟩) <;> rfl
  | some g=>
   cases hgy:vR a.aJ (aP 0 bV) r y with
   | none=>obtain⟨M,rfl⟩: ∃M,N=M+1:=⟨N - 1,by omega⟩;rfl
   | some g'=>
    have:=hne g g' hgx hgy
    have e: (((g:Nat):Int)==((g':Nat):Int))=false:=by rw [beq_eq_false_iff_ne];omega
    dsimp only
    rw [e]
    obtain⟨M,rfl⟩: ∃M,N=M+1:=⟨N - 1,by omega⟩;rfl
 ·rename_i ky bV r gs ofP ofB nr nJ i k x y g g' F d
  have hT:=qT b
  have hnb:=hT.nb
  have hmb:=hT.mb
  have hAs: ∀u v,(fun u v=>v∈fK (aP 0 bV).length (eU a.aJ (aP 0 bV)) u) u v->u∈fK (aP 0 bV).length (eU a.aJ (aP 0 bV)) v:=fun u v huv=>yX hT huv
  have hlen:=qS (adj:=fK (aP 0 bV).length (eU a.aJ (aP 0 bV))) (F:=F) d (fB (aP 0 bV).length g)
  have hnod:=fun i j x hi hj=>DK (i:=i) (j:=j) (x:=x) hF hAs hd hi hj
  have hadj:=fun i x y hx hy=>CQ hF hAs d _ hd i x y hx hy
  have hhead:=Ad (adj:=fK (aP 0 bV).length (eU a.aJ (aP 0 bV))) (F:=F) d (fB (aP 0 bV).length g)
  have hlast:=FB hF hAs hd
  have hgx:vR a.aJ (aP 0 bV) r x=vR a.aJ (aP 0 bV) r y:=(EI b hh hh').2 hr
  obtain⟨gg,hgg⟩: ∃gg,vR a.aJ (aP 0 bV) r x=some gg:=by unfold vR;rw [hh];exact⟨_,rfl⟩
  rw [hgg] at hgx
  have hbu:FH (aP 0 bV).length (eU a.aJ (aP 0 bV)) (fB (aP 0 bV).length g) (fB (aP 0 bV).length g') (fB (aP 0 bV).length g)=true:=by unfold FH;rw [bE];exact .inl rfl
  have hbv:FH (aP 0 bV).length (eU a.aJ (aP 0 bV)) (fB (aP 0 bV).length g) (fB (aP 0 bV).length g') (fB (aP 0 bV).length g')=true:=by unfold FH;rw [bE];exact .inr (.inl rfl)
  rw [h1,aB,h2,aw]
  simp only [bne_self_eq_false,aM]
  rw [rG b ho ep hx hN,rG b ho eq hy hN,hgg,<-hgx,aB,aB]
  generalize fB (aP 0 bV).length g=u at *
  generalize fB (aP 0 bV).length g'=v at *
  generalize oj (fK (aP 0 bV).length (eU a.aJ (aP 0 bV))) F d u=L at *
  generalize FH (aP 0 bV).length (eU a.aJ (aP 0 bV)) u v=B at *
  have hlm: (L.map (bK (aP 0 bV).length)).length=L.length:=cE _
  simp only [bne_self_eq_false,BEq.rfl,Bool.and_self,Bool.or_self,aM,cE]
  rw [bB (show ((L.length:Nat):Int)>0 by omega),bne_self_eq_false,aB,aM]
  refine Ok.get ?_
  refine Ok.bind (Ok.qU (n:=L.length) (fun st=>st.2) (fun j st=>st.1=L.map (bK (aP 0 bV).length)) (Go:=fun st=>st.1=L.map (bK (aP 0 bV).length)) (Rt:=fun _=>False) ?_ ?_ (eN _) rfl rfl (by omega)) ?_
  ·rintro j ⟨l,c⟩ hj e hl
   dsimp only at e hl ⊢
   subst e;subst hl
   have hw:L[j]? =some L[j]:=aL hj
   have hxw: (L.map (bK (aP 0 bV).length))[j]? =some (bK (aP 0 bV).length L[j]):=by rw [dV,hw];rfl
   rw [hlm,mN hj,aO]
   have hnot:bK (aP 0 bV).length L[j]∉(L.map (bK (aP 0 bV).length)).take j:=fun hm=>by
    obtain⟨q,hq⟩:=dF hm
    have hql:=(aU.1 hq).1
    rw [cF] at hql
    rw [List.getElem?_take_of_lt (by omega),dV,aL (show q<L.length by omega),Option.map_some] at hq
    injection hq with hq
    have:=nK hq
    have hqw:L[q]? =some L[j]:=by rw [<-this];exact aL _
    have:=hnod q j _ hqw hw
    omega
   refine Ok.eq (x:=false) ?_ ?_
   ·rw [oW _ j (by rw [hlm];omega),aB,dG hxw,aB,we (by rw [cF,hlm];omega),aB,bF hnot,aM]
    by_cases h0:0<j
    ·have hp:j - 1<L.length:=by omega
     have hwp:L[j - 1]? =some L[j - 1]:=aL hp
     have hxp: (L.map (bK (aP 0 bV).length))[j - 1]? =some (bK (aP 0 bV).length L[j - 1]):=by rw [dV,hwp];rfl
     have ha:=hadj (j - 1) _ _ hwp (by rw [show j - 1+1=j by omega];exact hw)
     rw [bB (show ((j:Nat):Int)>0 by omega),aO,fW h0 (by omega),dG hxp,aB,aB,DM b ho ha];rfl
    ·rw [bF (show ¬((j:Nat):Int)>0 by omega)];rfl
   ·rw [aM]
    exact Ok.nx ⟨bQ (by omega),rfl⟩
  ·rintro⟨l,c⟩ e hl
   dsimp only at e hl ⊢
   subst e;subst hl
   rw [hlm,pz,aM]
   exact Ok.br rfl
  intro o ho'
  refine Ok.cs ho' ?_ (fun r hr=>hr.elim)
  rintro⟨l,c⟩ hl
  dsimp only at hl ⊢
  subst hl
  rw [aB,jB,aM]
  have hfl: (L.filter B).length<=L.length:=kB _ _
  have hfm: ((L.filter B).map (bK (aP 0 bV).length)).length= (L.filter B).length:=cE _
  have hf0:=wc hhead hbu
  have hfz:=CT (p:=B) (l:=L) (by rw [hlen];exact hlast) hbv
  have hf0l:=(aU.1 hf0).1
  refine Ok.bind (Ok.qU (n:=(L.filter B).length) (fun st=>st) (fun _ _=>True) (Go:=fun _=>True) (Rt:=fun _=>False) ?_ ?_ (eN _) rfl trivial (by omega)) ?_
  ·rintro j i hj e _
   subst e
   have hw: (L.filter B)[j]? =some (L.filter B)[j]:=aL hj
   have hxw: ((L.filter B).map (bK (aP 0 bV).length))[j]? =some (bK (aP 0 bV).length (L.filter B)[j]):=by rw [dV,hw];rfl
   have hin:bK (aP 0 bV).length (L.filter B)[j]∈L.map (bK (aP 0 bV).length):=cP.2 ⟨_,(iN.1 (cJ hj)).1,rfl⟩
   rw [hfm,mN hj,aO]
   refine Ok.ix hxw (Ok.eq (we (by rw [hlm];omega)) ?_)
   rw [bB hin,jB,aM]
   exact Ok.nx ⟨bQ (by omega),trivial⟩
  ·rintro i e _
   subst e
   rw [hfm,pz,aM]
   exact Ok.br trivial
  intro o ho'
  refine Ok.cs ho' (fun _ _=>?_) (fun r hr=>hr.elim)
  have g0: ((L.filter B).map (bK (aP 0 bV).length))[0]? =some (bK (aP 0 bV).length u):=by rw [dV,hf0];rfl
  have k0: (L.map (bK (aP 0 bV).length))[0]? =some (bK (aP 0 bV).length u):=by rw [dV,hhead];rfl
  have gz: ((L.filter B).map (bK (aP 0 bV).length))[(L.filter B).length - 1]? =some (bK (aP 0 bV).length v):=by rw [dV,hfz];rfl
  have kz: (L.map (bK (aP 0 bV).length))[L.length - 1]? =some (bK (aP 0 bV).length v):=by rw [dV,hlen,xD,hlast];rfl
  have i0:idx ((L.filter B).map (bK (aP 0 bV).length)) 0=some (bK (aP 0 bV).length u):=dG g0
  have j0:idx (L.map (bK (aP 0 bV).length)) 0=some (bK (aP 0 bV).length u):=dG k0
  refine Ok.eq (x:=true) ?_ (Ok.ret rfl)
  rw [BEq.rfl,aO,hfm,bB (show (((L.filter B).length:Nat):Int)>0 by omega),aO,i0,aB,j0,aB,bB rfl,aO,fW (by omega) (by omega),dG gz,aB,hlm,fW (by omega) (by omega),dG kz,aB,bB rfl]
  rfl
end
end Go.Gk
